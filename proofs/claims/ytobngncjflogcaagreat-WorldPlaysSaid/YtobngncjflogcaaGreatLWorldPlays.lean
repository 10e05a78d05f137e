/-
  Part 23 of what the law WorldPlays reaches: the plain machine, contracts of the functions and plain laws; each lemma says its own condition.
-/
import Derived.Test.YtobngncjflogcaaGreatWorldPlays1
import Derived.Test.YtobngncjflogcaaGreatWorldPlays4
import Derived.Test.YtobngncjflogcaaGreatWorldPlays22
set_option linter.unusedVariables false
set_option linter.unusedSimpArgs false
namespace Go.Proofs.YtobngncjflogcaaGreat
open Go.ChangeShapes Go.WideShapes Go.ChangeAt Go.RowKit
open AM
set_option maxRecDepth 100000 in
theorem sR(os:Os)(started:os.Started)(H:Type)(enc:TypeId×Value->H):
  ReturnsInHanded {} Tryz.checked os 4 .any (Rows.worldPlaysSpec.pre6 enc Tryz.prog Tryz.f4 Rows.worldPlaysRow.domain false) (Rows.worldPlaysSpec.post enc Tryz.prog Tryz.f4 false true false false):=by
 refine returnsInHanded_of_change_sized (C:=Tryz.checked) Tryz.own started (by kernel_rfl) Tryz.func4
  (ChangeSpec.witness6 (enc:=enc) (C:=Tryz.checked) false ⟨#[],#[.int .i64 0,.slice none 0 0,.slice none 0 0],[]⟩ 8 (by kernel_rfl) (by kernel_rfl) (by kernel_rfl) (by kernel_rfl)) ?_
 intro W base args o gs before b c _ _ _;have a:∀(j:Nat) t v,Tryz.f4.params[j]? =some t->args[j]? =some v->Value.okWide Tryz.prog W .any base t v:=b;have hlt:∀x∈before,x.block<W.heap.size:=λx hx=>c.lt x hx;have d:DataW.Whole enc Tryz.prog Tryz.f4.params.toList Rows.worldPlaysSpec.vars false W args.toList o gs before:=c;obtain⟨p,q,f,r,rfl,_,_⟩:=c;have hA:DataW.TrodAll enc Tryz.prog W 0 (λ_=>true) true Tryz.f4.params.toList args.toList o p:=f;rw[Tryz.params4] at hA a;obtain⟨v0,v1,v2,d0,d1,d2,s,p1,p2,rfl,rfl,rfl,h0,h1,h2⟩:=trodAll_three hA;obtain⟨rfl,rfl⟩:=trodVars_none r;obtain⟨x0,g,h⟩:=vj (w9 Tryz.underlying3) (LZ Tryz.underlying3 (a 0 3 v0 rfl rfl)) h0;obtain⟨x1,k,l⟩:=vj zf (xa Tryz.underlying22 (a 1 22 v1 rfl rfl)) h1;obtain⟨x2,m,n⟩:=vj Ex (xa Tryz.underlying23 (a 2 23 v2 rfl rfl)) h2;refine(Et (sQ x0 x1 x2 g k m) (us:= #[v0,v1,v2]) rfl (λi v u hv hu=>?_)).mono λe w⟨he,hb⟩=>?_
 ·match i with
  |0=>simp at hv hu;subst hv hu;exact h
  |1=>simp at hv hu;subst hv hu;exact l
  |2=>simp at hv hu;subst hv hu;exact n
  |i+3=>simp at hv
 ·subst he;exact⟨_,rfl,F3 rfl (by kernel_rfl) (by rw[Tryz.params4];decide) d hlt rfl hb⟩
theorem worldPlays_holds:Rows.WorldPlaysSaid:=
 OpenClaim.holds_of_wide 4 Tryz.f4 rfl rfl rfl rfl rfl rfl rfl ⟨rfl,rfl,rfl,rfl,rfl⟩ rfl rfl rfl rfl rfl (by kernel_rfl) Tryz.func4 (by kernel_rfl)
  (cB (by kernel_rfl)) (by unfold Func.isWrapper;first|(rw[ae (by decide+kernel)];kernel_rfl)|(rw[aa (by decide+kernel)];exact⟨rfl,rfl⟩))
  (λos started H enc _=>sR os started H enc)
end Go.Proofs.YtobngncjflogcaaGreat
