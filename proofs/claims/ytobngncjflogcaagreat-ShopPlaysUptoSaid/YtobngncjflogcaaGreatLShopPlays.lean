/-
  Whatever is done to an archive, crashes and moves at any step, it is to be seen as the document says. Condition: the arguments are together of bulk at most 1048576 (the second form).
-/
import Derived.Test.YtobngncjflogcaaGreatShopPlays1
import Derived.Test.YtobngncjflogcaaGreatShopPlays4
import Derived.JoinedCond
import Derived.Test.YtobngncjflogcaaGreatShopPlays25
set_option linter.unusedVariables false
set_option linter.unusedSimpArgs false
namespace Go.Proofs.YtobngncjflogcaaGreat
open Go.ChangeShapes Go.WideShapes Go.ChangeAt Go.RowKit
open AM
set_option maxRecDepth 100000 in
theorem tA(os:Os)(started:os.Started)(H:Type)(enc:TypeId×Value->H)(F:Stop.Interp):
  ReturnsInHanded {} Tryz.checked os 3 .any ((Rows.OpenSpec.upto Rows.shopPlaysSpec).pre6 enc Tryz.prog Tryz.f3 Rows.shopPlaysUptoRow.domain false) (((Rows.OpenSpec.upto Rows.shopPlaysSpec).at F).post enc Tryz.prog Tryz.f3 false true false false):=by
 refine returnsInHanded_of_cond (C:=Tryz.checked) (s:=Rows.OpenSpec.upto Rows.shopPlaysSpec) (k:=Rows.uptoSmall) rfl Tryz.own started (by kernel_rfl) Tryz.func3
  (OpenSpec.witness (enc:=enc) (C:=Tryz.checked) (s:=Rows.OpenSpec.upto Rows.shopPlaysSpec) (k:=Rows.uptoSmall) rfl false ⟨#[],#[.slice none 0 0,.slice none 0 0],[]⟩ 8 (by kernel_rfl) (by kernel_rfl) (by kernel_rfl)
   (x:=([.nil,.nil],[],[])) (by kernel_rfl) rfl (by kernel_rfl)) ?_
 intro W base args r gs before b f _ hk _;have a:∀(j:Nat) t v,Tryz.f3.params[j]? =some t->args[j]? =some v->Value.okWide Tryz.prog W .any base t v:=b;have hlt:∀x∈before,x.block<W.heap.size:=λx hx=>f.lt x hx;have g:DataW.Whole enc Tryz.prog Tryz.f3.params.toList Rows.shopPlaysSpec.vars false W args.toList r gs before:=f;obtain⟨p,q,h,hV,rfl,_,_⟩:=f;have w:DataW.TrodAll enc Tryz.prog W 0 (λ_=>true) true Tryz.f3.params.toList args.toList r p:=h;rw[Tryz.params3] at w a;obtain⟨v0,v1,d0,d1,y,p1,rfl,rfl,rfl,h0,h1⟩:=trodAll_two w;obtain⟨rfl,rfl⟩:=trodVars_none hV;obtain⟨x0,l,c⟩:=zj zm (wV Tryz.underlying22 (a 0 22 v0 rfl rfl)) h0;obtain⟨x1,m,d⟩:=zj Fj (wV Tryz.underlying23 (a 1 23 v1 rfl rfl)) h1;have hb:Rows.uptoBulkAll [d0,d1]<=1048576:=by simpa using bU hk
 simp only[Rows.uptoBulkAll] at hb;have n:=Dk Tryz.underlying22 h0 c;rw[aF] at n;have o:=Dk Tryz.underlying23 h1 d;rw[aF] at o;refine(Fg (tz x0 x1 l m qW qW) (us:= #[v0,v1]) rfl (λi v u hv hu=>?_)).mono λe z⟨he,hb⟩=>?_
 ·match i with
  |0=>simp at hv hu;subst hv hu;exact c
  |1=>simp at hv hu;subst hv hu;exact d
  |i+2=>simp at hv
 ·subst he;exact⟨_,rfl,GP rfl (by kernel_rfl) (by rw[Tryz.params3];decide) g hlt rfl hb⟩
theorem shopPlays_holds:Rows.ShopPlaysUptoSaid:=
 OpenClaim.holds_of_cond 3 Tryz.f3 rfl rfl rfl rfl rfl rfl rfl ⟨rfl,rfl,rfl,rfl,rfl⟩ rfl rfl rfl rfl rfl (by kernel_rfl) Tryz.func3 (by kernel_rfl)
  (bU (by kernel_rfl)) (by unfold Func.isWrapper;first|(rw[ae (by decide+kernel)];kernel_rfl)|(rw[aa (by decide+kernel)];exact⟨rfl,rfl⟩))
  (λos started H enc _ F=>tA os started H enc F)
end Go.Proofs.YtobngncjflogcaaGreat
