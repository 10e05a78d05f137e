/-
  Part 7 of what the law WorldPlays reaches: the plain machine, contracts of the functions and plain laws; each lemma says its own condition.
-/
import Derived.Shelf.Strings.Builder1
import Derived.Test.YtobngncjflogcaaGreatProg
import Derived.WalkKit
import Derived.WalkSpells
import Derived.WalkLawsBesides
import Derived.Lib.AppendStr
import Derived.Test.YtobngncjflogcaaGreatWorldPlays6
import Derived.Test.YtobngncjflogcaaGreatWorldPlays5
import Derived.BigQuiet
import Derived.Lib.Hide
set_option linter.unusedVariables false
set_option linter.unusedSimpArgs false
namespace Go.Proofs
open Go.Shelf Go.RowKit Go.Lib
def Tryz.tJ:Go.Shelf.Ren:=⟨λ|169=>117|n=>n,λ|70=>171|9=>9|0=>0|72=>173|37=>164|127=>208|3=>3|5=>5|n=>n,λ|n=>n⟩
theorem Tryz.Mm:Go.Proofs.Lays.n169 Tryz.prog Tryz.tJ:= {
 mixed:=by kernel_rfl
 f169:=Tryz.func117.trans (aR some (by kernel_rfl))
 t0:=Tryz.underlying0
 a0:=Tryz.isAgg0
 z0:=Tryz.sizeOf0
 v0:=Tryz.zeroValue0
 t3:=Tryz.underlying3
 a3:=Tryz.isAgg3
 z3:=Tryz.sizeOf3
 v3:=Tryz.zeroValue3
 t9:=Tryz.underlying9
 a9:=Tryz.isAgg9
 z9:=Tryz.sizeOf9
 v9:=Tryz.zeroValue9
 t37:=Tryz.underlying164
 a37:=Tryz.isAgg164
 z37:=Tryz.sizeOf164
 v37:=Tryz.zeroValue164
 t70:=Tryz.underlying171
 a70:=Tryz.isAgg171
 z70:=Tryz.sizeOf171
 v70:=Tryz.zeroValue171
 t72:=Tryz.underlying173
 a72:=Tryz.isAgg173
 z72:=Tryz.sizeOf173
 v72:=Tryz.zeroValue173
 t127:=Tryz.underlying208
 a127:=Tryz.isAgg208
 z127:=Tryz.sizeOf208
 v127:=Tryz.zeroValue208}
theorem Tryz.rG:Builder.Extra Tryz.prog Tryz.tJ:= {
 sizeBuilder:=by kernel_rfl
 liesBuilder:=by kernel_rfl
 t5:=Tryz.underlying5
 a5:=Tryz.isAgg5
 z5:=Tryz.sizeOf5
 v5:=Tryz.zeroValue5
 infoByte:=by kernel_rfl
 cellsByte:=by kernel_rfl
 sizeByte:=by kernel_rfl
 neB5:=by decide}
theorem Tryz.Builder_String_any(B b:Nat)(l:BS)(w:World)(h:Lib.IsBuilder 173 5 B b (Lib.byteCells l) w)(a:B<=w.heap.size):
  Calls Tryz.prog 117 #[.pointer (some ⟨b,0,none⟩)] w λe w'=>e=.returned (.string ⟨l.toArray⟩)/\Below B w w':=Any.Builder_String_any Tryz.Mm Tryz.rG B b l w h a
end Go.Proofs
namespace Go.Proofs.YtobngncjflogcaaGreat.Sl
open Go Go.RowKit
def T:TypeId:=173
def E:TypeId:=5
set_option maxRecDepth 100000 in
set_option maxHeartbeats 4000000 in
theorem BM(b:Nat)(w:World)(h0:w.cell? ⟨b,0,none⟩=some (.pointer (some ⟨b,0,none⟩))):
  Calls Tryz.prog 146 #[.pointer (some ⟨b,0,none⟩)] w λe w'=>e=.returned (.tuple #[])/\w'=w:=by
 obtain⟨j,hj⟩:∃j,Tryz.prog.info? 173=some j:=bF.1 (by kernel_rfl)
 go_enter Tryz.func146,Tryz.ntmps146
 go_wp2
 rw[Lib.run_neq_ptr_same w _ Tryz.underlying171 hj]
 go_wp2
 go_end0
 exact⟨rfl,rfl⟩
set_option maxRecDepth 100000 in
set_option maxHeartbeats 4000000 in
theorem zy(b:Nat)(w:World)(h0:w.cell? ⟨b,0,none⟩=some (.pointer none))(Ww:w.shape? b=some (173,2))(Y5:w.frozen? ⟨b,0,none⟩=false):
  Calls Tryz.prog 146 #[.pointer (some ⟨b,0,none⟩)] w λe w'=>e=.returned (.tuple #[])/\w'=w.setCell ⟨b,0,none⟩ (.pointer (some ⟨b,0,none⟩)):=by
 obtain⟨j,hj⟩:∃j,Tryz.prog.info? 173=some j:=bF.1 (by kernel_rfl);have XL:j.size=2:=by
  have h:(Tryz.prog.info? 173).map (·.size)=some 2:=by kernel_rfl
  rw[hj] at h;exact cL h
 go_enter Tryz.func146,Tryz.ntmps146
 go_wp2
 rw[Lib.run_to_unsafe w ⟨b,0,none⟩ Tryz.underlying171 Tryz.underlying221 hj (by rw[XL];decide) Ww (aj 1)];simp only[Result.andThen];rw[Oper.upon_value]
 go_wp2
 rw[run_callFunc_extern Tryz.func159 (by kernel_rfl) (by kernel_rfl) (by kernel_rfl) (e:=Extern.AbiNoEscape.same) (by kernel_rfl)];rw[Lib.run_noEscape];simp only[Result.andThen];rw[Oper.upon_value]
 go_wp2
 rw[Lib.run_from_unsafe w ⟨b,0,none⟩ Tryz.underlying221 Tryz.underlying171 hj Ww (by kernel_rfl)];simp only[Result.andThen];rw[Oper.upon_value]
 go_wp2
 go_end0
 exact⟨rfl,rfl⟩
def rH(b:Nat)(w w':World):Prop:=∀(k:Nat)(cs:Array Value)(ty:TypeId)(fr:Nat×Nat),k≠b->ty≠E->w.heap[k]? =some (.cells cs ty fr)->w'.heap[k]? =some (.cells cs ty fr)
theorem rH.refl(b:Nat)(w:World):rH b w w:=λ_ _ _ _ _ _ h=>h
theorem rH.trans{b:Nat}{w w1 w2:World}(h:rH b w w1)(h':rH b w1 w2):rH b w w2:=λk cs ty fr h1 h2 h3=>h' k cs ty fr h1 h2 (h k cs ty fr h1 h2 h3)
theorem rH.set(b j:Nat)(v:Value)(w:World):rH b w (w.setCell ⟨b,j,none⟩ v):=λk cs ty fr h1 h2 h3=>by
 rw[<-h3];simp[World.setCell,dH,Ne.symm h1]
theorem check(B b:Nat)(bs:List Value)(w:World)(h:Lib.IsBuilder T E B b bs w):
  Calls Tryz.prog 146 #[.pointer (some ⟨b,0,none⟩)] w λe w'=>e=.returned (.tuple #[])/\(Lib.BuilderAt T E B b (.pointer (some ⟨b,0,none⟩)) bs w'/\Below B w w'/\rH b w w'):=by
 rcases h with h|h
 ·refine(zy b w h.cell0 h.shape h.frozen0).mono ?_;rintro e w' ⟨rfl,rfl⟩;exact⟨rfl,h.used _,(Below.refl B w).setCell (p:=⟨b,0,none⟩) h.1 _,rH.set _ _ _ _⟩
 ·refine(BM b w h.cell0).mono ?_;rintro e w' ⟨rfl,rfl⟩;exact⟨rfl,h,Below.refl B _,rH.refl _ _⟩
set_option maxRecDepth 100000 in
set_option maxHeartbeats 4000000 in
theorem writeString(B b:Nat)(bs:List Value)(s:ByteArray)(w:World)(h:Lib.IsBuilder T E B b bs w)(hlen:bs.length+s.size<=140737488355328)(Y6:B<=w.heap.size):
  Calls Tryz.prog 116 #[.pointer (some ⟨b,0,none⟩),.string s] w λe w'=>e=.returned (.tuple #[.int .i64 s.size,.nilIface])/\(Lib.BuilderAt T E B b (.pointer (some ⟨b,0,none⟩)) (bs++Lib.strCells s) w'/\Below B w w'/\rH b w w'):=by
 obtain⟨i0,hi,hz0,hz1,hz2⟩:=info_parts (show(Tryz.prog.info? 5).map (λi=>(i.zero,i.size,i.bytes))=some (some (.int .u8 0),1,1) by kernel_rfl);have XM:=check B b bs w h;unfold T E at*
 go_enter Tryz.func116,Tryz.ntmps116
 go_wp2_with fail
 refine XM.mono ?_;rintro e w1 ⟨rfl,h1,hb1,Vv⟩;obtain⟨hB,v,UR,hown,hne⟩:=h1;have c0:w1.cell? ⟨b,0,none⟩=some (.pointer (some ⟨b,0,none⟩)):=by rw[Lib.cell_of_heap UR];rfl
 have c1:w1.cell? ⟨b,1,none⟩=some v:=by rw[Lib.cell_of_heap UR];rfl
 go_wp2_with (at_builtin;refine Lib.wpList_append_own_string _ rfl _ _ 164 9 rfl B 5 i0 Tryz.underlying164 Tryz.underlying9 hi hz0 hz1 hz2 _ _ _ rfl hown s rfl ?c3 ?c4 ?c5 ?_)
 case c3=>unfold maxLen;omega
 case c4=>omega
 case c5=>have:=hb1.size;omega
 intro v' w2 hown' hgrow _;have hlt:b<w1.heap.size:=by
  rcases dT b w1.heap.size with h'|h'
  ·exact h'
  ·simp[cK h'] at UR
 have hb2:w2.heap[b]? =some (.cells #[.pointer (some ⟨b,0,none⟩),v] 173 (0,0)):=by
  rw[hgrow.block b hlt (λe=>hne e.symm)];exact UR
 have d0:w2.cell? ⟨b,0,none⟩=some (.pointer (some ⟨b,0,none⟩)):=by rw[Lib.cell_of_heap hb2];rfl
 have d1:w2.cell? ⟨b,1,none⟩=some v:=by rw[Lib.cell_of_heap hb2];rfl
 have f1:w2.frozen? ⟨b,1,none⟩=false:=Lib.frozen_of_heap hb2 1;have Vw:rH b w1 w2:=λk cs ty fr h1 h2 h3=>by
  rw[hgrow.block k (aD.1 h3).1 (λe=>Lib.ownBlock_ne hown h3 h2 e.symm)];exact h3
 obtain⟨ao,n',cap,rfl⟩:∃ao n' cap,v'=.slice ao n' cap:=by
  rcases hown'.2 with⟨hv,_⟩|⟨g,cap,cur,hv,_⟩
  ·exact⟨_,_,_,hv⟩
  ·exact⟨_,_,_,hv⟩
 go_wp2
 go_ret2
 refine⟨rfl,?_,?_,(Vv.trans Vw).trans (rH.set _ _ _ _)⟩
 ·exact Lib.BuilderAt.put (T:=173) (e:=5) hB hb2 (bs':=bs++Lib.strCells s) (by simpa[Lib.strCells_length] using hown') qD
 ·exact(hb1.grown hgrow (by have:=hb1.size;omega) (λk hk=>(hown.lt k hk).1)).setCell (p:=⟨b,1,none⟩) hB _
end Go.Proofs.YtobngncjflogcaaGreat.Sl
namespace Go.Proofs.YtobngncjflogcaaGreat.AM
open Go
set_option maxRecDepth 100000
set_option maxHeartbeats 2000000
def gO(d:List Part)(n:Int):Int:=if cF d≠0 then cF d else if n≠jy d then 4 else 0
def CS:AC:=qr [qz 4 0] (qr [qm 9 0,qa 10 87 [.t 9],qm 8 10,qx 11 0 8,qx 12 1 8,qx 13 2 8,qm 5 11,qm 6 12,qm 7 13] (qq (qr [qm 14 7,qc 15 .neq 14 0] (qu 15 (qr [qm 16 7,qm 4 16] .ret) .skip)) (qq (qr [qm 17 1,qm 18 5,qb 19 .neq 17 18] (qu 19 (qr [qz 4 4] .ret) .skip)) (qr [qz 4 0] .ret))))
theorem Mn:fo Tryz.prog 56 Tryz.f56 CS [.t 4] 2 eV:=⟨Tryz.func56,by decide+kernel,by kernel_rfl,by kernel_rfl,by decide+kernel⟩
theorem Mo(P:Prim)(hP:P=ca)(T b:cp)(rows:List (List V))(n i o c:Int)(hc1:fZ T 87 [.sl true 3 rows] (.tup [qI i,qI o,qI c]))(r:Int)(hr:(if c≠0 then c else if n≠i then 4 else 0)=r)
  (R:S->Prop)(a:∀s s' q,q=r->a7 s s'->hX [.t 4] [qI q] s'->R s):fX P T b CS (S0 [.sl true 3 rows,qI n] Hp.emp) R (λ_ _=>False) R:=by
 cbv
 repeat'(first|(intro β;cbv)|(refine And.intro (by assumption) ?_;cbv)|(refine ab (λh=>?_) (λh=>?_)<;>try cbv)|(refine Exists.intro _ (And.intro (by assumption) ?_);cbv)|(refine hc1 _ _ ?_;cbv)|(refine d _ _ ?_;cbv)|(refine e _ _ ?_;cbv)|(refine f _ _ ?_;cbv)|(refine g _ _ ?_;cbv)|(refine j _ _ ?_;cbv)|(refine And.intro (by(clear a;subst hP;simp[ca,iU,nc] at* <;>first|omega|grind)) ?_;cbv))
 all_goals
  refine a _ _ _ ?_ (a7.refl _) rfl;clear a hc1;subst hP;simp[ca] at*;grind
theorem xU(d:List Part)(hd:d.length<=maxLen)(n:Int):Spec Tryz.prog 56 [.sl true 3 (d.map a6),.int .i64 n] Hp.emp (Is (.int .i64 (gO d n))):=
 eW gY Mn [.int .i64 (gO d n)] (.int _ _) λR a=>Mo ca rfl _ _ _ n _ _ _ (fU (oM d hd) (λh=>.cons (.same _) .nil) rfl) (gO d n) (by unfold lO gO;by_cases h:cF d=0<;>simp[h]) R λs s' q h he hr=>by subst h;exact a s s' he hr
def zz:AC:=qr [qz 4 0] (qq (qr [qm 6 0,qa 7 89 [.t 6],qm 5 7] (qr [qm 8 5,qc 9 .neq 8 0] (qu 9 (qr [qm 10 5,qm 4 10] .ret) .skip))) (qq (qr [qm 11 0,qa 12 90 [.t 11],qm 13 1,qb 14 .neq 12 13] (qu 14 (qr [qz 4 4] .ret) .skip)) (qr [qz 4 0] .ret)))
theorem Hg:fo Tryz.prog 60 Tryz.f60 zz [.t 4] 2 eV:=⟨Tryz.func60,by decide+kernel,by kernel_rfl,by kernel_rfl,by decide+kernel⟩
theorem Hh(P:Prim)(hP:P=ca)(T b:cp)(rows:List (List V))(n i c:Int)(hc1:fZ T 89 [.sl true 3 rows] (qI c))(hi:c=0->fZ T 90 [.sl true 3 rows] (qI i))(r:Int)(hr:(if c≠0 then c else if n≠i then 4 else 0)=r)
  (R:S->Prop)(a:∀s s' q,q=r->a7 s s'->hX [.t 4] [qI q] s'->R s):fX P T b zz (S0 [.sl true 3 rows,qI n] Hp.emp) R (λ_ _=>False) R:=by
 cbv;refine hc1 _ _ ?_;clear hc1;cbv;refine ab (λh=>?_) (λh=>?_)
 ·cbv;refine a _ _ _ ?_ (a7.refl _) rfl;clear a hi;subst hP;simp[ca] at*;grind
 ·have hc1:=hi (fD hP h);clear hi;cbv
  repeat'(first|(intro β;cbv)|(refine And.intro (by assumption) ?_;cbv)|(refine ab (λh=>?_) (λh=>?_)<;>try cbv)|(refine Exists.intro _ (And.intro (by assumption) ?_);cbv)|(refine hc1 _ _ ?_;cbv)|(refine d _ _ ?_;cbv)|(refine e _ _ ?_;cbv)|(refine f _ _ ?_;cbv)|(refine g _ _ ?_;cbv)|(refine j _ _ ?_;cbv)|(refine And.intro (by(clear a;subst hP;simp[ca,iU,nc] at* <;>first|omega|grind)) ?_;cbv))
  all_goals
   refine a _ _ _ ?_ (a7.refl _) rfl;clear a hc1;subst hP;simp[ca] at*;grind
theorem vw(d:List Part)(hd:d.length<=maxLen)(n:Int):Spec Tryz.prog 60 [.sl true 3 (d.map a6),.int .i64 n] Hp.emp (Is (.int .i64 (gO d n))):=
 eW gY Hg [.int .i64 (gO d n)] (.int _ _) λR a=>Hh ca rfl _ _ _ n _ _ (fU (gU d hd) (λh=>.cons (.same _) .nil) rfl) (λh=>fU (lI d (l7 h).1 (qv 0 d (l7 h).2.1)) (λh=>.cons (.same _) .nil) rfl) (gO d n) (by unfold gO;rfl) R λs s' q h he hr=>by subst h;exact a s s' he hr
theorem lz{d:List Part}{n:Int}(h:gO d n=0):cF d=0/\n=jy d:=by
 unfold gO at h
 by_cases hc:cF d=0
 ·rw[aa (λh=>h hc)] at h;exact⟨hc,by by_cases hn:n=jy d;exact hn;rw[ae hn] at h;omega⟩
 ·rw[ae hc] at h;contradiction
end Go.Proofs.YtobngncjflogcaaGreat.AM
namespace Go.Proofs.YtobngncjflogcaaGreat.Sl
open Go Go.RowKit AM
theorem EH{w w':World}{base n B:Nat}{e:TypeId}{size:Nat}{v:Value}{xs:List Value}(h:w.ownsRow base e size v n xs)(hb:Below B w w')(hB:w.heap.size<=B):w'.ownsRow base e size v n xs:=by
 refine⟨h.1,?_⟩
 rcases h.2 with hn|⟨g,cap,cur,rfl,a,hh,rest⟩
 ·exact .inl hn
 ·exact .inr ⟨g,cap,cur,rfl,a,(hb.block g (bE (aD.1 hh).1 hB)).trans hh,rest⟩
theorem CT{B b:Nat}{p:Value}{bs:List Value}{w w':World}(h:Lib.BuilderAt T E B b p bs w)(hb:Below w.heap.size w w'):Lib.BuilderAt T E B b p bs w':=by
 have hlt:=h.lt;obtain⟨hB,v,a,hown,hne⟩:=h;exact⟨hB,v,(hb.block b hlt).trans a,EH hown hb (ag _),hne⟩
theorem xV{B b:Nat}{bs:List Value}{w w':World}(h:Lib.IsBuilder T E B b bs w)(hb:Below w.heap.size w w'):Lib.IsBuilder T E B b bs w':=
 h.elim (λh=>.inl (CT h hb)) λh=>.inr (CT h hb)
theorem is_lt{B b:Nat}{bs:List Value}{w:World}(h:Lib.IsBuilder T E B b bs w):b<w.heap.size:=h.elim (·.lt) (·.lt)
theorem Hi(n:Nat)(ts:List fP)(s:BS):kg (List.replicate n .keep++ts) s=s.take n++kg ts (s.drop n):=by
 induction n generalizing s with
 |zero=>simp
 |succ n ih=>
  simp only[aB,ay,kg,ih,cU];rw[<-aP,show n+1=1+n by omega,List.take_add]
theorem Mp(n:Nat)(ts:List fP)(s:BS):kg (List.replicate n .cut++ts) s=kg ts (s.drop n):=by
 induction n generalizing s with
 |zero=>simp
 |succ n ih=>simp only[aB,ay,kg,ih,cU];rw[show n+1=1+n by omega]
theorem Mq(t:BS)(ts:List fP)(s:BS):kg (t.map .put++ts) s=t++kg ts s:=by
 induction t with
 |nil=>simp
 |cons b t ih=>simp[kg,ih]
theorem xc(a:BS)(x:ByteArray):Lib.byteCells a++Lib.strCells x=Lib.byteCells (a++x.data.toList):=by simp[Lib.byteCells,Lib.strCells]
theorem xW(x:ByteArray)(a b:Nat):(x.extract a b).data.toList=(x.data.toList.take b).drop a:=by
 rw[du,Array.toList_extract,List.extract_eq_take_drop,dw]
theorem uo(x:ByteArray)(a b:Nat):(x.extract a b).size=min b x.size-a:=by
 show(x.extract a b).data.size=_;rw[du,Array.size_extract];rfl
def CU(w:World)(a:Option Addr)(d:List Part):Prop:=∀(i:Nat)(p:Part),d[i]? =some p->∃b off,a=some ⟨b,off,none⟩/\b<w.heap.size/\
 w.cell? ⟨b,off+(i*3),none⟩=some (.int .i64 p.kind)/\w.cell? ⟨b,off+(i*3+1),none⟩=some (.int .i64 p.n)/\w.cell? ⟨b,off+(i*3+2),none⟩=some (.string ⟨p.text.toArray⟩)
set_option maxRecDepth 100000 in
set_option maxHeartbeats 4000000 in
theorem Qq(n c:Nat)(s:ByteArray)(oa:Option Addr)(W:World)(f:Int)(hf:f≠0)(CW:Calls Tryz.prog 56 #[.slice oa n c,.int .i64 s.size] W λe w'=>e=.returned (.int .i64 f)/\Below W.heap.size W w'):
  Calls Tryz.prog 79 #[.slice oa n c,.string s] W λe w'=>e=.returned (.tuple #[.string ⟨#[]⟩,.int .i64 f])/\Below W.heap.size W w':=by
 go_enter Tryz.func79,Tryz.ntmps79
 go_wp2_with fail
 refine CW.mono ?_;rintro e w1 ⟨rfl,hb1⟩
 go_wp2_with fail
 go_ret2
 exact⟨rfl,hb1⟩
set_option maxRecDepth 100000 in
set_option maxHeartbeats 4000000 in
theorem SR(d:List Part)(c:Nat)(s:ByteArray)(oa:Option Addr)(W:World)(hd:d.length<=1600)(hat:CU W oa d)(iB:∀p∈d,oq p)(jF:jy d=(s.size:Int))(hs:s.size<=500)(hout:gX d<=500)
  (CW:Calls Tryz.prog 56 #[.slice oa d.length c,.int .i64 s.size] W λe w'=>e=.returned (.int .i64 0)/\Below W.heap.size W w'):
  Calls Tryz.prog 79 #[.slice oa d.length c,.string s] W λe w'=>e=.returned (.tuple #[.string ⟨(kg (cm d) s.data.toList).toArray⟩,.int .i64 0])/\Below W.heap.size W w':=by
 have HD:Hid (kg (cm d) s.data.toList=[]++kg (cm d) s.data.toList):=Lib.hid rfl
 go_enter Tryz.func79,Tryz.ntmps79
 go_wp2_with fail
 refine CW.mono ?_;rintro e w1 ⟨rfl,hb1⟩;clear CW
 go_wp2_with fail
 go_loopw [1,19] (λsv kv wr=>∃(pre rest:List Part)(s':ByteArray)(out:BS),sv=.string s'/\kv=.int .i64 pre.length/\d=pre++rest/\jy rest=s'.size/\s'.size<=500/\(out.length:Int)+gX rest=gX d/\Lib.IsBuilder T E W.heap.size w1.heap.size (Lib.byteCells out) wr/\Below W.heap.size W wr/\Hid (kg (cm d) s.data.toList=out++kg (cm rest) s'.data.toList)) (λ_ kv _=>d.length-(intOf kv).toNat)
 case atStart=>exact⟨[],d,s,[],rfl,rfl,rfl,jF,hs,by show((0:Nat):Int)+_=_;omega,.inl ⟨hb1.size,.slice none 0 0,heap_alloc_new w1 _,World.ownsRow_nil _ _ _ _,by simp[Value.ownBlock]⟩,hb1.alloc hb1.size _,HD⟩
 case round=>
  obtain⟨pre,rest,s',out,rfl,rfl,FQ,zA,hs',tK,hib,hb,HN⟩:=hrel
  rcases rest with _|⟨p,rest⟩
  ·have hpl:pre.length=d.length:=by rw[FQ];simp
   have Vx:=Tryz.Builder_String_any W.heap.size w1.heap.size out wr hib hb.size;rw[hpl];have XN:Hid (kg (cm d) s.data.toList=out):=by show _=_;rw[HN.out];simp[cm,kg]
   clear FQ zA tK HN hat iB jF hout HD hib
   go_wp2_with fail
   refine Vx.mono ?_;rintro e w2 ⟨rfl,hb2⟩
   go_wp2_with fail
   go_ret2
   exact⟨by rw[XN.out];rfl,hb.trans hb2⟩
  ·have hpl:pre.length<d.length:=by rw[FQ];simp
   obtain⟨b,off,rfl,Qr,q0,q1,q2⟩:=hat pre.length p (by rw[FQ];simp);have r0:wr.cell? ⟨b,off+pre.length*3,none⟩=some (.int .i64 p.kind):=by rw[hb.cell (p:=⟨b,_,none⟩) Qr];exact q0
   have r1:wr.cell? ⟨b,off+pre.length*3+1,none⟩=some (.int .i64 p.n):=by rw[hb.cell (p:=⟨b,_,none⟩) Qr];exact q1
   have r2:wr.cell? ⟨b,off+pre.length*3+2,none⟩=some (.string ⟨p.text.toArray⟩):=by rw[hb.cell (p:=⟨b,_,none⟩) Qr];exact q2
   have hp:=gu (iB p (by rw[FQ];simp));have Qs:=iB p (by rw[FQ];simp);clear q0 q1 q2 hat;have OX:=xO rest λq hq=>iB q (by rw[FQ];simp[hq]);have Hj:=rj rest λq hq=>iB q (by rw[FQ];simp[hq]);have Sm:Hid (d=(pre++[p])++rest/\(pre++[p]).length=pre.length+1):=by show _/\_;rw[FQ];simp
   have HR:Hid (0<=jy rest/\0<=gX rest):=⟨OX.1,Hj.1⟩;have HL:Hid (out.length<=500):=by show _<=_;have h:=(rj (p::rest) λq hq=>iB q (by rw[FQ];exact bR _ hq)).1;omega
   clear FQ iB jF hout HD OX Hj;obtain⟨kd,n,t⟩:=p;simp only[] at r0 r1 r2 hp;simp only[jy,gX] at zA tK;have hwr:W.heap.size<=wr.heap.size:=hb.size;have hbl:=is_lt hib
   rcases hp.2.2.2 with⟨rfl,rfl,hne⟩|⟨rfl|rfl,UL,rfl⟩
   ·rw[aa qD] at zA;rw[aa qD,aa qD] at tK;have H1:Hid (jy rest=(s'.size:Int)/\(out.length:Int)+(t.length+gX rest)=gX d/\t.length<=500):=⟨qW,qW,hp.2.2.1⟩;have H2:Hid (kg (cm d) s.data.toList=(out++t)++kg (cm rest) s'.data.toList):=by
     show _=_;rw[HN.out,show cm (⟨2,0,t⟩::rest)=t.map .put++cm rest by simp[cm,gK],Mq];simp
    clear zA tK hp HN Qs
    go_wp2_with fail
    refine(writeString W.heap.size w1.heap.size (Lib.byteCells out) ⟨t.toArray⟩ _ (xV hib (Below.alloc (Below.refl _ _) (ag _) _)) (by rw[Lib.byteCells_length];have:=H1.out.2.2;have:=HL.out;show out.length+t.toArray.size<=_;rw[cQ];omega) (by simp;omega)).mono ?_;rintro e w2 ⟨rfl,Hk,hb2,hk2⟩;have c1:=hb2.size
    go_wp2_with fail
    go_roundw
    case rel=>exact⟨pre++[⟨2,0,t⟩],rest,s',out++t,rfl,by rw[Sm.out.2,dN];rfl,Sm.out.1,H1.out.1,hs',by rw[an];have:=H1.out;omega,.inr (by rw[xc] at Hk;simpa using Hk),(hb.alloc hb.size _).trans hb2,H2⟩
    case measure=>simp[intOf];omega
   ·rw[ae qD] at zA;rw[ae rfl] at tK;have XO:n<=s'.size:=by have:=HR.out;omega
    have SS:0<=n:=by omega
    have e1:(n.toNat:Int)=n:=by omega
    have H1:Hid (jy rest=((s'.extract n.toNat s'.size).size:Int)/\((out++(s'.extract 0 n.toNat).data.toList).length:Int)+gX rest=gX d/\(s'.extract n.toNat s'.size).size<=500/\(s'.extract 0 n.toNat).size<=500):=by
     show _/\_/\_/\_;have h1:((s'.extract 0 n.toNat).data.toList).length=n.toNat:=by rw[bH];show(s'.extract 0 n.toNat).size=_;rw[uo];omega
     rw[an,h1,uo,uo];have:=HR.out;refine⟨qW,qW,qW,qW⟩
    have H2:Hid (kg (cm d) s.data.toList=(out++(s'.extract 0 n.toNat).data.toList)++kg (cm rest) (s'.extract n.toNat s'.size).data.toList):=by
     show _=_;rw[HN.out,xW,xW,show cm (⟨1,n,[]⟩::rest)=List.replicate n.toNat .keep++cm rest by simp[cm,gK],Hi];have:(s'.data.toList.take s'.size)=s'.data.toList:=bD (by rw[bH];exact ag _);rw[this];simp
    clear zA tK hp HN Qs
    go_wp2_with fail
    refine(writeString W.heap.size w1.heap.size (Lib.byteCells out) (s'.extract 0 n.toNat) _ (xV hib (Below.alloc (Below.refl _ _) (ag _) _)) (by rw[Lib.byteCells_length];have:=H1.out;have:=HL.out;omega) (by simp;omega)).mono ?_;rintro e w2 ⟨rfl,Hk,hb2,hk2⟩;have q9:=hk2 wr.heap.size _ _ _ qW qD (heap_alloc_new wr _);have Y7:w2.cell? ⟨wr.heap.size,1,none⟩=some (.int .i64 n):=by rw[Lib.cell_of_heap q9];rfl
    have c1:=hb2.size
    go_wp2_with fail
    go_roundw
    case rel=>exact⟨pre++[⟨1,n,[]⟩],rest,s'.extract n.toNat s'.size,out++(s'.extract 0 n.toNat).data.toList,rfl,by rw[Sm.out.2,dN];rfl,Sm.out.1,H1.out.1,H1.out.2.2.1,H1.out.2.1,.inr (by rw[xc] at Hk;exact Hk),(hb.alloc hb.size _).trans hb2,H2⟩
    case measure=>simp[intOf];omega
   ·rw[ae qD] at zA;rw[aa qD,ae qD] at tK;have XO:n<=s'.size:=by have:=HR.out;omega
    have SS:0<=n:=by omega
    have H1:Hid (jy rest=((s'.extract n.toNat s'.size).size:Int)/\(out.length:Int)+gX rest=gX d/\(s'.extract n.toNat s'.size).size<=500):=by
     show _/\_/\_;rw[uo];have:=HR.out;refine⟨qW,qW,qW⟩
    have H2:Hid (kg (cm d) s.data.toList=out++kg (cm rest) (s'.extract n.toNat s'.size).data.toList):=by
     show _=_;rw[HN.out,xW,show cm (⟨3,n,[]⟩::rest)=List.replicate n.toNat .cut++cm rest by simp[cm,gK],Mp];have:(s'.data.toList.take s'.size)=s'.data.toList:=bD (by rw[bH];exact ag _);rw[this]
    clear zA tK hp HN Qs
    go_wp2_with fail
    go_roundw
    case rel=>exact⟨pre++[⟨3,n,[]⟩],rest,s'.extract n.toNat s'.size,out,rfl,by rw[Sm.out.2,dN];rfl,Sm.out.1,H1.out.1,H1.out.2.2,H1.out.2.1,xV hib (Below.alloc (Below.refl _ _) (ag _) _),hb.alloc hb.size _,H2⟩
    case measure=>simp[intOf];omega
end Go.Proofs.YtobngncjflogcaaGreat.Sl
namespace Go.Proofs.YtobngncjflogcaaGreat.AM
open Go
def jD(l r:List (Nat×Nat)):List (Nat×Nat):=l.flatMap λp=>r.filterMap λq=>if p.2=q.1 then some (p.1,q.2) else none
theorem vz(l:List (Nat×Nat))(p:Nat×Nat)(r:List (Nat×Nat))(h:∀x∈l,p.1+1<=x.2):jD l (p::r)=jD l r:=by
 unfold jD
 induction l with
 |nil=>rfl
 |cons x l ih=>
  have hx:=h x (by simp);rw[dA,dA,ih λy hy=>h y (by simp[hy])];rw[List.filterMap_cons,aa qW]
theorem filter_none(j:Nat)(r:List (Nat×Nat))(i:Nat)(h:∀x∈r,j+1<=x.1):(r.filterMap λq=>if j=q.1 then some (i,q.2) else none)=[]:=by
 rw[List.filterMap_eq_nil_iff];intro x hx;have:=h x hx;rw[aa qW]
theorem iC:∀(f:Nat)(xs a:List fP)(s:BS)(i j k:Nat),xs.length+a.length<=f->fi xs=fH a->s.length=fH xs->
  fH (gq f xs a)=fH xs/\kg (gq f xs a) s=kg a (kg xs s)/\fx (gq f xs a) i k=jD (fx xs i j) (fx a j k)/\fi (gq f xs a)=fi a
 |0,xs,a,s,i,j,k,hf,ho,hs=>by
  have h1:xs=[]:=aq qW;have h2:a=[]:=aq qW;subst h1 h2;exact⟨rfl,rfl,rfl,rfl⟩
 |f+1,.cut::xs,a,s,i,j,k,hf,ho,hs=>by
  simp only[ar] at hf;simp only[fH,dE,ar] at hs;obtain⟨h1,h2,h3,h4⟩:=iC f xs a (s.drop 1) (i+1) j k qW (by simpa[fi] using ho) (by simp[fH];omega);simp only[gq,kg,fx,fi];refine⟨?_,h2,h3,h4⟩;simpa[fH,dE] using h1
 |f+1,[],.put b::a,s,i,j,k,hf,ho,hs=>by
  simp only[ar] at hf;obtain⟨h1,h2,h3,h4⟩:=iC f [] a s i j (k+1) (by simp at hf⊢;omega) (by simpa[fi,fH,dE] using ho) hs;simp only[gq,kg,fx,fi];exact⟨by simpa[fH,dE] using h1,by rw[h2];rfl,h3,qW⟩
 |f+1,.keep::xs,.put b::a,s,i,j,k,hf,ho,hs=>by
  simp only[ar] at hf;obtain⟨h1,h2,h3,h4⟩:=iC f (.keep::xs) a s i j (k+1) (by simp;omega) (by simpa[fi,fH,dE] using ho) hs;rw[gq]
  ·simp only[kg,fx,fi];refine⟨by simpa[fH,dE] using h1,?_,h3,qW⟩;rw[h2];rfl
  ·intro _ h;cases h
 |f+1,.put c::xs,.put b::a,s,i,j,k,hf,ho,hs=>by
  simp only[ar] at hf;obtain⟨h1,h2,h3,h4⟩:=iC f (.put c::xs) a s i j (k+1) (by simp;omega) (by simpa[fi,fH,dE] using ho) hs;rw[gq]
  ·simp only[kg,fx,fi];refine⟨by simpa[fH,dE] using h1,?_,h3,qW⟩;rw[h2];rfl
  ·intro _ h;cases h
 |f+1,.keep::xs,.keep::a,s,i,j,k,hf,ho,hs=>by
  simp only[ar] at hf;simp only[fH,dE,ar] at hs;obtain⟨x,s,rfl⟩:∃x s',s=x::s':=by cases s with|nil=>simp at hs|cons x s=>exact⟨x,s,rfl⟩
  obtain⟨h1,h2,h3,h4⟩:=iC f xs a s (i+1) (j+1) (k+1) qW (by simpa[fi,fH,dE] using ho) (by simpa[fH] using hs);simp only[gq,kg,fx,fi];refine⟨by simpa[fH,dE] using h1,?_,?_,qW⟩
  ·simp only[cZ,eK,c9,cV,cO,ay,bO];rw[h2]
  ·rw[h3];have e:jD ((i,j)::fx xs (i+1) (j+1)) ((j,k)::fx a (j+1) (k+1))=[(i,k)]++jD (fx xs (i+1) (j+1)) ((j,k)::fx a (j+1) (k+1)):=by
    simp only[jD,dA,List.filterMap_cons,↓reduceIte];rw[filter_none j _ i λx hx=>(l8 _ _ _ x hx).1]
   rw[e,vz _ (j,k) _ λx hx=>(l8 _ _ _ x hx).2];rfl
 |f+1,.keep::xs,.cut::a,s,i,j,k,hf,ho,hs=>by
  simp only[ar] at hf;simp only[fH,dE,ar] at hs;obtain⟨x,s,rfl⟩:∃x s',s=x::s':=by cases s with|nil=>simp at hs|cons x s=>exact⟨x,s,rfl⟩
  obtain⟨h1,h2,h3,h4⟩:=iC f xs a s (i+1) (j+1) k qW (by simpa[fi,fH,dE] using ho) (by simpa[fH] using hs);simp only[gq,kg,fx,fi];refine⟨by simpa[fH,dE] using h1,?_,?_,h4⟩
  ·simp only[cZ,eK,c9,cV,cO,ay,bO];rw[h2]
  ·rw[h3];simp only[jD,dA];rw[filter_none j _ i λx hx=>(l8 _ _ _ x hx).1];rfl
 |f+1,.put b::xs,.keep::a,s,i,j,k,hf,ho,hs=>by
  simp only[ar] at hf;obtain⟨h1,h2,h3,h4⟩:=iC f xs a s i (j+1) (k+1) qW (by simpa[fi,fH,dE] using ho) hs;simp only[gq,kg,fx,fi];refine⟨by simpa[fH,dE] using h1,?_,?_,qW⟩
  ·simp only[cZ,eK,c9,cV,cO];rw[h2]
  ·rw[h3,vz _ (j,k) _ λx hx=>(l8 _ _ _ x hx).2]
 |f+1,.put b::xs,.cut::a,s,i,j,k,hf,ho,hs=>by
  simp only[ar] at hf;obtain⟨h1,h2,h3,h4⟩:=iC f xs a s i (j+1) k qW (by simpa[fi,fH,dE] using ho) hs;simp only[gq,kg,fx,fi];refine⟨by simpa[fH,dE] using h1,?_,h3,h4⟩;simp only[c9,cV];rw[h2]
 |f+1,[],[],s,i,j,k,hf,ho,hs=>⟨rfl,rfl,rfl,rfl⟩
 |f+1,[],.keep::a,s,i,j,k,hf,ho,hs=>by simp[fi,fH,dE] at ho
 |f+1,[],.cut::a,s,i,j,k,hf,ho,hs=>by simp[fi,fH,dE] at ho
 |f+1,.keep::xs,[],s,i,j,k,hf,ho,hs=>by simp[fi,fH,dE] at ho
 |f+1,.put b::xs,[],s,i,j,k,hf,ho,hs=>by simp[fi,fH,dE] at ho
def hU(n:Nat)(text:BS):Nat->Nat->List (Nat×Nat)->List fP
 |i0,a,[]=>(text.drop a).map .put++List.replicate (n-i0) .cut
 |i0,a,(i,j)::r=>((text.drop a).take (j-a)).map .put++List.replicate (i-i0) .cut++.keep::hU n text (i+1) (j+1) r
theorem rI(t:BS)(ts:List fP)(p:BS)(c:Nat)(r:List (BS×Nat))(h:gz ts=(p,c)::r):gz (t.map .put++ts)=(t++p,c)::r:=by
 induction t with
 |nil=>simpa using h
 |cons b t ih=>simp only[aL,ay,gz,ih]
theorem lV(n:Nat)(ts:List fP)(p:BS)(c:Nat)(r:List (BS×Nat))(h:gz ts=(p,c)::r):gz (List.replicate n .cut++ts)=(p,c+n)::r:=by
 induction n with
 |zero=>simpa using h
 |succ n ih=>simp only[aB,ay,gz,ih];simp[cg]
theorem EI(n:Nat)(text:BS)(l:List (Nat×Nat))(i0 a:Nat):gz (hU n text i0 a l)=j9 n text i0 a l:=by
 induction l generalizing i0 a with
 |nil=>
  simp only[hU,j9];have:=lV (n-i0) [] [] 0 [] rfl;rw[aJ] at this;have:=rI (text.drop a) _ _ _ _ this;simpa using this
 |cons p l ih=>
  obtain⟨i,j⟩:=p;simp only[hU,j9,aP];have h0:gz (.keep::hU n text (i+1) (j+1) l)=([],0)::j9 n text (i+1) (j+1) l:=by simp only[gz,ih]
  have:=rI ((text.drop a).take (j-a)) _ _ _ _ (lV (i-i0) _ _ _ _ h0);simpa using this
theorem Hl(ts:List fP)(s:BS)(hs:s.length=fH ts):nT ts=nT (hU (fH ts) (kg ts s) 0 0 (fx ts 0 0)):=by
 refine G3 ?_;rw[EI];have:=Me ts s [] 0 hs;simpa using this
def SU:List BS->List Bool->Nat->Int
 |p::ps,k::ks,n+1=>p.length+(if k then 1 else 0)+SU ps ks n
 |_,_,_=>0
def fI:Nat->List fP->List fP->List fP×List fP
 |0,_,_=>([],[])
 |f+1,.put b::xs,a=>(.put b::(fI f xs a).1,.keep::(fI f xs a).2)
 |f+1,xs,.put b::a=>(.keep::(fI f xs a).1,.put b::(fI f xs a).2)
 |f+1,.keep::xs,.keep::a=>(.keep::(fI f xs a).1,.keep::(fI f xs a).2)
 |f+1,.cut::xs,.keep::a=>(.cut::(fI f xs a).1,(fI f xs a).2)
 |f+1,.keep::xs,.cut::a=>((fI f xs a).1,.cut::(fI f xs a).2)
 |f+1,.cut::xs,.cut::a=>fI f xs a
 |_+1,_,_=>([],[])
def tL(k m:Bool):List fP×List fP:=(if m then[if k then .keep else .cut] else[],if k then[if m then .keep else .cut] else[])
def ib:List BS->List Bool->List BS->List Bool->List fP×List fP
 |p::ps,k::ks,q::qs,m::ms=>(p.map .put++List.replicate q.length .keep++(tL k m).1++(ib ps ks qs ms).1,List.replicate p.length .keep++q.map .put++(tL k m).2++(ib ps ks qs ms).2)
 |p::_,_,q::_,_=>(p.map .put++List.replicate q.length .keep,List.replicate p.length .keep++q.map .put)
 |_,_,_,_=>([],[])
theorem BN(b:UInt8)(l:List BS)(ks:List Bool)(r:List BS)(ms:List Bool)(hl:l≠[])(hr:r≠[]):ib (gx b l) ks r ms=(.put b::(ib l ks r ms).1,.keep::(ib l ks r ms).2):=by
 cases l with
 |nil=>exact absurd rfl hl
 |cons p l=>
  cases r with
  |nil=>exact absurd rfl hr
  |cons q r=>cases ks<;>cases ms<;>simp[gx,ib,aB]
theorem oS(b:UInt8)(l:List BS)(ks:List Bool)(r:List BS)(ms:List Bool)(hr:r≠[]):ib ([]::l) ks (gx b r) ms=(.keep::(ib ([]::l) ks r ms).1,.put b::(ib ([]::l) ks r ms).2):=by
 cases r with
 |nil=>exact absurd rfl hr
 |cons q r=>cases ks<;>cases ms<;>simp[gx,ib,aB]
theorem lW:∀(f:Nat)(xs a:List fP),xs.length+a.length<=f->fH xs=fH a->ib (e9 xs) (dE xs) (e9 a) (dE a)=fI f xs a
 |0,xs,a,hf,hi=>by
  have h1:xs=[]:=aq qW;have h2:a=[]:=aq qW;subst h1 h2;rfl
 |f+1,.put b::xs,a,hf,hi=>by
  simp only[ar] at hf;simp only[e9,dE,fI];rw[BN _ _ _ _ _ (lh xs) (lh a),lW f xs a qW hi]
 |f+1,[],.put b::a,hf,hi=>by
  simp only[ar] at hf;rw[fI]
  ·have:=lW f [] a (by simp at hf⊢;omega) hi;simp only[e9,dE] at this⊢;rw[oS _ _ _ _ _ (lh a),this]
  ·intro _ _ h;cases h
 |f+1,.keep::xs,.put b::a,hf,hi=>by
  simp only[ar] at hf;rw[fI]
  ·have:=lW f (.keep::xs) a (by simp;omega) hi;simp only[e9,dE] at this⊢;rw[oS _ _ _ _ _ (lh a),this]
  ·intro _ _ h;cases h
 |f+1,.cut::xs,.put b::a,hf,hi=>by
  simp only[ar] at hf;rw[fI]
  ·have:=lW f (.cut::xs) a (by simp;omega) hi;simp only[e9,dE] at this⊢;rw[oS _ _ _ _ _ (lh a),this]
  ·intro _ _ h;cases h
 |f+1,.keep::xs,.keep::a,hf,hi=>by
  simp only[ar] at hf;have:=lW f xs a qW (by simpa[fH,dE] using hi);simp[e9,dE,fI,ib,tL,this]
 |f+1,.cut::xs,.keep::a,hf,hi=>by
  simp only[ar] at hf;have:=lW f xs a qW (by simpa[fH,dE] using hi);simp[e9,dE,fI,ib,tL,this]
 |f+1,.keep::xs,.cut::a,hf,hi=>by
  simp only[ar] at hf;have:=lW f xs a qW (by simpa[fH,dE] using hi);simp[e9,dE,fI,ib,tL,this]
 |f+1,.cut::xs,.cut::a,hf,hi=>by
  simp only[ar] at hf;have:=lW f xs a qW (by simpa[fH,dE] using hi);simp[e9,dE,fI,ib,tL,this]
 |f+1,[],[],hf,hi=>by simp[e9,dE,fI,ib]
 |f+1,[],.keep::a,hf,hi=>by simp[fH,dE] at hi
 |f+1,[],.cut::a,hf,hi=>by simp[fH,dE] at hi
 |f+1,.keep::xs,[],hf,hi=>by simp[fH,dE] at hi
 |f+1,.cut::xs,[],hf,hi=>by simp[fH,dE] at hi
set_option maxRecDepth 100000
set_option maxHeartbeats 2000000
def gh(l:List (Nat×Nat)):List (List V):=l.map λp=>[.int .i64 p.1,.int .i64 p.2]
theorem zB(l:List (Nat×Nat)):∀r∈gh l,r.length=2:=by
 intro r hr;obtain⟨s,_,rfl⟩:=aC.1 hr;rfl
theorem zC(l:List (Nat×Nat)):∀r∈gh l,∀v∈r,Fz v:=by
 intro r hr v hv;obtain⟨s,_,rfl⟩:=aC.1 hr;simp at hv
 rcases hv with rfl|rfl<;>exact .int _ _
def zD:AC:=qr [qo 1 (.box 139 2 (.t 0)),qo 2 (.mov (.c (.slice none 0 0)))] (qr [qo 3 (.mov (.c (.slice none 0 0)))] (qr [qz 4 0] (qq (qr [qf 7 1 1,ql 8 7,qo 9 (.len false (.t 8)),qz 10 0] (.block 0 (.loop (qr [qb 11 .lss 10 9] (qq (qu 11 .skip (.exit 0)) (qq (.block 1 (qr [qm 12 10,qo 13 (.iaddr 1 (.t 8) (.t 10)),ql 14 13,qm 5 12,qm 6 14] (qr [qm 15 4,qf 16 0 1,ql 17 16,qm 18 5,qo 19 (.iaddr 1 (.t 17) (.t 18)),ql 20 19,qo 21 (.len true (.t 20)),qb 22 .add 15 21,qm 4 22] (qr [qm 23 6] (qu 23 (qr [qm 24 3,qm 25 5,qm 26 4,qo 27 (.build D7 [(0,1,(.t 25)),(1,1,(.t 26))]),qo 28 (.bslice 100 2 [.t 27]),qo 29 (.append 100 2 16 (.t 24) (.t 28)),qm 3 29] (qR [qm 30 4,qc 31 .add 30 1,qm 4 31])) .skip))))) (qR [qc 32 .add 10 1,qm 10 32]))))))) (qr [qm 33 3,qm 2 33] .ret))))
theorem Hm:fo Tryz.prog 141 Tryz.f141 zD [.t 2] 1 eV:=⟨Tryz.func141,by decide+kernel,by kernel_rfl,by kernel_rfl,by decide+kernel⟩
structure XP(ps:List BS)(ks:List Bool) where
 i:Nat
 k:Int
 to:Nat
 tk:Int
 out:List (Nat×Nat)
 rows:List (List V)
 n:Nat
 b:Option Nat
 p1:List BS
 r1:List BS
 p2:List Bool
 r2:List Bool
 h1:ps=p1++r1
 h2:ks=p2++r2
 hl:p1.length=i/\p2.length=i
 hk:k=(i:Int)
 Wx:tk=(to:Int)
 XQ:to<=p1.flatten.length+i
 dS:rows=gh out
 hn:n=out.length
 oA:out.length<=i
 hp:kz ps ks 0 0=out++kz r1 r2 i to
theorem Hn(P:Prim)(hP:P=ca)(T x:cp)(ps:List BS)(ks:List Bool)(hlen:ps.length=ks.length+1)(hb1:ks.length<=1000000)(hb2:ps.flatten.length<=1000000000)(pr kr:List (List V))(Ba:pr=ds ps)(vo:kr=fp ks)(rr:List (List V))(ko:rr=gh (kz ps ks 0 0))
  (R:S->Prop)(z:tI [.t 2] 2 rr [] R):fX P T x zD (S0 [.agg [.sl true 1 pr,.sl true 1 kr]] Hp.emp) R (λ_ _=>False) R:=by
 have a:P.da kr=(ks.length:Int):=by rw[gi hP,vo];simp[fp]
 cbv;intro g;cbv;refine⟨XP ps ks,λy=>[(1,.ptr 1 (some g) 2 0 0),(3,.own 1000029 y.b 2 y.n),(4,qI y.tk),(8,.sl true 1 kr),(9,qI (P.da kr)),(10,qI y.k)],
  λy=>[(1,⟨some g,139,2,[[.sl true 1 pr,.sl true 1 kr]]⟩),(1000029,⟨y.b,100,2,y.rows⟩)],λy=>y.r2.length,
  ⟨_,a7.nil (i:=3) (k:=1000029) (ty:=100) (sz:=2) rfl rfl,⟨0,0,0,0,[],_,_,_,[],ps,[],ks,rfl,rfl,⟨rfl,rfl⟩,rfl,rfl,by simp,rfl,rfl,by simp,rfl⟩,⟨rfl,rfl,rfl,rfl,rfl,rfl,trivial⟩,⟨rfl,rfl,trivial⟩⟩,?_⟩
 rintro⟨i,k,to,tk,out,rows,n,b,p1,r1,p2,r2,h1,h2,⟨c,d⟩,hk,Wx,XQ,dS,hn,oA,hp⟩;have o:r1.length=r2.length+1:=by rw[h1,h2] at hlen;simp at hlen;omega
 have j:i+r2.length=ks.length:=by rw[h2];simp;omega
 cbv;refine ab (λh=>?_) (λh=>?_)
 ·have h3:k<P.da kr:=fA hP h;rw[a] at h3
  rcases r2 with _|⟨q,r2⟩
  ·exfalso;simp at j;((try simp only[nc] at*);omega)
  rcases r1 with _|⟨p,r1⟩
  ·simp at o
  have A:p1.flatten.length+p.length<=1000000000:=by rw[h1] at hb2;simp at hb2⊢;omega
  have e:P.row pr (P.nat k) [.str p]:=fL hP hk (by rw[Ba,ds,av,h1,<-c];simp);have f:P.row kr (P.nat k) [.bool q]:=fL hP hk (by rw[vo,fp,av,h2,<-d];simp);have ho:P.fQ 0 k:=iQ hP qO;have l:P.i64 (P.add k 1):=by rw[add_eq hP];exact ft hP qO
  have s:P.i64 (P.add tk (P.eP p)):=by rw[add_eq hP,eF hP];exact ft hP qO
  have u:P.i64 (P.add (P.add tk (P.eP p)) 1):=by rw[add_eq hP,add_eq hP,eF hP];exact ft hP qO
  have v:P.oc rows n:=by subst hP;show rows.length=n;rw[dS,hn];simp[gh]
  have w:∀r,P.bytes (P.add (P.int n) (P.da [r])) 16:=by intro r;subst hP;show((n:Int)+1)*16<=_;((try simp only[nc] at*);omega)
  have ev:P.add tk (P.eP p)=((to+p.length:Nat):Int):=by rw[add_eq hP,eF hP,Wx];((try simp only[nc] at*);omega)
  cbv;refine⟨ho,_,f,?_⟩;cbv;refine⟨ho,_,e,?_⟩;cbv;refine⟨s,?_⟩;cases q
  ·cbv;refine⟨l,?_⟩;refine⟨_,a7.refl _,⟨i+1,_,to+p.length,_,out,_,_,_,p1++[p],r1,p2++[false],r2,by simp[h1],by simp[h2],by simp[c,d],?_,ev,(by simp only[db,bI,cX,aJ,an,ar,aK];((try simp only[nc] at*);omega)),dS,hn,qW,?_⟩,⟨rfl,rfl,rfl,rfl,rfl,rfl,trivial⟩,⟨rfl,rfl,trivial⟩,by simp⟩
   ·show P.add k 1=_;rw[add_eq hP,hk];((try simp only[nc] at*);omega)
   ·rw[hp];simp[kz]
  ·cbv;intro β;cbv;refine⟨by subst hP;rfl,v,w _,?_⟩;intro B;cbv;refine⟨u,l,?_⟩;refine⟨_,a7.refl _,⟨i+1,_,to+p.length+1,_,out++[(i,to+p.length)],_,_,_,p1++[p],r1,p2++[true],r2,by simp[h1],by simp[h2],by simp[c,d],?_,?_,(by simp only[db,bI,cX,aJ,an,ar,aK];((try simp only[nc] at*);omega)),?_,?_,by simp;omega,?_⟩,⟨rfl,rfl,rfl,rfl,rfl,rfl,trivial⟩,⟨rfl,rfl,trivial⟩,by simp⟩
   ·show P.add k 1=_;rw[add_eq hP,hk];((try simp only[nc] at*);omega)
   ·show P.add (P.add tk (P.eP p)) 1=_;rw[add_eq hP,ev];((try simp only[nc] at*);omega)
   ·show P.je rows [[qI k,qI (P.add tk (P.eP p))]]=_;rw[ev,hk,dS];subst hP;simp[ca,gh,nc]
   ·show P.jf n (P.gp [_])=_;subst hP;simp[ca,hn]
   ·rw[hp];simp[kz]
 ·have h3:¬k<P.da kr:=fg hP h;rw[a] at h3
  rcases r2 with _|⟨q,r2⟩
  rotate_left
  ·exfalso;simp at j;((try simp only[nc] at*);omega)
  have m:kz ps ks 0 0=out:=by rw[hp];cases r1<;>simp[kz]
  cbv;exact z.2.1 _ _ _ _ _ _ _ (a7.refl _) rfl rfl ⟨by rw[ko,m,hn];simp[gh],by rw[ko,m,dS]⟩
theorem rJ(ts:List fP)(h:ts.length<=1000000):Spec Tryz.prog 141 [.agg [.sl true 1 (ds (e9 ts)),.sl true 1 (fp (dE ts))]] Hp.emp (Is (.sl false 2 (gh (fx ts 0 0)))):=
 hH gY Hm λR a=>Hn ca rfl _ _ (e9 ts) (dE ts) (kR ts) (by have:=oQ ts;omega) (by have:=pq ts;omega) _ _ rfl rfl _ (by rw[Ez]) R (mu (zB _) (zC _) (by simp) a)
def lJ(n:Nat)(text:BS):Nat->Nat->List (Nat×Nat)->Prop
 |i0,a,[]=>i0<=n/\a<=text.length
 |i0,a,(i,j)::r=>i0<=i/\i<n/\a<=j/\j<text.length/\lJ n text (i+1) (j+1) r
theorem EJ{n:Nat}{text:BS}:∀{l:List (Nat×Nat)}{i0 e:Nat},lJ n text i0 e l->i0<=n/\e<=text.length
 |[],_,_,h=>h
 |(i,j)::r,i0,e,h=>by obtain⟨a,b,c,d,_⟩:=h;omega
theorem rK(t:BS)(ts:List fP)(p:BS)(r:List BS)(h:e9 ts=p::r):e9 (t.map .put++ts)=(t++p)::r:=by
 induction t with
 |nil=>simpa using h
 |cons b t ih=>simp only[aL,ay,e9,ih,gx]
theorem rL(n:Nat)(ts:List fP):e9 (List.replicate n .cut++ts)=List.replicate n []++e9 ts:=by
 induction n with
 |zero=>simp
 |succ n ih=>simp[aB,e9,ih]
theorem pW(n:Nat)(ts:List fP):dE (List.replicate n .cut++ts)=List.replicate n false++dE ts:=by
 induction n with
 |zero=>simp
 |succ n ih=>simp[aB,dE,ih]
theorem pX(t:BS)(ts:List fP):dE (t.map .put++ts)=dE ts:=by rw[ph,pj];rfl
theorem zE(m:Nat)(ts:List fP):∃r,List.replicate m []++[]::e9 ts=([]:BS)::r:=by cases m<;>exact⟨_,rfl⟩
theorem EK(n:Nat)(text:BS)(i0 a i j:Nat)(r:List (Nat×Nat)):e9 (hU n text i0 a ((i,j)::r))=((text.drop a).take (j-a))::(List.replicate (i-i0) []++e9 (hU n text (i+1) (j+1) r)):=by
 simp only[hU,aP];have h1:e9 (List.replicate (i-i0) fP.cut++.keep::hU n text (i+1) (j+1) r)=List.replicate (i-i0) []++[]::e9 (hU n text (i+1) (j+1) r):=by rw[rL];rfl
 obtain⟨q,hq⟩:=zE (i-i0) (hU n text (i+1) (j+1) r);rw[rK _ _ [] q (by rw[h1,hq]),aJ]
 congr 1
 have:List.replicate (i-i0) []++([]:BS)::e9 (hU n text (i+1) (j+1) r)=[]::(List.replicate (i-i0) []++e9 (hU n text (i+1) (j+1) r)):=by
  generalize i-i0=m
  induction m with
  |zero=>rfl
  |succ m ih=>rw[aB,ay,ih];rfl
 rw[this] at hq
 injection hq with _ hq
 exact hq.symm
theorem wB(n:Nat)(text:BS)(i0 a:Nat):e9 (hU n text i0 a [])=text.drop a::List.replicate (n-i0) []:=by
 simp only[hU];have h1:e9 (List.replicate (n-i0) fP.cut)=[]::List.replicate (n-i0) []:=by
  have:=rL (n-i0) [];rw[aJ] at this;rw[this,e9,<-cA,aB]
 rw[rK _ _ _ _ h1,aJ]
theorem BO(n:Nat)(text:BS)(i0 a i j:Nat)(r:List (Nat×Nat)):dE (hU n text i0 a ((i,j)::r))=List.replicate (i-i0) false++true::dE (hU n text (i+1) (j+1) r):=by
 simp only[hU,aP];rw[pX,pW];rfl
theorem vA(n:Nat)(text:BS)(i0 a:Nat):dE (hU n text i0 a [])=List.replicate (n-i0) false:=by
 simp only[hU];rw[pX];have:=pW (n-i0) [];rw[aJ] at this;rw[this];simp[dE]
def CX:AC:=qr [qo 6 (.mov (.c (.slice none 0 0)))] (qq (.region true [qm 12 0,qc 13 .add 12 1,qo 14 (.mkslice 9 1 16 [qe] (.t 13) (.t 13)),qm 15 0,qo 16 (.mkslice 4 1 1 [(.bool false)] (.t 15) (.t 15)),qo 17 (.build PI [(0,1,(.t 14)),(1,1,(.t 16))]),qo 7 (.alloc 139 PI),qs 2 7 17]) (qr [qz 8 0] (qr [qz 9 0] (qq (qr [qm 18 1,qo 19 (.len false (.t 18)),qz 20 0] (.block 0 (.loop (qr [qb 21 .lss 20 19] (qq (qu 21 .skip (.exit 0)) (qq (.block 1 (qr [qo 22 (.iaddr 2 (.t 18) (.t 20)),qd 23 2 22,qo 11 (.alloc 100 D7),qs 2 11 23] (qq (.region true [qf 24 0 7,ql 25 24,qm 26 9,qm 27 2,qm 28 8,qo 29 (.iarr 2 1 (.t 11) (qk 1)),ql 30 29,qo 31 (.slstr (.t 27) (some (.t 28)) (some (.t 30))),qo 32 (.iaddr 1 (.t 25) (.t 26)),qs 1 32 31]) (qr [qf 33 1 7,ql 34 33,qo 35 (.iarr 2 1 (.t 11) (qk 0)),ql 36 35,qo 37 (.iaddr 1 (.t 34) (.t 36)),⟨none,none,.store 1 (.t 37) (.c (.bool true))⟩] (.region true [qo 38 (.iarr 2 1 (.t 11) (qk 0)),ql 39 38,qc 40 .add 39 1,qo 41 (.iarr 2 1 (.t 11) (qk 1)),ql 42 41,qc 43 .add 42 1,qm 9 40,qm 8 43]))))) (qR [qc 44 .add 20 1,qm 20 44]))))))) (qq (.region true [qf 45 0 7,ql 46 45,qm 47 9,qo 48 (.iaddr 1 (.t 46) (.t 47)),ql 49 48,qm 50 2,qm 51 8,qo 52 (.slstr (.t 50) (some (.t 51)) none),qb 53 .add 49 52,qo 54 (.iaddr 1 (.t 46) (.t 47)),qs 1 54 53]) (qr [qd 55 2 7,qa 56 132 [.t 55],qm 6 56] .ret))))))
theorem Mr:fo Tryz.prog 142 Tryz.f142 CX [.t 6] 3 eV:=⟨Tryz.func142,by decide+kernel,by kernel_rfl,by kernel_rfl,by decide+kernel⟩
structure XR(n:Nat)(l:List (Nat×Nat))(text:BS) where
 idx:Int
 pre:List (Nat×Nat)
 rest:List (Nat×Nat)
 fr:Nat
 at_:Nat
 fk:Int
 ak:Int
 A:List BS
 B:List Bool
 pr:List (List V)
 kr:List (List V)
 hd:l=pre++rest
 hi:idx=(pre.length:Int)
 hf:fk=(fr:Int)
 ha:ak=(at_:Int)
 hA:A.length=fr
 hB:B.length=fr
 Ba:pr=ds (A++List.replicate (n+1-fr) [])
 vo:kr=fp (B++List.replicate (n-fr) false)
 FP:e9 (hU n text 0 0 l)=A++e9 (hU n text fr at_ rest)
 BB:dE (hU n text 0 0 l)=B++dE (hU n text fr at_ rest)
 iB:lJ n text fr at_ rest
theorem Ms(P:Prim)(hP:P=ca)(T u:cp)(n:Nat)(nk:Int)(FV:nk=n)(hn:n<=100000)(l:List (Nat×Nat))(v:l.length<=100000)(rows:List (List V))(dS:rows=gh l)(text:BS)(ht:text.length<=100000)(hl:lJ n text 0 0 l)
  (mr:List (List V))(r:∀(k1 k2 n1 n2:Nat)(b1 b2:Option Nat)(r1 r2:List (List V))(h:Hp)(K:V->Hp->Prop),h k1=some ⟨b1,9,1,r1⟩->h k2=some ⟨b2,4,1,r2⟩->r1=ds (e9 (hU n text 0 0 l))->r2=fp (dE (hU n text 0 0 l))->n1=r1.length->n2=r2.length->
   K (.sl false 3 mr) h->T 132 [.agg [.own k1 b1 1 n1,.own k2 b2 1 n2]] h K)
  (R:S->Prop)(w:tI [.t 6] 3 mr [] R):fX P T u CX (S0 [qI nk,.sl true 2 rows,.str text] Hp.emp) R (λ_ _=>False) R:=by
 have hlen:P.da rows=(l.length:Int):=by rw[gi hP,dS];simp[gh]
 have c:P.i64 (P.add nk 1):=by rw[add_eq hP];exact ft hP qW
 have d:P.fQ 0 (P.add nk 1):=iQ hP (by rw[add_eq hP];omega);have e:P.bytes (P.add nk 1) 16:=by subst hP;show(nk+1)*16<=_;omega
 have f:P.fQ (P.add nk 1) 140737488355328:=yK hP (by rw[add_eq hP];omega);have g:P.fQ 0 nk:=iQ hP qW;have k:P.bytes nk 1:=by subst hP;show nk*1<=_;omega
 have m:P.fQ nk 140737488355328:=yK hP qW;have e1:P.nat (P.add nk 1)=n+1:=by rw[add_eq hP];subst hP;show(nk+1).toNat=_;omega
 have e2:P.nat nk=n:=by subst hP;show nk.toNat=_;omega
 have e3:P.wu (P.add nk 1) [.str []]=ds (List.replicate (n+1) []):=by
  rw[add_eq hP];subst hP;show List.replicate (nk+1).toNat _=_;rw[show(nk+1).toNat=n+1 by omega];simp[ds]
 have e4:P.wu nk [.bool false]=fp (List.replicate n false):=by
  subst hP;show List.replicate nk.toNat _=_;rw[show nk.toNat=n by omega];simp[fp]
 cbv;refine⟨c,d,e,f,?_⟩;intro a;cbv;refine⟨g,k,m,?_⟩;intro b;cbv;intro o;cbv;refine⟨XR n l text,λy=>[(0,qI nk),(2,.str text),(7,.ptr 7 (some o) 2 0 0),(8,qI y.ak),(9,qI y.fk),(18,.sl true 2 rows),(19,qI (P.da rows)),(20,qI y.idx)],
  λy=>[(7,⟨some o,139,2,[[.own 1000014 (some a) 1 (P.nat (P.add nk 1)),.own 1000016 (some b) 1 (P.nat nk)]]⟩),(1000014,⟨some a,9,1,y.pr⟩),(1000016,⟨some b,4,1,y.kr⟩)],λy=>y.rest.length,
  ⟨_,a7.refl _,⟨0,[],l,0,0,0,0,[],[],_,_,rfl,rfl,rfl,rfl,rfl,rfl,e3,e4,rfl,rfl,hl⟩,⟨rfl,rfl,rfl,rfl,rfl,rfl,rfl,rfl,trivial⟩,⟨rfl,rfl,rfl,trivial⟩⟩,?_⟩
 clear c d e f g k m;rintro⟨idx,pre,rest,fr,at_,fk,ak,A,B,pr,kr,hd,hi,hf,ha,hA,hB,Ba,vo,FP,BB,iB⟩;have p:pre.length+rest.length=l.length:=by rw[hd];simp
 have hle:=EJ iB;have p1:P.fQ 0 idx:=iQ hP qO;have p2:P.i64 (P.add idx 1):=by rw[add_eq hP];exact ft hP qO
 have z:P.fQ 0 fk:=iQ hP qO;have C:P.iw fk (P.int (P.nat (P.add nk 1))):=kZ hP (by rw[e1,int_eq hP];((try simp only[nc] at*);omega));have D:P.row pr (P.nat fk) [.str []]:=fL hP hf (by rw[Ba,ds,av,aV qW,dq,ae qW];rfl);have E:P.fQ 0 ak:=iQ hP qO;cbv;refine ab (λh=>?_) (λh=>?_)
 ·have h2:idx<P.da rows:=fA hP h;rw[hlen] at h2
  rcases rest with _|⟨⟨i,j⟩,rest⟩
  ·exfalso;simp at p;((try simp only[nc] at*);omega)
  obtain⟨q1,q2,F,G,x⟩:=iB;have q:P.row rows (P.nat idx) [qI i,qI j]:=fL hP hi (by rw[dS,gh,av,hd];simp);have r1:P.fQ ak j:=yK hP qO;have r2:P.fQ j (P.eP text):=yK hP (by rw[eF hP];((try simp only[nc] at*);omega));have r3:P.fQ 0 i:=iQ hP qO;have r4:P.iw i (P.int (P.nat nk)):=kZ hP (by rw[e2,int_eq hP];((try simp only[nc] at*);omega));have r5:P.row kr (P.nat i) [.bool false]:=fL hP rfl (by rw[vo,fp,av,aV qW,dq,ae qW];rfl);have r6:P.i64 (P.add i 1):=by rw[add_eq hP];exact ft hP qO
  have r7:P.i64 (P.add j 1):=by rw[add_eq hP];exact ft hP qO
  have r8:P.fQ 0 1:=iQ hP qW;have r9:P.iw 1 2:=kZ hP qW;have uq:P.nat 1=1:=by subst hP;rfl
  have ur:P.fQ 0 0:=iQ hP qW;have uu:P.iw 0 2:=kZ hP qW;have uw:P.nat 0=0:=by subst hP;rfl
  cbv;refine⟨p1,_,q,?_⟩;cbv;intro s;cbv
  repeat' first|(refine And.intro (by assumption) ?_;cbv)|(refine Exists.intro _ (And.intro (by assumption) ?_);cbv)
  refine⟨_,a7.refl _,⟨_,pre++[(i,j)],rest,i+1,j+1,_,_,A++((text.drop at_).take (j-at_))::List.replicate (i-fr) [],B++List.replicate (i-fr) false++[true],_,_,by simp[hd],?_,?_,?_,?_,?_,?_,?_,?_,?_,x⟩,⟨rfl,rfl,rfl,rfl,rfl,rfl,rfl,rfl,trivial⟩,⟨rfl,rfl,rfl,trivial⟩,by simp⟩
  ·show P.add idx 1=_;rw[add_eq hP,hi];simp
  ·show P.add i 1=_;rw[add_eq hP];simp
  ·show P.add j 1=_;rw[add_eq hP];simp
  ·simp;omega
  ·simp;omega
  ·show P.mf pr (P.nat fk) [.str (P.sZ text ak j)]=_;rw[Ba,hf,ha];subst hP;show(ds _).set ((fr:Int)).toNat [.str ((text.take ((j:Int)).toNat).drop ((at_:Int)).toNat)]=_;simp only[aM];rw[show n+1-fr=(i-fr)+(n-i)+1 by omega,show n+1-(i+1)=n-i by omega,aB];simp only[ds,bW,aL,eD];rw[aa (by simp;omega)];simp only[aI,hA,eu,dX,aP,ay]
   congr 2
   ·rw[dw]
   ·rw[<-dD];simp
  ·show P.mf kr (P.nat i) [.bool true]=_;rw[vo];subst hP;show(fp _).set ((i:Int)).toNat [.bool true]=_;simp only[aM];rw[show n-fr=(i-fr)+((n-(i+1))+1) by omega,<-dD,aB];simp only[fp,bW,aL,eD];rw[aa (by simp;omega),aa (by simp;omega)];simp only[aI,eH,List.map_replicate,hB,aP,ay,bO,cJ];rw[show i-fr-(i-fr)=0 by omega,dX]
  ·rw[FP,EK];simp
  ·rw[BB,BO];simp
 ·have h2:¬idx<P.da rows:=fg hP h;rw[hlen] at h2
  rcases rest with _|⟨⟨i,j⟩,rest⟩
  rotate_left
  ·exfalso;simp at p;((try simp only[nc] at*);omega)
  have r1:P.fQ ak (P.eP text):=yK hP (by rw[eF hP];((try simp only[nc] at*);omega));have r2:P.fQ (P.eP text) (P.eP text):=yK hP (bf _);have hs:P.sZ text ak (P.eP text)=text.drop at_:=by
   rw[eF hP,ha];subst hP;show(text.take ((text.length:Nat):Int).toNat).drop ((at_:Nat):Int).toNat=_;simp
  have r3:P.i64 (P.add (P.eP []) (P.eP (P.sZ text ak (P.eP text)))):=by
   rw[hs,add_eq hP,eF hP,eF hP];exact ft hP (by simp;((try simp only[nc] at*);omega))
  cbv
  repeat' first|(refine And.intro (by assumption) ?_;cbv)|(refine Exists.intro _ (And.intro (by assumption) ?_);cbv)
  refine r _ _ _ _ _ _ _ _ _ _ rfl rfl ?_ ?_ ?_ ?_ ?_
  ·rw[FP,wB];show P.mf pr (P.nat fk) [.str (P.gV [] (P.sZ text ak (P.eP text)))]=_;rw[hs,Ba,hf];subst hP;show(ds _).set ((fr:Int)).toNat [.str ([]++text.drop at_)]=_;simp only[aM,bO];rw[show n+1-fr=n-fr+1 by omega,aB];simp only[ds,bW,aL,eD];rw[aa (by simp;omega)];simp only[aI,hA,eu,dX]
  ·rw[BB,vA,vo]
  ·show P.nat (P.add nk 1)=(P.mf pr (P.nat fk) _).length;rw[e1];rw[Ba];subst hP;simp[ca,ds,hA];omega
  ·show P.nat nk=_;rw[e2,vo];simp[fp,hB];omega
  cbv;exact w.2.2 _ _ _ (a7.refl _) rfl rfl
theorem zF{h:Hp}{k n ty:Nat}{b:Option Nat}{rs:List (List V)}(hn:n=rs.length)(hk:h k=some ⟨b,ty,1,rs⟩):Arg h [] (.own k b 1 n) (.sl true 1 rs):=.own k b 1 n rs (jm hn hk) (by simp)
theorem Mt(n:Nat)(hn:n<=100000)(l:List (Nat×Nat))(c:l.length<=100000)(text:BS)(ht:text.length<=100000)(hl:lJ n text 0 0 l)(hm:(hU n text 0 0 l).length<=1000000):
  Spec Tryz.prog 142 [.int .i64 n,.sl true 2 (gh l),.str text] Hp.emp (Is (fc (nT (hU n text 0 0 l)))):=
 hH gY Mr λR d=>Ms ca rfl _ _ n _ rfl hn l c _ rfl text ht hl _ (λk1 k2 n1 n2 b1 b2 r1 r2 h K h1 h2 e1 e2 e3 e4 hK=>⟨h,jj.refl h,kD (Qe (hU n text 0 0 l) hm) (.cons (.agg _ _ rfl λi v v' a b=>by
  match i with
  |0=>simp at a b;subst a b;rw[<-e1];exact zF e3 h1
  |1=>simp at a b;subst a b;rw[<-e2];exact zF e4 h2
  |i+2=>simp at a) .nil) hK⟩) R (mu (ly _) (ff _) (by simp) d)
theorem xd(n:Nat)(text:BS):∀(l:List (Nat×Nat))(i0 f:Nat),lJ n text i0 f l->(hU n text i0 f l).length<=(text.length-f)+(n-i0)
 |[],i0,f,h=>by simp[hU]
 |(i,j)::r,i0,f,h=>by
  obtain⟨a,b,c,d,e⟩:=h;have:=xd n text r (i+1) (j+1) e;simp only[hU,an,aI,aZ,bA,eH,ar];omega
theorem lX(n:Nat)(text:BS):∀(ts:List fP)(i0 a:Nat),i0+fH ts=n->a+fi ts=text.length->lJ n text i0 a (fx ts i0 a)
 |[],i0,a,h1,h2=>by simp[fH,dE,fi] at h1 h2;simp[fx,lJ];omega
 |.put b::ts,i0,a,h1,h2=>by
  have:=lX n text ts i0 (a+1) h1 (by simp[fi] at h2;omega);simp only[fx];exact tM this (ag _) qW
 |.cut::ts,i0,a,h1,h2=>by
  have:=lX n text ts (i0+1) a (by simp[fH,dE] at h1⊢;omega) h2;simp only[fx];exact tM this qW (ag _)
 |.keep::ts,i0,a,h1,h2=>by
  have:=lX n text ts (i0+1) (a+1) (by simp[fH,dE] at h1⊢;omega) (by simp[fi] at h2;omega);simp only[fH,dE,ar,fi] at h1 h2;exact⟨ag _,qW,ag _,qW,this⟩
where
 tM {n:Nat} {text:BS}:∀{l:List (Nat×Nat)}{i0 j0 i1 j1:Nat},lJ n text i1 j1 l->i0<=i1->j0<=j1->lJ n text i0 j0 l
  |[],_,_,_,_,h,a,b=>by simp only[lJ] at*;omega
  |(i,j)::r,_,_,_,_,h,a,b=>by obtain⟨c,d,e,f,g⟩:=h;exact⟨qW,d,qW,f,g⟩
def Ho:AC:=qr [qo 2 (.box 139 2 (.t 0)),qo 4 (.mov (.c qe))] (qr [qo 5 (.mov (.c qe))] (qq (qr [qf 8 1 2,ql 9 8,qo 10 (.len false (.t 9)),qz 11 0] (.block 0 (.loop (qr [qb 12 .lss 11 10] (qq (qu 12 .skip (.exit 0)) (qq (.block 1 (qr [qm 13 11,qo 14 (.iaddr 1 (.t 9) (.t 11)),ql 15 14,qm 6 13,qm 7 15] (qr [qm 16 5,qf 17 0 2,ql 18 17,qm 19 6,qo 20 (.iaddr 1 (.t 18) (.t 19)),ql 21 20,qb 22 .add 16 21,qm 5 22] (qr [qm 23 7] (qu 23 (qR [qm 24 5,qm 25 1,qm 26 6,qm 27 6,qc 28 .add 27 1,qo 29 (.slstr (.t 25) (some (.t 26)) (some (.t 28))),qb 30 .add 24 29,qm 5 30]) .skip))))) (qR [qc 31 .add 11 1,qm 11 31]))))))) (qr [qm 32 5,qf 33 0 2,ql 34 33,qf 35 1 2,ql 36 35,qo 37 (.len false (.t 36)),qo 38 (.iaddr 1 (.t 34) (.t 37)),ql 39 38,qb 40 .add 32 39,qm 4 40] .ret)))
theorem Qt:fo Tryz.prog 84 Tryz.f84 Ho [.t 4] 2 eV:=⟨Tryz.func84,by decide+kernel,by kernel_rfl,by kernel_rfl,by decide+kernel⟩
structure XS(ps:List BS)(ks:List Bool)(s:BS) where
 i:Nat
 k:Int
 out:BS
 p1:List BS
 r1:List BS
 p2:List Bool
 r2:List Bool
 h1:ps=p1++r1
 h2:ks=p2++r2
 hl:p1.length=i/\p2.length=i
 hk:k=(i:Int)
 ho:out.length<=p1.flatten.length+i
 hd:Ey ps ks s=out++Ey r1 r2 (s.drop i)
theorem Qu(P:Prim)(hP:P=ca)(T w:cp)(ps:List BS)(ks:List Bool)(s:BS)(hlen:ps.length=ks.length+1)(hs:s.length=ks.length)(hb1:ks.length<=1000000)(hb2:ps.flatten.length<=1000000000)(pr kr:List (List V))(Ba:pr=ds ps)(vo:kr=fp ks)(r:BS)(hr:Ey ps ks s=r)
  (R:S->Prop)(x:∀s s' q,q=r->a7 s s'->hX [.t 4] [.str q] s'->R s):fX P T w Ho (S0 [.agg [.sl true 1 pr,.sl true 1 kr],.str s] Hp.emp) R (λ_ _=>False) R:=by
 have a:P.da kr=(ks.length:Int):=by rw[gi hP,vo];simp[fp]
 cbv;intro l;cbv;refine⟨XS ps ks s,λy=>[(1,.str s),(2,.ptr 2 (some l) 2 0 0),(5,.str y.out),(9,.sl true 1 kr),(10,qI (P.da kr)),(11,qI y.k)],
  λy=>[(2,⟨some l,139,2,[[.sl true 1 pr,.sl true 1 kr]]⟩)],λy=>y.r2.length,
  ⟨_,a7.refl _,⟨0,0,[],[],ps,[],ks,rfl,rfl,⟨rfl,rfl⟩,rfl,by simp,by simp⟩,⟨rfl,rfl,rfl,rfl,rfl,rfl,trivial⟩,⟨rfl,trivial⟩⟩,?_⟩
 rintro⟨i,k,out,p1,r1,p2,r2,h1,h2,⟨e,f⟩,hk,ho,hd⟩;have n:r1.length=r2.length+1:=by rw[h1,h2] at hlen;simp at hlen;omega
 have c:i+r2.length=ks.length:=by rw[h2];simp;omega
 rcases r1 with _|⟨p,r1⟩
 ·simp at n
 have z:p1.flatten.length+p.length<=1000000000:=by rw[h1] at hb2;simp at hb2⊢;omega
 have b:P.row pr (P.nat k) [.str p]:=fL hP hk (by rw[Ba,ds,av,h1,<-e];simp);have d:P.fQ 0 k:=iQ hP qW;have g:P.i64 (P.add k 1):=by rw[add_eq hP];exact ft hP qW
 have m:P.i64 (P.add (P.eP out) (P.eP p)):=by rw[add_eq hP,eF hP,eF hP];exact ft hP qW
 cbv;refine ab (λh=>?_) (λh=>?_)
 ·have h3:k<P.da kr:=fA hP h;rw[a] at h3
  rcases r2 with _|⟨q,r2⟩
  ·exfalso;simp at c;((try simp only[nc] at*);omega)
  have j:P.row kr (P.nat k) [.bool q]:=fL hP hk (by rw[vo,fp,av,h2,<-f];simp);cbv;refine⟨d,_,j,?_⟩;cbv;refine⟨d,_,b,?_⟩;cbv;refine⟨m,?_⟩;cases q
  ·cbv;refine⟨g,?_⟩;refine⟨_,a7.refl _,⟨i+1,_,_,p1++[p],r1,p2++[false],r2,by simp[h1],by simp[h2],by simp[e,f],?_,?_,?_⟩,⟨rfl,rfl,rfl,rfl,rfl,rfl,trivial⟩,⟨rfl,trivial⟩,by simp⟩
   ·show P.add k 1=_;rw[add_eq hP,hk];((try simp only[nc] at*);omega)
   ·show(P.gV out p).length<=_;subst hP;simp only[ca,an,db,bI,cX,aJ];omega
   ·show _=P.gV out p++_;rw[hd];subst hP;simp[Ey,ca,cU]
  ·have hx:(P.sZ s k (P.add k 1))=(s.drop i).take 1:=by
    rw[add_eq hP,hk];subst hP;show(s.take ((i:Int)+1).toNat).drop ((i:Int)).toNat=_;rw[dw,aM,show((i:Int)+1).toNat-i=1 by omega]
   have o:P.fQ k (P.add k 1):=yK hP (by rw[add_eq hP];omega);have u:P.fQ (P.add k 1) (P.eP s):=yK hP (by rw[add_eq hP,eF hP];simp at c;((try simp only[nc] at*);omega));have v:P.i64 (P.add (P.eP (P.gV out p)) (P.eP (P.sZ s k (P.add k 1)))):=by
    rw[hx,add_eq hP,eF hP,eF hP];refine ft hP ?_;subst hP;simp only[ca,an,aZ];omega
   cbv;refine⟨g,d,o,u,v,g,?_⟩;refine⟨_,a7.refl _,⟨i+1,_,_,p1++[p],r1,p2++[true],r2,by simp[h1],by simp[h2],by simp[e,f],?_,?_,?_⟩,⟨rfl,rfl,rfl,rfl,rfl,rfl,trivial⟩,⟨rfl,trivial⟩,by simp⟩
   ·show P.add k 1=_;rw[add_eq hP,hk];((try simp only[nc] at*);omega)
   ·show(P.gV (P.gV out p) (P.sZ s k (P.add k 1))).length<=_;rw[hx];subst hP;simp only[ca,an,aZ,db,bI,cX,aJ];omega
   ·show _=P.gV (P.gV out p) (P.sZ s k (P.add k 1))++_;rw[hd,hx];subst hP;simp[Ey,ca,cU]
 ·have h3:¬k<P.da kr:=fg hP h;rw[a] at h3
  rcases r2 with _|⟨q,r2⟩
  rotate_left
  ·exfalso;simp at c;((try simp only[nc] at*);omega)
  have hk2:k=P.da kr:=by rw[a];simp at c;((try simp only[nc] at*);omega)
  subst hk2;cbv;refine⟨d,_,b,?_⟩;cbv;refine⟨m,?_⟩;refine x _ _ _ ?_ (a7.refl _) rfl;show P.gV out p=r;rw[<-hr,hd];subst hP;cases r1<;>simp[Ey,ca]
theorem vB(ts:List fP)(h:ts.length<=1000000)(s:BS)(hs:s.length=fH ts):Spec Tryz.prog 84 [.agg [.sl true 1 (ds (e9 ts)),.sl true 1 (fp (dE ts))],.str s] Hp.emp (Is (.str (kg ts s))):=
 eW gY Qt [.str (kg ts s)] (.str _) λR a=>Qu ca rfl _ _ (e9 ts) (dE ts) s (kR ts) hs (by have:=oQ ts;omega) (by have:=pq ts;omega) _ _ rfl rfl _ (P3 ts s) R λs s' q h he hr=>by subst h;exact a s s' he hr
open Go.RowKit
theorem wC{f:Nat}{args:List V}{v:V}{us:Array Value}{W:World}(hs:Spec Tryz.prog f args Hp.emp (Is v))(hl:us.size=args.length)
  (hr:∀(i:Nat)(v:V)(u:Value),args[i]? =some v->us[i]? =some u->Rel (xM W) (λ_=>False) W v u):
  Calls Tryz.prog f us W λe w'=>(∃u F',e=.returned u/\Rel F' (λ_=>False) w' v u)/\Below W.heap.size W w':=by
 let C:Ctx:=⟨W,xM W,λ_=>False,λ_=>False⟩
 have c:C.Ok:=⟨λb hb=>⟨hb,λh=>h⟩,λb hb=>hb.elim,λb hb=>hb.elim⟩;refine(hs.run C us c hl hr ⟨λk o hk=>by simp[Hp.emp] at hk,λk k' o o' b hk=>by simp[Hp.emp] at hk,λk o b hk=>by simp[Hp.emp] at hk,λb hb=>.inl hb,λb hb=>hb,λb hb=>hb,Ev.refl _ _⟩).mono ?_;rintro e w' ⟨u,v',h',F',rfl,hv,hs2,rfl,rfl⟩;have a:Ev (λ_=>False) W w':=hs2.ev;exact⟨⟨u,F',rfl,hv⟩,a.os,a.tape,a.output,a.size,λk hk=>a.same k hk (λh=>h)⟩
theorem EL{F B:Nat->Prop}{w:World}{t:Bool}{d:List Part}{u:Value}(h:Rel F B w (.sl t 3 (d.map a6)) u)(hlt:∀b,F b\/B b->b<w.heap.size):∃e c,u=.slice e d.length c/\Sl.CU w e d:=by
 generalize dS:d.map a6=rows at h
 cases h with
 |slnil=>
  have:d=[]:=by simpa using dS
  subst this;exact⟨none,0,rfl,λi p hp=>by simp at hp⟩
 |slemp _ _ a cap=>
  have:d=[]:=by simpa using dS
  subst this;exact⟨some a,cap,rfl,λi p hp=>by simp at hp⟩
 |sl _ _ _ b off cap us hF lq hsz hc hr=>
  subst dS;refine⟨some ⟨b,off,none⟩,cap,by rw[aI],λi p hp=>⟨b,off,rfl,hlt b (by rcases hF with h|⟨_,h⟩<;>simp[h]),?_,?_,?_⟩⟩
  all_goals have hi:(d.map a6)[i]? =some (a6 p):=by rw[av,hp];rfl
  ·have h1:=(hc i 0 _ (.int .i64 p.kind) hi rfl).1;have h2:=hr i 0 _ (.int .i64 p.kind) hi rfl
   generalize us i 0=x at h1 h2
   cases h2;exact h1
  ·have h1:=(hc i 1 _ (.int .i64 p.n) hi rfl).1;have h2:=hr i 1 _ (.int .i64 p.n) hi rfl
   generalize us i 1=x at h1 h2
   cases h2;exact h1
  ·have h1:=(hc i 2 _ (.str p.text) hi rfl).1;have h2:=hr i 2 _ (.str p.text) hi rfl
   generalize us i 2=x at h1 h2
   cases h2;exact h1
def gP(d:List Part)(s:BS):BS×Int:=if gO d s.length=0 then(kg (cm d) s,0) else([],gO d s.length)
theorem xe(d:List Part)(hd:d.length<=maxLen)(s:BS):Spec Tryz.prog 79 [.sl true 3 (d.map a6),.str s] Hp.emp (Is (.tup [.str (gP d s).1,.int .i64 (gP d s).2])):=by
 refine⟨⟨Tryz.f79,Tryz.func79,by decide+kernel,bF.1 (by decide+kernel)⟩,λC us g hl a _=>?_⟩;have main:Calls Tryz.prog 79 us C.w0 λe w'=>e=.returned (.tuple #[.string ⟨(gP d s).1.toArray⟩,.int .i64 (gP d s).2])/\Below C.w0.heap.size C.w0 w':=by
  match us,hl,a with
  |⟨[x,y]⟩,_,a=>
   have a0:=a 0 _ x rfl rfl;have a1:=a 1 _ y rfl rfl;have j:=a0.mono (F':=xM C.w0) (B':=λ_=>False) (λb hb=>(g.F0 b hb).1) (λb hb=>.inl (g.B b hb).1);obtain⟨l,c,rfl,hat⟩:=EL a0 λb hb=>hb.elim (λh=>(g.F0 b h).1) λh=>(g.B b h).1;cases a1;have hsz:(⟨s.toArray⟩:ByteArray).size=s.length:=by show s.toArray.size=_;simp
   have f:Calls Tryz.prog 56 #[.slice l d.length c,.int .i64 ((⟨s.toArray⟩:ByteArray).size:Int)] C.w0 λe w'=>e=.returned (.int .i64 (gO d s.length))/\Below C.w0.heap.size C.w0 w':=by
    rw[hsz];refine(wC (xU d hd s.length) rfl (λi v u hv hu=>?_)).mono ?_
    ·match i with
     |0=>simp at hv hu;subst hv hu;exact j
     |1=>simp at hv hu;subst hv hu;exact .int _ _
     |i+2=>simp at hv
    ·rintro e w' ⟨⟨u,F',rfl,hu⟩,hb⟩;cases hu;exact⟨rfl,hb⟩
   unfold gP
   by_cases hf:gO d s.length=0
   ·rw[ae hf];rw[hf] at f;obtain⟨hz,jF⟩:=lz hf;obtain⟨h1,h2,h3,h4,_,_⟩:=dv hz;exact Sl.SR d c ⟨s.toArray⟩ l C.w0 h1 hat h2 (by rw[hsz];exact jF.symm) (by rw[hsz];omega) h4 f
   ·rw[aa hf];exact Sl.Qq d.length c ⟨s.toArray⟩ l C.w0 _ hf f
 refine main.mono ?_;rintro e w' ⟨rfl,hb⟩;refine⟨_,.tup [.str (gP d s).1,.int .i64 (gP d s).2],Hp.emp,C.F0,rfl,.tup _ _ rfl (λi v u hv hu=>?_),⟨λk o hk=>by simp[Hp.emp] at hk,λk k' o o' b hk=>by simp[Hp.emp] at hk,λk o b hk=>by simp[Hp.emp] at hk,λb hb=>.inl hb,λb hb=>hb,λb m=>bE (g.F0 b m).1 hb.size,?_⟩,rfl,rfl⟩
 ·match i with
  |0=>simp at hv hu;subst hv hu;exact .str _
  |1=>simp at hv hu;subst hv hu;exact .int _ _
  |i+2=>simp at hv
 ·exact⟨hb.os,hb.tape,hb.output,hb.size,λb hlt _=>hb.block b hlt,λb c e fr hc=>⟨c,fr,by rw[hb.block b (aD.1 hc).1];exact hc,rfl⟩⟩
def Hq:AC:=qr [qo 4 (.mov (.c qe)),qz 5 0] (qq (qr [qm 7 0,qm 8 1,qo 9 (.len true (.t 8)),qa 10 60 [.t 7,.t 9],qm 6 10] (qr [qm 11 6,qc 12 .neq 11 0] (qu 12 (qr [qm 13 6,qo 4 (.mov (.c qe)),qm 5 13] .ret) .skip))) (qr [qm 14 0,qa 15 83 [.t 14],qm 16 1,qa 17 84 [.t 15,.t 16],qm 4 17,qz 5 0] .ret))
theorem Qv:fo Tryz.prog 104 Tryz.f104 Hq [.t 4,.t 5] 2 eV:=⟨Tryz.func104,by decide+kernel,by kernel_rfl,by kernel_rfl,by decide+kernel⟩
theorem Qw(P:Prim)(hP:P=ca)(T d:cp)(rows:List (List V))(s r:BS)(c e:Int)(a:V)
  (hc1:fZ T 60 [.sl true 3 rows,qI (P.eP s)] (qI c))(ho:c=0->fZ T 83 [.sl true 3 rows] a)(hd:c=0->fZ T 84 [a,.str s] (.str r))
  (hr:(c≠0->r=[]/\c=e)/\(c=0->0=e))
  (R:S->Prop)(b:∀s s' r2 e2,r2=r/\e2=e->a7 s s'->hX [.t 4,.t 5] [.str r2,qI e2] s'->R s):fX P T d Hq (S0 [.sl true 3 rows,.str s] Hp.emp) R (λ_ _=>False) R:=by
 cbv;refine hc1 _ _ ?_;cbv;refine ab (λh=>?_) (λh=>?_)
 ·have hc:=fE hP h;cbv;exact b _ _ _ _ ⟨(hr.1 hc).1.symm,(hr.1 hc).2⟩ (a7.refl _) rfl
 ·have hc:=fD hP h;have f1:=ho hc;have f2:=hd hc;clear ho hd;cbv;refine f1 _ _ ?_;cbv;refine f2 _ _ ?_;cbv;exact b _ _ _ _ ⟨rfl,hr.2 hc⟩ (a7.refl _) rfl
theorem xX(d:List Part)(hd:d.length<=maxLen)(s:BS):Spec Tryz.prog 104 [.sl true 3 (d.map a6),.str s] Hp.emp (Is (.tup [.str (gP d s).1,.int .i64 (gP d s).2])):=by
 refine eW gY Qv [.str (gP d s).1,.int .i64 (gP d s).2] (.tup _ (by simp;exact⟨.str _,.int _ _⟩)) λR a=>Qw ca rfl _ _ _ s (gP d s).1 (gO d s.length) (gP d s).2 (og (e9 (cm d)) (dE (cm d)))
  (fU (vw d hd s.length) (λh=>.cons (.same _) (.cons (.same _) .nil)) rfl) (λhz=>?_) (λhz=>?_) ⟨λh=>by unfold gP;rw[aa h];exact⟨rfl,rfl⟩,λh=>by unfold gP;rw[ae h]⟩ R λs s' r2 e2 h he hr=>by obtain⟨rfl,rfl⟩:=h;exact a s s' he hr
 all_goals
  obtain⟨z,jF⟩:=lz hz;obtain⟨h1,h2,h3,h4,_,_⟩:=dv z;have e1:=hZ d h2
 ·exact fU (m8 d h1 (rC h2)) (λh=>.cons (.same _) .nil) rfl
 ·have:(gP d s).1=kg (cm d) s:=by unfold gP;rw[ae hz]
  rw[this];exact fU (vB (cm d) (kS z) s qW) (λh=>.cons (m9 h _ _) (.cons (.same _) .nil)) rfl
end Go.Proofs.YtobngncjflogcaaGreat.AM
