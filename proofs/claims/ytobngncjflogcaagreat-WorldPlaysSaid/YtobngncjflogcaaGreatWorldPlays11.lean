/-
  Part 13 of what the law WorldPlays reaches: the plain machine, contracts of the functions and plain laws; each lemma says its own condition.
-/
import Derived.Test.YtobngncjflogcaaGreatWorldPlays10
import Derived.Test.YtobngncjflogcaaGreatWorldPlays8
import Derived.Test.YtobngncjflogcaaGreatWorldPlays6
import Derived.Test.YtobngncjflogcaaGreatWorldPlays5
import Derived.Test.YtobngncjflogcaaGreatWorldPlays9
set_option linter.unusedVariables false
set_option linter.unusedSimpArgs false
namespace Go.Proofs.YtobngncjflogcaaGreat.AM
open Go Go.RowKit
set_option maxRecDepth 100000
set_option maxHeartbeats 2000000
def uA:AC:=qr [qo 3 (.box 91 3 (.t 1)),qz 4 0,qz 5 0] (qq (qq (.region true [qm 9 0,qn 10 9,qf 11 5 10,qd 12 38 11,qm 13 0,qn 14 13,qf 15 43 14,ql 16 15,qo 17 (.len true (.t 16)),qd 18 3 3,qa 19 77 [.t 12,.t 17,.t 18],qm 6 19]) (qr [qm 20 6,qc 21 .neq 20 0] (qu 21 (qr [qm 22 6,qz 4 0,qm 5 22] .ret) .skip))) (qr [qf 23 2 3,ql 24 23,qo 25 (.append 115 3 32 (.c (.slice none 0 0)) (.t 24)),qf 26 2 3,qs 1 26 25] (qr [qd 28 3 3,qa 29 78 [.t 28],qm 27 29,qx 30 0 27,qx 31 1 27,qm 7 30,qm 8 31] (qq (qr [qm 32 8,qc 33 .neq 32 0] (qu 33 (qr [qm 34 8,qz 4 0,qm 5 34] .ret) .skip)) (qr [qm 35 0,qm 36 0,qn 37 36,qf 38 4 37,ql 39 38,qm 40 7,qa 41 26 [.t 35,.t 39,.t 40]] (qq (qr [qm 42 0,qn 43 42,qf 44 45 43,ql 45 44,qo 46 (.eqp true (.t 45) (.c (.pointer none))),qm 47 46,qg 48 47 true (.mov (.t 0)),qg 49 47 true (.nilchk (.t 48)),qg 50 47 true (.faddr 45 (.t 49)),qg 51 47 true (.load1 (.t 50)),qg 52 47 true (.nilchk (.t 51)),qg 53 47 true (.faddr 2 (.t 52)),qg 54 47 true (.load1 (.t 53)),qo 55 (.pick (.t 47) (.t 54) (.c (.bool false)))] (qu 55 (qR [qm 56 0,qm 57 0,qn 58 57,qf 59 4 58,ql 60 59,qo 61 (.bin .sub (qk 1) (.t 60)),qm 62 7,qa 63 26 [.t 56,.t 61,.t 62]]) .skip)) (qq (.region true [qm 65 0,qf 66 2 3,ql 67 66,qm 68 0,qn 69 68,qf 70 43 69,ql 71 70,qa 72 79 [.t 67,.t 71],qm 64 72,qx 73 0 64,qx 74 1 64,qn 75 65,qf 76 43 75,qs 1 76 73]) (qq (qq (.region true [qm 77 0,qn 78 77,qf 79 5 78,qd 80 3 3]) (qR [qa 81 80 [.t 79,.t 80]])) (qr [qm 82 0,qa 83 34 [.t 82],qm 4 83,qz 5 0] .ret)))))))))
theorem Nh:fo Tryz.prog 43 Tryz.f43 uA [.t 4,.t 5] 2 eV:=⟨Tryz.func43,by decide+kernel,by kernel_rfl,by kernel_rfl,by decide+kernel⟩
structure qy where
 d:SC
 l:List eX
 v:Int
 e:Int
def Ta:BS:=(iu 1 0 [] λ_=>0).1
def O7:BS:=(gC 3 []).1
theorem B2(k:Int)(b:BS):(vE k b).length=b.length+7:=by
 simp[vE,kh,lP]
theorem te(k:Int)(b:BS):(gC k b).1.length<=4007:=by
 unfold gC
 split
 ·simp
 ·split
  ·simp
  ·rename_i h;rw[B2];omega
theorem E8(g b:Int)(tx:BS)(t:Nat->Int):(iu g b tx t).1.length<=4007:=by
 unfold iu
 split
 ·split
  ·simp
  ·exact te _ _
 ·simp
theorem z6(r:eX):(gN r).1.length<=4007:=by
 unfold gN
 split
 ·simp
 ·exact te _ _
theorem Ji:Ta.length+O7.length<=100000:=by
 have h1:=E8 1 0 [] λ_=>0;have h2:=te 3 [];show(iu 1 0 [] λ_=>0).1.length+(gC 3 []).1.length<=_;omega
theorem Ni:Spec Tryz.prog 5 [] (b7 []) λx h'=>∃a,(∃β,x=.ptr 5 (some β) 47 0 0/\a=[(5,fK β (fJ kL (.own 6 none 3 0) .nil)),(6,jv none [])])/\h'=b7 a:=
 fe gY Nf (L:=[]) (λx a=>∃β,x=.ptr 5 (some β) 47 0 0/\a=[(5,fK β (fJ kL (.own 6 none 3 0) .nil)),(6,jv none [])]) λR b=>
  Ng ca rfl _ _ Dd S7 Ta O7 _ (fU (I5 1 0 [] (by simp) λ_=>0) (λ_=>.cons (.same _) (.cons (.same _) (.cons (.same _) (.cons (.same _) .nil)))) rfl) (lU I9 rfl rfl) Ji R
   λs s' β d hd he hr ha=>by
    subst hd;refine b s s' (.ptr 5 (some β) 47 0 0) [(5,fK β (fJ kL (.own 6 none 3 0) .nil)),(6,jv none [])] he (eS _ _ _ (λx hx=>by rw[hx];rfl) hr) ha (.ptr _ _ _ _ _) (λp hp=>?_) ⟨β,rfl,rfl⟩
    rcases ax.1 hp with rfl|hp
    ·exact jW (.own _ _ _ _) .nil β
    ·rw[aw.1 hp];exact fW []
def O8(T:cp):Prop:=∀(k ka:Nat)(h:Hp)(K:V->Hp->Prop),h k=none->h ka=none->Nat.beq k ka=false->Nat.beq ka 5=false->(∀β d,d=kL->K (.ptr k (some β) 47 0 0) (Hp.put (Hp.put h k (fK β (fJ d (.own ka none 3 0) .nil))) ka (jv none [])))->T 5 [] h K
theorem Tb:O8 (fa Tryz.prog):=by
 intro k ka h K hk d hne c hK;have b:k≠ka:=by intro e;subst e;rw[b9] at hne;cases hne
 have a:¬ka=k:=λe=>b e.symm;have h6:gI [(5,k),(6,ka)] 6=ka:=by simp[gI]
 have h5:gI [(5,k),(6,ka)] 5=k:=by simp[gI]
 refine oe Ni (m:=[(5,k),(6,ka)]) .nil (λj o hj=>by cases hj) (λq hq=>?_) ?_
 ·simp only[ax,aF,bj] at hq
  rcases hq with rfl|rfl
  ·exact⟨h5,by simp[gT],λo ho=>by cases ho⟩
  ·exact⟨h6,by simp[gT,a],λo ho=>by cases ho⟩
 ·rintro v f ⟨β,rfl,rfl⟩;have e:h.iX [(5,k),(6,ka)] (b7 [(5,fK β (fJ kL (.own 6 none 3 0) .nil)),(6,jv none [])])=Hp.put (Hp.put h k (fK β (fJ kL (.own ka none 3 0) .nil))) ka (jv none []):=by
   funext i
   simp only[Hp.iX,Hp.put,cC,cY,cN,bC,bU]
   by_cases h1:ka=i
   ·subst h1;have hb:gT [(5,k),(6,ka)] ka=6:=by simp[gT,a]
    rw[ae (.inr rfl),ae rfl,hb];rfl
   ·by_cases h2:k=i
    ·subst h2;have hb:gT [(5,k),(6,ka)] k=5:=by simp[gT]
     rw[ae (.inl rfl),aa (λe=>h1 e.symm),ae rfl,hb];show(some (fK β (fJ kL (.own 6 none 3 0) .nil))).map (Ob.gA (gI [(5,k),(6,ka)]))=_;rw[aN,jL];show some (fK β (fJ kL (.own (gI [(5,k),(6,ka)] 6) none 3 0) .nil))=_;rw[h6]
    ·rw[aa (by rintro(h|h);exact h2 h;exact h1 h),aa (λe=>h1 e.symm),aa (λe=>h2 e.symm)]
  rw[e];have:(V.ptr 5 (some β) 47 0 0).gA (gI [(5,k),(6,ka)])=.ptr k (some β) 47 0 0:=by
   show V.ptr (gI [(5,k),(6,ka)] 5) (some β) 47 0 0=_;rw[h5]
  rw[this];exact hK β _ rfl
theorem Nj{d:SC}{ba:Option Nat}{l:List eX}{h:Hp}(h1:h 1000001=some ⟨ba,91,3,l.map a8⟩):Arg h [] (.agg [.int .i64 d.gn,.int .i64 d.b,.str d.tx,.int .i64 (d.fs 0),.int .i64 (d.fs 1),.int .i64 (d.fs 2),.int .i64 (d.fs 3),.int .i64 (d.fs 4),.int .i64 (d.fs 5),.int .i64 (d.fs 6),.int .i64 (d.fs 7),.int .i64 (d.fs 8),.int .i64 (d.fs 9),.int .i64 (d.fs 10),.int .i64 (d.fs 11),.int .i64 (d.fs 12),.int .i64 (d.fs 13),.int .i64 (d.fs 14),.int .i64 (d.fs 15),.int .i64 (d.tb 0),.int .i64 (d.tb 1),.int .i64 (d.tb 2),.int .i64 (d.tb 3),.int .i64 (d.tb 4),.int .i64 (d.tb 5),.int .i64 (d.tb 6),.int .i64 (d.tb 7),.int .i64 (d.tb 8),.int .i64 (d.tb 9),.int .i64 (d.tb 10),.int .i64 (d.tb 11),.int .i64 (d.tb 12),.int .i64 (d.tb 13),.int .i64 (d.tb 14),.int .i64 (d.tb 15),.own 1000001 ba 3 l.length,.bool d.wh,.int .i64 d.gd]) (SV d.gn d.b d.tx d.fs d.tb (l.map a8) d.wh d.gd):=by
 have hown:Arg h [] (.own 1000001 ba 3 l.length) (.sl true 3 (l.map a8)):=.own 1000001 ba 3 l.length _ (jm (by simp) h1) (by simp);obtain⟨a1,a2⟩:=yb (h:=h) (m:=[]) (l:=[.int .i64 d.gn,.int .i64 d.b,.str d.tx,.int .i64 (d.fs 0),.int .i64 (d.fs 1),.int .i64 (d.fs 2),.int .i64 (d.fs 3),.int .i64 (d.fs 4),.int .i64 (d.fs 5),.int .i64 (d.fs 6),.int .i64 (d.fs 7),.int .i64 (d.fs 8),.int .i64 (d.fs 9),.int .i64 (d.fs 10),.int .i64 (d.fs 11),.int .i64 (d.fs 12),.int .i64 (d.fs 13),.int .i64 (d.fs 14),.int .i64 (d.fs 15),.int .i64 (d.tb 0),.int .i64 (d.tb 1),.int .i64 (d.tb 2),.int .i64 (d.tb 3),.int .i64 (d.tb 4),.int .i64 (d.tb 5),.int .i64 (d.tb 6),.int .i64 (d.tb 7),.int .i64 (d.tb 8),.int .i64 (d.tb 9),.int .i64 (d.tb 10),.int .i64 (d.tb 11),.int .i64 (d.tb 12),.int .i64 (d.tb 13),.int .i64 (d.tb 14),.int .i64 (d.tb 15),.own 1000001 ba 3 l.length,.bool d.wh,.int .i64 d.gd]) (l':=[.int .i64 d.gn,.int .i64 d.b,.str d.tx,.int .i64 (d.fs 0),.int .i64 (d.fs 1),.int .i64 (d.fs 2),.int .i64 (d.fs 3),.int .i64 (d.fs 4),.int .i64 (d.fs 5),.int .i64 (d.fs 6),.int .i64 (d.fs 7),.int .i64 (d.fs 8),.int .i64 (d.fs 9),.int .i64 (d.fs 10),.int .i64 (d.fs 11),.int .i64 (d.fs 12),.int .i64 (d.fs 13),.int .i64 (d.fs 14),.int .i64 (d.fs 15),.int .i64 (d.tb 0),.int .i64 (d.tb 1),.int .i64 (d.tb 2),.int .i64 (d.tb 3),.int .i64 (d.tb 4),.int .i64 (d.tb 5),.int .i64 (d.tb 6),.int .i64 (d.tb 7),.int .i64 (d.tb 8),.int .i64 (d.tb 9),.int .i64 (d.tb 10),.int .i64 (d.tb 11),.int .i64 (d.tb 12),.int .i64 (d.tb 13),.int .i64 (d.tb 14),.int .i64 (d.tb 15),.sl true 3 (l.map a8),.bool d.wh,.int .i64 d.gd]) ((.cons (.same _) (.cons (.same _) (.cons (.same _) (.cons (.same _) (.cons (.same _) (.cons (.same _) (.cons (.same _) (.cons (.same _) (.cons (.same _) (.cons (.same _) (.cons (.same _) (.cons (.same _) (.cons (.same _) (.cons (.same _) (.cons (.same _) (.cons (.same _) (.cons (.same _) (.cons (.same _) (.cons (.same _) (.cons (.same _) (.cons (.same _) (.cons (.same _) (.cons (.same _) (.cons (.same _) (.cons (.same _) (.cons (.same _) (.cons (.same _) (.cons (.same _) (.cons (.same _) (.cons (.same _) (.cons (.same _) (.cons (.same _) (.cons (.same _) (.cons (.same _) (.cons (.same _) (.cons hown (.cons (.same _) (.cons (.same _) .nil)))))))))))))))))))))))))))))))))))))));exact .agg _ _ a1 a2
structure L3 where
 a:Int
 b:Int
 e:Int
def jz(tb:Nat->Int)(w:Int):L3:=if w<0\/7<w then⟨0,0,1⟩ else⟨tb (2*w.toNat),tb (2*w.toNat+1),0⟩
def z7:AC:=qr [qo 4 (.alloc 54 D7),qz 5 0] (qq (qr [qm 6 1,qc 7 .lss 6 0,qm 8 7,qg 9 8 false (.mov (.t 1)),qg 10 8 false (.bin .gtr (.t 9) (qk 7)),qo 11 (.pick (.t 8) (.c (.bool true)) (.t 10))] (qu 11 (qr [qo 12 (.build D7 []),qs 2 4 12,qz 5 1] .ret) .skip)) (qr [qm 13 0,qm 14 1,qn 15 13,qf 16 5 15,qf 17 19 16,qo 18 (.iarr 8 2 (.t 17) (.t 14)),qd 19 2 18,qs 2 4 19,qz 5 0] .ret))
theorem Jj:fo Tryz.prog 37 Tryz.f37 z7 [.cn 4 2,.t 5] 2 eV:=⟨Tryz.func37,by decide+kernel,by kernel_rfl,by kernel_rfl,by decide+kernel⟩
theorem Jk(P:Prim)(hP:P=ca)(T m:cp)(bl:Nat)(d:SC)(rv mv:V)(n:V.one rv=true)(o:V.one mv=true)(j:Int)(w:Nat)(hw:0<=j->j=(w:Int))(Y:L3)(i:Y=if j<0\/7<j then⟨0,0,1⟩ else⟨d.tb (2*w),d.tb (2*w+1),0⟩)
  (R:S->Prop)(k:∀s s' a b e,a=Y.a/\b=Y.b/\e=Y.e->a7 s s'->hX [.cn 4 2,.t 5] [.agg [qI a,qI b],qI e] s'->fh (S1 bl d rv mv) s'->R s):fX P T m z7 (S0 [.ptr 0 (some bl) 47 0 0,qI j] (b7 (S1 bl d rv mv))) R (λ_ _=>False) R:=by
 cbv
 repeat' first|(refine qA ?_;cbv)|(intro c;cbv)
 refine ab (λg=>?_) (λg=>?_)
 ·have g1:j<0:=fA hP g;rw[ae (.inl g1)] at i;cbv
  repeat' first|(refine qA ?_;cbv)|(intro c;cbv)
  refine k _ _ _ _ _ ⟨?_,?_,?_⟩ (a7.refl _) ⟨rfl,rfl,aj 0,ag 2,rfl⟩ ⟨rfl,trivial⟩<;>rw[i]
 have g1:¬j<0:=fg hP g;cbv
 repeat' first|(refine qA ?_;cbv)|(intro c;cbv)
 refine ab (λg=>?_) (λg=>?_)
 ·have g2:7<j:=fA hP g;rw[ae (.inr g2)] at i;cbv
  repeat' first|(refine qA ?_;cbv)|(intro c;cbv)
  refine k _ _ _ _ _ ⟨?_,?_,?_⟩ (a7.refl _) ⟨rfl,rfl,aj 0,ag 2,rfl⟩ ⟨rfl,trivial⟩<;>rw[i]
 have g2:¬7<j:=fg hP g;rw[aa (λh=>h.elim g1 g2)] at i;have l:=hw qW;have q1:P.fQ 0 j:=iQ hP qW;have q2:P.iw j 8:=kZ hP qW;have f:P.nat j=w:=by rw[l];subst hP;rfl
 have hc:w=0\/w=1\/w=2\/w=3\/w=4\/w=5\/w=6\/w=7:=by((try simp only[nc] at*);omega)
 cbv
 repeat' first|(refine qA ?_;cbv)|(intro c;cbv)
 rcases hc with rfl|rfl|rfl|rfl|rfl|rfl|rfl|rfl
 ·refine⟨0,f,?_⟩;cbv
  repeat' first|(refine qA ?_;cbv)|(intro c;cbv)
  refine k _ _ _ _ _ ⟨?_,?_,?_⟩ (a7.refl _) ⟨rfl,rfl,aj 0,ag 2,rfl⟩ ⟨rfl,trivial⟩<;>rw[i]
 ·refine⟨1,f,?_⟩;cbv
  repeat' first|(refine qA ?_;cbv)|(intro c;cbv)
  refine k _ _ _ _ _ ⟨?_,?_,?_⟩ (a7.refl _) ⟨rfl,rfl,aj 0,ag 2,rfl⟩ ⟨rfl,trivial⟩<;>rw[i]
 ·refine⟨2,f,?_⟩;cbv
  repeat' first|(refine qA ?_;cbv)|(intro c;cbv)
  refine k _ _ _ _ _ ⟨?_,?_,?_⟩ (a7.refl _) ⟨rfl,rfl,aj 0,ag 2,rfl⟩ ⟨rfl,trivial⟩<;>rw[i]
 ·refine⟨3,f,?_⟩;cbv
  repeat' first|(refine qA ?_;cbv)|(intro c;cbv)
  refine k _ _ _ _ _ ⟨?_,?_,?_⟩ (a7.refl _) ⟨rfl,rfl,aj 0,ag 2,rfl⟩ ⟨rfl,trivial⟩<;>rw[i]
 ·refine⟨4,f,?_⟩;cbv
  repeat' first|(refine qA ?_;cbv)|(intro c;cbv)
  refine k _ _ _ _ _ ⟨?_,?_,?_⟩ (a7.refl _) ⟨rfl,rfl,aj 0,ag 2,rfl⟩ ⟨rfl,trivial⟩<;>rw[i]
 ·refine⟨5,f,?_⟩;cbv
  repeat' first|(refine qA ?_;cbv)|(intro c;cbv)
  refine k _ _ _ _ _ ⟨?_,?_,?_⟩ (a7.refl _) ⟨rfl,rfl,aj 0,ag 2,rfl⟩ ⟨rfl,trivial⟩<;>rw[i]
 ·refine⟨6,f,?_⟩;cbv
  repeat' first|(refine qA ?_;cbv)|(intro c;cbv)
  refine k _ _ _ _ _ ⟨?_,?_,?_⟩ (a7.refl _) ⟨rfl,rfl,aj 0,ag 2,rfl⟩ ⟨rfl,trivial⟩<;>rw[i]
 ·refine⟨7,f,?_⟩;cbv
  repeat' first|(refine qA ?_;cbv)|(intro c;cbv)
  refine k _ _ _ _ _ ⟨?_,?_,?_⟩ (a7.refl _) ⟨rfl,rfl,aj 0,ag 2,rfl⟩ ⟨rfl,trivial⟩<;>rw[i]
theorem Jl(bl:Nat)(d:SC)(w:Int)(rv mv:V)(hq:WQ rv mv):Spec Tryz.prog 37 [.ptr 0 (some bl) 47 0 0,qI w] (b7 (S1 bl d rv mv)) λx h'=>∃c,(x=.tup [.agg [qI (jz d.tb w).a,qI (jz d.tb w).b],qI (jz d.tb w).e]/\c=S1 bl d rv mv)/\h'=b7 c:=
 yd Jj [.agg [qI (jz d.tb w).a,qI (jz d.tb w).b],qI (jz d.tb w).e] _ rfl (.tup _ (by simp;exact⟨.agg _ (by simp;exact⟨.int _ _,.int _ _⟩),.int _ _⟩)) bl d rv mv hq λR f=>Jk ca rfl _ _ bl d rv mv hq.1.2 hq.2.2 w w.toNat (λh=>by omega) (jz d.tb w) rfl R
  λs s' a b e h he hr ha=>by obtain⟨rfl,rfl,rfl⟩:=h;exact f s s' he hr ha
def Jm(T:cp):Prop:=∀(k bl:Nat)(d:SC)(rv mv:V)(w:Int)(h:Hp)(K:V->Hp->Prop),WQ rv mv->wk k rv=true->wk k mv=true->h k=some (fK bl (fJ d rv mv))->(∀a b e,a=(jz d.tb w).a->b=(jz d.tb w).b->e=(jz d.tb w).e->K (.tup [.agg [qI a,qI b],qI e]) h)->T 37 [.ptr k (some bl) 47 0 0,qI w] h K
theorem QX:Jm (fa Tryz.prog):=λk bl d rv mv w h K hq r1 r2 hk hK=>VB (Q:=WQ) (λg=>hq.rl g) (λrv mv hq=>Jl bl d w rv mv hq) rfl (λ_=>rfl) hq.1.1 hq.2.1 r1 r2 hk (hK _ _ _ rfl rfl rfl)
theorem a7.QY{s:S}{k q n ty:Nat}{b:Option Nat}{dr:List (List V)}{O f o1:Ob}{pre:List (List V)}{x y:V}(hk:s.h k=some ⟨b,ty,3,dr⟩)(hq:s.h q=some O)(g:O.rows=pre++[[x,y,.own k b 3 n]])(h0:s.h 0=some f)(h1:s.h 1000001=some o1)(hn:dr.length=n)(hz:∀r∈dr,∀v∈r,Fz v)(p:q≠0)(u:q≠1000001)(a:k≠0)(c:k≠1000001)(d:k≠q):
  a7 s ⟨s.t,b7 [(0,f),(1000001,o1),(q,⟨O.b,O.ty,O.sz,pre++[[x,y,.sl false 3 dr]]⟩)]⟩:=by
 have same:∀(j:Nat)(o:Ob),s.h j=some o->j≠k->j≠k/\∃q,s.h j=some q/\o.b=q.b/\o.ty=q.ty/\o.sz=q.sz/\o.rows.length=q.rows.length/\∀(i:Nat)(r r':List V),q.rows[i]? =some r->o.rows[i]? =some r'->r'.length=r.length/\∀(l:Nat)(v v':V),r[l]? =some v->r'[l]? =some v'->MB k b 3 n dr v v':=
  λj o ho hj=>⟨hj,o,ho,rfl,rfl,rfl,rfl,λi r r' h1 h2=>by rw[h1] at h2;cases h2;exact⟨rfl,λl v v' h3 h4=>by rw[h3] at h4;cases h4;exact .inl rfl⟩⟩
 refine a7.freeze (o:=⟨b,ty,3,dr⟩) hk rfl rfl hn hz (λj=>.inl rfl) (λj w hj=>?_);simp only[b7] at hj
 split at hj
 ·rename_i e;cases hj;subst e;exact same _ _ h0 (λe=>a e.symm)
 ·split at hj
  ·rename_i e;cases hj;subst e;exact same _ _ h1 (λe=>c e.symm)
  ·split at hj
   ·rename_i e;cases hj;subst e;refine⟨λe=>d e.symm,O,hq,rfl,rfl,rfl,by rw[g];simp,λi r r' e1 e3=>?_⟩;rw[g] at e1;simp only at e3;rw[List.getElem?_append] at e1 e3
    by_cases hi:i<pre.length
    ·rw[ae hi] at e1 e3;rw[e1] at e3;cases e3;exact⟨rfl,λl v v' h4 h5=>by rw[h4] at h5;cases h5;exact .inl rfl⟩
    ·rw[aa hi] at e1 e3;cases hp:i-pre.length with
     |zero=>
      rw[hp] at e1 e3;simp only[bq,aH] at e1 e3;subst e1 e3;refine⟨rfl,λl v v' h4 h5=>?_⟩
      match l with
      |0=>simp at h4 h5;subst h4 h5;exact .inl rfl
      |1=>simp at h4 h5;subst h4 h5;exact .inl rfl
      |2=>simp at h4 h5;subst h4 h5;exact .inr ⟨rfl,rfl⟩
      |l+3=>simp at h4
     |succ m=>rw[hp] at e1;simp at e1
   ·cases hj
def gH(d:SC)(l:List eX)(j:Int):List eX×Int:=if gl d.b l.length j≠0 then([],gl d.b l.length j) else(l.drop (j-d.b).toNat,0)
def z8:AC:=qr [qo 4 (.mov (.c (.slice none 0 0))),qz 5 0] (qq (qr [qm 10 0,qm 11 1,qa 12 75 [.t 10,.t 11],qm 6 12] (qr [qm 13 6,qc 14 .neq 13 0] (qu 14 (qr [qm 15 6,qo 4 (.mov (.c (.slice none 0 0))),qm 5 15] .ret) .skip))) (qr [qo 7 (.mov (.c (.slice none 0 0)))] (qq (qq (.region true [qm 16 0,qn 17 16,qf 18 5 17,qf 19 35 18,ql 20 19,qm 21 1,qm 22 0,qn 23 22,qf 24 5 23,qf 25 1 24,ql 26 25,qb 27 .sub 21 26,qo 28 (.slsl 3 (.t 20) (some (.t 27)) none),qo 29 (.len false (.t 28)),qz 30 0]) (.block 0 (.loop (qr [qb 31 .lss 30 29] (qq (qu 31 .skip (.exit 0)) (qq (.block 1 (qr [qo 32 (.iaddr 3 (.t 28) (.t 30)),qd 33 3 32,qo 9 (.alloc 91 F4),qs 3 9 33] (qr [qf 34 2 9,ql 35 34,qo 36 (.append 115 3 32 (.c (.slice none 0 0)) (.t 35)),qf 37 2 9,qs 1 37 36] (qR [qm 38 7,qd 39 3 9,qo 40 (.bslice 91 3 [.t 39]),qo 41 (.append 91 3 40 (.t 38) (.t 40)),qm 7 41])))) (qR [qc 42 .add 30 1,qm 30 42]))))))) (qr [qm 43 7,qm 4 43,qz 5 0] .ret))))
theorem Jn:fo Tryz.prog 40 Tryz.f40 z8 [.t 4,.t 5] 2 eV:=⟨Tryz.func40,by decide+kernel,by kernel_rfl,by kernel_rfl,by decide+kernel⟩
structure X3(l:List eX)(a:Nat) where
 i:Nat
 k:Int
 ba:Option Nat
 m:Nat
 rows:List (List V)
 hi:a+i<=l.length
 hk:k=(i:Int)
 hm:m=i
 hr:rows=((l.drop a).take i).map a8
theorem Jo(P:Prim)(hP:P=ca)(T K:cp)(B:yg T)(bl:Nat)(d:SC)(ba:Option Nat)(l:List eX)(n:Nat)(hn:n=l.length)(rows:List (List V))(dS:rows=l.map a8)(C:∀r∈l,r.delta.length<=1000000000)(mv:V)(D:wk 0 mv=true)(hm:Fz mv/\V.one mv=true)(hw:M5 mv=true)(hb:0<=d.b/\d.b<=4294967295)(E:n<=1000)(j:Int)(x:List eX)(y:Int)(hr:gH d l j=(x,y))
  (R:S->Prop)(J:∀s s' A m ro,m=x.length->ro=x.map a8->a7 s s'->hX [.t 4,.t 5] [.own 1000041 A 3 m,qI y] s'->fh [(0,fK bl (fJ d (.own 1000001 ba 3 n) mv)),(1000001,jv ba rows),(1000041,jv A ro)] s'->R s):fX P T K z8 (S0 [.ptr 0 (some bl) 47 0 0,qI j] (b7 (S2 bl d ba n rows mv))) R (λ_ _=>False) R:=by
 have L:=hm.2;unfold gH at hr;rw[<-hn] at hr;cbv
 repeat' first|(refine qA ?_;cbv)|(intro c;cbv)
 refine B 0 bl d 1000001 ba n mv j _ _ hb E hm hw rfl D rfl λq hq=>?_;rw[<-hq] at hr;cbv
 repeat' first|(refine qA ?_;cbv)|(intro c;cbv)
 refine ab (λg=>?_) (λg=>?_)
 ·have g1:q≠0:=fE hP g;rw[ae g1] at hr;cases hr;cbv
  repeat' first|(refine qA ?_;cbv)|(intro c;cbv)
  exact J _ _ none 0 [] rfl rfl (a7.nil (i:=4) (k:=1000041) (ty:=91) (sz:=3) rfl rfl) rfl ⟨rfl,rfl,rfl,trivial⟩
 have g1:q=0:=fD hP g;rw[aa (λhh=>hh g1)] at hr;have hj:d.b<=j/\j<=d.b+(n:Int):=by
  rw[g1] at hq;unfold gl at hq
  split at hq
  ·cases hq
  ·split at hq
   ·cases hq
   ·omega
 have m1:P.i64 (P.sub j d.b):=by rw[sub_eq hP];exact ft hP qW
 have m2:P.fQ 0 (P.sub j d.b):=iQ hP (by rw[sub_eq hP];omega);have Q:P.fQ (P.sub j d.b) (P.int n):=yK hP (by rw[sub_eq hP,int_eq hP];omega);have U:P.fQ (P.int n) (P.int n):=yK hP (bf _);obtain⟨a,ha⟩:∃a:Nat,P.sub j d.b=(a:Int):=⟨(j-d.b).toNat,by rw[sub_eq hP];omega⟩;have F:(j-d.b).toNat=a:=by rw[sub_eq hP] at ha;omega
 have M:a<=l.length:=by rw[sub_eq hP] at ha;omega
 rw[F] at hr;simp only[aX] at hr;obtain⟨hx,hy⟩:=hr;obtain⟨lo,u⟩:∃lo,lo=P.sub j d.b:=⟨_,rfl⟩;have G:lo=(a:Int):=by rw[u];exact ha
 cbv
 repeat' first|(refine qA ?_;cbv)|(intro c;cbv)
 rw[<-u];refine⟨X3 l a,λy=>[(0,.ptr 0 (some bl) 47 0 0),(7,.own 1000041 y.ba 3 y.m),(28,.win 1000001 ba 3 lo (P.int n)),(29,qI (P.sub (P.int n) lo)),(30,qI y.k)],
  λy=>[(0,fK bl (fJ d (.own 1000001 ba 3 n) mv)),(1000001,jv ba rows),(1000041,jv y.ba y.rows)],λy=>l.length-y.i,
  ⟨_,a7.nil (i:=7) (k:=1000041) (ty:=91) (sz:=3) rfl rfl,⟨0,0,none,0,[],qW,rfl,rfl,by simp⟩,⟨rfl,rfl,rfl,rfl,rfl,trivial⟩,⟨rfl,rfl,rfl,trivial⟩⟩,?_⟩
 rintro⟨i,k,A,m,ro,hi,hk,h,o⟩;cbv;refine ab (λg=>?_) (λg=>?_)
 ·have g2:k<P.sub (P.int n) lo:=fA hP g;have g3:k<(n:Int)-lo:=by rw[sub_eq hP,int_eq hP] at g2;exact g2
  have v:a+i<l.length:=by((try simp only[nc] at*);omega)
  obtain⟨r,ko⟩:∃r,l[a+i]? =some r:=⟨_,af v⟩;have sS:P.add lo k=((a+i:Nat):Int):=by rw[add_eq hP,G,hk];simp
  have f:P.row rows (P.nat (P.add lo k)) [qI r.who,qI r.seq,.sl false 3 (r.delta.map a6)]:=fL hP sS (by rw[dS,av,ko];rfl);have H:(r.delta.map a6).length<=1000000000:=by have:=C r (az ko);simpa using this
  have z:=ff r.delta;have p:((l.drop a).take (i+1)).map a8=ro++[[qI r.who,qI r.seq,.sl false 3 (r.delta.map a6)]]:=by
   have e:(l.drop a)[i]? =some r:=by rw[bg];exact ko
   rw[o,ei,e];simp[a8,fc]
  generalize r.delta.map a6=dr at f H z p
  obtain⟨w,hw⟩:∃w,r.who=w:=⟨_,rfl⟩;obtain⟨sq,I⟩:∃w,r.seq=w:=⟨_,rfl⟩;rw[hw,I] at f p;have q1:P.fQ 0 k:=iQ hP (by rw[hk];exact aT _);have q2:P.iw k (P.sub (P.int n) lo):=kZ hP g2;have W:P.i64 (P.add k 1):=by rw[add_eq hP];exact ft hP qO
  have N:P.add k 1=((i+1:Nat):Int):=by rw[add_eq hP,hk];simp
  have f1:P.bytes (P.da dr) 32:=by subst hP;show(dr.length:Int)*32<=_;((try simp only[nc] at*);omega)
  have f2:dr.length=P.gp dr:=by subst hP;rfl
  have f4:P.oc ro m:=mB hP _ _ (by rw[o,h];simp;omega);have f5:∀r,P.bytes (P.add (P.int m) (P.da [r])) 40:=by intro r;subst hP;show((m:Int)+1)*40<=_;((try simp only[nc] at*);omega)
  have f6:∀r,P.oc [r] 1:=by intro r;subst hP;rfl
  have f7:∀r,P.je ro [r]=ro++[r]:=by intro r;subst hP;rfl
  have f8:∀r:List V,P.jf m (P.gp [r])=i+1:=by intro r;rw[<-h];subst hP;rfl
  cbv
  repeat' first|(refine qA ?_;cbv)|(intro c;cbv)
  refine⟨_,f,?_⟩;cbv
  repeat' first|(refine And.intro (by first|assumption|decide|exact f6 _|exact f5 _) ?_;cbv)|(intro O;cbv)
  rw[f7,f8];refine⟨_,a7.QY (k:=1000036) (q:=1000041) rfl rfl rfl rfl rfl f2 z qD qD qD qD qD,⟨i+1,_,_,i+1,_,qW,N,rfl,p.symm⟩,⟨rfl,rfl,rfl,rfl,rfl,trivial⟩,⟨rfl,rfl,rfl,trivial⟩,?_⟩;show l.length-(i+1)<l.length-i;omega
 ·have g2:¬k<P.sub (P.int n) lo:=fg hP g;have g3:¬k<(n:Int)-lo:=by rw[sub_eq hP,int_eq hP] at g2;exact g2
  have v:a+i=l.length:=by((try simp only[nc] at*);omega)
  cbv
  repeat' first|(refine qA ?_;cbv)|(intro c;cbv)
  subst hy;refine J _ _ A m ro ?_ ?_ (a7.refl _) rfl ⟨rfl,rfl,rfl,trivial⟩
  ·rw[h,<-hx];simp;omega
  ·rw[o,<-hx,bD (by simp;omega)]
theorem Jp(bl:Nat)(d:SC)(ba:Option Nat)(l:List eX)(e:∀r∈l,r.delta.length<=1000000000)(hb:0<=d.b/\d.b<=4294967295)(f:l.length<=1000)(j:Int)(mv:V)(hq:MQ mv):Spec Tryz.prog 40 [.ptr 0 (some bl) 47 0 0,qI j] (b7 (S2 bl d ba l.length (l.map a8) mv))
  λx h'=>∃c,(∃a,x=.tup [.own 1000041 a 3 (gH d l j).1.length,qI (gH d l j).2]/\c=[(0,fK bl (fJ d (.own 1000001 ba 3 l.length) mv)),(1000001,jv ba (l.map a8)),(1000041,jv a ((gH d l j).1.map a8))])/\h'=b7 c:=
 fe gY Jn (L:=S2 bl d ba l.length (l.map a8) mv) (λx c=>∃a,x=.tup [.own 1000041 a 3 (gH d l j).1.length,qI (gH d l j).2]/\c=[(0,fK bl (fJ d (.own 1000001 ba 3 l.length) mv)),(1000001,jv ba (l.map a8)),(1000041,jv a ((gH d l j).1.map a8))]) λR h=>
  Jo ca rfl _ _ IS bl d ba l _ rfl _ rfl e mv (S8 hq.2) hq.1 hq.2 hb f j _ _ rfl R λs s' a m ro hm g he hr ha=>by
   subst hm g;refine h s s' _ _ he (eS _ _ _ (λx hx=>by rw[hx];rfl) hr) ha (.tup _ (by simp;exact⟨.own _ _ _ _,.int _ _⟩)) (λp hp=>?_) ⟨a,rfl,rfl⟩;simp only[ax,aF,bj] at hp
   rcases hp with rfl|rfl|rfl
   ·exact jW (.own _ _ _ _) hq.1.1 bl
   ·exact fW _
   ·exact fW _
inductive Rk(k k':Nat):V->V->Prop
 |same (v):Rk k k' v v
 |own (b sz n):Rk k k' (.own k b sz n) (.own k' b sz n)
theorem Rk.rel{k k':Nat}{F B:Nat->Prop}{w:World}{v v':V}{u:Value}(h:Rk k k' v v')(hr:Rel F B w v u):Rel F B w v' u:=by
 cases h with
 |same=>exact hr
 |own b sz n=>
  cases hr with
  |ownnil=>exact .ownnil _ _
  |own _ b _ _ cap c e fr h hs hm hn=>exact .own _ b _ _ cap c e fr h hs hm hn
theorem a7.move{s:S}{k k' q:Nat}{o O:Ob}{rows':List (List V)}(hk:s.h k=some o)(x:s.h k'=none)(hq:s.h q=some O)(y:q≠k)
  (hl:rows'.length=O.rows.length)(hr:∀(i:Nat)(r r':List V),O.rows[i]? =some r->rows'[i]? =some r'->r'.length=r.length/\∀(l:Nat)(v v':V),r[l]? =some v->r'[l]? =some v'->Rk k k' v v'):
  a7 s ⟨s.t,Hp.put (Hp.put (Hp.del s.h k) k' o) q ⟨O.b,O.ty,O.sz,rows'⟩⟩:=by
 intro C T a w U hs0;obtain⟨F,hs,h2⟩:=hs0.ex;have d:q≠k':=λe=>by rw[e,x] at hq;cases hq
 have L:k≠k':=λe=>by rw[e,x] at hk;cases hk
 have look:∀j p,Hp.put (Hp.put (Hp.del s.h k) k' o) q ⟨O.b,O.ty,O.sz,rows'⟩ j=some p->
   (j=q/\p=⟨O.b,O.ty,O.sz,rows'⟩)\/(j=k'/\p=o)\/(j≠q/\j≠k'/\j≠k/\s.h j=some p):=by
  intro j p hj;simp only[Hp.put,Hp.del] at hj
  by_cases h1:j=q
  ·rw[ae h1] at hj;cases hj;exact .inl ⟨h1,rfl⟩
  ·rw[aa h1] at hj
   by_cases h3:j=k'
   ·rw[ae h3] at hj;cases hj;exact .inr (.inl ⟨h3,rfl⟩)
   ·rw[aa h3] at hj
    by_cases h4:j=k
    ·rw[ae h4] at hj;cases hj
    ·rw[aa h4] at hj;exact .inr (.inr ⟨h1,h3,h4,hj⟩)
 have jq:∀j p,Hp.put (Hp.put (Hp.del s.h k) k' o) q ⟨O.b,O.ty,O.sz,rows'⟩ j=some p->∃m,s.h (if j=k' then k else j)=some m/\m.b=p.b:=by
  intro j p hj
  rcases look j p hj with⟨rfl,rfl⟩|⟨rfl,rfl⟩|⟨_,h3,_,h4⟩
  ·rw[aa d];exact⟨O,hq,rfl⟩
  ·rw[ae rfl];exact⟨_,hk,rfl⟩
  ·rw[aa h3];exact⟨p,h4,rfl⟩
 refine⟨⟨F,⟨λj p hj=>?_,λj M p N b1 hj z hb1 hb2=>?_,λj p b1 hj hb1=>?_,hs.jq,hs.new,hs.lt,hs.ev⟩,h2⟩,hs0.df,hs0.sz⟩
 ·rcases look j p hj with⟨rfl,rfl⟩|⟨rfl,rfl⟩|⟨_,_,_,h4⟩
  ·have n:=hs.ob j O hq;unfold fy at n⊢;simp only;cases hb:O.b with
   |none=>
    rw[hb] at n;simp only at n⊢;rw[n] at hl;exact aq hl
   |some b1=>
    rw[hb] at n;obtain⟨c,cap,g1,g2,g3,g4,g5,g6⟩:=n;refine⟨c,cap,g1,g2,g3,qW,λr' D=>?_,λi l r' v' hi A=>?_⟩
    ·obtain⟨i,hi⟩:=cP.1 D;have E:=(ah.1 hi).1;have f:O.rows[i]? =some (O.rows[i]'qW):=af qW;rw[(hr i _ r' f hi).1];exact g5 _ (az f)
    ·have E:=(ah.1 hi).1;have f:O.rows[i]? =some (O.rows[i]'qW):=af qW;obtain⟨f1,f2⟩:=hr i _ r' f hi;have P:=(ah.1 A).1;have B:(O.rows[i]'qW)[l]? =some ((O.rows[i]'qW)[l]'qW):=af qW;obtain⟨u,k1,k2,Q⟩:=g6 i l _ _ f B;exact⟨u,k1,k2,(f2 l _ v' B A).rel Q⟩
  ·exact hs.ob k _ hk
  ·exact hs.ob j p h4
 ·obtain⟨m,e1,e2⟩:=jq j p hj;obtain⟨G,H,I⟩:=jq M N z;have:=hs.inj _ _ m G b1 e1 H (by rw[e2];exact hb1) (by rw[I];exact hb2)
  rcases look j p hj with⟨rfl,rfl⟩|⟨rfl,rfl⟩|⟨h5,h6,h7,h4⟩<;>rcases look M N z with⟨rfl,rfl⟩|⟨rfl,rfl⟩|⟨J,g,K,R⟩
  ·rfl
  ·rw[aa d,ae rfl] at this;exact absurd this y
  ·rw[aa d,aa g] at this;exact absurd this.symm J
  ·rw[ae rfl,aa d] at this;exact absurd this.symm y
  ·rfl
  ·rw[ae rfl,aa g] at this;exact absurd this.symm K
  ·rw[aa h6,aa d] at this;exact absurd this h5
  ·rw[aa h6,ae rfl] at this;exact absurd this h7
  ·rw[aa h6,aa g] at this;exact this
 ·obtain⟨m,e1,e2⟩:=jq j p hj;exact hs.live _ m b1 e1 (by rw[e2];exact hb1)
def z0(_:Nat):Nat:=0
theorem a7.names{s s':S}(g:Nat->Nat)(ht:∀i,s'.t i=s.t i\/s'.t i=.gS)(hh:∀k o,s'.h k=some o->∃q,s.h (g k)=some q/\o.b=q.b/\o.gA z0=q.gA z0)(hg:∀k k' o o',s'.h k=some o->s'.h k'=some o'->g k=g k'->k=k'):a7 s s':=by
 intro C n a w p hs;obtain⟨F,h1,h2⟩:=hs.ex;refine⟨⟨F,⟨λk o hk=>?_,λk k' o o' b hk c hb d=>?_,λk o b hk hb=>?_,h1.jq,h1.new,h1.lt,h1.ev⟩,λi=>?_⟩,hs.df,hs.sz⟩
 ·obtain⟨q,q1,q2,e⟩:=hh k o hk;have:=(h1.ob (g k) q q1).gA z0;rw[<-e] at this;exact this.Cw z0
 ·obtain⟨q,q1,q2,e⟩:=hh k o hk;obtain⟨l,f,j,m⟩:=hh k' o' c;exact hg k k' o o' hk c (h1.inj _ _ q l b q1 f (q2.symm.trans hb) (j.symm.trans d))
 ·obtain⟨q,q1,q2,e⟩:=hh k o hk;exact h1.live (g k) q b q1 (q2.symm.trans hb)
 ·rcases ht i with h|h
  ·rw[h];exact h2 i
  ·rw[h];exact .gS _
def B3:List (Nat×Nat×Ob)->S->Prop
 |[],_=>True
 |(_,j,o)::l,s=>(∃q,s.h j=some q/\o.b=q.b/\o.gA z0=q.gA z0)/\B3 l s
def QZ(l:List (Nat×Nat×Ob)):List (Nat×Ob):=l.map λp=>(p.1,p.2.2)
def yh(l:List (Nat×Nat×Ob))(k:Nat):Nat:=match l with
 |[]=>k
 |p::l=>if k=p.1 then p.2.1 else yh l k
theorem rZ:∀(l:List (Nat×Nat×Ob))(s:S)(k:Nat)(o:Ob),B3 l s->b7 (QZ l) k=some o->(∃q,s.h (yh l k)=some q/\o.b=q.b/\o.gA z0=q.gA z0)/\∃p∈l,p.1=k/\p.2.1=yh l k
 |[],_,_,_,_,h=>by cases h
 |(k',j,o')::l,s,k,o,ha,h=>by
  simp only[QZ,aL,b7] at h
  by_cases hk:k=k'
  ·rw[ae hk] at h;cases h;have e:yh ((k',j,o')::l) k=j:=by simp[yh,hk]
   rw[e];exact⟨ha.1,_,bS,hk.symm,rfl⟩
  ·rw[aa hk] at h;have e:yh ((k',j,o')::l) k=yh l k:=by simp[yh,hk]
   rw[e];obtain⟨h1,p,hp,h2⟩:=rZ l s k o ha.2 h;exact⟨h1,p,bM _ hp,h2⟩
theorem xm:∀{l:List (Nat×Nat×Ob)},(l.map (·.2.1)).Nodup->∀p∈l,∀q∈l,p.2.1=q.2.1->p=q
 |[],_,p,hp,_,_,_=>by cases hp
 |x::l,h,p,hp,q,hq,e=>by
  rw[aL,cM] at h
  rcases ax.1 hp with h1|h1<;>rcases ax.1 hq with h2|h2
  ·rw[h1,h2]
  ·rw[h1] at e;exact absurd (aC.2 ⟨q,h2,e.symm⟩) h.1
  ·rw[h2] at e;exact absurd (aC.2 ⟨p,h1,e⟩) h.1
  ·exact xm h.2 p h1 q h2 e
theorem qB:∀{L:List (Nat×Ob)}{k:Nat},k∈L.map (·.1)->∃o,b7 L k=some o
 |[],_,h=>by cases h
 |(j,o)::L,k,h=>by
  simp only[b7]
  by_cases he:k=j
  ·rw[ae he];exact⟨_,rfl⟩
  ·rw[aa he];rw[aL] at h
   rcases ax.1 h with h|h
   ·exact absurd h he
   ·exact qB h
theorem fy.take{F B:Nat->Prop}{w:World}{b:Option Nat}{ty sz:Nat}{rows:List (List V)}(h:fy F B w ⟨b,ty,sz,rows⟩)(n:Nat):fy F B w ⟨b,ty,sz,rows.take n⟩:=by
 unfold fy at h⊢;cases b with
 |none=>simp only at h⊢;rw[h];simp
 |some b=>
  obtain⟨c,cap,hc,h1,h2,h3,h4,h5⟩:=h;have h3:rows.length<=cap:=h3;refine⟨c,cap,hc,h1,h2,by show(rows.take n).length<=cap;rw[aZ];omega,λr hr=>h4 r (cS hr),λi j r v hi hj=>?_⟩;refine h5 i j r v ?_ hj;have hi:(rows.take n)[i]? =some r:=hi;rw[bn] at hi
  split at hi
  ·exact hi
  ·cases hi
theorem py:∀{m:List (Nat×Nat)},(m.map (·.1)).Nodup->∀p∈m,gI m p.1=p.2
 |[],_,_,h=>by cases h
 |(a,b)::m,hn,p,hp=>by
  rw[aL,cM] at hn
  rcases ax.1 hp with rfl|hp
  ·simp[gI]
  ·have:p.1≠a:=λe=>hn.1 (aC.2 ⟨p,hp,e⟩);simp only[gI];rw[aa this];exact py hn.2 p hp
theorem pz:∀{m:List (Nat×Nat)},(m.map (·.2)).Nodup->∀p∈m,gT m p.2=p.1
 |[],_,_,h=>by cases h
 |(a,b)::m,hn,p,hp=>by
  rw[aL,cM] at hn
  rcases ax.1 hp with rfl|hp
  ·simp[gT]
  ·have:p.2≠b:=λe=>hn.1 (aC.2 ⟨p,hp,e⟩);simp only[gT];rw[aa this];exact pz hn.2 p hp
def Hp.e9(h:Hp)(l:List (Nat×Ob))(i:Nat):Option Ob:=match b7 l i with
 |some o=>some o
 |none=>h i
def oo(m:List (Nat×Nat))(F:Ob->Ob)(L:List (Nat×Ob)):List (Nat×Ob):=List.zipWith (λp q=>(p.2,F q.2)) m L
theorem xn(F:Ob->Ob):∀(m:List (Nat×Nat))(L:List (Nat×Ob)),L.map (·.1)=m.map (·.1)->(m.map (·.1)).Nodup->(m.map (·.2)).Nodup->∀i,b7 (oo m F L) i=if m.any (λp=>decide (p.2=i)) then(b7 L (gT m i)).map F else none
 |[],[],_,_,_,i=>rfl
 |[],_::_,h,_,_,_=>by cases h
 |_::_,[],h,_,_,_=>by cases h
 |(a,b)::m,(c,o)::L,h,n1,n2,i=>by
  simp only[aL,bB] at h;obtain⟨h1,h2⟩:=h;subst h1;rw[aL,cM] at n1 n2;have ih:=xn F m L h2 n1.2 n2.2 i;show(if i=b then some (F o) else b7 (oo m F L) i)=_
  by_cases hi:i=b
  ·subst hi;simp[gT,b7]
  ·have hi2:¬b=i:=λe=>hi e.symm;rw[aa hi,ih];simp only[cC,hi2,decide_false,Bool.false_or,gT,aa hi]
   by_cases hm:(m.any λp=>decide (p.2=i))=true
   ·rw[ae hm,ae hm];obtain⟨p,hp,d⟩:=cE.1 hm;have d:p.2=i:=by simpa using d
    have hb:=pz n2.2 p hp;rw[d] at hb;rw[hb];have:p.1≠c:=λe=>n1.1 (aC.2 ⟨p,hp,e⟩);simp only[b7];rw[aa this]
   ·rw[aa hm,aa hm]
theorem Aa(h:Hp)(m:List (Nat×Nat))(L:List (Nat×Ob))(h1:L.map (·.1)=m.map (·.1))(n1:(m.map (·.1)).Nodup)(n2:(m.map (·.2)).Nodup)(b:m≠[]):h.iX m (b7 L)=h.e9 (oo m (Ob.gA (gI m)) L):=by
 have key:=xn (Ob.gA (gI m)) m L h1 n1 n2;cases m with
 |nil=>exact absurd rfl b
 |cons q m=>
  funext i
  show(if((q::m).any λp=>decide (p.2=i))=true then(b7 L (gT (q::m) i)).map (Ob.gA (gI (q::m))) else h i)=_;unfold Hp.e9;rw[key i]
  by_cases hm:((q::m).any λp=>decide (p.2=i))=true
  ·rw[ae hm,ae hm];obtain⟨p,hp,a⟩:=cE.1 hm;have a:p.2=i:=by simpa using a
   have hb:=pz n2 p hp;rw[a] at hb;rw[hb];have:∃o,b7 L p.1=some o:=qB (by rw[h1];exact aC.2 ⟨p,hp,rfl⟩);obtain⟨o,ho⟩:=this;rw[ho];rfl
  ·rw[aa hm,aa hm]
theorem vJ{P:Program}{f:Nat}{args args':List V}{L:List (Nat×Ob)}(m:List (Nat×Nat)){post:V->List (Nat×Ob)->Prop}(hs:Spec P f args' (b7 L) λv' h'=>∃a,post v' a/\h'=b7 a){h:Hp}{K:V->Hp->Prop}(ha:k6 h m args args')
  (n1:(m.map (·.1)).Nodup)(n2:(m.map (·.2)).Nodup)(hne:m≠[])(b:∀p∈L,∃q∈m,q.1=p.1)(c:∀p∈L,((h (gI m p.1)).map (Ob.gA (gT m))=some p.2)/\p.2.Fz)
  (d:∀v a,post v a->a.map (·.1)=m.map (·.1))(hK:∀v a,post v a->K (v.gA (gI m)) (h.e9 (oo m (Ob.gA (gI m)) a))):fa P f args h K:=by
 refine oe hs (m:=m) ha (λk o hk=>?_) (λq hq=>?_) (λv a hp=>?_)
 ·obtain⟨q,hq,e⟩:=b _ (jk hk);exact⟨q,hq,e⟩
 ·refine⟨py n1 q hq,pz n2 q hq,λo ho=>?_⟩;have:=c _ (jk ho);simp only[py n1 q hq] at this;exact this
 ·rw[Aa h m a (d v a hp) n1 n2 hne];exact hK v a hp
theorem Jq{P:Program}{f:Nat}{args args':List V}{L:List (Nat×Ob)}(m:List (Nat×Nat)){v:V}(hs:Spec P f args' (b7 L) λv' h'=>∃b,(v'=v/\b=L)/\h'=b7 b){h:Hp}{K:V->Hp->Prop}(ha:k6 h m args args')
  (n1:(m.map (·.1)).Nodup)(n2:(m.map (·.2)).Nodup)(a:L.map (·.1)=m.map (·.1))(c:∀p∈L,((h (gI m p.1)).map (Ob.gA (gT m))=some p.2)/\p.2.Fz)
  (hK:K (v.gA (gI m)) h):fj P f args h K:=by
 refine⟨m,args',b7 L,v,⟨hs.fn,λC us a1 a2 a3 a4=>(hs.run C us a1 a2 a3 a4).mono ?_⟩,ha,λk o hk=>?_,λq hq=>?_,hK⟩
 ·rintro e w' ⟨u,x,h',F',e1,e2,e3,b,⟨rfl,rfl⟩,rfl⟩;exact⟨u,_,_,F',e1,e2,e3,rfl,rfl⟩
 ·have h1:k∈L.map (·.1):=aC.2 ⟨(k,o),jk hk,rfl⟩;rw[a] at h1;obtain⟨q,hq,e⟩:=aC.1 h1;exact⟨q,hq,e⟩
 ·have d:q.1∈L.map (·.1):=by rw[a];exact aC.2 ⟨q,hq,rfl⟩
  obtain⟨o,ho⟩:=qB d;have:=c _ (jk ho);simp only[py n1 q hq] at this;exact⟨py n1 q hq,pz n2 q hq,o,ho,this.1,this.2⟩
theorem Ab(n:Nat)(h:n<16384):(jg n).length<=2:=by
 unfold jg
 by_cases hn:n<128
 ·rw[mz _ n hn];simp
 ·rw[qw _ n hn,mz _ (n/128) qW];simp
theorem xo:∀(d:List Part),(∀p∈d,oq p)->(((d.map om).flatten).length:Int)<=2*d.length+gX d/\(d.length:Int)<=jy d+gX d
 |[],_=>by simp[jy,gX]
 |p::d,h=>by
  obtain⟨h1,h2,h3,h4⟩:=gu (h p (by simp));obtain⟨i1,i2⟩:=xo d λq hq=>h q (by simp[hq]);have hk:1<=p.kind/\p.kind<=3:=by rcases h4 with⟨h,_⟩|⟨h|h,_⟩<;>omega
  have hl:(jg (4*(p.n+p.text.length)+p.kind).toNat).length<=2:=Ab _ qW;simp only[aL,bI,an,ar,jy,gX,om]
  rcases h4 with⟨g1,g2,g3⟩|⟨g1,g2,g3⟩
  ·have:0<p.text.length:=dQ.2 g3;rw[aa qW,aa qW,aa qW];omega
  ·have h0:p.text.length=0:=by rw[g3];rfl
   rw[ae g1]
   split<;>(try split)<;>omega
theorem E9{d:List Part}(h:cF d=0):(codeF d).length<=2600:=by
 have h1:=dv h;obtain⟨i1,i2⟩:=xo d h1.2.1;have:=Ab d.length qW;unfold codeF;rw[an];omega
def uB(r:eX):BS:=jg r.who.toNat++jg r.seq.toNat++codeF r.delta
theorem nH{r:eX}(h:iH r=0):(0<=r.who/\r.who<=7)/\(0<=r.seq/\r.seq<=2147483647)/\cF r.delta=0:=by
 unfold iH at h
 split at h
 ·exact absurd h qD
 ·exact⟨qW,qW,h⟩
theorem tP{r:eX}(h:iH r=0):(uB r).length<=4000:=by
 obtain⟨_,_,h3⟩:=nH h;have:=E9 h3;have:=rO 5 r.who.toNat;have:=rO 5 r.seq.toNat;unfold uB jg;simp only[an];omega
def sa(g b:Int)(tx:BS)(t:Nat->Int):BS:=lQ (jc g b t)++tx
theorem sb{g b:Int}{tx:BS}{t:Nat->Int}(h:tx.length<=500):(sa g b tx t).length<=4000:=by
 have:=nF (jc g b t);rw[nG] at this;unfold sa;rw[an];omega
structure B4(g b:Int)(tx:BS)(t:Nat->Int):Prop where
 g:nX g
 b:nX b
 tx:tx.length<=500
 t:∀j,j<16->nX (t j)
theorem B4.flat{g b:Int}{tx:BS}{t:Nat->Int}(h:B4 g b tx t):∀n∈jc g b t,nX n:=by
 intro n hn;simp only[jc,ax,aF,bj] at hn
 rcases hn with rfl|rfl|rfl|rfl|rfl|rfl|rfl|rfl|rfl|rfl|rfl|rfl|rfl|rfl|rfl|rfl|rfl|rfl
 ·exact h.g
 ·exact h.b
 all_goals exact h.t _ qD
def Jr(f:Frame):Prop:=1<=f.kind/\f.kind<=255/\f.body.length<=4000
def qV(f:Frame):BS:=vE f.kind f.body
theorem nY(f:Frame):(qV f).length=f.body.length+7:=by simp[qV,vE,kh,lP]
def ig(l:List Frame):BS:=(l.map qV).flatten
theorem B5(f:Frame)(l:List Frame):ig (f::l)=qV f++ig l:=by simp[ig]
theorem xq(a b:List Frame):ig (a++b)=ig a++ig b:=by simp[ig]
theorem iy(ts:List fP):fH (.keep::ts)=fH ts+1:=by simp[fH,dE]
theorem kB(ts:List fP):fH (.cut::ts)=fH ts+1:=by simp[fH,dE]
theorem Js(b:UInt8)(ts:List fP):fH (.put b::ts)=fH ts:=rfl
theorem kU(ts:List fP):fi (.keep::ts)=fi ts+1:=rfl
theorem pA(ts:List fP):fi (.cut::ts)=fi ts:=rfl
theorem pB(b:UInt8)(ts:List fP):fi (.put b::ts)=fi ts+1:=rfl
theorem Jt{d:List Part}(h:cF d=0):∀p∈d,oq p:=(dv h).2.1
theorem tQ{d:List Part}(h:cF d=0):(fH (cm d):Int)=jy d:=(hZ _ (Jt h))
theorem qC{d:List Part}(h:cF d=0):(fi (cm d):Int)=gX d:=(ja _ (Jt h))
theorem pC{d:List Part}{s:BS}(h:(gP d s).2=0):cF d=0/\fH (cm d)=s.length/\(gP d s).1.length=fi (cm d)/\s.length<=500:=by
 unfold gP at h⊢
 by_cases hf:gO d s.length=0
 ·obtain⟨h1,h2⟩:=lz hf;have h3:=tQ h1;have h4:=dv h1;rw[ae hf];have h5:fH (cm d)=s.length:=by omega
  refine⟨h1,h5,?_,qW⟩;exact uk _ _ h5.symm
 ·rw[aa hf] at h;exact absurd h hf
def Dk(cur:BS)(l:List eX):BS:=(cur::(oB cur l).1).getD l.length []
theorem Ac{cur:BS}{r:eX}{l:List eX}(h:(oB cur (r::l)).2=0):iH r=0/\(gP r.delta cur).2=0/\(oB (gP r.delta cur).1 l).2=0/\(oB cur (r::l)).1=(gP r.delta cur).1::(oB (gP r.delta cur).1 l).1:=by
 rw[oB] at h⊢
 by_cases h1:iH r≠0
 ·rw[ae h1] at h;exact absurd h h1
 rw[aa h1] at h⊢
 by_cases h2:(gP r.delta cur).2≠0
 ·rw[ae h2] at h;exact absurd h h2
 rw[aa h2] at h⊢;exact⟨aG h1,aG h2,h,rfl⟩
theorem B6{cur:BS}{r:eX}{l:List eX}(h:(oB cur (r::l)).2=0):Dk cur (r::l)=Dk (gP r.delta cur).1 l:=by
 unfold Dk;rw[(Ac h).2.2.2];rfl
def yi(f g:Nat->Int):Prop:=∀j,j<16->f j=g j
theorem yi.refl(f:Nat->Int):yi f f:=λ_ _=>rfl
theorem yi.symm{f g:Nat->Int}(h:yi f g):yi g f:=λj hj=>(h j hj).symm
theorem yi.trans{f g k:Nat->Int}(h:yi f g)(h':yi g k):yi f k:=λj hj=>(h j hj).trans (h' j hj)
theorem yi.add{f g:Nat->Int}(h:yi f g)(w:Nat)(q n:Int):yi (kG f w q n) (kG g w q n):=λj hj=>by
 unfold kG
 split
 ·rfl
 ·split
  ·rfl
  ·exact h j hj
def iK:(Nat->Int)->Int->List eX->Nat->Int
 |fs,_,[]=>fs
 |fs,b,r::l=>iK (kG fs r.who.toNat r.seq (b+1)) (b+1) l
theorem vK:∀(a c:List eX)(fs:Nat->Int)(b:Int),iK fs b (a++c)=iK (iK fs b a) (b+a.length) c
 |[],c,fs,b=>by simp[iK]
 |r::a,c,fs,b=>by
  rw[ay,iK,iK,vK a c]
  congr 1
  simp only[ar];omega
theorem Ad:∀(a:List eX)(f g:Nat->Int)(b:Int),yi f g->yi (iK f b a) (iK g b a)
 |[],_,_,_,h=>h
 |r::a,_,_,_,h=>Ad a _ _ _ (h.add _ _ _)
def gj(b:Int):(Nat->Int)->Nat->BS->List eX->Prop
 |_,_,_,[]=>True
 |tb,i,now,r::l=>gL b tb i now.length r=0/\gj b (kG tb r.who.toNat r.seq (b+(i:Int)+1)) (i+1) (gP r.delta now).1 l
def lK(now:BS):List eX->BS
 |[]=>now
 |r::l=>lK (gP r.delta now).1 l
theorem sc:∀(a c:List eX)(now:BS),lK now (a++c)=lK (lK now a) c
 |[],_,_=>rfl
 |r::a,c,now=>sc a c _
theorem Ae{b:Int}{f g:Nat->Int}(h:yi f g)(i:Nat)(n:Int)(r:eX):gL b f i n r=gL b g i n r:=by
 unfold gL
 by_cases h1:iH r≠0
 ·rw[ae h1,ae h1]
 ·have:=nH (aG h1);rw[aa h1,aa h1,h (2*r.who.toNat) qW]
theorem l9{b:Int}:∀(a c:List eX)(tb:Nat->Int)(i:Nat)(now:BS),gj b tb i now (a++c)↔gj b tb i now a/\gj b (iK tb (b+(i:Int)) a) (i+a.length) (lK now a) c
 |[],c,tb,i,now=>by simp[gj,iK,lK]
 |r::a,c,tb,i,now=>by
  rw[ay,gj,l9 a c,gj,iK,lK,and_assoc];have e1:b+((i+1:Nat):Int)=b+(i:Int)+1:=by omega
  have e2:i+1+a.length=i+(r::a).length:=by simp only[ar];omega
  rw[e1,e2]
theorem lB{b:Int}{tb:Nat->Int}{i:Nat}{n:Int}{r:eX}(h:gL b tb i n r=0):iH r=0/\gO r.delta n=0/\i<64/\b+(i:Int)<2147483647/\tb (2*r.who.toNat)<r.seq:=by
 unfold gL at h
 by_cases h1:iH r≠0
 ·rw[ae h1] at h;exact absurd h h1
 rw[aa h1] at h
 by_cases h2:r.seq<=tb (2*r.who.toNat)
 ·rw[ae h2] at h;exact absurd h qD
 rw[aa h2] at h
 by_cases h3:64<=(i:Int)\/2147483647<=b+i
 ·rw[ae h3] at h;exact absurd h qD
 rw[aa h3] at h;exact⟨aG h1,h,qW,qW,qW⟩
theorem ma{b:Int}:∀(l:List eX)(tb:Nat->Int)(i:Nat)(now:BS),gj b tb i now l->∀r∈l,iH r=0
 |[],_,_,_,_,_,h=>by cases h
 |r::l,_,_,_,hc,q,hq=>by
  rcases ax.1 hq with rfl|hq
  ·exact(lB hc.1).1
  ·exact ma l _ _ _ hc.2 q hq
theorem pD{b:Int}:∀(l:List eX)(tb:Nat->Int)(i:Nat)(now:BS),gj b tb i now l->l=[]\/i+l.length<=64/\b+((i+l.length:Nat):Int)<=2147483647
 |[],_,_,_,_=>.inl rfl
 |r::l,_,i,_,hc=>by
  have h1:=lB hc.1
  right
  rcases pD l _ _ _ hc.2 with rfl|h
  ·simp only[ar,aK];omega
  ·simp only[ar];omega
theorem nZ{b:Int}{tb:Nat->Int}{i:Nat}{now:BS}{r:eX}(h:gL b tb i now.length r=0):(gP r.delta now).2=0:=by
 have:=(lB h).2.1;unfold gP;rw[ae this]
theorem Af{b:Int}:∀(l:List eX)(tb:Nat->Int)(i:Nat)(now:BS),gj b tb i now l->(oB now l).2=0/\Dk now l=lK now l
 |[],_,_,now,_=>⟨rfl,rfl⟩
 |r::l,tb,i,now,hc=>by
  obtain⟨h1,h2⟩:=Af l _ _ _ hc.2;have h3:=(lB hc.1).1;have h4:=nZ hc.1;have e:(oB now (r::l)).2=0:=by rw[oB,aa (λx=>x h3),aa (λx=>x h4)];exact h1
  refine⟨e,?_⟩;rw[B6 e,h2];rfl
theorem tf{b:Int}:∀(l:List eX)(tb:Nat->Int)(i:Nat)(now:BS),gj b tb i now l->now.length<=500->(lK now l).length<=500
 |[],_,_,_,_,h=>h
 |r::l,tb,i,now,hc,h=>by
  refine tf l _ _ _ hc.2 ?_;obtain⟨c1,_,c3,_⟩:=pC (nZ hc.1);have:=dv c1;have:=qC c1;omega
theorem Ju:∀(l:List eX)(now:BS)(k:Nat),(oB now l).2=0->k<=l.length->(now::(oB now l).1).getD k []=lK now (l.take k)
 |_,_,0,_,_=>rfl
 |[],_,k+1,_,h=>absurd h (by simp)
 |r::l,now,k+1,h,hk=>by
  obtain⟨_,_,c3,c4⟩:=Ac h;rw[c4,List.getD_cons_succ,cZ,lK];exact Ju l _ k c3 (by simpa using hk)
theorem Nk{b:Int}{fs:Nat->Int}{tx:BS}{l:List eX}(hc:gj b fs 0 tx l)(a:tx.length<=500)(k:Nat)(hk:k<=l.length):mU tx l (k:Int)=(lK tx (l.take k),0):=by
 have hg:=(Af l _ _ _ hc).1;have c:l.length<=64:=by
  rcases pD l _ _ _ hc with rfl|h
  ·simp
  ·omega
 have ht:jb tx l=(tx::(oB tx l).1,0):=by
  unfold jb;rw[aa qW,aa (λx=>x hg)]
 unfold mU;rw[ht];rw[aa (λx=>x rfl),aa qW];simp only[aM];rw[Ju l tx k hg hk]
def iS(r:eX):Frame:=⟨2,uB r⟩
def kV:Frame:=⟨3,[]⟩
def mF(g b:Int)(tx:BS)(t:Nat->Int):Frame:=⟨1,sa g b tx t⟩
theorem sd{r:eX}(h:iH r=0):Jr (iS r):=⟨by show(1:Int)<=2;decide,by show(2:Int)<=255;decide,tP h⟩
theorem Fa:Jr kV:=⟨qD,qD,qD⟩
theorem tg{g b:Int}{tx:BS}{t:Nat->Int}(h:tx.length<=500):Jr (mF g b tx t):=⟨by show(1:Int)<=1;decide,by show(1:Int)<=255;decide,sb h⟩
theorem Dl{r:eX}(h:iH r=0):gN r=(qV (iS r),0):=by
 have:=tP h;unfold gN;rw[aa (λx=>x h)];have e:jg r.who.toNat++jg r.seq.toNat++codeF r.delta=uB r:=rfl;rw[e];unfold gC;rw[aa qW,aa qW];rfl
theorem vL{g b:Int}{tx:BS}{t:Nat->Int}(h:B4 g b tx t):iu g b tx t=(qV (mF g b tx t),0):=by
 have:=sb (g:=g) (b:=b) (t:=t) h.tx;have a:=h.tx;unfold iu;rw[ae h.flat,aa qW];have e:lQ (jc g b t)++tx=sa g b tx t:=rfl;rw[e];unfold gC;rw[aa qW,aa qW];rfl
theorem yj{r:eX}(h:iH r=0):r.Ok/\r.delta.length<=1000000000:=by
 obtain⟨h1,h2,h3⟩:=nH h;have h4:=dv h3;have hm:maxLen=9223372036854775807:=by decide
 refine⟨⟨⟨qW,qW⟩,⟨qW,qW⟩,qW,λp hp=>?_⟩,qW⟩;obtain⟨b1,b2,b3,a⟩:=gu (h4.2.1 p hp);have hk:p.kind=1\/p.kind=2\/p.kind=3:=by rcases a with h|⟨h,_⟩<;>omega
 exact⟨⟨qW,qW⟩,⟨qW,qW⟩,qW⟩
theorem yl:(gC 3 []).1=qV kV:=rfl
def Jv:Option (List eX)->List Frame
 |none=>[]
 |some r2=>kV::r2.map iS
def kM(g b:Int)(tx:BS)(t:Nat->Int)(r1:List eX)(o:Option (List eX)):List Frame:=mF g b tx t::(r1.map iS++Jv o)
theorem Jw(g b:Int)(tx:BS)(t:Nat->Int)(r1:List eX)(o:Option (List eX)):(kM g b tx t r1 o).length=r1.length+1+(match o with|none=>0|some r2=>r2.length+1):=by
 cases o<;>simp[kM,Jv]
 omega
theorem Nl{g b:Int}{tx:BS}{t:Nat->Int}(h:tx.length<=500){r1:List eX}{o:Option (List eX)}(hc:∀r∈r1++o.getD [],iH r=0):∀f∈kM g b tx t r1 o,Jr f:=by
 intro f hf;unfold kM at hf
 rcases ax.1 hf with rfl|hf
 ·exact tg h
 ·rcases aU.1 hf with hf|hf
  ·obtain⟨r,hr,rfl⟩:=aC.1 hf;exact sd (hc r (dK _ hr))
  ·cases o with
   |none=>cases hf
   |some r2=>
    rcases ax.1 hf with rfl|hf
    ·exact Fa
    ·obtain⟨r,hr,rfl⟩:=aC.1 hf;exact sd (hc r (bR _ hr))
theorem Fb(fs:Nat->Int)(b:Int)(l:List eX)(i:Nat)(r:eX)(h:l[i]? =some r):iK fs b (l.take (i+1))=kG (iK fs b (l.take i)) r.who.toNat r.seq (b+(i:Int)+1):=by
 have hi:i<l.length:=(ah.1 h).1;rw[ei,h,Option.toList_some,vK];have e:((l.take i).length:Int)=i:=by rw[aZ];omega
 rw[e];rfl
structure X4(fs:Nat->Int)(b:Int)(l:List eX)(a:Nat) where
 i:Nat
 k:Int
 tb:Nat->Int
 hi:i<=a
 hk:k=(i:Int)
 wm:tb=iK fs b (l.take i)
theorem Nn(f:Nat->Int):Fz (lY f):=.agg _ (by simp;exact⟨.int _ _,.int _ _,.int _ _,.int _ _,.int _ _,.int _ _,.int _ _,.int _ _,.int _ _,.int _ _,.int _ _,.int _ _,.int _ _,.int _ _,.int _ _,.int _ _⟩)
structure Mv where
 f:Int
 c:Int
 w:Bool
def sT(km bm:Nat):Option Mv->V
 |none=>.nil
 |some _=>.ptr km (some bm) 3 0 0
def iL(bm:Nat):Option Mv->Ob
 |none=>⟨none,133,3,[]⟩
 |some m=>⟨some bm,133,3,[[.int .i64 m.f,.int .i64 m.c,.bool m.w]]⟩
theorem vM(km bm:Nat)(m:Option Mv):Fz (sT km bm m):=by cases m<;>first|exact .nil|exact .ptr _ _ _ _ _
theorem No(km bm:Nat)(m:Option Mv):V.one (sT km bm m)=true:=by cases m<;>rfl
theorem Np(km bm:Nat)(m:Option Mv):M5 (sT km bm m)=true:=by cases m<;>rfl
theorem Jx(km bm:Nat)(m:Option Mv):MQ (sT km bm m):=⟨⟨vM _ _ _,No _ _ _⟩,Np _ _ _⟩
theorem ym(km bm:Nat)(m:Option Mv)(g:Nat->Nat):(sT km bm m).rl g=sT (g km) bm m:=by cases m<;>rfl
theorem Ag(bm:Nat)(m:Option Mv)(g:Nat->Nat):(iL bm m).gA g=iL bm m:=by cases m<;>rfl
theorem yn(bm:Nat)(m:Option Mv):(iL bm m).Fz:=by
 intro r hr v hv;cases m with
 |none=>cases hr
 |some m=>
  simp only[iL,aw] at hr;subst hr;simp only[ax,aF,bj] at hv
  rcases hv with rfl|rfl|rfl
  ·exact .int _ _
  ·exact .int _ _
  ·exact .bool _
def S3(bl:Nat)(d:SC)(ba:Option Nat)(n:Nat)(rows:List (List V))(bm:Nat)(m:Option Mv):List (Nat×Ob):=[(0,fK bl (fJ d (.own 1000001 ba 3 n) (sT 1 bm m))),(1000001,jv ba rows),(1,iL bm m)]
theorem O9{bl:Nat}{d:SC}{ba:Option Nat}{n:Nat}{l:List eX}{bm:Nat}{m:Option Mv}:∀p∈S3 bl d ba n (l.map a8) bm m,p.2.Fz:=by
 intro p hp;simp only[S3,ax,aF,bj] at hp
 rcases hp with rfl|rfl|rfl
 ·exact jW (.own _ _ _ _) (vM _ _ _) bl
 ·exact fW _
 ·exact yn _ _
structure N3(k ka km:Nat):Prop where
 a:Nat.beq k ka=false
 b:Nat.beq k km=false
 c:Nat.beq ka km=false
theorem N3.ne{k ka km:Nat}(h:N3 k ka km):k≠ka/\k≠km/\ka≠km:=by
 refine⟨λe=>?_,λe=>?_,λe=>?_⟩<;>subst e
 ·have:=h.a;rw[b9] at this;cases this
 ·have:=h.b;rw[b9] at this;cases this
 ·have:=h.c;rw[b9] at this;cases this
theorem Jy{f k ka km bl bm:Nat}{rest:List V}{d:SC}{ba:Option Nat}{n:Nat}{l:List eX}{m:Option Mv}{post:V->SC->List eX->Option Mv->Prop}(hs:Spec Tryz.prog f (.ptr 0 (some bl) 47 0 0::rest) (b7 (S3 bl d ba n (l.map a8) bm m)) λx h'=>∃i,(∃a b d' l' m',post x d' l' m'/\i=S3 bl d' a l'.length (l'.map a8) b m')/\h'=b7 i)
  (c:∀h m,k6 h m rest rest)(hv:∀x d' l' m' g,post x d' l' m'->x.gA g=x)(y:N3 k ka km){h:Hp}{K:V->Hp->Prop}(hk:h k=some (fK bl (fJ d (.own ka ba 3 n) (sT km bm m))))(j:h ka=some (jv ba (l.map a8)))(o:h km=some (iL bm m))
  (hK:∀x a b d' l' m',post x d' l' m'->K x (h.e9 [(k,fK bl (fJ d' (.own ka a 3 l'.length) (sT km b m'))),(ka,jv a (l'.map a8)),(km,iL b m')])):fa Tryz.prog f (.ptr k (some bl) 47 0 0::rest) h K:=by
 obtain⟨n1,n2,t⟩:=y.ne;have q:¬ka=k:=λe=>n1 e.symm;have r:¬km=k:=λe=>n2 e.symm;have s:¬km=ka:=λe=>t e.symm;have b0:gT [(0,k),(1000001,ka),(1,km)] k=0:=by simp[gT]
 have b1:gT [(0,k),(1000001,ka),(1,km)] ka=1000001:=by simp[gT,q]
 have b2:gT [(0,k),(1000001,ka),(1,km)] km=1:=by simp[gT,r,s]
 have l0:gI [(0,k),(1000001,ka),(1,km)] 0=k:=by simp[gI]
 have u:gI [(0,k),(1000001,ka),(1,km)] 1000001=ka:=by simp[gI]
 have w:gI [(0,k),(1000001,ka),(1,km)] 1=km:=by simp[gI]
 refine vJ [(0,k),(1000001,ka),(1,km)] hs (.cons ?_ (c h _)) (by simp) (by simp[n1,n2,t]) (by simp) (λp hp=>?_) (λp hp=>?_) ?_ ?_
 ·have:=Arg.same (h:=h) (m:=[(0,k),(1000001,ka),(1,km)]) (.ptr k (some bl) 47 0 0);simpa[V.gA,V.rl,b0] using this
 ·simp only[S3,ax,aF,bj] at hp
  rcases hp with rfl|rfl|rfl<;>simp
 ·simp only[S3,ax,aF,bj] at hp
  rcases hp with rfl|rfl|rfl
  ·refine⟨?_,jW (.own _ _ _ _) (vM _ _ _) bl⟩;show(h (gI _ 0)).map _=_;rw[l0,hk,aN,jL,ym,b2];show some (fK bl (fJ d (.own (gT _ ka) ba 3 n) _))=_;rw[b1]
  ·refine⟨?_,fW _⟩;show(h (gI _ 1000001)).map _=_;rw[u,j,aN,mW]
  ·refine⟨?_,yn _ _⟩;show(h (gI _ 1)).map _=_;rw[w,o,aN,Ag]
 ·rintro v i ⟨a,b,d',l',m',_,rfl⟩;rfl
 ·rintro v i ⟨a,b,d',l',m',hp,rfl⟩;rw[hv v d' l' m' _ hp];have e:oo [(0,k),(1000001,ka),(1,km)] (Ob.gA (gI [(0,k),(1000001,ka),(1,km)])) (S3 bl d' a l'.length (l'.map a8) b m')=[(k,fK bl (fJ d' (.own ka a 3 l'.length) (sT km b m'))),(ka,jv a (l'.map a8)),(km,iL b m')]:=by
   simp only[oo,S3,dB,eJ,jL,mW,Ag,ym,w];show[(k,fK bl (fJ d' (.own (gI _ 1000001) a 3 l'.length) _)),_,_]=_;rw[u]
  rw[e];exact hK v a b d' l' m' hp
theorem gg.mG{C:Ctx}{F:Nat->Prop}{h:Hp}{w:World}(hs:gg C F h w)(k ty sz:Nat):gg C F (Hp.put h k ⟨none,ty,sz,[]⟩) w:=by
 have look:∀j q,Hp.put h k ⟨none,ty,sz,[]⟩ j=some q->q=⟨none,ty,sz,[]⟩\/h j=some q:=by
  intro j q hj;simp only[Hp.put] at hj
  by_cases h1:j=k
  ·rw[ae h1] at hj;cases hj;exact .inl rfl
  ·rw[aa h1] at hj;exact .inr hj
 refine⟨λj q hj=>?_,λj d q e b hj a hb c=>?_,λj q b hj hb=>?_,hs.jq,hs.new,hs.lt,hs.ev⟩
 ·rcases look j q hj with rfl|hj
  ·exact(show fy F C.B w ⟨none,ty,sz,[]⟩ from rfl)
  ·exact hs.ob j q hj
 ·rcases look j q hj with rfl|hj
  ·cases hb
  ·rcases look d e a with rfl|a
   ·cases c
   ·exact hs.inj j d q e b hj a hb c
 ·rcases look j q hj with rfl|hj
  ·cases hb
  ·exact hs.live j q b hj hb
theorem jj.mG(h:Hp)(k ty sz:Nat):jj h (Hp.put h k ⟨none,ty,sz,[]⟩):=λ_ F _ _ hs=>⟨F,λ_ h=>h,hs.mG k ty sz⟩
theorem a7.mG(s:S)(k ty sz:Nat):a7 s ⟨s.t,Hp.put s.h k ⟨none,ty,sz,[]⟩⟩:=λC n a w b hs=>by
 obtain⟨F,h1,h2⟩:=hs.ex;exact⟨⟨F,h1.mG k ty sz,h2⟩,hs.df,hs.sz⟩
def gQ(d:SC)(i:Int):BS:=if i=0 then d.x1 else d.x3
structure Jz(d:SC)(l:List eX):Prop where
 gr:d.gr=0\/d.gr=1
 b:0<=d.b/\d.b<=2147483647
 gn:0<=d.gn/\d.gn<=4294967295
 len:l.length<=64
 rv:mj l
 who:∀r∈l,0<=r.who/\r.who<=7
 dl:∀r∈l,r.delta.length<=1000000000
def ld(d:SC)(m:Option Mv)(t:BS):SC:=match m with
 |none=>kT d d.gr t
 |some m=>if m.w=true then kT (kT d d.gr t) (1-d.gr) t else kT d d.gr t
theorem JA(P:Prim)(hP:P=ca)(T F:cp)(p:∀f vs h h' K,jj h h'->T f vs h' K->T f vs h K)(y:zR T)(z:Di T)(G:oU T)(bl bm:Nat)(d:SC)(ba:Option Nat)(l:List eX)(n:Nat)(hn:n=l.length)(rows:List (List V))(dS:rows=l.map a8)(hat:d.gr=0\/d.gr=1)
  (r:eX)(w q:Int)(dr:List (List V))(H:w=r.who/\q=r.seq/\dr=r.delta.map a6)(I:∀x∈dr,∀v∈x,Fz v)(hb:0<=d.b/\d.b<=2147483647)
  (e1:Int)(A:e1=0->dr.length<=1000000000)(h1:∀(h:Hp)(K:V->Hp->Prop),h 1000001=some ⟨ba,91,3,rows⟩->K (qI e1) h->F 77 [.agg [qI d.gn,qI d.b,.str d.tx,qI (d.fs 0),qI (d.fs 1),qI (d.fs 2),qI (d.fs 3),qI (d.fs 4),qI (d.fs 5),qI (d.fs 6),qI (d.fs 7),qI (d.fs 8),qI (d.fs 9),qI (d.fs 10),qI (d.fs 11),qI (d.fs 12),qI (d.fs 13),qI (d.fs 14),qI (d.fs 15),qI (d.tb 0),qI (d.tb 1),qI (d.tb 2),qI (d.tb 3),qI (d.tb 4),qI (d.tb 5),qI (d.tb 6),qI (d.tb 7),qI (d.tb 8),qI (d.tb 9),qI (d.tb 10),qI (d.tb 11),qI (d.tb 12),qI (d.tb 13),qI (d.tb 14),qI (d.tb 15),.own 1000001 ba 3 n,.bool d.wh,qI d.gd],qI (P.eP d.now),.agg [qI w,qI q,.sl false 3 dr]] h K)
  (J:e1=0->(0<=r.who/\r.who<=7)/\l.length<64)(t:BS)(e:Int)(L:t.length<=140737488355328)
  (h2:e1=0->∀(k:Nat)(b:Option Nat)(n':Nat)(h:Hp)(K:V->Hp->Prop),n'=dr.length->h k=some ⟨b,115,3,dr⟩->K (.tup [.str t,qI e]) h->T 78 [.agg [qI w,qI q,.own k b 3 n']] h K)
  (u:BS)(f:Int)(h3:e1=0->fZ F 79 [.sl false 3 dr,.str d.now] (.tup [.str u,qI f]))
  (Y:qy)(j:Y=(if e1≠0 then⟨d,l,0,e1⟩ else if e≠0 then⟨d,l,0,e⟩ else⟨vI {ld d (none:Option Mv) t with now:=u} l r,l++[r],d.b+(l.length+1:Nat),0⟩))
  (R:S->Prop)(M:∀s s' N n' rows',n'=Y.l.length->rows'=Y.l.map a8->a7 s s'->hX [.t 4,.t 5] [qI Y.v,qI Y.e] s'->fh (S3 bl Y.d N n' rows' bm (none:Option Mv)) s'->R s):
  fX P T F uA (S0 [.ptr 0 (some bl) 47 0 0,.agg [qI w,qI q,.sl false 3 dr]] (b7 (S3 bl d ba n rows bm (none:Option Mv)))) R (λ_ _=>False) R:=by
 have f2:dr.length=P.gp dr:=by subst hP;rfl
 have m1:P.i64 (P.sub 1 d.gr):=by rw[sub_eq hP];exact ft hP qW
 have m2:P.sub 1 d.gr=1-d.gr:=sub_eq hP _ _;cbv
 repeat' first|(refine qA ?_;cbv)|(intro a;cbv)|(refine h1 _ _ rfl ?_;cbv)|fail
 refine ab (λg=>?_) (λg=>?_)
 ·have g1:e1≠0:=fE hP g;rw[ae g1] at j;cbv
  repeat' first|(refine qA ?_;cbv)|(intro a;cbv)
  subst j;exact M _ _ ba n rows hn dS (a7.refl _) rfl ⟨rfl,rfl,rfl,trivial⟩
 have g1:e1=0:=fD hP g;rw[aa (λhh=>hh g1)] at j;obtain⟨hw,Z⟩:=J g1;have A:=A g1;have f1:P.bytes (P.da dr) 32:=by subst hP;show(dr.length:Int)*32<=_;((try simp only[nc] at*);omega)
 cbv
 repeat' first|(refine qA ?_;cbv)|(intro a;cbv)|(refine h2 g1 1000025 _ _ _ _ f2.symm rfl ?_;cbv)|fail
 refine ab (λg=>?_) (λg=>?_)
 ·have g2:e≠0:=fE hP g;rw[ae g2] at j;cbv
  repeat' first|(refine qA ?_;cbv)|(intro a;cbv)
  subst j;exact M _ _ ba n rows hn dS (a7.refl _) rfl ⟨rfl,rfl,rfl,trivial⟩
 have g2:e=0:=fD hP g;rw[aa (λhh=>hh g2)] at j;cbv
 repeat' first|(refine qA ?_;cbv)|(intro a;cbv)
 refine p _ _ _ _ _ (jj.EO (k:=1000025) (q:=3) (c:=2) rfl rfl rfl rfl rfl rfl f2 I) ?_;refine y 0 bl d (.own 1000001 ba 3 n) .nil _ _ _ _ L ⟨⟨.own _ _ _ _,rfl⟩,.nil,rfl⟩ rfl rfl rfl λd0 O=>?_;obtain⟨d1,i⟩:∃d1,d1=d0:=⟨_,rfl⟩;rw[<-i];rw[O] at i;have hb1:d1.b=d.b:=by rw[i];rfl
 have o:d1.now=d.now:=by rw[i];rfl
 have Q:fZ F 79 [.sl false 3 dr,.str d1.now] (.tup [.str u,qI f]):=by rw[o];exact h3 g1
 cbv
 repeat' first|(refine qA ?_;cbv)|(intro a;cbv)|(refine Q _ _ ?_;cbv)|fail
 refine z 0 1000001 bl {d1 with now:=u} ba n rows l .nil w q dr r _ _ dS hn qW H hw (by show 0<=d1.b/\d1.b<=_;rw[hb1];omega) ⟨⟨.nil,rfl⟩,rfl⟩ rfl rfl rfl rfl λB d2 n2 gB C D m=>?_
 have hb2:d2.b=d.b:=by rw[C];exact hb1
 cbv
 repeat' first|(refine qA ?_;cbv)|(intro a;cbv)
 refine G 0 bl d2 1000001 B n2 .nil _ _ (by rw[hb2];omega) qW ⟨.nil,rfl⟩ rfl rfl rfl λv hv=>?_;cbv
 repeat' first|(refine qA ?_;cbv)|(intro a;cbv)
 have U:v=Y.v:=by rw[j,hv,hb2,D]
 have W:Y.d=d2:=by rw[j,C,i];rfl
 have E:Y.l=l++[r]:=by rw[j]
 have X:Y.e=0:=by rw[j]
 subst U;refine M _ _ B n2 gB (by rw[E,D];simp) (by rw[E,m]) (a7.refl _) (by rw[X];rfl) ?_;rw[W];exact⟨rfl,rfl,rfl,trivial⟩
theorem JB(P:Prim)(hP:P=ca)(T F:cp)(p:∀f vs h h' K,jj h h'->T f vs h' K->T f vs h K)(y:zR T)(z:Di T)(G:oU T)(bl bm:Nat)(H I:Int)(d:SC)(ba:Option Nat)(l:List eX)(n:Nat)(hn:n=l.length)(rows:List (List V))(dS:rows=l.map a8)(hat:d.gr=0\/d.gr=1)
  (r:eX)(w q:Int)(dr:List (List V))(J:w=r.who/\q=r.seq/\dr=r.delta.map a6)(L:∀x∈dr,∀v∈x,Fz v)(hb:0<=d.b/\d.b<=2147483647)
  (e1:Int)(A:e1=0->dr.length<=1000000000)(h1:∀(h:Hp)(K:V->Hp->Prop),h 1000001=some ⟨ba,91,3,rows⟩->K (qI e1) h->F 77 [.agg [qI d.gn,qI d.b,.str d.tx,qI (d.fs 0),qI (d.fs 1),qI (d.fs 2),qI (d.fs 3),qI (d.fs 4),qI (d.fs 5),qI (d.fs 6),qI (d.fs 7),qI (d.fs 8),qI (d.fs 9),qI (d.fs 10),qI (d.fs 11),qI (d.fs 12),qI (d.fs 13),qI (d.fs 14),qI (d.fs 15),qI (d.tb 0),qI (d.tb 1),qI (d.tb 2),qI (d.tb 3),qI (d.tb 4),qI (d.tb 5),qI (d.tb 6),qI (d.tb 7),qI (d.tb 8),qI (d.tb 9),qI (d.tb 10),qI (d.tb 11),qI (d.tb 12),qI (d.tb 13),qI (d.tb 14),qI (d.tb 15),.own 1000001 ba 3 n,.bool d.wh,qI d.gd],qI (P.eP d.now),.agg [qI w,qI q,.sl false 3 dr]] h K)
  (M:e1=0->(0<=r.who/\r.who<=7)/\l.length<64)(t:BS)(e:Int)(N:t.length<=140737488355328)
  (h2:e1=0->∀(k:Nat)(b:Option Nat)(n':Nat)(h:Hp)(K:V->Hp->Prop),n'=dr.length->h k=some ⟨b,115,3,dr⟩->K (.tup [.str t,qI e]) h->T 78 [.agg [qI w,qI q,.own k b 3 n']] h K)
  (u:BS)(f:Int)(h3:e1=0->fZ F 79 [.sl false 3 dr,.str d.now] (.tup [.str u,qI f]))
  (Y:qy)(j:Y=(if e1≠0 then⟨d,l,0,e1⟩ else if e≠0 then⟨d,l,0,e⟩ else⟨vI {ld d (some ⟨H,I,false⟩:Option Mv) t with now:=u} l r,l++[r],d.b+(l.length+1:Nat),0⟩))
  (R:S->Prop)(O:∀s s' Q n' rows',n'=Y.l.length->rows'=Y.l.map a8->a7 s s'->hX [.t 4,.t 5] [qI Y.v,qI Y.e] s'->fh (S3 bl Y.d Q n' rows' bm (some ⟨H,I,false⟩:Option Mv)) s'->R s):
  fX P T F uA (S0 [.ptr 0 (some bl) 47 0 0,.agg [qI w,qI q,.sl false 3 dr]] (b7 (S3 bl d ba n rows bm (some ⟨H,I,false⟩:Option Mv)))) R (λ_ _=>False) R:=by
 have f2:dr.length=P.gp dr:=by subst hP;rfl
 have m1:P.i64 (P.sub 1 d.gr):=by rw[sub_eq hP];exact ft hP qW
 have m2:P.sub 1 d.gr=1-d.gr:=sub_eq hP _ _;cbv
 repeat' first|(refine qA ?_;cbv)|(intro a;cbv)|(refine h1 _ _ rfl ?_;cbv)|fail
 refine ab (λg=>?_) (λg=>?_)
 ·have g1:e1≠0:=fE hP g;rw[ae g1] at j;cbv
  repeat' first|(refine qA ?_;cbv)|(intro a;cbv)
  subst j;exact O _ _ ba n rows hn dS (a7.refl _) rfl ⟨rfl,rfl,rfl,trivial⟩
 have g1:e1=0:=fD hP g;rw[aa (λhh=>hh g1)] at j;obtain⟨hw,Q0⟩:=M g1;have A:=A g1;have f1:P.bytes (P.da dr) 32:=by subst hP;show(dr.length:Int)*32<=_;((try simp only[nc] at*);omega)
 cbv
 repeat' first|(refine qA ?_;cbv)|(intro a;cbv)|(refine h2 g1 1000025 _ _ _ _ f2.symm rfl ?_;cbv)|fail
 refine ab (λg=>?_) (λg=>?_)
 ·have g2:e≠0:=fE hP g;rw[ae g2] at j;cbv
  repeat' first|(refine qA ?_;cbv)|(intro a;cbv)
  subst j;exact O _ _ ba n rows hn dS (a7.refl _) rfl ⟨rfl,rfl,rfl,trivial⟩
 have g2:e=0:=fD hP g;rw[aa (λhh=>hh g2)] at j;cbv
 repeat' first|(refine qA ?_;cbv)|(intro a;cbv)
 refine p _ _ _ _ _ (jj.EO (k:=1000025) (q:=3) (c:=2) rfl rfl rfl rfl rfl rfl f2 L) ?_;refine y 0 bl d (.own 1000001 ba 3 n) (.ptr 1 (some bm) 3 0 0) _ _ _ _ N ⟨⟨.own _ _ _ _,rfl⟩,.ptr _ _ _ _ _,rfl⟩ rfl rfl rfl λd0 U=>?_;obtain⟨d1,i⟩:∃d1,d1=d0:=⟨_,rfl⟩;rw[<-i];rw[U] at i;have hb1:d1.b=d.b:=by rw[i];rfl
 have o:d1.now=d.now:=by rw[i];rfl
 have W:fZ F 79 [.sl false 3 dr,.str d1.now] (.tup [.str u,qI f]):=by rw[o];exact h3 g1
 cbv
 repeat' first|(refine qA ?_;cbv)|(intro a;cbv)|(refine W _ _ ?_;cbv)|fail
 refine z 0 1000001 bl {d1 with now:=u} ba n rows l (.ptr 1 (some bm) 3 0 0) w q dr r _ _ dS hn qW J hw (by show 0<=d1.b/\d1.b<=_;rw[hb1];omega) ⟨⟨.ptr _ _ _ _ _,rfl⟩,rfl⟩ rfl rfl rfl rfl λB d2 n2 gB C D m=>?_
 have hb2:d2.b=d.b:=by rw[C];exact hb1
 cbv
 repeat' first|(refine qA ?_;cbv)|(intro a;cbv)
 refine G 0 bl d2 1000001 B n2 (.ptr 1 (some bm) 3 0 0) _ _ (by rw[hb2];omega) qW ⟨.ptr _ _ _ _ _,rfl⟩ rfl rfl rfl λv hv=>?_;cbv
 repeat' first|(refine qA ?_;cbv)|(intro a;cbv)
 have X:v=Y.v:=by rw[j,hv,hb2,D]
 have Z:Y.d=d2:=by rw[j,C,i];rfl
 have E:Y.l=l++[r]:=by rw[j]
 have Sn:Y.e=0:=by rw[j]
 subst X;refine O _ _ B n2 gB (by rw[E,D];simp) (by rw[E,m]) (a7.refl _) (by rw[Sn];rfl) ?_;rw[Z];exact⟨rfl,rfl,rfl,trivial⟩
theorem JC(P:Prim)(hP:P=ca)(T I:cp)(z:∀f vs h h' K,jj h h'->T f vs h' K->T f vs h K)(o:zR T)(A:Di T)(J:oU T)(bl bm:Nat)(L M:Int)(d:SC)(ba:Option Nat)(l:List eX)(n:Nat)(hn:n=l.length)(rows:List (List V))(dS:rows=l.map a8)(hat:d.gr=0\/d.gr=1)
  (r:eX)(w q:Int)(dr:List (List V))(N:w=r.who/\q=r.seq/\dr=r.delta.map a6)(O:∀x∈dr,∀v∈x,Fz v)(hb:0<=d.b/\d.b<=2147483647)
  (e1:Int)(B:e1=0->dr.length<=1000000000)(h1:∀(h:Hp)(K:V->Hp->Prop),h 1000001=some ⟨ba,91,3,rows⟩->K (qI e1) h->I 77 [.agg [qI d.gn,qI d.b,.str d.tx,qI (d.fs 0),qI (d.fs 1),qI (d.fs 2),qI (d.fs 3),qI (d.fs 4),qI (d.fs 5),qI (d.fs 6),qI (d.fs 7),qI (d.fs 8),qI (d.fs 9),qI (d.fs 10),qI (d.fs 11),qI (d.fs 12),qI (d.fs 13),qI (d.fs 14),qI (d.fs 15),qI (d.tb 0),qI (d.tb 1),qI (d.tb 2),qI (d.tb 3),qI (d.tb 4),qI (d.tb 5),qI (d.tb 6),qI (d.tb 7),qI (d.tb 8),qI (d.tb 9),qI (d.tb 10),qI (d.tb 11),qI (d.tb 12),qI (d.tb 13),qI (d.tb 14),qI (d.tb 15),.own 1000001 ba 3 n,.bool d.wh,qI d.gd],qI (P.eP d.now),.agg [qI w,qI q,.sl false 3 dr]] h K)
  (Q:e1=0->(0<=r.who/\r.who<=7)/\l.length<64)(t:BS)(e:Int)(C:t.length<=140737488355328)
  (h2:e1=0->∀(k:Nat)(b:Option Nat)(n':Nat)(h:Hp)(K:V->Hp->Prop),n'=dr.length->h k=some ⟨b,115,3,dr⟩->K (.tup [.str t,qI e]) h->T 78 [.agg [qI w,qI q,.own k b 3 n']] h K)
  (u:BS)(f:Int)(h3:e1=0->fZ I 79 [.sl false 3 dr,.str d.now] (.tup [.str u,qI f]))
  (Y:qy)(j:Y=(if e1≠0 then⟨d,l,0,e1⟩ else if e≠0 then⟨d,l,0,e⟩ else⟨vI {ld d (some ⟨L,M,true⟩:Option Mv) t with now:=u} l r,l++[r],d.b+(l.length+1:Nat),0⟩))
  (R:S->Prop)(U:∀s s' W n' rows',n'=Y.l.length->rows'=Y.l.map a8->a7 s s'->hX [.t 4,.t 5] [qI Y.v,qI Y.e] s'->fh (S3 bl Y.d W n' rows' bm (some ⟨L,M,true⟩:Option Mv)) s'->R s):
  fX P T I uA (S0 [.ptr 0 (some bl) 47 0 0,.agg [qI w,qI q,.sl false 3 dr]] (b7 (S3 bl d ba n rows bm (some ⟨L,M,true⟩:Option Mv)))) R (λ_ _=>False) R:=by
 have f2:dr.length=P.gp dr:=by subst hP;rfl
 have m1:P.i64 (P.sub 1 d.gr):=by rw[sub_eq hP];exact ft hP qW
 have m2:P.sub 1 d.gr=1-d.gr:=sub_eq hP _ _;cbv
 repeat' first|(refine qA ?_;cbv)|(intro a;cbv)|(refine h1 _ _ rfl ?_;cbv)|fail
 refine ab (λg=>?_) (λg=>?_)
 ·have g1:e1≠0:=fE hP g;rw[ae g1] at j;cbv
  repeat' first|(refine qA ?_;cbv)|(intro a;cbv)
  subst j;exact U _ _ ba n rows hn dS (a7.refl _) rfl ⟨rfl,rfl,rfl,trivial⟩
 have g1:e1=0:=fD hP g;rw[aa (λhh=>hh g1)] at j;obtain⟨hw,Q0⟩:=Q g1;have B:=B g1;have f1:P.bytes (P.da dr) 32:=by subst hP;show(dr.length:Int)*32<=_;((try simp only[nc] at*);omega)
 cbv
 repeat' first|(refine qA ?_;cbv)|(intro a;cbv)|(refine h2 g1 1000025 _ _ _ _ f2.symm rfl ?_;cbv)|fail
 refine ab (λg=>?_) (λg=>?_)
 ·have g2:e≠0:=fE hP g;rw[ae g2] at j;cbv
  repeat' first|(refine qA ?_;cbv)|(intro a;cbv)
  subst j;exact U _ _ ba n rows hn dS (a7.refl _) rfl ⟨rfl,rfl,rfl,trivial⟩
 have g2:e=0:=fD hP g;rw[aa (λhh=>hh g2)] at j;cbv
 repeat' first|(refine qA ?_;cbv)|(intro a;cbv)
 refine z _ _ _ _ _ (jj.EO (k:=1000025) (q:=3) (c:=2) rfl rfl rfl rfl rfl rfl f2 O) ?_;refine o 0 bl d (.own 1000001 ba 3 n) (.ptr 1 (some bm) 3 0 0) _ _ _ _ C ⟨⟨.own _ _ _ _,rfl⟩,.ptr _ _ _ _ _,rfl⟩ rfl rfl rfl λd0 D=>?_;have p:d0.gr=d.gr:=by rw[D];rfl
 have m3:P.i64 (P.sub 1 d0.gr):=by rw[p];exact m1
 cbv
 repeat' first|(refine qA ?_;cbv)|(intro a;cbv)
 refine o 0 bl d0 (.own 1000001 ba 3 n) (.ptr 1 (some bm) 3 0 0) _ _ _ _ C ⟨⟨.own _ _ _ _,rfl⟩,.ptr _ _ _ _ _,rfl⟩ rfl rfl rfl λd1 i=>?_;have i:d1=kT d0 (P.sub 1 d0.gr) t:=i;rw[p,m2,D] at i;have hb1:d1.b=d.b:=by rw[i];rfl
 have y:d1.now=d.now:=by rw[i];rfl
 have X:fZ I 79 [.sl false 3 dr,.str d1.now] (.tup [.str u,qI f]):=by rw[y];exact h3 g1
 cbv
 repeat' first|(refine qA ?_;cbv)|(intro a;cbv)|(refine X _ _ ?_;cbv)|fail
 refine A 0 1000001 bl {d1 with now:=u} ba n rows l (.ptr 1 (some bm) 3 0 0) w q dr r _ _ dS hn qW N hw (by show 0<=d1.b/\d1.b<=_;rw[hb1];omega) ⟨⟨.ptr _ _ _ _ _,rfl⟩,rfl⟩ rfl rfl rfl rfl λE d2 n2 gB F G m=>?_
 have hb2:d2.b=d.b:=by rw[F];exact hb1
 cbv
 repeat' first|(refine qA ?_;cbv)|(intro a;cbv)
 refine J 0 bl d2 1000001 E n2 (.ptr 1 (some bm) 3 0 0) _ _ (by rw[hb2];omega) qW ⟨.ptr _ _ _ _ _,rfl⟩ rfl rfl rfl λv hv=>?_;cbv
 repeat' first|(refine qA ?_;cbv)|(intro a;cbv)
 have Z:v=Y.v:=by rw[j,hv,hb2,G]
 have X5:Y.d=d2:=by rw[j,F,i];rfl
 have H:Y.l=l++[r]:=by rw[j]
 have Sn:Y.e=0:=by rw[j]
 subst Z;refine U _ _ E n2 gB (by rw[H,G];simp) (by rw[H,m]) (a7.refl _) (by rw[Sn];rfl) ?_;rw[X5];exact⟨rfl,rfl,rfl,trivial⟩
def fN(d:SC)(l:List eX)(m:Option Mv)(r:eX):qy:=if gL d.b d.tb l.length d.now.length r≠0 then⟨d,l,0,gL d.b d.tb l.length d.now.length r⟩ else if(gN r).2≠0 then⟨d,l,0,(gN r).2⟩
 else⟨vI {ld d m (gN r).1 with now:=(gP r.delta d.now).1} l r,l++[r],d.b+(l.length+1:Nat),0⟩
theorem JD(bl bm:Nat)(d:SC)(ba:Option Nat)(l:List eX)(m:Option Mv)(r:eX)(hr:fw r.delta)(hb:0<=d.b/\d.b<=2147483647)(hat:d.gr=0\/d.gr=1):Spec Tryz.prog 43 [.ptr 0 (some bl) 47 0 0,.agg (a8 r)] (b7 (S3 bl d ba l.length (l.map a8) bm m))
  λx h'=>∃n,(∃a f d' l' m',(∃v e,x=.tup [qI v,qI e]/\⟨d',l',v,e⟩=fN d l m r/\m'=m)/\n=S3 bl d' a l'.length (l'.map a8) f m')/\h'=b7 n:=by
 refine fe gY Nh (L:=S3 bl d ba l.length (l.map a8) bm m) (λx n=>∃a f d' l' m',(∃v e,x=.tup [qI v,qI e]/\⟨d',l',v,e⟩=fN d l m r/\m'=m)/\n=S3 bl d' a l'.length (l'.map a8) f m') λR q=>?_;have h1:∀(h:Hp)(K:V->Hp->Prop),h 1000001=some ⟨ba,91,3,l.map a8⟩->K (qI (gL d.b d.tb l.length d.now.length r)) h->fj Tryz.prog 77 [.agg [qI d.gn,qI d.b,.str d.tx,qI (d.fs 0),qI (d.fs 1),qI (d.fs 2),qI (d.fs 3),qI (d.fs 4),qI (d.fs 5),qI (d.fs 6),qI (d.fs 7),qI (d.fs 8),qI (d.fs 9),qI (d.fs 10),qI (d.fs 11),qI (d.fs 12),qI (d.fs 13),qI (d.fs 14),qI (d.fs 15),qI (d.tb 0),qI (d.tb 1),qI (d.tb 2),qI (d.tb 3),qI (d.tb 4),qI (d.tb 5),qI (d.tb 6),qI (d.tb 7),qI (d.tb 8),qI (d.tb 9),qI (d.tb 10),qI (d.tb 11),qI (d.tb 12),qI (d.tb 13),qI (d.tb 14),qI (d.tb 15),.own 1000001 ba 3 l.length,.bool d.wh,qI d.gd],qI (ca.eP d.now),.agg [qI r.who,qI r.seq,.sl false 3 (r.delta.map a6)]] h K:=
  λh K h1 hK=>qh (EN d.gn d.b d.tx d.fs d.tb l d.wh d.gd d.now.length r hb hr) (.cons (Nj h1) (.cons (.same _) (.cons (.same _) .nil))) hK
 have g:gL d.b d.tb l.length d.now.length r=0->(0<=r.who/\r.who<=7)/\l.length<64:=λh=>⟨⟨(jT (rY h).1).1,(jT (rY h).1).2.1⟩,(rY h).2⟩;have i:gL d.b d.tb l.length d.now.length r=0->(r.delta.map a6).length<=1000000000:=λh=>by
  rw[aI];exact(yj (rY h).1).2
 have j:(gN r).1.length<=140737488355328:=by have:=z6 r;omega
 have h2:gL d.b d.tb l.length d.now.length r=0->∀(k:Nat)(b:Option Nat)(n':Nat)(h:Hp)(K:V->Hp->Prop),n'=(r.delta.map a6).length->h k=some ⟨b,115,3,r.delta.map a6⟩->K (.tup [.str (gN r).1,qI (gN r).2]) h->fa Tryz.prog 78 [.agg [qI r.who,qI r.seq,.own k b 3 n']] h K:=
  λ_ k b n' h K hn hk hK=>by
    subst hn;refine⟨h,jj.refl h,kD (I6 r hr) (.cons ?_ .nil) hK⟩;obtain⟨a1,a2⟩:=yb (h:=h) (m:=[]) (l:=[qI r.who,qI r.seq,.own k b 3 (r.delta.map a6).length]) (l':=xY r) (.cons (.same _) (.cons (.same _) (.cons (.own k b 3 _ _ (jm rfl hk) (by simp)) .nil)));exact .agg _ _ a1 a2
 have h3:gL d.b d.tb l.length d.now.length r=0->fZ (fj Tryz.prog) 79 [.sl false 3 (r.delta.map a6),.str d.now] (.tup [.str (gP r.delta d.now).1,qI (gP r.delta d.now).2]):=λ_=>Hx (xe r.delta hr.1 d.now) rfl rfl;have c:∀(s s':S)(a:Option Nat)(n':Nat)(rows':List (List V)),n'=(fN d l m r).l.length->rows'=(fN d l m r).l.map a8->a7 s s'->hX [.t 4,.t 5] [qI (fN d l m r).v,qI (fN d l m r).e] s'->fh (S3 bl (fN d l m r).d a n' rows' bm m) s'->R s:=by
  intro s s' a n' rows' hn dS he hr ha;subst hn dS;exact q s s' _ _ he (eS _ _ _ (λx hx=>by rw[hx];rfl) hr) ha (.tup _ (by simp;exact⟨.int _ _,.int _ _⟩)) O9 ⟨a,bm,_,_,m,⟨_,_,rfl,rfl,rfl⟩,rfl⟩
 obtain _|⟨o,p,w⟩:=m
 ·exact JA ca rfl _ _ px Dd Jh yf bl bm d ba l _ rfl _ rfl hat r r.who r.seq (r.delta.map a6) ⟨rfl,rfl,rfl⟩ (ff _) hb _ i h1 g (gN r).1 (gN r).2 j h2 (gP r.delta d.now).1 (gP r.delta d.now).2 h3 (fN d l none r) rfl R c
 ·cases w with
  |false=>exact JB ca rfl _ _ px Dd Jh yf bl bm o p d ba l _ rfl _ rfl hat r r.who r.seq (r.delta.map a6) ⟨rfl,rfl,rfl⟩ (ff _) hb _ i h1 g (gN r).1 (gN r).2 j h2 (gP r.delta d.now).1 (gP r.delta d.now).2 h3 (fN d l (some ⟨o,p,false⟩) r) rfl R c
  |true=>exact JC ca rfl _ _ px Dd Jh yf bl bm o p d ba l _ rfl _ rfl hat r r.who r.seq (r.delta.map a6) ⟨rfl,rfl,rfl⟩ (ff _) hb _ i h1 g (gN r).1 (gN r).2 j h2 (gP r.delta d.now).1 (gP r.delta d.now).2 h3 (fN d l (some ⟨o,p,true⟩) r) rfl R c
theorem Q1{k ka km bm:Nat}{m:Option Mv}(h:(!(Nat.beq km 0)&& !(Nat.beq km 1000001))=true):B1 k ka (sT km bm m)=true:=by
 cases m
 ·rfl
 ·show((!(Nat.beq km 0)&& !(Nat.beq km 1000001))||_)=true
  rw[h];rfl
structure WI(h:Hp)(k ka km bl:Nat)(d:SC)(ba:Option Nat)(n:Nat)(rows:List (List V))(l:List eX)(mv:V)(mo:Ob)(bm:Nat)(m:Option Mv):Prop where
 h1:n=l.length
 h2:rows=l.map a8
 h3:mv=sT km bm m
 h4:mo=iL bm m
 h5:h k=some (fK bl (fJ d (.own ka ba 3 n) mv))
 h6:h ka=some (jv ba rows)
 h7:h km=some mo
 h8:N3 k ka km
def Pa(T:cp):Prop:=∀(k ka km bl:Nat)(d:SC)(ba:Option Nat)(n:Nat)(rows:List (List V))(l:List eX)(mv:V)(mo:Ob)(bm:Nat)(m:Option Mv)(r:eX)(w q:Int)(dr:List (List V))(h:Hp)(K:V->Hp->Prop),WI h k ka km bl d ba n rows l mv mo bm m->(w=r.who/\q=r.seq/\dr=r.delta.map a6)->fw r.delta->(0<=d.b/\d.b<=2147483647)->(d.gr=0\/d.gr=1)->
 (∀v e a d' l' n' rows' c f g,⟨d',l',v,e⟩=fN d l m r->n'=l'.length->rows'=l'.map a8->f=sT km c m->g=iL c m->K (.tup [qI v,qI e]) (h.e9 [(k,fK bl (fJ d' (.own ka a 3 n') f)),(ka,jv a rows'),(km,g)]))->T 43 [.ptr k (some bl) 47 0 0,.agg [qI w,qI q,.sl false 3 dr]] h K
theorem Tc:Pa (fa Tryz.prog):=by
 rintro k ka km bl d ba n rows l mv mo bm m r w q dr h K ⟨rfl,rfl,rfl,rfl,hk,a,b,i⟩ ⟨rfl,rfl,rfl⟩ hr hb hat hK;refine Jy (rest:=[.agg (a8 r)]) (post:=λx d' l' m'=>∃v e,x=.tup [.int .i64 v,.int .i64 e]/\⟨d',l',v,e⟩=fN d l m r/\m'=m) (JD bl bm d ba l m r hr hb hat) (λh m=>.cons (.same _) .nil) (λx d' l' m' g hp=>?_) i hk a b ?_
 ·obtain⟨v,e,rfl,_⟩:=hp;rfl
 ·rintro x c f d' l' m' ⟨v,e,rfl,hp,rfl⟩;exact hK v e c d' l' _ _ f _ _ hp rfl rfl rfl rfl
def So(l:List Int)(i:Nat):Int:=if i<l.length then l.getD i 0 else 0
def JE:AC:=qr [qz 4 0] (qq (qr [qm 5 1,qm 6 0,qo 7 (.len false (.t 6)),qb 8 .lss 5 7] (qu 8 (qr [qm 9 0,qm 10 1,qo 11 (.iaddr 1 (.t 9) (.t 10)),ql 12 11,qm 4 12] .ret) .skip)) (qr [qz 4 0] .ret))
theorem Q3:fo Tryz.prog 11 Tryz.f11 JE [.t 4] 2 eV:=⟨Tryz.func11,by decide+kernel,by kernel_rfl,by kernel_rfl,by decide+kernel⟩
theorem Q4(P:Prim)(hP:P=ca)(T d:cp)(l:List Int)(rows:List (List V))(dS:rows=iD l)(i:Nat)(k:Int)(hk:k=(i:Int))(r:Int)(hr:So l i=r)
  (R:S->Prop)(c:∀s s' q,q=r->a7 s s'->hX [.t 4] [qI q] s'->R s):fX P T d JE (S0 [.sl true 1 rows,qI k] Hp.emp) R (λ_ _=>False) R:=by
 have hl:P.da rows=(l.length:Int):=by rw[gi hP,dS];simp[iD]
 unfold So at hr;cbv
 repeat' first|(refine qA ?_;cbv)|(intro a;cbv)
 refine ab (λg=>?_) (λg=>?_)
 ·have g1:k<P.da rows:=fA hP g;rw[hl,hk] at g1;have g2:i<l.length:=by((try simp only[nc] at*);omega)
  rw[ae g2] at hr;have q1:P.fQ 0 k:=iQ hP (by rw[hk];exact aT _);have q2:P.iw k (P.da rows):=kZ hP (fA hP g);have b:P.row rows (P.nat k) [qI r]:=fL hP hk (by rw[dS,iD,av,af g2,<-hr,aA,af g2];rfl);cbv
  repeat' first|(refine qA ?_;cbv)|(intro a;cbv)
  refine⟨_,b,?_⟩;cbv
  repeat' first|(refine qA ?_;cbv)|(intro a;cbv)
  exact c _ _ _ rfl (a7.refl _) rfl
 ·have g1:¬k<P.da rows:=fg hP g;rw[hl,hk] at g1;rw[aa qO] at hr;cbv
  repeat' first|(refine qA ?_;cbv)|(intro a;cbv)
  exact c _ _ _ hr (a7.refl _) rfl
theorem JF(l:List Int)(i:Nat):Spec Tryz.prog 11 [.sl true 1 (iD l),.int .i64 (i:Int)] Hp.emp (Is (.int .i64 (So l i))):=
 eW gY Q3 [.int .i64 (So l i)] (.int _ _) λR a=>Q4 ca rfl _ _ l _ rfl i _ rfl _ rfl R λs s' q h he hr=>by subst h;exact a s s' he hr
def Td(q:ID×Int):Prop:=q.2=0/\q.1.whole=true
instance(q:ID×Int):Decidable (Td q):=inferInstanceAs (Decidable (_/\_))
structure Te(L:ID):Prop where
 b:0<=L.base/\L.base<=4294967295
 n:L.IE.length<=1000
 rv:mj L.IE
end Go.Proofs.YtobngncjflogcaaGreat.AM
