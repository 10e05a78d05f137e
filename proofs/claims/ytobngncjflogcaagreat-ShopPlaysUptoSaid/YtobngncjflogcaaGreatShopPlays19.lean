/-
  Part 19 of what the law ShopPlays reaches: the plain machine, contracts of the functions and plain laws; each lemma says its own condition.
-/
import Derived.Test.YtobngncjflogcaaGreatShopPlays18
import Derived.Test.YtobngncjflogcaaGreatShopPlays13
import Derived.Test.YtobngncjflogcaaGreatShopPlays17
import Derived.Test.YtobngncjflogcaaGreatShopPlays10
import Derived.Test.YtobngncjflogcaaGreatShopPlays5
set_option linter.unusedVariables false
set_option linter.unusedSimpArgs false
namespace Go.Proofs.YtobngncjflogcaaGreat.AM
open Go Go.RowKit
set_option maxRecDepth 100000
set_option maxHeartbeats 2000000
def kZ(bl:Nat)(d:iq)(tx:List BS)(l:List eP):List (Nat×Ob):=[(0,fI bl d (.sl false 1 (c7 tx)) (.sl false 3 (l.map ca)))]
theorem o5{bl:Nat}{d:iq}{tx:List BS}{l:List eP}:∀p∈kZ bl d tx l,p.2.Fz:=λp hp=>by
 simp only[kZ,aq] at hp;subst hp;exact lD (gY _) (fL _)
theorem Lb{f k bl:Nat}{d:iq}{tx:List BS}{l:List eP}{rest b:List V}{post:V->iq->List BS->List eP->Prop}(hs:Spec Tryz.prog f (.ptr 0 (some bl) 31 0 0::b) (cp (kZ bl d tx l)) λx h'=>∃e,(∃d' a l',post x d' a l'/\e=kZ bl d' a l')/\h'=cp e)(c:∀h m,mH h m rest b)(hv:∀x d' a l' g,post x d' a l'->x.gM g=x)
  {h:Hp}{K:V->Hp->Prop}(hk:h k=some (fI bl d (.sl false 1 (c7 tx)) (.sl false 3 (l.map ca))))(hK:∀x d' a l',post x d' a l'->K x (h.fK [(k,fI bl d' (.sl false 1 (c7 a)) (.sl false 3 (l'.map ca)))])):fm Tryz.prog f (.ptr k (some bl) 31 0 0::rest) h K:=by
 refine xv [(0,k)] hs (.cons ?_ (c h _)) (by simp) (by simp) (by simp) (λp hp=>?_) (λp hp=>?_) ?_ ?_
 ·have:=Arg.same (h:=h) (m:=[(0,k)]) (.ptr k (some bl) 31 0 0);simpa[V.gM,V.rl,gW] using this
 ·simp only[kZ,aq] at hp;subst hp;exact⟨_,aq.2 rfl,rfl⟩
 ·refine⟨?_,o5 p hp⟩;simp only[kZ,aq] at hp;subst hp;show(h k).map _=_;rw[hk];rfl
 ·rintro x e ⟨d',a,l',_,rfl⟩;rfl
 ·rintro x e ⟨d',a,l',hp,rfl⟩;rw[hv x d' a l' _ hp];exact hK x d' a l' hp
theorem PM:vS (fX Tryz.prog):=λk bl d tr l lr j h K ht jW hb hn hw hj hk hK=>by
 subst jW;exact R1 ht (lU _) (EN bl d tr ht l hb hn hw j hj) (λ_ _=>.cons (.same _) .nil) (λ_=>rfl) hk (hK _ rfl)
def pY(d:iq)(n:Nat)(j:Int):iq×Int:=if d.mv=true\/d.gH=true then(d,13) else if fZ d.b n j≠0 then(d,fZ d.b n j) else({d with mv:=true,to:=j,pt:= -1,wh:=false},0)
def Lc:AC:=qr [qz 4 0] (qq (qr [qm 6 0,qn 7 6,qf 8 26 7,ql 9 8,qm 10 9,qg 11 10 false (.mov (.t 0)),qg 12 10 false (.nilchk (.t 11)),qg 13 10 false (.faddr 30 (.t 12)),qg 14 10 false (.load1 (.t 13)),qo 15 (.pick (.t 10) (.c (.bool true)) (.t 14))] (qu 15 (qr [qz 4 13] .ret) .skip)) (qq (qr [qm 16 0,qm 17 1,qa 18 41 [.t 16,.t 17],qm 5 18] (qr [qm 19 5,qc 20 .neq 19 0] (qu 20 (qr [qm 21 5,qm 4 21] .ret) .skip))) (qr [qm 22 0,qm 23 0,qm 24 0,qm 25 0,qm 26 1,qn 27 22,qf 28 26 27,⟨none,none,.store 1 (.t 28) (.c (.bool true))⟩,qn 29 23,qf 30 27 29,qs 1 30 26,qn 31 24,qf 32 28 31,⟨none,none,.store 1 (.t 32) (qk (-1))⟩,qn 33 25,qf 34 29 33,⟨none,none,.store 1 (.t 34) (.c (.bool false))⟩] (qr [qz 4 0] .ret))))
theorem R5:fF Tryz.prog 50 Tryz.f50 Lc [.t 4] 2 er:=⟨Tryz.func50,by decide+kernel,by kernel_rfl,by kernel_rfl,by decide+kernel⟩
theorem R6(P:Prim)(hP:P=dn)(T l:c8)(k:yG T)(bl:Nat)(d:iq)(tr lr:List (List V))(ht:∀r∈tr,∀v∈r,Fz v)(hl:∀r∈lr,∀v∈r,Fz v)(hb:0<=d.b/\d.b<=4294967295)(hn:lr.length<=1000)(j:Int)(Y:iq×Int)(c:Y=pY d lr.length j)
  (R:S->Prop)(i:∀(s s':S)(d':iq)(e:Int),(d',e)=Y->c6 s s'->iH [.t 4] [qI e] s'->fG [(0,fI bl d' (.sl false 1 tr) (.sl false 3 lr))] s'->R s):gj P T l Lc (S0 [.ptr 0 (some bl) 31 0 0,qI j] (cp [(0,fI bl d (.sl false 1 tr) (.sl false 3 lr))])) R (λ_ _=>False) R:=by
 unfold pY at c;cbv
 repeat' first|(refine qA ?_;cbv)|(refine⟨0,f,?_⟩;cbv)|(refine⟨1,n1,?_⟩;cbv)|(intro a;cbv)
 refine ab (λg=>?_) (λg=>?_)
 ·have g1:d.mv=true:=g;rw[ae (.inl g1)] at c;cbv
  repeat' first|(refine qA ?_;cbv)|(refine⟨0,f,?_⟩;cbv)|(refine⟨1,n1,?_⟩;cbv)|(intro a;cbv)
  exact i _ _ d _ c.symm (c6.refl _) rfl ⟨rfl,trivial⟩
 have g1:d.mv=false:=g;clear g;cbv
 repeat' first|(refine qA ?_;cbv)|(refine⟨0,f,?_⟩;cbv)|(refine⟨1,n1,?_⟩;cbv)|(intro a;cbv)
 refine ab (λg=>?_) (λg=>?_)
 ·have g2:d.gH=true:=g;rw[ae (.inr g2)] at c;cbv
  repeat' first|(refine qA ?_;cbv)|(refine⟨0,f,?_⟩;cbv)|(refine⟨1,n1,?_⟩;cbv)|(intro a;cbv)
  exact i _ _ d _ c.symm (c6.refl _) rfl ⟨rfl,trivial⟩
 have g2:d.gH=false:=g;clear g;rw[aa (by rw[g1,g2];simp)] at c;cbv
 repeat' first|(refine qA ?_;cbv)|(refine⟨0,f,?_⟩;cbv)|(refine⟨1,n1,?_⟩;cbv)|(intro a;cbv)
 refine k 0 bl d tr lr j _ _ ht hl hb hn rfl λq hq=>?_;rw[<-hq] at c;cbv
 repeat' first|(refine qA ?_;cbv)|(refine⟨0,f,?_⟩;cbv)|(refine⟨1,n1,?_⟩;cbv)|(intro a;cbv)
 refine ab (λg=>?_) (λg=>?_)
 ·have g3:q≠0:=hH hP g;rw[ae g3] at c;cbv
  repeat' first|(refine qA ?_;cbv)|(refine⟨0,f,?_⟩;cbv)|(refine⟨1,n1,?_⟩;cbv)|(intro a;cbv)
  exact i _ _ d _ c.symm (c6.refl _) rfl ⟨rfl,trivial⟩
 have g3:q=0:=gZ hP g;rw[aa (λh=>h g3)] at c;cbv
 repeat' first|(refine qA ?_;cbv)|(refine⟨0,f,?_⟩;cbv)|(refine⟨1,n1,?_⟩;cbv)|(intro a;cbv)
 exact i _ _ _ _ c.symm (c6.refl _) rfl ⟨rfl,trivial⟩
theorem R7(bl:Nat)(d:iq)(tx:List BS)(l:List eP)(hb:0<=d.b/\d.b<=4294967295)(hn:l.length<=1000)(j:Int):Spec Tryz.prog 50 [.ptr 0 (some bl) 31 0 0,qI j] (cp (kZ bl d tx l)) λx h'=>∃c,(∃d' a l',(x=qI (pY d l.length j).2/\d'=(pY d l.length j).1/\a=tx/\l'=l)/\c=kZ bl d' a l')/\h'=cp c:=
 fu iD R5 (L:=kZ bl d tx l) (λx c=>∃d' a l',(x=qI (pY d l.length j).2/\d'=(pY d l.length j).1/\a=tx/\l'=l)/\c=kZ bl d' a l') λR g=>
  R6 dn rfl _ _ CS bl d (c7 tx) (l.map ca) (gY _) (fL _) hb (by rw[aF];exact hn) j _ rfl R λs s' d' e f he hr ha=>by
   rw[aF] at f;exact g s s' (qI e) (kZ bl d' tx l) he (eM _ _ _ (λx hx=>by rw[hx];rfl) hr) ha (.int _ _) o5 ⟨d',tx,l,⟨by rw[<-f],by rw[<-f],rfl,rfl⟩,rfl⟩
def Ld(T:c8):Prop:=∀(k bl:Nat)(d:iq)(tx:List BS)(l:List eP)(tr lr:List (List V))(j:Int)(h:Hp)(K:V->Hp->Prop),tr=c7 tx->lr=l.map ca->(0<=d.b/\d.b<=4294967295)->l.length<=1000->h k=some (fI bl d (.sl false 1 tr) (.sl false 3 lr))->
 (∀d' e,(d',e)=pY d l.length j->K (qI e) (h.fK [(k,fI bl d' (.sl false 1 tr) (.sl false 3 lr))]))->T 50 [.ptr k (some bl) 31 0 0,qI j] h K
theorem R8:Ld (fm Tryz.prog):=by
 rintro k bl d tx l tr lr j h K rfl rfl hb hn hk hK;refine Lb (R7 bl d tx l hb hn j) (λ_ _=>.cons (.same _) .nil) (λx d' a l' g hp=>by rw[hp.1];rfl) hk ?_;rintro x d' a l' ⟨rfl,rfl,rfl,rfl⟩;exact hK _ _ rfl
def sF(d:iq):iq:=if 0=d.dE\/(d.mv=true/\d.wh=true) then {d with x2:=(d.x1.length:Int)} else d
def sG(d:iq):iq:=if 1=d.dE\/(d.mv=true/\d.wh=true) then {d with x4:=(d.x3.length:Int)} else d
def k6(d:iq)(n:Nat):iq:= {sG (sF d) with sf:=d.b+(n:Int)}
inductive Y3 where
 |a
 |b
 |c
def Le:AC:=.seq (qr [qz 3 0] (.block 0 (.loop (qr [qc 4 .lss 3 2] (qq (qu 4 .skip (.exit 0)) (qq (.block 1 (qr [qm 5 3,qm 2 5] (qr [qm 6 2,qm 7 0,qn 8 7,qf 9 4 8,ql 10 9,qb 11 .eql 6 10,qm 12 11,qg 13 12 false (.mov (.t 0)),qg 14 12 false (.nilchk (.t 13)),qg 15 12 false (.faddr 26 (.t 14)),qg 16 12 false (.load1 (.t 15)),qg 17 12 false (.mov (.t 16)),qg 18 17 true (.mov (.t 0)),qg 19 17 true (.nilchk (.t 18)),qg 20 17 true (.faddr 29 (.t 19)),qg 21 17 true (.load1 (.t 20)),qg 22 12 false (.pick (.t 17) (.t 21) (.c (.bool false))),qo 23 (.pick (.t 12) (.c (.bool true)) (.t 22))] (qu 23 (.region true [qm 24 0,qm 25 2,qm 26 0,qm 27 2,qn 28 26,qf 29 0 28,qf 30 0 29,qo 31 (.iarr 2 2 (.t 30) (.t 27)),qf 32 0 31,ql 33 32,qa 34 30 [.t 33],qn 35 24,qf 36 0 35,qf 37 0 36,qo 38 (.iarr 2 2 (.t 37) (.t 25)),qs 2 38 34]) .skip)))) (qR [qc 39 .add 3 1,qm 3 39]))))))) (qR [qm 40 0,qm 41 0,qa 42 35 [.t 41],qn 43 40,qf 44 25 43,qs 1 44 42])
theorem R9:fF Tryz.prog 48 Tryz.f48 Le [] 1 er:=⟨Tryz.func48,by decide+kernel,by kernel_rfl,by kernel_rfl,by decide+kernel⟩
theorem Sa(P:Prim)(hP:P=dn)(T o:c8)(m:my T)(j:∀s,gK o 30 [.str s] (.agg [.str s,qI (P.c9 s)]))(bl:Nat)(d:iq)(tr lr:List (List V))(ht:∀r∈tr,∀v∈r,Fz v)(hl:∀r∈lr,∀v∈r,Fz v)(hb:0<=d.b/\d.b<=4294967295)(hn:lr.length<=1000)(Y:iq)(p:Y=k6 d lr.length)
  (R:S->Prop)(t:∀(s s':S),c6 s s'->iH [] [] s'->fG [(0,fI bl Y (.sl false 1 tr) (.sl false 3 lr))] s'->R s):gj P T o Le (S0 [.ptr 0 (some bl) 31 0 0] (cp [(0,fI bl d (.sl false 1 tr) (.sl false 3 lr))])) R (λ_ _=>False) R:=by
 have z0:P.fC 0 0:=iu hP qD;have u:P.fC 0 1:=iu hP qD;have w:P.iO 0 2:=kN hP qD;have x:P.iO 1 2:=kN hP qD;have i:P.nat 0=0:=by subst hP;rfl
 have n1:P.nat 1=1:=by subst hP;rfl
 have c1:P.i64 (P.add 0 1):=by rw[add_eq hP];exact eR hP qD
 have z:P.i64 (P.add 1 1):=by rw[add_eq hP];exact eR hP qD
 have c3:P.add 0 1=1:=by rw[add_eq hP];rfl
 have c4:P.add 1 1=2:=by rw[add_eq hP];rfl
 obtain⟨d1,k⟩:∃d1,sF d=d1:=⟨_,rfl⟩;obtain⟨d2,l⟩:∃d2,sG d1=d2:=⟨_,rfl⟩;have hb1:d1.b=d.b:=by rw[<-k];unfold sF;split<;>rfl
 have hb2:d2.b=d.b:=by rw[<-hb1,<-l];unfold sG;split<;>rfl
 cbv
 repeat' first|(refine qA ?_;cbv)|(refine⟨0,i,?_⟩;cbv)|(refine⟨1,n1,?_⟩;cbv)|(intro f;cbv)
 refine⟨Y3,λy=>match y with
   |.a=>[(0,.ptr 0 (some bl) 31 0 0),(3,.int .i64 0)]
   |.b=>[(0,.ptr 0 (some bl) 31 0 0),(3,.int .i64 (P.add 0 1))]
   |.c=>[(0,.ptr 0 (some bl) 31 0 0),(3,.int .i64 (P.add 1 1))],
  λy=>match y with
   |.a=>[(0,fI bl d (.sl false 1 tr) (.sl false 3 lr))]
   |.b=>[(0,fI bl d1 (.sl false 1 tr) (.sl false 3 lr))]
   |.c=>[(0,fI bl d2 (.sl false 1 tr) (.sl false 3 lr))],λy=>match y with|.a=>2|.b=>1|.c=>0,
  ⟨_,c6.refl _,.a,⟨rfl,rfl,trivial⟩,⟨rfl,trivial⟩⟩,?_⟩
 rintro(_|_|_)
 ·cbv;refine iv (wj hP qD) ?_;cbv
  repeat' first|(refine qA ?_;cbv)|(refine⟨0,i,?_⟩;cbv)|(refine⟨1,n1,?_⟩;cbv)|(intro f;cbv)
  refine ab (λg=>?_) (λg=>?_)
  ·have g1:(0:Int)=d.dE:=nG hP g;clear g;have e:d1= {d with x2:=P.c9 d.x1}:=by
    rw[<-k];unfold sF;rw[ae (.inl g1)];rw[da hP]
   cbv
   repeat' first|(refine qA ?_;cbv)|(refine⟨0,i,?_⟩;cbv)|(refine⟨1,n1,?_⟩;cbv)|(intro f;cbv)
   refine j d.x1 _ _ ?_;cbv
   repeat' first|(refine qA ?_;cbv)|(refine⟨0,i,?_⟩;cbv)|(refine⟨1,n1,?_⟩;cbv)|(intro f;cbv)
   exact⟨_,c6.refl _,.b,⟨rfl,rfl,trivial⟩,⟨aB (λd=>some (fI bl d (.sl false 1 tr) (.sl false 3 lr))) (e.symm),trivial⟩,by show(1:Nat)<2;decide⟩
  have g1:¬(0:Int)=d.dE:=nH hP g;clear g;cbv
  repeat' first|(refine qA ?_;cbv)|(refine⟨0,i,?_⟩;cbv)|(refine⟨1,n1,?_⟩;cbv)|(intro f;cbv)
  refine ab (λg=>?_) (λg=>?_)
  ·have g2:d.mv=true:=g;clear g;cbv
   repeat' first|(refine qA ?_;cbv)|(refine⟨0,i,?_⟩;cbv)|(refine⟨1,n1,?_⟩;cbv)|(intro f;cbv)
   refine ab (λg=>?_) (λg=>?_)
   ·have g3:d.wh=true:=g;clear g;have e:d1= {d with x2:=P.c9 d.x1}:=by
     rw[<-k];unfold sF;rw[ae (.inr ⟨g2,g3⟩)];rw[da hP]
    cbv
    repeat' first|(refine qA ?_;cbv)|(refine⟨0,i,?_⟩;cbv)|(refine⟨1,n1,?_⟩;cbv)|(intro f;cbv)
    refine j d.x1 _ _ ?_;cbv
    repeat' first|(refine qA ?_;cbv)|(refine⟨0,i,?_⟩;cbv)|(refine⟨1,n1,?_⟩;cbv)|(intro f;cbv)
    exact⟨_,c6.refl _,.b,⟨rfl,rfl,trivial⟩,⟨aB (λd=>some (fI bl d (.sl false 1 tr) (.sl false 3 lr))) (e.symm),trivial⟩,by show(1:Nat)<2;decide⟩
   have g3:d.wh=false:=g;clear g;have e:d1=d:=by
    rw[<-k];unfold sF;rw[aa (λh=>h.elim g1 (λh=>by rw[g3] at h;exact absurd h.2 qD))]
   cbv
   repeat' first|(refine qA ?_;cbv)|(refine⟨0,i,?_⟩;cbv)|(refine⟨1,n1,?_⟩;cbv)|(intro f;cbv)
   exact⟨_,c6.refl _,.b,⟨rfl,rfl,trivial⟩,⟨aB (λd=>some (fI bl d (.sl false 1 tr) (.sl false 3 lr))) (e.symm),trivial⟩,by show(1:Nat)<2;decide⟩
  have g2:d.mv=false:=g;clear g;have e:d1=d:=by
   rw[<-k];unfold sF;rw[aa (λh=>h.elim g1 (λh=>by rw[g2] at h;exact absurd h.1 qD))]
  cbv
  repeat' first|(refine qA ?_;cbv)|(refine⟨0,i,?_⟩;cbv)|(refine⟨1,n1,?_⟩;cbv)|(intro f;cbv)
  exact⟨_,c6.refl _,.b,⟨rfl,rfl,trivial⟩,⟨aB (λd=>some (fI bl d (.sl false 1 tr) (.sl false 3 lr))) (e.symm),trivial⟩,by show(1:Nat)<2;decide⟩
 ·rw[c3];cbv;refine iv (wj hP qD) ?_;cbv
  repeat' first|(refine qA ?_;cbv)|(refine⟨0,i,?_⟩;cbv)|(refine⟨1,n1,?_⟩;cbv)|(intro f;cbv)
  refine ab (λg=>?_) (λg=>?_)
  ·have g1:(1:Int)=d1.dE:=nG hP g;clear g;have e:d2= {d1 with x4:=P.c9 d1.x3}:=by
    rw[<-l];unfold sG;rw[ae (.inl g1)];rw[da hP]
   cbv
   repeat' first|(refine qA ?_;cbv)|(refine⟨0,i,?_⟩;cbv)|(refine⟨1,n1,?_⟩;cbv)|(intro f;cbv)
   refine j d1.x3 _ _ ?_;cbv
   repeat' first|(refine qA ?_;cbv)|(refine⟨0,i,?_⟩;cbv)|(refine⟨1,n1,?_⟩;cbv)|(intro f;cbv)
   exact⟨_,c6.refl _,.c,⟨rfl,rfl,trivial⟩,⟨aB (λd=>some (fI bl d (.sl false 1 tr) (.sl false 3 lr))) (e.symm),trivial⟩,by show(0:Nat)<1;decide⟩
  have g1:¬(1:Int)=d1.dE:=nH hP g;clear g;cbv
  repeat' first|(refine qA ?_;cbv)|(refine⟨0,i,?_⟩;cbv)|(refine⟨1,n1,?_⟩;cbv)|(intro f;cbv)
  refine ab (λg=>?_) (λg=>?_)
  ·have g2:d1.mv=true:=g;clear g;cbv
   repeat' first|(refine qA ?_;cbv)|(refine⟨0,i,?_⟩;cbv)|(refine⟨1,n1,?_⟩;cbv)|(intro f;cbv)
   refine ab (λg=>?_) (λg=>?_)
   ·have g3:d1.wh=true:=g;clear g;have e:d2= {d1 with x4:=P.c9 d1.x3}:=by
     rw[<-l];unfold sG;rw[ae (.inr ⟨g2,g3⟩)];rw[da hP]
    cbv
    repeat' first|(refine qA ?_;cbv)|(refine⟨0,i,?_⟩;cbv)|(refine⟨1,n1,?_⟩;cbv)|(intro f;cbv)
    refine j d1.x3 _ _ ?_;cbv
    repeat' first|(refine qA ?_;cbv)|(refine⟨0,i,?_⟩;cbv)|(refine⟨1,n1,?_⟩;cbv)|(intro f;cbv)
    exact⟨_,c6.refl _,.c,⟨rfl,rfl,trivial⟩,⟨aB (λd=>some (fI bl d (.sl false 1 tr) (.sl false 3 lr))) (e.symm),trivial⟩,by show(0:Nat)<1;decide⟩
   have g3:d1.wh=false:=g;clear g;have e:d2=d1:=by
    rw[<-l];unfold sG;rw[aa (λh=>h.elim g1 (λh=>by rw[g3] at h;exact absurd h.2 qD))]
   cbv
   repeat' first|(refine qA ?_;cbv)|(refine⟨0,i,?_⟩;cbv)|(refine⟨1,n1,?_⟩;cbv)|(intro f;cbv)
   exact⟨_,c6.refl _,.c,⟨rfl,rfl,trivial⟩,⟨aB (λd=>some (fI bl d (.sl false 1 tr) (.sl false 3 lr))) (e.symm),trivial⟩,by show(0:Nat)<1;decide⟩
  have g2:d1.mv=false:=g;clear g;have e:d2=d1:=by
   rw[<-l];unfold sG;rw[aa (λh=>h.elim g1 (λh=>by rw[g2] at h;exact absurd h.1 qD))]
  cbv
  repeat' first|(refine qA ?_;cbv)|(refine⟨0,i,?_⟩;cbv)|(refine⟨1,n1,?_⟩;cbv)|(intro f;cbv)
  exact⟨_,c6.refl _,.c,⟨rfl,rfl,trivial⟩,⟨aB (λd=>some (fI bl d (.sl false 1 tr) (.sl false 3 lr))) (e.symm),trivial⟩,by show(0:Nat)<1;decide⟩
 ·rw[c4];cbv;refine hJ (uh hP qD) ?_;cbv
  repeat' first|(refine qA ?_;cbv)|(refine⟨0,i,?_⟩;cbv)|(refine⟨1,n1,?_⟩;cbv)|(intro f;cbv)
  refine m 0 bl d2 tr lr _ _ ht hl (by rw[hb2];exact hb) hn rfl λq hq=>?_;cbv
  repeat' first|(refine qA ?_;cbv)|(refine⟨0,i,?_⟩;cbv)|(refine⟨1,n1,?_⟩;cbv)|(intro f;cbv)
  have n:q=d.b+(lr.length:Int):=by rw[hq,hb2]
  have e:Y= {d2 with sf:=q}:=by rw[p,n];unfold k6;rw[k,l]
  exact t _ _ (c6.refl _) rfl ⟨aB (λd=>some (fI bl d (.sl false 1 tr) (.sl false 3 lr))) e.symm,trivial⟩
theorem Sb(bl:Nat)(d:iq)(tx:List BS)(l:List eP)(hb:0<=d.b/\d.b<=4294967295)(hn:l.length<=1000):Spec Tryz.prog 48 [.ptr 0 (some bl) 31 0 0] (cp (kZ bl d tx l)) λx h'=>∃c,(∃d' a l',(x=.tup []/\d'=k6 d l.length/\a=tx/\l'=l)/\c=kZ bl d' a l')/\h'=cp c:=
 fu iD R9 (L:=kZ bl d tx l) (λx c=>∃d' a l',(x=.tup []/\d'=k6 d l.length/\a=tx/\l'=l)/\c=kZ bl d' a l') λR e=>
  Sa dn rfl _ _ pX (λs=>oh (pW s) (λ_=>.cons (.same _) .nil) rfl) bl d (c7 tx) (l.map ca) (gY _) (fL _) hb (by rw[aF];exact hn) _ rfl R λs s' he hr ha=>by
   rw[aF] at ha;exact e s s' (.tup []) (kZ bl (k6 d l.length) tx l) he (eM _ _ _ (λx hx=>by rw[hx];rfl) hr) ha (.tup _ (by simp)) o5 ⟨_,tx,l,⟨rfl,rfl,rfl,rfl⟩,rfl⟩
def Lf(T:c8):Prop:=∀(k bl:Nat)(d:iq)(tx:List BS)(l:List eP)(tr lr:List (List V))(h:Hp)(K:V->Hp->Prop),tr=c7 tx->lr=l.map ca->(0<=d.b/\d.b<=4294967295)->l.length<=1000->h k=some (fI bl d (.sl false 1 tr) (.sl false 3 lr))->
 (∀d',d'=k6 d l.length->K (.tup []) (h.fK [(k,fI bl d' (.sl false 1 tr) (.sl false 3 lr))]))->T 48 [.ptr k (some bl) 31 0 0] h K
theorem Sc:Lf (fm Tryz.prog):=by
 rintro k bl d tx l tr lr h K rfl rfl hb hn hk hK;refine Lb (Sb bl d tx l hb hn) (λ_ _=>.nil) (λx d' a l' g hp=>by rw[hp.1];rfl) hk ?_;rintro x d' a l' ⟨rfl,rfl,rfl,rfl⟩;exact hK _ rfl
def Gq:iq:=⟨(hM 1 0 [] λ_=>0).1++(gq 3 []).1,(((hM 1 0 [] λ_=>0).1++(gq 3 []).1).length:Int),[],0,0,1,0,λ_=>0,0,false,0,0,false,false⟩
def EO:AC:=qr [qo 0 (.mov (.c (.pointer none)))] (qr [qo 5 (.build Te []),qa 6 29 [qk 1,qk 0,(.c qe),.t 5],qm 4 6,qx 7 0 4,qx 8 1 4,qm 1 7,qm 2 8] (qr [qo 9 (.bslice 9 1 [(.c qe)]),qo 10 (.build Tf [(5,1,qk 1),(23,1,(.t 9))]),qo 11 (.box 58 31 (.t 10)),qm 3 11] (qq (.region true [qm 12 3,qm 13 1,qa 14 31 [],qb 15 .add 13 14,qa 16 30 [.t 15],qn 17 12,qf 18 0 17,qf 19 0 18,qo 20 (.iarr 2 2 (.t 19) (qk 0)),qs 2 20 16]) (qr [qm 21 3,qm 0 21] .ret))))
theorem ON:fF Tryz.prog 6 Tryz.f6 EO [.t 0] 0 er:=⟨Tryz.func6,by decide+kernel,by kernel_rfl,by kernel_rfl,by decide+kernel⟩
theorem OO(P:Prim)(hP:P=dn)(T m:c8)(hd i:BS)(yL:hd.length<=1000000/\i.length<=1000000)(e:Int)(h1:gK T 29 [qI 1,qI 0,.str [],.agg [qI 0,qI 0,qI 0,qI 0,qI 0,qI 0,qI 0,qI 0,qI 0,qI 0,qI 0,qI 0,qI 0,qI 0,qI 0,qI 0]] (.tup [.str hd,qI e]))(h2:gK m 31 [] (.str i))(j:∀s,gK m 30 [.str s] (.agg [.str s,qI (P.c9 s)]))
  (R:S->Prop)(u:∀(s s':S)(bl:Nat)(z:BS)(g:Int),z=hd++i->g=(z.length:Int)->c6 s s'->iH [.t 0] [.ptr 11 (some bl) 31 0 0] s'->fG [(11,fI bl ⟨z,g,[],0,0,1,0,λ_=>0,0,false,0,0,false,false⟩ (.sl false 1 [[.str []]]) (.sl false 3 []))] s'->R s):gj P T m EO (S0 [] Hp.emp) R (λ_ _=>False) R:=by
 have z0:P.fC 0 0:=iu hP qD;have y:P.iO 0 2:=kN hP qD;have l:P.nat 0=0:=by subst hP;rfl
 have i1:P.i64 (P.add (P.c9 hd) (P.c9 i)):=by rw[add_eq hP,da hP,da hP];exact eR hP qW
 have key:∀(s:S)(bl a:Nat)(z:BS)(g:Int),z=hd++i->g=(z.length:Int)->s.h 11=some (fI bl ⟨z,g,[],0,0,1,0,λ_=>0,0,false,0,0,false,false⟩ (.own 1000009 (some a) 1 1) .nilsl)->s.h 1000009=some ⟨some a,9,1,[[.str []]]⟩->s.t 0=.ptr 11 (some bl) 31 0 0->R s:=by
  intro s bl a z g hz o k1 k2 w;have e1:=c6.OM (t:=false) (z:=3) (c:=24) k1 rfl;obtain⟨s',x,t2,q2,_⟩:=c6.Ud (s:=⟨s.t,Hp.put s.h 11 _⟩) (q:=11) (k:=1000009) (n:=1) (b:=some a) (bl:=bl) (d:=⟨z,g,[],0,0,1,0,λ_=>0,0,false,0,0,false,false⟩) (rows:=[[.str []]]) (lr:=[]) rfl k2 rfl (λr hr v hv=>by rw[aq.1 hr] at hv;rw[aq.1 hv];exact .str _) qD;refine u s s' bl z g hz o (e1.trans x) ?_ ⟨q2,trivial⟩;show[s'.t 0]=[.ptr 11 (some bl) 31 0 0];rw[t2,<-w]
 cbv
 repeat' first|(refine qA ?_;cbv)|(refine⟨0,l,?_⟩;cbv)|(refine⟨1,n1,?_⟩;cbv)|(intro f;cbv)
 refine h1 _ _ ?_;cbv
 repeat' first|(refine qA ?_;cbv)|(refine⟨0,l,?_⟩;cbv)|(refine⟨1,n1,?_⟩;cbv)|(intro f;cbv)
 rename_i p;refine h2 _ _ ?_;cbv
 repeat' first|(refine qA ?_;cbv)|(refine⟨0,l,?_⟩;cbv)|(refine⟨1,n1,?_⟩;cbv)|(intro f;cbv)
 refine j _ _ _ ?_;cbv
 repeat' first|(refine qA ?_;cbv)|(refine⟨0,l,?_⟩;cbv)|(refine⟨1,n1,?_⟩;cbv)|(intro f;cbv)
 exact key _ f p (P.h9 hd i) (P.c9 (P.h9 hd i)) (by subst hP;rfl) (da hP _) rfl rfl rfl
theorem OP:Spec Tryz.prog 6 [] (cp []) λx h'=>∃a,(∃bl,x=.ptr 11 (some bl) 31 0 0/\a=[(11,fI bl Gq (.sl false 1 (c7 [[]])) (.sl false 3 (([]:List eP).map ca)))])/\h'=cp a:=by
 have hl:(hM 1 0 [] λ_=>0).1.length<=1000000/\(gq 3 []).1.length<=1000000:=by
  have h1:=oF (g:=1) (b:=0) (tx:=[]) (t:=λ_=>0) qD;rw[oG yB,qF,iz,iz];have:=h1.2.2;exact⟨qW,by show(0:Nat)+7<=_;omega⟩
 exact fu iD ON (L:=[]) (λx a=>∃bl,x=.ptr 11 (some bl) 31 0 0/\a=[(11,fI bl Gq (.sl false 1 (c7 [[]])) (.sl false 3 (([]:List eP).map ca)))]) λR d=>
  OO dn rfl _ _ (hM 1 0 [] λ_=>0).1 (gq 3 []).1 hl (hM 1 0 [] λ_=>0).2 (ia (As 1 0 [] qD λ_=>0) (λ_=>.cons (.same _) (.cons (.same _) (.cons (.same _) (.cons (.same _) .nil)))) rfl) (oh Aq (λ_=>.nil) rfl) (λs=>oh (pW s) (λ_=>.cons (.same _) .nil) rfl) R λs s' bl z e hz c he hr ha=>by
   subst c hz;exact d s s' (.ptr 11 (some bl) 31 0 0) _ he (eM _ _ _ (λx hx=>by rw[hx];rfl) hr) ha (.ptr _ _ _ _ _) (λp hp=>by simp only[aq] at hp;subst hp;exact lD (gY [[]]) (fL [])) ⟨bl,rfl,rfl⟩
def PN(T:c8):Prop:=∀(k:Nat)(h:Hp)(K:V->Hp->Prop),h k=none->(∀bl tr lr d,d=Gq->tr=c7 [[]]->lr=([]:List eP).map ca->K (.ptr k (some bl) 31 0 0) (h.fK [(k,fI bl d (.sl false 1 tr) (.sl false 3 lr))]))->T 6 [] h K
theorem Ue:PN (fm Tryz.prog):=by
 intro k h K hk hK;have c:gD [(11,k)] 11=k:=by simp[gD]
 have a:([(11,k)].map (·.1)).Nodup:=by simp
 have b:([(11,k)].map (·.2)).Nodup:=by simp
 refine mA OP (m:=[(11,k)]) .nil (λj o hj=>by cases hj) (λq hq=>⟨nU a q hq,nV b q hq,λo ho=>by cases ho⟩) ?_;rintro x e ⟨bl,rfl,rfl⟩;rw[sr h _ _ rfl a b (by simp)];have e1:mb [(11,k)] (Ob.gM (gD [(11,k)])) [(11,fI bl Gq (.sl false 1 (c7 [[]])) (.sl false 3 (([]:List eP).map ca)))]=[(k,fI bl Gq (.sl false 1 (c7 [[]])) (.sl false 3 (([]:List eP).map ca)))]:=rfl;rw[e1];have d:(V.ptr 11 (some bl) 31 0 0).gM (gD [(11,k)])=.ptr k (some bl) 31 0 0:=by
  show V.ptr (gD _ 11) (some bl) 31 0 0=_;rw[c]
 rw[d];exact hK bl _ _ _ rfl rfl rfl
structure nI where
 d:iq
 tr:List (List V)
 lr:List (List V)
 v:Bool
def gC(d:iq)(x:BS)(s:Int):iq:=if d.dE=0 then {d with x3:=x,x4:=s} else {d with x1:=x,x2:=s}
def ja(d:iq):BS:=if d.dE=0 then d.x3 else d.x1
def mB(d:iq):Int:=if d.dE=0 then d.x4 else d.x2
def Lg:AC:=qr [qo 2 (.mov (.c (.bool false)))] (qq (.region true [qm 10 0,qm 11 0,qn 12 11,qf 13 4 12,ql 14 13,qo 15 (.bin .sub (qk 1) (.t 14)),qn 16 10,qf 17 0 16,qf 18 0 17,qo 19 (.iarr 2 2 (.t 18) (.t 15)),qm 3 19]) (qq (qr [qm 20 0,qn 21 20,qf 22 26 21,ql 23 22,qo 24 (.not (.t 23))] (qu 24 (qr [qm 25 0,qn 26 25,qf 27 30 26,ql 28 27,qm 4 28] (qq (qr [qm 29 4] (qu 29 (qR [qm 30 3,qo 31 (.build Qb []),qn 32 30,qs 2 32 31]) .skip)) (qr [qm 33 0,qn 34 33,qf 35 30 34,⟨none,none,.store 1 (.t 35) (.c (.bool false))⟩] (qr [qm 36 4,qm 2 36] .ret)))) .skip)) (qq (.block 0 (qr [qm 115 0,qn 116 115,qf 117 28 116,ql 118 117,qc 119 .lss 118 0,qm 114 119] (qu 114 (qq (.region true [qm 121 0,qn 122 121,qf 123 5 122,ql 124 123,qc 125 .add 124 1,qm 126 0,qn 127 126,qf 128 27 127,ql 129 128,qm 130 0,qm 131 0,qn 132 131,qf 133 27 132,ql 134 133,qa 135 42 [.t 130,.t 134],qm 136 0,qm 137 0,qn 138 137,qf 139 27 138,ql 140 139,qa 141 38 [.t 136,.t 140],qa 142 29 [.t 125,.t 129,.t 135,.t 141],qm 120 142,qx 143 0 120,qx 144 1 120,qm 5 143,qm 6 144]) (qr [qm 145 3,qm 146 5,qo 147 (.build Qb [(0,1,(.t 146))]),qn 148 145,qs 2 148 147] (qR [qm 149 0,qn 150 149,qf 151 28 150,⟨none,none,.store 1 (.t 151) (qk 0)⟩]))) (qq (.region true [qm 153 0,qn 154 153,qf 155 29 154,ql 156 155,qo 157 (.not (.t 156)),qm 158 157,qg 159 158 true (.mov (.t 0)),qg 160 158 true (.nilchk (.t 159)),qg 161 158 true (.faddr 27 (.t 160)),qg 162 158 true (.load1 (.t 161)),qg 163 158 true (.mov (.t 0)),qg 164 158 true (.nilchk (.t 163)),qg 165 158 true (.faddr 28 (.t 164)),qg 166 158 true (.load1 (.t 165)),qg 167 158 true (.bin .add (.t 162) (.t 166)),qg 168 158 true (.mov (.t 0)),qg 169 158 true (.call 35 [.t 168]),qg 170 158 true (.bin .lss (.t 167) (.t 169)),qo 171 (.pick (.t 158) (.t 170) (.c (.bool false))),qm 152 171]) (qu 152 (qq (.region true [qm 173 0,qn 174 173,qf 175 24 174,ql 176 175,qm 177 0,qn 178 177,qf 179 27 178,ql 180 179,qm 181 0,qn 182 181,qf 183 6 182,ql 184 183,qb 185 .sub 180 184,qm 186 0,qn 187 186,qf 188 28 187,ql 189 188,qb 190 .add 185 189,qo 191 (.iaddr 3 (.t 176) (.t 190)),qd 192 3 191,qa 193 82 [.t 192],qm 172 193,qx 194 0 172,qx 195 1 172,qm 7 194,qm 8 195]) (qr [qm 196 3,qn 197 196,qf 198 0 197,ql 199 198,qm 200 7,qb 201 .add 199 200,qn 202 196,qf 203 0 202,qs 1 203 201] (qR [qm 204 0,qn 205 204,qf 206 28 205,ql 207 206,qc 208 .add 207 1,qn 209 204,qf 210 28 209,qs 1 210 208]))) (qr [qm 212 0,qn 213 212,qf 214 29 213,ql 215 214,qo 216 (.not (.t 215)),qm 211 216] (qu 211 (qq (.region true [qm 217 3,qn 218 217,qf 219 0 218,ql 220 219,qa 221 31 [],qb 222 .add 220 221,qn 223 217,qf 224 0 223,qs 1 224 222]) (qR [qm 225 0,qn 226 225,qf 227 29 226,⟨none,none,.store 1 (.t 227) (.c (.bool true))⟩])) (qr [qm 37 3,qm 38 3,qn 39 38,qf 40 0 39,ql 41 40,qa 42 30 [.t 41],qn 43 37,qs 2 43 42] (qq (.region true [qm 44 0,qn 45 44,qf 46 27 45,ql 47 46,qm 48 0,qn 49 48,qf 50 6 49,ql 51 50,qb 52 .sub 47 51,qm 9 52]) (qr [qm 53 0,qm 54 0,qm 55 0,qn 56 55,qf 57 27 56,ql 58 57,qa 59 38 [.t 54,.t 58],qn 60 53,qf 61 7 60,qs 16 61 59] (qq (.region true [qm 62 0,qm 63 0,qm 64 0,qn 65 64,qf 66 23 65,ql 67 66,qm 68 9,qo 69 (.slsl 1 (.t 67) (some (.t 68)) none),qm 70 0,qn 71 70,qf 72 24 71,ql 73 72,qm 74 9,qo 75 (.slsl 3 (.t 73) (some (.t 74)) none),qn 76 62,qf 77 23 76,qs 1 77 69,qn 78 63,qf 79 24 78,qs 1 79 75]) (qq (.region true [qm 80 0,qm 81 0,qm 82 0,qm 83 0,qn 84 83,qf 85 27 84,ql 86 85,qm 87 0,qn 88 87,qf 89 5 88,ql 90 89,qc 91 .add 90 1,qm 92 0,qn 93 92,qf 94 4 93,ql 95 94,qo 96 (.bin .sub (qk 1) (.t 95)),qn 97 80,qf 98 6 97,qs 1 98 86,qn 99 81,qf 100 5 99,qs 1 100 91,qn 101 82,qf 102 4 101,qs 1 102 96]) (qr [qm 103 0,qm 104 0,qa 105 35 [.t 104],qn 106 103,qf 107 25 106,qs 1 107 105] (qR [qm 108 0,qm 109 0,qn 110 108,qf 111 26 110,⟨none,none,.store 1 (.t 111) (.c (.bool false))⟩,qn 112 109,qf 113 30 112,⟨none,none,.store 1 (.t 113) (.c (.bool true))⟩])))))))))))))) (qr [qo 2 (.mov (.c (.bool true)))] .ret))))
theorem Sd:fF Tryz.prog 52 Tryz.f52 Lg [.t 2] 1 er:=⟨Tryz.func52,by decide+kernel,by kernel_rfl,by kernel_rfl,by decide+kernel⟩
theorem Se(P:Prim)(hP:P=dn)(T U:c8)(o:my T)(L:my U)(M:EL U)(N:vS U)(C:vS T)(hF:BS->(Nat->Int)->BS)(hE:BS->(Nat->Int)->Int)(rF:eP->BS)(rE:eP->Int)(D:BS)
  (bl:Nat)(d:iq)(tr:List (List V))(l:List eP)(lr:List (List V))(jW:lr=l.map ca)(ht:∀r∈tr,∀v∈r,Fz v)(A:∀r∈lr,∀v∈r,Fz v)(hb:0<=d.b/\d.b<=2147483647)(hn:lr.length<=500)(YQ:tr.length=lr.length+1)(ld:∀i,i<tr.length->∃s,tr[i]? =some [.str s]/\s.length<=maxLen)(z:∀r∈l,0<=r.who/\r.who<=7)(hat:d.dE=0\/d.dE=1)(Wy:0<=d.gn/\d.gn<=4294967295)(hx:d.x1.length<=1048576/\d.x3.length<=1048576)(ZB:D.length<=1000000)
  (hm:d.mv=true->(d.b<=d.to/\d.to<=d.b+(lr.length:Int))/\(-1<=d.pt/\d.pt<=4294967295))
  (E:∀n tb,n.length<=maxLen->gK U 29 [qI (P.add d.gn 1),qI d.to,.str n,kC tb] (.tup [.str (hF n tb),qI (hE n tb)]))
  (O:∀r∈l,gK U 82 [.agg [qI r.who,qI r.seq,.sl false 3 (r.delta.map bd)]] (.tup [.str (rF r),qI (rE r)]))(Q:∀r∈l,(rF r).length<=1000000)
  (F:gK U 31 [] (.str D))(G:∀s,gK T 30 [.str s] (.agg [.str s,qI (P.c9 s)]))
  (Y:nI)(j:Y=if d.mv=false then⟨{(if d.gH=true then gC d [] 0 else d) with gH:=false},tr,lr,d.gH⟩
   else if d.pt<0 then⟨{gC d (match tr.getD (d.to-d.b).toNat [] with|[.str n]=>hF n (gg d.fs d.b (l.take (d.to-d.b).toNat))|_=>[]) 0 with pt:=0},tr,lr,true⟩
   else if d.wh=false/\d.to+d.pt<d.b+(l.length:Int) then⟨{gC d (ja d++rF (l.getD (d.to-d.b+d.pt).toNat Gf)) (mB d) with pt:=d.pt+1},tr,lr,true⟩
   else if d.wh=false then⟨{gC d (ja d++D) (mB d) with wh:=true},tr,lr,true⟩
   else⟨{gC d (ja d) ((ja d).length:Int) with fs:=gg d.fs d.b (l.take (d.to-d.b).toNat),b:=d.to,gn:=d.gn+1,dE:=1-d.dE,sf:=d.to+((lr.drop (d.to-d.b).toNat).length:Int),mv:=false,gH:=true},tr.drop (d.to-d.b).toNat,lr.drop (d.to-d.b).toNat,true⟩)
  (R:S->Prop)(B:∀(s s':S)(d':iq)(Uf Ug:List (List V))(v:Bool),(⟨d',Uf,Ug,v⟩:nI)=Y->c6 s s'->iH [.t 2] [.bool v] s'->fG [(0,fI bl d' (.sl false 1 Uf) (.sl false 3 Ug))] s'->R s):gj P T U Lg (S0 [.ptr 0 (some bl) 31 0 0] (cp [(0,fI bl d (.sl false 1 tr) (.sl false 3 lr))])) R (λ_ _=>False) R:=by
 have p:0<=d.b/\d.b<=4294967295:=⟨hb.1,bZ hb.2 qD⟩;have k1:P.i64 (P.sub 1 d.dE):=by rw[sub_eq hP];exact eR hP qW
 have k2:P.fC 0 (P.sub 1 d.dE):=by rw[sub_eq hP];exact iu hP qW
 have k3:P.iO (P.sub 1 d.dE) 2:=by rw[sub_eq hP];exact kN hP qW
 have f:P.nat 0=0:=by subst hP;rfl
 have n1:P.nat 1=1:=by subst hP;rfl
 rcases hat with hat|hat
 ·have hat:d.dE=0:=hat;have nt:P.nat (P.sub 1 d.dE)=1:=by rw[sub_eq hP,hat];subst hP;rfl
  have W:gC d=λx s=>(⟨d.x1,d.x2,x,s,d.dE,d.gn,d.b,d.fs,d.sf,d.mv,d.to,d.pt,d.wh,d.gH⟩:iq):=by funext x s;unfold gC;rw[ae hat]
  have X:ja d=d.x3:=by unfold ja;rw[ae hat]
  have Z:mB d=d.x4:=by unfold mB;rw[ae hat]
  rw[W,X,Z] at j;cbv
  repeat' first|(refine qA ?_;cbv)|(refine⟨0,f,?_⟩;cbv)|(refine⟨1,n1,?_⟩;cbv)|(intro c;cbv)
  refine⟨1,nt,?_⟩;cbv
  repeat' first|(refine qA ?_;cbv)|(refine⟨0,f,?_⟩;cbv)|(refine⟨1,n1,?_⟩;cbv)|(intro c;cbv)
  refine ab (λg=>?_) (λg=>?_)
  rotate_left
  ·have g1:d.mv=false:=g;rw[ae g1] at j;clear g;cbv
   repeat' first|(refine qA ?_;cbv)|(refine⟨0,f,?_⟩;cbv)|(refine⟨1,n1,?_⟩;cbv)|(intro c;cbv)
   refine ab (λg=>?_) (λg=>?_)
   ·have g2:d.gH=true:=g;rw[g2] at j;cbv
    repeat' first|(refine qA ?_;cbv)|(refine⟨0,f,?_⟩;cbv)|(refine⟨1,n1,?_⟩;cbv)|(intro c;cbv)
    exact B _ _ ⟨d.x1,d.x2,[],0,d.dE,d.gn,d.b,d.fs,d.sf,d.mv,d.to,d.pt,d.wh,false⟩ tr lr true j.symm (c6.refl _) (by rw[<-g2];rfl) ⟨rfl,trivial⟩
   have g2:d.gH=false:=g;rw[g2] at j;cbv
   repeat' first|(refine qA ?_;cbv)|(refine⟨0,f,?_⟩;cbv)|(refine⟨1,n1,?_⟩;cbv)|(intro c;cbv)
   exact B _ _ ⟨d.x1,d.x2,d.x3,d.x4,d.dE,d.gn,d.b,d.fs,d.sf,d.mv,d.to,d.pt,d.wh,false⟩ tr lr false j.symm (c6.refl _) (by rw[<-g2];rfl) ⟨rfl,trivial⟩
  have g1:d.mv=true:=g;rw[aa (by rw[g1];simp)] at j;clear g;have hm:=hm g1;obtain⟨ZC,ZD⟩:=hm;have j1:P.i64 (P.add d.gn 1):=by rw[add_eq hP];exact eR hP qO
  have j2:P.i64 (P.sub d.to d.b):=by rw[sub_eq hP];exact eR hP qO
  have j3:P.i64 (P.add d.to d.pt):=by rw[add_eq hP];exact eR hP qO
  have j4:P.i64 (P.add (P.sub d.to d.b) d.pt):=by rw[add_eq hP,sub_eq hP];exact eR hP qO
  have j5:P.i64 (P.add d.pt 1):=by rw[add_eq hP];exact eR hP qO
  have j6:P.fC 0 (P.sub d.to d.b):=by rw[sub_eq hP];exact iu hP qO
  have j7:P.fC (P.sub d.to d.b) (P.dv tr):=by rw[sub_eq hP,gE hP];exact lE hP qO
  have j8:P.fC (P.sub d.to d.b) (P.dv lr):=by rw[sub_eq hP,gE hP];exact lE hP qO
  have j9:P.fC (P.dv tr) (P.dv tr):=lE hP (aN _);have ZE:P.fC (P.dv lr) (P.dv lr):=lE hP (aN _);have Wz:d.to-d.b=((d.to-d.b).toNat:Int):=by((try simp only[nc] at*);omega)
  have hlen:(d.to-d.b).toNat<tr.length:=by((try simp only[nc] at*);omega)
  obtain⟨n,hs0,H⟩:=ld _ hlen;have mU:l.length=lr.length:=by rw[jW,aF]
  cbv
  repeat' first|(refine qA ?_;cbv)|(refine⟨0,f,?_⟩;cbv)|(refine⟨1,n1,?_⟩;cbv)|(intro c;cbv)
  refine ab (λg=>?_) (λg=>?_)
  ·have g2:d.pt<0:=fJ hP g;rw[ae g2] at j;clear g;cbv
   repeat' first|(refine qA ?_;cbv)|(refine⟨0,f,?_⟩;cbv)|(refine⟨1,n1,?_⟩;cbv)|(intro c;cbv)
   refine M 0 bl d tr lr d.to (d.to-d.b).toNat n _ _ ht A p Wz qO hs0 rfl ?_;cbv
   repeat' first|(refine qA ?_;cbv)|(refine⟨0,f,?_⟩;cbv)|(refine⟨1,n1,?_⟩;cbv)|(intro c;cbv)
   refine N 0 bl d tr l lr d.to _ _ ht jW p qO z ⟨by((try simp only[nc] at*);omega),qO⟩ rfl λtb kH=>?_;have hh:=E n tb H;obtain⟨hd,o⟩:∃x,hF n tb=x:=⟨_,rfl⟩;obtain⟨hx,WA⟩:∃x,hE n tb=x:=⟨_,rfl⟩;rw[o,WA] at hh;have k:Y=⟨⟨d.x1,d.x2,hd,0,d.dE,d.gn,d.b,d.fs,d.sf,d.mv,d.to,0,d.wh,d.gH⟩,tr,lr,true⟩:=by
    have e1:tr.getD (d.to-d.b).toNat []=[.str n]:=by rw[ar,hs0];rfl
    rw[j,e1,<-kH,<-o]
   cbv
   repeat' first|(refine qA ?_;cbv)|(refine⟨0,f,?_⟩;cbv)|(refine⟨1,n1,?_⟩;cbv)|(intro c;cbv)
   refine hh _ _ ?_;cbv
   repeat' first|(refine qA ?_;cbv)|(refine⟨0,f,?_⟩;cbv)|(refine⟨1,n1,?_⟩;cbv)|(intro c;cbv)
   exact B _ _ _ tr lr true k.symm (c6.refl _) rfl ⟨rfl,trivial⟩
  have g2:¬d.pt<0:=fM hP g;rw[aa g2] at j;clear g;cbv
  repeat' first|(refine qA ?_;cbv)|(refine⟨0,f,?_⟩;cbv)|(refine⟨1,n1,?_⟩;cbv)|(intro c;cbv)
  refine ab (λg=>?_) (λg=>?_)
  rotate_left
  ·have g3:d.wh=false:=g;clear g;cbv
   repeat' first|(refine qA ?_;cbv)|(refine⟨0,f,?_⟩;cbv)|(refine⟨1,n1,?_⟩;cbv)|(intro c;cbv)
   refine L 0 bl d tr lr _ _ ht A p qO rfl λq hq=>?_;cbv
   repeat' first|(refine qA ?_;cbv)|(refine⟨0,f,?_⟩;cbv)|(refine⟨1,n1,?_⟩;cbv)|(intro c;cbv)
   refine ab (λg=>?_) (λg=>?_)
   ·have g4:P.add d.to d.pt<q:=fJ hP g;rw[add_eq hP,hq] at g4;clear g;rw[ae ⟨g3,by rw[mU];exact g4⟩] at j;obtain⟨a,ha⟩:∃a:Nat,d.to-d.b+d.pt=(a:Int):=⟨(d.to-d.b+d.pt).toNat,qO⟩;have PO:a<l.length:=by((try simp only[nc] at*);omega)
    obtain⟨r,hr⟩:∃r,l[a]? =some r:=⟨_,af PO⟩;have I:P.add (P.sub d.to d.b) d.pt=(a:Int):=by rw[add_eq hP,sub_eq hP];exact ha
    have u:P.row lr (P.nat (P.add (P.sub d.to d.b) d.pt)) [qI r.who,qI r.seq,.sl false 3 (r.delta.map bd)]:=ga hP I (by rw[jW,av,hr];rfl);have ZF:P.fC 0 (P.add (P.sub d.to d.b) d.pt):=by rw[I];exact iu hP (aO _)
    have y:=O r (ax hr);have WB:l.getD (d.to-d.b+d.pt).toNat Gf=r:=by rw[ha,aA,ar,hr];rfl
    rw[WB] at j;have yL:=Q r (ax hr);obtain⟨rt,J⟩:∃x,rF r=x:=⟨_,rfl⟩;obtain⟨re,MJ⟩:∃x,rE r=x:=⟨_,rfl⟩;rw[J,MJ] at y;rw[J] at j yL;obtain⟨w,hw⟩:∃w,r.who=w:=⟨_,rfl⟩;obtain⟨sq,WC⟩:∃w,r.seq=w:=⟨_,rfl⟩;obtain⟨dl,Uh⟩:∃w,r.delta.map bd=w:=⟨_,rfl⟩;rw[hw,WC,Uh] at u y;have i1:P.i64 (P.add (P.c9 d.x3) (P.c9 rt)):=by rw[add_eq hP,da hP,da hP];exact eR hP qO
    have m:P.h9 d.x3 rt=d.x3++rt:=by subst hP;rfl
    have K:P.add d.pt 1=d.pt+1:=add_eq hP _ _;have k:Y=⟨⟨d.x1,d.x2,(P.h9 d.x3 rt),d.x4,d.dE,d.gn,d.b,d.fs,d.sf,d.mv,d.to,(P.add d.pt 1),d.wh,d.gH⟩,tr,lr,true⟩:=by rw[j,m,K]
    cbv
    repeat' first|(refine qA ?_;cbv)|(refine⟨0,f,?_⟩;cbv)|(refine⟨1,n1,?_⟩;cbv)|(intro c;cbv)
    refine⟨_,u,?_⟩;cbv
    repeat' first|(refine qA ?_;cbv)|(refine⟨0,f,?_⟩;cbv)|(refine⟨1,n1,?_⟩;cbv)|(intro c;cbv)
    refine y _ _ ?_;cbv
    repeat' first|(refine qA ?_;cbv)|(refine⟨0,f,?_⟩;cbv)|(refine⟨1,n1,?_⟩;cbv)|(intro c;cbv)
    exact B _ _ _ tr lr true k.symm (c6.refl _) rfl ⟨rfl,trivial⟩
   have g4:¬P.add d.to d.pt<q:=fM hP g;rw[add_eq hP,hq] at g4;clear g;rw[aa (λh=>g4 (by rw[<-mU];exact h.2)),ae g3] at j;have i1:P.i64 (P.add (P.c9 d.x3) (P.c9 D)):=by rw[add_eq hP,da hP,da hP];exact eR hP qO
   have m:P.h9 d.x3 D=d.x3++D:=by subst hP;rfl
   have k:Y=⟨⟨d.x1,d.x2,(P.h9 d.x3 D),d.x4,d.dE,d.gn,d.b,d.fs,d.sf,d.mv,d.to,d.pt,true,d.gH⟩,tr,lr,true⟩:=by rw[j,m]
   cbv
   repeat' first|(refine qA ?_;cbv)|(refine⟨0,f,?_⟩;cbv)|(refine⟨1,n1,?_⟩;cbv)|(intro c;cbv)
   refine hJ g3 ?_;cbv
   repeat' first|(refine qA ?_;cbv)|(refine⟨0,f,?_⟩;cbv)|(refine⟨1,n1,?_⟩;cbv)|(intro c;cbv)
   refine F _ _ ?_;cbv
   repeat' first|(refine qA ?_;cbv)|(refine⟨0,f,?_⟩;cbv)|(refine⟨1,n1,?_⟩;cbv)|(intro c;cbv)
   exact B _ _ _ tr lr true k.symm (c6.refl _) rfl ⟨rfl,trivial⟩
  have g3:d.wh=true:=g;rw[aa (by rw[g3];simp),aa (by rw[g3];simp)] at j;clear g;have et:P.jn tr (P.sub d.to d.b) (P.dv tr)=tr.drop (d.to-d.b).toNat:=by
   have e:P.jn tr (P.sub d.to d.b) (P.dv tr)=(tr.take ((tr.length:Nat):Int).toNat).drop (d.to-d.b).toNat:=by subst hP;rfl
   rw[e,aA,aM]
  have el:P.jn lr (P.sub d.to d.b) (P.dv lr)=lr.drop (d.to-d.b).toNat:=by
   have e:P.jn lr (P.sub d.to d.b) (P.dv lr)=(lr.take ((lr.length:Nat):Int).toNat).drop (d.to-d.b).toNat:=by subst hP;rfl
   rw[e,aA,aM]
  have ft:∀r∈P.jn tr (P.sub d.to d.b) (P.dv tr),∀v∈r,Fz v:=by rw[et];exact λr hr=>ht r (bC hr)
  have fl:∀r∈P.jn lr (P.sub d.to d.b) (P.dv lr),∀v∈r,Fz v:=by rw[el];exact λr hr=>A r (bC hr)
  have nl:(P.jn lr (P.sub d.to d.b) (P.dv lr)).length<=1000:=by rw[el,aJ];((try simp only[nc] at*);omega)
  have gp:P.add d.gn 1=d.gn+1:=add_eq hP _ _;have ap:P.sub 1 d.dE=1-d.dE:=sub_eq hP _ _;have sl:P.c9 d.x3=(d.x3.length:Int):=da hP _;cbv
  repeat' first|(refine qA ?_;cbv)|(refine⟨0,f,?_⟩;cbv)|(refine⟨1,n1,?_⟩;cbv)|(intro c;cbv)
  refine iv g3 ?_;cbv
  repeat' first|(refine qA ?_;cbv)|(refine⟨0,f,?_⟩;cbv)|(refine⟨1,n1,?_⟩;cbv)|(intro c;cbv)
  refine G _ _ _ ?_;cbv
  repeat' first|(refine qA ?_;cbv)|(refine⟨0,f,?_⟩;cbv)|(refine⟨1,n1,?_⟩;cbv)|(intro c;cbv)
  refine C 0 bl ⟨d.x1,d.x2,d.x3,(P.c9 d.x3),d.dE,d.gn,d.b,d.fs,d.sf,d.mv,d.to,d.pt,d.wh,d.gH⟩ tr l lr d.to _ _ ht jW p qO z ⟨by((try simp only[nc] at*);omega),qO⟩ rfl λtb kH=>?_;have kH:tb=gg d.fs d.b (l.take (d.to-d.b).toNat):=kH;cbv
  repeat' first|(refine qA ?_;cbv)|(refine⟨0,f,?_⟩;cbv)|(refine⟨1,n1,?_⟩;cbv)|(intro c;cbv)
  refine o 0 bl ⟨d.x1,d.x2,d.x3,(P.c9 d.x3),(P.sub 1 d.dE),(P.add d.gn 1),d.to,tb,d.sf,d.mv,d.to,d.pt,d.wh,d.gH⟩ (P.jn tr (P.sub d.to d.b) (P.dv tr)) (P.jn lr (P.sub d.to d.b) (P.dv lr)) _ _ ft fl (by show 0<=d.to/\d.to<=4294967295;((try simp only[nc] at*);omega)) nl rfl λq hq=>?_;have k:Y=⟨⟨d.x1,d.x2,d.x3,(P.c9 d.x3),(P.sub 1 d.dE),(P.add d.gn 1),d.to,tb,q,false,d.to,d.pt,d.wh,true⟩,P.jn tr (P.sub d.to d.b) (P.dv tr),P.jn lr (P.sub d.to d.b) (P.dv lr),true⟩:=by
   rw[hq,et,el,gp,ap,sl,kH,j]
  cbv
  repeat' first|(refine qA ?_;cbv)|(refine⟨0,f,?_⟩;cbv)|(refine⟨1,n1,?_⟩;cbv)|(intro c;cbv)
  exact B _ _ _ _ _ true k.symm (c6.refl _) rfl ⟨rfl,trivial⟩
 ·have hat:d.dE=1:=hat;have nt:P.nat (P.sub 1 d.dE)=0:=by rw[sub_eq hP,hat];subst hP;rfl
  have W:gC d=λx s=>(⟨x,s,d.x3,d.x4,d.dE,d.gn,d.b,d.fs,d.sf,d.mv,d.to,d.pt,d.wh,d.gH⟩:iq):=by funext x s;unfold gC;rw[aa (by rw[hat];decide)]
  have X:ja d=d.x1:=by unfold ja;rw[aa (by rw[hat];decide)]
  have Z:mB d=d.x2:=by unfold mB;rw[aa (by rw[hat];decide)]
  rw[W,X,Z] at j;cbv
  repeat' first|(refine qA ?_;cbv)|(refine⟨0,f,?_⟩;cbv)|(refine⟨1,n1,?_⟩;cbv)|(intro c;cbv)
  refine⟨0,nt,?_⟩;cbv
  repeat' first|(refine qA ?_;cbv)|(refine⟨0,f,?_⟩;cbv)|(refine⟨1,n1,?_⟩;cbv)|(intro c;cbv)
  refine ab (λg=>?_) (λg=>?_)
  rotate_left
  ·have g1:d.mv=false:=g;rw[ae g1] at j;clear g;cbv
   repeat' first|(refine qA ?_;cbv)|(refine⟨0,f,?_⟩;cbv)|(refine⟨1,n1,?_⟩;cbv)|(intro c;cbv)
   refine ab (λg=>?_) (λg=>?_)
   ·have g2:d.gH=true:=g;rw[g2] at j;cbv
    repeat' first|(refine qA ?_;cbv)|(refine⟨0,f,?_⟩;cbv)|(refine⟨1,n1,?_⟩;cbv)|(intro c;cbv)
    exact B _ _ ⟨[],0,d.x3,d.x4,d.dE,d.gn,d.b,d.fs,d.sf,d.mv,d.to,d.pt,d.wh,false⟩ tr lr true j.symm (c6.refl _) (by rw[<-g2];rfl) ⟨rfl,trivial⟩
   have g2:d.gH=false:=g;rw[g2] at j;cbv
   repeat' first|(refine qA ?_;cbv)|(refine⟨0,f,?_⟩;cbv)|(refine⟨1,n1,?_⟩;cbv)|(intro c;cbv)
   exact B _ _ ⟨d.x1,d.x2,d.x3,d.x4,d.dE,d.gn,d.b,d.fs,d.sf,d.mv,d.to,d.pt,d.wh,false⟩ tr lr false j.symm (c6.refl _) (by rw[<-g2];rfl) ⟨rfl,trivial⟩
  have g1:d.mv=true:=g;rw[aa (by rw[g1];simp)] at j;clear g;have hm:=hm g1;obtain⟨ZC,ZD⟩:=hm;have j1:P.i64 (P.add d.gn 1):=by rw[add_eq hP];exact eR hP qO
  have j2:P.i64 (P.sub d.to d.b):=by rw[sub_eq hP];exact eR hP qO
  have j3:P.i64 (P.add d.to d.pt):=by rw[add_eq hP];exact eR hP qO
  have j4:P.i64 (P.add (P.sub d.to d.b) d.pt):=by rw[add_eq hP,sub_eq hP];exact eR hP qO
  have j5:P.i64 (P.add d.pt 1):=by rw[add_eq hP];exact eR hP qO
  have j6:P.fC 0 (P.sub d.to d.b):=by rw[sub_eq hP];exact iu hP qO
  have j7:P.fC (P.sub d.to d.b) (P.dv tr):=by rw[sub_eq hP,gE hP];exact lE hP qO
  have j8:P.fC (P.sub d.to d.b) (P.dv lr):=by rw[sub_eq hP,gE hP];exact lE hP qO
  have j9:P.fC (P.dv tr) (P.dv tr):=lE hP (aN _);have ZE:P.fC (P.dv lr) (P.dv lr):=lE hP (aN _);have Wz:d.to-d.b=((d.to-d.b).toNat:Int):=by((try simp only[nc] at*);omega)
  have hlen:(d.to-d.b).toNat<tr.length:=by((try simp only[nc] at*);omega)
  obtain⟨n,hs0,H⟩:=ld _ hlen;have mU:l.length=lr.length:=by rw[jW,aF]
  cbv
  repeat' first|(refine qA ?_;cbv)|(refine⟨0,f,?_⟩;cbv)|(refine⟨1,n1,?_⟩;cbv)|(intro c;cbv)
  refine ab (λg=>?_) (λg=>?_)
  ·have g2:d.pt<0:=fJ hP g;rw[ae g2] at j;clear g;cbv
   repeat' first|(refine qA ?_;cbv)|(refine⟨0,f,?_⟩;cbv)|(refine⟨1,n1,?_⟩;cbv)|(intro c;cbv)
   refine M 0 bl d tr lr d.to (d.to-d.b).toNat n _ _ ht A p Wz qO hs0 rfl ?_;cbv
   repeat' first|(refine qA ?_;cbv)|(refine⟨0,f,?_⟩;cbv)|(refine⟨1,n1,?_⟩;cbv)|(intro c;cbv)
   refine N 0 bl d tr l lr d.to _ _ ht jW p qO z ⟨by((try simp only[nc] at*);omega),qO⟩ rfl λtb kH=>?_;have hh:=E n tb H;obtain⟨hd,o⟩:∃x,hF n tb=x:=⟨_,rfl⟩;obtain⟨hx,WA⟩:∃x,hE n tb=x:=⟨_,rfl⟩;rw[o,WA] at hh;have k:Y=⟨⟨hd,0,d.x3,d.x4,d.dE,d.gn,d.b,d.fs,d.sf,d.mv,d.to,0,d.wh,d.gH⟩,tr,lr,true⟩:=by
    have e1:tr.getD (d.to-d.b).toNat []=[.str n]:=by rw[ar,hs0];rfl
    rw[j,e1,<-kH,<-o]
   cbv
   repeat' first|(refine qA ?_;cbv)|(refine⟨0,f,?_⟩;cbv)|(refine⟨1,n1,?_⟩;cbv)|(intro c;cbv)
   refine hh _ _ ?_;cbv
   repeat' first|(refine qA ?_;cbv)|(refine⟨0,f,?_⟩;cbv)|(refine⟨1,n1,?_⟩;cbv)|(intro c;cbv)
   exact B _ _ _ tr lr true k.symm (c6.refl _) rfl ⟨rfl,trivial⟩
  have g2:¬d.pt<0:=fM hP g;rw[aa g2] at j;clear g;cbv
  repeat' first|(refine qA ?_;cbv)|(refine⟨0,f,?_⟩;cbv)|(refine⟨1,n1,?_⟩;cbv)|(intro c;cbv)
  refine ab (λg=>?_) (λg=>?_)
  rotate_left
  ·have g3:d.wh=false:=g;clear g;cbv
   repeat' first|(refine qA ?_;cbv)|(refine⟨0,f,?_⟩;cbv)|(refine⟨1,n1,?_⟩;cbv)|(intro c;cbv)
   refine L 0 bl d tr lr _ _ ht A p qO rfl λq hq=>?_;cbv
   repeat' first|(refine qA ?_;cbv)|(refine⟨0,f,?_⟩;cbv)|(refine⟨1,n1,?_⟩;cbv)|(intro c;cbv)
   refine ab (λg=>?_) (λg=>?_)
   ·have g4:P.add d.to d.pt<q:=fJ hP g;rw[add_eq hP,hq] at g4;clear g;rw[ae ⟨g3,by rw[mU];exact g4⟩] at j;obtain⟨a,ha⟩:∃a:Nat,d.to-d.b+d.pt=(a:Int):=⟨(d.to-d.b+d.pt).toNat,qO⟩;have PO:a<l.length:=by((try simp only[nc] at*);omega)
    obtain⟨r,hr⟩:∃r,l[a]? =some r:=⟨_,af PO⟩;have I:P.add (P.sub d.to d.b) d.pt=(a:Int):=by rw[add_eq hP,sub_eq hP];exact ha
    have u:P.row lr (P.nat (P.add (P.sub d.to d.b) d.pt)) [qI r.who,qI r.seq,.sl false 3 (r.delta.map bd)]:=ga hP I (by rw[jW,av,hr];rfl);have ZF:P.fC 0 (P.add (P.sub d.to d.b) d.pt):=by rw[I];exact iu hP (aO _)
    have y:=O r (ax hr);have WB:l.getD (d.to-d.b+d.pt).toNat Gf=r:=by rw[ha,aA,ar,hr];rfl
    rw[WB] at j;have yL:=Q r (ax hr);obtain⟨rt,J⟩:∃x,rF r=x:=⟨_,rfl⟩;obtain⟨re,MJ⟩:∃x,rE r=x:=⟨_,rfl⟩;rw[J,MJ] at y;rw[J] at j yL;obtain⟨w,hw⟩:∃w,r.who=w:=⟨_,rfl⟩;obtain⟨sq,WC⟩:∃w,r.seq=w:=⟨_,rfl⟩;obtain⟨dl,Uh⟩:∃w,r.delta.map bd=w:=⟨_,rfl⟩;rw[hw,WC,Uh] at u y;have i1:P.i64 (P.add (P.c9 d.x1) (P.c9 rt)):=by rw[add_eq hP,da hP,da hP];exact eR hP qO
    have m:P.h9 d.x1 rt=d.x1++rt:=by subst hP;rfl
    have K:P.add d.pt 1=d.pt+1:=add_eq hP _ _;have k:Y=⟨⟨(P.h9 d.x1 rt),d.x2,d.x3,d.x4,d.dE,d.gn,d.b,d.fs,d.sf,d.mv,d.to,(P.add d.pt 1),d.wh,d.gH⟩,tr,lr,true⟩:=by rw[j,m,K]
    cbv
    repeat' first|(refine qA ?_;cbv)|(refine⟨0,f,?_⟩;cbv)|(refine⟨1,n1,?_⟩;cbv)|(intro c;cbv)
    refine⟨_,u,?_⟩;cbv
    repeat' first|(refine qA ?_;cbv)|(refine⟨0,f,?_⟩;cbv)|(refine⟨1,n1,?_⟩;cbv)|(intro c;cbv)
    refine y _ _ ?_;cbv
    repeat' first|(refine qA ?_;cbv)|(refine⟨0,f,?_⟩;cbv)|(refine⟨1,n1,?_⟩;cbv)|(intro c;cbv)
    exact B _ _ _ tr lr true k.symm (c6.refl _) rfl ⟨rfl,trivial⟩
   have g4:¬P.add d.to d.pt<q:=fM hP g;rw[add_eq hP,hq] at g4;clear g;rw[aa (λh=>g4 (by rw[<-mU];exact h.2)),ae g3] at j;have i1:P.i64 (P.add (P.c9 d.x1) (P.c9 D)):=by rw[add_eq hP,da hP,da hP];exact eR hP qO
   have m:P.h9 d.x1 D=d.x1++D:=by subst hP;rfl
   have k:Y=⟨⟨(P.h9 d.x1 D),d.x2,d.x3,d.x4,d.dE,d.gn,d.b,d.fs,d.sf,d.mv,d.to,d.pt,true,d.gH⟩,tr,lr,true⟩:=by rw[j,m]
   cbv
   repeat' first|(refine qA ?_;cbv)|(refine⟨0,f,?_⟩;cbv)|(refine⟨1,n1,?_⟩;cbv)|(intro c;cbv)
   refine hJ g3 ?_;cbv
   repeat' first|(refine qA ?_;cbv)|(refine⟨0,f,?_⟩;cbv)|(refine⟨1,n1,?_⟩;cbv)|(intro c;cbv)
   refine F _ _ ?_;cbv
   repeat' first|(refine qA ?_;cbv)|(refine⟨0,f,?_⟩;cbv)|(refine⟨1,n1,?_⟩;cbv)|(intro c;cbv)
   exact B _ _ _ tr lr true k.symm (c6.refl _) rfl ⟨rfl,trivial⟩
  have g3:d.wh=true:=g;rw[aa (by rw[g3];simp),aa (by rw[g3];simp)] at j;clear g;have et:P.jn tr (P.sub d.to d.b) (P.dv tr)=tr.drop (d.to-d.b).toNat:=by
   have e:P.jn tr (P.sub d.to d.b) (P.dv tr)=(tr.take ((tr.length:Nat):Int).toNat).drop (d.to-d.b).toNat:=by subst hP;rfl
   rw[e,aA,aM]
  have el:P.jn lr (P.sub d.to d.b) (P.dv lr)=lr.drop (d.to-d.b).toNat:=by
   have e:P.jn lr (P.sub d.to d.b) (P.dv lr)=(lr.take ((lr.length:Nat):Int).toNat).drop (d.to-d.b).toNat:=by subst hP;rfl
   rw[e,aA,aM]
  have ft:∀r∈P.jn tr (P.sub d.to d.b) (P.dv tr),∀v∈r,Fz v:=by rw[et];exact λr hr=>ht r (bC hr)
  have fl:∀r∈P.jn lr (P.sub d.to d.b) (P.dv lr),∀v∈r,Fz v:=by rw[el];exact λr hr=>A r (bC hr)
  have nl:(P.jn lr (P.sub d.to d.b) (P.dv lr)).length<=1000:=by rw[el,aJ];((try simp only[nc] at*);omega)
  have gp:P.add d.gn 1=d.gn+1:=add_eq hP _ _;have ap:P.sub 1 d.dE=1-d.dE:=sub_eq hP _ _;have sl:P.c9 d.x1=(d.x1.length:Int):=da hP _;cbv
  repeat' first|(refine qA ?_;cbv)|(refine⟨0,f,?_⟩;cbv)|(refine⟨1,n1,?_⟩;cbv)|(intro c;cbv)
  refine iv g3 ?_;cbv
  repeat' first|(refine qA ?_;cbv)|(refine⟨0,f,?_⟩;cbv)|(refine⟨1,n1,?_⟩;cbv)|(intro c;cbv)
  refine G _ _ _ ?_;cbv
  repeat' first|(refine qA ?_;cbv)|(refine⟨0,f,?_⟩;cbv)|(refine⟨1,n1,?_⟩;cbv)|(intro c;cbv)
  refine C 0 bl ⟨d.x1,(P.c9 d.x1),d.x3,d.x4,d.dE,d.gn,d.b,d.fs,d.sf,d.mv,d.to,d.pt,d.wh,d.gH⟩ tr l lr d.to _ _ ht jW p qO z ⟨by((try simp only[nc] at*);omega),qO⟩ rfl λtb kH=>?_;have kH:tb=gg d.fs d.b (l.take (d.to-d.b).toNat):=kH;cbv
  repeat' first|(refine qA ?_;cbv)|(refine⟨0,f,?_⟩;cbv)|(refine⟨1,n1,?_⟩;cbv)|(intro c;cbv)
  refine o 0 bl ⟨d.x1,(P.c9 d.x1),d.x3,d.x4,(P.sub 1 d.dE),(P.add d.gn 1),d.to,tb,d.sf,d.mv,d.to,d.pt,d.wh,d.gH⟩ (P.jn tr (P.sub d.to d.b) (P.dv tr)) (P.jn lr (P.sub d.to d.b) (P.dv lr)) _ _ ft fl (by show 0<=d.to/\d.to<=4294967295;((try simp only[nc] at*);omega)) nl rfl λq hq=>?_;have k:Y=⟨⟨d.x1,(P.c9 d.x1),d.x3,d.x4,(P.sub 1 d.dE),(P.add d.gn 1),d.to,tb,q,false,d.to,d.pt,d.wh,true⟩,P.jn tr (P.sub d.to d.b) (P.dv tr),P.jn lr (P.sub d.to d.b) (P.dv lr),true⟩:=by
   rw[hq,et,el,gp,ap,sl,kH,j]
  cbv
  repeat' first|(refine qA ?_;cbv)|(refine⟨0,f,?_⟩;cbv)|(refine⟨1,n1,?_⟩;cbv)|(intro c;cbv)
  exact B _ _ _ _ _ true k.symm (c6.refl _) rfl ⟨rfl,trivial⟩
structure XT where
 d:iq
 tx:List BS
 l:List eP
 v:Bool
def kt(d:iq)(tx:List BS)(l:List eP):XT:=
 if d.mv=false then⟨{(if d.gH=true then gC d [] 0 else d) with gH:=false},tx,l,d.gH⟩
 else if d.pt<0 then⟨{gC d (hM (d.gn+1) d.to (tx.getD (d.to-d.b).toNat []) (gg d.fs d.b (l.take (d.to-d.b).toNat))).1 0 with pt:=0},tx,l,true⟩
 else if d.wh=false/\d.to+d.pt<d.b+(l.length:Int) then⟨{gC d (ja d++(gQ (l.getD (d.to-d.b+d.pt).toNat Gf)).1) (mB d) with pt:=d.pt+1},tx,l,true⟩
 else if d.wh=false then⟨{gC d (ja d++(gq 3 []).1) (mB d) with wh:=true},tx,l,true⟩
 else⟨{gC d (ja d) ((ja d).length:Int) with fs:=gg d.fs d.b (l.take (d.to-d.b).toNat),b:=d.to,gn:=d.gn+1,dE:=1-d.dE,sf:=d.to+((l.drop (d.to-d.b).toNat).length:Int),mv:=false,gH:=true},tx.drop (d.to-d.b).toNat,l.drop (d.to-d.b).toNat,true⟩
structure tX(d:iq)(tx:List BS)(l:List eP):Prop where
 b:0<=d.b/\d.b<=2147483647
 n:l.length<=64
 EP:tx.length=l.length+1
 ZG:∀s∈tx,s.length<=maxLen
 rv:lO l
 who:∀r∈l,0<=r.who/\r.who<=7
 dE:d.dE=0\/d.dE=1
 gn:0<=d.gn/\d.gn<=4294967295
 x:d.x1.length<=1048576/\d.x3.length<=1048576
 m:d.mv=true->(d.b<=d.to/\d.to<=d.b+(l.length:Int))/\(-1<=d.pt/\d.pt<=4294967295)
theorem Sf(bl:Nat)(d:iq)(tx:List BS)(l:List eP)(c:tX d tx l):Spec Tryz.prog 52 [.ptr 0 (some bl) 31 0 0] (cp (kZ bl d tx l)) λx h'=>∃k,(∃d' f l',(∃v,x=.bool v/\⟨d',f,l',v⟩=kt d tx l)/\k=kZ bl d' f l')/\h'=cp k:=by
 refine fu iD Sd (L:=kZ bl d tx l) (λx k=>∃d' f l',(∃v,x=.bool v/\⟨d',f,l',v⟩=kt d tx l)/\k=kZ bl d' f l') λR w=>?_;have g:(l.map ca).length=l.length:=aF ..;have h:(c7 tx).length=tx.length:=aF ..;have o:(gq 3 []).1.length<=1000000:=by rw[qF,iz];show(0:Nat)+7<=_;omega
 have u:=c.n;refine Se dn rfl _ _ pX CP K9 PM La (λj tb=>(hM (d.gn+1) d.to j tb).1) (λj tb=>(hM (d.gn+1) d.to j tb).2) (λr=>(gQ r).1) (λr=>(gQ r).2) (gq 3 []).1 bl d (c7 tx) l (l.map ca) rfl (gY _) (fL _) c.b (by rw[g];omega) (by rw[h,g];exact c.EP)
  (λi hi=>by
   rw[h] at hi;exact⟨tx[i],by rw[c7,av,af hi];rfl,c.ZG _ (dg hi)⟩) c.who c.dE c.gn c.x o (by rw[g];exact c.m)
  (λj tb hs=>oh (As (d.gn+1) d.to j hs tb) (λ_=>.cons (.same _) (.cons (.same _) (.cons (.same _) (.cons (.same _) .nil)))) rfl)
  (λr hr=>oh (J9 r (c.rv.2 r hr).2.2) (λ_=>.cons (.same _) .nil) rfl) (λr _=>by have:=sm r;omega) (oh Aq (λ_=>.nil) rfl) (λs=>ia (pW s) (λ_=>.cons (.same _) .nil) rfl) _ rfl R λs s' d' p q v a he hr ha=>?_
 have t:d'=(kt d tx l).d/\p=c7 (kt d tx l).tx/\q=(kt d tx l).l.map ca/\v=(kt d tx l).v:=by
  unfold kt
  by_cases h1:d.mv=false
  ·rw[ae h1] at a⊢;exact⟨aB nI.d a,aB nI.tr a,aB nI.lr a,aB nI.v a⟩
  ·have od:=c.m (by cases hd:d.mv;exact absurd hd h1;rfl);have hn:=c.EP;rw[aa h1] at a⊢
   by_cases h2:d.pt<0
   ·rw[ae h2] at a⊢;have hlt:(d.to-d.b).toNat<tx.length:=by omega
    have e:(c7 tx).getD (d.to-d.b).toNat []=[.str (tx.getD (d.to-d.b).toNat [])]:=by
     rw[ar,ar,c7,av,af hlt];rfl
    rw[e] at a;exact⟨aB nI.d a,aB nI.tr a,aB nI.lr a,aB nI.v a⟩
   ·rw[aa h2] at a⊢
    by_cases h3:d.wh=false/\d.to+d.pt<d.b+(l.length:Int)
    ·rw[ae h3] at a⊢;exact⟨aB nI.d a,aB nI.tr a,aB nI.lr a,aB nI.v a⟩
    ·rw[aa h3] at a⊢
     by_cases h4:d.wh=false
     ·rw[ae h4] at a⊢;exact⟨aB nI.d a,aB nI.tr a,aB nI.lr a,aB nI.v a⟩
     ·rw[aa h4] at a⊢;have e1:(c7 tx).drop (d.to-d.b).toNat=c7 (tx.drop (d.to-d.b).toNat):=(dm ..).symm;have y:(l.map ca).drop (d.to-d.b).toNat=(l.drop (d.to-d.b).toNat).map ca:=(dm ..).symm;rw[e1,y,aF] at a;exact⟨aB nI.d a,aB nI.tr a,aB nI.lr a,aB nI.v a⟩
 obtain⟨rfl,rfl,rfl,rfl⟩:=t;exact w s s' (.bool _) (kZ bl _ _ _) he (eM _ _ _ (λx hx=>by rw[hx];rfl) hr) ha (.bool _) o5 ⟨_,_,_,⟨_,rfl,rfl⟩,rfl⟩
def Lh(T:c8):Prop:=∀(k bl:Nat)(d:iq)(tx:List BS)(l:List eP)(tr lr:List (List V))(h:Hp)(K:V->Hp->Prop),tr=c7 tx->lr=l.map ca->tX d tx l->h k=some (fI bl d (.sl false 1 tr) (.sl false 3 lr))->
 (∀d' a l' v b c,⟨d',a,l',v⟩=kt d tx l->b=c7 a->c=l'.map ca->K (.bool v) (h.fK [(k,fI bl d' (.sl false 1 b) (.sl false 3 c))]))->T 52 [.ptr k (some bl) 31 0 0] h K
theorem Sg:Lh (fm Tryz.prog):=by
 rintro k bl d tx l tr lr h K rfl rfl b hk hK;refine Lb (post:=λx d' a l'=>∃v,x=.bool v/\⟨d',a,l',v⟩=kt d tx l) (Sf bl d tx l b) (λ_ _=>.nil) (λx d' a l' g hp=>by obtain⟨v,rfl,_⟩:=hp;rfl) hk ?_;rintro x d' a l' ⟨v,rfl,hp⟩;exact hK d' a l' v _ _ hp rfl rfl
def r1:eP:=⟨1,1,[⟨2,0,[97]⟩]⟩
theorem mX(p:Part)(u k:Int)(hp:rT p):lH (chunk p u k)=if p.kind=2 then 0 else k.toNat:=by
 have h1:=iU hp;unfold chunk
 split
 ·unfold lH;rw[sX];rfl
 ·have:=lh [] (if p.kind=1 then iY.keep else iY.cut) (by split<;>simp) k.toNat
  simp only[cE,fy] at this;simp[lH,this]
end Go.Proofs.YtobngncjflogcaaGreat.AM
