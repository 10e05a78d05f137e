/-
  Part 6 of what the law TopDesk reaches: the plain machine, contracts of the functions and plain laws; each lemma says its own condition.
-/
import Derived.Test.YtajdadcdcpnedaaGreatDoorTopDesk5
import Derived.Test.YtajdadcdcpnedaaGreatDoorTopDesk4
import Derived.Shelf.Strings.Builder1
import Derived.Test.YtajdadcdcpnedaaGreatDoorProg
import Derived.WalkKit
import Derived.WalkSpells
import Derived.WalkLawsBesides
import Derived.Lib.AppendStr
import Derived.BigQuiet
import Derived.Lib.Hide
set_option linter.unusedVariables false
set_option linter.unusedSimpArgs false
namespace Go.Proofs.YtajdadcdcpnedaaGreatDoor.AM
open Go Go.RowKit
set_option maxRecDepth 100000
set_option maxHeartbeats 2000000
def hY(x:BS)(n:Int):Int:=if 1048576<x.length then 2 else if n<0\/(x.length:Int)<n then 3 else 0
def iz(a1:BS)(a2:Int)(b1:BS)(b2:Int):Int:=if hY a1 a2≠0 then hY a1 a2 else hY b1 b2
def lO(a1:BS)(a2:Int)(b1:BS)(b2:Int)(i:Int):Int:=if iz a1 a2 b1 b2≠0 then iz a1 a2 b1 b2 else if i<0\/2<=i then 1 else 0
structure D4 where
 x1:BS
 x2:Int
 x3:BS
 x4:Int
 e:Int
def Pv(e:Int):D4:=⟨[],0,[],0,e⟩
def mB(a1:BS)(a2:Int)(b1:BS)(b2:Int)(i:Int)(s:BS):D4:=if lO a1 a2 b1 b2 i≠0 then Pv (lO a1 a2 b1 b2 i)
 else if i=0 then(if 1048576<a1.length+s.length then Pv 2 else⟨a1++s,a2,b1,b2,0⟩)
 else(if 1048576<b1.length+s.length then Pv 2 else⟨a1,a2,b1++s,b2,0⟩)
def mF(a1:BS)(a2:Int)(b1:BS)(b2:Int)(i:Int):D4:=if lO a1 a2 b1 b2 i≠0 then Pv (lO a1 a2 b1 b2 i)
 else if i=0 then⟨a1,a1.length,b1,b2,0⟩ else⟨a1,a2,b1,b1.length,0⟩
def mG(a1:BS)(a2:Int)(b1:BS)(b2:Int)(i n:Int):D4:=if lO a1 a2 b1 b2 i≠0 then Pv (lO a1 a2 b1 b2 i)
 else if i=0 then(if n<0\/(a1.length:Int)<n then Pv 1 else⟨a1.take n.toNat,min a2 n,b1,b2,0⟩)
 else(if n<0\/(b1.length:Int)<n then Pv 1 else⟨a1,a2,b1.take n.toNat,min b2 n,0⟩)
theorem kg{x:BS}{n:Int}(h:hY x n=0):x.length<=1048576/\0<=n/\n<=(x.length:Int):=by
 unfold hY at h
 split at h
 ·exact absurd h qD
 ·split at h
  ·exact absurd h qD
  ·omega
theorem pk{a1 b1:BS}{a2 b2:Int}(h:iz a1 a2 b1 b2=0):hY a1 a2=0/\hY b1 b2=0:=by
 unfold iz at h
 by_cases g:hY a1 a2≠0
 ·rw[ab g] at h;exact absurd h g
 ·rw[aa g] at h;exact⟨aK g,h⟩
theorem look_ok{a1 b1:BS}{a2 b2 i:Int}(h:lO a1 a2 b1 b2 i=0):iz a1 a2 b1 b2=0/\(i=0\/i=1):=by
 unfold lO at h
 by_cases g:iz a1 a2 b1 b2≠0
 ·rw[ab g] at h;exact absurd h g
 ·rw[aa g] at h;refine⟨aK g,?_⟩
  split at h
  ·exact absurd h qD
  ·omega
structure VW(a1:BS)(a2:Int)(b1:BS)(b2:Int) where
 m:Nat
 k:Int
 hm:m<=2
 hk:k=(m:Int)
 h0:0<m->hY a1 a2=0
 h1:1<m->hY b1 b2=0
def GQ:AC:=qr [qo 1 (.box 71 4 (.t 0)),qz 2 0] (qq (qr [qf 5 0 1,qd 6 4 5,qz 7 0] (.block 0 (.loop (qr [qc 8 .lss 7 2] (qq (qu 8 .skip (.exit 0)) (qq (.block 1 (qr [qo 9 (.ixa true 2 2 (.t 6) (.t 7)),qo 4 (.alloc 68 [qe,q0]),qs 2 4 9] (qq (qr [qf 10 0 4,ql 11 10,qo 12 (.len true (.t 11)),qc 13 .gtr 12 1048576] (qu 13 (qr [qz 2 2] .ret) .skip)) (qr [qf 14 1 4,ql 15 14,qc 16 .lss 15 0,qm 17 16,qg 18 17 false (.faddr 1 (.t 4)),qg 19 17 false (.load1 (.t 18)),qg 20 17 false (.faddr 0 (.t 4)),qg 21 17 false (.load1 (.t 20)),qg 22 17 false (.len true (.t 21)),qg 23 17 false (.bin .gtr (.t 19) (.t 22)),qo 24 (.pick (.t 17) (.c (.bool true)) (.t 23))] (qu 24 (qr [qz 2 3] .ret) .skip))))) (qR [qc 25 .add 7 1,qm 7 25]))))))) (qr [qz 2 0] .ret))
theorem Px:fF Tryz.prog 192 Tryz.f192 GQ [.t 2] 1 dS:=⟨Tryz.func192,by decide+kernel,by kernel_rfl,by kernel_rfl,by decide+kernel⟩
theorem Py(P:Prim)(hP:P=cp)(T i:cm)(a1:BS)(a2:Int)(b1:BS)(b2:Int)
  (R:S->Prop)(b:∀d s' x,x=iz a1 a2 b1 b2->cd d s'->ia [.t 2] [qI x] s'->R d):gE P T i GQ (S0 [.agg [.str a1,qI a2,.str b1,qI b2]] Hp.emp) R (λ_ _=>False) R:=by
 cbv;intro β;cbv
 repeat' first|(refine qA ?_;cbv)|(intro a;cbv)
 refine⟨VW a1 a2 b1 b2,λy=>[(6,.agg [.str a1,qI a2,.str b1,qI b2]),(7,qI y.k)],λy=>[],λy=>2-y.m,
  ⟨_,cd.refl _,⟨0,0,qD,rfl,λh=>absurd h qD,λh=>absurd h qD⟩,⟨rfl,rfl,trivial⟩,trivial⟩,?_⟩
 rintro⟨m,k,hm,hk,h0,h1⟩;cbv;refine a6 (λg=>?_) (λg=>?_)
 ·have h5:k<2:=gM hP g
  replace hm:m<2:=by((try simp only[nc] at*);omega)
  have k0:P.fK 0 k:=iJ hP qO;have k1:P.iq k 2:=lk hP qO;have j:P.i64 (P.add k 1):=by rw[add_eq hP];exact fm hP qO
  have f:P.add k 1=((m+1:Nat):Int):=by rw[add_eq hP,hk];((try simp only[nc] at*);omega)
  have hc:m=0\/m=1:=by omega
  rcases hc with rfl|rfl
  ·cbv;have c:P.nat k=0:=by rw[hk];subst hP;rfl
   refine⟨k0,k1,0,c,?_⟩;cbv
   repeat' first|(refine qA ?_;cbv)|(intro a;cbv)
   refine a6 (λg=>?_) (λg=>?_)
   ·have g1:1048576<P.b5 a1:=gM hP g;rw[cA hP] at g1;have hx:hY a1 a2=2:=by unfold hY;rw[ab qO]
    cbv;exact b _ _ _ (by unfold iz;rw[ab (by rw[hx];decide),hx]) (cd.refl _) rfl
   have g1:¬1048576<P.b5 a1:=gN hP g;rw[cA hP] at g1;cbv
   repeat' first|(refine qA ?_;cbv)|(intro a;cbv)
   refine a6 (λg=>?_) (λg=>?_)
   ·have g2:a2<0:=gM hP g;have hx:hY a1 a2=3:=by unfold hY;rw[aa qO,ab (.inl g2)]
    cbv;exact b _ _ _ (by unfold iz;rw[ab (by rw[hx];decide),hx]) (cd.refl _) rfl
   have g2:¬a2<0:=gN hP g;cbv
   repeat' first|(refine qA ?_;cbv)|(intro a;cbv)
   refine a6 (λg=>?_) (λg=>?_)
   ·have g3:P.b5 a1<a2:=gM hP g;rw[cA hP] at g3;have hx:hY a1 a2=3:=by unfold hY;rw[aa qO,ab (.inr g3)]
    cbv;exact b _ _ _ (by unfold iz;rw[ab (by rw[hx];decide),hx]) (cd.refl _) rfl
   have g3:¬P.b5 a1<a2:=gN hP g;rw[cA hP] at g3;have hx:hY a1 a2=0:=by unfold hY;rw[aa qO,aa qO]
   cbv
   repeat' first|(refine qA ?_;cbv)|(intro a;cbv)
   exact⟨_,cd.refl _,⟨1,_,qD,f,λ_=>hx,λh=>absurd h qD⟩,⟨rfl,rfl,trivial⟩,trivial,by show 2-(0+1)<2-0;decide⟩
  ·cbv;have c:P.nat k=1:=by rw[hk];subst hP;rfl
   refine⟨k0,k1,1,c,?_⟩;cbv
   repeat' first|(refine qA ?_;cbv)|(intro a;cbv)
   refine a6 (λg=>?_) (λg=>?_)
   ·have g1:1048576<P.b5 b1:=gM hP g;rw[cA hP] at g1;have hx:hY b1 b2=2:=by unfold hY;rw[ab qO]
    cbv;exact b _ _ _ (by unfold iz;rw[aa (λg=>g (h0 qD)),hx]) (cd.refl _) rfl
   have g1:¬1048576<P.b5 b1:=gN hP g;rw[cA hP] at g1;cbv
   repeat' first|(refine qA ?_;cbv)|(intro a;cbv)
   refine a6 (λg=>?_) (λg=>?_)
   ·have g2:b2<0:=gM hP g;have hx:hY b1 b2=3:=by unfold hY;rw[aa qO,ab (.inl g2)]
    cbv;exact b _ _ _ (by unfold iz;rw[aa (λg=>g (h0 qD)),hx]) (cd.refl _) rfl
   have g2:¬b2<0:=gN hP g;cbv
   repeat' first|(refine qA ?_;cbv)|(intro a;cbv)
   refine a6 (λg=>?_) (λg=>?_)
   ·have g3:P.b5 b1<b2:=gM hP g;rw[cA hP] at g3;have hx:hY b1 b2=3:=by unfold hY;rw[aa qO,ab (.inr g3)]
    cbv;exact b _ _ _ (by unfold iz;rw[aa (λg=>g (h0 qD)),hx]) (cd.refl _) rfl
   have g3:¬P.b5 b1<b2:=gN hP g;rw[cA hP] at g3;have hx:hY b1 b2=0:=by unfold hY;rw[aa qO,aa qO]
   cbv
   repeat' first|(refine qA ?_;cbv)|(intro a;cbv)
   exact⟨_,cd.refl _,⟨2,_,qD,f,λ_=>h0 qD,λ_=>hx⟩,⟨rfl,rfl,trivial⟩,trivial,by show 2-(1+1)<2-1;decide⟩
 ·have h5:¬k<2:=gN hP g;have pR:m=2:=by((try simp only[nc] at*);omega)
  have e:iz a1 a2 b1 b2=0:=by unfold iz;rw[aa (λg=>g (h0 qW)),h1 qW]
  cbv;exact b _ _ _ e.symm (cd.refl _) rfl
theorem Be(a1:BS)(a2:Int)(b1:BS)(b2:Int):Spec Tryz.prog 192 [.agg [.str a1,.int .i64 a2,.str b1,.int .i64 b2]] Hp.emp (Is (.int .i64 (iz a1 a2 b1 b2))):=
 ed hW Px [.int .i64 (iz a1 a2 b1 b2)] (.int _ _) λR a=>Py cp rfl _ _ a1 a2 b1 b2 R λs s' b h he hr=>by subst h;exact a s s' he hr
def GR:AC:=qr [qo 2 (.box 71 4 (.t 0)),qz 4 0] (qq (qr [qd 6 4 2,qa 7 192 [.t 6],qm 5 7] (qr [qm 8 5,qc 9 .neq 8 0] (qu 9 (qr [qm 10 5,qm 4 10] .ret) .skip))) (qq (qr [qm 11 1,qc 12 .lss 11 0,qm 13 12,qg 14 13 false (.mov (.t 1)),qg 15 13 false (.bin .geq (.t 14) (qk 2)),qo 16 (.pick (.t 13) (.c (.bool true)) (.t 15))] (qu 16 (qr [qz 4 1] .ret) .skip)) (qr [qz 4 0] .ret)))
theorem Pz:fF Tryz.prog 137 Tryz.f137 GR [.t 4] 2 dS:=⟨Tryz.func137,by decide+kernel,by kernel_rfl,by kernel_rfl,by decide+kernel⟩
theorem PA(P:Prim)(hP:P=cp)(T d:cm)(a1:BS)(a2:Int)(b1:BS)(b2 i c:Int)(h1:hJ T 192 [.agg [.str a1,qI a2,.str b1,qI b2]] (qI c))(r:Int)(hr:(if c≠0 then c else if i<0\/2<=i then 1 else 0)=r)
  (R:S->Prop)(a:∀b s' x,x=r->cd b s'->ia [.t 4] [qI x] s'->R b):gE P T d GR (S0 [.agg [.str a1,qI a2,.str b1,qI b2],qI i] Hp.emp) R (λ_ _=>False) R:=by
 cbv;intro β;cbv
 repeat' first|(refine qA ?_;cbv)|(intro e;cbv)
 refine h1 _ _ ?_;cbv;refine a6 (λg=>?_) (λg=>?_)
 ·rw[ab (iG hP g)] at hr;cbv;exact a _ _ _ hr (cd.refl _) rfl
 rw[aa (λx=>x (iy hP g))] at hr;cbv;refine a6 (λg=>?_) (λg=>?_)
 ·rw[ab (.inl (gM hP g))] at hr;cbv;exact a _ _ _ hr (cd.refl _) rfl
 have g1:=gN hP g;cbv;refine a6 (λg=>?_) (λg=>?_)
 ·rw[ab (.inr (j6 hP g))] at hr;cbv;exact a _ _ _ hr (cd.refl _) rfl
 have g2:=j7 hP g;rw[aa qW] at hr;cbv;exact a _ _ _ hr (cd.refl _) rfl
theorem Bf(a1:BS)(a2:Int)(b1:BS)(b2 i:Int):Spec Tryz.prog 137 [.agg [.str a1,.int .i64 a2,.str b1,.int .i64 b2],.int .i64 i] Hp.emp (Is (.int .i64 (lO a1 a2 b1 b2 i))):=
 ed hW Pz [.int .i64 (lO a1 a2 b1 b2 i)] (.int _ _) λR a=>PA cp rfl _ _ a1 a2 b1 b2 i _ (gK (Be a1 a2 b1 b2) (λh=>.cons (.same _) .nil) rfl) _ rfl R λs s' b h he hr=>by subst h;exact a s s' he hr
def GS:AC:=qr [qo 3 (.box 71 4 (.t 0)),qo 6 (.alloc 71 Fw),qz 7 0] (qq (qr [qd 9 4 3,qm 10 1,qa 11 137 [.t 9,.t 10],qm 8 11] (qr [qm 12 8,qc 13 .neq 12 0] (qu 13 (qr [qo 14 (.build Fw []),qm 15 8,qs 4 6 14,qm 7 15] .ret) .skip))) (qq (qr [qm 16 1,qf 17 0 3,qo 18 (.iarr 2 2 (.t 17) (.t 16)),qf 19 0 18,ql 20 19,qo 21 (.len true (.t 20)),qm 22 2,qo 23 (.len true (.t 22)),qb 24 .add 21 23,qc 25 .gtr 24 1048576] (qu 25 (qr [qo 26 (.build Fw []),qs 4 6 26,qz 7 2] .ret) .skip)) (qr [qm 27 1,qf 28 0 3,qo 29 (.iarr 2 2 (.t 28) (.t 27)),qf 30 0 29,ql 31 30,qm 32 2,qb 33 .add 31 32,qf 34 0 3,qo 35 (.iarr 2 2 (.t 34) (.t 27)),qf 36 0 35,qs 1 36 33] (qr [qd 37 4 3,qs 4 6 37,qz 7 0] .ret))))
theorem PB:fF Tryz.prog 80 Tryz.f80 GS [.cn 6 4,.t 7] 3 dS:=⟨Tryz.func80,by decide+kernel,by kernel_rfl,by kernel_rfl,by decide+kernel⟩
theorem PC(P:Prim)(hP:P=cp)(T h:cm)(a1:BS)(a2:Int)(b1:BS)(b2 i:Int)(s:BS)(hs:s.length<=140737488355328)(c:Int)(hc:c=lO a1 a2 b1 b2 i)(h1:hJ T 137 [.agg [.str a1,qI a2,.str b1,qI b2],qI i] (qI c))(r:D4)(hr:mB a1 a2 b1 b2 i s=r)
  (R:S->Prop)(b:∀f s' x1 x2 x3 x4 e,(⟨x1,x2,x3,x4,e⟩:D4)=r->cd f s'->ia [.cn 6 4,.t 7] [.agg [.str x1,qI x2,.str x3,qI x4],qI e] s'->R f):gE P T h GS (S0 [.agg [.str a1,qI a2,.str b1,qI b2],qI i,.str s] Hp.emp) R (λ_ _=>False) R:=by
 have a0:P.fK 0 0:=iJ hP qD;have j:P.fK 0 1:=iJ hP qD;have l0:P.iq 0 2:=lk hP qD;have l1:P.iq 1 2:=lk hP qD;have d:P.nat 0=0:=by subst hP;rfl
 have n1:P.nat 1=1:=by subst hP;rfl
 unfold mB at hr;cbv;intro β;cbv
 repeat' first|(refine qA ?_;cbv)|(intro a;cbv)
 refine h1 _ _ ?_;clear h1;cbv;refine a6 (λg=>?_) (λg=>?_)
 ·rw[<-hc,ab (iG hP g)] at hr;cbv
  repeat' first|(refine qA ?_;cbv)|(intro a;cbv)
  exact b _ _ _ _ _ _ _ hr (cd.refl _) ⟨rfl,rfl,ax 0,ak 4,rfl⟩
 have g0:c=0:=iy hP g;rw[<-hc,aa (λx=>x g0)] at hr;obtain⟨hd,hi⟩:=look_ok (hc.symm.trans g0);obtain⟨ha,hb⟩:=pk hd;obtain⟨k,l,m⟩:=kg ha;obtain⟨hb1,hb2,n⟩:=kg hb;clear hc g
 rcases hi with rfl|rfl
 ·rw[ab rfl] at hr;have i1:P.i64 (P.add (P.b5 a1) (P.b5 s)):=by rw[add_eq hP,cA hP,cA hP];exact fm hP qO
  cbv
  repeat' first|(refine qA ?_;cbv)|(refine⟨0,d,?_⟩;cbv)|(intro a;cbv)
  refine a6 (λg=>?_) (λg=>?_)
  ·have g1:1048576<P.add (P.b5 a1) (P.b5 s):=gM hP g;rw[add_eq hP,cA hP,cA hP] at g1;rw[ab qO] at hr;cbv
   repeat' first|(refine qA ?_;cbv)|(refine⟨0,d,?_⟩;cbv)|(intro a;cbv)
   exact b _ _ _ _ _ _ _ hr (cd.refl _) ⟨rfl,rfl,ax 0,ak 4,rfl⟩
  ·have g1:¬1048576<P.add (P.b5 a1) (P.b5 s):=gN hP g;rw[add_eq hP,cA hP,cA hP] at g1;have e1:P.iE a1 s=a1++s:=by subst hP;rfl
   rw[aa qO,<-e1] at hr;cbv
   repeat' first|(refine qA ?_;cbv)|(refine⟨0,d,?_⟩;cbv)|(intro a;cbv)
   exact b _ _ _ _ _ _ _ hr (cd.refl _) ⟨rfl,rfl,ax 0,ak 4,rfl⟩
 ·rw[aa qD] at hr;have i1:P.i64 (P.add (P.b5 b1) (P.b5 s)):=by rw[add_eq hP,cA hP,cA hP];exact fm hP qO
  cbv
  repeat' first|(refine qA ?_;cbv)|(refine⟨1,n1,?_⟩;cbv)|(intro a;cbv)
  refine a6 (λg=>?_) (λg=>?_)
  ·have g1:1048576<P.add (P.b5 b1) (P.b5 s):=gM hP g;rw[add_eq hP,cA hP,cA hP] at g1;rw[ab qO] at hr;cbv
   repeat' first|(refine qA ?_;cbv)|(refine⟨1,n1,?_⟩;cbv)|(intro a;cbv)
   exact b _ _ _ _ _ _ _ hr (cd.refl _) ⟨rfl,rfl,ax 0,ak 4,rfl⟩
  ·have g1:¬1048576<P.add (P.b5 b1) (P.b5 s):=gN hP g;rw[add_eq hP,cA hP,cA hP] at g1;have e1:P.iE b1 s=b1++s:=by subst hP;rfl
   rw[aa qO,<-e1] at hr;cbv
   repeat' first|(refine qA ?_;cbv)|(refine⟨1,n1,?_⟩;cbv)|(intro a;cbv)
   exact b _ _ _ _ _ _ _ hr (cd.refl _) ⟨rfl,rfl,ax 0,ak 4,rfl⟩
theorem PD(a1:BS)(a2:Int)(b1:BS)(b2 i:Int)(s:BS)(hs:s.length<=140737488355328):Spec Tryz.prog 80 [.agg [.str a1,.int .i64 a2,.str b1,.int .i64 b2],.int .i64 i,.str s] Hp.emp (Is (.tup [.agg [.str (mB a1 a2 b1 b2 i s).x1,.int .i64 (mB a1 a2 b1 b2 i s).x2,.str (mB a1 a2 b1 b2 i s).x3,.int .i64 (mB a1 a2 b1 b2 i s).x4],.int .i64 (mB a1 a2 b1 b2 i s).e])):=
 ed hW PB [.agg [.str (mB a1 a2 b1 b2 i s).x1,.int .i64 (mB a1 a2 b1 b2 i s).x2,.str (mB a1 a2 b1 b2 i s).x3,.int .i64 (mB a1 a2 b1 b2 i s).x4],.int .i64 (mB a1 a2 b1 b2 i s).e] (.tup _ (by simp;exact⟨.agg _ (by simp;exact⟨.str _,.int _ _,.str _,.int _ _⟩),.int _ _⟩)) λR a=>PC cp rfl _ _ a1 a2 b1 b2 i s hs _ rfl (gK (Bf a1 a2 b1 b2 i) (λh=>.cons (.same _) (.cons (.same _) .nil)) rfl) (mB a1 a2 b1 b2 i s) rfl R
  λs s' x1 x2 x3 x4 e h he hr=>a s s' he (by rw[<-h];exact hr)
def GU:AC:=qr [qo 2 (.box 71 4 (.t 0)),qo 4 (.alloc 71 Fw),qz 5 0] (qq (qr [qd 7 4 2,qm 8 1,qa 9 137 [.t 7,.t 8],qm 6 9] (qr [qm 10 6,qc 11 .neq 10 0] (qu 11 (qr [qo 12 (.build Fw []),qm 13 6,qs 4 4 12,qm 5 13] .ret) .skip))) (qr [qm 14 1,qm 15 1,qf 16 0 2,qo 17 (.iarr 2 2 (.t 16) (.t 15)),qf 18 0 17,ql 19 18,qo 20 (.len true (.t 19)),qf 21 0 2,qo 22 (.iarr 2 2 (.t 21) (.t 14)),qf 23 1 22,qs 1 23 20] (qr [qd 24 4 2,qs 4 4 24,qz 5 0] .ret)))
theorem PE:fF Tryz.prog 81 Tryz.f81 GU [.cn 4 4,.t 5] 2 dS:=⟨Tryz.func81,by decide+kernel,by kernel_rfl,by kernel_rfl,by decide+kernel⟩
theorem PF(P:Prim)(hP:P=cp)(T f:cm)(a1:BS)(a2:Int)(b1:BS)(b2 i:Int)(c:Int)(hc:c=lO a1 a2 b1 b2 i)(h1:hJ T 137 [.agg [.str a1,qI a2,.str b1,qI b2],qI i] (qI c))(r:D4)(hr:mF a1 a2 b1 b2 i=r)
  (R:S->Prop)(b:∀d s' x1 x2 x3 x4 e,(⟨x1,x2,x3,x4,e⟩:D4)=r->cd d s'->ia [.cn 4 4,.t 5] [.agg [.str x1,qI x2,.str x3,qI x4],qI e] s'->R d):gE P T f GU (S0 [.agg [.str a1,qI a2,.str b1,qI b2],qI i] Hp.emp) R (λ_ _=>False) R:=by
 have a0:P.fK 0 0:=iJ hP qD;have h:P.fK 0 1:=iJ hP qD;have l0:P.iq 0 2:=lk hP qD;have l1:P.iq 1 2:=lk hP qD;have j:P.nat 0=0:=by subst hP;rfl
 have n1:P.nat 1=1:=by subst hP;rfl
 unfold mF at hr;cbv;intro β;cbv
 repeat' first|(refine qA ?_;cbv)|(intro a;cbv)
 refine h1 _ _ ?_;clear h1;cbv;refine a6 (λg=>?_) (λg=>?_)
 ·rw[<-hc,ab (iG hP g)] at hr;cbv
  repeat' first|(refine qA ?_;cbv)|(intro a;cbv)
  exact b _ _ _ _ _ _ _ hr (cd.refl _) ⟨rfl,rfl,ax 0,ak 4,rfl⟩
 have g0:c=0:=iy hP g;rw[<-hc,aa (λx=>x g0)] at hr;obtain⟨hd,hi⟩:=look_ok (hc.symm.trans g0);obtain⟨ha,hb⟩:=pk hd;obtain⟨k,l,m⟩:=kg ha;obtain⟨hb1,hb2,n⟩:=kg hb;clear hc g
 rcases hi with rfl|rfl
 ·have e1:P.b5 a1=(a1.length:Int):=cA hP _;rw[ab rfl] at hr;cbv
  repeat' first|(refine qA ?_;cbv)|(refine⟨0,j,?_⟩;cbv)|(intro a;cbv)
  exact b _ _ _ _ _ _ _ ((ay (λx=>(⟨a1,x,b1,b2,0⟩:D4)) e1).trans hr) (cd.refl _) ⟨rfl,rfl,ax 0,ak 4,rfl⟩
 ·have e1:P.b5 b1=(b1.length:Int):=cA hP _;rw[aa qD] at hr;cbv
  repeat' first|(refine qA ?_;cbv)|(refine⟨1,n1,?_⟩;cbv)|(intro a;cbv)
  exact b _ _ _ _ _ _ _ ((ay (λx=>(⟨a1,a2,b1,x,0⟩:D4)) e1).trans hr) (cd.refl _) ⟨rfl,rfl,ax 0,ak 4,rfl⟩
theorem PG(a1:BS)(a2:Int)(b1:BS)(b2 i:Int):Spec Tryz.prog 81 [.agg [.str a1,.int .i64 a2,.str b1,.int .i64 b2],.int .i64 i] Hp.emp (Is (.tup [.agg [.str (mF a1 a2 b1 b2 i).x1,.int .i64 (mF a1 a2 b1 b2 i).x2,.str (mF a1 a2 b1 b2 i).x3,.int .i64 (mF a1 a2 b1 b2 i).x4],.int .i64 (mF a1 a2 b1 b2 i).e])):=
 ed hW PE [.agg [.str (mF a1 a2 b1 b2 i).x1,.int .i64 (mF a1 a2 b1 b2 i).x2,.str (mF a1 a2 b1 b2 i).x3,.int .i64 (mF a1 a2 b1 b2 i).x4],.int .i64 (mF a1 a2 b1 b2 i).e] (.tup _ (by simp;exact⟨.agg _ (by simp;exact⟨.str _,.int _ _,.str _,.int _ _⟩),.int _ _⟩)) λR a=>PF cp rfl _ _ a1 a2 b1 b2 i _ rfl (gK (Bf a1 a2 b1 b2 i) (λh=>.cons (.same _) (.cons (.same _) .nil)) rfl) (mF a1 a2 b1 b2 i) rfl R
  λs s' x1 x2 x3 x4 e h he hr=>a s s' he (by rw[<-h];exact hr)
def GV:AC:=qr [qo 3 (.box 71 4 (.t 0)),qo 6 (.alloc 71 Fw),qz 7 0] (qq (qr [qd 10 4 3,qm 11 1,qa 12 137 [.t 10,.t 11],qm 8 12] (qr [qm 13 8,qc 14 .neq 13 0] (qu 14 (qr [qo 15 (.build Fw []),qm 16 8,qs 4 6 15,qm 7 16] .ret) .skip))) (qr [qm 17 1,qf 18 0 3,qo 19 (.iarr 2 2 (.t 18) (.t 17)),qm 9 19] (qq (qr [qm 20 2,qc 21 .lss 20 0,qm 22 21,qg 23 22 false (.mov (.t 2)),qg 24 22 false (.mov (.t 9)),qg 25 22 false (.nilchk (.t 24)),qg 26 22 false (.faddr 0 (.t 25)),qg 27 22 false (.load1 (.t 26)),qg 28 22 false (.len true (.t 27)),qg 29 22 false (.bin .gtr (.t 23) (.t 28)),qo 30 (.pick (.t 22) (.c (.bool true)) (.t 29))] (qu 30 (qr [qo 31 (.build Fw []),qs 4 6 31,qz 7 1] .ret) .skip)) (qr [qm 32 9,qm 33 9,qn 34 33,qf 35 0 34,ql 36 35,qm 37 2,qo 38 (.slstr (.t 36) none (some (.t 37))),qn 39 32,qf 40 0 39,qs 1 40 38] (qr [qm 41 9,qm 42 9,qn 43 42,qf 44 1 43,ql 45 44,qm 46 2,qo 47 (.mm false (.t 45) (.t 46)),qn 48 41,qf 49 1 48,qs 1 49 47] (qr [qd 50 4 3,qs 4 6 50,qz 7 0] .ret))))))
theorem PH:fF Tryz.prog 239 Tryz.f239 GV [.cn 6 4,.t 7] 3 dS:=⟨Tryz.func239,by decide+kernel,by kernel_rfl,by kernel_rfl,by decide+kernel⟩
theorem PI(P:Prim)(hP:P=cp)(T j:cm)(a1:BS)(a2:Int)(b1:BS)(b2 i:Int)(n:Int)(c:Int)(hc:c=lO a1 a2 b1 b2 i)(h1:hJ T 137 [.agg [.str a1,qI a2,.str b1,qI b2],qI i] (qI c))(r:D4)(hr:mG a1 a2 b1 b2 i n=r)
  (R:S->Prop)(b:∀h s' x1 x2 x3 x4 e,(⟨x1,x2,x3,x4,e⟩:D4)=r->cd h s'->ia [.cn 6 4,.t 7] [.agg [.str x1,qI x2,.str x3,qI x4],qI e] s'->R h):gE P T j GV (S0 [.agg [.str a1,qI a2,.str b1,qI b2],qI i,qI n] Hp.emp) R (λ_ _=>False) R:=by
 have a0:P.fK 0 0:=iJ hP qD;have k:P.fK 0 1:=iJ hP qD;have l0:P.iq 0 2:=lk hP qD;have l1:P.iq 1 2:=lk hP qD;have d:P.nat 0=0:=by subst hP;rfl
 have n1:P.nat 1=1:=by subst hP;rfl
 unfold mG at hr;cbv;intro β;cbv
 repeat' first|(refine qA ?_;cbv)|(intro a;cbv)
 refine h1 _ _ ?_;clear h1;cbv;refine a6 (λg=>?_) (λg=>?_)
 ·rw[<-hc,ab (iG hP g)] at hr;cbv
  repeat' first|(refine qA ?_;cbv)|(intro a;cbv)
  exact b _ _ _ _ _ _ _ hr (cd.refl _) ⟨rfl,rfl,ax 0,ak 4,rfl⟩
 have g0:c=0:=iy hP g;rw[<-hc,aa (λx=>x g0)] at hr;obtain⟨hd,hi⟩:=look_ok (hc.symm.trans g0);obtain⟨ha,hb⟩:=pk hd;obtain⟨l,m,o⟩:=kg ha;obtain⟨hb1,hb2,p⟩:=kg hb;clear hc g
 rcases hi with rfl|rfl
 ·rw[ab rfl] at hr;cbv
  repeat' first|(refine qA ?_;cbv)|(refine⟨0,d,?_⟩;cbv)|(intro a;cbv)
  refine a6 (λg=>?_) (λg=>?_)
  ·rw[ab (.inl (gM hP g))] at hr;cbv
   repeat' first|(refine qA ?_;cbv)|(refine⟨0,d,?_⟩;cbv)|(intro a;cbv)
   exact b _ _ _ _ _ _ _ hr (cd.refl _) ⟨rfl,rfl,ax 0,ak 4,rfl⟩
  have g1:=gN hP g;cbv
  repeat' first|(refine qA ?_;cbv)|(refine⟨0,d,?_⟩;cbv)|(intro a;cbv)
  refine a6 (λg=>?_) (λg=>?_)
  ·have g2:P.b5 a1<n:=gM hP g;rw[cA hP] at g2;rw[ab (.inr g2)] at hr;cbv
   repeat' first|(refine qA ?_;cbv)|(refine⟨0,d,?_⟩;cbv)|(intro a;cbv)
   exact b _ _ _ _ _ _ _ hr (cd.refl _) ⟨rfl,rfl,ax 0,ak 4,rfl⟩
  have g2:¬P.b5 a1<n:=gN hP g;rw[cA hP] at g2;have m1:P.fK 0 n:=iJ hP qW;have m2:P.fK n (P.b5 a1):=qy hP (by rw[cA hP];((try simp only[nc] at*);omega));have e1:P.gZ a1 0 n=a1.take n.toNat:=by subst hP;rfl
  have f:P.mn a2 n=min a2 n:=by subst hP;rfl
  rw[aa qO,<-e1,<-f] at hr;cbv
  repeat' first|(refine qA ?_;cbv)|(refine⟨0,d,?_⟩;cbv)|(intro a;cbv)
  exact b _ _ _ _ _ _ _ hr (cd.refl _) ⟨rfl,rfl,ax 0,ak 4,rfl⟩
 ·rw[aa qD] at hr;cbv
  repeat' first|(refine qA ?_;cbv)|(refine⟨1,n1,?_⟩;cbv)|(intro a;cbv)
  refine a6 (λg=>?_) (λg=>?_)
  ·rw[ab (.inl (gM hP g))] at hr;cbv
   repeat' first|(refine qA ?_;cbv)|(refine⟨1,n1,?_⟩;cbv)|(intro a;cbv)
   exact b _ _ _ _ _ _ _ hr (cd.refl _) ⟨rfl,rfl,ax 0,ak 4,rfl⟩
  have g1:=gN hP g;cbv
  repeat' first|(refine qA ?_;cbv)|(refine⟨1,n1,?_⟩;cbv)|(intro a;cbv)
  refine a6 (λg=>?_) (λg=>?_)
  ·have g2:P.b5 b1<n:=gM hP g;rw[cA hP] at g2;rw[ab (.inr g2)] at hr;cbv
   repeat' first|(refine qA ?_;cbv)|(refine⟨1,n1,?_⟩;cbv)|(intro a;cbv)
   exact b _ _ _ _ _ _ _ hr (cd.refl _) ⟨rfl,rfl,ax 0,ak 4,rfl⟩
  have g2:¬P.b5 b1<n:=gN hP g;rw[cA hP] at g2;have m1:P.fK 0 n:=iJ hP qW;have m2:P.fK n (P.b5 b1):=qy hP (by rw[cA hP];((try simp only[nc] at*);omega));have e1:P.gZ b1 0 n=b1.take n.toNat:=by subst hP;rfl
  have f:P.mn b2 n=min b2 n:=by subst hP;rfl
  rw[aa qO,<-e1,<-f] at hr;cbv
  repeat' first|(refine qA ?_;cbv)|(refine⟨1,n1,?_⟩;cbv)|(intro a;cbv)
  exact b _ _ _ _ _ _ _ hr (cd.refl _) ⟨rfl,rfl,ax 0,ak 4,rfl⟩
theorem PJ(a1:BS)(a2:Int)(b1:BS)(b2 i:Int)(n:Int):Spec Tryz.prog 239 [.agg [.str a1,.int .i64 a2,.str b1,.int .i64 b2],.int .i64 i,.int .i64 n] Hp.emp (Is (.tup [.agg [.str (mG a1 a2 b1 b2 i n).x1,.int .i64 (mG a1 a2 b1 b2 i n).x2,.str (mG a1 a2 b1 b2 i n).x3,.int .i64 (mG a1 a2 b1 b2 i n).x4],.int .i64 (mG a1 a2 b1 b2 i n).e])):=
 ed hW PH [.agg [.str (mG a1 a2 b1 b2 i n).x1,.int .i64 (mG a1 a2 b1 b2 i n).x2,.str (mG a1 a2 b1 b2 i n).x3,.int .i64 (mG a1 a2 b1 b2 i n).x4],.int .i64 (mG a1 a2 b1 b2 i n).e] (.tup _ (by simp;exact⟨.agg _ (by simp;exact⟨.str _,.int _ _,.str _,.int _ _⟩),.int _ _⟩)) λR a=>PI cp rfl _ _ a1 a2 b1 b2 i n _ rfl (gK (Bf a1 a2 b1 b2 i) (λh=>.cons (.same _) (.cons (.same _) .nil)) rfl) (mG a1 a2 b1 b2 i n) rfl R
  λs s' x1 x2 x3 x4 e h he hr=>a s s' he (by rw[<-h];exact hr)
end Go.Proofs.YtajdadcdcpnedaaGreatDoor.AM
namespace Go.Proofs
open Go.Shelf Go.RowKit Go.Lib
def Tryz.sL:Go.Shelf.Ren:=⟨λ|169=>21|n=>n,λ|70=>52|9=>9|0=>0|72=>55|37=>53|127=>112|3=>3|5=>5|n=>n,λ|n=>n⟩
theorem Tryz.LS:Go.Proofs.Lays.n169 Tryz.prog Tryz.sL:= {
 mixed:=by kernel_rfl
 f169:=Tryz.func21.trans (ay some (by kernel_rfl))
 t0:=Tryz.underlying0
 a0:=Tryz.isAgg0
 z0:=Tryz.sizeOf0
 v0:=Tryz.zeroValue0
 t3:=Tryz.underlying3
 a3:=Tryz.isAgg3
 z3:=Tryz.sizeOf3
 v3:=Tryz.zeroValue3
 t9:=Tryz.underlying9
 a9:=Tryz.isAgg9
 z9:=Tryz.sizeOf9
 v9:=Tryz.zeroValue9
 t37:=Tryz.underlying53
 a37:=Tryz.isAgg53
 z37:=Tryz.sizeOf53
 v37:=Tryz.zeroValue53
 t70:=Tryz.underlying52
 a70:=Tryz.isAgg52
 z70:=Tryz.sizeOf52
 v70:=Tryz.zeroValue52
 t72:=Tryz.underlying55
 a72:=Tryz.isAgg55
 z72:=Tryz.sizeOf55
 v72:=Tryz.zeroValue55
 t127:=Tryz.underlying112
 a127:=Tryz.isAgg112
 z127:=Tryz.sizeOf112
 v127:=Tryz.zeroValue112}
theorem Tryz.qU:Builder.Extra Tryz.prog Tryz.sL:= {
 sizeBuilder:=by kernel_rfl
 liesBuilder:=by kernel_rfl
 t5:=Tryz.underlying5
 a5:=Tryz.isAgg5
 z5:=Tryz.sizeOf5
 v5:=Tryz.zeroValue5
 infoByte:=by kernel_rfl
 cellsByte:=by kernel_rfl
 sizeByte:=by kernel_rfl
 neB5:=by decide}
theorem Tryz.Builder_String_any(B b:Nat)(l:BS)(w:World)(h:Lib.IsBuilder 55 5 B b (Lib.byteCells l) w)(a:B<=w.heap.size):
  Calls Tryz.prog 21 #[.pointer (some ⟨b,0,none⟩)] w λe w'=>e=.returned (.string ⟨l.toArray⟩)/\Below B w w':=Any.Builder_String_any Tryz.LS Tryz.qU B b l w h a
end Go.Proofs
namespace Go.Proofs.YtajdadcdcpnedaaGreatDoor.vz
open Go Go.RowKit
def T:TypeId:=55
def E:TypeId:=5
set_option maxRecDepth 100000 in
set_option maxHeartbeats 4000000 in
theorem uu(b:Nat)(w:World)(h0:w.cell? ⟨b,0,none⟩=some (.pointer (some ⟨b,0,none⟩))):
  Calls Tryz.prog 45 #[.pointer (some ⟨b,0,none⟩)] w λe w'=>e=.returned (.tuple #[])/\w'=w:=by
 obtain⟨j,hj⟩:∃j,Tryz.prog.info? 55=some j:=aS.1 (by kernel_rfl)
 go_enter Tryz.func45,Tryz.ntmps45
 go_wp2
 rw[Lib.run_neq_ptr_same w _ Tryz.underlying52 hj]
 go_wp2
 go_end0
 exact⟨rfl,rfl⟩
set_option maxRecDepth 100000 in
set_option maxHeartbeats 4000000 in
theorem yT(b:Nat)(w:World)(h0:w.cell? ⟨b,0,none⟩=some (.pointer none))(QY:w.shape? b=some (55,2))(VX:w.frozen? ⟨b,0,none⟩=false):
  Calls Tryz.prog 45 #[.pointer (some ⟨b,0,none⟩)] w λe w'=>e=.returned (.tuple #[])/\w'=w.setCell ⟨b,0,none⟩ (.pointer (some ⟨b,0,none⟩)):=by
 obtain⟨j,hj⟩:∃j,Tryz.prog.info? 55=some j:=aS.1 (by kernel_rfl);have TG:j.size=2:=by
  have h:(Tryz.prog.info? 55).map (·.size)=some 2:=by kernel_rfl
  rw[hj] at h;exact bN h
 go_enter Tryz.func45,Tryz.ntmps45
 go_wp2
 rw[Lib.run_to_unsafe w ⟨b,0,none⟩ Tryz.underlying52 Tryz.underlying142 hj (by rw[TG];decide) QY (ax 1)];simp only[Result.andThen];rw[Oper.upon_value]
 go_wp2
 rw[run_callFunc_extern Tryz.func82 (by kernel_rfl) (by kernel_rfl) (by kernel_rfl) (e:=Extern.AbiNoEscape.same) (by kernel_rfl)];rw[Lib.run_noEscape];simp only[Result.andThen];rw[Oper.upon_value]
 go_wp2
 rw[Lib.run_from_unsafe w ⟨b,0,none⟩ Tryz.underlying142 Tryz.underlying52 hj QY (by kernel_rfl)];simp only[Result.andThen];rw[Oper.upon_value]
 go_wp2
 go_end0
 exact⟨rfl,rfl⟩
def qV(b:Nat)(w w':World):Prop:=∀(k:Nat)(cs:Array Value)(ty:TypeId)(fr:Nat×Nat),k≠b->ty≠E->w.heap[k]? =some (.cells cs ty fr)->w'.heap[k]? =some (.cells cs ty fr)
theorem qV.refl(b:Nat)(w:World):qV b w w:=λ_ _ _ _ _ _ h=>h
theorem qV.trans{b:Nat}{w w1 w2:World}(h:qV b w w1)(h':qV b w1 w2):qV b w w2:=λk cs ty fr h1 h2 h3=>h' k cs ty fr h1 h2 (h k cs ty fr h1 h2 h3)
theorem qV.set(b j:Nat)(v:Value)(w:World):qV b w (w.setCell ⟨b,j,none⟩ v):=λk cs ty fr h1 h2 h3=>by
 rw[<-h3];simp[World.setCell,bA,Ne.symm h1]
theorem check(B b:Nat)(bs:List Value)(w:World)(h:Lib.IsBuilder T E B b bs w):
  Calls Tryz.prog 45 #[.pointer (some ⟨b,0,none⟩)] w λe w'=>e=.returned (.tuple #[])/\(Lib.BuilderAt T E B b (.pointer (some ⟨b,0,none⟩)) bs w'/\Below B w w'/\qV b w w'):=by
 rcases h with h|h
 ·refine(yT b w h.cell0 h.shape h.frozen0).mono ?_;rintro e w' ⟨rfl,rfl⟩;exact⟨rfl,h.used _,(Below.refl B w).setCell (p:=⟨b,0,none⟩) h.1 _,qV.set _ _ _ _⟩
 ·refine(uu b w h.cell0).mono ?_;rintro e w' ⟨rfl,rfl⟩;exact⟨rfl,h,Below.refl B _,qV.refl _ _⟩
set_option maxRecDepth 100000 in
set_option maxHeartbeats 4000000 in
theorem writeString(B b:Nat)(bs:List Value)(s:ByteArray)(w:World)(h:Lib.IsBuilder T E B b bs w)(hlen:bs.length+s.size<=140737488355328)(XJ:B<=w.heap.size):
  Calls Tryz.prog 18 #[.pointer (some ⟨b,0,none⟩),.string s] w λe w'=>e=.returned (.tuple #[.int .i64 s.size,.nilIface])/\(Lib.BuilderAt T E B b (.pointer (some ⟨b,0,none⟩)) (bs++Lib.strCells s) w'/\Below B w w'/\qV b w w'):=by
 obtain⟨i0,hi,hz0,hz1,hz2⟩:=info_parts (show(Tryz.prog.info? 5).map (λi=>(i.zero,i.size,i.bytes))=some (some (.int .u8 0),1,1) by kernel_rfl);have TH:=check B b bs w h;unfold T E at*
 go_enter Tryz.func18,Tryz.ntmps18
 go_wp2_with fail
 refine TH.mono ?_;rintro e w1 ⟨rfl,h1,hb1,TI⟩;obtain⟨hB,v,OO,hown,hne⟩:=h1;have c0:w1.cell? ⟨b,0,none⟩=some (.pointer (some ⟨b,0,none⟩)):=by rw[Lib.cell_of_heap OO];rfl
 have c1:w1.cell? ⟨b,1,none⟩=some v:=by rw[Lib.cell_of_heap OO];rfl
 go_wp2_with (at_builtin;refine Lib.wpList_append_own_string _ rfl _ _ 53 9 rfl B 5 i0 Tryz.underlying53 Tryz.underlying9 hi hz0 hz1 hz2 _ _ _ rfl hown s rfl ?c3 ?c4 ?c5 ?_)
 case c3=>unfold maxLen;omega
 case c4=>omega
 case c5=>have:=hb1.size;omega
 intro v' w2 hown' hgrow _;have hlt:b<w1.heap.size:=by
  rcases dn b w1.heap.size with h'|h'
  ·exact h'
  ·simp[cY h'] at OO
 have hb2:w2.heap[b]? =some (.cells #[.pointer (some ⟨b,0,none⟩),v] 55 (0,0)):=by
  rw[hgrow.block b hlt (λe=>hne e.symm)];exact OO
 have d0:w2.cell? ⟨b,0,none⟩=some (.pointer (some ⟨b,0,none⟩)):=by rw[Lib.cell_of_heap hb2];rfl
 have d1:w2.cell? ⟨b,1,none⟩=some v:=by rw[Lib.cell_of_heap hb2];rfl
 have f1:w2.frozen? ⟨b,1,none⟩=false:=Lib.frozen_of_heap hb2 1;have TJ:qV b w1 w2:=λk cs ty fr h1 h2 h3=>by
  rw[hgrow.block k (aA.1 h3).1 (λe=>Lib.ownBlock_ne hown h3 h2 e.symm)];exact h3
 obtain⟨ao,n',cap,rfl⟩:∃ao n' cap,v'=.slice ao n' cap:=by
  rcases hown'.2 with⟨hv,_⟩|⟨g,cap,cur,hv,_⟩
  ·exact⟨_,_,_,hv⟩
  ·exact⟨_,_,_,hv⟩
 go_wp2
 go_ret2
 refine⟨rfl,?_,?_,(TI.trans TJ).trans (qV.set _ _ _ _)⟩
 ·exact Lib.BuilderAt.put (T:=55) (e:=5) hB hb2 (bs':=bs++Lib.strCells s) (by simpa[Lib.strCells_length] using hown') qD
 ·exact(hb1.grown hgrow (by have:=hb1.size;omega) (λk hk=>(hown.lt k hk).1)).setCell (p:=⟨b,1,none⟩) hB _
end Go.Proofs.YtajdadcdcpnedaaGreatDoor.vz
namespace Go.Proofs.YtajdadcdcpnedaaGreatDoor.AM
open Go
set_option maxRecDepth 100000
set_option maxHeartbeats 2000000
def kh(d:List Part)(n:Int):Int:=if cR d≠0 then cR d else if n≠lg d then 4 else 0
def Cl:AC:=qr [qz 4 0] (qr [qm 9 0,qa 10 188 [.t 9],qm 8 10,qx 11 0 8,qx 12 1 8,qx 13 2 8,qm 5 11,qm 6 12,qm 7 13] (qq (qr [qm 14 7,qc 15 .neq 14 0] (qu 15 (qr [qm 16 7,qm 4 16] .ret) .skip)) (qq (qr [qm 17 1,qm 18 5,qb 19 .neq 17 18] (qu 19 (qr [qz 4 4] .ret) .skip)) (qr [qz 4 0] .ret))))
theorem LU:fF Tryz.prog 128 Tryz.f128 Cl [.t 4] 2 dS:=⟨Tryz.func128,by decide+kernel,by kernel_rfl,by kernel_rfl,by decide+kernel⟩
theorem LV(P:Prim)(hP:P=cp)(T d:cm)(rows:List (List V))(n i o c:Int)(a:hJ T 188 [.sl true 3 rows] (.tup [qI i,qI o,qI c]))(r:Int)(hr:(if c≠0 then c else if n≠i then 4 else 0)=r)
  (R:S->Prop)(b:∀s s' q,q=r->cd s s'->ia [.t 4] [qI q] s'->R s):gE P T d Cl (S0 [.sl true 3 rows,qI n] Hp.emp) R (λ_ _=>False) R:=by
 cbv
 repeat'(first|(intro β;cbv)|(refine And.intro (by assumption) ?_;cbv)|(refine a6 (λh=>?_) (λh=>?_)<;>try cbv)|(refine Exists.intro _ (And.intro (by assumption) ?_);cbv)|(refine a _ _ ?_;cbv)|(refine e _ _ ?_;cbv)|(refine f _ _ ?_;cbv)|(refine g _ _ ?_;cbv)|(refine j _ _ ?_;cbv)|(refine k _ _ ?_;cbv)|(refine And.intro (by(clear b;subst hP;simp[cp,kA,nc] at* <;>first|omega|grind)) ?_;cbv))
 all_goals
  refine b _ _ _ ?_ (cd.refl _) rfl;clear b a;subst hP;simp[cp] at*;grind
theorem Cm(d:List Part)(hd:d.length<=maxLen)(n:Int):Spec Tryz.prog 128 [.sl true 3 (d.map a7),.int .i64 n] Hp.emp (Is (.int .i64 (kh d n))):=
 ed hW LU [.int .i64 (kh d n)] (.int _ _) λR a=>LV cp rfl _ _ _ n _ _ _ (gK (xg d hd) (λh=>.cons (.same _) .nil) rfl) (kh d n) (by unfold vW kh;by_cases h:cR d=0<;>simp[h]) R λs s' q h he hr=>by subst h;exact a s s' he hr
theorem yU{d:List Part}{n:Int}(h:kh d n=0):cR d=0/\n=lg d:=by
 unfold kh at h
 by_cases hc:cR d=0
 ·rw[aa (λh=>h hc)] at h;exact⟨hc,by by_cases hn:n=lg d;exact hn;rw[ab hn] at h;omega⟩
 ·rw[ab hc] at h;contradiction
end Go.Proofs.YtajdadcdcpnedaaGreatDoor.AM
namespace Go.Proofs.YtajdadcdcpnedaaGreatDoor.vz
open Go Go.RowKit AM
theorem Ek{w w':World}{base n B:Nat}{e:TypeId}{size:Nat}{v:Value}{xs:List Value}(h:w.ownsRow base e size v n xs)(hb:Below B w w')(hB:w.heap.size<=B):w'.ownsRow base e size v n xs:=by
 refine⟨h.1,?_⟩
 rcases h.2 with hn|⟨g,cap,cur,rfl,a,hh,rest⟩
 ·exact .inl hn
 ·exact .inr ⟨g,cap,cur,rfl,a,(hb.block g (bE (aA.1 hh).1 hB)).trans hh,rest⟩
theorem Cn{B b:Nat}{p:Value}{bs:List Value}{w w':World}(h:Lib.BuilderAt T E B b p bs w)(hb:Below w.heap.size w w'):Lib.BuilderAt T E B b p bs w':=by
 have hlt:=h.lt;obtain⟨hB,v,a,hown,hne⟩:=h;exact⟨hB,v,(hb.block b hlt).trans a,Ek hown hb (ak _),hne⟩
theorem xn{B b:Nat}{bs:List Value}{w w':World}(h:Lib.IsBuilder T E B b bs w)(hb:Below w.heap.size w w'):Lib.IsBuilder T E B b bs w':=
 h.elim (λh=>.inl (Cn h hb)) λh=>.inr (Cn h hb)
theorem is_lt{B b:Nat}{bs:List Value}{w:World}(h:Lib.IsBuilder T E B b bs w):b<w.heap.size:=h.elim (·.lt) (·.lt)
theorem GW(n:Nat)(ts:List Tok)(s:BS):my (List.replicate n .keep++ts) s=s.take n++my ts (s.drop n):=by
 induction n generalizing s with
 |zero=>simp
 |succ n ih=>
  simp only[bf,aD,my,ih,dM];rw[<-aU,show n+1=1+n by omega,List.take_add]
theorem LW(n:Nat)(ts:List Tok)(s:BS):my (List.replicate n .cut++ts) s=my ts (s.drop n):=by
 induction n generalizing s with
 |zero=>simp
 |succ n ih=>simp only[bf,aD,my,ih,dM];rw[show n+1=1+n by omega]
theorem tj(t:BS)(ts:List Tok)(s:BS):my (t.map .put++ts) s=t++my ts s:=by
 induction t with
 |nil=>simp
 |cons b t ih=>simp[my,ih]
theorem vZ(a:BS)(x:ByteArray):Lib.byteCells a++Lib.strCells x=Lib.byteCells (a++x.data.toList):=by simp[Lib.byteCells,Lib.strCells]
theorem xo(x:ByteArray)(a b:Nat):(x.extract a b).data.toList=(x.data.toList.take b).drop a:=by
 rw[dI,Array.toList_extract,List.extract_eq_take_drop,fC]
theorem tk(x:ByteArray)(a b:Nat):(x.extract a b).size=min b x.size-a:=by
 show(x.extract a b).data.size=_;rw[dI,Array.size_extract];rfl
def Co(w:World)(a:Option Addr)(d:List Part):Prop:=∀(i:Nat)(p:Part),d[i]? =some p->∃b off,a=some ⟨b,off,none⟩/\b<w.heap.size/\
 w.cell? ⟨b,off+(i*3),none⟩=some (.int .i64 p.kind)/\w.cell? ⟨b,off+(i*3+1),none⟩=some (.int .i64 p.n)/\w.cell? ⟨b,off+(i*3+2),none⟩=some (.string ⟨p.text.toArray⟩)
set_option maxRecDepth 100000 in
set_option maxHeartbeats 4000000 in
theorem PK(n c:Nat)(s:ByteArray)(oa:Option Addr)(W:World)(f:Int)(hf:f≠0)(Cp:Calls Tryz.prog 128 #[.slice oa n c,.int .i64 s.size] W λe w'=>e=.returned (.int .i64 f)/\Below W.heap.size W w'):
  Calls Tryz.prog 69 #[.slice oa n c,.string s] W λe w'=>e=.returned (.tuple #[.string ⟨#[]⟩,.int .i64 f])/\Below W.heap.size W w':=by
 go_enter Tryz.func69,Tryz.ntmps69
 go_wp2_with fail
 refine Cp.mono ?_;rintro e w1 ⟨rfl,hb1⟩
 go_wp2_with fail
 go_ret2
 exact⟨rfl,hb1⟩
set_option maxRecDepth 100000 in
set_option maxHeartbeats 4000000 in
theorem Rw(d:List Part)(c:Nat)(s:ByteArray)(oa:Option Addr)(W:World)(hd:d.length<=1600)(hat:Co W oa d)(hZ:∀p∈d,nR p)(hin:lg d=(s.size:Int))(hs:s.size<=500)(hout:ig d<=500)
  (Cp:Calls Tryz.prog 128 #[.slice oa d.length c,.int .i64 s.size] W λe w'=>e=.returned (.int .i64 0)/\Below W.heap.size W w'):
  Calls Tryz.prog 69 #[.slice oa d.length c,.string s] W λe w'=>e=.returned (.tuple #[.string ⟨(my (fP d) s.data.toList).toArray⟩,.int .i64 0])/\Below W.heap.size W w':=by
 have HD:Hid (my (fP d) s.data.toList=[]++my (fP d) s.data.toList):=Lib.hid rfl
 go_enter Tryz.func69,Tryz.ntmps69
 go_wp2_with fail
 refine Cp.mono ?_;rintro e w1 ⟨rfl,hb1⟩;clear Cp
 go_wp2_with fail
 go_loopw [1,19] (λsv kv wr=>∃(pre rest:List Part)(s':ByteArray)(out:BS),sv=.string s'/\kv=.int .i64 pre.length/\d=pre++rest/\lg rest=s'.size/\s'.size<=500/\(out.length:Int)+ig rest=ig d/\Lib.IsBuilder T E W.heap.size w1.heap.size (Lib.byteCells out) wr/\Below W.heap.size W wr/\Hid (my (fP d) s.data.toList=out++my (fP rest) s'.data.toList)) (λ_ kv _=>d.length-(intOf kv).toNat)
 case atStart=>exact⟨[],d,s,[],rfl,rfl,rfl,hin,hs,by show((0:Nat):Int)+_=_;omega,.inl ⟨hb1.size,.slice none 0 0,heap_alloc_new w1 _,World.ownsRow_nil _ _ _ _,by simp[Value.ownBlock]⟩,hb1.alloc hb1.size _,HD⟩
 case round=>
  obtain⟨pre,rest,s',out,rfl,rfl,Fx,yV,hs',sM,hib,hb,HN⟩:=hrel
  rcases rest with _|⟨p,rest⟩
  ·have hpl:pre.length=d.length:=by rw[Fx];simp
   have TK:=Tryz.Builder_String_any W.heap.size w1.heap.size out wr hib hb.size;rw[hpl];have VY:Hid (my (fP d) s.data.toList=out):=by show _=_;rw[HN.out];simp[fP,my]
   clear Fx yV sM HN hat hZ hin hout HD hib
   go_wp2_with fail
   refine TK.mono ?_;rintro e w2 ⟨rfl,hb2⟩
   go_wp2_with fail
   go_ret2
   exact⟨by rw[VY.out];rfl,hb.trans hb2⟩
  ·have hpl:pre.length<d.length:=by rw[Fx];simp
   obtain⟨b,off,rfl,PL,q0,q1,q2⟩:=hat pre.length p (by rw[Fx];simp);have r0:wr.cell? ⟨b,off+pre.length*3,none⟩=some (.int .i64 p.kind):=by rw[hb.cell (p:=⟨b,_,none⟩) PL];exact q0
   have r1:wr.cell? ⟨b,off+pre.length*3+1,none⟩=some (.int .i64 p.n):=by rw[hb.cell (p:=⟨b,_,none⟩) PL];exact q1
   have r2:wr.cell? ⟨b,off+pre.length*3+2,none⟩=some (.string ⟨p.text.toArray⟩):=by rw[hb.cell (p:=⟨b,_,none⟩) PL];exact q2
   have hp:=gU (hZ p (by rw[Fx];simp));have PM:=hZ p (by rw[Fx];simp);clear q0 q1 q2 hat;have OP:=A6 rest λq hq=>hZ q (by rw[Fx];simp[hq]);have GX:=th rest λq hq=>hZ q (by rw[Fx];simp[hq]);have QZ:Hid (d=(pre++[p])++rest/\(pre++[p]).length=pre.length+1):=by show _/\_;rw[Fx];simp
   have HR:Hid (0<=lg rest/\0<=ig rest):=⟨OP.1,GX.1⟩;have HL:Hid (out.length<=500):=by show _<=_;have h:=(th (p::rest) λq hq=>hZ q (by rw[Fx];exact bX _ hq)).1;omega
   clear Fx hZ hin hout HD OP GX;obtain⟨kd,n,t⟩:=p;simp only[] at r0 r1 r2 hp;simp only[lg,ig] at yV sM;have hwr:W.heap.size<=wr.heap.size:=hb.size;have hbl:=is_lt hib
   rcases hp.2.2.2 with⟨rfl,rfl,hne⟩|⟨rfl|rfl,SW,rfl⟩
   ·rw[aa qD] at yV;rw[aa qD,aa qD] at sM;have H1:Hid (lg rest=(s'.size:Int)/\(out.length:Int)+(t.length+ig rest)=ig d/\t.length<=500):=⟨qW,qW,hp.2.2.1⟩;have H2:Hid (my (fP d) s.data.toList=(out++t)++my (fP rest) s'.data.toList):=by
     show _=_;rw[HN.out,show fP (⟨2,0,t⟩::rest)=t.map .put++fP rest by simp[fP,ib],tj];simp
    clear yV sM hp HN PM
    go_wp2_with fail
    refine(writeString W.heap.size w1.heap.size (Lib.byteCells out) ⟨t.toArray⟩ _ (xn hib (Below.alloc (Below.refl _ _) (ak _) _)) (by rw[Lib.byteCells_length];have:=H1.out.2.2;have:=HL.out;show out.length+t.toArray.size<=_;rw[bH];omega) (by simp;omega)).mono ?_;rintro e w2 ⟨rfl,GY,hb2,hk2⟩;have c1:=hb2.size
    go_wp2_with fail
    go_roundw
    case rel=>exact⟨pre++[⟨2,0,t⟩],rest,s',out++t,rfl,by rw[QZ.out.2,dw];rfl,QZ.out.1,H1.out.1,hs',by rw[ae];have:=H1.out;omega,.inr (by rw[vZ] at GY;simpa using GY),(hb.alloc hb.size _).trans hb2,H2⟩
    case measure=>simp[intOf];omega
   ·rw[ab qD] at yV;rw[ab rfl] at sM;have VZ:n<=s'.size:=by have:=HR.out;omega
    have Rx:0<=n:=by omega
    have e1:(n.toNat:Int)=n:=by omega
    have H1:Hid (lg rest=((s'.extract n.toNat s'.size).size:Int)/\((out++(s'.extract 0 n.toNat).data.toList).length:Int)+ig rest=ig d/\(s'.extract n.toNat s'.size).size<=500/\(s'.extract 0 n.toNat).size<=500):=by
     show _/\_/\_/\_;have h1:((s'.extract 0 n.toNat).data.toList).length=n.toNat:=by rw[bG];show(s'.extract 0 n.toNat).size=_;rw[tk];omega
     rw[ae,h1,tk,tk];have:=HR.out;refine⟨qW,qW,qW,qW⟩
    have H2:Hid (my (fP d) s.data.toList=(out++(s'.extract 0 n.toNat).data.toList)++my (fP rest) (s'.extract n.toNat s'.size).data.toList):=by
     show _=_;rw[HN.out,xo,xo,show fP (⟨1,n,[]⟩::rest)=List.replicate n.toNat .keep++fP rest by simp[fP,ib],GW];have:(s'.data.toList.take s'.size)=s'.data.toList:=bT (by rw[bG];exact ak _);rw[this];simp
    clear yV sM hp HN PM
    go_wp2_with fail
    refine(writeString W.heap.size w1.heap.size (Lib.byteCells out) (s'.extract 0 n.toNat) _ (xn hib (Below.alloc (Below.refl _ _) (ak _) _)) (by rw[Lib.byteCells_length];have:=H1.out;have:=HL.out;omega) (by simp;omega)).mono ?_;rintro e w2 ⟨rfl,GY,hb2,hk2⟩;have q9:=hk2 wr.heap.size _ _ _ qW qD (heap_alloc_new wr _);have XK:w2.cell? ⟨wr.heap.size,1,none⟩=some (.int .i64 n):=by rw[Lib.cell_of_heap q9];rfl
    have c1:=hb2.size
    go_wp2_with fail
    go_roundw
    case rel=>exact⟨pre++[⟨1,n,[]⟩],rest,s'.extract n.toNat s'.size,out++(s'.extract 0 n.toNat).data.toList,rfl,by rw[QZ.out.2,dw];rfl,QZ.out.1,H1.out.1,H1.out.2.2.1,H1.out.2.1,.inr (by rw[vZ] at GY;exact GY),(hb.alloc hb.size _).trans hb2,H2⟩
    case measure=>simp[intOf];omega
   ·rw[ab qD] at yV;rw[aa qD,ab qD] at sM;have VZ:n<=s'.size:=by have:=HR.out;omega
    have Rx:0<=n:=by omega
    have H1:Hid (lg rest=((s'.extract n.toNat s'.size).size:Int)/\(out.length:Int)+ig rest=ig d/\(s'.extract n.toNat s'.size).size<=500):=by
     show _/\_/\_;rw[tk];have:=HR.out;refine⟨qW,qW,qW⟩
    have H2:Hid (my (fP d) s.data.toList=out++my (fP rest) (s'.extract n.toNat s'.size).data.toList):=by
     show _=_;rw[HN.out,xo,show fP (⟨3,n,[]⟩::rest)=List.replicate n.toNat .cut++fP rest by simp[fP,ib],LW];have:(s'.data.toList.take s'.size)=s'.data.toList:=bT (by rw[bG];exact ak _);rw[this]
    clear yV sM hp HN PM
    go_wp2_with fail
    go_roundw
    case rel=>exact⟨pre++[⟨3,n,[]⟩],rest,s'.extract n.toNat s'.size,out,rfl,by rw[QZ.out.2,dw];rfl,QZ.out.1,H1.out.1,H1.out.2.2,H1.out.2.1,xn hib (Below.alloc (Below.refl _ _) (ak _) _),hb.alloc hb.size _,H2⟩
    case measure=>simp[intOf];omega
end Go.Proofs.YtajdadcdcpnedaaGreatDoor.vz
namespace Go.Proofs.YtajdadcdcpnedaaGreatDoor.AM
open Go
theorem qX(n:Nat)(ts:List Tok)(p:BS)(c:Nat)(r:List (BS×Nat))(h:gV ts=(p,c)::r):gV (List.replicate n .cut++ts)=(p,c+n)::r:=by
 induction n with
 |zero=>simpa using h
 |succ n ih=>simp only[bf,aD,gV,ih];simp[c8]
def Ry:List BS->List Bool->Nat->Int
 |p::ps,k::ks,n+1=>p.length+(if k then 1 else 0)+Ry ps ks n
 |_,_,_=>0
def iV:Nat->List Tok->List Tok->List Tok×List Tok
 |0,_,_=>([],[])
 |f+1,.put b::xs,a=>(.put b::(iV f xs a).1,.keep::(iV f xs a).2)
 |f+1,xs,.put b::a=>(.keep::(iV f xs a).1,.put b::(iV f xs a).2)
 |f+1,.keep::xs,.keep::a=>(.keep::(iV f xs a).1,.keep::(iV f xs a).2)
 |f+1,.cut::xs,.keep::a=>(.cut::(iV f xs a).1,(iV f xs a).2)
 |f+1,.keep::xs,.cut::a=>((iV f xs a).1,.cut::(iV f xs a).2)
 |f+1,.cut::xs,.cut::a=>iV f xs a
 |_+1,_,_=>([],[])
open Go.RowKit
set_option maxRecDepth 100000
set_option maxHeartbeats 2000000
theorem vA{f:Nat}{args:List V}{v:V}{us:Array Value}{W:World}(hs:Spec Tryz.prog f args Hp.emp (Is v))(hl:us.size=args.length)
  (hr:∀(i:Nat)(v:V)(u:Value),args[i]? =some v->us[i]? =some u->Rel (xe W) (λ_=>False) W v u)(c:Env W):
  Calls Tryz.prog f us W λe w'=>(∃u F',e=.returned u/\Rel F' (λ_=>False) w' v u)/\Below W.heap.size W w':=by
 let C:Ctx:=⟨W,xe W,λ_=>False,λ_=>False,[]⟩
 have hC:C.Ok:=⟨λb hb=>⟨hb,λh=>h⟩,λb hb=>hb.elim,λb hb=>hb.elim,c,λb hb=>hb.elim⟩;refine(hs.run C us hC hl hr ⟨λk o hk=>by simp[Hp.emp] at hk,λk k' o o' b hk=>by simp[Hp.emp] at hk,λk o b hk=>by simp[Hp.emp] at hk,λb hb=>.inl hb,λb hb=>hb,λb hb=>hb,Ev.refl _ _⟩).mono ?_;rintro e w' ⟨u,v',h',F',rfl,hv,hs2,rfl,rfl⟩;have a:Ev (λ_=>False) W w':=hs2.ev;exact⟨⟨u,F',rfl,hv⟩,a.os,a.tape,a.output,a.size,λk hk=>a.same k hk (λh=>h)⟩
theorem El{F B:Nat->Prop}{w:World}{t:Bool}{d:List Part}{u:Value}(h:Rel F B w (.sl t 3 (d.map a7)) u)(hlt:∀b,F b\/B b->b<w.heap.size):∃e c,u=.slice e d.length c/\vz.Co w e d:=by
 generalize hrows:d.map a7=rows at h
 cases h with
 |slnil=>
  have:d=[]:=by simpa using hrows
  subst this;exact⟨none,0,rfl,λi p hp=>by simp at hp⟩
 |slemp _ _ a cap=>
  have:d=[]:=by simpa using hrows
  subst this;exact⟨some a,cap,rfl,λi p hp=>by simp at hp⟩
 |sl _ _ _ b off cap us hF jD hsz hc hr=>
  subst hrows;refine⟨some ⟨b,off,none⟩,cap,by rw[aH],λi p hp=>⟨b,off,rfl,hlt b (by rcases hF with h|⟨_,h⟩<;>simp[h]),?_,?_,?_⟩⟩
  all_goals have hi:(d.map a7)[i]? =some (a7 p):=by rw[aw,hp];rfl
  ·have h1:=(hc i 0 _ (.int .i64 p.kind) hi rfl).1;have h2:=hr i 0 _ (.int .i64 p.kind) hi rfl
   generalize us i 0=x at h1 h2
   cases h2;exact h1
  ·have h1:=(hc i 1 _ (.int .i64 p.n) hi rfl).1;have h2:=hr i 1 _ (.int .i64 p.n) hi rfl
   generalize us i 1=x at h1 h2
   cases h2;exact h1
  ·have h1:=(hc i 2 _ (.str p.text) hi rfl).1;have h2:=hr i 2 _ (.str p.text) hi rfl
   generalize us i 2=x at h1 h2
   cases h2;exact h1
def kB(d:List Part)(s:BS):BS×Int:=if kh d s.length=0 then(my (fP d) s,0) else([],kh d s.length)
theorem Cq(d:List Part)(hd:d.length<=maxLen)(s:BS):Spec Tryz.prog 69 [.sl true 3 (d.map a7),.str s] Hp.emp (Is (.tup [.str (kB d s).1,.int .i64 (kB d s).2])):=by
 refine⟨⟨Tryz.f69,Tryz.func69,by decide+kernel,aS.1 (by decide+kernel)⟩,λC us hC hl a _=>?_⟩;have main:Calls Tryz.prog 69 us C.w0 λe w'=>e=.returned (.tuple #[.string ⟨(kB d s).1.toArray⟩,.int .i64 (kB d s).2])/\Below C.w0.heap.size C.w0 w':=by
  match us,hl,a with
  |⟨[x,y]⟩,_,a=>
   have a0:=a 0 _ x rfl rfl;have a1:=a 1 _ y rfl rfl;have g:=a0.mono (F':=xe C.w0) (B':=λ_=>False) (λb hb=>(hC.F0 b hb).1) (λb hb=>.inl (hC.B b hb).1);obtain⟨j,c,rfl,hat⟩:=El a0 λb hb=>hb.elim (λh=>(hC.F0 b h).1) λh=>(hC.B b h).1;cases a1;have hsz:(⟨s.toArray⟩:ByteArray).size=s.length:=by show s.toArray.size=_;simp
   have f:Calls Tryz.prog 128 #[.slice j d.length c,.int .i64 ((⟨s.toArray⟩:ByteArray).size:Int)] C.w0 λe w'=>e=.returned (.int .i64 (kh d s.length))/\Below C.w0.heap.size C.w0 w':=by
    rw[hsz];refine(vA (Cm d hd s.length) rfl (λi v u hv hu=>?_) hC.env).mono ?_
    ·match i with
     |0=>simp at hv hu;subst hv hu;exact g
     |1=>simp at hv hu;subst hv hu;exact .int _ _
     |i+2=>simp at hv
    ·rintro e w' ⟨⟨u,F',rfl,hu⟩,hb⟩;cases hu;exact⟨rfl,hb⟩
   unfold kB
   by_cases hf:kh d s.length=0
   ·rw[ab hf];rw[hf] at f;obtain⟨hz,hin⟩:=yU hf;obtain⟨h1,h2,h3,h4,_,_⟩:=gw hz;exact vz.Rw d c ⟨s.toArray⟩ j C.w0 h1 hat h2 (by rw[hsz];exact hin.symm) (by rw[hsz];omega) h4 f
   ·rw[aa hf];exact vz.PK d.length c ⟨s.toArray⟩ j C.w0 _ hf f
 refine main.mono ?_;rintro e w' ⟨rfl,hb⟩;refine⟨_,.tup [.str (kB d s).1,.int .i64 (kB d s).2],Hp.emp,C.F0,rfl,.tup _ _ rfl (λi v u hv hu=>?_),⟨λk o hk=>by simp[Hp.emp] at hk,λk k' o o' b hk=>by simp[Hp.emp] at hk,λk o b hk=>by simp[Hp.emp] at hk,λb hb=>.inl hb,λb hb=>hb,λb l=>bE (hC.F0 b l).1 hb.size,?_⟩,rfl,rfl⟩
 ·match i with
  |0=>simp at hv hu;subst hv hu;exact .str _
  |1=>simp at hv hu;subst hv hu;exact .int _ _
  |i+2=>simp at hv
 ·exact⟨hb.os,hb.tape,hb.output,hb.size,λb hlt _=>hb.block b hlt,λb c e fr hc=>⟨c,fr,by rw[hb.block b (aA.1 hc).1];exact hc,rfl⟩⟩
def ir(r:er):Int:=if r.who<0\/7<r.who\/r.seq<0\/2147483647<r.seq then 1 else cR r.delta
def nS(cur:BS):List er->List BS×Int
 |[]=>([],0)
 |r::l=>if ir r≠0 then([],ir r) else if(kB r.delta cur).2≠0 then([],(kB r.delta cur).2) else((kB r.delta cur).1::(nS (kB r.delta cur).1 l).1,(nS (kB r.delta cur).1 l).2)
def iO(base:BS)(l:List er):List BS×Int:=if 500<base.length\/64<l.length then([],2) else if(nS base l).2≠0 then([],(nS base l).2) else(base::(nS base l).1,0)
theorem Cr:∀(l:List er)(cur:BS),(nS cur l).2=0->(nS cur l).1.length=l.length
 |[],_,_=>rfl
 |r::l,cur,h=>by
  unfold nS at h⊢
  split at h
  ·contradiction
  ·rename_i h1;rw[aa h1]
   split at h
   ·contradiction
   ·rename_i h2;rw[aa h2];simp only[ar];rw[Cr l _ h]
theorem Em{base:BS}{l:List er}(h:(iO base l).2=0):base.length<=500/\l.length<=64/\(nS base l).2=0/\(iO base l).1=base::(nS base l).1/\(iO base l).1.length=l.length+1:=by
 unfold iO at h⊢
 split at h
 ·contradiction
 ·rename_i h1;rw[aa h1]
  split at h
  ·contradiction
  ·rename_i h2;rw[aa h2];have h3:(nS base l).2=0:=aK h2;exact⟨qW,qW,h3,rfl,by simp[Cr l base h3]⟩
def GZ:AC:=qr [qo 1 (.box 96 3 (.t 0)),qz 2 0] (qq (qr [qf 3 0 1,ql 4 3,qc 5 .lss 4 0,qm 6 5,qg 7 6 false (.faddr 0 (.t 1)),qg 8 6 false (.load1 (.t 7)),qg 9 6 false (.bin .gtr (.t 8) (qk 7)),qo 10 (.pick (.t 6) (.c (.bool true)) (.t 9)),qm 11 10,qg 12 11 false (.faddr 1 (.t 1)),qg 13 11 false (.load1 (.t 12)),qg 14 11 false (.bin .lss (.t 13) (qk 0)),qo 15 (.pick (.t 11) (.c (.bool true)) (.t 14)),qm 16 15,qg 17 16 false (.faddr 1 (.t 1)),qg 18 16 false (.load1 (.t 17)),qg 19 16 false (.bin .gtr (.t 18) (qk 2147483647)),qo 20 (.pick (.t 16) (.c (.bool true)) (.t 19))] (qu 20 (qr [qz 2 1] .ret) .skip)) (qr [qf 21 2 1,ql 22 21,qa 23 187 [.t 22],qm 2 23] .ret))
theorem ok_one:fF Tryz.prog 127 Tryz.f127 GZ [.t 2] 1 dS:=⟨Tryz.func127,by decide+kernel,by kernel_rfl,by kernel_rfl,by decide+kernel⟩
theorem G0(P:Prim)(hP:P=cp)(T f:cm)(d:Bool)(w q:Int)(e:List (List V))(c r:Int)(a:hJ T 187 [.sl d 3 e] (qI c))(hr:(if w<0\/7<w\/q<0\/2147483647<q then 1 else c)=r)
  (R:S->Prop)(b:∀s s' x,x=r->cd s s'->ia [.t 2] [qI x] s'->R s):gE P T f GZ (S0 [.agg [qI w,qI q,.sl d 3 e]] Hp.emp) R (λ_ _=>False) R:=by
 cbv
 repeat'(first|(intro β;cbv)|(refine And.intro (by assumption) ?_;cbv)|(refine a6 (λh=>?_) (λh=>?_)<;>try cbv)|(refine Exists.intro _ (And.intro (by assumption) ?_);cbv)|(refine a _ _ ?_;cbv)|(refine g _ _ ?_;cbv)|(refine i _ _ ?_;cbv)|(refine j _ _ ?_;cbv)|(refine k _ _ ?_;cbv)|(refine l _ _ ?_;cbv)|(refine And.intro (by(clear b;subst hP;simp[cp,kA,nc] at* <;>first|omega|grind)) ?_;cbv))
 all_goals
  refine b _ _ _ ?_ (cd.refl _) rfl;clear b a;subst hP;simp[cp] at*;first|omega|grind
theorem Bg(r:er)(hr:fV r.delta):Spec Tryz.prog 127 [.agg (bd r)] Hp.emp (Is (.int .i64 (ir r))):=
 ed hW ok_one [.int .i64 (ir r)] (.int _ _) λR a=>G0 cp rfl _ _ false r.who r.seq (r.delta.map a7) (cR r.delta) (ir r) (LM (lI r.delta hr.1) rfl) rfl R λs s' x h he hq=>by subst h;exact a s s' he hq
def tl(r:er):List V:=[.int .i64 r.who,.int .i64 r.seq,.sl true 3 (r.delta.map a7)]
theorem LX(r:er)(hr:fV r.delta):Spec Tryz.prog 127 [.agg (tl r)] Hp.emp (Is (.int .i64 (ir r))):=
 ed hW ok_one [.int .i64 (ir r)] (.int _ _) λR a=>G0 cp rfl _ _ true r.who r.seq (r.delta.map a7) (cR r.delta) (ir r) (gK (lI r.delta hr.1) (λ_=>.cons (.same _) .nil) rfl) rfl R λs s' x h he hq=>by subst h;exact a s s' he hq
structure V0(base:BS)(l:List er) where
 k:Int
 pre:List er
 rest:List er
 acc:List BS
 cur:BS
 n:Nat
 b:Option Nat
 rows:List (List V)
 hd:l=pre++rest
 hk:k=(pre.length:Int)
 hrows:rows=ca (acc++[cur])
 G1:acc.length=pre.length
 hn:n=pre.length+1
 h1:(acc++[cur])++(nS cur rest).1=base::(nS base l).1
 h2:(nS cur rest).2=(nS base l).2
def xp(a:List Part->List (List V))(l:List er):List (List V):=l.map λr=>[.int .i64 r.who,.int .i64 r.seq,.sl false 3 (a r.delta)]
def yW:AC:=qr [qo 4 (.mov (.c (.slice none 0 0))),qz 5 0] (qq (qr [qm 12 0,qo 13 (.len true (.t 12)),qc 14 .gtr 13 500,qm 15 14,qg 16 15 false (.mov (.t 1)),qg 17 15 false (.len false (.t 16)),qg 18 15 false (.bin .gtr (.t 17) (qk 64)),qo 19 (.pick (.t 15) (.c (.bool true)) (.t 18))] (qu 19 (qr [qo 4 (.mov (.c (.slice none 0 0))),qz 5 2] .ret) .skip)) (qr [qm 20 0,qo 21 (.bslice 9 1 [.t 20]),qm 6 21] (qq (qr [qm 22 1,qo 23 (.len false (.t 22)),qz 24 0] (.block 0 (.loop (qr [qb 25 .lss 24 23] (qq (qu 25 .skip (.exit 0)) (qq (.block 1 (qr [qo 26 (.iaddr 3 (.t 22) (.t 24)),qd 27 3 26,qo 8 (.alloc 96 Lb),qs 3 8 27] (qq (qr [qd 28 3 8,qa 29 127 [.t 28],qm 9 29] (qr [qm 30 9,qc 31 .neq 30 0] (qu 31 (qr [qm 32 9,qo 4 (.mov (.c (.slice none 0 0))),qm 5 32] .ret) .skip))) (qq (.region true [qf 34 2 8,ql 35 34,qm 36 6,qm 37 6,qo 38 (.len false (.t 37)),qc 39 .sub 38 1,qo 40 (.iaddr 1 (.t 36) (.t 39)),ql 41 40,qa 42 69 [.t 35,.t 41],qm 33 42,qx 43 0 33,qx 44 1 33,qm 10 43,qm 11 44]) (qq (qr [qm 45 11,qc 46 .neq 45 0] (qu 46 (qr [qm 47 11,qo 4 (.mov (.c (.slice none 0 0))),qm 5 47] .ret) .skip)) (qR [qm 48 6,qm 49 10,qo 50 (.bslice 9 1 [.t 49]),qo 51 (.append 9 1 16 (.t 48) (.t 50)),qm 6 51])))))) (qR [qc 52 .add 24 1,qm 24 52]))))))) (qr [qm 53 6,qm 4 53,qz 5 0] .ret))))
theorem G2:fF Tryz.prog 130 Tryz.f130 yW [.t 4,.t 5] 2 dS:=⟨Tryz.func130,by decide+kernel,by kernel_rfl,by kernel_rfl,by decide+kernel⟩
theorem G3(P:Prim)(hP:P=cp)(T W:cm)(base:BS)(l:List er)(G:List Part->List (List V))(rows:List (List V))(hrows:rows=xp G l)
  (v:Int->Int->List Part->Int)(H:∀w q d,v w q d=ir ⟨w,q,d⟩)(p:List Part->BS->BS)(z:List Part->BS->Int)(I:∀d s,p d s=(kB d s).1)(J:∀d s,z d s=(kB d s).2)
  (m:∀w q d,⟨w,q,d⟩∈l->hJ T 127 [.agg [qI w,qI q,.sl false 3 (G d)]] (qI (v w q d)))
  (A:∀w q d s,⟨w,q,d⟩∈l->hJ W 69 [.sl false 3 (G d),.str s] (.tup [.str (p d s),qI (z d s)]))
  (t:List BS)(e:Int)(ht:iO base l=(t,e))
  (R:S->Prop)(B:∀x,x=e->qQ [.t 4,.t 5] 1 (ca t) [qI x] R):gE P T W yW (S0 [.str base,.sl true 3 rows] Hp.emp) R (λ_ _=>False) R:=by
 have j:P.cF rows=(l.length:Int):=by rw[hX hP,hrows];simp[xp]
 have hb1:P.b5 base=(base.length:Int):=cA hP base;have f:500<base.length\/64<l.length->t=[]/\e=2:=by
  intro h;unfold iO at ht;rw[ab h] at ht;simp only[aX] at ht;exact⟨ht.1.symm,ht.2.symm⟩
 cbv;refine a6 (λh=>?_) (λh=>?_)
 ·have h3:500<P.b5 base:=gM hP h;rw[hb1] at h3;obtain⟨g1,g2⟩:=f (.inl qO);cbv;exact(B _ g2.symm).1 _ _ (cd.refl _) rfl (by rw[g1];rfl)
 have h3:¬500<P.b5 base:=gN hP h;rw[hb1] at h3;cbv;refine a6 (λh=>?_) (λh=>?_)
 ·have h4:64<P.cF rows:=gM hP h;rw[j] at h4;obtain⟨g1,g2⟩:=f (.inr qO);cbv;exact(B _ g2.symm).1 _ _ (cd.refl _) rfl (by rw[g1];rfl)
 have h4:¬64<P.cF rows:=gN hP h;rw[j] at h4;have X:l.length<=64:=by((try simp only[nc] at*);omega)
 have K:t=(if(nS base l).2≠0 then[] else base::(nS base l).1)/\e=(nS base l).2:=by
  unfold iO at ht;rw[aa qO] at ht
  split at ht
  ·rename_i h;simp only[aX] at ht;rw[ab h];exact⟨ht.1.symm,ht.2.symm⟩
  ·rename_i h;simp only[aX] at ht;rw[aa h];exact⟨ht.1.symm,qW⟩
 obtain⟨c,g⟩:=K;clear f ht h;cbv;intro Y;cbv;refine⟨V0 base l,λy=>[(6,.own 1000021 y.b 1 y.n),(22,.sl true 3 rows),(23,qI (P.cF rows)),(24,qI y.k)],
  λy=>[(1000021,⟨y.b,9,1,y.rows⟩)],λy=>y.rest.length,
  ⟨_,cd.refl _,⟨0,[],l,[],base,_,_,_,rfl,rfl,rfl,rfl,rfl,rfl,rfl⟩,⟨rfl,rfl,rfl,rfl,trivial⟩,⟨rfl,trivial⟩⟩,?_⟩
 rintro⟨k,pre,rest,acc,cur,n,b,rows2,hd,hk,a,G1,hn,h1,h2⟩;have C:pre.length+rest.length=l.length:=by rw[hd];simp
 cbv;refine a6 (λh=>?_) (λh=>?_)
 ·have h5:k<P.cF rows:=gM hP h;rw[j] at h5
  rcases rest with _|⟨⟨w,q,d⟩,rest⟩
  ·exfalso;simp at C;((try simp only[nc] at*);omega)
  have o:(⟨w,q,d⟩:er)∈l:=by rw[hd];simp
  have c1:=m w q d o;have Z:=A w q d cur o;have D:P.row rows (P.nat k) [qI w,qI q,.sl false 3 (G d)]:=gz hP hk (by rw[hrows,xp,aw,hd];simp);have L:P.fK 0 k:=iJ hP qO;have Ty:P.i64 (P.add k 1):=by rw[add_eq hP];exact fm hP qO
  have hin:P.sub (P.int n) 1=((pre.length:Nat):Int):=by rw[sub_eq hP,int_eq hP,hn];((try simp only[nc] at*);omega)
  have M:P.i64 (P.sub (P.int n) 1):=by rw[hin];exact fm hP qO
  have N:P.fK 0 (P.sub (P.int n) 1):=iJ hP (by rw[hin];((try simp only[nc] at*);omega));have O:P.iq (P.sub (P.int n) 1) (P.int n):=lk hP (by rw[hin,int_eq hP,hn];((try simp only[nc] at*);omega));have u:P.row rows2 (P.nat (P.sub (P.int n) 1)) [.str cur]:=gz hP hin (by rw[a,ca,aw,<-G1];simp);have XL:P.rW rows2 n:=by subst hP;show rows2.length=n;rw[a,hn];simp[ca,G1]
  have Q:∀r,P.bytes (P.add (P.int n) (P.cF [r])) 16:=by intro r;subst hP;show((n:Int)+1)*16<=_;((try simp only[nc] at*);omega)
  have U:∀r,P.rW [r] 1:=by intro r;subst hP;rfl
  have i:nS cur (⟨w,q,d⟩::rest)=if v w q d≠0 then([],v w q d) else if z d cur≠0 then([],z d cur) else(p d cur::(nS (p d cur) rest).1,(nS (p d cur) rest).2):=by rw[H,J,I];rfl
  rw[i] at h1 h2;clear m A i;cbv;refine⟨L,_,D,?_⟩;cbv;intro XM;cbv;refine c1 _ _ ?_;cbv;refine a6 (λh=>?_) (λh=>?_)
  ·have hz:v w q d≠0:=iG hP h;rw[ab hz] at h2;simp only[] at h2;rw[<-h2] at c g;rw[ab hz] at c;cbv;exact(B _ g.symm).1 _ _ (cd.refl _) rfl (by rw[c];rfl)
  have hz:v w q d=0:=iy hP h;rw[aa (λh=>h hz)] at h1 h2;cbv;refine⟨M,N,O,_,u,?_⟩;cbv;refine Z _ _ ?_;cbv;refine a6 (λh=>?_) (λh=>?_)
  ·have hy:z d cur≠0:=iG hP h;rw[ab hy] at h2;simp only[] at h2;rw[<-h2] at c g;rw[ab hy] at c;cbv;exact(B _ g.symm).1 _ _ (cd.refl _) rfl (by rw[c];rfl)
  have hy:z d cur=0:=iy hP h;rw[aa (λh=>h hy)] at h1 h2;cbv
  repeat' first|(refine And.intro (by assumption) ?_;cbv)|(refine And.intro (U _) ?_;cbv)|(refine And.intro (Q _) ?_;cbv)|(intro β;cbv)
  refine⟨_,cd.refl _,⟨_,pre++[⟨w,q,d⟩],rest,acc++[cur],p d cur,_,_,_,by simp[hd],?_,?_,by simp[G1],?_,by rw[<-h1];simp,h2⟩,⟨rfl,rfl,rfl,rfl,trivial⟩,⟨rfl,trivial⟩,by simp⟩
  ·show P.add k 1=_;rw[add_eq hP,hk];simp
  ·show P.n4 rows2 [[.str (p d cur)]]=_;rw[a];subst hP;simp[cp,ca]
  ·show P.jg n (P.gH [_])=_;subst hP;simp[cp,hn]
 ·have h5:¬k<P.cF rows:=gN hP h;rw[j] at h5
  rcases rest with _|⟨r,rest⟩
  rotate_left
  ·exfalso;simp at C;((try simp only[nc] at*);omega)
  have E:(nS base l).2=0:=by rw[<-h2];rfl
  rw[E,aa qD] at c;rw[E] at g;have F:acc++[cur]=t:=by rw[c,<-h1];simp[nS]
  cbv;exact(B _ g.symm).2.1 _ _ _ _ _ _ _ (cd.refl _) rfl rfl ⟨by rw[<-F,hn];simp[ca,G1],by rw[<-F,a]⟩
theorem PN{rv:List RV}{t:List BS}{e:Int}{R:S->Prop}(a:∀s s',cd s s'->Gq rv (.tup [.sl false 1 (ca t),.int .i64 e]) s'->R s):∀x,x=e->qQ rv 1 (ca t) [.int .i64 x] R:=λx hx=>by
 subst hx;exact lN (Bb _) (p7 _) (ur _) λs s' he hr=>a s s' he hr
theorem G4{f:Nat}{d:List Part}{vs:List V}{v:V}(h:Spec Tryz.prog f (.sl true 3 (d.map a7)::vs) Hp.emp (Is v))(hv:v.gy (gD [])=v)(a:vs.all V.pl=true):hJ (fk Tryz.prog) f (gI d::vs) v:=yu h (λ_=>.cons (.qE _ _) (fX a)) hv
theorem G5(base:BS)(l:List er)(hl:mw l):Spec Tryz.prog 130 [.str base,.sl true 3 (l.map bd)] Hp.emp (Is (.tup [.sl false 1 (ca (iO base l).1),.int .i64 (iO base l).2])):=
 kX hW G2 λR a=>G3 cp rfl _ _ base l (λd=>d.map a7) _ rfl (λw q d=>ir ⟨w,q,d⟩) (λ_ _ _=>rfl) (λd s=>(kB d s).1) (λd s=>(kB d s).2) (λ_ _=>rfl) (λ_ _=>rfl)
  (λw q d hm=>gK (Bg ⟨w,q,d⟩ (hl.2 _ hm).2.2) (λh=>.cons (.same _) .nil) rfl)
  (λw q d s hm=>G4 (Cq d (hl.2 _ hm).2.2.1 s) rfl rfl) _ _ rfl R (PN a)
def jy(base:BS)(l:List er)(k:Int):BS×Int:=if(iO base l).2≠0 then([],(iO base l).2) else if k<0\/(l.length:Int)<k then([],1) else((iO base l).1.getD k.toNat [],0)
def Cs:AC:=qr [qo 6 (.mov (.c qe)),qz 7 0] (qr [qm 11 0,qm 12 1,qa 13 130 [.t 11,.t 12],qm 10 13,qx 14 0 10,qx 15 1 10,qm 8 14,qm 9 15] (qq (qr [qm 16 9,qc 17 .neq 16 0] (qu 17 (qr [qm 18 9,qo 6 (.mov (.c qe)),qm 7 18] .ret) .skip)) (qq (qr [qm 19 2,qc 20 .lss 19 0,qm 21 20,qg 22 21 false (.mov (.t 2)),qg 23 21 false (.mov (.t 1)),qg 24 21 false (.len false (.t 23)),qg 25 21 false (.bin .gtr (.t 22) (.t 24)),qo 26 (.pick (.t 21) (.c (.bool true)) (.t 25))] (qu 26 (qr [qo 6 (.mov (.c qe)),qz 7 1] .ret) .skip)) (qr [qm 27 8,qm 28 2,qo 29 (.iaddr 1 (.t 27) (.t 28)),ql 30 29,qm 6 30,qz 7 0] .ret))))
theorem LY:fF Tryz.prog 73 Tryz.f73 Cs [.t 6,.t 7] 3 dS:=⟨Tryz.func73,by decide+kernel,by kernel_rfl,by kernel_rfl,by decide+kernel⟩
theorem LZ(P:Prim)(hP:P=cp)(T g:cm)(base:BS)(rows d:List (List V))(e k n:Int)(s:BS)(hn:P.cF rows=n)(b:hJ T 130 [.str base,.sl true 3 rows] (.tup [.sl false 1 d,qI e]))
  (r:BS)(f:Int)(h1:e≠0->r=[]/\e=f)(h2:e=0->k<0\/n<k->r=[]/\1=f)(h3:e=0->0<=k->k<=n->P.row d (P.nat k) [.str s]/\s=r/\0=f)
  (R:S->Prop)(a:∀s s' x y,x=r/\y=f->cd s s'->ia [.t 6,.t 7] [.str x,qI y] s'->R s):gE P T g Cs (S0 [.str base,.sl true 3 rows,qI k] Hp.emp) R (λ_ _=>False) R:=by
 cbv;refine b _ _ ?_;cbv;refine a6 (λh=>?_) (λh=>?_)
 ·have hz:=iG hP h;cbv;exact a _ _ _ _ ⟨(h1 hz).1.symm,(h1 hz).2⟩ (cd.refl _) rfl
 have hz:=iy hP h;cbv;refine a6 (λh=>?_) (λh=>?_)
 ·have hk:=gM hP h;cbv;exact a _ _ _ _ ⟨(h2 hz (.inl hk)).1.symm,(h2 hz (.inl hk)).2⟩ (cd.refl _) rfl
 have hk:=gN hP h;cbv;refine a6 (λh=>?_) (λh=>?_)
 ·have hk2:P.cF rows<k:=gM hP h;rw[hn] at hk2;cbv;exact a _ _ _ _ ⟨(h2 hz (.inr hk2)).1.symm,(h2 hz (.inr hk2)).2⟩ (cd.refl _) rfl
 have hk2:¬P.cF rows<k:=gN hP h;rw[hn] at hk2;obtain⟨g1,g2,g3⟩:=h3 hz qW qW;have c:P.fK 0 k:=iJ hP qW;cbv;refine⟨c,_,g1,?_⟩;cbv;exact a _ _ _ _ ⟨g2,g3⟩ (cd.refl _) rfl
theorem Bh{base:BS}{l:List er}{k:Int}(he:(iO base l).2=0)(h0:0<=k)(h1:k<=l.length):(iO base l).1[k.toNat]? =some ((iO base l).1.getD k.toNat []):=by
 obtain⟨_,_,_,_,h⟩:=Em he;rw[au,af qW];rfl
theorem L1(base:BS)(l:List er)(k:Int)(hl:mw l):Spec Tryz.prog 73 [.str base,.sl true 3 (l.map bd),.int .i64 k] Hp.emp (Is (.tup [.str (jy base l k).1,.int .i64 (jy base l k).2])):=
 ed hW LY [.str (jy base l k).1,.int .i64 (jy base l k).2] (.tup _ (by simp;exact⟨.str _,.int _ _⟩)) λR a=>LZ cp rfl _ _ base _ (ca (iO base l).1) (iO base l).2 k l.length ((iO base l).1.getD k.toNat []) (by show((l.map bd).length:Int)=_;simp)
  (gK (G5 base l hl) (λh=>.cons (.same _) (.cons (.same _) .nil)) rfl) (jy base l k).1 (jy base l k).2 (λh=>by unfold jy;rw[ab h];exact⟨rfl,rfl⟩) (λh h'=>by unfold jy;rw[aa (λg=>g h),ab h'];exact⟨rfl,rfl⟩)
  (λh h0 h1=>by
   refine⟨gz rfl (i:=k.toNat) qW (by rw[ca,aw,Bh h h0 h1];rfl),?_⟩;unfold jy;rw[aa (λg=>g h),aa qW];exact⟨rfl,rfl⟩)
  R λs s' x y h he hr=>by obtain⟨rfl,rfl⟩:=h;exact a s s' he hr
def gf(l:List Int):List (List V):=l.map λn=>[.int .i64 n]
theorem G6(l:List Int):∀r∈gf l,r.length=1:=by
 intro r hr;simp only[gf,aM] at hr;obtain⟨a,_,rfl⟩:=hr;rfl
theorem uv(l:List Int):∀r∈gf l,∀v∈r,Fz v:=by
 intro r hr;simp only[gf,aM] at hr;obtain⟨a,_,rfl⟩:=hr;intro v hv;simp only[ag] at hv;subst hv;exact .int _ _
theorem Rz{f:Nat}{l:List Int}{vs:List V}{v:V}(h:Spec Tryz.prog f (.sl true 1 (gf l)::vs) Hp.emp (Is v))(hv:v.gy (gD [])=v)(a:vs.all V.pl=true):hJ (dF Tryz.prog) f (.sl false 1 (gf l)::vs) v:=gK h (λ_=>.cons (.qE _ _) (fX a)) hv
end Go.Proofs.YtajdadcdcpnedaaGreatDoor.AM
