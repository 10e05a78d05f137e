/-
  Part 11 of what the law WorldPlays reaches: the plain machine, contracts of the functions and plain laws; each lemma says its own condition.
-/
import Derived.Test.YtobngncjflogcaaGreatWorldPlays6
import Derived.Shelf.Strings.Repeat
import Derived.Test.YtobngncjflogcaaGreatProg
import Derived.Test.YtobngncjflogcaaGreatWorldPlays13
import Derived.Test.YtobngncjflogcaaGreatWorldPlays7
set_option linter.unusedVariables false
set_option linter.unusedSimpArgs false
namespace Go.Proofs.YtobngncjflogcaaGreat.AM
open Go
set_option maxRecDepth 100000
set_option maxHeartbeats 2000000
def kj(w r q:Int):Prop:=w<0\/7<w\/r<0\/2147483647<r\/q<0\/2147483647<q
def ji(ns nh:Int)(fl wt:Bool):Prop:=(fl=false/\0<ns)\/(wt=false/\0<nh)\/(wt=true/\fl=false)
instance(w r q:Int):Decidable (kj w r q):=by unfold kj;exact inferInstance
instance(ns nh:Int)(fl wt:Bool):Decidable (ji ns nh fl wt):=by unfold ji;exact inferInstance
def Fq(w r q n ns nh is os cs ih oh ch:Int)(fl wt:Bool):Int:=
 if kj w r q then 1 else if 500<n then 2 else if ji ns nh fl wt then 3 else if wt=true/\ch≠0 then ch else if wt=true/\oh≠n then 4 else if fl=true/\cs≠0 then cs else if fl=true/\os≠(if wt then ih else n) then 4 else 0
structure RQ(w r q n ns nh is os cs ih oh ch:Int)(fl wt:Bool)(res:Int):Prop where
 r1:kj w r q->1=res
 r2:¬kj w r q->500<n->2=res
 r3:¬kj w r q->¬500<n->ji ns nh fl wt->3=res
 r4:¬kj w r q->¬500<n->¬ji ns nh fl wt->wt=true->ch≠0->ch=res
 r5:¬kj w r q->¬500<n->¬ji ns nh fl wt->wt=true->ch=0->oh≠n->4=res
 r6:¬kj w r q->¬500<n->¬ji ns nh fl wt->(wt=true->ch=0/\oh=n)->fl=true->cs≠0->cs=res
 r7:¬kj w r q->¬500<n->¬ji ns nh fl wt->(wt=true->ch=0/\oh=n)->fl=true->cs=0->os≠(if wt then ih else n)->4=res
 r8:¬kj w r q->¬500<n->¬ji ns nh fl wt->(wt=true->ch=0/\oh=n)->(fl=true->cs=0/\os=(if wt then ih else n))->0=res
theorem Ue(w r q n ns nh is os cs ih oh ch:Int)(fl wt:Bool):RQ w r q n ns nh is os cs ih oh ch fl wt (Fq w r q n ns nh is os cs ih oh ch fl wt):=by
 constructor<;>intros<;>unfold Fq<;>simp_all<;>grind
def jA(c:Client):Int:=Fq c.who c.rev c.seq c.text.length c.eZ.length c.held.length (lO c.eZ).1 (lO c.eZ).2.1 (lO c.eZ).2.2 (lO c.held).1 (lO c.held).2.1 (lO c.held).2.2 c.eT c.waiting
def xv:AC:=qr [qo 1 (.box 64 8 (.t 0)),qz 2 0] (qq (qr [qf 9 0 1,ql 10 9,qc 11 .lss 10 0,qm 12 11,qg 13 12 false (.faddr 0 (.t 1)),qg 14 12 false (.load1 (.t 13)),qg 15 12 false (.bin .gtr (.t 14) (qk 7)),qo 16 (.pick (.t 12) (.c (.bool true)) (.t 15)),qm 17 16,qg 18 17 false (.faddr 1 (.t 1)),qg 19 17 false (.load1 (.t 18)),qg 20 17 false (.bin .lss (.t 19) (qk 0)),qo 21 (.pick (.t 17) (.c (.bool true)) (.t 20)),qm 22 21,qg 23 22 false (.faddr 1 (.t 1)),qg 24 22 false (.load1 (.t 23)),qg 25 22 false (.bin .gtr (.t 24) (qk 2147483647)),qo 26 (.pick (.t 22) (.c (.bool true)) (.t 25)),qm 27 26,qg 28 27 false (.faddr 2 (.t 1)),qg 29 27 false (.load1 (.t 28)),qg 30 27 false (.bin .lss (.t 29) (qk 0)),qo 31 (.pick (.t 27) (.c (.bool true)) (.t 30)),qm 32 31,qg 33 32 false (.faddr 2 (.t 1)),qg 34 32 false (.load1 (.t 33)),qg 35 32 false (.bin .gtr (.t 34) (qk 2147483647)),qo 36 (.pick (.t 32) (.c (.bool true)) (.t 35))] (qu 36 (qr [qz 2 1] .ret) .skip)) (qq (qr [qf 37 3 1,ql 38 37,qo 39 (.len true (.t 38)),qc 40 .gtr 39 500] (qu 40 (qr [qz 2 2] .ret) .skip)) (qq (qr [qf 41 4 1,ql 42 41,qo 43 (.not (.t 42)),qm 44 43,qg 45 44 true (.faddr 5 (.t 1)),qg 46 44 true (.load1 (.t 45)),qg 47 44 true (.len false (.t 46)),qg 48 44 true (.bin .gtr (.t 47) (qk 0)),qo 49 (.pick (.t 44) (.t 48) (.c (.bool false))),qm 50 49,qg 51 50 false (.faddr 6 (.t 1)),qg 52 50 false (.load1 (.t 51)),qg 53 50 false (.not (.t 52)),qg 54 50 false (.mov (.t 53)),qg 55 54 true (.faddr 7 (.t 1)),qg 56 54 true (.load1 (.t 55)),qg 57 54 true (.len false (.t 56)),qg 58 54 true (.bin .gtr (.t 57) (qk 0)),qg 59 50 false (.pick (.t 54) (.t 58) (.c (.bool false))),qo 60 (.pick (.t 50) (.c (.bool true)) (.t 59)),qm 61 60,qg 62 61 false (.faddr 6 (.t 1)),qg 63 61 false (.load1 (.t 62)),qg 64 61 false (.mov (.t 63)),qg 65 64 true (.faddr 4 (.t 1)),qg 66 64 true (.load1 (.t 65)),qg 67 64 true (.not (.t 66)),qg 68 61 false (.pick (.t 64) (.t 67) (.c (.bool false))),qo 69 (.pick (.t 61) (.c (.bool true)) (.t 68))] (qu 69 (qr [qz 2 3] .ret) .skip)) (qr [qf 70 3 1,ql 71 70,qo 72 (.len true (.t 71)),qm 3 72] (qq (qr [qf 73 6 1,ql 74 73,qf 75 7 1,ql 76 75,qo 77 (.build Vm [(0,1,(.t 74)),(1,1,(.t 76))]),qf 78 4 1,ql 79 78,qf 80 5 1,ql 81 80,qo 82 (.build Vm [(0,1,(.t 79)),(1,1,(.t 81))]),qo 83 (.bslice 200 2 [.t 77,.t 82]),qo 84 (.len false (.t 83)),qz 85 0] (.block 0 (.loop (qr [qb 86 .lss 85 84] (qq (qu 86 .skip (.exit 0)) (qq (.block 1 (qr [qo 87 (.iaddr 2 (.t 83) (.t 85)),qd 88 2 87,qo 5 (.alloc 200 Vm),qs 2 5 88] (qq (qr [qf 89 0 5,ql 90 89,qo 91 (.not (.t 90))] (qu 91 (.exit 1) .skip)) (qr [qf 93 1 5,ql 94 93,qa 95 87 [.t 94],qm 92 95,qx 96 0 92,qx 97 1 92,qx 98 2 92,qm 6 96,qm 7 97,qm 8 98] (qq (qr [qm 99 8,qc 100 .neq 99 0] (qu 100 (qr [qm 101 8,qm 2 101] .ret) .skip)) (qq (qr [qm 102 7,qm 103 3,qb 104 .neq 102 103] (qu 104 (qr [qz 2 4] .ret) .skip)) (qR [qm 105 6,qm 3 105]))))))) (qR [qc 106 .add 85 1,qm 85 106]))))))) (qr [qz 2 0] .ret))))))
theorem Fs:fo Tryz.prog 99 Tryz.f99 xv [.t 2] 1 eV:=⟨Tryz.func99,by decide+kernel,by kernel_rfl,by kernel_rfl,by decide+kernel⟩
structure V4(n n1 oh ch cs os:Int)(fl wt:Bool) where
 k:Int
 size:Int
 h0:k=0\/k=1\/k=2
 hs:(k=0->size=n)/\(k=1->size=n1)
 h1:k≠0->wt=true->ch=0/\oh=n
 h2:k=2->fl=true->cs=0/\os=n1
theorem Ft(P:Prim)(hP:P=ca)(T C:cp)(w r q n ns nh is os cs ih oh ch:Int)(fl wt:Bool)(s:BS)(sr hr:List (List V))(hn:P.eP s=n)(A:P.da sr=ns)(v:P.da hr=nh)
  (hc1:fZ T 87 [.sl false 3 hr] (.tup [qI ih,qI oh,qI ch]))(p:fZ T 87 [.sl false 3 sr] (.tup [qI is,qI os,qI cs]))
  (res:Int)(n1:Int)(o:n1=if wt then ih else n)(B:RQ w r q n ns nh is os cs ih oh ch fl wt res)
  (R:S->Prop)(g:∀s s' x,x=res->a7 s s'->hX [.t 2] [qI x] s'->R s):fX P T C xv (S0 [.agg [qI w,qI r,qI q,.str s,.bool fl,.sl false 3 sr,.bool wt,.sl false 3 hr]] Hp.emp) R (λ_ _=>False) R:=by
 obtain⟨r1,r2,r3,r4,r5,r6,r7,r8⟩:=B;rw[<-o] at r7 r8;cbv;intro D;cbv
 by_cases hb1:kj w r q
 ·have e:=r1 hb1;clear r1 r2 r3 r4 r5 r6 r7 r8 hc1 p;unfold kj at hb1;refine ab (λh=>?_) (λh=>?_)
  ·cbv;exact g _ _ _ e (a7.refl _) rfl
  have n1:=fg hP h;cbv;refine ab (λh=>?_) (λh=>?_)
  ·cbv;exact g _ _ _ e (a7.refl _) rfl
  have n2:=fg hP h;cbv;refine ab (λh=>?_) (λh=>?_)
  ·cbv;exact g _ _ _ e (a7.refl _) rfl
  have G:=fg hP h;cbv;refine ab (λh=>?_) (λh=>?_)
  ·cbv;exact g _ _ _ e (a7.refl _) rfl
  have H:=fg hP h;cbv;refine ab (λh=>?_) (λh=>?_)
  ·cbv;exact g _ _ _ e (a7.refl _) rfl
  have I:=fg hP h;cbv;refine ab (λh=>?_) (λh=>?_)
  ·cbv;exact g _ _ _ e (a7.refl _) rfl
  have J:=fg hP h;omega
 replace r2:=r2 hb1
 replace r3:=r3 hb1
 replace r4:=r4 hb1
 replace r5:=r5 hb1
 replace r6:=r6 hb1
 replace r7:=r7 hb1
 replace r8:=r8 hb1
 unfold kj at hb1;refine fv (nU hP qW) ?_;cbv;refine fv (nU hP qW) ?_;cbv;refine fv (nU hP qW) ?_;cbv;refine fv (nU hP qW) ?_;cbv;refine fv (nU hP qW) ?_;cbv;refine fv (nU hP qW) ?_;cbv;clear r1;refine ab (λh=>?_) (λh=>?_)
 ·have h5:500<P.eP s:=fA hP h;rw[hn] at h5;cbv;exact g _ _ _ (r2 h5) (a7.refl _) rfl
 have h5:¬500<P.eP s:=fg hP h;rw[hn] at h5
 replace r3:=r3 h5
 replace r4:=r4 h5
 replace r5:=r5 h5
 replace r6:=r6 h5
 replace r7:=r7 h5
 replace r8:=r8 h5
 clear r2 h;cbv
 by_cases c:ji ns nh fl wt
 ·have e:=r3 c;clear r3 r4 r5 r6 r7 r8 hc1 p;unfold ji at c;refine ab (λhf=>?_) (λhf=>?_)
  ·cbv;refine ab (λhw=>?_) (λhw=>?_)
   ·exfalso
    rw[hf,hw] at c;simp at c
   ·cbv;refine ab (λh=>?_) (λh=>?_)
    ·cbv;exact g _ _ _ e (a7.refl _) rfl
    ·exfalso
     have h6:¬0<P.da hr:=fg hP h;rw[v] at h6;rw[hf,hw] at c;simp at c;omega
  ·cbv;refine ab (λh=>?_) (λh=>?_)
   ·cbv;exact g _ _ _ e (a7.refl _) rfl
   ·have h6:¬0<P.da sr:=fg hP h;rw[A] at h6;cbv;refine ab (λhw=>?_) (λhw=>?_)
    ·cbv
     repeat' first
      |(refine ab (λh=>?_) (λh=>?_)<;>try cbv)
     all_goals first
      |(exact g _ _ _ e (a7.refl _) rfl)
      |(exfalso;simp_all;done)
    ·cbv;refine ab (λh=>?_) (λh=>?_)
     ·cbv;exact g _ _ _ e (a7.refl _) rfl
     ·exfalso
      have h7:¬0<P.da hr:=fg hP h;rw[v] at h7;rw[hf,hw] at c;simp at c;omega
 replace r4:=r4 c
 replace r5:=r5 c
 replace r6:=r6 c
 replace r7:=r7 c
 replace r8:=r8 c
 clear r3;have q1:fl=false->P.lt 0 (P.da sr)=false:=λh=>nU hP (by rw[A];intro h2;exact c (.inl ⟨h,h2⟩));have q2:wt=false->P.lt 0 (P.da hr)=false:=λh=>nU hP (by rw[v];intro h2;exact c (.inr (.inl ⟨h,h2⟩)));have E:wt=true->fl=true:=λh=>by
  cases fl with
  |true=>rfl
  |false=>exact absurd (.inr (.inr ⟨h,rfl⟩)) c
 have hi2:P.int 2=2:=by rw[int_eq hP];rfl
 have z:(fl=false/\wt=false)\/(fl=true/\wt=false)\/(fl=true/\wt=true):=by
  cases fl<;>cases wt<;>simp at E⊢
 rcases z with⟨hf,hw⟩|⟨hf,hw⟩|⟨hf,hw⟩
 ·have F:=q1 hf;have z2:=q2 hw
  repeat' first|(refine fv hf ?_;cbv)|(refine fv hw ?_;cbv)|(refine fv F ?_;cbv)|(refine fv z2 ?_;cbv)
  intro j;cbv;refine⟨V4 n n1 oh ch cs os fl wt,λy=>[(3,qI y.size),(83,.own 1000083 (some j) 2 2),(84,qI (P.int 2)),(85,qI y.k)],
   λy=>[(1000083,⟨some j,200,2,[[.bool wt,.sl false 3 hr],[.bool fl,.sl false 3 sr]]⟩)],λy=>(2-y.k).toNat,
   ⟨_,a7.refl _,⟨0,_,.inl rfl,⟨λ_=>hn,λh=>absurd h qD⟩,λh=>absurd rfl h,λh=>absurd h qD⟩,⟨rfl,rfl,rfl,rfl,trivial⟩,⟨rfl,trivial⟩⟩,?_⟩
  rintro⟨k,size,h0,⟨hs0,hs1⟩,l,hk2⟩;cbv;refine ab (λh=>?_) (λh=>?_)
  ·have h2:k<P.int 2:=fA hP h;rw[hi2] at h2;have o1:P.fQ 0 k:=iQ hP qW;have o2:P.iw k (P.int 2):=kZ hP (by rw[hi2];exact h2);have o3:P.i64 (P.add k 1):=by rw[add_eq hP];exact ft hP qW
   have hm:(2-P.add k 1).toNat<(2-k).toNat:=by rw[add_eq hP];omega
   by_cases d:k=0
   ·have a:P.row [[.bool wt,.sl false 3 hr],[.bool fl,.sl false 3 sr]] (P.nat k) [.bool wt,.sl false 3 hr]:=fL hP (i:=0) d rfl;have e1:P.add k 1=1:=by rw[add_eq hP,d];rfl
    have hsz:=hs0 d;cbv;refine⟨o1,o2,_,a,?_⟩;cbv;intro u;cbv;refine ab (λhw=>?_) (λhw=>?_)
    ·cbv;refine hc1 _ _ ?_;cbv;refine ab (λh=>?_) (λh=>?_)
     ·have hz:=fE hP h;cbv;exact g _ _ _ (r4 hw hz) (a7.refl _) rfl
     have hz:=fD hP h;cbv;refine ab (λh=>?_) (λh=>?_)
     ·have hy:=fE hP h;rw[hsz] at hy;cbv;exact g _ _ _ (r5 hw hz hy) (a7.refl _) rfl
     have hy:=fD hP h;rw[hsz] at hy;cbv;refine⟨o3,?_⟩;refine⟨_,a7.refl _,⟨P.add k 1,_,.inr (.inl e1),⟨λh=>absurd (e1.symm.trans h) qD,λ_=>?_⟩,λ_ _=>⟨hz,hy⟩,λh=>absurd (e1.symm.trans h) qD⟩,⟨rfl,rfl,rfl,rfl,trivial⟩,⟨rfl,trivial⟩,hm⟩;rw[o,ae hw]
    ·cbv;refine⟨o3,?_⟩;refine⟨_,a7.refl _,⟨P.add k 1,_,.inr (.inl e1),⟨λh=>absurd (e1.symm.trans h) qD,λ_=>?_⟩,λ_ h=>?_,λh=>absurd (e1.symm.trans h) qD⟩,⟨rfl,rfl,rfl,rfl,trivial⟩,⟨rfl,trivial⟩,hm⟩
     ·rw[o,aa (by rw[hw];decide)];exact hsz
     ·rw[hw] at h;cases h
   ·have b:k=1:=by omega
    have a:P.row [[.bool wt,.sl false 3 hr],[.bool fl,.sl false 3 sr]] (P.nat k) [.bool fl,.sl false 3 sr]:=fL hP (i:=1) b rfl;have e1:P.add k 1=2:=by rw[add_eq hP,b];rfl
    have hsz:=hs1 b;have f:=l d;cbv;refine⟨o1,o2,_,a,?_⟩;cbv;intro u;cbv;refine ab (λhw=>?_) (λhw=>?_)
    ·cbv;refine p _ _ ?_;cbv;refine ab (λh=>?_) (λh=>?_)
     ·have hz:=fE hP h;cbv;exact g _ _ _ (r6 f hw hz) (a7.refl _) rfl
     have hz:=fD hP h;cbv;refine ab (λh=>?_) (λh=>?_)
     ·have hy:=fE hP h;rw[hsz] at hy;cbv;exact g _ _ _ (r7 f hw hz hy) (a7.refl _) rfl
     have hy:=fD hP h;rw[hsz] at hy;cbv;refine⟨o3,?_⟩;exact⟨_,a7.refl _,⟨P.add k 1,_,.inr (.inr e1),⟨λh=>absurd (e1.symm.trans h) qD,λh=>absurd (e1.symm.trans h) qD⟩,λ_=>f,λ_ _=>⟨hz,hy⟩⟩,⟨rfl,rfl,rfl,rfl,trivial⟩,⟨rfl,trivial⟩,hm⟩
    ·cbv;refine⟨o3,?_⟩;exact⟨_,a7.refl _,⟨P.add k 1,_,.inr (.inr e1),⟨λh=>absurd (e1.symm.trans h) qD,λh=>absurd (e1.symm.trans h) qD⟩,λ_=>f,λ_ h=>by rw[hw] at h;cases h⟩,⟨rfl,rfl,rfl,rfl,trivial⟩,⟨rfl,trivial⟩,hm⟩
  ·have h2:¬k<P.int 2:=fg hP h;rw[hi2] at h2;have m:k=2:=by omega
   cbv;exact g _ _ _ (r8 (l qW) (hk2 m)) (a7.refl _) rfl
 ·have z2:=q2 hw
  repeat' first|(refine eY hf ?_;cbv)|(refine fv hw ?_;cbv)|(refine fv z2 ?_;cbv)
  intro j;cbv;refine⟨V4 n n1 oh ch cs os fl wt,λy=>[(3,qI y.size),(83,.own 1000083 (some j) 2 2),(84,qI (P.int 2)),(85,qI y.k)],
   λy=>[(1000083,⟨some j,200,2,[[.bool wt,.sl false 3 hr],[.bool fl,.sl false 3 sr]]⟩)],λy=>(2-y.k).toNat,
   ⟨_,a7.refl _,⟨0,_,.inl rfl,⟨λ_=>hn,λh=>absurd h qD⟩,λh=>absurd rfl h,λh=>absurd h qD⟩,⟨rfl,rfl,rfl,rfl,trivial⟩,⟨rfl,trivial⟩⟩,?_⟩
  rintro⟨k,size,h0,⟨hs0,hs1⟩,l,hk2⟩;cbv;refine ab (λh=>?_) (λh=>?_)
  ·have h2:k<P.int 2:=fA hP h;rw[hi2] at h2;have o1:P.fQ 0 k:=iQ hP qW;have o2:P.iw k (P.int 2):=kZ hP (by rw[hi2];exact h2);have o3:P.i64 (P.add k 1):=by rw[add_eq hP];exact ft hP qW
   have hm:(2-P.add k 1).toNat<(2-k).toNat:=by rw[add_eq hP];omega
   by_cases d:k=0
   ·have a:P.row [[.bool wt,.sl false 3 hr],[.bool fl,.sl false 3 sr]] (P.nat k) [.bool wt,.sl false 3 hr]:=fL hP (i:=0) d rfl;have e1:P.add k 1=1:=by rw[add_eq hP,d];rfl
    have hsz:=hs0 d;cbv;refine⟨o1,o2,_,a,?_⟩;cbv;intro u;cbv;refine ab (λhw=>?_) (λhw=>?_)
    ·cbv;refine hc1 _ _ ?_;cbv;refine ab (λh=>?_) (λh=>?_)
     ·have hz:=fE hP h;cbv;exact g _ _ _ (r4 hw hz) (a7.refl _) rfl
     have hz:=fD hP h;cbv;refine ab (λh=>?_) (λh=>?_)
     ·have hy:=fE hP h;rw[hsz] at hy;cbv;exact g _ _ _ (r5 hw hz hy) (a7.refl _) rfl
     have hy:=fD hP h;rw[hsz] at hy;cbv;refine⟨o3,?_⟩;refine⟨_,a7.refl _,⟨P.add k 1,_,.inr (.inl e1),⟨λh=>absurd (e1.symm.trans h) qD,λ_=>?_⟩,λ_ _=>⟨hz,hy⟩,λh=>absurd (e1.symm.trans h) qD⟩,⟨rfl,rfl,rfl,rfl,trivial⟩,⟨rfl,trivial⟩,hm⟩;rw[o,ae hw]
    ·cbv;refine⟨o3,?_⟩;refine⟨_,a7.refl _,⟨P.add k 1,_,.inr (.inl e1),⟨λh=>absurd (e1.symm.trans h) qD,λ_=>?_⟩,λ_ h=>?_,λh=>absurd (e1.symm.trans h) qD⟩,⟨rfl,rfl,rfl,rfl,trivial⟩,⟨rfl,trivial⟩,hm⟩
     ·rw[o,aa (by rw[hw];decide)];exact hsz
     ·rw[hw] at h;cases h
   ·have b:k=1:=by omega
    have a:P.row [[.bool wt,.sl false 3 hr],[.bool fl,.sl false 3 sr]] (P.nat k) [.bool fl,.sl false 3 sr]:=fL hP (i:=1) b rfl;have e1:P.add k 1=2:=by rw[add_eq hP,b];rfl
    have hsz:=hs1 b;have f:=l d;cbv;refine⟨o1,o2,_,a,?_⟩;cbv;intro u;cbv;refine ab (λhw=>?_) (λhw=>?_)
    ·cbv;refine p _ _ ?_;cbv;refine ab (λh=>?_) (λh=>?_)
     ·have hz:=fE hP h;cbv;exact g _ _ _ (r6 f hw hz) (a7.refl _) rfl
     have hz:=fD hP h;cbv;refine ab (λh=>?_) (λh=>?_)
     ·have hy:=fE hP h;rw[hsz] at hy;cbv;exact g _ _ _ (r7 f hw hz hy) (a7.refl _) rfl
     have hy:=fD hP h;rw[hsz] at hy;cbv;refine⟨o3,?_⟩;exact⟨_,a7.refl _,⟨P.add k 1,_,.inr (.inr e1),⟨λh=>absurd (e1.symm.trans h) qD,λh=>absurd (e1.symm.trans h) qD⟩,λ_=>f,λ_ _=>⟨hz,hy⟩⟩,⟨rfl,rfl,rfl,rfl,trivial⟩,⟨rfl,trivial⟩,hm⟩
    ·cbv;refine⟨o3,?_⟩;exact⟨_,a7.refl _,⟨P.add k 1,_,.inr (.inr e1),⟨λh=>absurd (e1.symm.trans h) qD,λh=>absurd (e1.symm.trans h) qD⟩,λ_=>f,λ_ h=>by rw[hw] at h;cases h⟩,⟨rfl,rfl,rfl,rfl,trivial⟩,⟨rfl,trivial⟩,hm⟩
  ·have h2:¬k<P.int 2:=fg hP h;rw[hi2] at h2;have m:k=2:=by omega
   cbv;exact g _ _ _ (r8 (l qW) (hk2 m)) (a7.refl _) rfl
 ·repeat' first|(refine eY hf ?_;cbv)|(refine eY hw ?_;cbv)
  intro j;cbv;refine⟨V4 n n1 oh ch cs os fl wt,λy=>[(3,qI y.size),(83,.own 1000083 (some j) 2 2),(84,qI (P.int 2)),(85,qI y.k)],
   λy=>[(1000083,⟨some j,200,2,[[.bool wt,.sl false 3 hr],[.bool fl,.sl false 3 sr]]⟩)],λy=>(2-y.k).toNat,
   ⟨_,a7.refl _,⟨0,_,.inl rfl,⟨λ_=>hn,λh=>absurd h qD⟩,λh=>absurd rfl h,λh=>absurd h qD⟩,⟨rfl,rfl,rfl,rfl,trivial⟩,⟨rfl,trivial⟩⟩,?_⟩
  rintro⟨k,size,h0,⟨hs0,hs1⟩,l,hk2⟩;cbv;refine ab (λh=>?_) (λh=>?_)
  ·have h2:k<P.int 2:=fA hP h;rw[hi2] at h2;have o1:P.fQ 0 k:=iQ hP qW;have o2:P.iw k (P.int 2):=kZ hP (by rw[hi2];exact h2);have o3:P.i64 (P.add k 1):=by rw[add_eq hP];exact ft hP qW
   have hm:(2-P.add k 1).toNat<(2-k).toNat:=by rw[add_eq hP];omega
   by_cases d:k=0
   ·have a:P.row [[.bool wt,.sl false 3 hr],[.bool fl,.sl false 3 sr]] (P.nat k) [.bool wt,.sl false 3 hr]:=fL hP (i:=0) d rfl;have e1:P.add k 1=1:=by rw[add_eq hP,d];rfl
    have hsz:=hs0 d;cbv;refine⟨o1,o2,_,a,?_⟩;cbv;intro u;cbv;refine ab (λhw=>?_) (λhw=>?_)
    ·cbv;refine hc1 _ _ ?_;cbv;refine ab (λh=>?_) (λh=>?_)
     ·have hz:=fE hP h;cbv;exact g _ _ _ (r4 hw hz) (a7.refl _) rfl
     have hz:=fD hP h;cbv;refine ab (λh=>?_) (λh=>?_)
     ·have hy:=fE hP h;rw[hsz] at hy;cbv;exact g _ _ _ (r5 hw hz hy) (a7.refl _) rfl
     have hy:=fD hP h;rw[hsz] at hy;cbv;refine⟨o3,?_⟩;refine⟨_,a7.refl _,⟨P.add k 1,_,.inr (.inl e1),⟨λh=>absurd (e1.symm.trans h) qD,λ_=>?_⟩,λ_ _=>⟨hz,hy⟩,λh=>absurd (e1.symm.trans h) qD⟩,⟨rfl,rfl,rfl,rfl,trivial⟩,⟨rfl,trivial⟩,hm⟩;rw[o,ae hw]
    ·cbv;refine⟨o3,?_⟩;refine⟨_,a7.refl _,⟨P.add k 1,_,.inr (.inl e1),⟨λh=>absurd (e1.symm.trans h) qD,λ_=>?_⟩,λ_ h=>?_,λh=>absurd (e1.symm.trans h) qD⟩,⟨rfl,rfl,rfl,rfl,trivial⟩,⟨rfl,trivial⟩,hm⟩
     ·rw[o,aa (by rw[hw];decide)];exact hsz
     ·rw[hw] at h;cases h
   ·have b:k=1:=by omega
    have a:P.row [[.bool wt,.sl false 3 hr],[.bool fl,.sl false 3 sr]] (P.nat k) [.bool fl,.sl false 3 sr]:=fL hP (i:=1) b rfl;have e1:P.add k 1=2:=by rw[add_eq hP,b];rfl
    have hsz:=hs1 b;have f:=l d;cbv;refine⟨o1,o2,_,a,?_⟩;cbv;intro u;cbv;refine ab (λhw=>?_) (λhw=>?_)
    ·cbv;refine p _ _ ?_;cbv;refine ab (λh=>?_) (λh=>?_)
     ·have hz:=fE hP h;cbv;exact g _ _ _ (r6 f hw hz) (a7.refl _) rfl
     have hz:=fD hP h;cbv;refine ab (λh=>?_) (λh=>?_)
     ·have hy:=fE hP h;rw[hsz] at hy;cbv;exact g _ _ _ (r7 f hw hz hy) (a7.refl _) rfl
     have hy:=fD hP h;rw[hsz] at hy;cbv;refine⟨o3,?_⟩;exact⟨_,a7.refl _,⟨P.add k 1,_,.inr (.inr e1),⟨λh=>absurd (e1.symm.trans h) qD,λh=>absurd (e1.symm.trans h) qD⟩,λ_=>f,λ_ _=>⟨hz,hy⟩⟩,⟨rfl,rfl,rfl,rfl,trivial⟩,⟨rfl,trivial⟩,hm⟩
    ·cbv;refine⟨o3,?_⟩;exact⟨_,a7.refl _,⟨P.add k 1,_,.inr (.inr e1),⟨λh=>absurd (e1.symm.trans h) qD,λh=>absurd (e1.symm.trans h) qD⟩,λ_=>f,λ_ h=>by rw[hw] at h;cases h⟩,⟨rfl,rfl,rfl,rfl,trivial⟩,⟨rfl,trivial⟩,hm⟩
  ·have h2:¬k<P.int 2:=fg hP h;rw[hi2] at h2;have m:k=2:=by omega
   cbv;exact g _ _ _ (r8 (l qW) (hk2 m)) (a7.refl _) rfl
theorem tm(c:Client)(hs:c.eZ.length<=maxLen)(hh:c.held.length<=maxLen):Spec Tryz.prog 99 [.agg (ef c)] Hp.emp (Is (.int .i64 (jA c))):=
 eW gY Fs [.int .i64 (jA c)] (.int _ _) λR a=>Ft ca rfl _ _ c.who c.rev c.seq c.text.length c.eZ.length c.held.length (lO c.eZ).1 (lO c.eZ).2.1 (lO c.eZ).2.2 (lO c.held).1 (lO c.held).2.1 (lO c.held).2.2 c.eT c.waiting c.text (c.eZ.map a6) (c.held.map a6) rfl (by show((c.eZ.map a6).length:Int)=_;simp) (by show((c.held.map a6).length:Int)=_;simp)
  (iV (oM c.held hh) rfl) (iV (oM c.eZ hs) rfl) (jA c) _ rfl (Ue _ _ _ _ _ _ _ _ _ _ _ _ _ _) R λs s' x h he hr=>by subst h;exact a s s' he hr
def DH:AC:=qr [qo 1 (.box 64 8 (.t 0)),qz 2 0] (qq (qr [qf 6 0 1,ql 7 6,qc 8 .lss 7 0,qm 9 8,qg 10 9 false (.faddr 0 (.t 1)),qg 11 9 false (.load1 (.t 10)),qg 12 9 false (.bin .gtr (.t 11) (qk 7)),qo 13 (.pick (.t 9) (.c (.bool true)) (.t 12)),qm 14 13,qg 15 14 false (.faddr 1 (.t 1)),qg 16 14 false (.load1 (.t 15)),qg 17 14 false (.faddr 2 (.t 1)),qg 18 14 false (.load1 (.t 17)),qg 19 14 false (.mm false (.t 16) (.t 18)),qg 20 14 false (.bin .lss (.t 19) (qk 0)),qo 21 (.pick (.t 14) (.c (.bool true)) (.t 20)),qm 22 21,qg 23 22 false (.faddr 1 (.t 1)),qg 24 22 false (.load1 (.t 23)),qg 25 22 false (.faddr 2 (.t 1)),qg 26 22 false (.load1 (.t 25)),qg 27 22 false (.mm true (.t 24) (.t 26)),qg 28 22 false (.bin .gtr (.t 27) (qk 2147483647)),qo 29 (.pick (.t 22) (.c (.bool true)) (.t 28))] (qu 29 (qr [qz 2 1] .ret) .skip)) (qq (qr [qf 30 3 1,ql 31 30,qo 32 (.len true (.t 31)),qc 33 .gtr 32 500] (qu 33 (qr [qz 2 2] .ret) .skip)) (qq (qr [qf 34 5 1,ql 35 34,qo 36 (.len false (.t 35)),qc 37 .gtr 36 0,qm 38 37,qg 39 38 true (.faddr 4 (.t 1)),qg 40 38 true (.load1 (.t 39)),qg 41 38 true (.not (.t 40)),qo 42 (.pick (.t 38) (.t 41) (.c (.bool false))),qm 43 42,qg 44 43 false (.faddr 7 (.t 1)),qg 45 43 false (.load1 (.t 44)),qg 46 43 false (.len false (.t 45)),qg 47 43 false (.bin .gtr (.t 46) (qk 0)),qg 48 43 false (.mov (.t 47)),qg 49 48 true (.faddr 6 (.t 1)),qg 50 48 true (.load1 (.t 49)),qg 51 48 true (.not (.t 50)),qg 52 43 false (.pick (.t 48) (.t 51) (.c (.bool false))),qo 53 (.pick (.t 43) (.c (.bool true)) (.t 52)),qm 54 53,qg 55 54 false (.faddr 6 (.t 1)),qg 56 54 false (.load1 (.t 55)),qg 57 54 false (.mov (.t 56)),qg 58 57 true (.faddr 4 (.t 1)),qg 59 57 true (.load1 (.t 58)),qg 60 57 true (.not (.t 59)),qg 61 54 false (.pick (.t 57) (.t 60) (.c (.bool false))),qo 62 (.pick (.t 54) (.c (.bool true)) (.t 61))] (qu 62 (qr [qz 2 3] .ret) .skip)) (qr [qf 63 3 1,ql 64 63,qo 65 (.len true (.t 64)),qm 3 65] (qq (qr [qf 66 6 1,ql 67 66] (qu 67 (qq (qr [qf 68 7 1,ql 69 68,qa 70 89 [.t 69],qm 4 70] (qr [qm 71 4,qc 72 .neq 71 0] (qu 72 (qr [qm 73 4,qm 2 73] .ret) .skip))) (qq (qr [qf 74 7 1,ql 75 74,qa 76 130 [.t 75],qm 77 3,qb 78 .neq 76 77] (qu 78 (qr [qz 2 4] .ret) .skip)) (qR [qf 79 7 1,ql 80 79,qa 81 90 [.t 80],qm 3 81]))) .skip)) (qq (qr [qf 82 4 1,ql 83 82] (qu 83 (qq (qr [qf 84 5 1,ql 85 84,qa 86 89 [.t 85],qm 5 86] (qr [qm 87 5,qc 88 .neq 87 0] (qu 88 (qr [qm 89 5,qm 2 89] .ret) .skip))) (qr [qf 90 5 1,ql 91 90,qa 92 130 [.t 91],qm 93 3,qb 94 .neq 92 93] (qu 94 (qr [qz 2 4] .ret) .skip))) .skip)) (qr [qz 2 0] .ret)))))))
theorem N8:fo Tryz.prog 103 Tryz.f103 DH [.t 2] 1 eV:=⟨Tryz.func103,by decide+kernel,by kernel_rfl,by kernel_rfl,by decide+kernel⟩
theorem N9(P:Prim)(hP:P=ca)(T z:cp)(w r q n ns nh is os cs ih oh ch:Int)(fl wt:Bool)(s:BS)(sr hr:List (List V))(hn:P.eP s=n)(k:P.da sr=ns)(l:P.da hr=nh)
  (m:fZ T 89 [.sl false 3 hr] (qI ch))(f:fZ T 89 [.sl false 3 sr] (qI cs))(g:ch=0->fZ T 130 [.sl false 3 hr] (qI oh))(i:ch=0->fZ T 90 [.sl false 3 hr] (qI ih))(c:cs=0->fZ T 130 [.sl false 3 sr] (qI os))
  (res:Int)(u:RQ w r q n ns nh is os cs ih oh ch fl wt res)
  (R:S->Prop)(b:∀s s' x,x=res->a7 s s'->hX [.t 2] [qI x] s'->R s):fX P T z DH (S0 [.agg [qI w,qI r,qI q,.str s,.bool fl,.sl false 3 sr,.bool wt,.sl false 3 hr]] Hp.emp) R (λ_ _=>False) R:=by
 obtain⟨r1,r2,r3,r4,r5,r6,r7,r8⟩:=u;cbv;intro A;cbv
 by_cases hb1:kj w r q
 ·have e:=r1 hb1;clear r1 r2 r3 r4 r5 r6 r7 r8 m f g i c;unfold kj at hb1;refine ab (λh=>?_) (λh=>?_)
  ·cbv;exact b _ _ _ e (a7.refl _) rfl
  have n1:=fg hP h;cbv;refine ab (λh=>?_) (λh=>?_)
  ·cbv;exact b _ _ _ e (a7.refl _) rfl
  have n2:=fg hP h;cbv;refine ab (λh=>?_) (λh=>?_)
  ·cbv;exact b _ _ _ e (a7.refl _) rfl
  have B:¬P.mn r q<0:=fg hP h;rw[CQ hP] at B;cbv;refine ab (λh=>?_) (λh=>?_)
  ·cbv;exact b _ _ _ e (a7.refl _) rfl
  have C:¬2147483647<P.mx r q:=fg hP h;rw[OW hP] at C;omega
 replace r2:=r2 hb1
 replace r3:=r3 hb1
 replace r4:=r4 hb1
 replace r5:=r5 hb1
 replace r6:=r6 hb1
 replace r7:=r7 hb1
 replace r8:=r8 hb1
 unfold kj at hb1;have m1:P.lt (P.mn r q) 0=false:=nU hP (by rw[CQ hP];omega);have m2:P.lt 2147483647 (P.mx r q)=false:=nU hP (by rw[OW hP];omega);refine fv (nU hP qW) ?_;cbv;refine fv (nU hP qW) ?_;cbv;refine fv m1 ?_;cbv;refine fv m2 ?_;cbv;clear r1;refine ab (λh=>?_) (λh=>?_)
 ·have h5:500<P.eP s:=fA hP h;rw[hn] at h5;cbv;exact b _ _ _ (r2 h5) (a7.refl _) rfl
 have h5:¬500<P.eP s:=fg hP h;rw[hn] at h5
 replace r3:=r3 h5
 replace r4:=r4 h5
 replace r5:=r5 h5
 replace r6:=r6 h5
 replace r7:=r7 h5
 replace r8:=r8 h5
 clear r2 h;cbv
 by_cases a:ji ns nh fl wt
 ·have e:=r3 a;clear r3 r4 r5 r6 r7 r8 m f g i c;have p1:0<ns->P.lt 0 (P.da sr)=true:=λh=>SQ hP (by rw[k];exact h);have p2:¬0<ns->P.lt 0 (P.da sr)=false:=λh=>nU hP (by rw[k];exact h);have v:0<nh->P.lt 0 (P.da hr)=true:=λh=>SQ hP (by rw[l];exact h);have y:¬0<nh->P.lt 0 (P.da hr)=false:=λh=>nU hP (by rw[l];exact h);have hx:(fl=true\/fl=false)/\(wt=true\/wt=false):=by cases fl<;>cases wt<;>simp
  obtain⟨hf|hf,hw|hw⟩:=hx
  all_goals
   by_cases g1:0<ns
   ·by_cases g2:0<nh
    all_goals
     first
     |(have j:=p1 g1;have z2:=v g2
       repeat' first|(refine eY hf ?_;cbv)|(refine fv hf ?_;cbv)|(refine eY hw ?_;cbv)|(refine fv hw ?_;cbv)|(refine eY j ?_;cbv)|(refine eY z2 ?_;cbv)
       first|(exact b _ _ _ e (a7.refl _) rfl)|(exfalso;unfold ji at a;rw[hf,hw] at a;simp at a;omega)|(exfalso;unfold ji at a;rw[hf,hw] at a;simp at a;done))
     |(have j:=p1 g1;have z2:=y g2
       repeat' first|(refine eY hf ?_;cbv)|(refine fv hf ?_;cbv)|(refine eY hw ?_;cbv)|(refine fv hw ?_;cbv)|(refine eY j ?_;cbv)|(refine fv z2 ?_;cbv)
       first|(exact b _ _ _ e (a7.refl _) rfl)|(exfalso;unfold ji at a;rw[hf,hw] at a;simp at a;omega)|(exfalso;unfold ji at a;rw[hf,hw] at a;simp at a;done))
   ·by_cases g2:0<nh
    all_goals
     first
     |(have j:=p2 g1;have z2:=v g2
       repeat' first|(refine eY hf ?_;cbv)|(refine fv hf ?_;cbv)|(refine eY hw ?_;cbv)|(refine fv hw ?_;cbv)|(refine fv j ?_;cbv)|(refine eY z2 ?_;cbv)
       first|(exact b _ _ _ e (a7.refl _) rfl)|(exfalso;unfold ji at a;rw[hf,hw] at a;simp at a;omega)|(exfalso;unfold ji at a;rw[hf,hw] at a;simp at a;done))
     |(have j:=p2 g1;have z2:=y g2
       repeat' first|(refine eY hf ?_;cbv)|(refine fv hf ?_;cbv)|(refine eY hw ?_;cbv)|(refine fv hw ?_;cbv)|(refine fv j ?_;cbv)|(refine fv z2 ?_;cbv)
       first|(exact b _ _ _ e (a7.refl _) rfl)|(exfalso;unfold ji at a;rw[hf,hw] at a;simp at a;omega)|(exfalso;unfold ji at a;rw[hf,hw] at a;simp at a;done))
 replace r4:=r4 a
 replace r5:=r5 a
 replace r6:=r6 a
 replace r7:=r7 a
 replace r8:=r8 a
 clear r3;have q1:fl=false->P.lt 0 (P.da sr)=false:=λh=>nU hP (by rw[k];intro h2;exact a (.inl ⟨h,h2⟩));have q2:wt=false->P.lt 0 (P.da hr)=false:=λh=>nU hP (by rw[l];intro h2;exact a (.inr (.inl ⟨h,h2⟩)));have D:wt=true->fl=true:=λh=>by
  cases fl with
  |true=>rfl
  |false=>exact absurd (.inr (.inr ⟨h,rfl⟩)) a
 have o:(fl=false/\wt=false)\/(fl=true/\wt=false)\/(fl=true/\wt=true):=by
  cases fl<;>cases wt<;>simp at D⊢
 rcases o with⟨hf,hw⟩|⟨hf,hw⟩|⟨hf,hw⟩
 ·have j:=q1 hf;have z2:=q2 hw
  repeat' first|(refine fv hf ?_;cbv)|(refine fv hw ?_;cbv)|(refine fv j ?_;cbv)|(refine fv z2 ?_;cbv)
  exact b _ _ _ (r8 (λh=>by rw[hw] at h;cases h) (λh=>by rw[hf] at h;cases h)) (a7.refl _) rfl
 ·have z2:=q2 hw;have d:wt=true->ch=0/\oh=n:=λh=>by rw[hw] at h;cases h
  have e1:(if wt then ih else n)=n:=aa (by rw[hw];decide);rw[e1] at r7 r8
  by_cases g1:P.lt 0 (P.da sr)=true
  ·repeat' first|(refine eY g1 ?_;cbv)|(refine eY hf ?_;cbv)|(refine fv hw ?_;cbv)|(refine fv z2 ?_;cbv)
   refine f _ _ ?_;cbv;refine ab (λh=>?_) (λh=>?_)
   ·have hz:=fE hP h;cbv;exact b _ _ _ (r6 d hf hz) (a7.refl _) rfl
   have hz:=fD hP h;have f2:=c hz;clear c g i;cbv;refine f2 _ _ ?_;cbv;refine ab (λh=>?_) (λh=>?_)
   ·have hy:os≠P.eP s:=fE hP h;rw[hn] at hy;cbv;exact b _ _ _ (r7 d hf hz hy) (a7.refl _) rfl
   have hy:os=P.eP s:=fD hP h;rw[hn] at hy;cbv;exact b _ _ _ (r8 d (λ_=>⟨hz,hy⟩)) (a7.refl _) rfl
  ·rw[Bool.not_eq_true] at g1
   repeat' first|(refine fv g1 ?_;cbv)|(refine eY hf ?_;cbv)|(refine fv hw ?_;cbv)|(refine fv z2 ?_;cbv)
   refine f _ _ ?_;cbv;refine ab (λh=>?_) (λh=>?_)
   ·have hz:=fE hP h;cbv;exact b _ _ _ (r6 d hf hz) (a7.refl _) rfl
   have hz:=fD hP h;have f2:=c hz;clear c g i;cbv;refine f2 _ _ ?_;cbv;refine ab (λh=>?_) (λh=>?_)
   ·have hy:os≠P.eP s:=fE hP h;rw[hn] at hy;cbv;exact b _ _ _ (r7 d hf hz hy) (a7.refl _) rfl
   have hy:os=P.eP s:=fD hP h;rw[hn] at hy;cbv;exact b _ _ _ (r8 d (λ_=>⟨hz,hy⟩)) (a7.refl _) rfl
 ·have e1:(if wt then ih else n)=ih:=ae hw;rw[e1] at r7 r8;cases g1:P.lt 0 (P.da sr)<;>cases g2:P.lt 0 (P.da hr)
  all_goals
   repeat' first|(refine eY g1 ?_;cbv)|(refine fv g1 ?_;cbv)|(refine eY g2 ?_;cbv)|(refine fv g2 ?_;cbv)|(refine eY hf ?_;cbv)|(refine eY hw ?_;cbv)
   refine m _ _ ?_;cbv;refine ab (λh=>?_) (λh=>?_)
   ·have hz:=fE hP h;cbv;exact b _ _ _ (r4 hw hz) (a7.refl _) rfl
   have hz:=fD hP h;have f1:=g hz;have f2:=i hz;cbv;refine f1 _ _ ?_;cbv;refine ab (λh=>?_) (λh=>?_)
   ·have hy:oh≠P.eP s:=fE hP h;rw[hn] at hy;cbv;exact b _ _ _ (r5 hw hz hy) (a7.refl _) rfl
   have hy:oh=P.eP s:=fD hP h;rw[hn] at hy;cbv;refine f2 _ _ ?_;cbv
   repeat' first|(refine eY hf ?_;cbv)
   refine f _ _ ?_;cbv;refine ab (λh=>?_) (λh=>?_)
   ·have hz2:=fE hP h;cbv;exact b _ _ _ (r6 (λ_=>⟨hz,hy⟩) hf hz2) (a7.refl _) rfl
   have hz2:=fD hP h;have f3:=c hz2;cbv;refine f3 _ _ ?_;cbv;refine ab (λh=>?_) (λh=>?_)
   ·have p:=fE hP h;cbv;exact b _ _ _ (r7 (λ_=>⟨hz,hy⟩) hf hz2 p) (a7.refl _) rfl
   have p:=fD hP h;cbv;exact b _ _ _ (r8 (λ_=>⟨hz,hy⟩) (λ_=>⟨hz2,p⟩)) (a7.refl _) rfl
theorem l4{d:List Part}:(lO d).2.2=cF d/\(cF d=0->(lO d).1=jy d/\(lO d).2.1=gX d):=by
 unfold lO
 by_cases h:cF d=0
 ·rw[ae h];exact⟨h.symm,λ_=>⟨rfl,rfl⟩⟩
 ·rw[aa h];exact⟨rfl,λg=>absurd g h⟩
theorem DI(c:Client)(hs:c.eZ.length<=maxLen)(hh:c.held.length<=maxLen):Spec Tryz.prog 103 [.agg (ef c)] Hp.emp (Is (.int .i64 (jA c))):=
 eW gY N8 [.int .i64 (jA c)] (.int _ _) λR a=>N9 ca rfl _ _ c.who c.rev c.seq c.text.length c.eZ.length c.held.length (lO c.eZ).1 (lO c.eZ).2.1 (lO c.eZ).2.2 (lO c.held).1 (lO c.held).2.1 (lO c.held).2.2 c.eT c.waiting c.text (c.eZ.map a6) (c.held.map a6) rfl (by show((c.eZ.map a6).length:Int)=_;simp) (by show((c.held.map a6).length:Int)=_;simp)
  (by rw[l4.1];exact iV (gU c.held hh) rfl) (by rw[l4.1];exact iV (gU c.eZ hs) rfl)
  (λh=>by rw[l4.1] at h;rw[(l4.2 h).2];exact iV (rk c.held (dv h).1 (dv h).2.1) rfl) (λh=>by rw[l4.1] at h;rw[(l4.2 h).1];exact iV (lI c.held (dv h).1 (dv h).2.1) rfl)
  (λh=>by rw[l4.1] at h;rw[(l4.2 h).2];exact iV (rk c.eZ (dv h).1 (dv h).2.1) rfl)
  (jA c) (Ue _ _ _ _ _ _ _ _ _ _ _ _ _ _) R λs s' x h he hr=>by subst h;exact a s s' he hr
def Kj(rv:List RV)(b w q:Int)(rows:List (List V))(e:Int)(R:S->Prop):Prop:=
 (∀(s s':S)(x1 x2 x3 e2:Int),a7 s s'->hX rv [.agg [.int .i64 x1,.int .i64 x2,.int .i64 x3,.nilsl],.int .i64 e2] s'->x1=b/\x2=w/\x3=q/\rows=[]/\e2=e->R s)/\
 (∀(s s':S)(x1 x2 x3 e2:Int)(k:Nat)(β:Option Nat)(t n:Nat)(w1:List (List V)),a7 s s'->hX rv [.agg [.int .i64 x1,.int .i64 x2,.int .i64 x3,.own k β 3 n],.int .i64 e2] s'->s'.h k=some ⟨β,t,3,w1⟩->x1=b/\x2=w/\x3=q/\n=rows.length/\w1=rows/\e2=e->R s)
theorem Fu{rv:List RV}{b w q:Int}{d:List Part}{e:Int}{R:S->Prop}(a:∀s s',a7 s s'->zk rv (.tup [.agg [.int .i64 b,.int .i64 w,.int .i64 q,fc d],.int .i64 e]) s'->R s):Kj rv b w q (d.map a6) e R:=by
 refine⟨?_,?_⟩
 ·rintro s s' x1 x2 x3 e2 he hr ⟨rfl,rfl,rfl,h4,rfl⟩;refine a s s' he (eS _ _ _ (λx hx=>?_) hr);subst hx;unfold fc;rw[h4];exact .ir (.ga (.same _ (.int _ _)) (.ga (.same _ (.int _ _)) (.ga (.same _ (.int _ _)) (.ga (.nilsl 3) .ry)))) (.ir (.same _ (.int _ _)) .pk)
 ·rintro s s' x1 x2 x3 e2 k β t n w1 he hr g1 ⟨rfl,rfl,rfl,rfl,rfl,rfl⟩;refine a s s' he (eS _ _ _ (λx hx=>?_) hr);subst hx;exact .ir (.ga (.same _ (.int _ _)) (.ga (.same _ (.int _ _)) (.ga (.same _ (.int _ _)) (.ga (.rows g1 rfl rfl rfl (ly _) (ff _)) .ry)))) (.ir (.same _ (.int _ _)) .pk)
def ud(c:Client):od×Int:=if jA c≠0 then(⟨0,0,0,[]⟩,jA c) else if c.eT=false then(⟨0,0,0,[]⟩,7) else(⟨c.rev,c.who,c.seq,c.eZ⟩,0)
def DJ:AC:=qr [qo 1 (.box 64 8 (.t 0)),qo 2 (.alloc 95 OL),qz 3 0] (qq (qr [qd 5 8 1,qa 6 99 [.t 5],qm 4 6] (qr [qm 7 4,qc 8 .neq 7 0] (qu 8 (qr [qo 9 (.build OL []),qm 10 4,qs 4 2 9,qm 3 10] .ret) .skip))) (qq (qr [qf 11 4 1,ql 12 11,qo 13 (.not (.t 12))] (qu 13 (qr [qo 14 (.build OL []),qs 4 2 14,qz 3 7] .ret) .skip)) (qq (.region true [qf 15 1 1,ql 16 15,qf 17 0 1,ql 18 17,qf 19 2 1,ql 20 19,qf 21 5 1,ql 22 21,qo 23 (.append 115 3 32 (.c (.slice none 0 0)) (.t 22)),qo 24 (.build OL [(0,1,(.t 16)),(1,1,(.t 18)),(2,1,(.t 20)),(3,1,(.t 23))]),qs 4 2 24,qz 3 0]) .ret)))
theorem Oa:fo Tryz.prog 102 Tryz.f102 DJ [.cn 2 4,.t 3] 1 eV:=⟨Tryz.func102,by decide+kernel,by kernel_rfl,by kernel_rfl,by decide+kernel⟩
theorem Oc(P:Prim)(hP:P=ca)(T d:cp)(w r q c:Int)(fl wt:Bool)(s:BS)(sr hr:List (List V))(hlen:c=0->(sr.length:Int)<=100000)
  (hc1:fZ T 99 [.agg [qI w,qI r,qI q,.str s,.bool fl,.sl false 3 sr,.bool wt,.sl false 3 hr]] (qI c))
  (b1 b2 b3 e:Int)(mr:List (List V))(g1:c≠0->0=b1/\0=b2/\0=b3/\mr=[]/\c=e)(g2:c=0->fl=false->0=b1/\0=b2/\0=b3/\mr=[]/\7=e)(g3:c=0->fl=true->r=b1/\w=b2/\q=b3/\sr=mr/\0=e)
  (R:S->Prop)(a:Kj [.cn 2 4,.t 3] b1 b2 b3 mr e R):fX P T d DJ (S0 [.agg [qI w,qI r,qI q,.str s,.bool fl,.sl false 3 sr,.bool wt,.sl false 3 hr]] Hp.emp) R (λ_ _=>False) R:=by
 cbv;intro f;cbv;intro g;cbv;refine hc1 _ _ ?_;clear hc1;cbv;refine ab (λh=>?_) (λh=>?_)
 ·have hz:=fE hP h;cbv
  repeat' first|(refine And.intro rfl ?_;cbv)
  exact a.1 _ _ _ _ _ _ (a7.refl _) ⟨rfl,rfl,aj 0,ag 4,rfl⟩ (g1 hz)
 have hz:=fD hP h;have hl:=hlen hz;have i:P.bytes (P.da sr) 32:=by subst hP;show(sr.length:Int)*32<=_;((try simp only[nc] at*);omega)
 cbv;refine ab (λhf=>?_) (λhf=>?_)
 ·obtain⟨q1,q2,j,b,k⟩:=g3 hz hf;cbv
  repeat' first|(refine And.intro (by assumption) ?_;cbv)|(intro β;cbv)
  exact a.2 _ _ _ _ _ _ _ _ _ _ _ (a7.refl _) ⟨rfl,rfl,aj 0,ag 4,rfl⟩ rfl ⟨q1,q2,j,by rw[<-b];subst hP;rfl,b,k⟩
 ·cbv;exact a.1 _ _ _ _ _ _ (a7.refl _) ⟨rfl,rfl,aj 0,ag 4,rfl⟩ (g2 hz hf)
theorem sy{w r q n ns nh is os cs ih oh ch:Int}{fl wt:Bool}(h:Fq w r q n ns nh is os cs ih oh ch fl wt=0):
  ¬kj w r q/\n<=500/\¬ji ns nh fl wt/\(wt=true->ch=0/\oh=n)/\(fl=true->cs=0/\os=(if wt then ih else n)):=by
 unfold Fq at h
 split at h
 ·contradiction
 ·split at h
  ·contradiction
  ·split at h
   ·contradiction
   ·refine⟨by assumption,qW,by assumption,?_,?_⟩<;>grind
theorem uE{c:Client}(h:jA c=0):(c.eT=true->cF c.eZ=0)/\(c.eT=false->c.eZ=[])/\(c.waiting=true->cF c.held=0)/\(c.waiting=false->c.held=[])/\c.text.length<=500:=by
 obtain⟨h1,h2,h3,h4,h5⟩:=sy h;rw[l4.1] at h4 h5;unfold ji at h3;refine⟨λhf=>(h5 hf).1,λhf=>?_,λhw=>(h4 hw).1,λhw=>?_,qW⟩
 ·have:¬(0:Int)<c.eZ.length:=λh=>h3 (.inl ⟨hf,h⟩);exact aq qW
 ·have:¬(0:Int)<c.held.length:=λh=>h3 (.inr (.inl ⟨hw,h⟩));exact aq qW
theorem oZ{c:Client}(h:jA c=0):c.eZ.length<=1600:=by
 obtain⟨h1,h2,_⟩:=uE h;cases hf:c.eT with
 |true=>exact(dv (h1 hf)).1
 |false=>rw[h2 hf];simp
theorem Od(c:Client)(hs:c.eZ.length<=maxLen)(hh:c.held.length<=maxLen):Spec Tryz.prog 102 [.agg (ef c)] Hp.emp (Is (.tup [.agg (fY (ud c).1),.int .i64 (ud c).2])):=
 hH gY Oa λR a=>Oc ca rfl _ _ c.who c.rev c.seq (jA c) c.eT c.waiting c.text (c.eZ.map a6) (c.held.map a6) (λh=>by have:=oZ h;rw[aI];omega) (fU (tm c hs hh) (λh=>.cons (.same _) .nil) rfl)
  (ud c).1.base (ud c).1.who (ud c).1.seq (ud c).2 ((ud c).1.delta.map a6) (λh=>by unfold ud;rw[ae h];exact⟨rfl,rfl,rfl,rfl,rfl⟩) (λh hf=>by unfold ud;rw[aa (λg=>g h),ae hf];exact⟨rfl,rfl,rfl,rfl,rfl⟩)
  (λh hf=>by unfold ud;rw[aa (λg=>g h),aa (by rw[hf];decide)];exact⟨rfl,rfl,rfl,rfl,rfl⟩) R (Fu a)
end Go.Proofs.YtobngncjflogcaaGreat.AM
namespace Go.Proofs
open Go.Shelf Go.RowKit Go.Lib
def Tryz.tU:Go.Shelf.Ren:=⟨λ|105=>140|212=>155|99=>156|165=>157|166=>116|170=>158|169=>117|263=>163|264=>164|206=>165|240=>146|241=>166|276=>159|277=>167|n=>n,λ|9=>9|3=>3|4=>4|20=>20|0=>0|46=>163|109=>218|5=>5|72=>173|76=>176|51=>166|146=>226|53=>228|148=>229|70=>171|37=>164|75=>175|127=>208|164=>221|80=>78|n=>n,λ|n=>n⟩
theorem Tryz.Oe:Go.Proofs.Lays.n105 Tryz.prog Tryz.tU:= {
 mixed:=by kernel_rfl
 f99:=Tryz.func156.trans (aR some (by kernel_rfl))
 f105:=Tryz.func140.trans (aR some (by kernel_rfl))
 f165:=Tryz.func157.trans (aR some (by kernel_rfl))
 f166:=Tryz.func116.trans (aR some (by kernel_rfl))
 f169:=Tryz.func117.trans (aR some (by kernel_rfl))
 f170:=Tryz.func158.trans (aR some (by kernel_rfl))
 f206:=Tryz.func165.trans (aR some (by kernel_rfl))
 f212:=Tryz.func155.trans (aR some (by kernel_rfl))
 f240:=Tryz.func146.trans (aR some (by kernel_rfl))
 f241:=Tryz.func166.trans (aR some (by kernel_rfl))
 f263:=Tryz.func163.trans (aR some (by kernel_rfl))
 f264:=Tryz.func164.trans (aR some (by kernel_rfl))
 f276:=Tryz.func159.trans (aR some (by kernel_rfl))
 f277:=Tryz.func167.trans (aR some (by kernel_rfl))
 t0:=Tryz.underlying0
 a0:=Tryz.isAgg0
 z0:=Tryz.sizeOf0
 v0:=Tryz.zeroValue0
 t3:=Tryz.underlying3
 a3:=Tryz.isAgg3
 z3:=Tryz.sizeOf3
 v3:=Tryz.zeroValue3
 t4:=Tryz.underlying4
 a4:=Tryz.isAgg4
 z4:=Tryz.sizeOf4
 v4:=Tryz.zeroValue4
 t5:=Tryz.underlying5
 a5:=Tryz.isAgg5
 z5:=Tryz.sizeOf5
 v5:=Tryz.zeroValue5
 t9:=Tryz.underlying9
 a9:=Tryz.isAgg9
 z9:=Tryz.sizeOf9
 v9:=Tryz.zeroValue9
 t20:=Tryz.underlying20
 a20:=Tryz.isAgg20
 z20:=Tryz.sizeOf20
 v20:=Tryz.zeroValue20
 t37:=Tryz.underlying164
 a37:=Tryz.isAgg164
 z37:=Tryz.sizeOf164
 v37:=Tryz.zeroValue164
 t46:=Tryz.underlying163
 a46:=Tryz.isAgg163
 z46:=Tryz.sizeOf163
 v46:=Tryz.zeroValue163
 t51:=Tryz.underlying166
 a51:=Tryz.isAgg166
 z51:=Tryz.sizeOf166
 v51:=Tryz.zeroValue166
 t53:=Tryz.underlying228
 a53:=Tryz.isAgg228
 z53:=Tryz.sizeOf228
 v53:=Tryz.zeroValue228
 t70:=Tryz.underlying171
 a70:=Tryz.isAgg171
 z70:=Tryz.sizeOf171
 v70:=Tryz.zeroValue171
 t72:=Tryz.underlying173
 a72:=Tryz.isAgg173
 z72:=Tryz.sizeOf173
 v72:=Tryz.zeroValue173
 t75:=Tryz.underlying175
 a75:=Tryz.isAgg175
 z75:=Tryz.sizeOf175
 v75:=Tryz.zeroValue175
 t76:=Tryz.underlying176
 a76:=Tryz.isAgg176
 z76:=Tryz.sizeOf176
 v76:=Tryz.zeroValue176
 t109:=Tryz.underlying218
 a109:=Tryz.isAgg218
 z109:=Tryz.sizeOf218
 v109:=Tryz.zeroValue218
 t127:=Tryz.underlying208
 a127:=Tryz.isAgg208
 z127:=Tryz.sizeOf208
 v127:=Tryz.zeroValue208
 t146:=Tryz.underlying226
 a146:=Tryz.isAgg226
 z146:=Tryz.sizeOf226
 v146:=Tryz.zeroValue226
 t148:=Tryz.underlying229
 a148:=Tryz.isAgg229
 z148:=Tryz.sizeOf229
 v148:=Tryz.zeroValue229
 t164:=Tryz.underlying221
 a164:=Tryz.isAgg221
 z164:=Tryz.sizeOf221
 v164:=Tryz.zeroValue221}
theorem Tryz.sA:Builder.Extra Tryz.prog Tryz.tU:= {
 sizeBuilder:=by kernel_rfl
 liesBuilder:=by kernel_rfl
 t5:=Tryz.underlying5
 a5:=Tryz.isAgg5
 z5:=Tryz.sizeOf5
 v5:=Tryz.zeroValue5
 infoByte:=by kernel_rfl
 cellsByte:=by kernel_rfl
 sizeByte:=by kernel_rfl
 neB5:=by decide}
theorem Tryz.strings_Repeat(s:ByteArray)(c:Nat)(w:World)(hc:c<=9223372036854775807)(hlen:s.size*c<=140737488355328):
  Calls Tryz.prog 140 #[.string s,.int .i64 c] w λe w'=>e=.returned (.string ⟨(Lib.repeatL s.data.toList c).toArray⟩)/\Below w.heap.size w w':=Any.strings_Repeat Tryz.Oe Tryz.sA s c w hc hlen
end Go.Proofs
namespace Go.Proofs.YtobngncjflogcaaGreat.AM
open Go
set_option maxRecDepth 100000
set_option maxHeartbeats 2000000
def AI:AC:=qr [qo 4 (.mov (.c (.slice none 0 0))),qz 5 0] (qq (qr [qm 15 0,qm 16 1,qo 17 (.bslice 30 1 [.t 15,.t 16]),qo 18 (.len false (.t 17)),qz 19 0] (.block 0 (.loop (qr [qb 20 .lss 19 18] (qq (qu 20 .skip (.exit 0)) (qq (.block 1 (qr [qo 21 (.iaddr 1 (.t 17) (.t 19)),ql 22 21,qm 7 22] (qr [qm 23 7,qa 24 89 [.t 23],qm 8 24] (qr [qm 25 8,qc 26 .neq 25 0] (qu 26 (qr [qm 27 8,qo 4 (.mov (.c (.slice none 0 0))),qm 5 27] .ret) .skip))))) (qR [qc 28 .add 19 1,qm 19 28]))))))) (qq (qr [qm 29 0,qa 30 130 [.t 29],qm 31 1,qa 32 90 [.t 31],qb 33 .neq 30 32] (qu 33 (qr [qo 4 (.mov (.c (.slice none 0 0))),qz 5 4] .ret) .skip)) (qr [qm 34 0,qa 35 90 [.t 34],qa 36 140 [(.c (.string ⟨#[63]⟩)),.t 35],qm 9 36] (qr [qo 10 (.mov (.c (.slice none 0 0)))] (qq (qr [qm 37 0,qa 38 83 [.t 37],qa 39 141 [.t 38],qo 40 (.len false (.t 39)),qz 41 0] (.block 2 (.loop (qr [qb 42 .lss 41 40] (qq (qu 42 .skip (.exit 2)) (qq (.block 3 (qr [qo 43 (.iaddr 2 (.t 39) (.t 41)),qd 44 2 43,qo 12 (.alloc 100 D7),qs 2 12 44] (qr [qm 45 1,qa 46 83 [.t 45],qa 47 141 [.t 46],qo 48 (.len false (.t 47)),qz 49 0] (.block 4 (.loop (qr [qb 50 .lss 49 48] (qq (qu 50 .skip (.exit 4)) (qq (.block 5 (qr [qo 51 (.iaddr 2 (.t 47) (.t 49)),qd 52 2 51,qo 14 (.alloc 100 D7),qs 2 14 52] (qr [qo 53 (.iarr 2 1 (.t 12) (qk 1)),ql 54 53,qo 55 (.iarr 2 1 (.t 14) (qk 0)),ql 56 55,qb 57 .eql 54 56] (qu 57 (qR [qm 58 10,qo 59 (.iarr 2 1 (.t 12) (qk 0)),ql 60 59,qo 61 (.iarr 2 1 (.t 14) (qk 1)),ql 62 61,qo 63 (.build D7 [(0,1,(.t 60)),(1,1,(.t 62))]),qo 64 (.bslice 100 2 [.t 63]),qo 65 (.append 100 2 16 (.t 58) (.t 64)),qm 10 65]) .skip)))) (qR [qc 66 .add 49 1,qm 49 66]))))))))) (qR [qc 67 .add 41 1,qm 41 67]))))))) (qr [qm 68 0,qa 69 90 [.t 68],qm 70 10,qm 71 1,qa 72 83 [.t 71],qm 73 0,qa 74 83 [.t 73],qm 75 9,qa 76 84 [.t 74,.t 75],qa 77 84 [.t 72,.t 76],qa 78 142 [.t 69,.t 70,.t 77],qm 4 78,qz 5 0] .ret))))))
theorem AJ:fo Tryz.prog 105 Tryz.f105 AI [.t 4,.t 5] 2 eV:=⟨Tryz.func105,by decide+kernel,by kernel_rfl,by kernel_rfl,by decide+kernel⟩
def Fv(p:Nat×Nat)(l:List (Nat×Nat)):List (Nat×Nat):=l.filterMap λq=>if p.2=q.1 then some (p.1,q.2) else none
theorem Fw(a b l:List (Nat×Nat)):jD (a++b) l=jD a l++jD b l:=by simp[jD]
theorem Fx(p:Nat×Nat)(l:List (Nat×Nat)):jD [p] l=Fv p l:=by simp[jD,Fv]
structure YA(la lb:List (Nat×Nat)) where
 k:Int
 pre:List (Nat×Nat)
 rest:List (Nat×Nat)
 n:Nat
 b:Option Nat
 rows:List (List V)
 hd:la=pre++rest
 hk:k=(pre.length:Int)
 dS:rows=gh (jD pre lb)
 hn:n=rows.length
 hb:rows.length<=pre.length*lb.length
structure YB(base:List (Nat×Nat))(p:Nat×Nat)(lb:List (Nat×Nat)) where
 k:Int
 pre:List (Nat×Nat)
 rest:List (Nat×Nat)
 n:Nat
 b:Option Nat
 rows:List (List V)
 hd:lb=pre++rest
 hk:k=(pre.length:Int)
 dS:rows=gh (base++Fv p pre)
 hn:n=rows.length
 hb:rows.length<=base.length+pre.length
structure YH where
 k:Int
 h0:k=0\/k=1\/k=2
theorem AK(P:Prim)(hP:P=ca)(T T1:cp)(ra rb:List (List V))(c1 p o i ia:Int)(la lb:List (Nat×Nat))(Sp:la.length<=1000)(Rd:lb.length<=1000)(pa pb:V)(mr a g:List (List V))(G:a=gh la)(H:g=gh lb)(s s1 s2:BS)
  (Z:fZ T 89 [.sl false 3 ra] (qI c1))(d:fZ T 89 [.sl false 3 rb] (qI p))
  (ho:c1=0->fZ T 130 [.sl false 3 ra] (qI o))(hi:p=0->fZ T 90 [.sl false 3 rb] (qI i))(N:c1=0->fZ T 90 [.sl false 3 ra] (qI ia))
  (q:c1=0->fZ T 140 [.str [63],qI ia] (.str s))(u:c1=0->fZ T 83 [.sl false 3 ra] pa)(v:p=0->fZ T 83 [.sl false 3 rb] pb)
  (O:c1=0->fZ T 141 [pa] (.sl false 2 a))(Q:p=0->fZ T 141 [pb] (.sl false 2 g))
  (w:c1=0->fZ T 84 [pa,.str s] (.str s1))(A:c1=0->p=0->o=i->fZ T 84 [pb,.str s1] (.str s2))
  (l:c1=0->p=0->o=i->∀(h:Hp)(K:V->Hp->Prop)(k:Nat)(b:Option Nat)(n:Nat)(rs:List (List V)),rs=gh (jD la lb)->n=rs.length->h k=some ⟨b,100,2,rs⟩->K (.sl false 3 mr) h->T 142 [qI ia,.own k b 2 n,.str s2] h K)
  (rr:List (List V))(e:Int)(hr:rr=(if c1≠0 then[] else if p≠0 then[] else if o≠i then[] else mr)/\e=if c1≠0 then c1 else if p≠0 then p else if o≠i then 4 else 0)
  (R:S->Prop)(hR:∀e2,e2=e->tI [.t 4,.t 5] 3 rr [qI e2] R):fX P T T1 AI (S0 [.sl false 3 ra,.sl false 3 rb] Hp.emp) R (λ_ _=>False) R:=by
 have OM:P.da a=(la.length:Int):=by rw[gi hP,G];simp[gh]
 have Re:P.da g=(lb.length:Int):=by rw[gi hP,H];simp[gh]
 obtain⟨hr1,c⟩:=hr;cbv;intro I;cbv;refine⟨{y:YH//(y.k≠0->c1=0)/\(y.k=2->p=0)},λy=>[(0,.sl false 3 ra),(1,.sl false 3 rb),(17,.own 1000017 (some I) 1 2),(18,qI (P.int 2)),(19,qI y.1.k)],
  λy=>[(1000017,⟨some I,30,1,[[.sl false 3 ra],[.sl false 3 rb]]⟩)],λy=>(2-y.1.k).toNat,
  ⟨_,a7.refl _,⟨⟨0,.inl rfl⟩,λh=>absurd rfl h,λh=>by cases h⟩,⟨rfl,rfl,rfl,rfl,rfl,trivial⟩,⟨rfl,trivial⟩⟩,?_⟩
 rintro⟨⟨k,hk⟩,U,hk2⟩;simp only[] at U hk2;have hi2:P.int 2=2:=by rw[int_eq hP];rfl
 have B:P.fQ 0 k:=iQ hP qW;cbv;refine ab (λh=>?_) (λh=>?_)
 ·have h2:k<P.int 2:=fA hP h;rw[hi2] at h2;have C:P.iw k (P.int 2):=kZ hP (by rw[hi2];exact h2);have D:P.i64 (P.add k 1):=by rw[add_eq hP];exact ft hP qW
  clear ho hi N q u v O Q w A l
  by_cases W:k=0
  ·have j:P.row [[.sl false 3 ra],[.sl false 3 rb]] (P.nat k) [.sl false 3 ra]:=fL hP (i:=0) W rfl;cbv;refine⟨B,C,_,j,?_⟩;cbv;refine Z _ _ ?_;cbv;refine ab (λh=>?_) (λh=>?_)
   ·have hc:c1≠0:=fE hP h;rw[ae hc] at hr1 c;cbv;exact(hR _ c.symm).1 _ _ (a7.refl _) rfl hr1
   ·have hc:c1=0:=fD hP h;cbv;refine⟨D,?_⟩;have e1:P.add k 1=1:=by rw[add_eq hP,W];rfl
    refine⟨_,a7.refl _,⟨⟨_,.inr (.inl e1)⟩,λ_=>hc,λh=>?_⟩,⟨rfl,rfl,rfl,rfl,rfl,trivial⟩,⟨rfl,trivial⟩,?_⟩
    ·have h:P.add k 1=2:=h;omega
    ·show(2-P.add k 1).toNat<(2-k).toNat;omega
  ·have J:k=1:=by omega
   have hc1:=U W;rw[aa (λh=>h hc1)] at hr1 c;have j:P.row [[.sl false 3 ra],[.sl false 3 rb]] (P.nat k) [.sl false 3 rb]:=fL hP (i:=1) J rfl;cbv;refine⟨B,C,_,j,?_⟩;cbv;refine d _ _ ?_;cbv;refine ab (λh=>?_) (λh=>?_)
   ·have hc:p≠0:=fE hP h;rw[ae hc] at hr1 c;cbv;exact(hR _ c.symm).1 _ _ (a7.refl _) rfl hr1
   ·have hc:p=0:=fD hP h;cbv;refine⟨D,?_⟩;have e1:P.add k 1=2:=by rw[add_eq hP,J];rfl
    refine⟨_,a7.refl _,⟨⟨_,.inr (.inr e1)⟩,λ_=>hc1,λ_=>hc⟩,⟨rfl,rfl,rfl,rfl,rfl,trivial⟩,⟨rfl,trivial⟩,?_⟩;show(2-P.add k 1).toNat<(2-k).toNat;omega
 have h2:¬k<P.int 2:=fg hP h;rw[hi2] at h2;have V5:k=2:=by omega
 have hc1:=U qW;have m:=hk2 V5;rw[aa (λh=>h hc1),aa (λh=>h m)] at hr1 c;have f1:=ho hc1;have f2:=hi m;have f3:=N hc1;have f4:=q hc1;have f5:=u hc1;have f6:=v m;have f7:=O hc1;have f8:=Q m;have f9:=w hc1;have f10:=A hc1 m;have f11:=l hc1 m;clear ho hi N q u v O Q w A l Z d B;cbv;refine f1 _ _ ?_;cbv;refine f2 _ _ ?_;cbv;refine ab (λh=>?_) (λh=>?_)
 ·have hc:o≠i:=fE hP h;rw[ae hc] at hr1 c;cbv;exact(hR _ c.symm).1 _ _ (a7.refl _) rfl hr1
 have X:o=i:=fD hP h;rw[aa (λh=>h X)] at hr1 c
 replace f10:=f10 X
 replace f11:=f11 X
 cbv;refine f3 _ _ ?_;cbv;refine f4 _ _ ?_;cbv;refine f5 _ _ ?_;cbv;refine f7 _ _ ?_;cbv;refine⟨YA la lb,λy=>[(0,.sl false 3 ra),(1,.sl false 3 rb),(9,.str s),(10,.own 1000065 y.b 2 y.n),(39,.sl false 2 a),(40,qI (P.da a)),(41,qI y.k)],
  λy=>[(1000065,⟨y.b,100,2,y.rows⟩)],λy=>y.rest.length,
  ⟨_,a7.nil (i:=10) (k:=1000065) (ty:=100) (sz:=2) rfl rfl,⟨0,[],la,_,_,_,rfl,rfl,by simp[jD,gh],rfl,by simp⟩,⟨rfl,rfl,rfl,rfl,rfl,rfl,rfl,trivial⟩,⟨rfl,trivial⟩⟩,?_⟩
 rintro⟨k,pre,rest,n,b,rows,hd,hk,dS,hn,hb⟩;have Xa:pre.length+rest.length=la.length:=by rw[hd];simp
 cbv;refine ab (λh=>?_) (λh=>?_)
 ·have h2:k<P.da a:=fA hP h;rw[OM] at h2
  rcases rest with _|⟨⟨x,y⟩,rest⟩
  ·exfalso;simp at Xa;((try simp only[nc] at*);omega)
  have j:P.row a (P.nat k) [qI x,qI y]:=fL hP hk (by rw[G,gh,av,hd];simp);have B:P.fQ 0 k:=iQ hP qO;have C:P.i64 (P.add k 1):=by rw[add_eq hP];exact ft hP qO
  cbv;refine⟨B,_,j,?_⟩;cbv;intro L;cbv;refine f6 _ _ ?_;cbv;refine f8 _ _ ?_;cbv;have Zx:(jD pre lb).length<=pre.length*lb.length:=by rw[dS] at hb;simpa[gh] using hb
  have hpl:pre.length*lb.length<=1000000:=bG (Nat.mul_le_mul (by omega:pre.length<=1000) Rd) qD;refine⟨YB (jD pre lb) (x,y) lb,λz=>[(0,.sl false 3 ra),(1,.sl false 3 rb),(9,.str s),(10,.own 1000065 z.b 2 z.n),(12,.ptr 12 (some L) 2 0 0),(39,.sl false 2 a),(40,qI (P.da a)),(41,qI k),(47,.sl false 2 g),(48,qI (P.da g)),(49,qI z.k)],
   λz=>[(12,⟨some L,100,2,[[qI x,qI y]]⟩),(1000065,⟨z.b,100,2,z.rows⟩)],λz=>z.rest.length,
   ⟨_,a7.refl _,⟨0,[],lb,n,b,rows,rfl,rfl,by rw[dS];simp[Fv],hn,by rw[dS];simp[gh]⟩,⟨rfl,rfl,rfl,rfl,rfl,rfl,rfl,rfl,rfl,rfl,rfl,trivial⟩,⟨rfl,rfl,trivial⟩⟩,?_⟩
  rintro⟨k2,vr,j6,n2,b2,gB,d,hk2,f,E,hb2⟩;have M:vr.length+j6.length=lb.length:=by rw[d];simp
  cbv;refine ab (λh=>?_) (λh=>?_)
  ·have h3:k2<P.da g:=fA hP h;rw[Re] at h3
   rcases j6 with _|⟨⟨x2,y2⟩,j6⟩
   ·exfalso;simp at M;((try simp only[nc] at*);omega)
   have Y:P.row g (P.nat k2) [qI x2,qI y2]:=fL hP hk2 (by rw[H,gh,av,d];simp);have D:P.fQ 0 k2:=iQ hP qO;have YD:P.i64 (P.add k2 1):=by rw[add_eq hP];exact ft hP qO
   have r8:P.fQ 0 1:=iQ hP qW;have r9:P.iw 1 2:=kZ hP qW;have uq:P.nat 1=1:=by subst hP;rfl
   have ur:P.fQ 0 0:=iQ hP qW;have uu:P.iw 0 2:=kZ hP qW;have uw:P.nat 0=0:=by subst hP;rfl
   have Zy:P.oc gB n2:=by subst hP;show gB.length=n2;rw[E]
   have Wy:∀r,P.bytes (P.add (P.int n2) (P.da [r])) 16:=by intro r;subst hP;show((n2:Int)+1)*16<=_;((try simp only[nc] at*);omega)
   have YE:∀r,P.oc [r] 1:=by intro r;subst hP;rfl
   cbv;refine⟨D,_,Y,?_⟩;cbv;intro YF;cbv;refine⟨r8,r9,_,uq,?_⟩;cbv;refine⟨ur,uu,_,uw,?_⟩;cbv
   by_cases F:y=x2
   ·refine eY (my hP (by rw[F])) ?_;cbv
    repeat' first|(refine And.intro (by assumption) ?_;cbv)|(refine And.intro (YE _) ?_;cbv)|(refine And.intro (Wy _) ?_;cbv)|(intro β;cbv)|(refine Exists.intro _ (And.intro (by assumption) ?_);cbv)
    refine⟨_,a7.refl _,⟨_,vr++[(x2,y2)],j6,_,_,_,by simp[d],?_,?_,?_,?_⟩,⟨rfl,rfl,rfl,rfl,rfl,rfl,rfl,rfl,rfl,rfl,rfl,trivial⟩,⟨rfl,rfl,trivial⟩,by simp⟩
    ·show P.add k2 1=_;rw[add_eq hP,hk2];simp
    ·show P.je gB [[qI x,qI y2]]=_;rw[f];subst hP;simp[ca,gh,nc,Fv,F]
    ·show P.jf n2 (P.gp [_])=(P.je gB [_]).length;subst hP;simp[ca,E]
    ·show(P.je gB [_]).length<=_;subst hP;simp[ca];omega
   ·refine fv (oR hP (λe=>F (Int.ofNat.inj e))) ?_;cbv;refine⟨YD,?_⟩;refine⟨_,a7.refl _,⟨_,vr++[(x2,y2)],j6,_,_,_,by simp[d],?_,?_,E,by simp;omega⟩,⟨rfl,rfl,rfl,rfl,rfl,rfl,rfl,rfl,rfl,rfl,rfl,trivial⟩,⟨rfl,rfl,trivial⟩,by simp⟩
    ·show P.add k2 1=_;rw[add_eq hP,hk2];simp
    ·rw[f];simp[Fv,F]
  ·have h3:¬k2<P.da g:=fg hP h;rw[Re] at h3
   rcases j6 with _|⟨⟨x2,y2⟩,j6⟩
   rotate_left
   ·exfalso;simp at M;((try simp only[nc] at*);omega)
   rw[aJ] at d;subst d;cbv;refine⟨C,?_⟩;refine⟨_,a7.refl _,⟨_,pre++[(x,y)],rest,_,_,_,by simp[hd],?_,?_,E,?_⟩,⟨rfl,rfl,rfl,rfl,rfl,rfl,rfl,trivial⟩,⟨rfl,trivial⟩,by simp⟩
   ·show P.add k 1=_;rw[add_eq hP,hk];simp
   ·rw[f,Fw,Fx]
   ·rw[an,bN];simp;omega
 ·have h2:¬k<P.da a:=fg hP h;rw[OM] at h2
  rcases rest with _|⟨⟨x,y⟩,rest⟩
  rotate_left
  ·exfalso;simp at Xa;((try simp only[nc] at*);omega)
  rw[aJ] at hd;subst hd;cbv;refine f3 _ _ ?_;cbv;refine f6 _ _ ?_;cbv;refine f5 _ _ ?_;cbv;refine f9 _ _ ?_;cbv;refine f10 _ _ ?_;cbv;refine f11 _ _ _ _ _ _ dS hn rfl ?_;cbv;exact(hR _ c.symm).2.2 _ _ _ (a7.refl _) rfl hr1.symm
theorem xw(n:Nat)(hn:n<=1000000):Spec Tryz.prog 140 [.str [63],.int .i64 n] Hp.emp (Is (.str (Lib.repeatL [63] n))):=
 kf (us0:= #[.string ⟨#[63]⟩,.int .i64 n]) ⟨Tryz.f140,Tryz.func140,by decide+kernel,bF.1 (by decide+kernel)⟩
  (λF B w us hl h=>by
   match us,hl,h with
   |⟨[x,y]⟩,_,h=>
    have a0:=h 0 _ x rfl rfl;have a1:=h 1 _ y rfl rfl;cases a0;cases a1;rfl)
  (λF B w=>.str _) λw=>by
   have:=Tryz.strings_Repeat ⟨#[63]⟩ n w qW (by show 1*n<=_;omega);simpa using this
theorem Kk(xs a:List fP)(s:BS)(h:fi xs=fH a)(hs:s.length=fH xs):nT (cmp xs a)=nT (hU (fH xs) (kg a (kg xs s)) 0 0 (jD (fx xs 0 0) (fx a 0 0))):=by
 obtain⟨h1,h2,h3,_⟩:=iC (xs.length+a.length) xs a s 0 0 0 (ag _) h hs;have:=Hl (cmp xs a) s (by unfold cmp;rw[h1,hs]);unfold cmp at this⊢;rw[this,h1,h2,h3]
theorem o0(ts:List fP):∀i j,(fx ts i j).length<=fH ts:=by
 induction ts with
 |nil=>intro i j;simp[fx]
 |cons t ts ih=>
  intro i j;cases t
  ·have:=ih (i+1) (j+1);simp[fx,fH,dE] at*;omega
  ·have:=ih i (j+1);simp[fx,fH,dE] at*;omega
  ·have:=ih (i+1) j;simp[fx,fH,dE] at*;omega
theorem DK(n:Nat):(Lib.repeatL [63] n).length=n:=by rw[Lib.repeatL_length];simp
theorem Kl(a b:List Part)(ha:a.length<=maxLen)(hb:b.length<=maxLen):Spec Tryz.prog 105 [fc a,fc b] Hp.emp (Is (.tup [fc (iT a b).1,.int .i64 (iT a b).2])):=by
 have y:maxLen=9223372036854775807:=by decide
 by_cases iB:cF a=0/\cF b=0/\gX a=jy b
 ·obtain⟨c,e,i⟩:=iB;obtain⟨j,d,m,z,_,_⟩:=dv c;obtain⟨o,g,hb1,hb2,_,_⟩:=dv e;have e1:=ja a d;have e2:=hZ a d;have e3:=hZ b g;have e4:=ja b g;have lG:fi (cm a)=fH (cm b):=by omega
  have hs:(Lib.repeatL [63] (fH (cm a))).length=fH (cm a):=DK _;have p:=uk (cm a) _ hs;have l:=uk (cm b) (kg (cm a) (Lib.repeatL [63] (fH (cm a)))) (by rw[p,lG]);obtain⟨c1,B,c3,c4⟩:=iC ((cm a).length+(cm b).length) (cm a) (cm b) _ 0 0 0 (ag _) lG hs;have q:lJ (fH (cm a)) (kg (cm b) (kg (cm a) (Lib.repeatL [63] (fH (cm a))))) 0 0 (jD (fx (cm a) 0 0) (fx (cm b) 0 0)):=by
   rw[<-c3];refine lX _ _ _ _ _ qW ?_;rw[c4,l];omega
  have t:=xd _ _ _ _ _ q;have A:(jD (fx (cm a) 0 0) (fx (cm b) 0 0)).length<=fH (cm a):=by
   rw[<-c3];have:=o0 (gq ((cm a).length+(cm b).length) (cm a) (cm b)) 0 0;omega
  have p1:=o0 (cm a) 0 0;have p2:=o0 (cm b) 0 0;have r:iT a b=(nT (hU (fH (cm a)) (kg (cm b) (kg (cm a) (Lib.repeatL [63] (fH (cm a))))) 0 0 (jD (fx (cm a) 0 0) (fx (cm b) 0 0))),0):=by
   unfold iT;rw[aa (λh=>h c),aa (λh=>h e),aa (λh=>h i),Kk _ _ _ lG hs]
  rw[r];exact hH gY AJ λR u=>AK ca rfl _ _ (a.map a6) (b.map a6) (cF a) (cF b) (gX a) (jy b) (fH (cm a)) (fx (cm a) 0 0) (fx (cm b) 0 0) qW qW (og (e9 (cm a)) (dE (cm a))) (og (e9 (cm b)) (dE (cm b))) _ _ _ rfl rfl (Lib.repeatL [63] (fH (cm a))) _ _
   (iV (gU a ha) rfl) (iV (gU b hb) rfl) (λ_=>iV (rk a j d) rfl) (λ_=>iV (lI b o g) rfl) (λ_=>by rw[e2];exact iV (lI a j d) rfl)
   (λ_=>fU (xw _ qW) (λh=>.cons (.same _) (.cons (.same _) .nil)) rfl) (λ_=>iV (m8 a j (rC d)) rfl) (λ_=>iV (m8 b o (rC g)) rfl)
   (λ_=>fU (rJ (cm a) (kS c)) (λh=>.cons (m9 h _ _) .nil) rfl) (λ_=>fU (rJ (cm b) (kS e)) (λh=>.cons (m9 h _ _) .nil) rfl)
   (λ_=>fU (vB (cm a) (kS c) _ hs) (λh=>.cons (m9 h _ _) (.cons (.same _) .nil)) rfl) (λ_ _ _=>fU (vB (cm b) (kS e) _ (by rw[p,lG])) (λh=>.cons (m9 h _ _) (.cons (.same _) .nil)) rfl)
   (λ_ _ _ h K k b n rs v hn hk hK=>⟨h,jj.refl h,kD (Mt (fH (cm a)) qW _ qW _ (by rw[l];omega) q (by rw[l] at t;omega)) (.cons (.same _) (.cons (.own k b 2 n _ (by rw[jm hn hk,v]) (by simp)) (.cons (.same _) .nil))) hK⟩)
   ((nT (hU (fH (cm a)) (kg (cm b) (kg (cm a) (Lib.repeatL [63] (fH (cm a))))) 0 0 (jD (fx (cm a) 0 0) (fx (cm b) 0 0)))).map a6) 0 ⟨by rw[aa (λh=>h c),aa (λh=>h e),aa (λh=>h i)],by rw[aa (λh=>h c),aa (λh=>h e),aa (λh=>h i)]⟩ R λe2 he=>by
    subst he;exact mu (ly _) (ff _) (xS _) λs s' he hr=>u s s' he hr
 ·have ob:∀{x:List Part}{f:Nat}{w:V},¬(cF a=0/\cF b=0/\gX a=jy b)->True:=λ_=>trivial;exact hH gY AJ λR u=>AK ca rfl _ _ (a.map a6) (b.map a6) (cF a) (cF b) (gX a) (jy b) (if cF a=0 then fH (cm a) else 0) (if cF a=0 then fx (cm a) 0 0 else[]) (if cF b=0 then fx (cm b) 0 0 else[])
   (by
    split
    ·rename_i c;obtain⟨_,d,m,_⟩:=dv c;have e2:=hZ a d;have:=o0 (cm a) 0 0;omega
    ·simp) (by
    split
    ·rename_i e;obtain⟨_,g,hb1,_⟩:=dv e;have e2:=hZ b g;have:=o0 (cm b) 0 0;omega
    ·simp) (og (e9 (cm a)) (dE (cm a))) (og (e9 (cm b)) (dE (cm b))) [] _ _ rfl rfl (Lib.repeatL [63] (fH (cm a))) (kg (cm a) (Lib.repeatL [63] (fH (cm a)))) []
   (iV (gU a ha) rfl) (iV (gU b hb) rfl) (λc=>iV (rk a (dv c).1 (dv c).2.1) rfl) (λe=>iV (lI b (dv e).1 (dv e).2.1) rfl) (λc=>by rw[ae c,hZ a (dv c).2.1];exact iV (lI a (dv c).1 (dv c).2.1) rfl)
   (λc=>by
    rw[ae c];obtain⟨_,d,m,_⟩:=dv c;have e2:=hZ a d;exact fU (xw _ qW) (λh=>.cons (.same _) (.cons (.same _) .nil)) rfl) (λc=>iV (m8 a (dv c).1 (rC (dv c).2.1)) rfl) (λe=>iV (m8 b (dv e).1 (rC (dv e).2.1)) rfl)
   (λc=>by rw[ae c];exact fU (rJ (cm a) (kS c)) (λh=>.cons (m9 h _ _) .nil) rfl) (λe=>by rw[ae e];exact fU (rJ (cm b) (kS e)) (λh=>.cons (m9 h _ _) .nil) rfl)
   (λc=>fU (vB (cm a) (kS c) _ (DK _)) (λh=>.cons (m9 h _ _) (.cons (.same _) .nil)) rfl) (λc e i=>absurd ⟨c,e,i⟩ iB) (λc e i=>absurd ⟨c,e,i⟩ iB)
   ((iT a b).1.map a6) (iT a b).2 ⟨by unfold iT;split;rfl;split;rfl;split;rfl;exact absurd ⟨aG (by assumption),aG (by assumption),aG (by assumption)⟩ iB,by unfold iT;split;rfl;split;rfl;split;rfl;rfl⟩ R λe2 he=>by
    subst he;exact mu (ly _) (ff _) (xS _) λs s' he hr=>u s s' he hr
end Go.Proofs.YtobngncjflogcaaGreat.AM
