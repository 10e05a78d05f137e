/-
  Part 5 of what the law WorldPlays reaches: the plain machine, contracts of the functions and plain laws; each lemma says its own condition.
-/
import Derived.Test.YtobngncjflogcaaGreatWorldPlays4
import Derived.Test.YtobngncjflogcaaGreatWorldPlays3
import Derived.Below
set_option linter.unusedVariables false
set_option linter.unusedSimpArgs false
namespace Go.Proofs.YtobngncjflogcaaGreat.AM
open Go
set_option maxRecDepth 100000
set_option maxHeartbeats 2000000
def jy:List Part->Int
 |[]=>0
 |p::l=>(if p.kind=1\/p.kind=3 then p.n else 0)+jy l
def gX:List Part->Int
 |[]=>0
 |p::l=>(if p.kind=1 then p.n else if p.kind=3 then 0 else p.text.length)+gX l
theorem CE(a b:List Part):jy (a++b)=jy a+jy b:=by induction a with
 |nil=>simp[jy]
 |cons p a ih=>simp only[ay,jy,ih];omega
theorem zg(a b:List Part):gX (a++b)=gX a+gX b:=by induction a with
 |nil=>simp[gX]
 |cons p a ih=>simp only[ay,gX,ih];omega
def oq(p:Part):Prop:=mi p=0
theorem gu{p:Part}(h:oq p):0<=p.n/\p.n<=500/\p.text.length<=500/\((p.kind=2/\p.n=0/\p.text≠[])\/((p.kind=1\/p.kind=3)/\0<p.n/\p.text=[])):=by
 unfold oq mi at h
 grind
theorem xO(l:List Part)(h:∀p∈l,oq p):0<=jy l/\jy l<=500*l.length:=by induction l with
 |nil=>simp[jy]
 |cons p l ih=>
  have h1:=gu (h p (by simp));have h2:=ih λq hq=>h q (by simp[hq]);simp only[jy,ar]
  split<;>omega
theorem rj(l:List Part)(h:∀p∈l,oq p):0<=gX l/\gX l<=500*l.length:=by induction l with
 |nil=>simp[gX]
 |cons p l ih=>
  have h1:=gu (h p (by simp));have h2:=ih λq hq=>h q (by simp[hq]);simp only[gX,ar]
  split
  ·omega
  ·split<;>omega
def oI:Int->List Part->Int
 |_,[]=>0
 |last,p::l=>if p.kind=last\/last=3/\p.kind=2 then 3 else if mi p≠0 then mi p else oI p.kind l
theorem qv:∀(last:Int)(l:List Part),oI last l=0->∀p∈l,oq p
 |_,[],_=>by simp
 |last,p::l,h=>by
  unfold oI at h
  split at h
  ·omega
  ·split at h
   ·contradiction
   ·rename_i h2;intro q hq
    rcases ax.1 hq with rfl|hq
    ·exact aG (p:=mi q=0) h2
    ·exact qv _ l h q hq
def cF(d:List Part):Int:=if 1600<d.length then 2 else if oI 0 d≠0 then oI 0 d else if 500<jy d\/500<gX d then 2 else 0
theorem m7{d:List Part}{rows:List (List V)}{p:Part}{pre rest:List Part}{k:Int}(dS:rows=d.map a6)(hd:d=pre++p::rest)(hk:k=pre.length)(P:Prim)(hP:P=ca):P.row rows (P.nat k) (a6 p):=by
 subst hP;simp[ca,dS,hd,hk]
def zh:AC:=qr [qz 2 0,qz 3 0] (qq (qr [qm 6 0,qo 7 (.len false (.t 6)),qz 8 0] (.block 0 (.loop (qr [qb 9 .lss 8 7] (qq (qu 9 .skip (.exit 0)) (qq (.block 1 (qr [qo 10 (.iaddr 3 (.t 6) (.t 8)),qd 11 3 10,qo 5 (.alloc 115 wj),qs 3 5 11] (qr [qf 12 0 5,ql 13 12] (.block 2 (qr [qc 20 .eql 13 1,qm 19 20] (qu 19 (qr [qm 21 2,qf 22 1 5,ql 23 22,qb 24 .add 21 23,qm 2 24] (qR [qm 25 3,qf 26 1 5,ql 27 26,qb 28 .add 25 27,qm 3 28])) (qr [qc 30 .eql 13 3,qm 29 30] (qu 29 (qR [qm 31 2,qf 32 1 5,ql 33 32,qb 34 .add 31 33,qm 2 34]) (qR [qm 14 3,qf 15 2 5,ql 16 15,qo 17 (.len true (.t 16)),qb 18 .add 14 17,qm 3 18]))))))))) (qR [qc 35 .add 8 1,qm 8 35]))))))) (qr [qm 36 2,qm 37 3,qm 2 36,qm 3 37] .ret))
theorem GF:fo Tryz.prog 120 Tryz.f120 zh [.t 2,.t 3] 1 eV:=⟨Tryz.func120,by decide+kernel,by kernel_rfl,by kernel_rfl,by decide+kernel⟩
theorem GG(P:Prim)(hP:P=ca)(T f:cp)(d:List Part)(g:d.length<=1600)(a:∀p∈d,oq p)(rows:List (List V))(dS:rows=d.map a6)(r1 r2:Int)(hr1:jy d=r1)(e:gX d=r2)
  (R:S->Prop)(b:∀s s',a7 s s'->hX [.t 2,.t 3] [qI r1,qI r2] s'->R s):fX P T f zh (S0 [.sl true 3 rows] Hp.emp) R (λ_ _=>False) R:=by
 cbv;refine⟨{y:Int×Int×Int×List Part×List Part//d=y.2.2.2.1++y.2.2.2.2/\y.2.2.1=y.2.2.2.1.length/\y.1=jy y.2.2.2.1/\y.2.1=gX y.2.2.2.1},λy=>[(2,qI y.1.1),(3,qI y.1.2.1),(6,.sl true 3 rows),(7,qI (P.da rows)),(8,qI y.1.2.2.1)],λ_=>[],λy=>y.1.2.2.2.2.length,
  ⟨_,a7.refl _,⟨(0,0,0,[],d),rfl,rfl,rfl,rfl⟩,?_,?_⟩,?_⟩
 ·cbv
 ·cbv
 rintro⟨⟨i,o,k,pre,rest⟩,hd,hk,hi,ho⟩
 dsimp only at hd hk hi ho
 cbv;have hl:P.da rows=pre.length+rest.length:=by subst hP;simp[ca,dS,hd]
 have j:d.length=pre.length+rest.length:=by rw[hd];simp
 refine ab (λh=>?_) (λh=>?_)
 ·rcases rest with _|⟨⟨kd,n,t⟩,rest⟩
  ·(exfalso;clear b;subst hP;simp[ca,nc] at*;first|omega|grind)
  cbv;have c:=m7 dS hd hk P hP;have hp:=gu (a ⟨kd,n,t⟩ (by simp[hd]));have hb1:=xO pre (λp hp=>a p (by simp[hd,hp]));have hb2:=rj pre (λp hp=>a p (by simp[hd,hp]))
  repeat'(first|(intro β;cbv)|(refine And.intro (by assumption) ?_;cbv)|(refine ab (λh=>?_) (λh=>?_)<;>try cbv)|(refine Exists.intro _ (And.intro (by assumption) ?_);cbv)|(refine hc1 _ _ ?_;cbv)|(refine l _ _ ?_;cbv)|(refine m _ _ ?_;cbv)|(refine q _ _ ?_;cbv)|(refine r _ _ ?_;cbv)|(refine u _ _ ?_;cbv)|(refine And.intro (by(clear b;subst hP;simp[ca,iU,nc] at* <;>first|omega|grind)) ?_;cbv))
  all_goals
   refine⟨_,a7.refl _,⟨(_,_,_,pre++[⟨kd,n,t⟩],rest),?_⟩,⟨rfl,rfl,rfl,rfl,rfl,trivial⟩,trivial,by simp⟩;clear b c;subst hP;simp[ca,nc,CE,zg,jy,gX] at*
   grind
 ·cbv;refine b _ _ (a7.refl _) ?_;have:rest=[]:=by
   cases rest with
   |nil=>rfl
   |cons p rest=>(exfalso;clear b;subst hP;simp[ca,nc] at*;first|omega|grind)
  subst this;simp only[aJ] at hd;cbv;rw[<-hr1,<-e,hd,<-hi,<-ho]
theorem zi(d:List Part)(a:d.length<=1600)(b:∀p∈d,oq p):Spec Tryz.prog 120 [.sl true 3 (d.map a6)] Hp.emp (Is (.tup [.int .i64 (jy d),.int .i64 (gX d)])):=
 eW gY GF [.int .i64 (jy d),.int .i64 (gX d)] (.tup _ (by simp;exact⟨.int _ _,.int _ _⟩)) λR c=>GG ca rfl _ _ d a b _ rfl _ _ rfl rfl R c
def zj:AC:=qr [qz 2 0] (qq (qr [qm 9 0,qo 10 (.len false (.t 9)),qc 11 .gtr 10 1600] (qu 11 (qr [qz 2 2] .ret) .skip)) (qr [qz 3 0] (qq (qr [qm 12 0,qo 13 (.len false (.t 12)),qz 14 0] (.block 0 (.loop (qr [qb 15 .lss 14 13] (qq (qu 15 .skip (.exit 0)) (qq (.block 1 (qr [qo 16 (.iaddr 3 (.t 12) (.t 14)),qd 17 3 16,qo 5 (.alloc 115 wj),qs 3 5 17] (qq (qr [qf 18 0 5,ql 19 18,qm 20 3,qb 21 .eql 19 20,qm 22 21,qg 23 22 false (.mov (.t 3)),qg 24 22 false (.bin .eql (.t 23) (qk 3)),qg 25 22 false (.mov (.t 24)),qg 26 25 true (.faddr 0 (.t 5)),qg 27 25 true (.load1 (.t 26)),qg 28 25 true (.bin .eql (.t 27) (qk 2)),qg 29 22 false (.pick (.t 25) (.t 28) (.c (.bool false))),qo 30 (.pick (.t 22) (.c (.bool true)) (.t 29))] (qu 30 (qr [qz 2 3] .ret) .skip)) (qq (qr [qd 31 3 5,qa 32 143 [.t 31],qm 6 32] (qr [qm 33 6,qc 34 .neq 33 0] (qu 34 (qr [qm 35 6,qm 2 35] .ret) .skip))) (qR [qf 36 0 5,ql 37 36,qm 3 37]))))) (qR [qc 38 .add 14 1,qm 14 38]))))))) (qq (qr [qm 40 0,qa 41 120 [.t 40],qm 39 41,qx 42 0 39,qx 43 1 39,qm 7 42,qm 8 43] (qr [qm 44 7,qm 45 8,qo 46 (.mm true (.t 44) (.t 45)),qc 47 .gtr 46 500] (qu 47 (qr [qz 2 2] .ret) .skip))) (qr [qz 2 0] .ret)))))
theorem GH:fo Tryz.prog 106 Tryz.f106 zj [.t 2] 1 eV:=⟨Tryz.func106,by decide+kernel,by kernel_rfl,by kernel_rfl,by decide+kernel⟩
theorem GI(P:Prim)(hP:P=ca)(T v:cp)(d:List Part)(w:d.length<=maxLen)(rows:List (List V))(dS:rows=d.map a6)(r:Int)(hr:cF d=r)
  (u:Int->Int->BS->Int)(g:∀k n t,u k n t=mi ⟨k,n,t⟩)(hc1:∀{k n t},fZ T 143 [.agg [qI k,qI n,.str t]] (qI (u k n t)))
  (a b:Int)(ha:a=jy d)(hb:b=gX d)(c:d.length<=1600->oI 0 d=0->fZ T 120 [.sl true 3 rows] (.tup [qI a,qI b]))
  (R:S->Prop)(e:∀s s',a7 s s'->hX [.t 2] [qI r] s'->R s):fX P T v zj (S0 [.sl true 3 rows] Hp.emp) R (λ_ _=>False) R:=by
 cbv;have hl:P.da rows=d.length:=by subst hP;simp[ca,dS]
 refine ab (λh=>?_) (λh=>?_)
 ·cbv;refine e _ _ (a7.refl _) ?_;cbv;clear e hc1 c;subst hP;subst hr;simp[ca,nc] at*;grind [cF]
 cbv;have i:d.length<=1600:=by clear e hc1 c;subst hP;simp[ca,nc] at*;omega
 refine⟨{y:Int×Int×List Part×List Part//d=y.2.2.1++y.2.2.2/\y.2.1=y.2.2.1.length/\oI 0 d=oI y.1 y.2.2.2},λy=>[(0,.sl true 3 rows),(3,qI y.1.1),(12,.sl true 3 rows),(13,qI (P.da rows)),(14,qI y.1.2.1)],λ_=>[],λy=>y.1.2.2.2.length,
  ⟨_,a7.refl _,⟨(0,0,[],d),rfl,rfl,rfl⟩,?_,?_⟩,?_⟩
 ·cbv
 ·cbv
 rintro⟨⟨last,k,pre,rest⟩,hd,hk,hc⟩
 dsimp only at hd hk hc
 cbv;have x:P.da rows=pre.length+rest.length:=by subst hP;simp[ca,dS,hd]
 refine ab (λh=>?_) (λh=>?_)
 ·rcases rest with _|⟨⟨kd,n,t⟩,rest⟩
  ·clear hc1 c;(exfalso;clear e;subst hP;simp[ca,nc] at*;first|omega|grind)
  cbv;have f:=m7 dS hd hk P hP;have hpl:pre.length<=1600:=by rw[hd] at i;simp at i;omega
  refine⟨by clear hc1 c;(clear e;subst hP;simp[ca,iU,nc] at* <;>first|omega|grind),_,f,?_⟩
  cbv;intro β;cbv;have hx:=g kd n t
  repeat'(first|(intro β;cbv)|(refine And.intro (by assumption) ?_;cbv)|(refine ab (λh=>?_) (λh=>?_)<;>try cbv)|(refine Exists.intro _ (And.intro (by assumption) ?_);cbv)|(refine hc1 _ _ ?_;cbv)|(refine c _ _ ?_;cbv)|(refine j _ _ ?_;cbv)|(refine l _ _ ?_;cbv)|(refine m _ _ ?_;cbv)|(refine o _ _ ?_;cbv)|(refine And.intro (by(clear e;subst hP;simp[ca,iU,nc] at* <;>first|omega|grind)) ?_;cbv))
  all_goals first
   |(refine e _ _ (a7.refl _) ?_
     cbv;clear e hc1 c f g;subst hP;subst hr;simp[ca,nc,oI] at*;grind [cF])
   |(refine⟨_,a7.refl _,⟨(_,_,pre++[⟨kd,n,t⟩],rest),?_⟩,⟨rfl,rfl,rfl,rfl,rfl,trivial⟩,trivial,by simp⟩
     clear e f hc1 c g;subst hP;simp[ca,nc,oI] at*
     grind)
 ·have:rest=[]:=by
   cases rest with
   |nil=>rfl
   |cons p rest=>clear hc1 c;(exfalso;clear e;subst hP;simp[ca,nc] at*;first|omega|grind)
  subst this;have q:oI 0 d=0:=hc;have j:=c i q;clear c;cbv
  repeat'(first|(intro β;cbv)|(refine And.intro (by assumption) ?_;cbv)|(refine ab (λh=>?_) (λh=>?_)<;>try cbv)|(refine Exists.intro _ (And.intro (by assumption) ?_);cbv)|(refine hc1 _ _ ?_;cbv)|(refine c _ _ ?_;cbv)|(refine j _ _ ?_;cbv)|(refine l _ _ ?_;cbv)|(refine m _ _ ?_;cbv)|(refine o _ _ ?_;cbv)|(refine And.intro (by(clear e;subst hP;simp[ca,iU,nc] at* <;>first|omega|grind)) ?_;cbv))
  all_goals
   refine e _ _ (a7.refl _) ?_;cbv;clear e hc1 j;subst hP;subst hr;simp[ca,nc] at*;grind [cF]
theorem nA(d:List Part)(a:d.length<=maxLen):Spec Tryz.prog 106 [.sl true 3 (d.map a6)] Hp.emp (Is (.int .i64 (cF d))):=
 eW gY GH [.int .i64 (cF d)] (.int _ _) λR b=>GI ca rfl _ _ d a _ rfl _ rfl (λk n t=>mi ⟨k,n,t⟩) (λ_ _ _=>rfl) (fU (PX ⟨_,_,_⟩) (λh=>.cons (.same _) .nil) rfl) _ _ rfl rfl
  (λh1 h2=>fU (zi d h1 (qv 0 d h2)) (λh=>.cons (.same _) .nil) rfl) R b
def GJ:AC:=qr [qz 2 0,qz 3 0,qz 4 0] (qq (qr [qm 8 0,qa 9 106 [.t 8],qm 5 9] (qr [qm 10 5,qc 11 .neq 10 0] (qu 11 (qr [qm 12 5,qz 2 0,qz 3 0,qm 4 12] .ret) .skip))) (qr [qm 14 0,qa 15 120 [.t 14],qm 13 15,qx 16 0 13,qx 17 1 13,qm 6 16,qm 7 17] (qr [qm 18 6,qm 19 7,qm 2 18,qm 3 19,qz 4 0] .ret)))
theorem PZ:fo Tryz.prog 87 Tryz.f87 GJ [.t 2,.t 3,.t 4] 1 eV:=⟨Tryz.func87,by decide+kernel,by kernel_rfl,by kernel_rfl,by decide+kernel⟩
def lO(d:List Part):Int×Int×Int:=if cF d=0 then(jy d,gX d,0) else(0,0,cF d)
theorem l7{d:List Part}(h:cF d=0):d.length<=1600/\oI 0 d=0/\jy d<=500/\gX d<=500:=by
 unfold cF at h
 grind
theorem P0(P:Prim)(hP:P=ca)(T m:cp)(d:List Part)(rows:List (List V))(r1 r2 r3:Int)(hr:lO d=(r1,r2,r3))
  (c:Int)(hc:cF d=c)(hc1:fZ T 106 [.sl true 3 rows] (qI c))
  (a b:Int)(ha:a=jy d)(hb:b=gX d)(e:c=0->fZ T 120 [.sl true 3 rows] (.tup [qI a,qI b]))
  (R:S->Prop)(f:∀s s',a7 s s'->hX [.t 2,.t 3,.t 4] [qI r1,qI r2,qI r3] s'->R s):fX P T m GJ (S0 [.sl true 3 rows] Hp.emp) R (λ_ _=>False) R:=by
 cbv;refine hc1 _ _ ?_;cbv;refine ab (λh=>?_) (λh=>?_)
 ·repeat'(first|(intro β;cbv)|(refine And.intro (by assumption) ?_;cbv)|(refine ab (λh=>?_) (λh=>?_)<;>try cbv)|(refine Exists.intro _ (And.intro (by assumption) ?_);cbv)|(refine hc1 _ _ ?_;cbv)|(refine e _ _ ?_;cbv)|(refine g _ _ ?_;cbv)|(refine i _ _ ?_;cbv)|(refine j _ _ ?_;cbv)|(refine k _ _ ?_;cbv)|(refine And.intro (by(clear f;subst hP;simp[ca,iU,nc] at* <;>first|omega|grind)) ?_;cbv))
  all_goals
   refine f _ _ (a7.refl _) ?_;cbv;clear f hc1 e;subst hP;simp[ca,nc] at*;grind [lO]
 ·have l:c=0:=by clear f hc1 e;subst hP;simp[ca,nc] at*;omega
  have g:=e l
  repeat'(first|(intro β;cbv)|(refine And.intro (by assumption) ?_;cbv)|(refine ab (λh=>?_) (λh=>?_)<;>try cbv)|(refine Exists.intro _ (And.intro (by assumption) ?_);cbv)|(refine hc1 _ _ ?_;cbv)|(refine e _ _ ?_;cbv)|(refine g _ _ ?_;cbv)|(refine i _ _ ?_;cbv)|(refine j _ _ ?_;cbv)|(refine k _ _ ?_;cbv)|(refine And.intro (by(clear f;subst hP;simp[ca,iU,nc] at* <;>first|omega|grind)) ?_;cbv))
  all_goals
   refine f _ _ (a7.refl _) ?_;cbv;clear f hc1 e g;subst hP;simp[ca,nc] at*;grind [lO]
theorem oM(d:List Part)(a:d.length<=maxLen):Spec Tryz.prog 87 [.sl true 3 (d.map a6)] Hp.emp (Is (.tup [.int .i64 (lO d).1,.int .i64 (lO d).2.1,.int .i64 (lO d).2.2])):=
 eW gY PZ [.int .i64 (lO d).1,.int .i64 (lO d).2.1,.int .i64 (lO d).2.2] (.tup _ (by simp;exact⟨.int _ _,.int _ _,.int _ _⟩)) λR b=>P0 ca rfl _ _ d _ _ _ _ rfl _ rfl (fU (nA d a) (λh=>.cons (.same _) .nil) rfl) _ _ rfl rfl
  (λh1=>fU (zi d (l7 h1).1 (qv 0 d (l7 h1).2.1)) (λh=>.cons (.same _) .nil) rfl) R b
def GK:AC:=qr [qz 2 0] (qr [qz 3 0] (qq (qr [qm 6 0,qo 7 (.len false (.t 6)),qz 8 0] (.block 0 (.loop (qr [qb 9 .lss 8 7] (qq (qu 9 .skip (.exit 0)) (qq (.block 1 (qr [qo 10 (.iaddr 3 (.t 6) (.t 8)),qd 11 3 10,qo 5 (.alloc 115 wj),qs 3 5 11] (qR [qm 12 3,qf 13 1 5,ql 14 13,qb 15 .add 12 14,qm 3 15]))) (qR [qc 16 .add 8 1,qm 8 16]))))))) (qr [qm 17 3,qm 2 17] .ret)))
theorem P1:fo Tryz.prog 90 Tryz.f90 GK [.t 2] 1 eV:=⟨Tryz.func90,by decide+kernel,by kernel_rfl,by kernel_rfl,by decide+kernel⟩
theorem P2(P:Prim)(hP:P=ca)(T e:cp)(d:List Part)(f:d.length<=1600)(a:∀p∈d,oq p)(rows:List (List V))(dS:rows=d.map a6)(r1:Int)(hr1:jy d=r1)
  (R:S->Prop)(b:∀s s',a7 s s'->hX [.t 2] [qI r1] s'->R s):fX P T e GK (S0 [.sl true 3 rows] Hp.emp) R (λ_ _=>False) R:=by
 cbv;refine⟨{y:Int×Int×List Part×List Part//d=y.2.2.1++y.2.2.2/\y.2.1=y.2.2.1.length/\y.1=jy y.2.2.1},λy=>[(3,qI y.1.1),(6,.sl true 3 rows),(7,qI (P.da rows)),(8,qI y.1.2.1)],λ_=>[],λy=>y.1.2.2.2.length,
  ⟨_,a7.refl _,⟨(0,0,[],d),rfl,rfl,rfl⟩,?_,?_⟩,?_⟩
 ·cbv
 ·cbv
 rintro⟨⟨i,k,pre,rest⟩,hd,hk,hi⟩
 dsimp only at hd hk hi
 cbv;have hl:P.da rows=pre.length+rest.length:=by subst hP;simp[ca,dS,hd]
 have g:d.length=pre.length+rest.length:=by rw[hd];simp
 refine ab (λh=>?_) (λh=>?_)
 ·rcases rest with _|⟨⟨kd,n,t⟩,rest⟩
  ·(exfalso;clear b;subst hP;simp[ca,nc] at*;first|omega|grind)
  cbv;have c:=m7 dS hd hk P hP;have hp:=gu (a ⟨kd,n,t⟩ (by simp[hd]));have hb1:=xO pre (λp hp=>a p (by simp[hd,hp]))
  repeat'(first|(intro β;cbv)|(refine And.intro (by assumption) ?_;cbv)|(refine ab (λh=>?_) (λh=>?_)<;>try cbv)|(refine Exists.intro _ (And.intro (by assumption) ?_);cbv)|(refine hc1 _ _ ?_;cbv)|(refine j _ _ ?_;cbv)|(refine l _ _ ?_;cbv)|(refine m _ _ ?_;cbv)|(refine o _ _ ?_;cbv)|(refine q _ _ ?_;cbv)|(refine And.intro (by(clear b;subst hP;simp[ca,iU,nc] at* <;>first|omega|grind)) ?_;cbv))
  all_goals
   refine⟨_,a7.refl _,⟨(_,_,pre++[⟨kd,n,t⟩],rest),?_⟩,⟨rfl,rfl,rfl,rfl,trivial⟩,trivial,by simp⟩;clear b c;subst hP;simp[ca,nc,CE,jy] at*
   grind
 ·cbv;refine b _ _ (a7.refl _) ?_;have:rest=[]:=by
   cases rest with
   |nil=>rfl
   |cons p rest=>(exfalso;clear b;subst hP;simp[ca,nc] at*;first|omega|grind)
  subst this;simp only[aJ] at hd;cbv;rw[<-hr1,hd,<-hi]
theorem lI(d:List Part)(a:d.length<=1600)(b:∀p∈d,oq p):Spec Tryz.prog 90 [.sl true 3 (d.map a6)] Hp.emp (Is (.int .i64 (jy d))):=
 eW gY P1 [.int .i64 (jy d)] (.int _ _) λR c=>P2 ca rfl _ _ d a b _ rfl _ rfl R c
def CG:AC:=qr [qz 2 0] (qr [qz 3 0] (qq (qr [qm 6 0,qo 7 (.len false (.t 6)),qz 8 0] (.block 0 (.loop (qr [qb 9 .lss 8 7] (qq (qu 9 .skip (.exit 0)) (qq (.block 1 (qr [qo 10 (.iaddr 3 (.t 6) (.t 8)),qd 11 3 10,qo 5 (.alloc 115 wj),qs 3 5 11] (qr [qf 12 0 5,ql 13 12,qc 14 .neq 13 3] (qu 14 (qR [qm 15 3,qf 16 1 5,ql 17 16,qf 18 2 5,ql 19 18,qo 20 (.len true (.t 19)),qb 21 .add 17 20,qb 22 .add 15 21,qm 3 22]) .skip)))) (qR [qc 23 .add 8 1,qm 8 23]))))))) (qr [qm 24 3,qm 2 24] .ret)))
theorem L0:fo Tryz.prog 130 Tryz.f130 CG [.t 2] 1 eV:=⟨Tryz.func130,by decide+kernel,by kernel_rfl,by kernel_rfl,by decide+kernel⟩
theorem L1(P:Prim)(hP:P=ca)(T e:cp)(d:List Part)(f:d.length<=1600)(a:∀p∈d,oq p)(rows:List (List V))(dS:rows=d.map a6)(r1:Int)(hr1:gX d=r1)
  (R:S->Prop)(b:∀s s',a7 s s'->hX [.t 2] [qI r1] s'->R s):fX P T e CG (S0 [.sl true 3 rows] Hp.emp) R (λ_ _=>False) R:=by
 cbv;refine⟨{y:Int×Int×List Part×List Part//d=y.2.2.1++y.2.2.2/\y.2.1=y.2.2.1.length/\y.1=gX y.2.2.1},λy=>[(3,qI y.1.1),(6,.sl true 3 rows),(7,qI (P.da rows)),(8,qI y.1.2.1)],λ_=>[],λy=>y.1.2.2.2.length,
  ⟨_,a7.refl _,⟨(0,0,[],d),rfl,rfl,rfl⟩,?_,?_⟩,?_⟩
 ·cbv
 ·cbv
 rintro⟨⟨i,k,pre,rest⟩,hd,hk,hi⟩
 dsimp only at hd hk hi
 cbv;have hl:P.da rows=pre.length+rest.length:=by subst hP;simp[ca,dS,hd]
 have g:d.length=pre.length+rest.length:=by rw[hd];simp
 refine ab (λh=>?_) (λh=>?_)
 ·rcases rest with _|⟨⟨kd,n,t⟩,rest⟩
  ·(exfalso;clear b;subst hP;simp[ca,nc] at*;first|omega|grind)
  cbv;have c:=m7 dS hd hk P hP;have hp:=gu (a ⟨kd,n,t⟩ (by simp[hd]));have hb1:=rj pre (λp hp=>a p (by simp[hd,hp]))
  repeat'(first|(intro β;cbv)|(refine And.intro (by assumption) ?_;cbv)|(refine ab (λh=>?_) (λh=>?_)<;>try cbv)|(refine Exists.intro _ (And.intro (by assumption) ?_);cbv)|(refine hc1 _ _ ?_;cbv)|(refine j _ _ ?_;cbv)|(refine l _ _ ?_;cbv)|(refine m _ _ ?_;cbv)|(refine o _ _ ?_;cbv)|(refine q _ _ ?_;cbv)|(refine And.intro (by(clear b;subst hP;simp[ca,iU,nc] at* <;>first|omega|grind)) ?_;cbv))
  all_goals
   refine⟨_,a7.refl _,⟨(_,_,pre++[⟨kd,n,t⟩],rest),?_⟩,⟨rfl,rfl,rfl,rfl,trivial⟩,trivial,by simp⟩;clear b c;subst hP;simp[ca,nc,zg,gX] at*
   grind
 ·cbv;refine b _ _ (a7.refl _) ?_;have:rest=[]:=by
   cases rest with
   |nil=>rfl
   |cons p rest=>(exfalso;clear b;subst hP;simp[ca,nc] at*;first|omega|grind)
  subst this;simp only[aJ] at hd;cbv;rw[<-hr1,hd,<-hi]
theorem rk(d:List Part)(a:d.length<=1600)(b:∀p∈d,oq p):Spec Tryz.prog 130 [.sl true 3 (d.map a6)] Hp.emp (Is (.int .i64 (gX d))):=
 eW gY L0 [.int .i64 (gX d)] (.int _ _) λR c=>L1 ca rfl _ _ d a b _ rfl _ rfl R c
inductive fP where
 |keep
 |put(b:UInt8)
 |cut
 deriving DecidableEq
def gK(p:Part):List fP:=if p.kind=2 then p.text.map .put else if p.kind=1 then List.replicate p.n.toNat .keep else List.replicate p.n.toNat .cut
def cm:List Part->List fP
 |[]=>[]
 |p::l=>gK p++cm l
theorem iO(a b:List Part):cm (a++b)=cm a++cm b:=by
 induction a with
 |nil=>rfl
 |cons p a ih=>simp[cm,ih]
def dE:List fP->List Bool
 |[]=>[]
 |.keep::ts=>true::dE ts
 |.cut::ts=>false::dE ts
 |.put _::ts=>dE ts
theorem ph(a b:List fP):dE (a++b)=dE a++dE b:=by
 induction a with
 |nil=>rfl
 |cons t a ih=>cases t<;>simp[dE,ih]
theorem pj(t:BS):dE (t.map .put)=[]:=by
 induction t with
 |nil=>rfl
 |cons b t ih=>simp[dE,ih]
def gx(b:UInt8):List BS->List BS
 |[]=>[[b]]
 |p::r=>(b::p)::r
def e9:List fP->List BS
 |[]=>[[]]
 |.put b::ts=>gx b (e9 ts)
 |.keep::ts=>[]::e9 ts
 |.cut::ts=>[]::e9 ts
def mS(l:List BS)(t:BS):List BS:=l.dropLast++[l.getLastD []++t]
theorem nS(ts:List fP):∃p r,e9 ts=p::r:=by
 induction ts with
 |nil=>exact⟨_,_,rfl⟩
 |cons t ts ih=>cases t<;>obtain⟨p,r,h⟩:=ih<;>simp[e9,h,gx]
theorem kR(ts:List fP):(e9 ts).length=(dE ts).length+1:=by
 induction ts with
 |nil=>rfl
 |cons t ts ih=>
  cases t
  ·simp[e9,dE,ih]
  ·obtain⟨p,r,h⟩:=nS ts;simp only[e9,dE,h,gx,ar] at*;exact ih
  ·simp[e9,dE,ih]
theorem rm(x:BS)(l:List BS)(t:BS)(h:l≠[]):mS (x::l) t=x::mS l t:=by
 cases l with
 |nil=>exact absurd rfl h
 |cons y l=>simp[mS]
theorem xP(ts:List fP)(t:BS):e9 (ts++t.map .put)=mS (e9 ts) t:=by
 induction ts with
 |nil=>
  simp only[bO,e9,mS];simp
  induction t with
  |nil=>rfl
  |cons b t ih=>simp[e9,ih,gx]
 |cons a ts ih=>
  obtain⟨p,r,h⟩:=nS ts;cases a
  ·simp only[ay,e9,ih];rw[rm _ _ _ (by rw[h];simp)]
  ·simp only[ay,e9,ih];rw[h];cases r with
   |nil=>simp[mS,gx]
   |cons y r=>simp[mS,gx]
  ·simp only[ay,e9,ih];rw[rm _ _ _ (by rw[h];simp)]
theorem wy(ts:List fP)(x:fP)(hx:x=.keep\/x=.cut):e9 (ts++[x])=e9 ts++[[]]:=by
 induction ts with
 |nil=>rcases hx with rfl|rfl<;>rfl
 |cons a ts ih=>
  obtain⟨p,r,h⟩:=nS ts;cases a
  ·simp[e9,ih]
  ·simp only[ay,e9,ih,h,gx]
  ·simp[e9,ih]
structure Mk where
 out:List Part
 put:BS
 cut:Int
def Mk.flush(m:Mk):List Part:=m.out++(if m.put=[] then[] else[⟨2,0,m.put⟩])++(if 0<m.cut then[⟨3,m.cut,[]⟩] else[])
def iP(o:List Part)(n:Int):List Part:=match o.getLast? with
 |some p=>if p.kind=1 then o.dropLast++[⟨1,p.n+n,p.text⟩] else o++[⟨1,n,[]⟩]
 |none=>[⟨1,n,[]⟩]
def Mk.fF(m:Mk)(n:Int):Mk:=if n=0 then m else⟨iP m.flush n,[],0⟩
def Mk.gm(m:Mk)(s:BS):Mk:=⟨m.out,m.put++s,m.cut⟩
def Mk.gZ(m:Mk)(n:Int):Mk:=⟨m.out,m.put,m.cut+n⟩
def Mk.new:Mk:=⟨[],[],0⟩
def Mk.tok(m:Mk):fP->Mk
 |.keep=>m.fF 1
 |.put b=>m.gm [b]
 |.cut=>m.gZ 1
def Mk.run(m:Mk)(ts:List fP):Mk:=ts.foldl Mk.tok m
theorem Mk.jC(m:Mk)(a b:List fP):m.run (a++b)=(m.run a).run b:=by simp[Mk.run]
theorem Mk.L2(m:Mk):m.run []=m:=rfl
theorem Mk.rn(m:Mk)(s:BS):m.run (s.map .put)=m.gm s:=by
 induction s generalizing m with
 |nil=>simp[Mk.run,Mk.gm]
 |cons b s ih=>
  have:=ih (m.tok (.put b));simp only[Mk.run,aL,dO] at*;rw[this];simp[Mk.tok,Mk.gm]
theorem Mk.uh(m:Mk)(n:Nat):m.run (List.replicate n .cut)=m.gZ n:=by
 induction n generalizing m with
 |zero=>simp[Mk.run,Mk.gZ]
 |succ n ih=>
  have:=ih (m.tok .cut);simp only[Mk.run,aB,dO] at*;rw[this];simp only[Mk.tok,Mk.gZ]
  congr 1
  omega
theorem wz(o:List Part)(n k:Int):iP (iP o n) k=iP o (n+k):=by
 unfold iP;cases h:o.getLast? with
 |none=>simp
 |some p=>
  by_cases hk:p.kind=1
  ·simp[hk,Int.add_assoc]
  ·simp[hk]
theorem Mk.GL(o:List Part):(Mk.mk o [] 0).flush=o:=by simp[Mk.flush]
theorem Mk.BF(m:Mk)(n k:Int)(hn:0<=n)(hk:0<=k):(m.fF n).fF k=m.fF (n+k):=by
 unfold Mk.fF
 by_cases h1:n=0
 ·subst h1;simp
 ·by_cases h2:k=0
  ·subst h2;simp[h1]
  ·rw[aa h2,aa h1,aa qW,Mk.GL,wz]
theorem Mk.oN(m:Mk)(n:Nat):m.run (List.replicate n .keep)=m.fF n:=by
 induction n generalizing m with
 |zero=>simp[Mk.run,Mk.fF]
 |succ n ih=>
  have:=ih (m.tok .keep);simp only[Mk.run,aB,dO] at*;rw[this];simp only[Mk.tok];rw[Mk.BF _ _ _ qW qW]
  congr 1
  omega
def nT(ts:List fP):List Part:=(Mk.new.run ts).flush
open Go.BigFrame
open Go.RowKit (Below)
inductive Fr(h:Hp):V->V->Prop
 |same (v:V) (hz:Fz v):Fr h v v
 |nilsl (sz:Nat):Fr h .nilsl (.sl false sz [])
 |own (k:Nat) (b:Option Nat) (sz n:Nat) (o:Ob) (rows:List (List V)) (hk:h k=some o) (hb:o.b=b) (hs:o.sz=sz) (hn:rows.length=n) (hw:∀r∈rows,r.length=sz) (hl:n<=o.rows.length) (yJ:∀(i:Nat)(r r':List V),o.rows[i]? =some r->rows[i]? =some r'->r.length=r'.length)
   (hr:∀(i j:Nat)(r r':List V)(v v':V),o.rows[i]? =some r->rows[i]? =some r'->r[j]? =some v->r'[j]? =some v'->Fr h v v'):Fr h (.own k b sz n) (.sl false sz rows)
 |agg (cs kp:List V) (hl:cs.length=kp.length) (hr:∀(i:Nat)(v v':V),cs[i]? =some v->kp[i]? =some v'->Fr h v v'):Fr h (.agg cs) (.agg kp)
 |tup (cs kp:List V) (hl:cs.length=kp.length) (hr:∀(i:Nat)(v v':V),cs[i]? =some v->kp[i]? =some v'->Fr h v v'):Fr h (.tup cs) (.tup kp)
def Made(F:Nat->Prop)(h:Hp)(b:Nat):Prop:=F b\/∃k o,h k=some o/\o.b=some b
theorem Fr.rel{C:Ctx}{F:Nat->Prop}{h:Hp}{w:World}(hs:gg C F h w){v v':V}(hf:Fr h v v'):∀{u:Value},Rel F C.B w v u->Rel (Made F h) (λ_=>False) w v' u:=by
 induction hf with
 |same v hz=>exact λhr=>(hr.mono (F':=Made F h) (B':=C.B) (λb hb=>.inl hb) (λb hb=>.inr hb)).fz hz
 |nilsl sz=>intro u hr;cases hr;exact .slnil _ _
 |own k b sz n o rows hk hb hsz hn hw hl yJ hr ih=>
  intro u hv;cases hv with
  |ownnil=>have:rows=[]:=aq hn;subst this;exact .slnil _ _
  |own _ b' _ n' cap c e fr d x hm p=>
   have ho:=hs.ob k o hk;unfold fy at ho;rw[hb] at ho;obtain⟨c',t,f,h1,h2,h3,h4,h5⟩:=ho;rw[d] at f;cases f;subst hn;refine .sl false sz rows b' 0 cap (λi j=>(c[i*sz+j]?).getD undef) (.inl (.inr ⟨k,o,hk,hb⟩)) p hw (λi j r v hi hj=>?_) (λi j r v hi hj=>?_)
   ·have q:=(ah.1 hi).1;have s:=(ah.1 hj).1;have a:o.rows[i]? =some (o.rows[i]'qW):=af qW;have hlen:=yJ i _ r a hi;obtain⟨u,hu,g,l⟩:=h5 i j _ _ a (af qW);rw[hsz] at hu;rw[hu,cell_of_row w b' _ c o.ty (0,0) d];have:i*sz+j<c.size:=(aD.1 hu).1;refine⟨?_,g⟩;rw[aS];exact hu
   ·have q:=(ah.1 hi).1;have s:=(ah.1 hj).1;have a:o.rows[i]? =some (o.rows[i]'qW):=af qW;have hlen:=yJ i _ r a hi;have m:(o.rows[i]'qW)[j]? =some ((o.rows[i]'qW)[j]'qW):=af qW;obtain⟨u,hu,g,l⟩:=h5 i j _ _ a m;rw[hsz] at hu;rw[hu];exact ih i j _ r _ v a hi m hj l
 |agg cs kp hl hr ih=>
  intro u hv;cases hv with
  |agg _ us hsz ko=>
   refine .agg kp us qW λi v u hv hu=>?_;have hi:i<cs.length:=by have:=(ah.1 hv).1;omega
   exact ih i cs[i] v (af hi) hv (ko i cs[i] u (af hi) hu)
 |tup cs kp hl hr ih=>
  intro u hv;cases hv with
  |tup _ us hsz ko=>
   refine .tup kp us qW λi v u hv hu=>?_;have hi:i<cs.length:=by have:=(ah.1 hv).1;omega
   exact ih i cs[i] v (af hi) hv (ko i cs[i] u (af hi) hu)
theorem Fr.rows{h:Hp}{k sz n:Nat}{b:Option Nat}{o:Ob}(hk:h k=some o)(hb:o.b=b)(hs:o.sz=sz)(hn:o.rows.length=n)(hw:∀r∈o.rows,r.length=sz)(hz:∀r∈o.rows,∀v∈r,Fz v):Fr h (.own k b sz n) (.sl false sz o.rows):=
 .own k b sz n o o.rows hk hb hs hn hw qW (λi r r' h1 h2=>by rw[h1] at h2;cases h2;rfl) λi j r r' v v' h1 h2 h3 h4=>by
  rw[h1] at h2;cases h2;rw[h3] at h4;cases h4;exact .same _ (hz r (az h1) v (az h3))
theorem Fr.ry{h:Hp}:Fr h (.agg []) (.agg []):=.agg _ _ rfl (by simp)
theorem Fr.ga{h:Hp}{v v':V}{cs kp:List V}(h1:Fr h v v')(h2:Fr h (.agg cs) (.agg kp)):Fr h (.agg (v::cs)) (.agg (v'::kp)):=by
 have key:cs.length=kp.length/\∀(i:Nat)(v v':V),cs[i]? =some v->kp[i]? =some v'->Fr h v v':=by
  cases h2 with
  |same _ hz=>
   cases hz with
   |agg _ hz=>exact⟨rfl,λi v v' a b=>by rw[a] at b;cases b;exact .same _ (hz _ (az a))⟩
  |agg _ _ hl hr=>exact⟨hl,hr⟩
 refine .agg _ _ (by simp[key.1]) λi v v' a b=>?_;cases i with
 |zero=>simp at a b;subst a b;exact h1
 |succ i=>exact key.2 i v v' (by simpa using a) (by simpa using b)
theorem Fr.pk{h:Hp}:Fr h (.tup []) (.tup []):=.tup _ _ rfl (by simp)
theorem Fr.ir{h:Hp}{v v':V}{cs kp:List V}(h1:Fr h v v')(h2:Fr h (.tup cs) (.tup kp)):Fr h (.tup (v::cs)) (.tup (v'::kp)):=by
 have key:cs.length=kp.length/\∀(i:Nat)(v v':V),cs[i]? =some v->kp[i]? =some v'->Fr h v v':=by
  cases h2 with
  |same _ hz=>
   cases hz with
   |tup _ hz=>exact⟨rfl,λi v v' a b=>by rw[a] at b;cases b;exact .same _ (hz _ (az a))⟩
  |tup _ _ hl hr=>exact⟨hl,hr⟩
 refine .tup _ _ (by simp[key.1]) λi v v' a b=>?_;cases i with
 |zero=>simp at a b;subst a b;exact h1
 |succ i=>exact key.2 i v v' (by simpa using a) (by simpa using b)
def zk(rv:List RV)(v':V)(s:S):Prop:=m6 s rv λvs=>Fr s.h (nx vs) v'
theorem hH{P:Program}{f:Nat}{fn:Func}{ac:AC}{rv:List RV}{args:List V}{v':V}{D:Array Oper->List AO->Bool}(y:lH P D)(ok:fo P f fn ac rv args.length D)
  (hK:∀R,(∀s s',a7 s s'->zk rv v' s'->R s)->fX ca (fa P) (fj P) ac (S0 args Hp.emp) R (λ_ _=>False) R):Spec P f args Hp.emp (Is v'):=by
 obtain⟨c,hb,hc⟩:=bT.1 ok.body;refine⟨⟨fn,ok.func,ok.name,c,hb⟩,λt us l hl d _=>?_⟩
 let C:Ctx:=⟨t.w0,t.F0,t.B,λ_=>False⟩
 have x:C.Ok:=⟨λb hb=>⟨(l.F0 b hb).1,λh=>h⟩,λb hb=>⟨(l.B b hb).1,λh=>h⟩,λb hb=>hb.elim⟩;have g:∀(i:Nat)(v:V)(u:Value),args[i]? =some v->us[i]? =some u->Rel C.F0 C.B C.w0 v u:=d;refine calls_of_wp ok.func hb ?_;have hs0:gg C C.F0 Hp.emp C.w0:=⟨λk o hk=>by simp[Hp.emp] at hk,λk k' o o' b hk=>by simp[Hp.emp] at hk,λk o b hk=>by simp[Hp.emp] at hk,λb hb=>.inl hb,λb hb=>hb,λb hb=>(x.F0 b hb).1,Ev.refl _ _⟩;have m:Sat C fn.ntmps (S0 args Hp.emp) {tmps:=us++Array.replicate (fn.ntmps-us.size) undef,defers:=[]} C.w0:=by
  have hn:=ok.args;refine⟨⟨C.F0,hs0,λi=>?_⟩,rfl,by simp;omega⟩;simp only[S0,Bz]
  by_cases hi:i<args.length
  ·have hi':i<us.size:=by omega
   have h1:args[i]? =some (args.getD i .gS):=by rw[aA,af hi];rfl
   have h2:us[i]? =some ((us++Array.replicate (fn.ntmps-us.size) undef).getD i undef):=by
    simp[hi',cl]
   exact g i _ _ h1 h2
  ·have h1:args.getD i .gS=.gS:=by rw[aA,ct qW];rfl
   rw[h1];exact .gS _
 let fin:S->Prop:=λs=>∃s',a7 s s'/\zk rv v' s'
 refine wp_mono (wY y x c ac _ _ _ fin (λ_ _=>False) fin hc m (hK fin λs s' he hr=>⟨s',he,hr⟩)) λe w w' hq=>?_;have last:(∃s,Sat C fn.ntmps s w w'/\fin s)->w.defers=[]/\∃v,(results fn w.tmps).run P w'=.ok v w'/\∃u n h' F',Ending.returned v=.returned u/\Rel F' (λ_=>False) w' n u/\gg t.nb F' h' w'/\Is v' n h':=by
  rintro⟨s1,hs1,s2,p,q⟩;have hs2:=p C _ w w' x hs1;obtain⟨F,hh,hr⟩:=hs2.ex;obtain⟨vs,a,h1,h2,h3,h4⟩:=CB hh hr _ _ _ ok.res q;have r:Rel F C.B w' (nx vs) (if h:a.toArray.size=1 then a.toArray[0] else .tuple a.toArray):=by
   match vs,a,h2,h3 with
   |[],[],_,_=>exact .tup _ _ rfl (by simp)
   |[v],[u],_,h3=>exact h3 0 v u rfl rfl
   |v1::v2::vs,z::A::a,h2,h3=>
    have hne:¬((z::A::a).toArray.size=1):=by simp
    rw[dif_neg hne];exact .tup _ _ (by simpa using h2) λi v u hv hu=>h3 i v u hv (by simpa using hu)
  refine⟨hs2.df,_,tH h1,_,v',Hp.emp,Made F s2.h,rfl,Fr.rel hh h4 r,⟨λk o hk=>by simp[Hp.emp] at hk,λk k' o o' b hk=>by simp[Hp.emp] at hk,λk o b hk=>by simp[Hp.emp] at hk,λb hb=>?_,λb hb=>.inl (hh.new b hb),λb hb=>?_,?_⟩,rfl,rfl⟩
  ·rcases hb with hb|⟨k,o,hk,hb⟩
   ·rcases hh.jq b hb with h|h|h
    ·exact .inl h
    ·exact h.elim
    ·exact .inr (.inr h)
   ·rcases(hh.live k o b hk hb).2 with h|h
    ·exact h.elim
    ·exact .inr (.inr h)
  ·rcases hb with hb|⟨k,o,hk,hb⟩
   ·exact hh.lt b hb
   ·exact(hh.ob k o hk).lt hb
  ·exact hh.ev.mono λb _ h=>h.elim
 cases e with
 |normal=>exact last hq
 |ret=>exact last hq
 |exit j=>obtain⟨_,_,h⟩:=hq;exact h.elim
 |_=>exact hq.elim
theorem kf{P:Program}{f:Nat}{args:List V}{us0:Array Value}{v:V}{u0:Value}(hf:∃fn,P.funcs[f]? =some fn∧fn.name≠ "runtime.NumGoroutine" ∧∃c,fn.body=some c)
  (d:∀(F B:Nat->Prop)(w:World)(us:Array Value),us.size=args.length->(∀(i:Nat)(v:V)(u:Value),args[i]? =some v->us[i]? =some u->Rel F B w v u)->us=us0)
  (hv:∀(F B:Nat->Prop)(w:World),Rel F B w v u0)(h:∀w,Calls P f us0 w λe w'=>e=.returned u0/\Below w.heap.size w w'):Spec P f args Hp.emp (Is v):=by
 refine⟨hf,λC us j hl a _=>?_⟩;rw[d _ _ _ us hl a];refine(h C.w0).mono ?_;rintro e w' ⟨rfl,hb⟩;refine⟨u0,v,Hp.emp,C.F0,rfl,hv _ _ _,⟨λk o hk=>by simp[Hp.emp] at hk,λk k' o o' b hk=>by simp[Hp.emp] at hk,λk o b hk=>by simp[Hp.emp] at hk,λb hb=>.inl hb,λb hb=>hb,λb g=>bE (j.F0 b g).1 hb.size,?_⟩,rfl,rfl⟩;exact⟨hb.os,hb.tape,hb.output,hb.size,λb hlt _=>hb.block b hlt,λb c e fr hc=>⟨c,fr,by rw[hb.block b (aD.1 hc).1];exact hc,rfl⟩⟩
theorem jj.refl(h:Hp):jj h h:=λ_ F _ _ hs=>⟨F,λ_ h=>h,hs⟩
theorem jj.trans{a b c:Hp}(h:jj a b)(h':jj b c):jj a c:=λC F w d hs=>by
 obtain⟨e,h1,hs1⟩:=h C F w d hs;obtain⟨f,h2,hs2⟩:=h' C e w d hs1;exact⟨f,λb hb=>h2 b (h1 b hb),hs2⟩
theorem jj.mT{h:Hp}{k k' ty sz r c:Nat}{o:Ob}{row:List V}(hk:h k=some o)(hr:o.rows[r]? =some row)(hc:row[c]? =some .nilsl)(s:h k'=none):
  jj h (Hp.put (Hp.put h k ⟨o.b,o.ty,o.sz,o.rows.set r (row.set c (.own k' none sz 0))⟩) k' ⟨none,ty,sz,[]⟩):=by
 intro C F w H hs;refine⟨F,λ_ h=>h,?_⟩;have hne:k≠k':=λe=>by rw[e,s] at hk;cases hk
 have look:∀j q,(Hp.put (Hp.put h k ⟨o.b,o.ty,o.sz,o.rows.set r (row.set c (.own k' none sz 0))⟩) k' ⟨none,ty,sz,[]⟩) j=some q->
   (j=k'/\q=⟨none,ty,sz,[]⟩)\/(j≠k'/\j=k/\q=⟨o.b,o.ty,o.sz,o.rows.set r (row.set c (.own k' none sz 0))⟩)\/(j≠k'/\j≠k/\h j=some q):=by
  intro j q hj;simp only[Hp.put] at hj
  by_cases h1:j=k'
  ·rw[ae h1] at hj;cases hj;exact .inl ⟨h1,rfl⟩
  ·rw[aa h1] at hj
   by_cases h2:j=k
   ·rw[ae h2] at hj;cases hj;exact .inr (.inl ⟨h1,h2,rfl⟩)
   ·rw[aa h2] at hj;exact .inr (.inr ⟨h1,h2,hj⟩)
 have a:∀j q b,(Hp.put (Hp.put h k ⟨o.b,o.ty,o.sz,o.rows.set r (row.set c (.own k' none sz 0))⟩) k' ⟨none,ty,sz,[]⟩) j=some q->q.b=some b->∃n,h j=some n/\n.b=some b:=by
  intro j q b hj hb
  rcases look j q hj with⟨_,rfl⟩|⟨_,rfl,rfl⟩|⟨_,_,hq⟩
  ·cases hb
  ·exact⟨o,hk,hb⟩
  ·exact⟨q,hq,hb⟩
 refine⟨λj q hj=>?_,λj E q n b hj t hb x=>?_,λj q b hj hb=>?_,hs.jq,hs.new,hs.lt,hs.ev⟩
 ·rcases look j q hj with⟨_,rfl⟩|⟨_,rfl,rfl⟩|⟨_,_,hq⟩
  ·exact(show fy F C.B w ⟨none,ty,sz,[]⟩ from rfl)
  ·have ho:=hs.ob j o hk;unfold fy at ho⊢;simp only;cases hb:o.b with
   |none=>
    rw[hb] at ho;simp only at ho⊢;rw[ho] at hr;simp at hr
   |some b=>
    rw[hb] at ho;obtain⟨cs,cap,h1,h2,h3,h4,h5,h6⟩:=ho;have yJ:=(ah.1 hr).1;refine⟨cs,cap,h1,h2,h3,by simpa using h4,λr' y=>?_,λi l r' v hi hl=>?_⟩
    ·rcases eh y with h|h
     ·exact h5 r' h
     ·rw[h,eC];exact h5 row (az hr)
    ·rw[cz] at hi
     by_cases f:r=i
     ·subst f;rw[ae rfl,ae yJ] at hi;cases hi;rw[cz] at hl
      by_cases g:c=l
      ·subst g;rw[ae rfl] at hl;obtain⟨u,hu,z,A⟩:=h6 r c row .nilsl hr hc
       split at hl
       ·cases hl;refine⟨u,hu,z,?_⟩;cases A;exact .ownnil _ _
       ·cases hl
      ·rw[aa g] at hl;exact h6 r l row v hr hl
     ·rw[aa f] at hi;exact h6 i l r' v hi hl
  ·exact hs.ob j q hq
 ·obtain⟨p,hp,d⟩:=a j q b hj hb;obtain⟨G,D,m⟩:=a E n b t x;exact hs.inj j E p G b hp D d m
 ·obtain⟨p,hp,d⟩:=a j q b hj hb;exact hs.live j p b hp d
def V.pl:V->Bool
 |.own .. =>false
 |.win .. =>false
 |.ptr .. =>false
 |.agg _=>false
 |.tup _=>false
 |_=>true
theorem V.GM{v:V}(h:v.pl=true)(f:Nat->Nat):v.gA f=v:=by cases v<;>first|rfl|cases h
theorem gf{h:Hp}{m:List (Nat×Nat)}:∀{l:List V},l.all V.pl=true->k6 h m l l
 |[],_=>.nil
 |v::l,hl=>by
  simp only[List.all_cons,aO] at hl;refine .cons ?_ (gf hl.2);have:=Arg.same (h:=h) (m:=m) v
  rwa[V.GM hl.1] at this
theorem OP{P:Program}{f k sz:Nat}{b:Option Nat}{rest:List V}{o:Ob}{post:V->List (Nat×Ob)->Prop}(hs:Spec P f (.ptr 0 b sz 0 0::rest) (b7 [(0,o)]) λv' h'=>∃d,post v' d/\h'=b7 d)(a:∀v d,post v d->∃o',d=[(0,o')])
  (c:rest.all V.pl=true)(ho:∀g,o.gA g=o)(hz:o.Fz){h:Hp}{K:V->Hp->Prop}(hk:h k=some o)(hK:∀v o',post v [(0,o')]->K (v.gA (gI [(0,k)])) (h.put k (o'.gA (gI [(0,k)])))):fa P f (.ptr k b sz 0 0::rest) h K:=by
 refine⟨h,jj.refl h,[(0,k)],_,_,_,hs,.cons ?_ (gf c),λj q hj=>?_,λp hp=>?_,?_⟩
 ·have:=Arg.same (h:=h) (m:=[(0,k)]) (.ptr k b sz 0 0);simpa[V.gA,V.rl,gT] using this
 ·simp only[b7] at hj
  split at hj
  ·rename_i h0;exact⟨(0,k),by simp,h0.symm⟩
  ·cases hj
 ·simp only[aw] at hp;subst hp;refine⟨by simp[gI],by simp[gT],λq hq=>?_⟩;simp only[b7,↓reduceIte,aH] at hq;subst hq;exact⟨by rw[hk,aN,ho],hz⟩
 ·rintro v' h' ⟨d,hp,rfl⟩;obtain⟨o',rfl⟩:=a _ _ hp;have e:h.iX [(0,k)] (b7 [(0,o')])=h.put k (o'.gA (gI [(0,k)])):=by
   funext i
   unfold Hp.iX Hp.put;simp only[cC,cY,cN,bU]
   by_cases hi:k=i
   ·rw[ae hi,ae hi.symm,<-hi];simp[gT,b7]
   ·rw[aa hi,aa (λe=>hi e.symm)]
  rw[e];exact hK v' o' hp
theorem eS{s:S}:∀(rv:List RV)(K K':List V->Prop),(∀x,K x->K' x)->m6 s rv K->m6 s rv K':=by
 intro rv
 induction rv with
 |nil=>intro K K' hK h;exact hK _ h
 |cons r rv ih=>
  intro K K' hK h;cases r with
  |t i=>exact ih _ _ (λx hx=>hK _ hx) h
  |c1 i=>
   simp only[m6] at h⊢;unfold oC at h⊢
   split at h
   ·unfold tX at h⊢
    split at h
    ·obtain⟨a1,a2,a3,a4,a5⟩:=h;exact⟨a1,a2,a3,a4,ih _ _ (λx hx=>hK _ hx) a5⟩
    ·exact h.elim
   ·exact⟨h.1,ih _ _ (λx hx=>hK _ hx) h.2⟩
   ·exact h.elim
  |cn i n=>
   simp only[m6] at h⊢;unfold oD at h⊢
   split at h
   ·unfold tX at h⊢
    split at h
    ·obtain⟨a1,a2,a3,a4,a5⟩:=h;exact⟨a1,a2,a3,a4,ih _ _ (λx hx=>hK _ hx) a5⟩
    ·exact h.elim
   ·exact⟨h.1,ih _ _ (λx hx=>hK _ hx) h.2⟩
   ·exact h.elim
theorem fe{P:Program}{f:Nat}{fn:Func}{ac:AC}{rv:List RV}{args:List V}{L:List (Nat×Ob)}{D:Array Oper->List AO->Bool}(e:lH P D)(ok:fo P f fn ac rv args.length D)(post:V->List (Nat×Ob)->Prop)
  (h:∀R:S->Prop,(∀(s s':S)(v:V)(a:List (Nat×Ob)),a7 s s'->m6 s' rv (λx=>nx x=v)->fh a s'->Fz v->(∀p∈a,p.2.Fz)->post v a->R s)->fX ca (fa P) (fj P) ac (S0 args (b7 L)) R (λ_ _=>False) R):
  Spec P f args (b7 L) (λv h'=>∃a,post v a/\h'=b7 a):=by
 obtain⟨c,hc,b⟩:=bT.1 ok.body;refine CC e ok.func ok.name hc b ok.res ok.args (h _ λs s' v a he hr ha hz d hp=>⟨s',he,?_⟩);refine eS rv _ _ (λx hx=>?_) hr;subst hx;refine⟨hz,b7 a,λk o hk=>?_,a,hp,rfl⟩;refine⟨tF ha k o hk,?_⟩;have:∀(l:List (Nat×Ob)),(∀p∈l,p.2.Fz)->∀k o,b7 l k=some o->o.Fz:=by
  intro l
  induction l with
  |nil=>intro _ k o hk;cases hk
  |cons p l ih=>
   intro hl k o hk;simp only[b7] at hk
   split at hk
   ·cases hk;exact hl p (by simp)
   ·exact ih (λq hq=>hl q (by simp[hq])) k o hk
 exact this a d k o hk
def FR(b ka:Nat)(ba:Option Nat)(n:Nat)(put:BS)(cut:Int):Ob:=⟨some b,182,3,[[.own ka ba 3 n,.str put,.int .i64 cut]]⟩
def GN(ba:Option Nat)(rows:List (List V)):Ob:=⟨ba,115,3,rows⟩
def FT(b:Nat)(ba:Option Nat)(m:Mk):List (Nat×Ob):=[(0,FR b 1000000 ba m.out.length m.put m.cut),(1000000,GN ba (m.out.map a6))]
theorem BG(p:Part):∀v∈a6 p,Fz v:=by
 intro v hv;simp only[a6,ax,aF,bj] at hv
 rcases hv with rfl|rfl|rfl
 ·exact .int _ _
 ·exact .int _ _
 ·exact .str _
theorem ff(d:List Part):∀r∈d.map a6,∀v∈r,Fz v:=by
 intro r hr;obtain⟨p,_,rfl⟩:=aC.1 hr;exact BG p
theorem GO{b ka n:Nat}{ba:Option Nat}{put:BS}{cut:Int}:(FR b ka ba n put cut).Fz:=by
 intro r hr v hv;simp only[FR,aw] at hr;subst hr;simp only[ax,aF,bj] at hv
 rcases hv with rfl|rfl|rfl
 ·exact .own _ _ _ _
 ·exact .str _
 ·exact .int _ _
theorem GP{ba:Option Nat}{d:List Part}:(GN ba (d.map a6)).Fz:=ff d
def ml(f:Nat)(args:List V)(m m':Mk)(r:Option Nat->V):Prop:=∀b ba,Spec Tryz.prog f (.ptr 0 (some b) 3 0 0::args) (b7 (FT b ba m)) (λv h'=>∃c,(∃a,v=r a/\c=FT b a m')/\h'=b7 c)
theorem L4{f:Nat}{fn:Func}{ac:AC}{rv:List RV}{args:List V}{D:Array Oper->List AO->Bool}(d:lH Tryz.prog D)(ok:fo Tryz.prog f fn ac rv (args.length+1) D){m m':Mk}(r:Option Nat->V)(hr:∀ba,Fz (r ba))
  (h:∀(b:Nat)(ba:Option Nat)(R:S->Prop),(∀(s s':S)(a:Option Nat),a7 s s'->m6 s' rv (λx=>nx x=r a)->s'.h 0=some (FR b 1000000 a m'.out.length m'.put m'.cut)->s'.h 1000000=some (GN a (m'.out.map a6))->R s)->
   fX ca (fa Tryz.prog) (fj Tryz.prog) ac (S0 (.ptr 0 (some b) 3 0 0::args) (b7 (FT b ba m))) R (λ_ _=>False) R):ml f args m m' r:=λb ba=>
 fe d ok (λv e=>∃a,v=r a/\e=FT b a m') λR g=>h b ba R λs s' a he c h0 h1=>g s s' (r a) (FT b a m') he c ⟨h0,h1,trivial⟩ (hr a)
  (by intro p hp;simp only[FT,ax,aF,bj] at hp;rcases hp with rfl|rfl;exact GO;exact GP) ⟨a,rfl,rfl⟩
theorem jk:∀{L:List (Nat×Ob)}{k:Nat}{o:Ob},b7 L k=some o->(k,o)∈L
 |[],_,_,h=>by cases h
 |(j,q)::L,k,o,h=>by
  simp only[b7] at h
  split at h
  ·rename_i hk;cases h;rw[hk];exact bS
  ·exact bM _ (jk h)
theorem oe{P:Program}{f:Nat}{args args':List V}{L:List (Nat×Ob)}{m:List (Nat×Nat)}{post:V->List (Nat×Ob)->Prop}(hs:Spec P f args' (b7 L) λv' h'=>∃a,post v' a/\h'=b7 a){h:Hp}{K:V->Hp->Prop}(ha:k6 h m args args')
  (b:∀k o,b7 L k=some o->∃q∈m,q.1=k)(hm:∀q∈m,gI m q.1=q.2/\gT m q.2=q.1/\∀o,b7 L q.1=some o->(h q.2).map (Ob.gA (gT m))=some o/\o.Fz)
  (hK:∀v a,post v a->K (v.gA (gI m)) (h.iX m (b7 a))):fa P f args h K:=
 ⟨h,jj.refl h,m,args',b7 L,_,hs,ha,b,hm,by rintro v h' ⟨a,hp,rfl⟩;exact hK v a hp⟩
theorem pn(d:List Part)(f:Nat->Nat):(d.map a6).map (·.map (V.rl f))=d.map a6:=by
 simp[ew,Function.comp_def,a6,V.rl]
theorem L5(ba:Option Nat)(d:List Part)(f:Nat->Nat):(GN ba (d.map a6)).gA f=GN ba (d.map a6):=by
 simp only[Ob.gA,GN,pn]
theorem L6(b ka n:Nat)(ba:Option Nat)(put:BS)(cut:Int)(f:Nat->Nat):(FR b ka ba n put cut).gA f=FR b (f ka) ba n put cut:=by
 simp[Ob.gA,FR,V.rl]
theorem L7{f:Nat}{args args':List V}{m m':Mk}{r:Option Nat->V}(hs:ml f args' m m' r){h:Hp}{K:V->Hp->Prop}{k ka b:Nat}{ba:Option Nat}(hne:k≠ka)(d:∀h,k6 h [(0,k),(1000000,ka)] args args')
  (hk:h k=some (FR b ka ba m.out.length m.put m.cut))(g:h ka=some (GN ba (m.out.map a6)))
  (hK:∀a,K ((r a).gA (gI [(0,k),(1000000,ka)])) (Hp.put (Hp.put h k (FR b ka a m'.out.length m'.put m'.cut)) ka (GN a (m'.out.map a6)))):fa Tryz.prog f (.ptr k (some b) 3 0 0::args) h K:=by
 have c:¬ka=k:=λe=>hne e.symm;refine oe (hs b ba) (m:=[(0,k),(1000000,ka)]) (.cons ?_ (d h)) (λj o hj=>?_) (λq hq=>?_) ?_
 ·have:=Arg.same (h:=h) (m:=[(0,k),(1000000,ka)]) (.ptr k (some b) 3 0 0);simpa[V.gA,V.rl,gT] using this
 ·simp only[FT,b7] at hj
  split at hj
  ·rename_i h0;exact⟨(0,k),by simp,h0.symm⟩
  ·split at hj
   ·rename_i h0;exact⟨(1000000,ka),by simp,h0.symm⟩
   ·cases hj
 ·simp only[ax,aF,bj] at hq
  rcases hq with rfl|rfl
  ·refine⟨by simp[gI],by simp[gT],λo ho=>?_⟩;simp only[FT,b7,↓reduceIte,aH] at ho;subst ho;exact⟨by rw[hk];simp[Ob.gA,FR,V.rl,gT,c],GO⟩
  ·refine⟨by simp[gI],by simp[gT,c],λo ho=>?_⟩;simp[FT,b7] at ho;subst ho;exact⟨by rw[g];simp only[aN,Ob.gA,GN,pn],GP⟩
 ·rintro v l ⟨a,rfl,rfl⟩;have e:h.iX [(0,k),(1000000,ka)] (b7 (FT b a m'))=Hp.put (Hp.put h k (FR b ka a m'.out.length m'.put m'.cut)) ka (GN a (m'.out.map a6)):=by
   funext i
   by_cases h1:ka=i
   ·subst h1;simp[Hp.iX,Hp.put,gT,FT,b7,c,L5]
   ·by_cases h2:k=i
    ·subst h2;simp[Hp.iX,Hp.put,gT,FT,b7,h1,hne,L6,gI]
    ·have h3:¬i=ka:=λe=>h1 e.symm;have h4:¬i=k:=λe=>h2 e.symm;simp[Hp.iX,Hp.put,h1,h2,h3,h4]
  rw[e];exact hK a
def vk(rv:List RV)(r:Option Nat->List V)(b n':Nat)(d:BS)(c':Int)(rows':List (List V))(R:S->Prop):Prop:=
 ∀(s s':S)(a:Option Nat)(n2:Nat)(p2:BS)(c:Int)(gB:List (List V)),a7 s s'->s'.h 0=some ⟨some b,182,3,[[.own 1000000 a 3 n2,.str p2,.int .i64 c]]⟩->s'.h 1000000=some ⟨a,115,3,gB⟩->
  hX rv (r a) s'->n2=n'/\p2=d/\c=c'/\gB=rows'->R s
theorem GQ{rv:List RV}{r:Option Nat->List V}{b:Nat}{m':Mk}{R:S->Prop}(c:∀(s s':S)(a:Option Nat),a7 s s'->m6 s' rv (λx=>nx x=nx (r a))->s'.h 0=some (FR b 1000000 a m'.out.length m'.put m'.cut)->s'.h 1000000=some (GN a (m'.out.map a6))->R s):
  vk rv r b m'.out.length m'.put m'.cut (m'.out.map a6) R:=by
 rintro s s' a n2 p2 d gB he h0 h1 hr ⟨rfl,rfl,rfl,rfl⟩;exact c s s' a he (eS rv _ _ (λx hx=>by rw[hx]) hr) h0 h1
def M0(b:Nat)(ba:Option Nat)(n:Nat)(put:BS)(cut:Int)(rows:List (List V)):List (Nat×Ob):=[(0,⟨some b,182,3,[[.own 1000000 ba 3 n,.str put,.int .i64 cut]]⟩),(1000000,⟨ba,115,3,rows⟩)]
theorem vl{f:Nat}{fn:Func}{ac:AC}{rv:List RV}{args:List V}{D:Array Oper->List AO->Bool}(a:lH Tryz.prog D)(ok:fo Tryz.prog f fn ac rv (args.length+1) D){m m':Mk}(r:Option Nat->List V)(hr:∀ba,Fz (nx (r ba)))
  (h:∀(b:Nat)(ba:Option Nat)(R:S->Prop),vk rv r b m'.out.length m'.put m'.cut (m'.out.map a6) R->
   fX ca (fa Tryz.prog) (fj Tryz.prog) ac (S0 (.ptr 0 (some b) 3 0 0::args) (b7 (M0 b ba m.out.length m.put m.cut (m.out.map a6)))) R (λ_ _=>False) R):ml f args m m' (λba=>nx (r ba)):=
 L4 a ok (λba=>nx (r ba)) hr λb ba R c=>h b ba R (GQ c)
def zl:AC:=.seq (qr [qm 2 0,qn 3 2,qf 4 1 3,ql 5 4,qo 6 (.bin .neq (.t 5) (.c qe))] (qu 6 (.region true [qm 7 0,qm 8 0,qn 9 8,qf 10 0 9,ql 11 10,qm 12 0,qn 13 12,qf 14 1 13,ql 15 14,qo 16 (.build wj [(0,1,qk 2),(2,1,(.t 15))]),qo 17 (.bslice 115 3 [.t 16]),qo 18 (.append 115 3 32 (.t 11) (.t 17)),qn 19 7,qf 20 0 19,qs 1 20 18]) .skip)) (qq (qr [qm 21 0,qn 22 21,qf 23 2 22,ql 24 23,qc 25 .gtr 24 0] (qu 25 (.region true [qm 26 0,qm 27 0,qn 28 27,qf 29 0 28,ql 30 29,qm 31 0,qn 32 31,qf 33 2 32,ql 34 33,qo 35 (.build wj [(0,1,qk 3),(1,1,(.t 34))]),qo 36 (.bslice 115 3 [.t 35]),qo 37 (.append 115 3 32 (.t 30) (.t 36)),qn 38 26,qf 39 0 38,qs 1 39 37]) .skip)) (qR [qm 40 0,qm 41 0,qn 42 40,qf 43 1 42,⟨none,none,.store 1 (.t 43) (.c qe)⟩,qn 44 41,qf 45 2 44,⟨none,none,.store 1 (.t 45) (qk 0)⟩]))
theorem GR:fo Tryz.prog 148 Tryz.f148 zl [] 1 eV:=⟨Tryz.func148,by decide+kernel,by kernel_rfl,by kernel_rfl,by decide+kernel⟩
theorem GS(P:Prim)(hP:P=ca)(T g:cp)(b:Nat)(ba:Option Nat)(n:Nat)(put:BS)(cut:Int)(rows:List (List V))(m:Mk)(hn:n=m.out.length)(dS:rows=m.out.map a6)(c:put=m.put)(d:cut=m.cut)(uj:m.out.length<=100000000)(rows':List (List V))(n':Nat)(e:n'=m.flush.length)(a:rows'=m.flush.map a6)
  (R:S->Prop)(f:vk [] (λ_=>[]) b n' [] 0 rows' R):fX P T g zl (S0 [.ptr 0 (some b) 3 0 0] (b7 (M0 b ba n put cut rows))) R (λ_ _=>False) R:=by
 cbv
 repeat'(first|(intro β;cbv)|(refine And.intro (by assumption) ?_;cbv)|(refine ab (λh=>?_) (λh=>?_)<;>try cbv)|(refine Exists.intro _ (And.intro (by assumption) ?_);cbv)|(refine hc1 _ _ ?_;cbv)|(refine i _ _ ?_;cbv)|(refine j _ _ ?_;cbv)|(refine k _ _ ?_;cbv)|(refine l _ _ ?_;cbv)|(refine o _ _ ?_;cbv)|(refine And.intro (by(clear f;subst hP;simp[ca,iU,nc] at* <;>first|omega|grind)) ?_;cbv))
 all_goals
  refine f _ _ _ _ _ _ _ (a7.refl _) rfl rfl rfl ?_;cbv;clear f;subst hP;subst e a hn dS c d;simp[ca,nc,Mk.flush] at*
  try simp[*]
  try exact⟨rfl,rfl⟩
  try rfl
theorem zm(m:Mk)(uj:m.out.length<=100000000):ml 148 [] m ⟨m.flush,[],0⟩ (λ_=>.tup []):=
 vl gY GR (λ_=>[]) (λ_=>.tup _ (by simp)) λb ba R a=>GS ca rfl _ _ b ba _ _ _ _ m rfl rfl rfl rfl uj _ _ rfl rfl R a
def CH:AC:=.region false [qm 4 0,qn 5 4,qf 6 1 5,ql 7 6,qm 8 1,qb 9 .add 7 8,qn 10 4,qf 11 1 10,qs 1 11 9]
theorem L8:fo Tryz.prog 125 Tryz.f125 CH [] 2 eV:=⟨Tryz.func125,by decide+kernel,by kernel_rfl,by kernel_rfl,by decide+kernel⟩
theorem L9(P:Prim)(hP:P=ca)(T e:cp)(b:Nat)(ba:Option Nat)(n:Nat)(put s:BS)(cut:Int)(rows:List (List V))(uj:(put.length:Int)+s.length<=1000000000)(d:BS)(a:d=put++s)
  (R:S->Prop)(c:vk [] (λ_=>[]) b n d cut rows R):fX P T e CH (S0 [.ptr 0 (some b) 3 0 0,.str s] (b7 (M0 b ba n put cut rows))) R (λ_ _=>False) R:=by
 cbv
 repeat'(first|(intro β;cbv)|(refine And.intro (by assumption) ?_;cbv)|(refine ab (λh=>?_) (λh=>?_)<;>try cbv)|(refine Exists.intro _ (And.intro (by assumption) ?_);cbv)|(refine hc1 _ _ ?_;cbv)|(refine f _ _ ?_;cbv)|(refine g _ _ ?_;cbv)|(refine i _ _ ?_;cbv)|(refine j _ _ ?_;cbv)|(refine k _ _ ?_;cbv)|(refine And.intro (by(clear c;subst hP;simp[ca,iU,nc] at* <;>first|omega|grind)) ?_;cbv))
 all_goals
  refine c _ _ _ _ _ _ _ (a7.refl _) rfl rfl rfl ?_;cbv;clear c;subst hP;subst a;simp[ca]
theorem Ma(m:Mk)(s:BS)(uj:(m.put.length:Int)+s.length<=1000000000):ml 125 [.str s] m (m.gm s) (λ_=>.tup []):=
 vl gY L8 (λ_=>[]) (λ_=>.tup _ (by simp)) λb ba R a=>L9 ca rfl _ _ b ba _ _ s _ _ uj _ rfl R a
def CJ:AC:=.region false [qm 4 0,qn 5 4,qf 6 2 5,ql 7 6,qm 8 1,qb 9 .add 7 8,qn 10 4,qf 11 2 10,qs 1 11 9]
theorem Mb:fo Tryz.prog 127 Tryz.f127 CJ [] 2 eV:=⟨Tryz.func127,by decide+kernel,by kernel_rfl,by kernel_rfl,by decide+kernel⟩
theorem Mc(P:Prim)(hP:P=ca)(T d:cp)(b:Nat)(ba:Option Nat)(n:Nat)(put:BS)(cut k:Int)(rows:List (List V))(uj:iU (cut+k))(c':Int)(a:c'=cut+k)
  (R:S->Prop)(c:vk [] (λ_=>[]) b n put c' rows R):fX P T d CJ (S0 [.ptr 0 (some b) 3 0 0,qI k] (b7 (M0 b ba n put cut rows))) R (λ_ _=>False) R:=by
 cbv
 repeat'(first|(intro β;cbv)|(refine And.intro (by assumption) ?_;cbv)|(refine ab (λh=>?_) (λh=>?_)<;>try cbv)|(refine Exists.intro _ (And.intro (by assumption) ?_);cbv)|(refine hc1 _ _ ?_;cbv)|(refine e _ _ ?_;cbv)|(refine f _ _ ?_;cbv)|(refine g _ _ ?_;cbv)|(refine i _ _ ?_;cbv)|(refine j _ _ ?_;cbv)|(refine And.intro (by(clear c;subst hP;simp[ca,iU,nc] at* <;>first|omega|grind)) ?_;cbv))
 all_goals
  refine c _ _ _ _ _ _ _ (a7.refl _) rfl rfl rfl ?_;cbv;clear c;subst hP;subst a;simp[ca]
theorem Md(m:Mk)(k:Int)(uj:iU (m.cut+k)):ml 127 [.int .i64 k] m (m.gZ k) (λ_=>.tup []):=
 vl gY Mb (λ_=>[]) (λ_=>.tup _ (by simp)) λb ba R a=>Mc ca rfl _ _ b ba _ _ _ k _ uj _ rfl R a
theorem OR{f:Nat}{args:List V}{m m':Mk}{r:Option Nat->V}(hs:ml f args m m' r)(ha:args.all V.pl=true){k ka b:Nat}{ba:Option Nat}(hne:k≠ka){h:Hp}{K:V->Hp->Prop}
  (hk:h k=some ⟨some b,182,3,[[.own ka ba 3 m.out.length,.str m.put,.int .i64 m.cut]]⟩)(c:h ka=some ⟨ba,115,3,m.out.map a6⟩)
  (hK:∀a,K ((r a).gA (gI [(0,k),(1000000,ka)])) (Hp.put (Hp.put h k ⟨some b,182,3,[[.own ka a 3 m'.out.length,.str m'.put,.int .i64 m'.cut]]⟩) ka ⟨a,115,3,m'.out.map a6⟩)):fa Tryz.prog f (.ptr k (some b) 3 0 0::args) h K:=
 L7 hs hne (λh=>gf ha) hk c hK
def BH(T:cp)(f:Nat)(k ka b:Nat)(ba:Option Nat)(args:List V)(n:Nat)(put:BS)(cut:Int)(rows:List (List V))(r:Option Nat->V)(n':Nat)(c:BS)(d:Int)(rows':List (List V)):Prop:=
 ∀(h:Hp)(K:V->Hp->Prop),h k=some ⟨some b,182,3,[[.own ka ba 3 n,.str put,qI cut]]⟩->h ka=some ⟨ba,115,3,rows⟩->
  (∀a,K (r a) (Hp.put (Hp.put h k ⟨some b,182,3,[[.own ka a 3 n',.str c,qI d]]⟩) ka ⟨a,115,3,rows'⟩))->T f (.ptr k (some b) 3 0 0::args) h K
theorem GU{f:Nat}{args:List V}{m m':Mk}{r r':Option Nat->V}(hs:ml f args m m' r)(ha:args.all V.pl=true)(k ka b:Nat)(ba:Option Nat)(hne:k≠ka)(hr:∀a,(r a).gA (gI [(0,k),(1000000,ka)])=r' a):
  BH (fa Tryz.prog) f k ka b ba args m.out.length m.put m.cut (m.out.map a6) r' m'.out.length m'.put m'.cut (m'.out.map a6):=λh K hk c hK=>OR hs ha hne hk c λa=>by rw[hr];exact hK a
def zn:AC:=.seq (qr [qm 5 1,qc 6 .eql 5 0] (qu 6 .ret .skip)) (qr [qm 7 0,qa 8 148 [.t 7]] (qq (qr [qm 9 0,qn 10 9,qf 11 0 10,ql 12 11,qo 13 (.len false (.t 12)),qc 14 .sub 13 1,qm 4 14] (qr [qm 15 4,qc 16 .geq 15 0,qm 17 16,qg 18 17 true (.mov (.t 0)),qg 19 17 true (.nilchk (.t 18)),qg 20 17 true (.faddr 0 (.t 19)),qg 21 17 true (.load1 (.t 20)),qg 22 17 true (.mov (.t 4)),qg 23 17 true (.iaddr 3 (.t 21) (.t 22)),qg 24 17 true (.faddr 0 (.t 23)),qg 25 17 true (.load1 (.t 24)),qg 26 17 true (.bin .eql (.t 25) (qk 1)),qo 27 (.pick (.t 17) (.t 26) (.c (.bool false)))] (qu 27 (qr [qm 28 0,qn 29 28,qf 30 0 29,ql 31 30,qm 32 4,qo 33 (.iaddr 3 (.t 31) (.t 32)),qf 34 1 33,ql 35 34,qm 36 1,qb 37 .add 35 36,qo 38 (.iaddr 3 (.t 31) (.t 32)),qf 39 1 38,qs 1 39 37] .ret) .skip))) (qR [qm 40 0,qm 41 0,qn 42 41,qf 43 0 42,ql 44 43,qm 45 1,qo 46 (.build wj [(0,1,qk 1),(1,1,(.t 45))]),qo 47 (.bslice 115 3 [.t 46]),qo 48 (.append 115 3 32 (.t 44) (.t 47)),qn 49 40,qf 50 0 49,qs 1 50 48])))
theorem GV:fo Tryz.prog 126 Tryz.f126 zn [] 2 eV:=⟨Tryz.func126,by decide+kernel,by kernel_rfl,by kernel_rfl,by decide+kernel⟩
theorem GW(P:Prim)(hP:P=ca)(T G:cp)(b:Nat)(ba:Option Nat)(n:Nat)(put:BS)(cut k:Int)(rows:List (List V))(m:Mk)(hn:n=m.out.length)(dS:rows=m.out.map a6)(g:put=m.put)(i:cut=m.cut)
  (j:Nat)(e:List (List V))(f:j=m.flush.length)(a:e=m.flush.map a6)(uj:m.flush.length<=100000000)(s:∀p∈m.flush,iU (p.n+k))
  (hc1:BH T 148 0 1000000 b ba [] n put cut rows (λ_=>.tup []) j [] 0 e)
  (n':Nat)(E:BS)(c':Int)(rows':List (List V))(l:n'=(m.fF k).out.length)(c:rows'=(m.fF k).out.map a6)(o:E=(m.fF k).put)(q:c'=(m.fF k).cut)
  (R:S->Prop)(d:vk [] (λ_=>[]) b n' E c' rows' R):fX P T G zn (S0 [.ptr 0 (some b) 3 0 0,qI k] (b7 (M0 b ba n put cut rows))) R (λ_ _=>False) R:=by
 cbv;refine ab (λh=>?_) (λh=>?_)
 ·cbv;refine d _ _ _ _ _ _ _ (a7.refl _) rfl rfl rfl ?_;cbv;clear d hc1;subst hP;subst l c hn dS g i o q;simp[ca] at h;simp[Mk.fF,h]
 cbv;have t:k≠0:=by clear d hc1;subst hP;simpa[ca] using h
 refine hc1 _ _ rfl rfl λH=>?_;clear hc1;cbv;have u:P.i64 (P.sub (P.int j) 1):=by clear d;subst hP;simp only[ca,iU,f];omega
 refine⟨u,?_⟩
 rcases dF m.flush with hf|⟨pre,⟨qk,qn,F⟩,hf⟩
 ·refine ab (λh=>?_) (λh=>?_)
  ·exfalso;clear d;subst hP;rw[hf] at f;simp[ca,f] at h
  cbv
  repeat'(first|(intro β;cbv)|(refine And.intro (by assumption) ?_;cbv)|(refine ab (λh=>?_) (λh=>?_)<;>try cbv)|(refine Exists.intro _ (And.intro (by assumption) ?_);cbv)|(refine hc1 _ _ ?_;cbv)|(refine w _ _ ?_;cbv)|(refine x _ _ ?_;cbv)|(refine y _ _ ?_;cbv)|(refine z _ _ ?_;cbv)|(refine A _ _ ?_;cbv)|(refine And.intro (by(clear d;subst hP;simp[ca,iU,nc] at* <;>first|omega|grind)) ?_;cbv))
  all_goals
   refine d _ _ _ _ _ _ _ (a7.refl _) rfl rfl rfl ?_;cbv;clear d;subst hP;subst l c hn dS g i o q f a;simp[Mk.fF,t,hf,iP,ca,a6]
 ·rw[dG] at hf;have hq:=s ⟨qk,qn,F⟩ (by rw[hf];simp);simp only at hq;have v:P.row e (P.nat (P.sub (P.int j) 1)) [qI qk,qI qn,.str F]:=by
   clear d;subst hP;rw[a,f,hf];simp[ca,a6]
  have r:j=pre.length+1:=by rw[f,hf];simp
  have B:P.fQ 0 (P.sub (P.int j) 1):=by clear d;subst hP;simp only[ca,r];omega
  have C:P.iw (P.sub (P.int j) 1) (P.int j):=by clear d;subst hP;simp only[ca,r];omega
  have D:P.i64 (P.add qn k):=by clear d;subst hP;exact hq
  refine ab (λh=>?_) (λh=>?_)
  rotate_left
  ·exfalso;clear d;subst hP;simp[ca,r] at h
  cbv
  repeat'(first|(intro β;cbv)|(refine And.intro (by assumption) ?_;cbv)|(refine ab (λh=>?_) (λh=>?_)<;>try cbv)|(refine Exists.intro _ (And.intro (by assumption) ?_);cbv)|(refine hc1 _ _ ?_;cbv)|(refine w _ _ ?_;cbv)|(refine x _ _ ?_;cbv)|(refine y _ _ ?_;cbv)|(refine z _ _ ?_;cbv)|(refine A _ _ ?_;cbv)|(refine And.intro (by(clear d;subst hP;simp[ca,iU,nc] at* <;>first|omega|grind)) ?_;cbv))
  all_goals
   refine d _ _ _ _ _ _ _ (a7.refl _) rfl rfl rfl ?_;cbv;clear d v u B C D s;subst hP;subst l c hn dS g i o q a;simp[ca] at*;simp[Mk.fF,t,hf,iP,a6, *]
theorem GX(m:Mk)(k:Int)(uj:m.flush.length<=100000000)(a:∀p∈m.flush,iU (p.n+k))(c:m.out.length<=100000000):ml 126 [.int .i64 k] m (m.fF k) (λ_=>.tup []):=
 vl gY GV (λ_=>[]) (λ_=>.tup _ (by simp)) λb ba R d=>GW ca rfl _ _ b ba _ _ _ k _ m rfl rfl rfl rfl _ _ rfl rfl uj a (GU (zm m c) rfl 0 1000000 b ba qD (λ_=>rfl)) _ _ _ _ rfl rfl rfl rfl R d
def zo:AC:=qr [qo 2 (.mov (.c (.slice none 0 0)))] (qr [qm 3 0,qa 4 148 [.t 3]] (qr [qm 5 0,qn 6 5,qf 7 0 6,ql 8 7,qm 2 8] .ret))
theorem GY:fo Tryz.prog 128 Tryz.f128 zo [.t 2] 1 eV:=⟨Tryz.func128,by decide+kernel,by kernel_rfl,by kernel_rfl,by decide+kernel⟩
theorem GZ(P:Prim)(hP:P=ca)(T e:cp)(b:Nat)(ba:Option Nat)(n:Nat)(put:BS)(cut:Int)(rows:List (List V))(c:Nat)(a:List (List V))
  (hc1:BH T 148 0 1000000 b ba [] n put cut rows (λ_=>.tup []) c [] 0 a)
  (R:S->Prop)(f:vk [.t 2] (λd=>[.own 1000000 d 3 c]) b c [] 0 a R):fX P T e zo (S0 [.ptr 0 (some b) 3 0 0] (b7 (M0 b ba n put cut rows))) R (λ_ _=>False) R:=by
 cbv;refine hc1 _ _ rfl rfl λg=>?_;cbv;exact f _ _ _ _ _ _ _ (a7.refl _) rfl rfl rfl ⟨rfl,rfl,rfl,rfl⟩
theorem G0(m:Mk)(c:m.out.length<=100000000):ml 128 [] m ⟨m.flush,[],0⟩ (λa=>.own 1000000 a 3 m.flush.length):=
 vl gY GY (λa=>[.own 1000000 a 3 m.flush.length]) (λ_=>.own _ _ _ _) λb ba R d=>GZ ca rfl _ _ b ba _ _ _ _ _ _ (GU (zm m c) rfl 0 1000000 b ba qD (λ_=>rfl)) R d
def kg:List fP->BS->BS
 |[],_=>[]
 |.put b::ts,s=>b::kg ts s
 |.keep::ts,s=>s.take 1++kg ts (s.drop 1)
 |.cut::ts,s=>kg ts (s.drop 1)
def Ey:List BS->List Bool->BS->BS
 |p::ps,k::ks,s=>p++(if k then s.take 1 else[])++Ey ps ks (s.drop 1)
 |p::_,[],_=>p
 |[],_,_=>[]
theorem xQ(b:UInt8)(l:List BS)(ks:List Bool)(s:BS)(h:l≠[]):Ey (gx b l) ks s=b::Ey l ks s:=by
 cases l with
 |nil=>exact absurd rfl h
 |cons p r=>cases ks<;>simp[gx,Ey]
theorem lh(ts:List fP):e9 ts≠[]:=by obtain⟨p,r,h⟩:=nS ts;rw[h];simp
theorem P3(ts:List fP)(s:BS):Ey (e9 ts) (dE ts) s=kg ts s:=by
 induction ts generalizing s with
 |nil=>rfl
 |cons t ts ih=>
  cases t
  ·simp[e9,dE,Ey,kg,ih]
  ·simp only[e9,dE,kg];rw[xQ _ _ _ _ (lh ts),ih]
  ·simp[e9,dE,Ey,kg,ih]
def fH(ts:List fP):Nat:=(dE ts).length
def fi:List fP->Nat
 |[]=>0
 |.cut::ts=>fi ts
 |.keep::ts=>fi ts+1
 |.put _::ts=>fi ts+1
theorem nB(a b:List fP):fi (a++b)=fi a+fi b:=by
 induction a with
 |nil=>simp[fi]
 |cons t a ih=>cases t<;>simp[fi,ih]<;>omega
theorem kq(a b:List fP):fH (a++b)=fH a+fH b:=by simp[fH,ph]
theorem uk(ts:List fP)(s:BS)(h:s.length=fH ts):(kg ts s).length=fi ts:=by
 induction ts generalizing s with
 |nil=>rfl
 |cons t ts ih=>
  cases t
  ·simp only[fH,dE,ar] at h;simp only[kg,fi,an,aZ];rw[ih _ (by simp[fH];omega)];omega
  ·simp only[kg,fi,ar];rw[ih _ h]
  ·simp only[fH,dE,ar] at h;simp only[kg,fi];exact ih _ (by simp[fH];omega)
def fx:List fP->Nat->Nat->List (Nat×Nat)
 |[],_,_=>[]
 |.put _::ts,i,j=>fx ts i (j+1)
 |.keep::ts,i,j=>(i,j)::fx ts (i+1) (j+1)
 |.cut::ts,i,j=>fx ts (i+1) j
def kz:List BS->List Bool->Nat->Nat->List (Nat×Nat)
 |p::ps,k::ks,i,j=>(if k then[(i,j+p.length)] else[])++kz ps ks (i+1) (j+p.length+(if k then 1 else 0))
 |_,_,_,_=>[]
theorem tY(b:UInt8)(l:List BS)(ks:List Bool)(i j:Nat)(h:l≠[]):kz (gx b l) ks i j=kz l ks i (j+1):=by
 cases l with
 |nil=>exact absurd rfl h
 |cons p r=>
  cases ks with
  |nil=>simp[gx,kz]
  |cons k ks=>simp[gx,kz,cg,Nat.add_comm,Nat.add_left_comm]
theorem Ez(ts:List fP)(i j:Nat):kz (e9 ts) (dE ts) i j=fx ts i j:=by
 induction ts generalizing i j with
 |nil=>rfl
 |cons t ts ih=>
  cases t
  ·simp[e9,dE,kz,fx,ih]
  ·simp only[e9,dE,fx];rw[tY _ _ _ _ _ (lh ts),ih]
  ·simp[e9,dE,kz,fx,ih]
def gz:List fP->List (BS×Nat)
 |[]=>[([],0)]
 |.put b::ts=>match gz ts with
  |(p,c)::r=>(b::p,c)::r
  |[]=>[]
 |.cut::ts=>match gz ts with
  |(p,c)::r=>(p,c+1)::r
  |[]=>[]
 |.keep::ts=>([],0)::gz ts
theorem lT(ts:List fP):∃g r,gz ts=g::r:=by
 induction ts with
 |nil=>exact⟨_,_,rfl⟩
 |cons t ts ih=>cases t<;>obtain⟨⟨p,c⟩,r,h⟩:=ih<;>simp[gz,h]
def Mk.Sk(m:Mk)(g:BS×Nat):Mk:=⟨m.out,m.put++g.1,m.cut+g.2⟩
def Mk.wA(m:Mk):List (BS×Nat)->Mk
 |[]=>m
 |[g]=>m.Sk g
 |g::g2::r=>Mk.wA ((m.Sk g).fF 1) (g2::r)
theorem Mk.G1(m:Mk)(b:UInt8)(p:BS)(c:Nat)(r:List (BS×Nat)):m.wA ((b::p,c)::r)=(m.gm [b]).wA ((p,c)::r):=by
 cases r<;>simp[Mk.wA,Mk.Sk,Mk.gm]
theorem Mk.G2(m:Mk)(p:BS)(c:Nat)(r:List (BS×Nat)):m.wA ((p,c+1)::r)=(m.gZ 1).wA ((p,c)::r):=by
 have h:m.cut+((c+1:Nat):Int)=m.cut+1+(c:Int):=by omega
 cases r<;>simp only[Mk.wA,Mk.Sk,Mk.gZ,h]
theorem Mk.zp(m:Mk)(ts:List fP):m.run ts=m.wA (gz ts):=by
 induction ts generalizing m with
 |nil=>simp[Mk.run,gz,Mk.wA,Mk.Sk]
 |cons t ts ih=>
  obtain⟨⟨p,c⟩,r,h⟩:=lT ts;have hs:m.run (t::ts)=(m.tok t).run ts:=rfl;rw[hs,ih,h];cases t
  ·simp only[gz,h,Mk.wA,Mk.tok]
   congr 1
   simp[Mk.Sk]
  ·simp only[gz,h];exact(Mk.G1 m _ _ _ _).symm
  ·simp only[gz,h];exact(Mk.G2 m _ _ _).symm
theorem G3{a b:List fP}(h:gz a=gz b):nT a=nT b:=by unfold nT;rw[Mk.zp,Mk.zp,h]
def j9(n:Nat)(text:BS):Nat->Nat->List (Nat×Nat)->List (BS×Nat)
 |i0,a,[]=>[(text.drop a,n-i0)]
 |i0,a,(i,j)::r=>((text.drop a).take (j-a),i-i0)::j9 n text (i+1) (j+1) r
theorem BI(n:Nat)(pre:BS)(b:UInt8)(rest:BS)(i0:Nat)(ks:List (Nat×Nat))(g:BS×Nat)(r:List (BS×Nat))(hk:∀p∈ks,pre.length+1<=p.2)
  (h:j9 n (pre++b::rest) i0 (pre.length+1) ks=g::r):j9 n (pre++b::rest) i0 pre.length ks=(b::g.1,g.2)::r:=by
 cases ks with
 |nil=>
  simp only[j9,bB] at h⊢;obtain⟨rfl,rfl⟩:=h;simp
 |cons p ks=>
  obtain⟨i,j⟩:=p;have hj:pre.length+1<=j:=hk (i,j) (by simp);simp only[j9,bB] at h⊢;obtain⟨rfl,rfl⟩:=h;obtain⟨m,hm⟩:∃m,j-pre.length=m+1:=⟨j-pre.length-1,qW⟩;rw[hm,show j-(pre.length+1)=m by omega];simp
theorem l8(ts:List fP)(i j:Nat):∀p∈fx ts i j,i<=p.1/\j<=p.2:=by
 induction ts generalizing i j with
 |nil=>simp[fx]
 |cons t ts ih=>
  intro p hp;cases t
  ·simp only[fx,ax] at hp
   rcases hp with rfl|hp
   ·simp
   ·have:=ih _ _ p hp;omega
  ·have:=ih _ _ p hp;omega
  ·have:=ih _ _ p hp;omega
theorem BJ(n:Nat)(text:BS)(i0 a:Nat)(ks:List (Nat×Nat))(g:BS×Nat)(r:List (BS×Nat))(hk:∀p∈ks,i0+1<=p.1)(hn:i0+1<=n)(h:j9 n text (i0+1) a ks=g::r):
  j9 n text i0 a ks=(g.1,g.2+1)::r:=by
 cases ks with
 |nil=>
  simp only[j9,bB] at h⊢;obtain⟨rfl,rfl⟩:=h;simp;omega
 |cons p ks=>
  obtain⟨i,j⟩:=p;have hj:i0+1<=i:=hk (i,j) (by simp);simp only[j9,bB] at h⊢;obtain⟨rfl,rfl⟩:=h;simp;omega
theorem Me(ts:List fP)(s pre:BS)(i0:Nat)(hs:s.length=fH ts):gz ts=j9 (i0+fH ts) (pre++kg ts s) i0 pre.length (fx ts i0 pre.length):=by
 induction ts generalizing s pre i0 with
 |nil=>simp[gz,kg,fx,j9,fH,dE]
 |cons t ts ih=>
  cases t
  ·simp only[fH,dE,ar] at hs;obtain⟨x,s,rfl⟩:∃x s',s=x::s':=by cases s with|nil=>simp at hs|cons x s=>exact⟨x,s,rfl⟩
   have:=ih s (pre++[x]) (i0+1) (by simpa[fH] using hs);simp only[gz,kg,fx,j9,this];have e:i0+1+fH ts=i0+fH (.keep::ts):=by simp[fH,dE];omega
   rw[e];simp
  ·have:=ih s (pre++[by assumption]) i0 hs;simp only[an,ar,aK,aS,aP,cO] at this;obtain⟨g,r,h⟩:=lT ts;rw[h] at this;simp only[gz,kg,fx,h];exact(BI _ _ _ _ _ _ _ _ (λp hp=>(l8 _ _ _ p hp).2) this.symm).symm
  ·simp only[fH,dE,ar] at hs;obtain⟨x,s,rfl⟩:∃x s',s=x::s':=by cases s with|nil=>simp at hs|cons x s=>exact⟨x,s,rfl⟩
   have:=ih s pre (i0+1) (by simpa[fH] using hs);obtain⟨g,r,h⟩:=lT ts;rw[h] at this;simp only[gz,kg,fx,h,List.drop_one,List.tail_cons];have e:i0+fH (.cut::ts)=i0+1+fH ts:=by simp[fH,dE];omega
   rw[e];exact(BJ _ _ _ _ _ _ _ (λp hp=>(l8 _ _ _ p hp).1) qW this.symm).symm
def gq:Nat->List fP->List fP->List fP
 |0,_,_=>[]
 |f+1,.cut::xs,a=>.cut::gq f xs a
 |f+1,xs,.put b::a=>.put b::gq f xs a
 |f+1,.keep::xs,.keep::a=>.keep::gq f xs a
 |f+1,.keep::xs,.cut::a=>.cut::gq f xs a
 |f+1,.put b::xs,.keep::a=>.put b::gq f xs a
 |f+1,.put _::xs,.cut::a=>gq f xs a
 |_+1,_,_=>[]
def oO(p:Part):Prop:=(p.kind=2/\p.n=0/\p.text≠[])\/((p.kind=1\/p.kind=3)/\0<p.n/\p.text=[])
def k9:Int->List Part->Prop
 |_,[]=>True
 |last,p::l=>oO p/\p.kind≠last/\¬(last=3/\p.kind=2)/\k9 p.kind l
def oP:Int->List Part->Int
 |k,[]=>k
 |_,p::l=>oP p.kind l
theorem kA(k:Int)(a b:List Part):k9 k (a++b)↔k9 k a/\k9 (oP k a) b:=by
 induction a generalizing k with
 |nil=>simp[k9,oP]
 |cons p a ih=>
  simp only[ay,k9,oP,ih]
  constructor
  ·rintro⟨a,b,c,d,e⟩;exact⟨⟨a,b,c,d⟩,e⟩
  ·rintro⟨⟨a,b,c,d⟩,e⟩;exact⟨a,b,c,d,e⟩
theorem po(k:Int)(a b:List Part):oP k (a++b)=oP (oP k a) b:=by
 induction a generalizing k with
 |nil=>rfl
 |cons p a ih=>simp[oP,ih]
structure Mk.Ok(m:Mk):Prop where
 form:k9 0 m.out
 last:oP 0 m.out=1\/oP 0 m.out=0
 cut:0<=m.cut
theorem Mk.G4:Mk.new.Ok:=⟨trivial,.inr rfl,bf _⟩
theorem Mk.Ok.flush{m:Mk}(h:m.Ok):k9 0 m.flush:=by
 obtain⟨h1,h2,h3⟩:=h;unfold Mk.flush
 by_cases hp:m.put=[]
 ·rw[ae hp,aJ,kA];refine⟨h1,?_⟩
  by_cases hc:0<m.cut
  ·rw[ae hc];exact⟨.inr ⟨.inr rfl,hc,rfl⟩,by show(3:Int)≠_;omega,by show¬(_/\(3:Int)=2);omega,trivial⟩
  ·rw[aa hc];trivial
 ·rw[aa hp,kA,kA,po];refine⟨⟨h1,.inl ⟨rfl,rfl,hp⟩,by show(2:Int)≠_;omega,by show¬(_/\(2:Int)=2);omega,trivial⟩,?_⟩
  by_cases hc:0<m.cut
  ·rw[ae hc];exact⟨.inr ⟨.inr rfl,hc,rfl⟩,by show(3:Int)≠2;omega,by show¬(_/\(3:Int)=2);omega,trivial⟩
  ·rw[aa hc];trivial
theorem BK{o:List Part}{n:Int}(h:k9 0 o)(hn:0<n):k9 0 (iP o n)/\oP 0 (iP o n)=1:=by
 unfold iP;cases hl:o.getLast? with
 |none=>
  have:o=[]:=by simpa using hl
  subst this;exact⟨⟨.inr ⟨.inl rfl,hn,rfl⟩,by show(1:Int)≠0;omega,by show¬(_/\(1:Int)=2);omega,trivial⟩,rfl⟩
 |some p=>
  obtain⟨a,rfl⟩:∃a,o=a++[p]:=by
   have hne:o≠[]:=by intro h0;subst h0;simp at hl
   refine⟨o.dropLast,?_⟩;have:=dP hne;rw[List.getLast?_eq_some_getLast hne] at hl;cases hl;exact this.symm
  rw[kA] at h;obtain⟨h1,h2,h3,h4,_⟩:=h
  by_cases hk:p.kind=1
  ·simp only[hk,↓reduceIte,dM];rw[kA,po];refine⟨⟨h1,?_,?_,by show¬(_/\(1:Int)=2);omega,trivial⟩,rfl⟩
   ·rcases h2 with⟨h,_⟩|⟨_,h5,h6⟩
    ·omega
    ·exact .inr ⟨.inl rfl,by show 0<p.n+n;omega,h6⟩
   ·rw[hk] at h3;exact h3
  ·simp only[hk,↓reduceIte];rw[kA,po,po];refine⟨⟨(kA _ _ _).2 ⟨h1,h2,h3,h4,trivial⟩,.inr ⟨.inl rfl,hn,rfl⟩,?_,by show¬(_/\(1:Int)=2);omega,trivial⟩,rfl⟩;show(1:Int)≠p.kind;omega
theorem Mk.Ok.tok{m:Mk}(h:m.Ok)(t:fP):(m.tok t).Ok:=by
 cases t
 ·have:=BK h.flush (n:=1) qW;simp only[Mk.tok,Mk.fF];rw[aa qW];exact⟨this.1,.inl this.2,bf _⟩
 ·exact⟨h.form,h.last,h.cut⟩
 ·exact⟨h.form,h.last,by show 0<=m.cut+1;have:=h.cut;omega⟩
theorem Mk.Ok.run{m:Mk}(h:m.Ok)(ts:List fP):(m.run ts).Ok:=by
 induction ts generalizing m with
 |nil=>exact h
 |cons t ts ih=>exact ih (h.tok t)
theorem zq(ts:List fP):k9 0 (nT ts):=(Mk.G4.run ts).flush
end Go.Proofs.YtobngncjflogcaaGreat.AM
