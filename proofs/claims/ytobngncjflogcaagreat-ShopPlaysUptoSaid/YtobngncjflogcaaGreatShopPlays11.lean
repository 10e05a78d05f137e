/-
  Part 11 of what the law ShopPlays reaches: the plain machine, contracts of the functions and plain laws; each lemma says its own condition.
-/
import Derived.Test.YtobngncjflogcaaGreatShopPlays7
import Derived.Test.YtobngncjflogcaaGreatShopPlays9
import Derived.Test.YtobngncjflogcaaGreatShopPlays10
set_option linter.unusedVariables false
set_option linter.unusedSimpArgs false
namespace Go.Proofs.YtobngncjflogcaaGreat.AM
open Go Go.RowKit
set_option maxRecDepth 100000
set_option maxHeartbeats 2000000
def sO(st:BS×Bool):(BS×Bool)×Int:=if(gx st.1).2.2≠0 then((st.1,false),0) else((st.1.drop (gx st.1).2.1.toNat,st.2),(gx st.1).1)
def kp(s:BS):Nat->BS×Bool
 |0=>(s,true)
 |n+1=>(sO (kp s n)).1
def jt(s:BS)(i:Nat):Int:=(sO (kp s i)).2
theorem sj(s:BS)(n:Nat):kp s (n+1)=(sO (kp s n)).1:=rfl
theorem nS(s:BS):∀n,(kp s n).1.length<=s.length
 |0=>ah _
 |n+1=>by
  have ih:=nS s n;rw[sj,sO]
  split
  ·exact ih
  ·simp only[aJ];omega
theorem xn(s:BS)(n:Nat):∀d,(kp s n).2=false->(kp s (n+d)).2=false
 |0,h=>h
 |d+1,h=>by
  have ih:=xn s n d h;show(sO (kp s (n+d))).1.2=false;unfold sO
  split
  ·rfl
  ·exact ih
theorem Cq(s:BS)(i:Nat):0<=jt s i/\jt s i<=2147483647:=by
 unfold jt sO
 split
 ·exact⟨aN 0,by show(0:Int)<=_;decide⟩
 ·rename_i h;obtain⟨k,_,_,_,_,h5,h6,_⟩:=lv (az h);exact⟨h5,h6⟩
theorem Rp{s:BS}{n:Nat}(h:(gx (kp s n).1).2.2≠0):(kp s (n+1)).2=false:=by
 rw[sj,sO,ae h]
theorem TP{s:BS}{n:Nat}(h:(gx (kp s n).1).2.2=0):kp s (n+1)=((kp s n).1.drop (gx (kp s n).1).2.1.toNat,(kp s n).2)/\jt s n=(gx (kp s n).1).1:=by
 rw[sj];unfold jt sO;rw[aa (λg=>g h)];exact⟨rfl,rfl⟩
def Jp(b:Nat)(s:BS):Ob:=⟨some b,9,1,[[.str s]]⟩
def Jq(b:Nat)(ok:Bool):Ob:=⟨some b,4,1,[[.bool ok]]⟩
def DZ:AC:=qr [qz 4 0] (qr [qm 9 0,qn 10 9,ql 11 10,qa 12 160 [.t 11],qm 8 12,qx 13 0 8,qx 14 1 8,qx 15 2 8,qm 5 13,qm 6 14,qm 7 15] (qq (qr [qm 16 7,qc 17 .neq 16 0] (qu 17 (qr [qm 18 1,qn 19 18,⟨none,none,.store 1 (.t 19) (.c (.bool false))⟩] (qr [qz 4 0] .ret)) .skip)) (qr [qm 20 0,qm 21 0,qn 22 21,ql 23 22,qm 24 6,qo 25 (.slstr (.t 23) (some (.t 24)) none),qn 26 20,qs 1 26 25] (qr [qm 27 5,qm 4 27] .ret))))
theorem NB:fF Tryz.prog 151 Tryz.f151 DZ [.t 4] 2 er:=⟨Tryz.func151,by decide+kernel,by kernel_rfl,by kernel_rfl,by decide+kernel⟩
theorem NC(P:Prim)(hP:P=dn)(T i:c8)(b b2:Nat)(s:BS)(ok:Bool)(n k e:Int)(h1:gK T 160 [.str s] (.tup [qI n,qI k,qI e]))(hk:e=0->0<=k/\k<=s.length)
  (s2:BS)(a:Bool)(v:Int)(g1:e≠0->s=s2/\false=a/\0=v)(g2:e=0->s.drop k.toNat=s2/\ok=a/\n=v)
  (R:S->Prop)(f:∀g s' x y z,x=s2/\y=a/\z=v->c6 g s'->lM s' [.t 4] (λq=>l4 q=qI z)->fG [(0,⟨some b,9,1,[[.str x]]⟩),(1,⟨some b2,4,1,[[.bool y]]⟩)] s'->R g):
  gj P T i DZ (S0 [.ptr 0 (some b) 1 0 0,.ptr 1 (some b2) 1 0 0] (cp [(0,⟨some b,9,1,[[.str s]]⟩),(1,⟨some b2,4,1,[[.bool ok]]⟩)])) R (λ_ _=>False) R:=by
 have c:P.c9 s=(s.length:Int):=da hP s;cbv;refine h1 _ _ ?_;cbv;refine ab (λh=>?_) (λh=>?_)
 ·have hx:=g1 (hH hP h);cbv
  repeat' first|(refine qA ?_;cbv)|(intro d;cbv)
  exact f _ _ _ _ _ hx (c6.refl _) rfl ⟨rfl,rfl,trivial⟩
 ·have he:=gZ hP h;obtain⟨x1,x2,x3⟩:=g2 he;obtain⟨y1,y2⟩:=hk he;have j:P.fC 0 k:=iu hP y1;have l:P.fC k (P.c9 s):=lE hP (by rw[c];exact y2);have m:P.fC (P.c9 s) (P.c9 s):=lE hP (aN _);have e1:P.jy s k (P.c9 s)=s2:=by
   rw[c,<-x1];subst hP;show(s.take ((s.length:Int)).toNat).drop k.toNat=_;rw[aA,aM]
  cbv
  repeat' first|(refine qA ?_;cbv)|(intro d;cbv)
  exact f _ _ _ _ _ ⟨e1,x2,x3⟩ (c6.refl _) rfl ⟨rfl,rfl,trivial⟩
theorem Jr(b:Nat)(s:BS):(Jp b s).Fz:=by
 intro r hr v hv;simp only[Jp,aq] at hr;subst hr;simp only[aq] at hv;subst hv;exact .str _
theorem Js(b:Nat)(ok:Bool):(Jq b ok).Fz:=by
 intro r hr v hv;simp only[Jq,aq] at hr;subst hr;simp only[aq] at hv;subst hv;exact .bool _
theorem ND(b b2:Nat)(s:BS)(ok:Bool)(hs:s.length<=maxLen):Spec Tryz.prog 151 [.ptr 0 (some b) 1 0 0,.ptr 1 (some b2) 1 0 0] (cp [(0,Jp b s),(1,Jq b2 ok)])
  (λv h'=>∃a,(v=qI (sO (s,ok)).2/\a=[(0,Jp b (sO (s,ok)).1.1),(1,Jq b2 (sO (s,ok)).1.2)])/\h'=cp a):=
 fu iD NB (L:=[(0,Jp b s),(1,Jq b2 ok)]) (λv a=>v=qI (sO (s,ok)).2/\a=[(0,Jp b (sO (s,ok)).1.1),(1,Jq b2 (sO (s,ok)).1.2)]) λR c=>
  NC dn rfl _ _ b b2 s ok (gx s).1 (gx s).2.1 (gx s).2.2 (ia (DO s hs) (λ_=>fO rfl) rfl) vu (sO (s,ok)).1.1 (sO (s,ok)).1.2 (sO (s,ok)).2
   (λh=>by unfold sO;rw[ae h];exact⟨rfl,rfl,rfl⟩) (λh=>by unfold sO;rw[aa (λg=>g h)];exact⟨rfl,rfl,rfl⟩) R
   λd s' x y z h he hr ha=>by
    obtain⟨rfl,rfl,rfl⟩:=h;exact c d s' _ [(0,_),(1,_)] he hr ha (.int _ _) (by intro p hp;simp at hp;rcases hp with rfl|rfl;exact Jr _ _;exact Js _ _) ⟨rfl,rfl⟩
theorem D0(b:Nat)(s:BS)(f:Nat->Nat):(Jp b s).gM f=Jp b s:=by simp[Ob.gM,Jp,V.rl]
theorem D1(b:Nat)(ok:Bool)(f:Nat->Nat):(Jq b ok).gM f=Jq b ok:=by simp[Ob.gM,Jq,V.rl]
def V4(T:c8):Prop:=∀(k k2 b b2:Nat)(s:BS)(ok:Bool)(h:Hp)(K:V->Hp->Prop),s.length<=maxLen->Nat.beq k k2=false->h k=some ⟨some b,9,1,[[.str s]]⟩->h k2=some ⟨some b2,4,1,[[.bool ok]]⟩->
 (∀(s2:BS)(a:Bool)(v:Int),(s2,a)=(sO (s,ok)).1/\v=(sO (s,ok)).2->K (qI v) (Hp.put (Hp.put h k ⟨some b,9,1,[[.str s2]]⟩) k2 ⟨some b2,4,1,[[.bool a]]⟩))->
 T 151 [.ptr k (some b) 1 0 0,.ptr k2 (some b2) 1 0 0] h K
theorem XD:V4 (fm Tryz.prog):=by
 intro k k2 b b2 s ok h K hs hne hk hk2 hK;have a:k≠k2:=by intro e;subst e;rw[bO] at hne;cases hne
 have c:¬k2=k:=λe=>a e.symm;refine mA (m:=[(0,k),(1,k2)]) (ND b b2 s ok hs) (.cons ?_ (.cons ?_ .nil)) (λj q hj=>?_) (λp hp=>?_) ?_
 ·have:=Arg.same (h:=h) (m:=[(0,k),(1,k2)]) (.ptr k (some b) 1 0 0);simpa[V.gM,V.rl,gW] using this
 ·have:=Arg.same (h:=h) (m:=[(0,k),(1,k2)]) (.ptr k2 (some b2) 1 0 0);simpa[V.gM,V.rl,gW,c,a] using this
 ·simp only[cp] at hj
  split at hj
  ·rename_i h0;exact⟨(0,k),by simp,h0.symm⟩
  ·split at hj
   ·rename_i h0;exact⟨(1,k2),by simp,h0.symm⟩
   ·cases hj
 ·simp only[aw,aD,bw] at hp
  rcases hp with rfl|rfl
  ·refine⟨by simp[gD],by simp[gW],λx hx=>?_⟩;simp only[cp,↓reduceIte,aH] at hx;subst hx;exact⟨by rw[hk,aE];exact aB some (D0 b s _),Jr _ _⟩
  ·refine⟨by simp[gD],by simp[gW,c],λx hx=>?_⟩;simp[cp] at hx;subst hx;exact⟨by rw[hk2,aE];exact aB some (D1 b2 ok _),Js _ _⟩
 ·rintro v d ⟨rfl,rfl⟩;have e:h.gy [(0,k),(1,k2)] (cp [(0,Jp b (sO (s,ok)).1.1),(1,Jq b2 (sO (s,ok)).1.2)])=Hp.put (Hp.put h k (Jp b (sO (s,ok)).1.1)) k2 (Jq b2 (sO (s,ok)).1.2):=by
   funext i
   simp only[Hp.gy,Hp.put,bK,bP,bN,bG,bc]
   by_cases h1:k2=i
   ·subst h1;rw[ae (.inr rfl),ae rfl];simp[gW,cp,a,c,D1]
   ·by_cases h2:k=i
    ·subst h2;rw[ae (.inl rfl),aa (λe=>h1 e.symm),ae rfl];simp[gW,cp,D0]
    ·rw[aa (by rintro(h|h);exact h2 h;exact h1 h),aa (λe=>h1 e.symm),aa (λe=>h2 e.symm)]
  rw[e];exact hK _ _ _ ⟨rfl,rfl⟩
def D2:AC:=qr [qo 1 (.box 9 1 (.t 0)),qo 2 (.alloc 72 xJ),qo 3 (.mov (.c (.bool false)))] (qr [qo 4 (.alloc 4 [(.bool false)]),⟨none,none,.store 1 (.t 4) (.c (.bool true))⟩] (qr [qa 7 151 [.t 1,.t 4],qa 8 151 [.t 1,.t 4],qo 9 (.build xJ [(0,1,(.t 7)),(1,1,(.t 8))]),qo 5 (.alloc 72 xJ),qs 38 5 9] (qq (qr [qz 10 0] (.block 0 (.loop (qr [qc 11 .lss 10 8] (qq (qu 11 .skip (.exit 0)) (qq (.block 1 (qr [qm 12 10,qm 6 12] (qR [qm 13 6,qa 14 151 [.t 1,.t 4],qa 15 151 [.t 1,.t 4],qo 16 (.build Bo [(0,1,(.t 14)),(1,1,(.t 15))]),qf 17 3 5,qo 18 (.iarr 8 2 (.t 17) (.t 13)),qs 2 18 16]))) (qR [qc 19 .add 10 1,qm 10 19]))))))) (qr [qf 20 3 5,qd 21 16 20,qf 22 19 5,qs 16 22 21] (qr [ql 23 1,qf 24 2 5,qs 1 24 23] (qq (.jN [(qd 25 38 5,[]),(ql 26 4,[]),(qm 27 26,[1]),(qg 28 27 true (.load1 (.t 1)),[2]),(qg 29 27 true (.len true (.t 28)),[3,2]),(qg 30 27 true (.bin .leq (.t 29) (qk 500)),[4,2]),(qo 31 (.pick (.t 27) (.t 30) (.c (.bool false))),[2,5]),(qs 38 2 25,[0,2,0]),(qm 3 31,[6,7,0,1,2,3,4,5,6,7])]) .ret))))))
theorem NF:fF Tryz.prog 135 Tryz.f135 D2 [.cn 2 38,.t 3] 1 er:=⟨Tryz.func135,by decide+kernel,by kernel_rfl,by kernel_rfl,by decide+kernel⟩
structure Zl(s:BS) where
 i:Nat
 k:Int
 cs:BS
 ok:Bool
 f:Nat->Int
 hi:i<=8
 hk:k=(i:Int)
 hs:(cs,ok)=kp s (2+2*i)
 hf:∀j,j<16->f j=if j<2*i then jt s (j+2) else 0
theorem NG(P:Prim)(hP:P=dn)(T T1:c8)(s:BS)(hs:s.length<=maxLen)(m:V4 T)
  (g0 g1:Int)(hg0:g0=jt s 0)(hg1:g1=jt s 1)(F:Nat->Int)(hF:∀j,j<16->F j=jt s (j+2))(rs:BS)(ro:Bool)(w:rs=(kp s 18).1)(n:ro=((kp s 18).2&&decide ((kp s 18).1.length<=500)))
  (R:S->Prop)(Y:∀s0 s'(f:Nat->Int)(cs:BS)(x:Bool),(∀j,j<16->f j=F j)->cs=rs->x=ro->c6 s0 s'->iH [.cn 2 38,.t 3] [.agg [qI g0,qI g1,.str cs,qI (f 0),qI (f 1),qI (f 2),qI (f 3),qI (f 4),qI (f 5),qI (f 6),qI (f 7),qI (f 8),qI (f 9),qI (f 10),qI (f 11),qI (f 12),qI (f 13),qI (f 14),qI (f 15),qI (f 0),qI (f 1),qI (f 2),qI (f 3),qI (f 4),qI (f 5),qI (f 6),qI (f 7),qI (f 8),qI (f 9),qI (f 10),qI (f 11),qI (f 12),qI (f 13),qI (f 14),qI (f 15),.nilsl,.bool false,qI 0],.bool x] s'->R s0):gj P T T1 D2 (S0 [.str s] Hp.emp) R (λ_ _=>False) R:=by
 have z:∀i:Nat,i<8->P.fC 0 (i:Int)/\P.iO (i:Int) 8:=λi hi=>⟨iu hP qW,kN hP qW⟩;have hN:∀i:Nat,P.nat (i:Int)=i:=λi=>by subst hP;rfl
 cbv;intro A;cbv;intro o;cbv;intro B;cbv
 repeat' first|(refine qA ?_;cbv)|(intro o;cbv)
 refine m _ _ _ _ s true _ _ hs rfl rfl rfl λs1 C v1 h1=>?_;obtain⟨D,E⟩:=h1;have e1:(s1,C)=kp s 1:=D;have l1:s1.length<=maxLen:=by have:=nS s 1;rw[<-e1] at this;exact aV this hs
 cbv;refine m _ _ _ _ s1 C _ _ l1 rfl rfl rfl λs2 G v2 h2=>?_;obtain⟨H,I⟩:=h2;have e2:(s2,G)=kp s 2:=by rw[H,e1];rfl
 have Z:g0=v1:=by rw[E,hg0];rfl
 have Zm:g1=v2:=by rw[I,hg1,e1];rfl
 subst Z Zm;clear D E H I;cbv;intro J;cbv
 repeat' first|(refine qA ?_;cbv)|(intro o;cbv)
 refine⟨Zl s,λy=>[(1,.ptr 1 (some A) 1 0 0),(2,.ptr 2 (some o) 38 0 0),(4,.ptr 4 (some B) 1 0 0),(5,.ptr 5 (some J) 38 0 0),(10,qI y.k)],
  λy=>[(1,⟨some A,9,1,[[.str y.cs]]⟩),(2,⟨some o,72,38,[[qI 0,qI 0,.str [],qI 0,qI 0,qI 0,qI 0,qI 0,qI 0,qI 0,qI 0,qI 0,qI 0,qI 0,qI 0,qI 0,qI 0,qI 0,qI 0,qI 0,qI 0,qI 0,qI 0,qI 0,qI 0,qI 0,qI 0,qI 0,qI 0,qI 0,qI 0,qI 0,qI 0,qI 0,qI 0,.nilsl,.bool false,qI 0]]⟩),(4,⟨some B,4,1,[[.bool y.ok]]⟩),(5,⟨some J,72,38,[[qI g0,qI g1,.str [],qI (y.f 0),qI (y.f 1),qI (y.f 2),qI (y.f 3),qI (y.f 4),qI (y.f 5),qI (y.f 6),qI (y.f 7),qI (y.f 8),qI (y.f 9),qI (y.f 10),qI (y.f 11),qI (y.f 12),qI (y.f 13),qI (y.f 14),qI (y.f 15),qI 0,qI 0,qI 0,qI 0,qI 0,qI 0,qI 0,qI 0,qI 0,qI 0,qI 0,qI 0,qI 0,qI 0,qI 0,qI 0,.nilsl,.bool false,qI 0]]⟩)],λy=>8-y.i,
  ⟨_,c6.refl _,⟨0,0,s2,G,λ_=>0,qW,rfl,e2,λj _=>by simp⟩,⟨rfl,rfl,rfl,rfl,rfl,trivial⟩,⟨rfl,rfl,rfl,rfl,trivial⟩⟩,?_⟩
 rintro⟨i,k,cs,ok,f,hi,hk,p,hf⟩;have lc:cs.length<=maxLen:=by have:=nS s (2+2*i);rw[<-p] at this;exact aV this hs
 cbv;refine ab (λg=>?_) (λg=>?_)
 ·have h5:k<8:=fJ hP g;have q:i<8:=by((try simp only[nc] at*);omega)
  have q1:P.fC 0 k:=(by have:=(z i q).1;rw[<-hk] at this;exact this);have q2:P.iO k 8:=(by have:=(z i q).2;rw[<-hk] at this;exact this);have u:P.i64 (P.add k 1):=by rw[add_eq hP];exact eR hP qO
  have e1:P.add k 1=((i+1:Nat):Int):=by rw[add_eq hP,hk];((try simp only[nc] at*);omega)
  have e:P.nat k=i:=by rw[hk];exact hN i
  cbv;refine m _ _ _ _ cs ok _ _ lc rfl rfl rfl λs3 K v3 h3=>?_;obtain⟨L,M⟩:=h3;have X:(s3,K)=kp s (3+2*i):=by rw[L,p,show 3+2*i=(2+2*i)+1 by omega];rfl
  have l3:s3.length<=maxLen:=by have:=nS s (3+2*i);rw[<-X] at this;exact aV this hs
  cbv;refine m _ _ _ _ s3 K _ _ l3 rfl rfl rfl λr d v4 h4=>?_;obtain⟨N,O⟩:=h4;have v:(r,d)=kp s (2+2*(i+1)):=by rw[N,X,show 2+2*(i+1)=(3+2*i)+1 by omega];rfl
  have Q:v3=jt s (2+2*i):=by rw[M,p];rfl
  have U:v4=jt s (3+2*i):=by rw[O,X];rfl
  have fin:∀V:Nat->Int,V (2*i)=v3->V (2*i+1)=v4->(∀j,j≠2*i->j≠2*i+1->V j=f j)->∀j,j<16->V j=if j<2*(i+1) then jt s (j+2) else 0:=by
   intro V a b c j hj
   by_cases j1:j=2*i
   ·subst j1;rw[a,ae qW,Q];congr 1;omega
   ·by_cases j2:j=2*i+1
    ·subst j2;rw[b,ae qW,U];congr 1;omega
    ·rw[c j j1 j2,hf j hj]
     by_cases j3:j<2*i
     ·rw[ae j3,ae qW]
     ·rw[aa j3,aa qW]
  have hc:i=0\/i=1\/i=2\/i=3\/i=4\/i=5\/i=6\/i=7:=by omega
  clear Y hF hg0 hg1 w n L M N O X l3 Q U h5 g;cbv
  rcases hc with rfl|rfl|rfl|rfl|rfl|rfl|rfl|rfl
  ·refine⟨q1,q2,0,e,?_⟩;cbv;refine⟨u,?_⟩;exact⟨_,c6.refl _,⟨0+1,_,r,d,λj=>if j=0 then v3 else if j=1 then v4 else f j,qD,e1,v,fin _ rfl rfl (λj h1 h2=>(aa h1).trans (aa h2))⟩,⟨rfl,rfl,rfl,rfl,rfl,trivial⟩,⟨rfl,rfl,rfl,rfl,trivial⟩,by show 8-(0+1)<8-0;decide⟩
  ·refine⟨q1,q2,1,e,?_⟩;cbv;refine⟨u,?_⟩;exact⟨_,c6.refl _,⟨1+1,_,r,d,λj=>if j=2 then v3 else if j=3 then v4 else f j,qD,e1,v,fin _ rfl rfl (λj h1 h2=>(aa h1).trans (aa h2))⟩,⟨rfl,rfl,rfl,rfl,rfl,trivial⟩,⟨rfl,rfl,rfl,rfl,trivial⟩,by show 8-(1+1)<8-1;decide⟩
  ·refine⟨q1,q2,2,e,?_⟩;cbv;refine⟨u,?_⟩;exact⟨_,c6.refl _,⟨2+1,_,r,d,λj=>if j=4 then v3 else if j=5 then v4 else f j,qD,e1,v,fin _ rfl rfl (λj h1 h2=>(aa h1).trans (aa h2))⟩,⟨rfl,rfl,rfl,rfl,rfl,trivial⟩,⟨rfl,rfl,rfl,rfl,trivial⟩,by show 8-(2+1)<8-2;decide⟩
  ·refine⟨q1,q2,3,e,?_⟩;cbv;refine⟨u,?_⟩;exact⟨_,c6.refl _,⟨3+1,_,r,d,λj=>if j=6 then v3 else if j=7 then v4 else f j,qD,e1,v,fin _ rfl rfl (λj h1 h2=>(aa h1).trans (aa h2))⟩,⟨rfl,rfl,rfl,rfl,rfl,trivial⟩,⟨rfl,rfl,rfl,rfl,trivial⟩,by show 8-(3+1)<8-3;decide⟩
  ·refine⟨q1,q2,4,e,?_⟩;cbv;refine⟨u,?_⟩;exact⟨_,c6.refl _,⟨4+1,_,r,d,λj=>if j=8 then v3 else if j=9 then v4 else f j,qD,e1,v,fin _ rfl rfl (λj h1 h2=>(aa h1).trans (aa h2))⟩,⟨rfl,rfl,rfl,rfl,rfl,trivial⟩,⟨rfl,rfl,rfl,rfl,trivial⟩,by show 8-(4+1)<8-4;decide⟩
  ·refine⟨q1,q2,5,e,?_⟩;cbv;refine⟨u,?_⟩;exact⟨_,c6.refl _,⟨5+1,_,r,d,λj=>if j=10 then v3 else if j=11 then v4 else f j,qD,e1,v,fin _ rfl rfl (λj h1 h2=>(aa h1).trans (aa h2))⟩,⟨rfl,rfl,rfl,rfl,rfl,trivial⟩,⟨rfl,rfl,rfl,rfl,trivial⟩,by show 8-(5+1)<8-5;decide⟩
  ·refine⟨q1,q2,6,e,?_⟩;cbv;refine⟨u,?_⟩;exact⟨_,c6.refl _,⟨6+1,_,r,d,λj=>if j=12 then v3 else if j=13 then v4 else f j,qD,e1,v,fin _ rfl rfl (λj h1 h2=>(aa h1).trans (aa h2))⟩,⟨rfl,rfl,rfl,rfl,rfl,trivial⟩,⟨rfl,rfl,rfl,rfl,trivial⟩,by show 8-(6+1)<8-6;decide⟩
  ·refine⟨q1,q2,7,e,?_⟩;cbv;refine⟨u,?_⟩;exact⟨_,c6.refl _,⟨7+1,_,r,d,λj=>if j=14 then v3 else if j=15 then v4 else f j,qD,e1,v,fin _ rfl rfl (λj h1 h2=>(aa h1).trans (aa h2))⟩,⟨rfl,rfl,rfl,rfl,rfl,trivial⟩,⟨rfl,rfl,rfl,rfl,trivial⟩,by show 8-(7+1)<8-7;decide⟩
 ·have h5:¬k<8:=fM hP g;have q:i=8:=by((try simp only[nc] at*);omega)
  subst q;have l:(cs,ok)=kp s 18:=p;have r1:cs=rs:=by rw[w,<-l]
  have W:∀j,j<16->f j=F j:=λj hj=>by rw[hf j hj,ae qW,hF j hj]
  have hle:P.le (P.c9 cs) 500=decide (cs.length<=500):=by rw[da hP];subst hP;show decide ((cs.length:Int)<=500)=_;exact decide_eq_decide.2 qW
  have r2:ok=true->P.le (P.c9 cs) 500=ro:=λh=>by rw[hle,n,<-l,h];rfl
  have r3:ok=false->false=ro:=λh=>by rw[n,<-l,h];rfl
  clear l w n hF hg0 hg1
  rcases ok with _|_
  ·have r4:=r3 rfl;cbv
   repeat'(refine BL.mk ?_ ?_)
   all_goals exact Y _ _ f cs _ W r1 r4 (c6.refl _) ⟨rfl,rfl,an 0,ah 38,rfl⟩
  ·have r4:=r2 rfl;cbv
   repeat'(refine BL.mk ?_ ?_)
   all_goals exact Y _ _ f cs _ W r1 r4 (c6.refl _) ⟨rfl,rfl,an 0,ah 38,rfl⟩
def D3(s:BS):V:=.agg [.int .i64 (jt s 0),.int .i64 (jt s 1),.str (kp s 18).1,.int .i64 (jt s (0+2)),.int .i64 (jt s (1+2)),.int .i64 (jt s (2+2)),.int .i64 (jt s (3+2)),.int .i64 (jt s (4+2)),.int .i64 (jt s (5+2)),.int .i64 (jt s (6+2)),.int .i64 (jt s (7+2)),.int .i64 (jt s (8+2)),.int .i64 (jt s (9+2)),.int .i64 (jt s (10+2)),.int .i64 (jt s (11+2)),.int .i64 (jt s (12+2)),.int .i64 (jt s (13+2)),.int .i64 (jt s (14+2)),.int .i64 (jt s (15+2)),.int .i64 (jt s (0+2)),.int .i64 (jt s (1+2)),.int .i64 (jt s (2+2)),.int .i64 (jt s (3+2)),.int .i64 (jt s (4+2)),.int .i64 (jt s (5+2)),.int .i64 (jt s (6+2)),.int .i64 (jt s (7+2)),.int .i64 (jt s (8+2)),.int .i64 (jt s (9+2)),.int .i64 (jt s (10+2)),.int .i64 (jt s (11+2)),.int .i64 (jt s (12+2)),.int .i64 (jt s (13+2)),.int .i64 (jt s (14+2)),.int .i64 (jt s (15+2)),.nilsl,.bool false,.int .i64 0]
def V.Vk:V->Bool
 |.int _ _=>true
 |.str _=>true
 |.bool _=>true
 |.nilsl=>true
 |_=>false
theorem Jt:∀{l:List V},l.all V.Vk=true->∀v∈l,Fz v
 |[],_,v,h=>by cases h
 |a::l,h,v,hv=>by
  simp only[eL,aW] at h
  rcases aw.1 hv with rfl|hv
  ·have:=h.1;cases v<;>first|exact .int _ _|exact .str _|exact .bool _|exact .nilsl|(simp[V.Vk] at this)
  ·exact Jt h.2 v hv
theorem Ju(s:BS):Fz (D3 s):=.agg _ (Jt rfl)
def mq(s:BS):Bool:=(kp s 18).2&&decide ((kp s 18).1.length<=500)
theorem NH(s:BS)(hs:s.length<=maxLen):Spec Tryz.prog 135 [.str s] Hp.emp (Is (.tup [D3 s,.bool (mq s)])):=
 ep iD NF [D3 s,.bool (mq s)] (.tup _ (λv hv=>by
  rcases aw.1 hv with rfl|hv
  ·exact Ju s
  ·rw[aq.1 hv];exact .bool _)) λR b=>NG dn rfl _ _ s hs XD (jt s 0) (jt s 1) rfl rfl (λj=>jt s (j+2)) (λ_ _=>rfl) (kp s 18).1 (mq s) rfl rfl R
  λc s' f cs x hf a hx he hr=>by
   refine b c s' he ?_;unfold D3;rw[a,hx,hf 0 qD,hf 1 qD,hf 2 qD,hf 3 qD,hf 4 qD,hf 5 qD,hf 6 qD,hf 7 qD,hf 8 qD,hf 9 qD,hf 10 qD,hf 11 qD,hf 12 qD,hf 13 qD,hf 14 qD,hf 15 qD] at hr;exact hr
def jH(s:BS):eP:=⟨jt s 0,jt s 1,(jI (kp s 2).1).1⟩
def pa(s:BS):Bool:=(kp s 2).2&&(decide ((jI (kp s 2).1).2=0)&&decide (iL (jH s)=0))
def Jv:AC:=qr [qo 1 (.box 9 1 (.t 0)),qo 2 (.alloc 91 xI),qo 3 (.mov (.c (.bool false)))] (qr [qo 4 (.alloc 4 [(.bool false)]),⟨none,none,.store 1 (.t 4) (.c (.bool true))⟩] (qr [qa 8 151 [.t 1,.t 4],qa 9 151 [.t 1,.t 4],qo 10 (.build xI [(0,1,(.t 8)),(1,1,(.t 9))]),qo 5 (.alloc 91 xI),qs 3 5 10] (qr [ql 12 1,qa 13 152 [.t 12],qm 11 13,qx 14 0 11,qx 15 1 11,qm 6 14,qm 7 15] (qr [qm 16 6,qf 17 2 5,qs 1 17 16] (qq (.region true [qd 18 3 5,ql 19 4,qm 20 19,qg 21 20 true (.mov (.t 7)),qg 22 20 true (.bin .eql (.t 21) (qk 0)),qo 23 (.pick (.t 20) (.t 22) (.c (.bool false))),qm 24 23,qg 25 24 true (.loadn 3 (.t 5)),qg 26 24 true (.call 114 [.t 25]),qg 27 24 true (.bin .eql (.t 26) (qk 0)),qo 28 (.pick (.t 24) (.t 27) (.c (.bool false))),qs 3 2 18,qm 3 28]) .ret)))))
theorem Rq:fF Tryz.prog 136 Tryz.f136 Jv [.cn 2 3,.t 3] 1 er:=⟨Tryz.func136,by decide+kernel,by kernel_rfl,by kernel_rfl,by decide+kernel⟩
theorem Rr(P:Prim)(hP:P=dn)(T F:c8)(s:BS)(hs:s.length<=maxLen)(j:V4 T)(u:BS->List (List V))(v:BS->Int)
  (c:∀s,s.length<=maxLen->gK T 152 [.str s] (.tup [.sl false 3 (u s),qI (v s)]))(x:Int->Int->BS->Int)(h:∀w q s,s.length<=maxLen->gK F 114 [.agg [qI w,qI q,.sl false 3 (u s)]] (qI (x w q s)))
  (rw i:Int)(rd:List (List V))(ro:Bool)(y:rw=jt s 0)(z:i=jt s 1)(k:rd=u (kp s 2).1)(a:ro=((kp s 2).2&&(decide (v (kp s 2).1=0)&&decide (x rw i (kp s 2).1=0))))
  (R:S->Prop)(A:∀G s' w q d b,w=rw/\q=i/\d=rd/\b=ro->c6 G s'->iH [.cn 2 3,.t 3] [.agg [qI w,qI q,.sl false 3 d],.bool b] s'->R G):gj P T F Jv (S0 [.str s] Hp.emp) R (λ_ _=>False) R:=by
 cbv;intro J;cbv;intro f;cbv;intro K;cbv
 repeat' first|(refine qA ?_;cbv)|(intro f;cbv)
 refine j _ _ _ _ s true _ _ hs rfl rfl rfl λs1 l v1 h1=>?_;obtain⟨m,n⟩:=h1;have e1:(s1,l)=kp s 1:=m;have H:s1.length<=maxLen:=by have:=nS s 1;rw[<-e1] at this;exact aV this hs
 cbv;refine j _ _ _ _ s1 l _ _ H rfl rfl rfl λs2 o v2 h2=>?_;obtain⟨p,r⟩:=h2;have B:(s2,o)=kp s 2:=by rw[p,e1];rfl
 have C:rw=v1:=by rw[n,y];rfl
 have D:i=v2:=by rw[r,z,e1];rfl
 have I:s2.length<=maxLen:=by have:=nS s 2;rw[<-B] at this;exact aV this hs
 rw[<-B] at k a;subst C D;have c1:=c s2 I;have E:=h rw i s2 I;rw[<-k] at c1 E;clear m n p r c h e1 H B;simp only[] at a
 generalize v s2=e at c1 a
 generalize x rw i s2=q0 at E a
 cbv;intro L;cbv
 repeat' first|(refine qA ?_;cbv)|(intro f;cbv)|(refine c1 _ _ ?_;cbv)|fail
 rcases o with _|_
 ·cbv;exact A _ _ _ _ _ _ ⟨rfl,rfl,rfl,a.symm⟩ (c6.refl _) ⟨rfl,rfl,an 0,ah 3,rfl⟩
 ·cbv
  repeat' first|(refine qA ?_;cbv)|(intro f;cbv)
  refine ab (λg=>?_) (λg=>?_)
  ·have he:=nG hP g;cbv
   repeat' first|(refine qA ?_;cbv)|(intro f;cbv)|(refine E _ _ ?_;cbv)|fail
   exact A _ _ _ _ _ _ ⟨rfl,rfl,rfl,by rw[a,he];subst hP;rfl⟩ (c6.refl _) ⟨rfl,rfl,an 0,ah 3,rfl⟩
  ·have he:=nH hP g;cbv
   repeat' first|(refine qA ?_;cbv)|(intro f;cbv)
   exact A _ _ _ _ _ _ ⟨rfl,rfl,rfl,by rw[a,cU he];rfl⟩ (c6.refl _) ⟨rfl,rfl,an 0,ah 3,rfl⟩
theorem Cr{d:List Part}(h:ed d=0):fH d:=by
 have a:maxLen=9223372036854775807:=by decide
 obtain⟨h1,h2,_⟩:=fP h;refine⟨qW,λp hp=>?_⟩;have:=iU (h2 p hp);exact⟨by unfold jx;omega,by unfold jx;omega,qW⟩
theorem pJ(s:BS):fH (jI s).1:=by
 unfold jI
 split
 ·exact⟨aP _,by simp⟩
 ·split
  ·rename_i h;exact Cr h.2
  ·exact⟨aP _,by simp⟩
theorem Rs(s:BS)(hs:s.length<=maxLen):Spec Tryz.prog 136 [.str s] Hp.emp (Is (.tup [.agg (ca (jH s)),.bool (pa s)])):=
 ep iD Rq [.agg (ca (jH s)),.bool (pa s)] (.tup _ (λv hv=>by
  rcases aw.1 hv with rfl|hv
  ·exact .agg _ (by intro v hv;simp[ca] at hv;rcases hv with rfl|rfl|rfl;exact .int _ _;exact .int _ _;exact .sl _ _ (gI _))
  ·rw[aq.1 hv];exact .bool _)) λR a=>Rr dn rfl _ _ s hs XD (λs=>(jI s).1.map bd) (λs=>(jI s).2) (λs hs=>im (I3 s hs) rfl rfl) (λw q s=>iL ⟨w,q,(jI s).1⟩)
   (λw q s hs=>oh (B9 ⟨w,q,(jI s).1⟩ (pJ s)) (λh=>.cons (.same _) .nil) rfl) (jt s 0) (jt s 1) _ (pa s) rfl rfl rfl rfl R
  λc s' w q d b h he hr=>by
   obtain⟨h1,h2,h3,h4⟩:=h;refine a c s' he ?_;rw[h1,h2,h3,h4] at hr;exact hr
def D5:AC:=qr [qo 4 (.mov (.c (.slice none 0 0))),qo 5 (.mov (.c qe)),qo 6 (.mov (.c (.bool false)))] (qr [qo 7 (.mov (.c (.slice none 0 0)))] (qq (qr [qm 11 1,qz 12 0] (.block 0 (.loop (qr [qb 13 .lss 12 11] (qq (qu 13 .skip (.exit 0)) (qq (.block 1 (qr [qm 15 0,qa 16 154 [.t 15],qm 14 16,qx 17 0 14,qx 18 1 14,qx 19 2 14,qm 8 17,qm 9 18,qm 10 19] (qq (qr [qm 20 10,qc 21 .neq 20 0] (qu 21 (qr [qo 4 (.mov (.c (.slice none 0 0))),qo 5 (.mov (.c qe)),qo 6 (.mov (.c (.bool false)))] .ret) .skip)) (qr [qm 22 7,qm 23 8,qo 24 (.bslice 3 1 [.t 23]),qo 25 (.append 3 1 8 (.t 22) (.t 24)),qm 7 25] (qR [qm 26 0,qm 27 9,qo 28 (.slstr (.t 26) (some (.t 27)) none),qm 0 28]))))) (qR [qc 29 .add 12 1,qm 12 29]))))))) (qr [qm 30 7,qm 31 0,qm 4 30,qm 5 31,qo 6 (.mov (.c (.bool true)))] .ret)))
theorem NI:fF Tryz.prog 138 Tryz.f138 D5 [.t 4,.t 5,.t 6] 2 er:=⟨Tryz.func138,by decide+kernel,by kernel_rfl,by kernel_rfl,by decide+kernel⟩
structure Zn(s:BS)(n:Nat) where
 i:Nat
 k:Int
 cs:BS
 b:Option Nat
 c:Nat
 rows:List (List V)
 hi:i<=n
 hk:k=(i:Int)
 hs:(cs,true)=kp s i
 ds:rows=gL ((List.range i).map (jt s))
 hc:c=i
theorem NJ(P:Prim)(hP:P=dn)(T v:c8)(s:BS)(hs:s.length<=maxLen)(n:Nat)(hn:n<=18)(l d q:BS->Int)(m:∀s,l s=(gx s).1)(o:∀s,d s=(gx s).2.1)(f:∀s,q s=(gx s).2.2)
  (p:∀s,s.length<=maxLen->gK T 154 [.str s] (.tup [qI (l s),qI (d s),qI (q s)]))
  (rr:List (List V))(rs:BS)(ro:Bool)(h:ro=(kp s n).2)(hg:(kp s n).2=true->rr=gL ((List.range n).map (jt s))/\rs=(kp s n).1)(hb:(kp s n).2=false->rr=[]/\rs=[])
  (R:S->Prop)(u:∀x y,x=rs/\y=ro->qZ [.t 4,.t 5,.t 6] 1 rr [.str x,.bool y] R):gj P T v D5 (S0 [.str s,qI (n:Int)] Hp.emp) R (λ_ _=>False) R:=by
 have j:∀x:BS,P.c9 x=(x.length:Int):=λx=>da hP x;cbv;refine⟨Zn s n,λy=>[(0,.str y.cs),(7,.own 1000025 y.b 1 y.c),(11,qI (n:Int)),(12,qI y.k)],λy=>[(1000025,⟨y.b,3,1,y.rows⟩)],λy=>n-y.i,
  ⟨_,c6.nil (i:=7) (k:=1000025) (ty:=3) (sz:=1) rfl rfl,⟨0,0,s,_,_,_,aP _,rfl,rfl,rfl,rfl⟩,⟨rfl,rfl,rfl,rfl,trivial⟩,⟨rfl,trivial⟩⟩,?_⟩
 rintro⟨i,k,cs,b,c,rows,hi,hk,a,ds,hc⟩;have lc:cs.length<=maxLen:=by have:=nS s i;rw[<-a] at this;exact aV this hs
 cbv;refine ab (λg=>?_) (λg=>?_)
 ·have h5:k<(n:Int):=fJ hP g;have pd:i<n:=by((try simp only[nc] at*);omega)
  have c1:=p cs lc;have z:P.i64 (P.add k 1):=by rw[add_eq hP];exact eR hP qO
  have e1:P.add k 1=((i+1:Nat):Int):=by rw[add_eq hP,hk];((try simp only[nc] at*);omega)
  cbv;refine c1 _ _ ?_;cbv;refine ab (λg=>?_) (λg=>?_)
  ·have hx:=hH hP g;rw[f] at hx;have hf:=Rp (s:=s) (n:=i) (by rw[<-a];exact hx);have e:=xn s (i+1) (n-(i+1)) hf;rw[show i+1+(n-(i+1))=n by omega] at e;obtain⟨b1,b2⟩:=hb e;cbv;exact(u _ _ ⟨b2.symm,by rw[h,e]⟩).1 _ _ (c6.refl _) rfl b1
  ·have hx:=gZ hP g;rw[f] at hx;obtain⟨t1,t2⟩:=TP (s:=s) (n:=i) (by rw[<-a];exact hx);rw[<-a] at t1 t2;simp only[] at t1 t2;have y1:=vu hx;rw[<-o] at y1 t1;rw[<-m] at t2;have A:P.fC 0 (d cs):=iu hP y1.1;have B:P.fC (d cs) (P.c9 cs):=lE hP (by rw[j];exact y1.2);have C:P.fC (P.c9 cs) (P.c9 cs):=lE hP (aN _);have w:P.jy cs (d cs) (P.c9 cs)=cs.drop (d cs).toNat:=by
    rw[j];subst hP;show(cs.take ((cs.length:Int)).toNat).drop (d cs).toNat=_;rw[aA,aM]
   have f4:P.nL rows c:=by subst hP;show rows.length=c;rw[ds,hc];simp[gL]
   have f5:∀r,P.bytes (P.add (P.int c) (P.dv [r])) 8:=by intro r;subst hP;show((c:Int)+1)*8<=_;rw[hc];((try simp only[nc] at*);omega)
   have f6:∀r,P.nL [r] 1:=by intro r;subst hP;rfl
   have f7:P.kB rows [[qI (l cs)]]=gL ((List.range (i+1)).map (jt s)):=by rw[ds,<-t2,List.range_succ];subst hP;simp[dn,gL]
   have f8:∀r:List V,P.hU c (P.fQ [r])=i+1:=by intro r;rw[hc];subst hP;rfl
   cbv
   repeat' first|(refine And.intro (by first|assumption|exact f6 _|exact f5 _) ?_;cbv)|(intro β;cbv)
   exact⟨_,c6.refl _,⟨i+1,_,_,_,_,_,pd,e1,(aB (λx=>(x,true)) w).trans t1.symm,f7,f8 _⟩,⟨rfl,rfl,rfl,rfl,trivial⟩,⟨rfl,trivial⟩,by show n-(i+1)<n-i;omega⟩
 ·have h5:¬k<(n:Int):=fM hP g;have pd:i=n:=by((try simp only[nc] at*);omega)
  subst pd;have ht:(kp s i).2=true:=by rw[<-a]
  obtain⟨g1,g2⟩:=hg ht;cbv;exact(u cs true ⟨by rw[g2,<-a],by rw[h,ht]⟩).2.1 _ _ _ _ _ _ _ (c6.refl _) rfl rfl ⟨by rw[hc,g1];simp[gL],by rw[ds,g1]⟩
def q7(s:BS)(n:Nat):List Int:=if(kp s n).2=true then(List.range n).map (jt s) else[]
def pK(s:BS)(n:Nat):BS:=if(kp s n).2=true then(kp s n).1 else[]
theorem D6(s:BS)(hs:s.length<=maxLen)(n:Nat)(hn:n<=18):Spec Tryz.prog 138 [.str s,.int .i64 (n:Int)] Hp.emp (Is (.tup [.sl false 1 (gL (q7 s n)),.str (pK s n),.bool (kp s n).2])):=
 jq iD NI λR a=>NJ dn rfl _ _ s hs n hn (λs=>(gx s).1) (λs=>(gx s).2.1) (λs=>(gx s).2.2) (λ_=>rfl) (λ_=>rfl) (λ_=>rfl) (λs hs=>im (xg s hs) rfl rfl)
  (gL (q7 s n)) (pK s n) (kp s n).2 rfl (λh=>by unfold q7 pK;rw[ae h,ae h];exact⟨rfl,rfl⟩) (λh=>by unfold q7 pK;rw[aa (by rw[h];decide),aa (by rw[h];decide)];exact⟨rfl,rfl⟩) R
  λx y h=>by
   obtain⟨h1,h2⟩:=h;rw[h1,h2];exact ng (zM _) (zN _) (λv hv=>by
    rcases aw.1 hv with rfl|hv
    ·exact .str _
    ·rw[aq.1 hv];exact .bool _) a
def gJ(tb:Nat->Int)(w:Nat)(q n:Int):Nat->Int:=λj=>if j=2*w then q else if j=2*w+1 then n else tb j
def lF(gn b:Int)(tx:BS)(fs tb:Nat->Int)(rv:V)(wh:Bool)(gd:Int):List V:=[.int .i64 gn,.int .i64 b,.str tx,.int .i64 (fs 0),.int .i64 (fs 1),.int .i64 (fs 2),.int .i64 (fs 3),.int .i64 (fs 4),.int .i64 (fs 5),.int .i64 (fs 6),.int .i64 (fs 7),.int .i64 (fs 8),.int .i64 (fs 9),.int .i64 (fs 10),.int .i64 (fs 11),.int .i64 (fs 12),.int .i64 (fs 13),.int .i64 (fs 14),.int .i64 (fs 15),.int .i64 (tb 0),.int .i64 (tb 1),.int .i64 (tb 2),.int .i64 (tb 3),.int .i64 (tb 4),.int .i64 (tb 5),.int .i64 (tb 6),.int .i64 (tb 7),.int .i64 (tb 8),.int .i64 (tb 9),.int .i64 (tb 10),.int .i64 (tb 11),.int .i64 (tb 12),.int .i64 (tb 13),.int .i64 (tb 14),.int .i64 (tb 15),rv,.bool wh,.int .i64 gd]
def GJ(bl:Nat)(r:List V):Ob:=⟨some bl,72,38,[r]⟩
def iw(ba:Option Nat)(rows:List (List V)):Ob:=⟨ba,91,3,rows⟩
def ym:AC:=qr [qo 3 (.box 91 3 (.t 1))] (qq (.region true [qm 4 0,qm 5 0,qn 6 5,qf 7 35 6,ql 8 7,qd 9 3 3,qo 10 (.bslice 91 3 [.t 9]),qo 11 (.append 91 3 40 (.t 8) (.t 10)),qn 12 4,qf 13 35 12,qs 1 13 11]) (.region true [qm 14 0,qf 15 0 3,ql 16 15,qf 17 1 3,ql 18 17,qm 19 0,qn 20 19,qf 21 1 20,ql 22 21,qm 23 0,qn 24 23,qf 25 35 24,ql 26 25,qo 27 (.len false (.t 26)),qb 28 .add 22 27,qo 29 (.build Bo [(0,1,(.t 18)),(1,1,(.t 28))]),qn 30 14,qf 31 19 30,qo 32 (.iarr 8 2 (.t 31) (.t 16)),qs 2 32 29]))
theorem D7:fF Tryz.prog 80 Tryz.f80 ym [] 2 er:=⟨Tryz.func80,by decide+kernel,by kernel_rfl,by kernel_rfl,by decide+kernel⟩
theorem NK(P:Prim)(hP:P=dn)(T m:c8)(bl:Nat)(ba:Option Nat)(gn b gd:Int)(tx:BS)(fs tb:Nat->Int)(wh:Bool)(n:Nat)(rows:List (List V))(hn:n=rows.length)(o:n<=100)(w:Nat)(hw:w<8)(c q:Int)(k:c=(w:Int))(dr:List (List V))(hb:0<=b/\b<=2147483647)
  (e:List (List V))(f:e=rows++[[qI c,qI q,.sl false 3 dr]])(n':Nat)(h:n'=n+1)(v:Int)(hv:v=b+(n:Int)+1)
  (R:S->Prop)(g:∀(l s':S)(i:Option Nat)(a:Nat->Int)(r2:List (List V))(n2:Nat),(∀j,a j=gJ tb w q v j)->r2=e->n2=n'->c6 l s'->lM s' [] (λx=>l4 x=.tup [])->
   fG [(0,⟨some bl,72,38,[[qI gn,qI b,.str tx,qI (fs 0),qI (fs 1),qI (fs 2),qI (fs 3),qI (fs 4),qI (fs 5),qI (fs 6),qI (fs 7),qI (fs 8),qI (fs 9),qI (fs 10),qI (fs 11),qI (fs 12),qI (fs 13),qI (fs 14),qI (fs 15),qI (a 0),qI (a 1),qI (a 2),qI (a 3),qI (a 4),qI (a 5),qI (a 6),qI (a 7),qI (a 8),qI (a 9),qI (a 10),qI (a 11),qI (a 12),qI (a 13),qI (a 14),qI (a 15),.own 1 i 3 n2,.bool wh,qI gd]]⟩),(1,⟨i,91,3,r2⟩)] s'->R l):
  gj P T m ym (S0 [.ptr 0 (some bl) 38 0 0,.agg [qI c,qI q,.sl false 3 dr]] (cp [(0,⟨some bl,72,38,[[qI gn,qI b,.str tx,qI (fs 0),qI (fs 1),qI (fs 2),qI (fs 3),qI (fs 4),qI (fs 5),qI (fs 6),qI (fs 7),qI (fs 8),qI (fs 9),qI (fs 10),qI (fs 11),qI (fs 12),qI (fs 13),qI (fs 14),qI (fs 15),qI (tb 0),qI (tb 1),qI (tb 2),qI (tb 3),qI (tb 4),qI (tb 5),qI (tb 6),qI (tb 7),qI (tb 8),qI (tb 9),qI (tb 10),qI (tb 11),qI (tb 12),qI (tb 13),qI (tb 14),qI (tb 15),.own 1 ba 3 n,.bool wh,qI gd]]⟩),(1,⟨ba,91,3,rows⟩)])) R (λ_ _=>False) R:=by
 have f4:P.nL rows n:=lx hP _ _ hn.symm;have f5:∀r,P.bytes (P.add (P.int n) (P.dv [r])) 40:=by intro r;subst hP;show((n:Int)+1)*40<=_;((try simp only[nc] at*);omega)
 have f6:∀r,P.nL [r] 1:=by intro r;subst hP;rfl
 have f7:P.kB rows [[qI c,qI q,.sl false 3 dr]]=e:=by rw[f];subst hP;rfl
 have f8:∀r:List V,P.hU n (P.fQ [r])=n':=by intro r;rw[h];subst hP;rfl
 have f9:∀r:List V,P.int (P.hU n (P.fQ [r]))=(n:Int)+1:=by intro r;rw[f8,h,int_eq hP];((try simp only[nc] at*);omega)
 have g1:∀r:List V,P.add b (P.int (P.hU n (P.fQ [r])))=v:=by intro r;rw[add_eq hP,f9,hv];omega
 have g2:∀r:List V,P.i64 (P.add b (P.int (P.hU n (P.fQ [r])))):=by intro r;rw[g1,hv];exact eR hP qO
 have q1:P.fC 0 c:=iu hP qW;have q2:P.iO c 8:=kN hP qW;have d:P.nat c=w:=by rw[k];subst hP;rfl
 cbv
 repeat' first|(refine And.intro (by first|assumption|decide|exact f6 _|exact f5 _|exact g2 _) ?_;cbv)|(intro p;cbv)
 have hc:w=0\/w=1\/w=2\/w=3\/w=4\/w=5\/w=6\/w=7:=by omega
 have g3:=g1 [qI c,qI q,.sl false 3 dr];have g4:=f8 [qI c,qI q,.sl false 3 dr]
 rcases hc with rfl|rfl|rfl|rfl|rfl|rfl|rfl|rfl
 ·refine⟨0,d,?_⟩;cbv;exact g _ _ _ (λj=>if j=0 then q else if j=1 then P.add b (P.int (P.hU n (P.fQ [[qI c,qI q,.sl false 3 dr]]))) else tb j) _ _ (λj=>by rw[g3];rfl) f7 g4 (c6.refl _) rfl ⟨rfl,rfl,trivial⟩
 ·refine⟨1,d,?_⟩;cbv;exact g _ _ _ (λj=>if j=2 then q else if j=3 then P.add b (P.int (P.hU n (P.fQ [[qI c,qI q,.sl false 3 dr]]))) else tb j) _ _ (λj=>by rw[g3];rfl) f7 g4 (c6.refl _) rfl ⟨rfl,rfl,trivial⟩
 ·refine⟨2,d,?_⟩;cbv;exact g _ _ _ (λj=>if j=4 then q else if j=5 then P.add b (P.int (P.hU n (P.fQ [[qI c,qI q,.sl false 3 dr]]))) else tb j) _ _ (λj=>by rw[g3];rfl) f7 g4 (c6.refl _) rfl ⟨rfl,rfl,trivial⟩
 ·refine⟨3,d,?_⟩;cbv;exact g _ _ _ (λj=>if j=6 then q else if j=7 then P.add b (P.int (P.hU n (P.fQ [[qI c,qI q,.sl false 3 dr]]))) else tb j) _ _ (λj=>by rw[g3];rfl) f7 g4 (c6.refl _) rfl ⟨rfl,rfl,trivial⟩
 ·refine⟨4,d,?_⟩;cbv;exact g _ _ _ (λj=>if j=8 then q else if j=9 then P.add b (P.int (P.hU n (P.fQ [[qI c,qI q,.sl false 3 dr]]))) else tb j) _ _ (λj=>by rw[g3];rfl) f7 g4 (c6.refl _) rfl ⟨rfl,rfl,trivial⟩
 ·refine⟨5,d,?_⟩;cbv;exact g _ _ _ (λj=>if j=10 then q else if j=11 then P.add b (P.int (P.hU n (P.fQ [[qI c,qI q,.sl false 3 dr]]))) else tb j) _ _ (λj=>by rw[g3];rfl) f7 g4 (c6.refl _) rfl ⟨rfl,rfl,trivial⟩
 ·refine⟨6,d,?_⟩;cbv;exact g _ _ _ (λj=>if j=12 then q else if j=13 then P.add b (P.int (P.hU n (P.fQ [[qI c,qI q,.sl false 3 dr]]))) else tb j) _ _ (λj=>by rw[g3];rfl) f7 g4 (c6.refl _) rfl ⟨rfl,rfl,trivial⟩
 ·refine⟨7,d,?_⟩;cbv;exact g _ _ _ (λj=>if j=14 then q else if j=15 then P.add b (P.int (P.hU n (P.fQ [[qI c,qI q,.sl false 3 dr]]))) else tb j) _ _ (λj=>by rw[g3];rfl) f7 g4 (c6.refl _) rfl ⟨rfl,rfl,trivial⟩
def V.S9:V->Bool
 |.own _ _ _ _=>true
 |v=>V.Vk v
theorem yn:∀{l:List V},l.all V.S9=true->∀v∈l,Fz v
 |[],_,v,h=>by cases h
 |a::l,h,v,hv=>by
  simp only[eL,aW] at h
  rcases aw.1 hv with rfl|hv
  ·have:=h.1;cases v<;>first|exact .int _ _|exact .str _|exact .bool _|exact .nilsl|exact .own _ _ _ _|(simp[V.S9,V.Vk] at this)
  ·exact yn h.2 v hv
theorem D8{gn b:Int}{tx:BS}{fs tb:Nat->Int}{k n:Nat}{ba:Option Nat}{wh:Bool}{gd:Int}(bl:Nat):(GJ bl (lF gn b tx fs tb (.own k ba 3 n) wh gd)).Fz:=by
 intro r hr;simp only[GJ,aq] at hr;subst hr;refine yn ?_;rfl
theorem D9{gn b:Int}{tx:BS}{fs tb:Nat->Int}{k n:Nat}{ba:Option Nat}{wh:Bool}{gd:Int}(bl:Nat)(f:Nat->Nat):(GJ bl (lF gn b tx fs tb (.own k ba 3 n) wh gd)).gM f=GJ bl (lF gn b tx fs tb (.own (f k) ba 3 n) wh gd):=rfl
theorem fL(l:List eP):∀r∈l.map ca,∀v∈r,Fz v:=by
 intro r hr v hv;obtain⟨x,_,rfl⟩:=aC.1 hr;simp[ca] at hv
 rcases hv with rfl|rfl|rfl
 ·exact .int _ _
 ·exact .int _ _
 ·exact .sl _ _ (gI _)
theorem Cs(l:List eP):∀r∈l.map ca,r.length=3:=by
 intro r hr;obtain⟨p,_,rfl⟩:=aC.1 hr;rfl
theorem jA(ba:Option Nat)(l:List eP)(f:Nat->Nat):(iw ba (l.map ca)).gM f=iw ba (l.map ca):=by
 simp[Ob.gM,iw,fp,Function.comp_def,ca,gh,V.rl]
theorem NL(bl:Nat)(ba:Option Nat)(gn b gd:Int)(tx:BS)(fs tb:Nat->Int)(wh:Bool)(l:List eP)(hl:l.length<=100)(r:eP)(hw:0<=r.who/\r.who<=7)(hb:0<=b/\b<=2147483647):
  Spec Tryz.prog 80 [.ptr 0 (some bl) 38 0 0,.agg (ca r)] (cp [(0,GJ bl (lF gn b tx fs tb (.own 1 ba 3 l.length) wh gd)),(1,iw ba (l.map ca))])
  (λv h'=>∃c,(v=.tup []/\∃a,c=[(0,GJ bl (lF gn b tx fs (gJ tb r.who.toNat r.seq (b+(l.length:Int)+1)) (.own 1 a 3 (l.length+1)) wh gd)),(1,iw a ((l++[r]).map ca))])/\h'=cp c):=
 fu iD D7 (L:=[(0,GJ bl (lF gn b tx fs tb (.own 1 ba 3 l.length) wh gd)),(1,iw ba (l.map ca))])
  (λv c=>v=.tup []/\∃a,c=[(0,GJ bl (lF gn b tx fs (gJ tb r.who.toNat r.seq (b+(l.length:Int)+1)) (.own 1 a 3 (l.length+1)) wh gd)),(1,iw a ((l++[r]).map ca))]) λR f=>
  NK dn rfl _ _ bl ba gn b gd tx fs tb wh l.length (l.map ca) (by simp) hl r.who.toNat qW r.who r.seq qW (r.delta.map bd) hb ((l++[r]).map ca) (by simp[ca,gh]) (l.length+1) rfl (b+(l.length:Int)+1) rfl R
   λg s' a h r2 n2 kH d e he hr ha=>by
    rw[kH 0,kH 1,kH 2,kH 3,kH 4,kH 5,kH 6,kH 7,kH 8,kH 9,kH 10,kH 11,kH 12,kH 13,kH 14,kH 15,d,e] at ha;refine f g s' (.tup []) [(0,GJ bl (lF gn b tx fs (gJ tb r.who.toNat r.seq (b+(l.length:Int)+1)) (.own 1 a 3 (l.length+1)) wh gd)),(1,iw a ((l++[r]).map ca))] he hr ha (.tup _ (λv hv=>by cases hv)) (λp hp=>?_) ⟨rfl,a,rfl⟩
    rcases aw.1 hp with rfl|hp
    ·exact D8 bl
    ·rw[aq.1 hp];exact fL _
def TR(T:c8):Prop:=∀(k ka bl:Nat)(ba:Option Nat)(gn b gd:Int)(tx:BS)(fs tb:Nat->Int)(wh:Bool)(n:Nat)(rows:List (List V))(l:List eP)(w q:Int)(dr:List (List V))(r:eP)(h:Hp)(K:V->Hp->Prop),rows=l.map ca->n=l.length->l.length<=100->(w=r.who/\q=r.seq/\dr=r.delta.map bd)->0<=r.who/\r.who<=7->0<=b/\b<=2147483647->Nat.beq k ka=false->
 h k=some ⟨some bl,72,38,[[qI gn,qI b,.str tx,qI (fs 0),qI (fs 1),qI (fs 2),qI (fs 3),qI (fs 4),qI (fs 5),qI (fs 6),qI (fs 7),qI (fs 8),qI (fs 9),qI (fs 10),qI (fs 11),qI (fs 12),qI (fs 13),qI (fs 14),qI (fs 15),qI (tb 0),qI (tb 1),qI (tb 2),qI (tb 3),qI (tb 4),qI (tb 5),qI (tb 6),qI (tb 7),qI (tb 8),qI (tb 9),qI (tb 10),qI (tb 11),qI (tb 12),qI (tb 13),qI (tb 14),qI (tb 15),.own ka ba 3 n,.bool wh,qI gd]]⟩->h ka=some ⟨ba,91,3,rows⟩->
 (∀(d:Option Nat)(a:Nat->Int)(n':Nat)(c:List (List V)),a=gJ tb r.who.toNat r.seq (b+(l.length:Int)+1)->n'=l.length+1->c=(l++[r]).map ca->K (.tup []) (Hp.put (Hp.put h k ⟨some bl,72,38,[[qI gn,qI b,.str tx,qI (fs 0),qI (fs 1),qI (fs 2),qI (fs 3),qI (fs 4),qI (fs 5),qI (fs 6),qI (fs 7),qI (fs 8),qI (fs 9),qI (fs 10),qI (fs 11),qI (fs 12),qI (fs 13),qI (fs 14),qI (fs 15),qI (a 0),qI (a 1),qI (a 2),qI (a 3),qI (a 4),qI (a 5),qI (a 6),qI (a 7),qI (a 8),qI (a 9),qI (a 10),qI (a 11),qI (a 12),qI (a 13),qI (a 14),qI (a 15),.own ka d 3 n',.bool wh,qI gd]]⟩) ka ⟨d,91,3,c⟩))->
 T 80 [.ptr k (some bl) 38 0 0,.agg [qI w,qI q,.sl false 3 dr]] h K
theorem V5:TR (fm Tryz.prog):=by
 rintro k ka bl ba gn b gd tx fs tb wh n rows l w q dr r h K rfl rfl hl ⟨rfl,rfl,rfl⟩ hw hb hne hk g hK;have c:k≠ka:=by intro e;subst e;rw[bO] at hne;cases hne
 have f:¬ka=k:=λe=>c e.symm;have d:gW [(0,k),(1,ka)] ka=1:=by simp[gW,f,c]
 have o:gD [(0,k),(1,ka)] 1=ka:=by simp[gD]
 refine mA (m:=[(0,k),(1,ka)]) (NL bl ba gn b gd tx fs tb wh l hl r hw hb) (.cons ?_ (.cons ?_ .nil)) (λj q hj=>?_) (λp hp=>?_) ?_
 ·have:=Arg.same (h:=h) (m:=[(0,k),(1,ka)]) (.ptr k (some bl) 38 0 0);simpa[V.gM,V.rl,gW] using this
 ·exact Arg.same (.agg (ca r))
 ·simp only[cp] at hj
  split at hj
  ·rename_i h0;exact⟨(0,k),by simp,h0.symm⟩
  ·split at hj
   ·rename_i h0;exact⟨(1,ka),by simp,h0.symm⟩
   ·cases hj
 ·simp only[aw,aD,bw] at hp
  rcases hp with rfl|rfl
  ·refine⟨by simp[gD],by simp[gW],λx hx=>?_⟩;simp only[cp,↓reduceIte,aH] at hx;subst hx;refine⟨?_,D8 bl⟩;rw[hk,aE];have:=D9 (gn:=gn) (b:=b) (tx:=tx) (fs:=fs) (tb:=tb) (k:=ka) (n:=l.length) (ba:=ba) (wh:=wh) (gd:=gd) bl (gW [(0,k),(1,ka)]);rw[d] at this;exact aB some this
  ·refine⟨by simp[gD],d,λx hx=>?_⟩;simp[cp] at hx;subst hx;refine⟨?_,fL _⟩;rw[g,aE];exact aB some (jA ba l _)
 ·rintro v s ⟨rfl,a,rfl⟩;have e:h.gy [(0,k),(1,ka)] (cp [(0,GJ bl (lF gn b tx fs (gJ tb r.who.toNat r.seq (b+(l.length:Int)+1)) (.own 1 a 3 (l.length+1)) wh gd)),(1,iw a ((l++[r]).map ca))])=
    Hp.put (Hp.put h k (GJ bl (lF gn b tx fs (gJ tb r.who.toNat r.seq (b+(l.length:Int)+1)) (.own ka a 3 (l.length+1)) wh gd))) ka (iw a ((l++[r]).map ca)):=by
   funext i
   simp only[Hp.gy,Hp.put,bK,bP,bN,bG,bc]
   by_cases h1:ka=i
   ·subst h1;rw[ae (.inr rfl),ae rfl,d];show(some (iw a ((l++[r]).map ca))).map (Ob.gM (gD [(0,k),(1,ka)]))=_;rw[aE,jA]
   ·by_cases h2:k=i
    ·subst h2;rw[ae (.inl rfl),aa (λe=>h1 e.symm),ae rfl];have wv:gW [(0,k),(1,ka)] k=0:=by simp[gW]
     rw[wv];show(some (GJ bl (lF gn b tx fs (gJ tb r.who.toNat r.seq (b+(l.length:Int)+1)) (.own 1 a 3 (l.length+1)) wh gd))).map (Ob.gM (gD [(0,k),(1,ka)]))=_;rw[aE,D9,o]
    ·rw[aa (by rintro(h|h);exact h2 h;exact h1 h),aa (λe=>h1 e.symm),aa (λe=>h2 e.symm)]
  rw[e];exact hK a _ _ _ rfl rfl rfl
def Jw:AC:=qr [qo 2 (.box 91 3 (.t 0)),qo 3 (.box 91 3 (.t 1)),qo 4 (.mov (.c (.bool false)))] (qr [qf 5 0 2,ql 6 5,qf 7 0 3,ql 8 7,qb 9 .eql 6 8,qm 10 9,qg 11 10 true (.faddr 1 (.t 2)),qg 12 10 true (.load1 (.t 11)),qg 13 10 true (.faddr 1 (.t 3)),qg 14 10 true (.load1 (.t 13)),qg 15 10 true (.bin .eql (.t 12) (.t 14)),qo 16 (.pick (.t 10) (.t 15) (.c (.bool false))),qm 17 16,qg 18 17 true (.faddr 2 (.t 2)),qg 19 17 true (.load1 (.t 18)),qg 20 17 true (.faddr 2 (.t 3)),qg 21 17 true (.load1 (.t 20)),qg 22 17 true (.call 67 [.t 19,.t 21]),qo 23 (.pick (.t 17) (.t 22) (.c (.bool false))),qm 4 23] .ret)
theorem Rt:fF Tryz.prog 66 Tryz.f66 Jw [.t 4] 2 er:=⟨Tryz.func66,by decide+kernel,by kernel_rfl,by kernel_rfl,by decide+kernel⟩
theorem Ru(P:Prim)(hP:P=dn)(T b:c8)(w q:Int)(dr:List (List V))(h1:gK T 67 [.sl false 3 dr,.sl false 3 dr] (.bool true))
  (R:S->Prop)(c:∀s s',c6 s s'->iH [.t 4] [.bool true] s'->R s):gj P T b Jw (S0 [.agg [qI w,qI q,.sl false 3 dr],.agg [qI w,qI q,.sl false 3 dr]] Hp.emp) R (λ_ _=>False) R:=by
 cbv;intro β;cbv
 repeat' first|(refine qA ?_;cbv)|(intro a;cbv)
 refine iv (pC hP rfl) ?_;cbv
 repeat' first|(refine qA ?_;cbv)|(intro a;cbv)
 refine iv (pC hP rfl) ?_;cbv
 repeat' first|(refine qA ?_;cbv)|(intro a;cbv)|(refine h1 _ _ ?_;cbv)|fail
 exact c _ _ (c6.refl _) rfl
theorem Rv(r:eP)(hr:r.delta.length<=10000000):Spec Tryz.prog 66 [.agg (ca r),.agg (ca r)] Hp.emp (Is (.bool true)):=
 ep iD Rt [.bool true] (.bool _) λR a=>Ru dn rfl _ _ r.who r.seq (r.delta.map bd) (Ft r.delta hr) R a
def Jx:AC:=qr [qo 6 (.mov (.c (.bool false)))] (qq (qr [qm 10 0,qo 11 (.len false (.t 10)),qm 12 1,qo 13 (.len false (.t 12)),qb 14 .neq 11 13] (qu 14 (qr [qo 6 (.mov (.c (.bool false)))] .ret) .skip)) (qq (qr [qm 15 0,qo 16 (.len false (.t 15)),qz 17 0] (.block 0 (.loop (qr [qb 18 .lss 17 16] (qq (qu 18 .skip (.exit 0)) (qq (.block 1 (qr [qm 19 17,qo 20 (.iaddr 3 (.t 15) (.t 17)),qd 21 3 20,qo 8 (.alloc 91 xI),qm 7 19,qs 3 8 21] (qr [qm 22 1,qm 23 7,qo 24 (.iaddr 3 (.t 22) (.t 23)),qd 25 3 24,qo 9 (.alloc 91 xI),qs 3 9 25] (qr [qm 26 2,qd 27 3 8,qd 28 3 9,qo 29 (.callv (.t 26) [.t 27,.t 28]),qo 30 (.not (.t 29))] (qu 30 (qr [qo 6 (.mov (.c (.bool false)))] .ret) .skip))))) (qR [qc 31 .add 17 1,qm 17 31]))))))) (qr [qo 6 (.mov (.c (.bool true)))] .ret)))
theorem Rw:fF Tryz.prog 65 Tryz.f65 Jx [.t 6] 3 er:=⟨Tryz.func65,by decide+kernel,by kernel_rfl,by kernel_rfl,by decide+kernel⟩
structure Zo(rows:List (List V)) where
 k:Int
 m:Nat
 hk:k=(m:Int)
 hm:m<=rows.length
theorem Rx(P:Prim)(hP:P=dn)(T g:c8)(f:Nat)(rows:List (List V))(hl:rows.length<=10000000)(hf:∀r∈rows,∃a b dr,r=[qI a,qI b,.sl false 3 dr]/\gK T f [.agg [qI a,qI b,.sl false 3 dr],.agg [qI a,qI b,.sl false 3 dr]] (.bool true))
  (R:S->Prop)(i:∀s s',c6 s s'->iH [.t 6] [.bool true] s'->R s):gj P T g Jx (S0 [.sl true 3 rows,.sl true 3 rows,.fn f []] Hp.emp) R (λ_ _=>False) R:=by
 have h1:P.dv rows=(rows.length:Int):=gE hP rows;cbv;refine hJ (oq hP rfl) ?_;cbv;refine⟨Zo rows,λy=>[(1,.sl true 3 rows),(2,.fn f []),(15,.sl true 3 rows),(16,qI (P.dv rows)),(17,qI y.k)],λ_=>[],λy=>rows.length-y.m,
  ⟨_,c6.refl _,⟨0,0,rfl,aP _⟩,⟨rfl,rfl,rfl,rfl,rfl,trivial⟩,trivial⟩,?_⟩
 rintro⟨k,m,hk,hm⟩;cbv;refine ab (λh=>?_) (λh=>?_)
 ·have h5:k<P.dv rows:=fJ hP h;rw[h1] at h5;have d:m<rows.length:=by((try simp only[nc] at*);omega)
  obtain⟨r,hr⟩:∃r,rows[m]? =some r:=⟨_,af d⟩;obtain⟨a,b,dr,rfl,hx⟩:=hf r (ax hr);have c:P.row rows (P.nat k) [qI a,qI b,.sl false 3 dr]:=ga hP hk hr;have q1:P.fC 0 k:=iu hP qO;have q2:P.i64 (P.add k 1):=by rw[add_eq hP];exact eR hP qO
  have j:P.add k 1=((m+1:Nat):Int):=by rw[add_eq hP,hk];simp
  cbv
  repeat' first|(refine qA ?_;cbv)|(intro e;cbv)
  refine⟨_,c,?_⟩;cbv
  repeat' first|(refine qA ?_;cbv)|(intro e;cbv)
  refine⟨_,c,?_⟩;cbv
  repeat' first|(refine qA ?_;cbv)|(intro e;cbv)|(refine hx _ _ ?_;cbv)|fail
  refine⟨_,c6.refl _,⟨_,m+1,j,d⟩,⟨rfl,rfl,rfl,rfl,rfl,trivial⟩,trivial,?_⟩;show rows.length-(m+1)<rows.length-m;omega
 ·cbv;exact i _ _ (c6.refl _) rfl
theorem Ry(l:List eP)(hl:l.length<=10000000)(hd:∀r∈l,r.delta.length<=10000000):Spec Tryz.prog 65 [.sl true 3 (l.map ca),.sl true 3 (l.map ca),.fn 66 []] Hp.emp (Is (.bool true)):=
 ep iD Rw [.bool true] (.bool _) λR a=>Rx dn rfl _ _ 66 (l.map ca) (by simpa using hl) (λx hx=>by
  obtain⟨r,h1,rfl⟩:=aC.1 hx;exact⟨_,_,_,rfl,ia (Rv r (hd r h1)) (λ_=>.cons (.same _) (.cons (.same _) .nil)) rfl⟩) R a
def Jy:AC:=qr [qo 4 (.mov (.c (.bool false)))] (qr [qm 5 0,qm 6 1,qo 7 (.call 65 [.t 5,.t 6,(.c (.func (.func 66) #[] #[]))]),qm 4 7] .ret)
theorem Rz:fF Tryz.prog 20 Tryz.f20 Jy [.t 4] 2 er:=⟨Tryz.func20,by decide+kernel,by kernel_rfl,by kernel_rfl,by decide+kernel⟩
theorem RA(P:Prim)(hP:P=dn)(T a:c8)(rows:List (List V))(h1:gK T 65 [.sl true 3 rows,.sl true 3 rows,.fn 66 []] (.bool true))
  (R:S->Prop)(b:∀s s',c6 s s'->iH [.t 4] [.bool true] s'->R s):gj P T a Jy (S0 [.sl true 3 rows,.sl true 3 rows] Hp.emp) R (λ_ _=>False) R:=by
 cbv;refine h1 _ _ ?_;cbv;exact b _ _ (c6.refl _) rfl
theorem Jz{h:Hp}(f:Nat):Arg h [] (.fn f []) (.fn f []):=.same (.fn f [])
theorem RB(l:List eP)(hl:l.length<=10000000)(hd:∀r∈l,r.delta.length<=10000000):Spec Tryz.prog 20 [.sl true 3 (l.map ca),.sl true 3 (l.map ca)] Hp.emp (Is (.bool true)):=
 ep iD Rz [.bool true] (.bool _) λR a=>RA dn rfl _ _ (l.map ca) (ia (Ry l hl hd) (λ_=>.cons (.same _) (.cons (.same _) (.cons (Jz _) .nil))) rfl) R a
end Go.Proofs.YtobngncjflogcaaGreat.AM
