/-
  Part 22 of what the law WorldPlays reaches: the plain machine, contracts of the functions and plain laws; each lemma says its own condition.
-/
import Derived.Test.YtobngncjflogcaaGreatWorldPlays21
set_option linter.unusedVariables false
set_option linter.unusedSimpArgs false
namespace Go.Proofs.YtobngncjflogcaaGreat.AM
open Go Go.RowKit
set_option maxRecDepth 100000
set_option maxHeartbeats 2000000
theorem Lz(n:Nat)(l:List eX)(w:WS)(kv:Int):(jd n l w kv).pu=w.pu/\(jd n l w kv).ed=w.ed:=by
 unfold jd
 split
 ·exact⟨rfl,rfl⟩
 ·unfold iM;exact⟨rfl,rfl⟩
theorem UF{P:Prim}(hP:P=ca){T T1:cp}{N R:S->Prop}{X:Nat->S->Prop}{bw bl:Nat}{bs:Option Nat}{rw br:Nat}{bc gv:Option Nat}{n:Nat}{nv ln kk:Int}{f h:List (List V)}{g:WG}(hg:ue n bl br g){s:S}{kp:List (List V)}{iv a0:Int}{E:V}{x:List Part}{dx:List (List V)}(hx:fw x)(wJ:dx=x.map a6)(F:E=.sl false 3 dx\/(E=.nilsl/\x=[]))
  (b1:Dt (PF nv h bw rw f ln kk [(11,.sl false 1 kp),(12,qI iv),(13,E)]) s)(b2:Du (PE bw bl bs rw br bc gv n g) s)(hat:fZ T 11 [.sl false 1 kp,qI 0] (qI a0))
  (wE:KW T)(rE:Lm T)(wU:Uq T)(rU:UB T)(wD:K0 T)(rD:Lq T)
  (W:∀(s':S)(g':WG),ue n bl br g'->Dt (PF nv h bw rw f ln kk [(14,.bool true)]) s'->Du (PE bw bl bs rw br bc gv n g') s'->N s'):fX P T T1 (p0 2 nL .skip) s N X R:=by
 refine pF (Q:=λs=>fX P T T1 (p0 2 nL .skip) s N X R) _ _ b1 b2 λt0 h0=>?_;obtain⟨w,d,l,dr,tx,o1,o2,o3,pu,ed,gW,Q,ba,bm,qb,qp,p1,ru,rd,cs,ws,Q2,Cp,Cq⟩:=g;have iB:=hg;have G:=hg.YQ;obtain⟨H,hn,e1,e2,e3,e4,e5,e6,e7,hq,f1,f4,f5,f6,f8,f7,fq⟩:=hg
 dsimp only at H e1 e2 e3 e4 e5 e6 e7 hq f1 f4 f5 f6 f8 f7 fq G
 cbv
 repeat'(first
  |(refine qA ?_;cbv)
  |(intro a;cbv)
  |fail)
 refine hat _ _ ?_;cbv
 repeat'(first
  |(refine qA ?_;cbv)
  |(intro a;cbv)
  |fail)
 refine ab (λg1=>?_) (λg1=>?_)
 ·clear g1;cbv
  repeat'(first
   |(refine qA ?_;cbv)
   |(intro a;cbv)
   |fail)
  refine wE o1 o2 o3 bw bl bs n pu ed gW Q w d l dr tx qb qp iv x dx E _ _ ⟨rfl,rfl,rfl,rfl,rfl,rfl,rfl,rfl,rfl⟩ G H hn e4 e5 e6 e7 hq hx wJ F λv w' r i c I t u D j Y Z J K=>?_;cbv
  repeat'(first
   |(refine qA ?_;cbv)
   |(intro a;cbv)
   |fail)
  refine rE p1 rw br bc gv n ru rd cs ws Q2 w d l dr tx Cp Cq iv x dx E _ _ ⟨H,hn,f1,f4,f5,f6,f8,f7,fq,⟨rfl,rfl,rfl,rfl,rfl,rfl,rfl,rfl⟩⟩ hx wJ F λv2 w2 y k m o L z A e p j4 j5 M O U=>?_;have Vo:v2=v:=aR Prod.fst (e.trans D.symm);have B:w2=w':=aR Prod.snd (e.trans D.symm);subst Vo B;have C:jZ n d l dr tx w2:=by
   have:=KU H iv x;rw[<-e] at this;exact this
  have heq:P.eq v2 v2=true:=by subst hP;exact bV rfl
  cbv
  repeat'(first
   |(refine qA ?_;cbv)
   |(intro a;cbv)
   |fail)
  exact W _ ⟨w2,d,l,dr,tx,o1,o2,o3,t,u,c,I,ba,bm,r,i,p1,z,A,m,o,L,y,k⟩ ⟨C,hn,e1,e2,e3,Y,Z,J,K,j,f1,j4,j5,M,O,U,p⟩ ⟨rfl,rfl,rfl,rfl,rfl,rfl,rfl,aR V.bool heq,trivial⟩ ⟨rfl,rfl,rfl,rfl,rfl,rfl,rfl,rfl,rfl,rfl,rfl,rfl,rfl,rfl,rfl,rfl,rfl,trivial⟩
 clear g1;cbv
 repeat'(first
  |(refine qA ?_;cbv)
  |(intro a;cbv)
  |fail)
 refine ab (λg1=>?_) (λg1=>?_)
 ·clear g1;cbv
  repeat'(first
   |(refine qA ?_;cbv)
   |(intro a;cbv)
   |fail)
  refine wU o1 o2 o3 bw bl bs n pu ed gW Q w d l dr tx ba bm qb qp iv _ _ ⟨rfl,rfl,rfl,rfl,rfl,rfl,rfl,rfl,rfl⟩ H hn e1 e2 e3 e4 e5 e6 e7 hq λb d' l' w' YS UM YT Rt YU i c I t u D k1 k2 k3 j Y Z J K=>?_;cbv
  repeat'(first
   |(refine qA ?_;cbv)
   |(intro a;cbv)
   |fail)
  refine rU p1 rw br bc gv n ru rd cs ws Q2 w d l dr tx Cp Cq iv _ _ ⟨H,hn,f1,f4,f5,f6,f8,f7,fq,⟨rfl,rfl,rfl,rfl,rfl,rfl,rfl,rfl⟩⟩ λb2 YV Ua l2 w2 p2 k m o L z A e j1 p j4 j5 M O U=>?_;have hI:=Ln H iv;rw[<-D,<-e] at hI;obtain⟨C,q1,q2,q3⟩:=hI
  dsimp only at C q1 q2 q3
  subst q1 q2 q3;cases b2
  all_goals
   cbv
   repeat'(first
    |(refine qA ?_;cbv)
    |(intro a;cbv)
    |fail)
   exact W _ ⟨w2,d',l2,YV,Ua,YS,UM,YT,t,u,c,I,Rt,YU,qb,i,p2,z,A,m,o,L,Cp,k⟩ ⟨C,hn,k1,k2,k3,Y,Z,J,K,j,j1,j4,j5,M,O,U,p⟩ ⟨rfl,rfl,rfl,rfl,rfl,rfl,rfl,rfl,trivial⟩ ⟨rfl,rfl,rfl,rfl,rfl,rfl,rfl,rfl,rfl,rfl,rfl,rfl,rfl,rfl,rfl,rfl,rfl,trivial⟩
 clear g1;cbv
 repeat'(first
  |(refine qA ?_;cbv)
  |(intro a;cbv)
  |fail)
 refine ab (λg1=>?_) (λg1=>?_)
 ·clear g1;cbv
  repeat'(first
   |(refine qA ?_;cbv)
   |(intro a;cbv)
   |fail)
  refine wD o1 o2 o3 bw bl bs n pu ed gW Q w d l dr tx ba bm qb qp iv _ _ ⟨rfl,rfl,rfl,rfl,rfl,rfl,rfl,rfl,rfl⟩ H hn e1 e2 e3 e4 e5 e6 e7 hq λb w' r i c I D YW j J K=>?_;cbv
  repeat'(first
   |(refine qA ?_;cbv)
   |(intro a;cbv)
   |fail)
  refine rD p1 rw br bc gv n ru rd cs ws Q2 w d l dr tx Cp Cq iv _ _ ⟨H,hn,f1,f4,f5,f6,f8,f7,fq,⟨rfl,rfl,rfl,rfl,rfl,rfl,rfl,rfl⟩⟩ λb2 w2 y k m o L e hw2 p M O U=>?_;have C:=Cm H iv;rw[<-hw2] at C;have W9:b2=b:=e.trans D.symm;have B:w2=w':=hw2.trans YW.symm;have q:w2.pu=w.pu/\w2.ed=w.ed:=by rw[hw2];exact Lz n l w iv
  subst W9 B;cases b2
  all_goals
   cbv
   repeat'(first
    |(refine qA ?_;cbv)
    |(intro a;cbv)
    |fail)
   exact W _ ⟨w2,d,l,dr,tx,o1,o2,o3,pu,ed,c,I,ba,bm,r,i,p1,ru,rd,m,o,L,y,k⟩ ⟨C,hn,e1,e2,e3,e4.trans q.1.symm,e5.trans q.2.symm,J,K,j,f1,f4.trans q.1.symm,f5.trans q.2.symm,M,O,U,p⟩ ⟨rfl,rfl,rfl,rfl,rfl,rfl,rfl,rfl,trivial⟩ ⟨rfl,rfl,rfl,rfl,rfl,rfl,rfl,rfl,rfl,rfl,rfl,rfl,rfl,rfl,rfl,rfl,rfl,trivial⟩
 clear g1;cbv
 repeat'(first
  |(refine qA ?_;cbv)
  |(intro a;cbv)
  |fail)
 exact W _ ⟨w,d,l,dr,tx,o1,o2,o3,pu,ed,gW,Q,ba,bm,qb,qp,p1,ru,rd,cs,ws,Q2,Cp,Cq⟩ ⟨H,hn,e1,e2,e3,e4,e5,e6,e7,hq,f1,f4,f5,f6,f8,f7,fq⟩ ⟨rfl,rfl,rfl,rfl,rfl,rfl,rfl,rfl,trivial⟩ ⟨rfl,rfl,rfl,rfl,rfl,rfl,rfl,rfl,rfl,rfl,rfl,rfl,rfl,rfl,rfl,rfl,rfl,trivial⟩
theorem UG{P:Prim}(hP:P=ca){T i:cp}{N R:S->Prop}{X:Nat->S->Prop}{bw bl:Nat}{bs:Option Nat}{rw br:Nat}{bc gv:Option Nat}{n:Nat}{p q r:Int}{a c:List (List V)}{g:WG}(hg:ue n bl br g){s:S}
  (b1:Dt (PF p c bw rw a q r [(14,.bool true)]) s)(b2:Du (PE bw bl bs rw br bc gv n g) s)
  (t:Lc i)(u:Lt i)(v:Ld i)(e:∀lr,lr=g.l.map a8->fZ i 20 [.sl false 3 lr,.sl false 3 lr] (.bool true))
  (x:∀s':S,Dt (PF p c bw rw a q r []) s'->Du (PE bw bl bs rw br bc gv n g) s'->N s'):fX P T i (p0 1 (kW 2 nL) .skip) s N X R:=by
 refine pF (Q:=λs=>fX P T i (p0 1 (kW 2 nL) .skip) s N X R) _ _ b1 b2 λt0 h0=>?_;obtain⟨w,d,l,dr,tx,o1,o2,o3,pu,ed,gW,Q,ba,bm,qb,qp,p1,ru,rd,cs,ws,Q2,Cp,Cq⟩:=g;obtain⟨H,hn,e1,e2,e3,e4,e5,e6,e7,hq,f1,f4,f5,f6,f8,f7,fq⟩:=hg
 dsimp only at H e1 e2 e3 e4 e5 e6 e7 hq f1 f4 f5 f6 f8 f7 fq e
 obtain⟨j,k⟩:∃j,j=ds tx:=⟨_,rfl⟩;obtain⟨lr,h⟩:∃lr,lr=l.map a8:=⟨_,rfl⟩;have e:=e lr h;have m:p1=fV br dr (.sl false 1 j) (.sl false 3 lr):=by rw[f1,k,h];rfl
 subst m;cbv
 repeat'(first
  |(refine qA ?_;cbv)
  |(intro f;cbv)
  |fail)
 refine t o1 o2 o3 bw bl bs n pu ed gW Q w d l dr tx ba bm qb qp _ _ ⟨H,hn,e1,e2,e3,e4,e5,e6,e7,hq,⟨rfl,rfl,rfl,rfl,rfl,rfl,rfl,rfl,rfl⟩⟩ λb hb=>?_;cbv
 repeat'(first
  |(refine qA ?_;cbv)
  |(intro f;cbv)
  |fail)
 refine u (fV br dr (.sl false 1 j) (.sl false 3 lr)) rw br bc gv n ru rd cs ws Q2 w d l dr tx Cp Cq _ _ ⟨H,hn,f1,f4,f5,f6,f8,f7,fq,⟨rfl,rfl,rfl,rfl,rfl,rfl,rfl,rfl⟩⟩ λb2 hb2=>?_;have o:b2=b:=hb2.trans hb.symm;subst o;clear hb hb2;cases b2
 all_goals
  cbv
  repeat'(first
   |(refine qA ?_;cbv)
   |(intro f;cbv)
   |fail)
  refine v o1 o2 o3 bw bl bs n pu ed gW Q w d l dr tx ba bm qb qp lr _ _ ⟨H,hn,e1,e2,e3,e4,e5,e6,e7,hq,⟨rfl,rfl,rfl,rfl,rfl,rfl,rfl,rfl,rfl⟩⟩ h ?_;cbv
  repeat'(first
   |(refine qA ?_;cbv)
   |(intro f;cbv)
   |fail)
  refine e _ _ ?_;cbv
  repeat'(first
   |(refine qA ?_;cbv)
   |(intro f;cbv)
   |fail)
  exact x _ ⟨rfl,rfl,rfl,rfl,rfl,rfl,rfl,trivial⟩ ⟨rfl,rfl,rfl,rfl,rfl,rfl,rfl,rfl,rfl,rfl,rfl,rfl,rfl,rfl,rfl,rfl,rfl,trivial⟩
structure YX(n:Nat) where
 iv:Int
 h0: -1<=iv
 h1:iv<=(n:Int)+1
theorem UH{P:Prim}(hP:P=ca){T D:cp}{N R:S->Prop}{X:Nat->S->Prop}{bw bl:Nat}{bs:Option Nat}{rw br:Nat}{bc gv:Option Nat}{n:Nat}{x E F:Int}{q r:List (List V)}{g:WG}(hg:ue n bl br g)(M:x=(n:Int)){s:S}
  (b1:Dt (PF x r bw rw q E F []) s)(b2:Du (PE bw bl bs rw br bc gv n g) s)
  (K:PB T)(L:Le T)(hz:fZ T 24 [.agg wL,.agg wL] (.bool true))
  (hs:∀(k:Nat)(a b c:Int)(t:BS)(fl:Bool)(sr:List (List V))(wt:Bool)(hr:List (List V)),k<n->qT a b c t fl sr wt hr=ef (g.w.c k)->fZ D 24 [.agg (qT a b c t fl sr wt hr),.agg (qT a b c t fl sr wt hr)] (.bool true))
  (O:∀s':S,Dt (PF x r bw rw q E F []) s'->Du (PE bw bl bs rw br bc gv n g) s'->N s'):fX P T D (kW 3 nL) s N X R:=by
 refine pF (Q:=λs=>fX P T D (kW 3 nL) s N X R) _ _ b1 b2 λt0 h0=>?_;obtain⟨w,d,l,dr,tx,o1,o2,o3,pu,ed,gW,Q,ba,bm,qb,qp,p1,ru,rd,cs,ws,Q2,Cp,Cq⟩:=g;obtain⟨H,hn,e1,e2,e3,e4,e5,e6,e7,hq,f1,f4,f5,f6,f8,f7,fq⟩:=hg
 dsimp only at H e1 e2 e3 e4 e5 e6 e7 hq f1 f4 f5 f6 f8 f7 fq hs
 have jF:P.int n=(n:Int):=by subst hP;rfl
 have i:P.eq 1 1=true:=by subst hP;rfl
 have m:P.eq 0 0=true:=by subst hP;rfl
 have o:∀t,P.seq t t=true:=λt=>Ha hP rfl;cbv
 repeat'(first
  |(refine qA ?_;cbv)
  |(intro f;cbv)
  |fail)
 refine⟨YX n,λy=>[(0,qI x),(2,.sl false 1 r),(7,.ptr 960 (some bw) 4 0 0),(9,.ptr 961 (some rw) 5 0 0),(45,.sl false 1 q),(46,qI E),(47,qI F),(15,qI y.iv)],λ_=>Xh bw bl bs rw br bc gv n ⟨w,d,l,dr,tx,o1,o2,o3,pu,ed,gW,Q,ba,bm,qb,qp,p1,ru,rd,cs,ws,Q2,Cp,Cq⟩,λy=>((n:Int)+1-y.iv).toNat,
  ⟨_,a7.refl _,⟨-1,bf _,qW⟩,⟨rfl,rfl,rfl,rfl,rfl,rfl,rfl,rfl,trivial⟩,⟨rfl,rfl,rfl,rfl,rfl,rfl,rfl,rfl,rfl,rfl,rfl,rfl,rfl,rfl,rfl,rfl,rfl,trivial⟩⟩,?_⟩
 rintro⟨iv,i0,i1⟩;have i0: -1<=iv:=i0;have i1:iv<=(n:Int)+1:=i1;cbv;refine ab (λg1=>?_) (λg1=>?_)
 ·have g1:iv<=x:=iG hP g1;have q3:P.i64 (P.add iv 1):=by rw[add_eq hP];exact ft hP qO
  have u:P.add iv 1=iv+1:=by rw[add_eq hP]
  by_cases ho:iv<0\/(n:Int)<=iv
  ·have hc:o7 n w iv=(wL,1):=by unfold o7;rw[ae ho]
   have ht:m4 n w iv=([],1):=by unfold m4;rw[ae ho]
   cbv
   repeat'(first
    |(refine qA ?_;cbv)
    |(intro f;cbv)
    |fail)
   refine K o1 o2 o3 bw bl bs n pu ed gW Q w d l dr tx ba bm qb qp iv _ _ ⟨H,hn,e1,e2,e3,e4,e5,e6,e7,hq,⟨rfl,rfl,rfl,rfl,rfl,rfl,rfl,rfl,rfl⟩⟩ λt e h=>?_;rw[hc] at h;cases h;cbv
   repeat'(first
    |(refine qA ?_;cbv)
    |(intro f;cbv)
    |fail)
   refine L o1 o2 o3 bw bl bs n pu ed gW Q w d l dr tx ba bm qb qp iv _ _ ⟨H,hn,e1,e2,e3,e4,e5,e6,e7,hq,⟨rfl,rfl,rfl,rfl,rfl,rfl,rfl,rfl,rfl⟩⟩ λt e h=>?_;rw[ht] at h;cases h;cbv
   repeat'(first
    |(refine qA ?_;cbv)
    |(intro f;cbv)
    |fail)
   refine ab (λg2=>?_) (λg2=>?_)
   ·have g2:iv<0:=fA hP g2;cbv
    repeat'(first
     |(refine qA ?_;cbv)
     |(intro f;cbv)
     |(refine eY i ?_;cbv)
     |(refine eY m ?_;cbv)
     |(refine eY (o _) ?_;cbv)
     |fail)
    refine hz _ _ ?_;cbv
    repeat'(first
     |(refine qA ?_;cbv)
     |(intro f;cbv)
     |(refine eY i ?_;cbv)
     |(refine eY m ?_;cbv)
     |(refine eY (o _) ?_;cbv)
     |fail)
    exact⟨_,a7.refl _,⟨P.add iv 1,by rw[u];((try simp only[nc] at*);omega),by rw[u];((try simp only[nc] at*);omega)⟩,⟨rfl,rfl,rfl,rfl,rfl,rfl,rfl,rfl,trivial⟩,⟨rfl,rfl,rfl,rfl,rfl,rfl,rfl,rfl,rfl,rfl,rfl,rfl,rfl,rfl,rfl,rfl,rfl,trivial⟩,by show((n:Int)+1-P.add iv 1).toNat<((n:Int)+1-iv).toNat;rw[u];((try simp only[nc] at*);omega)⟩
   ·have g2:¬iv<0:=fg hP g2;have U:P.eq iv x=true:=my hP qO;cbv;refine eY U ?_;cbv
    repeat'(first
     |(refine qA ?_;cbv)
     |(intro f;cbv)
     |(refine eY i ?_;cbv)
     |(refine eY m ?_;cbv)
     |(refine eY (o _) ?_;cbv)
     |fail)
    refine hz _ _ ?_;cbv
    repeat'(first
     |(refine qA ?_;cbv)
     |(intro f;cbv)
     |(refine eY i ?_;cbv)
     |(refine eY m ?_;cbv)
     |(refine eY (o _) ?_;cbv)
     |fail)
    exact⟨_,a7.refl _,⟨P.add iv 1,by rw[u];((try simp only[nc] at*);omega),by rw[u];((try simp only[nc] at*);omega)⟩,⟨rfl,rfl,rfl,rfl,rfl,rfl,rfl,rfl,trivial⟩,⟨rfl,rfl,rfl,rfl,rfl,rfl,rfl,rfl,rfl,rfl,rfl,rfl,rfl,rfl,rfl,rfl,rfl,trivial⟩,by show((n:Int)+1-P.add iv 1).toNat<((n:Int)+1-iv).toNat;rw[u];((try simp only[nc] at*);omega)⟩
  ·obtain⟨k,hk⟩:∃k:Nat,iv=(k:Int):=⟨iv.toNat,qO⟩;have B:k<n:=by((try simp only[nc] at*);omega)
   have C:iv.toNat=k:=by((try simp only[nc] at*);omega)
   have hc:o7 n w iv=(ef (w.c k),0):=by unfold o7;rw[aa ho,C]
   have ht:m4 n w iv=((w.c k).text,0):=by unfold m4;rw[aa ho,C]
   have y1:P.fQ 0 iv:=iQ hP qO;have y2:P.iw iv (P.int n):=kZ hP (by rw[jF];((try simp only[nc] at*);omega));have W:P.lt iv 0=false:=nU hP qO;have Y:P.eq iv x=false:=oR hP qO;have p:P.row cs (P.nat iv) (ef (w.c k)):=by rw[f6];exact hO hP hk (λj=>ef (w.c j)) B
   have v:=λa b c t fl sr wt hr=>hs k a b c t fl sr wt hr B;obtain⟨c,G⟩:∃c,c=w.c k:=⟨_,rfl⟩;rw[<-G] at hc ht p v;obtain⟨c1,I,c3,c4,c5,Z,J,c8⟩:=c;obtain⟨sr,z⟩:∃sr,sr=Z.map a6:=⟨_,rfl⟩;obtain⟨hr,A⟩:∃hr,hr=c8.map a6:=⟨_,rfl⟩;have p:P.row cs (P.nat iv) (qT c1 I c3 c4 c5 sr J hr):=by rw[z,A];exact p
   have v:=v c1 I c3 c4 c5 sr J hr (by rw[z,A];rfl);have hc:o7 n w iv=(qT c1 I c3 c4 c5 sr J hr,0):=by rw[hc,z,A];rfl
   dsimp only at ht
   cbv
   repeat'(first
    |(refine qA ?_;cbv)
    |(intro f;cbv)
    |(refine eY i ?_;cbv)
    |(refine eY m ?_;cbv)
    |(refine eY (o _) ?_;cbv)
    |fail)
   refine K o1 o2 o3 bw bl bs n pu ed gW Q w d l dr tx ba bm qb qp iv _ _ ⟨H,hn,e1,e2,e3,e4,e5,e6,e7,hq,⟨rfl,rfl,rfl,rfl,rfl,rfl,rfl,rfl,rfl⟩⟩ λt e h=>?_;rw[hc] at h;cases h;cbv
   repeat'(first
    |(refine qA ?_;cbv)
    |(intro f;cbv)
    |(refine eY i ?_;cbv)
    |(refine eY m ?_;cbv)
    |(refine eY (o _) ?_;cbv)
    |fail)
   refine L o1 o2 o3 bw bl bs n pu ed gW Q w d l dr tx ba bm qb qp iv _ _ ⟨H,hn,e1,e2,e3,e4,e5,e6,e7,hq,⟨rfl,rfl,rfl,rfl,rfl,rfl,rfl,rfl,rfl⟩⟩ λt e h=>?_;rw[ht] at h;cases h;cbv
   repeat'(first
    |(refine qA ?_;cbv)
    |(intro f;cbv)
    |(refine eY i ?_;cbv)
    |(refine eY m ?_;cbv)
    |(refine eY (o _) ?_;cbv)
    |fail)
   refine fv W ?_;cbv;refine fv Y ?_;cbv
   repeat'(first
    |(refine qA ?_;cbv)
    |(intro f;cbv)
    |(refine eY i ?_;cbv)
    |(refine eY m ?_;cbv)
    |(refine eY (o _) ?_;cbv)
    |(refine⟨_,p,?_⟩;cbv)
    |fail)
   refine v _ _ ?_;cbv
   repeat'(first
    |(refine qA ?_;cbv)
    |(intro f;cbv)
    |(refine eY i ?_;cbv)
    |(refine eY m ?_;cbv)
    |(refine eY (o _) ?_;cbv)
    |(refine⟨_,p,?_⟩;cbv)
    |fail)
   exact⟨_,a7.refl _,⟨P.add iv 1,by rw[u];((try simp only[nc] at*);omega),by rw[u];((try simp only[nc] at*);omega)⟩,⟨rfl,rfl,rfl,rfl,rfl,rfl,rfl,rfl,trivial⟩,⟨rfl,rfl,rfl,rfl,rfl,rfl,rfl,rfl,rfl,rfl,rfl,rfl,rfl,rfl,rfl,rfl,rfl,trivial⟩,by show((n:Int)+1-P.add iv 1).toNat<((n:Int)+1-iv).toNat;rw[u];((try simp only[nc] at*);omega)⟩
 ·have g1:¬iv<=x:=iA hP g1;cbv;exact O _ ⟨rfl,rfl,rfl,rfl,rfl,rfl,rfl,trivial⟩ ⟨rfl,rfl,rfl,rfl,rfl,rfl,rfl,rfl,rfl,rfl,rfl,rfl,rfl,rfl,rfl,rfl,rfl,trivial⟩
def LA(P:Prim)(T j:cp)(R:S->Prop)(x:AC):Prop:=∀(bw bl:Nat)(bs:Option Nat)(rw br:Nat)(bc gv:Option Nat)(n:Nat)(d h i:Int)(a b:List (List V))(g:WG)(s:S)(N:S->Prop)(X:Nat->S->Prop)(kp:List (List V))(c:List Int)(iv:Int)(e:V)(f:List Part)(dx:List (List V)),
 ue n bl br g->d=(n:Int)->kp=iD c->fw f->dx=f.map a6->(e=.sl false 3 dx\/(e=.nilsl/\f=[]))->
 Dt (PF d b bw rw a h i [(11,.sl false 1 kp),(12,.int .i64 iv),(13,e)]) s->Du (PE bw bl bs rw br bc gv n g) s->
 (∀(s':S)(g':WG),ue n bl br g'->Dt (PF d b bw rw a h i []) s'->Du (PE bw bl bs rw br bc gv n g') s'->N s')->fX P T j x s N X R
theorem D6(h:Hp):Arg h [] (.agg wL) (.agg (ef ⟨0,0,0,[],false,[],false,[]⟩)):=by
 refine .agg _ _ rfl λi v v' h1 h2=>?_
 match i with
 |0=>cases h1;cases h2;exact .same _
 |1=>cases h1;cases h2;exact .same _
 |2=>cases h1;cases h2;exact .same _
 |3=>cases h1;cases h2;exact .same _
 |4=>cases h1;cases h2;exact .same _
 |5=>cases h1;cases h2;exact .nil _ _
 |6=>cases h1;cases h2;exact .same _
 |7=>cases h1;cases h2;exact .nil _ _
 |j+8=>cases h1
theorem UI(R:S->Prop):LA ca (fa Tryz.prog) (fj Tryz.prog) R nL:=by
 intro bw bl bs rw br bc gv n y z A d e g s N X kp c iv B C dx hg f i hx wJ j b1 b2 m;subst i;refine sk 2 nL s ?_;refine UF rfl hg hx wJ j b1 b2 (HB (JF c 0) rfl rfl) R0 R9 Wd Wj R5 Sc λs1 g1 hg1 b3 o=>?_;show fX ca _ _ (kW 2 nL) s1 N X R;refine sk 1 (kW 2 nL) s1 ?_;have hl:=hg1.H.ch.2;refine UG rfl hg1 b3 o R6 Sd R7 (λlr h=>?_) λs2 p q=>?_
 ·subst h;exact qi (QO g1.l qW λr hr=>by exact hg1.H.mp.Yz.dl r hr) (λ_=>.cons (.j8 _ _) (.cons (.j8 _ _) .nil)) rfl
 show fX ca _ _ (kW 3 nL) s2 N X R;refine UH rfl hg1 f p q Uy R8 (fU (DM ⟨0,0,0,[],false,[],false,[]⟩ (bd _) (bd _)) (λh=>.cons (D6 h) (.cons (D6 h) .nil)) rfl) (λk a b c t fl sr wt hr hk he=>?_) λu v x=>m u g1 hg1 v x;rw[he];have hf:=hg1.H.fact hk;have h1:=hf.sn;have h2:=hf.hl;exact qi (args:=[.agg (ef (g1.w.c k)),.agg (ef (g1.w.c k))]) (DM (g1.w.c k) qW qW) (λh=>.cons (.same (.agg (ef (g1.w.c k)))) (.cons (.same (.agg (ef (g1.w.c k)))) .nil)) rfl
theorem A9{P:Prim}{T a:cp}{ac:AC}{N:S->Prop}{X:Nat->S->Prop}{R:S->Prop}{s:S}(L:List (Nat×V))(H:List (Nat×Option Ob))(h1:Dt L s)(h2:Du H s)(b:∀t h,fX P T a ac ⟨Tj L t,JK H h⟩ N X R):fX P T a ac s N X R:=
 pF (Q:=λs=>fX P T a ac s N X R) L H h1 h2 b
structure YY(n bl br:Nat)(L:List (List Int)) where
 g:WG
 ok:ue n bl br g
 i:Nat
 k:Int
 hi:i<=L.length
 hk:k=(i:Int)
theorem UJ(P:Prim)(hP:P=ca)(T K:cp)(Z:PC T)(rN:Lw T)(x:AC)(R:S->Prop)(j:LA P T K R x)(hat:∀c:List Int,fZ T 11 [.sl false 1 (iD c),qI 1] (qI (So c 1)))
  (u:Int)(L:List (List Int))(ZA:L.length<=maxLen)(e:List (List V))(m:e=L.map λc=>[.sl false 1 (iD c)])(D:List (List Part))(hD:D.length<=maxLen/\∀x∈D,fw x)(f:List (List V))(o:f=D.map λx=>[.sl false 3 (x.map a6)])
  (M:∀s s' b,b=true->a7 s s'->hX [.t 6] [.bool b] s'->R s):fX P T K (PG x) (S0 [qI u,.sl false 1 e,.sl false 1 f] Hp.emp) R (λ_ _=>False) R:=by
 unfold LA at j;have H:P.da e=(L.length:Int):=by rw[gi hP,m];simp
 have I:P.da f=(D.length:Int):=by rw[gi hP,o];simp
 have ZB:maxLen=9223372036854775807:=by decide
 have v:P.eq 1 1=true:=by subst hP;rfl
 have z:P.eq 0 0=true:=by subst hP;rfl
 have N:P.ne 0 0=false:=by subst hP;rfl
 have A:∀t,P.seq t t=true:=λt=>Ha hP rfl;cbv
 repeat'(first
  |(refine qA ?_;cbv)
  |(intro h;cbv)
  |fail)
 refine Z u _ _ (λhb=>?_) (λbl bw bs n o1 o2 o3 pu ed gW Q C hn h1 h2 h3 h4 h5 h6 h7=>?_)
 ·cbv
  repeat'(first
   |(refine qA ?_;cbv)
   |(intro h;cbv)
   |(refine eY v ?_;cbv)
   |(refine eY z ?_;cbv)
   |(refine eY (A _) ?_;cbv)
   |fail)
  refine ab (λg1=>?_) (λg1=>?_)
  ·cbv
   repeat'(first
    |(refine qA ?_;cbv)
    |(intro h;cbv)
    |(refine eY v ?_;cbv)
    |(refine eY z ?_;cbv)
    |(refine eY (A _) ?_;cbv)
    |fail)
   exact M _ _ _ rfl (a7.refl _) rfl
  have g1:¬u<1:=fg hP g1;cbv;refine ab (λg2=>?_) (λg2=>?_)
  ·cbv
   repeat'(first
    |(refine qA ?_;cbv)
    |(intro h;cbv)
    |(refine eY v ?_;cbv)
    |(refine eY z ?_;cbv)
    |(refine eY (A _) ?_;cbv)
    |fail)
   exact M _ _ _ rfl (a7.refl _) rfl
  ·have g2:¬4<u:=fg hP g2;exact absurd hb qO
 cbv
 repeat'(first
  |(refine qA ?_;cbv)
  |(intro h;cbv)
  |(refine eY v ?_;cbv)
  |(refine eY z ?_;cbv)
  |(refine eY (A _) ?_;cbv)
  |fail)
 refine ab (λg1=>?_) (λg1=>?_)
 ·have g1:u<1:=fA hP g1;exact absurd hn qO
 clear g1;cbv;refine ab (λg1=>?_) (λg1=>?_)
 ·have g1:4<u:=fA hP g1;exact absurd hn qO
 clear g1;cbv;refine fv N ?_;cbv
 repeat'(first
  |(refine qA ?_;cbv)
  |(intro h;cbv)
  |fail)
 refine rN u n _ _ C hn λbr rw bc gv p1 ru rd cs ws Q2 f1 f4 f5 f6 f8 f7=>?_;have O:ue n bl br ⟨Ug,kL,[],vR,[[]],o1,o2,o3,pu,ed,gW,Q,none,0,λ_=>none,λ_=>[],p1,ru,rd,cs,ws,Q2,λ_=>none,λ_=>[]⟩:=
  ⟨KD hn.2,hn.2,h1,h2,h3,h4,h5,h6,h7,uN,f1,f4,f5,f6,f8,f7,uN⟩
 cbv
 repeat'(first
  |(refine qA ?_;cbv)
  |(intro h;cbv)
  |fail)
 refine⟨YY n bl br L,λy=>[(0,qI u),(2,.sl false 1 f),(7,.ptr 960 (some bw) 4 0 0),(9,.ptr 961 (some rw) 5 0 0),(45,.sl false 1 e),(46,qI (P.da e)),(47,qI y.k)],
  λy=>Xh bw bl bs rw br bc gv n y.g,λy=>L.length-y.i,
  ⟨_,a7.refl _,⟨_,O,0,0,bd _,rfl⟩,⟨rfl,rfl,rfl,rfl,rfl,rfl,rfl,trivial⟩,⟨rfl,rfl,rfl,rfl,rfl,rfl,rfl,rfl,rfl,rfl,rfl,rfl,rfl,rfl,rfl,rfl,rfl,trivial⟩⟩,?_⟩
 rintro⟨⟨w,d,l,dr,tx,o1,o2,o3,pu,ed,gW,Q,ba,bm,qb,qp,p1,ru,rd,cs,ws,Q2,Cp,Cq⟩,ok,i,k,hi,hk⟩;cbv;refine ab (λg1=>?_) (λg1=>?_)
 ·have g1:k<P.da e:=fA hP g1;rw[H] at g1;have hk:k=(i:Int):=hk;have E:i<L.length:=by((try simp only[nc] at*);omega)
  obtain⟨c,hc⟩:∃c,L[i]? =some c:=⟨_,af E⟩;have B:P.row e (P.nat k) [.sl false 1 (iD c)]:=fL hP hk (by rw[m,av,hc];rfl);have q:=hat c;obtain⟨kp,F⟩:∃cs,cs=iD c:=⟨_,rfl⟩;rw[<-F] at B q;obtain⟨a1,U⟩:∃a,a=So c 1:=⟨_,rfl⟩;rw[<-U] at q;have q1:P.fQ 0 k:=iQ hP (by rw[hk];exact aT _);have q2:P.iw k (P.da e):=kZ hP (by rw[H];exact g1);have q3:P.i64 (P.add k 1):=by rw[add_eq hP];exact ft hP qO
  have Y:P.add k 1=((i+1:Nat):Int):=by rw[add_eq hP,hk];simp
  cbv
  repeat'(first
   |(refine qA ?_;cbv)
   |(intro h;cbv)
   |fail)
  refine⟨_,B,?_⟩;cbv
  repeat'(first
   |(refine qA ?_;cbv)
   |(intro h;cbv)
   |fail)
  refine q _ _ ?_;cbv
  repeat'(first
   |(refine qA ?_;cbv)
   |(intro h;cbv)
   |fail)
  refine ab (λg2=>?_) (λg2=>?_)
  ·have g2:k<P.da f:=fA hP g2;rw[I] at g2;have hid:i<D.length:=by((try simp only[nc] at*);omega)
   obtain⟨J,hx⟩:∃c,D[i]? =some c:=⟨_,af hid⟩;have X:=hD.2 J (az hx);have r:P.row f (P.nat k) [.sl false 3 (J.map a6)]:=fL hP hk (by rw[o,av,hx];rfl);obtain⟨dx,wJ⟩:∃dr,dr=J.map a6:=⟨_,rfl⟩;rw[<-wJ] at r;have q5:P.iw k (P.da f):=kZ hP (by rw[I];exact g2)
   generalize hW:fX P T K x=W
   cbv
   repeat'(first
    |(refine qA ?_;cbv)
    |(intro h;cbv)
    |fail)
   refine⟨_,r,?_⟩;cbv
   repeat'(first
    |(refine qA ?_;cbv)
    |(intro h;cbv)
    |fail)
   subst hW;refine j bw bl bs rw br bc gv n u (P.da e) k e f ⟨w,d,l,dr,tx,o1,o2,o3,pu,ed,gW,Q,ba,bm,qb,qp,p1,ru,rd,cs,ws,Q2,Cp,Cq⟩ _ _ _ kp c a1 (.sl false 3 dx) J dx ok C F X wJ (.inl rfl) ?_ ?_ λs' g' G b1 b2=>?_
   ·exact⟨rfl,rfl,rfl,rfl,rfl,rfl,rfl,rfl,rfl,rfl,trivial⟩
   ·exact⟨rfl,rfl,rfl,rfl,rfl,rfl,rfl,rfl,rfl,rfl,rfl,rfl,rfl,rfl,rfl,rfl,rfl,trivial⟩
   refine A9 _ _ b1 b2 λt0 h0=>?_;cbv
   repeat'(first
    |(refine qA ?_;cbv)
    |(intro h;cbv)
    |fail)
   exact⟨_,a7.refl _,⟨g',G,i+1,_,E,Y⟩,⟨rfl,rfl,rfl,rfl,rfl,rfl,rfl,trivial⟩,⟨rfl,rfl,rfl,rfl,rfl,rfl,rfl,rfl,rfl,rfl,rfl,rfl,rfl,rfl,rfl,rfl,rfl,trivial⟩,by show L.length-(i+1)<L.length-i;((try simp only[nc] at*);omega)⟩
  ·clear g2;refine j bw bl bs rw br bc gv n u (P.da e) k e f ⟨w,d,l,dr,tx,o1,o2,o3,pu,ed,gW,Q,ba,bm,qb,qp,p1,ru,rd,cs,ws,Q2,Cp,Cq⟩ _ _ _ kp c a1 .nilsl [] [] ok C F ⟨bd _,λp hp=>by cases hp⟩ rfl (.inr ⟨rfl,rfl⟩) ?_ ?_ λs' g' G b1 b2=>?_
   ·exact⟨rfl,rfl,rfl,rfl,rfl,rfl,rfl,rfl,rfl,rfl,trivial⟩
   ·exact⟨rfl,rfl,rfl,rfl,rfl,rfl,rfl,rfl,rfl,rfl,rfl,rfl,rfl,rfl,rfl,rfl,rfl,trivial⟩
   refine A9 _ _ b1 b2 λt0 h0=>?_;cbv
   repeat'(first
    |(refine qA ?_;cbv)
    |(intro h;cbv)
    |fail)
   exact⟨_,a7.refl _,⟨g',G,i+1,_,E,Y⟩,⟨rfl,rfl,rfl,rfl,rfl,rfl,rfl,trivial⟩,⟨rfl,rfl,rfl,rfl,rfl,rfl,rfl,rfl,rfl,rfl,rfl,rfl,rfl,rfl,rfl,rfl,rfl,trivial⟩,by show L.length-(i+1)<L.length-i;((try simp only[nc] at*);omega)⟩
 ·cbv
  repeat'(first
   |(refine qA ?_;cbv)
   |(intro h;cbv)
   |fail)
  exact M _ _ _ rfl (a7.refl _) rfl
theorem sQ(e:Int)(L:List (List Int))(D:List (List Part))(_:iU e)(f:L.length<=maxLen/\∀c∈L,c.length<=maxLen/\∀a∈c,iU a)(g:D.length<=maxLen/\∀x∈D,fw x):Spec Tryz.prog 4 [.int .i64 e,.sl false 1 (L.map λc=>[.sl false 1 (c.map λn=>[.int .i64 n])]),.sl false 1 (D.map λd=>[fc d])] Hp.emp (Is (.bool true)):=
 eW gY UE [.bool true] (.bool _) λR h=>by
  rw[Ly];exact UJ ca rfl _ _ UA Sh nL R (UI R) (λc=>HB (JF c 1) rfl rfl) e L f.1 _ rfl D g _ rfl λs s' b hb he hr=>by subst hb;exact h s s' he hr
end Go.Proofs.YtobngncjflogcaaGreat.AM
