/-
  Part 23 of what the law ShopPlays reaches: the plain machine, contracts of the functions and plain laws; each lemma says its own condition.
-/
import Derived.Test.YtobngncjflogcaaGreatShopPlays21
import Derived.Test.YtobngncjflogcaaGreatShopPlays22
set_option linter.unusedVariables false
set_option linter.unusedSimpArgs false
namespace Go.Proofs.YtobngncjflogcaaGreat.AM
open Go Go.RowKit
set_option maxRecDepth 100000
set_option maxHeartbeats 2000000
def SU(d:SC):Prop:=∀w,w<8->d.fs (2*w+1)<=d.b
theorem LG:∀(l:List eP)(fs:Nat->Int)(b:Int),(∀w,w<8->fs (2*w+1)<=b)->∀w,w<8->gg fs b l (2*w+1)<=b+(l.length:Int)
 |[],fs,b,h,w,hw=>by
  have:=h w hw;show fs (2*w+1)<=b+0;omega
 |r::l,fs,b,h,w,hw=>by
  have ih:=LG l (gJ fs r.who.toNat r.seq (b+1)) (b+1) (λw hw=>by
   have:=h w hw;unfold gJ
   split
   ·omega
   ·split<;>omega) w hw
  show gg (gJ fs r.who.toNat r.seq (b+1)) (b+1) l (2*w+1)<=b+((l.length+1:Nat):Int);omega
theorem LH{d:SC}{l:List eP}(hf:SU d){f:Int}(h:d.b<=f)(w:Nat)(hw:w<8):gU d l f (2*w+1)<=f:=by
 have:=LG (l.take (f-d.b).toNat) d.fs d.b hf w hw;have hl:(l.take (f-d.b).toNat).length<=(f-d.b).toNat:=by rw[aI];exact Nat.min_le_left _ _
 unfold gU;omega
theorem Bc{D:SC}(m:mw D){i:Int}(hi:i=0\/i=1){g b:Int}{tx:BS}{t F:Nat->Int}{r1 r2:List eP}(hd:oz g b tx t)(hc:fN b t 0 tx (r1++r2))(hF:rL F t)
  (hlen:(fe (gi g b tx t r1 (some r2))).length<=(ek D i).length)(c:(ek D i).take (fe (gi g b tx t r1 (some r2))).length=fe (gi g b tx t r1 (some r2))):
  ∃d',lI D.x1 D.x2 D.x3 D.x4 i ⟨g,b,tx,F,gg F b (r1++r2),r1++r2,true,((fe (gi g b tx t r1 (some r2))).length:Int)⟩=d'/\qU d' (r1++r2) none/\d'.b=b/\d'.tx=tx/\d'.gn=g/\d'.sf=b+((r1++r2).length:Int)/\d'.fs=F:=by
 obtain⟨N,hN⟩:∃N,(fe (gi g b tx t r1 (some r2))).length=N:=⟨_,rfl⟩;rw[hN] at hlen c⊢;obtain⟨E,d⟩:∃E:SC,(⟨D.x1,D.x2,D.x3,D.x4,i,g,b,tx,F,gg F b (r1++r2),true,(N:Int),[],0,false⟩:SC)=E:=⟨_,rfl⟩;have u:mw E:=by rw[<-d];exact m
 have o:∀j,ek E j=ek D j:=λj=>by rw[<-d];rfl
 have hi':1-i=0\/1-i=1:=by omega
 have e1:(1:Int)-(1-i)=i:=by omega
 obtain⟨p1,p2,B,C,G⟩:=oY u hi (n:=N) (by rw[o];exact hlen);obtain⟨q1,q2,p,H,v⟩:=oY p1 hi' (n:=0) (aP _);rw[e1] at p v;obtain⟨s1,s2,w,I⟩:=lB q1 hi;have f:fN b F 0 tx (r1++r2):=oD _ _ _ _ _ hF.symm hc;obtain⟨d',h⟩:∃d',lI D.x1 D.x2 D.x3 D.x4 i ⟨g,b,tx,F,gg F b (r1++r2),r1++r2,true,(N:Int)⟩=d':=⟨_,rfl⟩;have a:d'= {jj (iF (iF E i N) (1-i) ((0:Nat):Int)) i with now:=(kQ tx (r1++r2) ((r1++r2).length:Int)).1,sf:=b+((r1++r2).length:Int)}:=by rw[<-h,<-d];rfl
 have r:=yw f hd.tx (r1++r2).length (ah _);rw[aM] at r;have k1:d'.b=b:=by rw[a,<-d];rfl
 have k2:d'.tx=tx:=by rw[a,<-d];rfl
 have k:d'.gn=g:=by rw[a,<-d];rfl
 have q:d'.sf=b+((r1++r2).length:Int):=by rw[a]
 have e:d'.fs=F:=by rw[a,<-d];rfl
 have l:d'.dE=i:=by rw[a,<-d];rfl
 have x:d'.tb=gg F b (r1++r2):=by rw[a,<-d];rfl
 have y:d'.gH=false:=by rw[a,<-d];rfl
 have z:d'.now=lG tx (r1++r2):=by rw[a,r]
 have c1:mw d':=by rw[a];exact s1
 have s:∀j,ek d' j=ek (iF (iF E i N) (1-i) ((0:Nat):Int)) j:=λj=>by rw[a];exact s2 j
 have A:ek d' i=fe (gi g b tx t r1 (some r2)):=by rw[s,p,p2,o,c]
 have c3:fS d' i=((fe (gi g b tx t r1 (some r2))).length:Int):=by
  have:fS d' i=((ek (iF (iF E i N) (1-i) ((0:Nat):Int)) i).length:Int):=by rw[a];exact w
  rw[this,p,p2,o,c]
 have c4:ek d' (1-i)=[]:=by rw[s,q2];rfl
 refine⟨d',h,⟨by rw[l];exact hi,c1,by rw[k,k1,k2,e];exact hd.Wu hF.symm,by rw[k1,e,k2];exact f,by rw[x,e,k1];exact rL.refl _,by rw[z,k2],by rw[q,k1];exact aN _,⟨r1,r2,r2.length,rfl,?_,ah _,?_,?_⟩,.inr ⟨y,by rw[l];exact c4⟩⟩,k1,k2,k,q,e⟩
 ·rw[l,k,k1,k2,e,A,sC hF]
 ·rw[l,k,k1,k2,e,c3,aM,sC hF]
 ·rw[q,k1,ag];omega
def tZ(i:Int)(M O:hI×Int)(a1:BS)(a2:Int)(b1:BS)(b2:Int):PH:=if i=0 then oH M O a1 a2 b1 b2 else oH O M a1 a2 b1 b2
theorem CZ{i:Int}(hi:i=0\/i=1){M O:hI×Int}{a1:BS}{a2:Int}{b1:BS}{b2:Int}(hm:hG M)(ho:hG O->O.1.gen<M.1.gen):tZ i M O a1 a2 b1 b2=⟨lI a1 a2 b1 b2 i M.1,M.1.e8,0⟩:=by
 unfold tZ oH
 rcases hi with rfl|rfl
 ·rw[ae rfl,ae hm,aa (λh=>by have:=ho h.1;omega)]
 ·rw[aa qD]
  by_cases h:hG O
  ·rw[ae h,ae ⟨hm,ho h⟩]
  ·rw[aa h,ae hm]
theorem Gv{i:Int}(hi:i=0\/i=1){M O:hI×Int}{a1:BS}{a2:Int}{b1:BS}{b2:Int}(hm:hG M)(ho:hG O)(hg:M.1.gen<O.1.gen):tZ i M O a1 a2 b1 b2=⟨lI a1 a2 b1 b2 (1-i) O.1,O.1.e8,0⟩:=by
 unfold tZ oH
 rcases hi with rfl|rfl
 ·rw[ae rfl,ae hm,ae ⟨ho,hg⟩];rfl
 ·rw[aa qD,ae ho,aa (λh=>by omega)];rfl
theorem not_nil:¬hG (fW []):=λh=>absurd (show(7:Int)=0 from h.1) qD
theorem vV{g b:Int}{tx:BS}{t:Nat->Int}(h:oz g b tx t){r1:List eP}(hc:fN b t 0 tx r1):¬hG (fW (gi g b tx t r1 none)):=by
 obtain⟨F,hF,hr⟩:=nB h (r1:=r1) (o:=none) (by rw[cN,aS];exact hc);rw[hr];intro h;exact absurd (show false=true from h.2) qD
theorem jT{b:Int}{a c:List eP}{t:Nat->Int}{i:Nat}{now:BS}(h:fN b t i now (a++c)):fN b t i now a:=((mW a c t i now).1 h).1
theorem tt{b:Int}{r1 r2:List eP}{t:Nat->Int}{now:BS}(h:fN b t 0 now (r1++r2))(j:Nat):fN b t 0 now (r1++r2.take j):=by
 have e:r1++r2=(r1++r2.take j)++r2.drop j:=by rw[bh,aZ]
 rw[e] at h;exact jT h
def U0(d:SC)(a n1:Nat):SC:= {d with x1:=d.x1.take a,x2:=a,x3:=d.x3.take n1,x4:=n1}
def tu(a n1:Nat)(i:Int):Nat:=if i=0 then a else n1
theorem LI(d:SC)(a n1:Nat)(i:Int):ek (U0 d a n1) i=(ek d i).take (tu a n1 i):=by
 unfold ek tu
 split<;>rfl
structure yI(d:SC)(l:List eP)(d':SC)(l':List eP):Prop where
 jL:qU d' l' none
 lo:d.sf<=d'.b+(l'.length:Int)
 hi:d'.b+(l'.length:Int)<=d.b+(l.length:Int)
 b:d.b<=d'.b
 tx:∀r,d'.b<=r->r<=d'.b+(l'.length:Int)->fT d' l' r=fT d l r
 gn:d'.gn<=d.gn+1
 fs:SU d->SU d'
theorem mR{α}(l:List α){a c:Nat}(h:a<=c):(l.take c).take a=l.take a:=by rw[List.take_take,dZ h]
theorem Pa{d:SC}{l:List eP}{m:Option Mv}(h:qU d l m)(n n1:Nat)(h0:d.x2<=(n:Int)/\n<=d.x1.length)(h1:d.x4<=(n1:Int)/\n1<=d.x3.length):
  ∃d' l',kR (d.x1.take n) n (d.x3.take n1) n1=⟨d',l',0⟩/\yI d l d' l':=by
 obtain⟨D,M⟩:∃D,U0 d n n1=D:=⟨_,rfl⟩;have u:=h.dk.slot 0;have v:=h.dk.slot 1;have u:d.x1.length<=1048576/\0<=d.x2/\d.x2<=(d.x1.length:Int):=u;have v:d.x3.length<=1048576/\0<=d.x4/\d.x4<=(d.x3.length:Int):=v;have x:gS (d.x1.take n) n (d.x3.take n1) n1=0:=nD.2 ⟨iB.2 (by rw[aI];omega),iB.2 (by rw[aI];omega)⟩;have E:mw D:=by rw[<-M];exact x
 have a:∀i,ek D i=(ek d i).take (tu n n1 i):=λi=>by rw[<-M];exact LI d n n1 i
 have hN:∀i,fS d i<=(tu n n1 i:Int)/\tu n n1 i<=(ek d i).length:=by
  intro i;unfold fS tu ek
  by_cases hi:i=0
  ·rw[ae hi,ae hi,ae hi];exact h0
  ·rw[aa hi,aa hi,aa hi];exact h1
 have W:kR (d.x1.take n) n (d.x3.take n1) n1=tZ d.dE (fW (fk (ek D d.dE)).1) (fW (fk (ek D (1-d.dE))).1) D.x1 D.x2 D.x3 D.x4:=by
  unfold kR tZ;rw[aa (λg=>g x)]
  rcases h.dE with ha|ha
  ·rw[ha,ae rfl,<-M];rfl
  ·rw[ha,aa qD,<-M];rfl
 rw[W];obtain⟨r1,r2,X,m1,m2,Y,Z,m5⟩:=h.mn;have hc:fN d.b d.fs 0 d.tx (r1++r2):=by rw[<-m1];exact h.ch
 have z:=hN d.dE;rw[Z] at z;obtain⟨j,j1,j2,j3,j4⟩:=xC h.hd hc (tu n n1 d.dE) X Y (by have:=z.1;omega);have G:=tt hc j;obtain⟨F,hF,P⟩:=nB h.hd (r1:=r1) (o:=some (r2.take j)) G;have N:fW (fk (ek D d.dE)).1=(⟨d.gn,d.b,d.tx,F,gg F d.b (r1++r2.take j),r1++r2.take j,true,((fe (gi d.gn d.b d.tx d.fs r1 (some (r2.take j)))).length:Int)⟩,0):=by
  rw[a,m2,j3];exact P
 have U:hG (fW (fk (ek D d.dE)).1):=by rw[N];exact⟨rfl,rfl⟩
 have main:(hG (fW (fk (ek D (1-d.dE))).1)->(fW (fk (ek D (1-d.dE))).1).1.gen<d.gn)->∃d' l',tZ d.dE (fW (fk (ek D d.dE)).1) (fW (fk (ek D (1-d.dE))).1) D.x1 D.x2 D.x3 D.x4=⟨d',l',0⟩/\yI d l d' l':=by
  intro ho;have H:(fW (fk (ek D d.dE)).1).1.gen=d.gn:=by rw[N]
  have e:=CZ (O:=fW (fk (ek D (1-d.dE))).1) h.dE (a1:=D.x1) (a2:=D.x2) (b1:=D.x3) (b2:=D.x4) U (λg=>by rw[H];exact ho g);rw[e,N];have A:(fe (gi d.gn d.b d.tx d.fs r1 (some (r2.take j)))).length<=(ek D d.dE).length:=by
   rw[a,aI];have:=z.2;omega
  obtain⟨d',B,ha,k1,k2,Q,V,k5⟩:=Bc E h.dE h.hd G hF A (by rw[a,mR _ j4,m2];exact AB j j2);have p:(r1++r2.take j).length=r1.length+j:=by rw[ag,aI];omega
  have hlt:r1++r2.take j=l.take (r1.length+j):=by rw[m1,cY]
  have hlen:r1.length+j<=l.length:=by rw[m1,ag];omega
  refine⟨d',r1++r2.take j,by rw[B],ha,?_,?_,by rw[k1];exact aN _,?_,by rw[Q];omega,?_⟩
  ·rw[k1,p];omega
  ·rw[k1,p];omega
  ·intro r hr1 s;rw[k1] at hr1 s;rw[p] at s;unfold fT;rw[k2,k1,hlt,mR _ qW]
  ·intro hf w hw;rw[k5,k1,hF _ qW];exact hf w hw
 have y:ek d (1-d.dE)=[]->¬hG (fW (fk (ek D (1-d.dE))).1):=by
  intro e;rw[a,e,fi];exact not_nil
 obtain _|mv:=m
 ·rcases h.ot with⟨_,g,b,tx,t,s1,o,w1,w2,w3,w4⟩|⟨_,w⟩
  ·refine main λhg=>?_;rw[a,w3] at hg⊢
   rcases tg w1 w2 (tu n n1 (1-d.dE)) with e|⟨k,k1,e⟩|⟨s2,k,rfl,k1,e,k2⟩
   ·rw[e] at hg;exact absurd hg not_nil
   ·rw[e] at hg;refine absurd hg (vV w1 ?_);have:=jT w2;rw[<-aZ k s1] at this;exact jT this
   ·rw[e];obtain⟨F',_,hr⟩:=nB w1 (r1:=s1) (o:=some (s2.take k)) (tt w2 k);rw[hr];exact w4
  ·exact main λhg=>absurd hg (y w)
 ·obtain⟨o1,hf,hg,ho⟩:=h.ot;obtain⟨c1,c2,c3,c4⟩:=kb h hf;have C:=yA h hf hg
  rcases ho with⟨_,_,w⟩|⟨v1,v2,v3,v4⟩|⟨v1,v2,v0,t1,t2,ks,v3,v4,v5,v6,v7⟩
  ·exact main λhg=>absurd hg (y w)
  ·refine main λhg=>?_;rw[a,v4] at hg;have q:fN mv.f (gU d l mv.f) 0 (fT d l mv.f) ((gr d l mv.f).take mv.c.toNat++(none:Option (List eP)).getD []):=by
    rw[cN,aS];rw[<-aZ mv.c.toNat (gr d l mv.f)] at c1;exact jT c1
   rcases tg C q (tu n n1 (1-d.dE)) with e|⟨k,k1,e⟩|⟨s2,k,R,_⟩
   ·rw[e] at hg;exact absurd hg not_nil
   ·rw[e] at hg;refine absurd hg (vV C ?_);have:=jT q;rw[<-aZ k ((gr d l mv.f).take mv.c.toNat)] at this;exact jT this
   ·cases R
  ·have q:fN mv.f (gU d l mv.f) 0 (fT d l mv.f) (t1++t2):=by rw[<-v3];exact c1
   have I:=hN (1-d.dE);have J:∀k,ks<=k->k<=t2.length->(fk ((fe (gi (d.gn+1) mv.f (fT d l mv.f) (gU d l mv.f) t1 (some t2))).take (tu n n1 (1-d.dE)))).1=gi (d.gn+1) mv.f (fT d l mv.f) (gU d l mv.f) t1 (some (t2.take k))->(fe (gi (d.gn+1) mv.f (fT d l mv.f) (gU d l mv.f) t1 (some (t2.take k)))).length<=tu n n1 (1-d.dE)->
     ∃d' l',tZ d.dE (fW (fk (ek D d.dE)).1) (fW (fk (ek D (1-d.dE))).1) D.x1 D.x2 D.x3 D.x4=⟨d',l',0⟩/\yI d l d' l':=by
    intro k k1 k2 e ke;have K:=tt q k;obtain⟨F',L,hr⟩:=nB C (r1:=t1) (o:=some (t2.take k)) K;have S:fW (fk (ek D (1-d.dE))).1=(⟨d.gn+1,mv.f,fT d l mv.f,F',gg F' mv.f (t1++t2.take k),t1++t2.take k,true,((fe (gi (d.gn+1) mv.f (fT d l mv.f) (gU d l mv.f) t1 (some (t2.take k)))).length:Int)⟩,0):=by
     rw[a,v4,e];exact hr
    have gO:hG (fW (fk (ek D (1-d.dE))).1):=by rw[S];exact⟨rfl,rfl⟩
    rw[Gv h.dE U gO (by rw[N,S];show d.gn<d.gn+1;omega),S];have A:(fe (gi (d.gn+1) mv.f (fT d l mv.f) (gU d l mv.f) t1 (some (t2.take k)))).length<=(ek D (1-d.dE)).length:=by
     rw[a,aI];have:=I.2;omega
    obtain⟨d',B,ha,q1,q2,q3,q4,q5⟩:=Bc E h.tV C K L A (by rw[a,mR _ ke,v4];exact AB k k2);have p:(t1++t2.take k).length=t1.length+k:=by rw[ag,aI];omega
    have hlt:t1++t2.take k=(gr d l mv.f).take (t1.length+k):=by rw[v3,cY]
    have hlen:t1.length+k<=(gr d l mv.f).length:=by rw[v3,ag];omega
    rw[c4] at hlen;refine⟨d',t1++t2.take k,by rw[B],ha,?_,?_,by rw[q1];exact hf.1,?_,by rw[q3];omega,?_⟩
    ·rw[q1,p];omega
    ·rw[q1,p];have:=hf.2;omega
    ·intro r hr1 s;rw[q1] at hr1 s;rw[p] at s;have hfb:=hf.1;have e3:fT d' (t1++t2.take k) r=lG (fT d l mv.f) ((gr d l mv.f).take (r-mv.f).toNat):=by
      unfold fT;rw[q2,q1,hlt,mR _ qW];rfl
     have e2:(r-d.b).toNat=(mv.f-d.b).toNat+(r-mv.f).toNat:=by omega
     have e4:l.take (r-d.b).toNat=l.take (mv.f-d.b).toNat++(gr d l mv.f).take (r-mv.f).toNat:=by
      unfold gr;rw[e2,dU]
     have e5:fT d l r=lG d.tx (l.take (r-d.b).toNat):=rfl;rw[e3,e5,e4,mc];rfl
    ·intro T w hw;rw[q5,q1,L _ qW];exact LH T hf.1 w hw
   rcases v6 with v6|v6
   ·subst v6
    rcases tg C (o:=some t2) q (tu n n1 (1-d.dE)) with e|⟨k,k1,e⟩|⟨s2,k,R,k1,e,k2⟩
    ·refine main λhg=>?_;rw[a,v4,e] at hg;exact absurd hg not_nil
    ·refine main λhg=>?_;rw[a,v4,e] at hg;refine absurd hg (vV C ?_);have:=jT q;rw[<-aZ k t1] at this;exact jT this
    ·cases R;exact J k (aP _) k1 e k2
   ·have:=I.1;rw[v6] at this;obtain⟨k,k1,k2,Q,V⟩:=xC C q (tu n n1 (1-d.dE)) ks v5 qW;exact J k k1 k2 Q V
theorem EV{x:BS}{s k:Int}(h:0<=s/\s<=(x.length:Int)):s<=jS x s k/\jS x s k<=(x.length:Int):=by
 unfold jS;omega
theorem LJ{d:SC}{l:List eP}{m:Option Mv}(h:qU d l m)(a k1:Int):∃d' l',kR (d.x1.take (jS d.x1 d.x2 a).toNat) (jS d.x1 d.x2 a) (d.x3.take (jS d.x3 d.x4 k1).toNat) (jS d.x3 d.x4 k1)=⟨d',l',0⟩/\yI d l d' l':=by
 have a0:0<=d.x2/\d.x2<=(d.x1.length:Int):=(h.dk.slot 0).2;have a1:0<=d.x4/\d.x4<=(d.x3.length:Int):=(h.dk.slot 1).2;have b0:=EV (k:=a) a0;have b1:=EV (k:=k1) a1;obtain⟨c,b⟩:∃n:Nat,jS d.x1 d.x2 a=(n:Int):=⟨(jS d.x1 d.x2 a).toNat,qW⟩;obtain⟨n1,e1⟩:∃n:Nat,jS d.x3 d.x4 k1=(n:Int):=⟨(jS d.x3 d.x4 k1).toNat,qW⟩;rw[b,e1,aA,aA];rw[b] at b0;rw[e1] at b1;exact Pa h c n1 qW qW
theorem Be{b:Int}{tb:Nat->Int}{i:Nat}{now:BS}{l:List eP}(hc:fN b tb i now l):∀r∈l,r.delta.length<=10000000:=λr hr=>by
 have:=(mT (nz (jb l _ _ _ hc r hr)).2.2).1;omega
theorem Bf{b:Int}{fs:Nat->Int}{tx:BS}{l:List eP}(hc:fN b fs 0 tx l)(a:tx.length<=500)(i:Nat)(hi:i<=l.length):(gG tx l).1[i]? =some (lG tx (l.take i)):=by
 have h0:=(sA l _ _ _ hc).1;have hl:l.length<=64:=(qG hc).2.2.2;have e:gG tx l=(tx::(mj tx l).1,0):=by
  unfold gG;rw[aa qW,aa (λh=>h h0)]
 have h1:=CG l tx i h0 hi;have hlen:(tx::(mj tx l).1).length=l.length+1:=by rw[au,uv l tx h0]
 have hlt:i<(tx::(mj tx l).1).length:=by rw[hlen];omega
 rw[e,<-h1,ar,af hlt];rfl
theorem C0{a1 b1:BS}{a2 b2:Int}(e:gS a1 a2 b1 b2=0){i:Int}(hi:i=0\/i=1){L:hI}{g:Nat}(hg:L.eF=(g:Int))(hlen:g<=(if i=0 then a1 else b1).length):
  ∃d',lI a1 a2 b1 b2 i L=d'/\ek d' i=(if i=0 then a1 else b1).take g/\fS d' i=(((if i=0 then a1 else b1).take g).length:Int)/\ek d' (1-i)=[]/\fS d' (1-i)=0/\d'.b=L.base/\d'.tx=L.text/\d'.tb=L.table/\d'.sf=L.base+(L.e8.length:Int):=by
 obtain⟨E,c⟩:∃E:SC,(⟨a1,a2,b1,b2,i,L.gen,L.base,L.text,L.first,L.table,L.whole,L.eF,[],0,false⟩:SC)=E:=⟨_,rfl⟩;have k:mw E:=by rw[<-c];exact e
 have f:ek E i=if i=0 then a1 else b1:=by rw[<-c];rfl
 have hi':1-i=0\/1-i=1:=by omega
 have e1:(1:Int)-(1-i)=i:=by omega
 obtain⟨p1,p2,s,t,m⟩:=oY k hi (n:=g) (by rw[f];exact hlen);obtain⟨q1,q2,h,o,p⟩:=oY p1 hi' (n:=0) (aP _);rw[e1] at h p;obtain⟨s1,s2,q,r⟩:=lB q1 hi;have hs0:=(k.slot (1-i)).2.1;obtain⟨d',d⟩:∃d',lI a1 a2 b1 b2 i L=d':=⟨_,rfl⟩;have a:d'= {jj (iF (iF E i (g:Int)) (1-i) ((0:Nat):Int)) i with now:=(kQ L.text L.e8 (L.e8.length:Int)).1,sf:=L.base+(L.e8.length:Int)}:=by rw[<-d,<-c,<-hg];rfl
 have l:∀j,ek d' j=ek (iF (iF E i (g:Int)) (1-i) ((0:Nat):Int)) j:=λj=>by rw[a];exact s2 j
 refine⟨d',d,by rw[l,h,p2,f],?_,by rw[l,q2];rfl,?_,by rw[a,<-c];rfl,by rw[a,<-c];rfl,by rw[a,<-c];rfl,by rw[a]⟩
 ·have:fS d' i=((ek (iF (iF E i (g:Int)) (1-i) ((0:Nat):Int)) i).length:Int):=by rw[a];exact q
  rw[this,h,p2,f]
 ·have:fS d' (1-i)=fS (iF (iF E i (g:Int)) (1-i) ((0:Nat):Int)) (1-i):=by rw[a];exact r
  rw[this,o,m];omega
theorem Bg{a1 b1:BS}{a2 b2:Int}(l:gS a1 a2 b1 b2=0){i:Int}(hi:i=0\/i=1){L:hI}(hr:fW (fk (if i=0 then a1 else b1)).1=(L,0)):
  O4 (lI a1 a2 b1 b2 i L) L.e8 (kj a1 b1 i L) (gG L.text L.e8).1:=by
 have f:=vR (if i=0 then a1 else b1);rw[hr] at f;have f:0<=L.eF/\L.eF<=((if i=0 then a1 else b1).length:Int):=f;obtain⟨g,hg⟩:∃g:Nat,L.eF=(g:Int):=⟨L.eF.toNat,qW⟩;obtain⟨⟨now,pd⟩,h⟩:=AR (fs:=(fk (if i=0 then a1 else b1)).1) (by rw[hr]);rw[hr] at pd h;have c:fN L.base L.first 0 L.text L.e8:=pd.ch
 have kH:L.table=gg L.first L.base L.e8:=pd.tb
 have d:=h.b;have k:L.text.length<=500:=h.tx;unfold mO at d;have d:0<=L.base/\L.base<=2147483647:=d;obtain⟨v1,v2,v3,v4⟩:=qG c;obtain⟨d',m,k1,k2,o,p,q,r,s,t⟩:=C0 l hi hg qW;rw[m];have n:L.eF.toNat=g:=by omega
 have hb:(kj a1 b1 i L).b=L.base:=by unfold kj;split<;>rfl
 have hf:(kj a1 b1 i L).fs=L.first:=by unfold kj;split<;>rfl
 have hs:(kj a1 b1 i L).sf=L.base+(L.e8.length:Int):=by unfold kj;split<;>rfl
 have hx:d'.x1=(kj a1 b1 i L).x1/\d'.x2=(kj a1 b1 i L).x2/\d'.x3=(kj a1 b1 i L).x3/\d'.x4=(kj a1 b1 i L).x4:=by
  unfold kj;rw[n]
  rcases hi with rfl|rfl
  ·exact⟨k1,k2,o,p⟩
  ·exact⟨o,p,k1,k2⟩
 refine⟨hx.1,hx.2.1,hx.2.2.1,hx.2.2.2,by rw[q,hb],by rw[t,hs],by rw[q];exact d,v4,v1,v2,Be c,λj _=>by rw[s,hf,hb,kH],λa ha=>⟨_,Bf c k a ha,?_⟩⟩;have ht:fZ d'.b L.e8.length (d'.b+(a:Int))=0:=by
  unfold fZ;rw[aa qW,aa qW]
 have e:d'.b+(a:Int)-d'.b=(a:Int):=by omega
 unfold iy;rw[aa (λx=>x ht),e,r,yw c k a ha]
theorem C1(a1:BS)(a2:Int)(b1:BS)(b2:Int):(kR a1 a2 b1 b2).e=(kT a1 a2 b1 b2).e/\((kR a1 a2 b1 b2).e=0->(kT a1 a2 b1 b2).l=(kR a1 a2 b1 b2).l/\O4 (kR a1 a2 b1 b2).d (kR a1 a2 b1 b2).l (kT a1 a2 b1 b2).d (kT a1 a2 b1 b2).tx):=by
 unfold kR kT
 by_cases hc:gS a1 a2 b1 b2≠0
 ·rw[ae hc,ae hc];exact⟨rfl,λh=>absurd h hc⟩
 rw[aa hc,aa hc];have a:gS a1 a2 b1 b2=0:=az hc;obtain⟨LA,c,f⟩:∃L e,fW (fk a1).1=(L,e):=⟨_,_,rfl⟩;obtain⟨LB,b,hB⟩:∃L e,fW (fk b1).1=(L,e):=⟨_,_,rfl⟩;have j:hG (LA,c)->O4 (lI a1 a2 b1 b2 0 LA) LA.e8 (kj a1 b1 0 LA) (gG LA.text LA.e8).1:=λg=>Bg a (.inl rfl) (by rw[ae rfl,f];exact aB (λe=>(LA,e)) g.1);have i:hG (LB,b)->O4 (lI a1 a2 b1 b2 1 LB) LB.e8 (kj a1 b1 1 LB) (gG LB.text LB.e8).1:=λg=>Bg a (.inr rfl) (by rw[aa qD,hB];exact aB (λe=>(LB,e)) g.1);rw[f,hB];unfold oH tn
 by_cases gA:hG (LA,c)
 ·rw[ae gA,ae gA]
  by_cases gB:hG (LB,b)/\LA.gen<LB.gen
  ·rw[ae gB,ae gB];exact⟨rfl,λ_=>⟨rfl,i gB.1⟩⟩
  ·rw[aa gB,aa gB];exact⟨rfl,λ_=>⟨rfl,j gA⟩⟩
 ·rw[aa gA,aa gA]
  by_cases gB:hG (LB,b)
  ·rw[ae gB,ae gB];exact⟨rfl,λ_=>⟨rfl,i gB⟩⟩
  ·rw[aa gB,aa gB];exact⟨rfl,λh=>absurd (show(12:Int)=0 from h) qD⟩
def uL(d:iq)(i:Int):BS:=if i=0 then d.x1 else d.x3
def C2(d:iq)(i:Int):Int:=if i=0 then d.x2 else d.x4
structure MP(d:SC)(l:List eP)(m:Option Mv)(dr:iq)(tx:List BS):Prop where
 jL:qU d l m
 AI:∀i,i=0\/i=1->ek d i=uL dr i
 KN:∀i,i=0\/i=1->fS d i=C2 dr i
 dE:dr.dE=d.dE
 gn:dr.gn=d.gn
 b:dr.b=d.b
 fs:rL dr.fs d.fs
 sf:dr.sf=d.sf
 gH:dr.gH=d.gH
 kS:m=none->dr.mv=false
 Ma:∀x,m=some x->dr.mv=true/\dr.to=x.f/\dr.pt=x.c/\dr.wh=x.w
 EP:tx.length=l.length+1
 Mb:∀i:Nat,i<=l.length->tx[i]? =some (lG d.tx (l.take i))
theorem two{a:Int}(h:a=0\/a=1){p:Int->Prop}(h1:p a)(h2:p (1-a)):∀i,i=0\/i=1->p i:=by
 rintro i (rfl|rfl)
 ·rcases h with rfl|rfl
  ·exact h1
  ·exact h2
 ·rcases h with rfl|rfl
  ·exact h2
  ·exact h1
theorem MP.VJ{d:SC}{l:List eP}{m:Option Mv}{dr:iq}{tx:List BS}(h:MP d l m dr tx):rL (gg dr.fs dr.b l) d.tb:=by
 rw[h.b];exact(sy l _ _ _ h.fs).trans h.jL.tb.symm
theorem MP.W8{d:SC}{l:List eP}{m:Option Mv}{dr:iq}{tx:List BS}(h:MP d l m dr tx):O4 d l dr tx:=by
 have hb:=h.jL.hd.b;unfold mO at hb;obtain⟨v1,v2,v3,v4⟩:=qG h.jL.ch;refine⟨h.AI 0 (.inl rfl),h.KN 0 (.inl rfl),h.AI 1 (.inr rfl),h.KN 1 (.inr rfl),h.b.symm,h.sf.symm,qW,v4,v1,v2,Be h.jL.ch,λj hj=>(h.VJ j hj).symm,λi hi=>⟨_,h.Mb i hi,?_⟩⟩;rw[sD h.jL ⟨qW,qW⟩];have e:(d.b+(i:Int)-d.b).toNat=i:=by omega
 unfold fT;rw[e]
theorem MP.ok{d:SC}{l:List eP}{m:Option Mv}{dr:iq}{tx:List BS}(h:MP d l m dr tx):tX dr tx l:=by
 have hb:=h.jL.hd.b;have hg:=h.jL.hd.g;unfold mO at hb hg;obtain⟨v1,v2,v3,v4⟩:=qG h.jL.ch;have hs0:=(h.jL.dk.slot 0).1;have hs1:=(h.jL.dk.slot 1).1;rw[h.AI 0 (.inl rfl)] at hs0;rw[h.AI 1 (.inr rfl)] at hs1;refine⟨by rw[h.b];omega,v4,h.EP,λs hs=>?_,v1,v2,by rw[h.dE];exact h.jL.dE,by rw[h.gn];omega,⟨hs0,hs1⟩,λhm=>?_⟩
 ·obtain⟨i,hi⟩:=dW hs;have hlt:=(aj.1 hi).1;have a:=h.EP;rw[h.Mb i qW] at hi;cases hi;have hc:=h.jL.ch;rw[<-aZ i l] at hc;have:=tf _ _ _ _ (jT hc) h.jL.hd.tx;exact aV this qD
 ·obtain _|x:=m
  ·rw[h.kS rfl] at hm;cases hm
  ·obtain⟨_,h2,h3,_⟩:=h.Ma x rfl;obtain⟨_,hf,_,ho⟩:=h.jL.ot;rw[h2,h3,h.b];have hl:=h.jL.len;refine⟨hf,?_⟩
   rcases ho with⟨g1,_⟩|⟨g1,_,g2,_⟩|⟨g1,_,g2,_⟩<;>omega
theorem SV:MP mP [] none Gq [[]]:=by
 have hz:mw Z0:=by show gS [] 0 [] 0=0;decide
 obtain⟨a1,a2,a3,a4,a5⟩:=EC;have hl:((hM 1 0 [] λ_=>0).1++(gq 3 []).1).length<=1048576:=by
  have h1:=oF (g:=1) (b:=0) (tx:=[]) (t:=λ_=>0) qD;rw[oG yB,qF];show(jK (iA 1 0 [] λ_=>0)++jK iQ).length<=_;have h2:=h1.2.2;have h3:iQ.body.length=0:=rfl;rw[ag,iz,iz];omega
 obtain⟨p1,p2,a,c⟩:=k8 hz (.inl rfl) (t:=(hM 1 0 [] λ_=>0).1++(gq 3 []).1) (by show 0+_<=_;omega);obtain⟨q1,q2,d,f⟩:=lB p1 (.inl rfl);have e:mP= {jj (jd Z0 0 ((hM 1 0 [] λ_=>0).1++(gq 3 []).1)) 0 with gn:=1,b:=0,tx:=[],fs:=λ_=>0,tb:=λ_=>0,wh:=true,gd:=0}:=rfl
 have d0:ek mP 0=(hM 1 0 [] λ_=>0).1++(gq 3 []).1:=by rw[e];exact(q2 0).trans p2
 have d1:ek mP 1=[]:=by rw[e];exact(q2 1).trans a
 have h:fS mP 0=(((hM 1 0 [] λ_=>0).1++(gq 3 []).1).length:Int):=by
  have h1:fS mP 0=((ek (jd Z0 0 ((hM 1 0 [] λ_=>0).1++(gq 3 []).1)) 0).length:Int):=by rw[e];exact d
  rw[h1,p2];rfl
 have s1:fS mP 1=0:=by
  have h1:fS mP 1=fS (jd Z0 0 ((hM 1 0 [] λ_=>0).1++(gq 3 []).1)) 1:=by rw[e];exact f
  rw[h1,c];rfl
 refine⟨a1,?_,?_,by rw[e];rfl,by rw[a3];rfl,by rw[a2];rfl,λ_ _=>by rw[e];rfl,by rw[e];rfl,by rw[a4];rfl,λ_=>rfl,λx hx=>(by cases hx),rfl,λi hi=>?_⟩
 ·rintro i (rfl|rfl)
  ·rw[d0];rfl
  ·rw[d1];rfl
 ·rintro i (rfl|rfl)
  ·rw[h];rfl
  ·rw[s1];rfl
 ·have hi:i<=0:=hi;have e:i=0:=by omega
  subst e;rw[a5];rfl
theorem Pb{d:SC}{l:List eP}{m:Option Mv}{dr:iq}{tx:List BS}(h:MP d l m dr tx)(hg:d.gn<2147483647)(j:Int):(pY dr l.length j).2=(kh d l.length m j).2/\MP d l (kh d l.length m j).1 (pY dr l.length j).1 tx:=by
 have ha:=KP h.jL hg j;unfold kh pY at*;have hc:(dr.mv=true\/dr.gH=true)↔(m.isSome=true\/d.gH=true):=by
  rw[h.gH];obtain _|x:=m
  ·rw[h.kS rfl];simp
  ·rw[(h.Ma x rfl).1];simp
 by_cases h1:m.isSome=true\/d.gH=true
 ·rw[ae h1,ae (hc.2 h1)];exact⟨rfl,h⟩
 ·rw[aa h1] at ha⊢;rw[aa (λg=>h1 (hc.1 g)),h.b]
  by_cases h2:fZ d.b l.length j≠0
  ·rw[ae h2,ae h2];exact⟨rfl,h⟩
  ·rw[aa h2] at ha⊢;rw[aa h2];refine⟨rfl,⟨ha,h.AI,h.KN,h.dE,h.gn,rfl,h.fs,h.sf,h.gH,λg=>(by cases g),λx hx=>?_,h.EP,h.Mb⟩⟩;cases hx;exact⟨rfl,rfl,rfl,rfl⟩
theorem LK{d:SC}{l:List eP}{m:Option Mv}(h:qU d l m)(n:Nat):(∀j,ek (jR d n m) j=ek d j)/\fS (jR d n m) d.dE=((ek d d.dE).length:Int)/\(fS (jR d n m) (1-d.dE)=(match m with|some ⟨_,_,true⟩=>((ek d (1-d.dE)).length:Int)|_=>fS d (1-d.dE)))/\(jR d n m).dE=d.dE/\(jR d n m).gH=d.gH:=by
 have s:mw (nC d m)/\(∀j,ek (nC d m) j=ek d j)/\(fS (nC d m) (1-d.dE)=(match m with|some ⟨_,_,true⟩=>((ek d (1-d.dE)).length:Int)|_=>fS d (1-d.dE)))/\(nC d m).dE=d.dE/\(nC d m).gH=d.gH:=by
  obtain _|⟨f,c,w⟩:=m
  ·exact⟨h.dk,λ_=>rfl,rfl,rfl,rfl⟩
  ·cases w with
   |false=>exact⟨h.dk,λ_=>rfl,rfl,rfl,rfl⟩
   |true=>
    have e:nC d (some ⟨f,c,true⟩)=jj d (1-d.dE):=rfl;rw[e];obtain⟨q1,q2,k,p⟩:=lB h.dk h.tV;exact⟨q1,q2,k,rfl,rfl⟩
 obtain⟨w1,w2,q,a,g⟩:=s;obtain⟨D,r⟩:∃D,nC d m=D:=⟨_,rfl⟩;have o:jR d n m= {jj D D.dE with sf:=d.b+(n:Int)}:=by rw[<-r];rfl
 rw[r] at w1 w2 q a g;obtain⟨q1,q2,k,p⟩:=lB w1 (i:=D.dE) (by rw[a];exact h.dE);rw[o];refine⟨λj=>by rw[<-w2 j];exact q2 j,?_,?_,a,g⟩
 ·rw[<-a,<-w2 D.dE];exact k
 ·rw[<-q,<-a];exact p
theorem Gw(dr:iq)(n:Nat):(∀i,i=0\/i=1->uL (k6 dr n) i=uL dr i/\C2 (k6 dr n) i=if i=dr.dE\/(dr.mv=true/\dr.wh=true) then((uL dr i).length:Int) else C2 dr i)/\(k6 dr n).dE=dr.dE/\(k6 dr n).gn=dr.gn/\(k6 dr n).b=dr.b/\(k6 dr n).fs=dr.fs/\(k6 dr n).gH=dr.gH/\(k6 dr n).mv=dr.mv/\(k6 dr n).to=dr.to/\(k6 dr n).pt=dr.pt/\(k6 dr n).wh=dr.wh:=by
 have a:sF dr= {dr with x2:=if 0=dr.dE\/(dr.mv=true/\dr.wh=true) then(dr.x1.length:Int) else dr.x2}:=by
  unfold sF
  split<;>rfl
 have e1:∀d:iq,sG d= {d with x4:=if 1=d.dE\/(d.mv=true/\d.wh=true) then(d.x3.length:Int) else d.x4}:=λd=>by
  unfold sG
  split<;>rfl
 have e:k6 dr n= {dr with x2:=if 0=dr.dE\/(dr.mv=true/\dr.wh=true) then(dr.x1.length:Int) else dr.x2,x4:=if 1=dr.dE\/(dr.mv=true/\dr.wh=true) then(dr.x3.length:Int) else dr.x4,sf:=dr.b+(n:Int)}:=by
  unfold k6;rw[e1,a]
 rw[e];refine⟨?_,rfl,rfl,rfl,rfl,rfl,rfl,rfl,rfl,rfl⟩;rintro i (rfl|rfl)
 ·exact⟨rfl,rfl⟩
 ·exact⟨rfl,rfl⟩
theorem Pc{d:SC}{l:List eP}{m:Option Mv}{dr:iq}{tx:List BS}(h:MP d l m dr tx):MP (jR d l.length m) l m (k6 dr l.length) tx:=by
 obtain⟨a1,a2,a3,a4,a5,k⟩:=AP h.jL;obtain⟨b1,b2,b3,n,o⟩:=LK h.jL l.length;obtain⟨c1,p,c3,c4,c5,q,e,r,s,a⟩:=Gw dr l.length;have hs:(k6 dr l.length).sf=dr.b+(l.length:Int):=rfl;refine⟨a1,λi hi=>by rw[b1,(c1 i hi).1];exact h.AI i hi,?_,by rw[p,n];exact h.dE,by rw[c3,a5];exact h.gn,by rw[c4,a3];exact h.b,by rw[c5,k];exact h.fs,by rw[hs,a2,h.b],by rw[q,o];exact h.gH,λg=>by rw[e];exact h.kS g,λx hx=>by rw[e,r,s,a];exact h.Ma x hx,h.EP,λi hi=>by rw[a4];exact h.Mb i hi⟩;refine two h.jL.dE ?_ ?_
 ·rw[b2,(c1 d.dE h.jL.dE).2,ae (.inl h.dE.symm),h.AI _ h.jL.dE]
 ·rw[b3,(c1 (1-d.dE) h.jL.tV).2];have hne:¬(1-d.dE=dr.dE):=by rw[h.dE];have:=h.jL.dE;omega
  obtain _|⟨f,c,w⟩:=m
  ·rw[aa (λg=>g.elim hne (λg=>by rw[h.kS rfl] at g;exact absurd g.1 qD))];exact h.KN _ h.jL.tV
  ·obtain⟨m1,_,_,j⟩:=h.Ma _ rfl;cases w with
   |false=>
    rw[aa (λg=>g.elim hne (λg=>by have:=g.2;rw[j] at this;exact absurd (show false=true from this) qD))];exact h.KN _ h.jL.tV
   |true=>
    rw[ae (.inr ⟨m1,j⟩),<-h.AI _ h.jL.tV]
theorem LL{d:SC}{l:List eP}{m:Option Mv}(h:qU d l m){t:BS}(ht:t.length<=4007):ek (lS d m t) d.dE=ek d d.dE++t/\(∀j,fS (lS d m t) j=fS d j)/\ek (lS d m t) (1-d.dE)=vM m (ek d (1-d.dE)) t:=by
 have p:=h.Uc;obtain⟨p1,p2,a,e⟩:=k8 h.dk h.dE (t:=t) qW;obtain _|⟨f,c,w⟩:=m
 ·exact⟨p2,e,a⟩
 ·cases w with
  |false=>exact⟨p2,e,a⟩
  |true=>
   have i:lS d (some ⟨f,c,true⟩) t=jd (jd d d.dE t) (1-d.dE) t:=rfl;rw[i];have Di:(ek (jd d d.dE t) (1-d.dE)).length+t.length<=1048576:=by
    rw[a];obtain⟨_,hf,hg,ho⟩:=h.ot
    rcases ho with⟨_,hw,_⟩|⟨_,hw,_⟩|⟨_,_,_,r1,r2,s,e1,k,_⟩
    ·cases hw
    ·cases hw
    ·have k:ek d (1-d.dE)=fe (gi (d.gn+1) f (fT d l f) (gU d l f) r1 (some r2)):=k;have e1:gr d l f=r1++r2:=e1;have hf:d.b<=f/\f<=d.b+(l.length:Int):=hf;rw[k];obtain⟨s1,s2,u,q⟩:=kb h hf;have v:=h.len;have:=kP (g:=d.gn+1) (b:=f) (t:=gU d l f) s2 (r1:=r1) (o:=some r2) (by rw[e1] at s1;exact jb _ _ _ _ s1) (by show(r1++r2).length<=64;rw[<-e1,q];omega);omega
   obtain⟨q1,q2,n,r⟩:=k8 p1 h.tV (t:=t) Di;have e1:(1:Int)-(1-d.dE)=d.dE:=by omega
   rw[e1] at n;exact⟨by rw[n,p2],λj=>by rw[r,e],by rw[q2,a];rfl⟩
theorem Bh(d:iq){i:Int}(hi:i=0\/i=1)(t:BS):uL (mz d i t) i=uL d i++t/\uL (mz d i t) (1-i)=uL d (1-i)/\(∀j,C2 (mz d i t) j=C2 d j)/\(mz d i t).dE=d.dE/\(mz d i t).gn=d.gn/\(mz d i t).b=d.b/\(mz d i t).fs=d.fs/\(mz d i t).sf=d.sf/\(mz d i t).gH=d.gH/\(mz d i t).mv=d.mv/\(mz d i t).to=d.to/\(mz d i t).pt=d.pt/\(mz d i t).wh=d.wh:=by
 rcases hi with rfl|rfl
 ·exact⟨rfl,rfl,λj=>rfl,rfl,rfl,rfl,rfl,rfl,rfl,rfl,rfl,rfl,rfl⟩
 ·exact⟨rfl,rfl,λj=>rfl,rfl,rfl,rfl,rfl,rfl,rfl,rfl,rfl,rfl,rfl⟩
theorem Bi(d:SC)(l:List eP)(m:Option Mv)(r:eP):(gz d l m r).d.dE=d.dE:=by
 have hp:∀t,(lS d m t).dE=d.dE:=by
  intro t;unfold lS
  split
  ·rfl
  ·split<;>rfl
 unfold gz
 split
 ·rfl
 ·split
  ·rfl
  ·exact hp _
theorem LM{d:SC}{l:List eP}{m:Option Mv}{dr:iq}{tx:List BS}(h:MP d l m dr tx):tx.getD l.length []=d.now:=by
 rw[ar,h.Mb l.length (ah _),aM,h.jL.now];rfl
theorem LN{d:SC}{l:List eP}{m:Option Mv}{dr:iq}{tx:List BS}(h:MP d l m dr tx)(r:eP):(oL dr tx l r).v=(gz d l m r).v/\(oL dr tx l r).e=(gz d l m r).e/\(oL dr tx l r).l=(gz d l m r).l/\MP (gz d l m r).d (gz d l m r).l m (oL dr tx l r).d (oL dr tx l r).tx:=by
 have hn:gw dr.b (gg dr.fs dr.b l) l.length (tx.getD l.length []).length r=gw d.b d.tb l.length d.now.length r:=by
  rw[LM h,h.b];have:=h.VJ;rw[h.b] at this;exact vH this _ _ _
 by_cases h0:gw d.b d.tb l.length d.now.length r=0
 ·have q:oL dr tx l r=⟨iT dr (gQ r).1,tx++[(kl r.delta (tx.getD l.length [])).1],l++[r],dr.b+((l.length+1:Nat):Int),0⟩:=by
   unfold oL;rw[aa (λg=>g (hn.trans h0))]
  obtain⟨J,A,K,L,M,N,O,u8,P⟩:=Oz h.jL h0;have h1:=(lz h0).1;have hr:=uH h1;have hlt:(gQ r).1.length<=4007:=by
   have:=(oE h1).2.2;rw[hr,iz];omega
  obtain⟨b1,b2,b3⟩:=LL h.jL hlt;obtain⟨k1,k2,k3,k4⟩:=oZ d l m r;have Q:=Bi d l m r;have B:(gz d l m r).d=vB {lS d m (gQ r).1 with now:=(kl r.delta d.now).1} l r:=by
   unfold gz;rw[aa (λx=>x h0),hr];exact aB rD.d (aa (λx=>x rfl))
  have c1:∀j,ek (gz d l m r).d j=ek (lS d m (gQ r).1) j:=λj=>by rw[B];rfl
  have R:∀j,fS (gz d l m r).d j=fS d j:=λj=>by rw[<-b2,B];rfl
  obtain⟨r1,r2,C,D,E,F,G,H,I,a,k,n,o⟩:=Bh dr (i:=dr.dE) (by rw[h.dE];exact h.jL.dE) (gQ r).1;have S:uL (iT dr (gQ r).1) d.dE=uL dr d.dE++(gQ r).1/\uL (iT dr (gQ r).1) (1-d.dE)=vM m (uL dr (1-d.dE)) (gQ r).1/\(∀j,C2 (iT dr (gQ r).1) j=C2 dr j)/\(iT dr (gQ r).1).dE=dr.dE/\(iT dr (gQ r).1).gn=dr.gn/\(iT dr (gQ r).1).b=dr.b/\(iT dr (gQ r).1).fs=dr.fs/\(iT dr (gQ r).1).sf=dr.sf/\(iT dr (gQ r).1).gH=dr.gH/\(iT dr (gQ r).1).mv=dr.mv/\(iT dr (gQ r).1).to=dr.to/\(iT dr (gQ r).1).pt=dr.pt/\(iT dr (gQ r).1).wh=dr.wh:=by
   rw[<-h.dE];unfold iT
   by_cases hw:dr.mv=true/\dr.wh=true
   ·rw[ae hw];obtain⟨q1,q2,T,U,V,W,X,Y,Z,s,t,u,y⟩:=Bh (mz dr dr.dE (gQ r).1) (i:=1-dr.dE) (by rw[h.dE];exact h.jL.tV) (gQ r).1;have e1:(1:Int)-(1-dr.dE)=dr.dE:=by omega
    rw[e1] at q2;have hm:vM m (uL dr (1-dr.dE)) (gQ r).1=uL dr (1-dr.dE)++(gQ r).1:=by
     obtain _|⟨f,c,w⟩:=m
     ·rw[h.kS rfl] at hw;exact absurd hw.1 qD
     ·have:=(h.Ma _ rfl).2.2.2;have hw2:w=true:=by rw[hw.2] at this;exact this.symm
      subst hw2;rfl
    exact⟨by rw[q2,r1],by rw[q1,r2,hm],λj=>by rw[T,C],by rw[U,D],by rw[V,E],by rw[W,F],by rw[X,G],by rw[Y,H],by rw[Z,I],by rw[s,a],by rw[t,k],by rw[u,n],by rw[y,o]⟩
   ·rw[aa hw];have hm:vM m (uL dr (1-dr.dE)) (gQ r).1=uL dr (1-dr.dE):=by
     obtain _|⟨f,c,w⟩:=m
     ·rfl
     ·obtain⟨g1,_,_,g4⟩:=h.Ma _ rfl;cases w with
      |true=>exact absurd ⟨g1,g4⟩ hw
      |false=>rfl
    exact⟨r1,by rw[r2,hm],C,D,E,F,G,H,I,a,k,n,o⟩
  obtain⟨g1,g2,g3,g4,g5,g6,g7,g8,g9,g10,g11,g12,g13⟩:=S;rw[q];refine⟨?_,J.symm,A.symm,?_⟩
  ·show dr.b+((l.length+1:Nat):Int)=_;rw[K,h.b];omega
  ·show MP _ _ m (iT dr (gQ r).1) (tx++[_]);rw[A];refine⟨P,?_,λj hj=>by rw[R,g3];exact h.KN j hj,by rw[g4,Q];exact h.dE,by rw[g5,N];exact h.gn,by rw[g6,L];exact h.b,by rw[g7,u8];exact h.fs,by rw[g8,O];exact h.sf,by rw[g9,k1];exact h.gH,λg=>by rw[g10];exact h.kS g,λx hx=>by rw[g10,g11,g12,g13];exact h.Ma x hx,by rw[ag,ag,h.EP];rfl,λi hi=>?_⟩
   ·refine two h.jL.dE ?_ ?_
    ·rw[c1,b1,g1,h.AI _ h.jL.dE]
    ·rw[c1,b3,g2,h.AI _ h.jL.tV]
   ·rw[M];rw[ag,List.length_singleton] at hi;have z:=h.EP
    by_cases p:i<=l.length
    ·rw[bg qW,h.Mb i p,lj p]
    ·have e:i=tx.length:=by omega
     rw[e,bj (ah _),Nat.sub_self];have e2:(l++[r]).take tx.length=l++[r]:=aY (by rw[ag,z];exact ah _);rw[e2,mc,LM h,h.jL.now];rfl
 ·have q:oL dr tx l r=⟨dr,tx,l,0,gw d.b d.tb l.length d.now.length r⟩:=by
   unfold oL;rw[hn,ae h0]
  rw[q,KO h0];exact⟨rfl,rfl,rfl,h⟩
theorem SW{d:SC}{l:List eP}{m:Option Mv}{dr:iq}{tx:List BS}(h:MP d l m dr tx)(base who seq:Int)(x:List Part):(sL dr tx l base who seq x).v=(rI d l m base who seq x).v/\(sL dr tx l base who seq x).e=(rI d l m base who seq x).e/\(sL dr tx l base who seq x).l=(rI d l m base who seq x).l/\MP (rI d l m base who seq x).d (rI d l m base who seq x).l m (sL dr tx l base who seq x).d (sL dr tx l base who seq x).tx:=by
 have same:∀v e,((⟨dr,tx,l,v,e⟩:GM).v=(⟨d,l,v,e⟩:rD).v/\(⟨dr,tx,l,v,e⟩:GM).e=(⟨d,l,v,e⟩:rD).e/\(⟨dr,tx,l,v,e⟩:GM).l=(⟨d,l,v,e⟩:rD).l/\MP (⟨d,l,v,e⟩:rD).d (⟨d,l,v,e⟩:rD).l m (⟨dr,tx,l,v,e⟩:GM).d (⟨dr,tx,l,v,e⟩:GM).tx):=λv e=>⟨rfl,rfl,rfl,h⟩;unfold rI sL
 by_cases h1:who<0\/7<who\/seq<0\/2147483647<seq
 ·have h2:(iX d.tb who).e≠0\/seq<0\/2147483647<seq:=by
   by_cases hw:who<0\/7<who
   ·left
    unfold iX;rw[ae hw];decide
   ·omega
  rw[ae h1,ae h2];exact same _ _
 ·have hw:iX d.tb who=⟨d.tb (2*who.toNat),d.tb (2*who.toNat+1),0⟩:=by
   unfold iX;rw[aa qW]
  have e1:gg dr.fs dr.b l (2*who.toNat)=d.tb (2*who.toNat):=h.VJ _ qW;have i:gg dr.fs dr.b l (2*who.toNat+1)=d.tb (2*who.toNat+1):=h.VJ _ qW;rw[aa h1,hw,e1,i,h.b];rw[aa (show¬((⟨d.tb (2*who.toNat),d.tb (2*who.toNat+1),0⟩:L3).e≠0\/seq<0\/2147483647<seq) from λg=>g.elim (λg=>g rfl) (λg=>by omega))]
  by_cases h3:ed x=0
  ·have hs:vZ x=(kU x,iV x,0):=by unfold vZ;rw[ae h3]
   rw[hs,aa (show¬ed x≠0 from λg=>g h3),aa (show¬((kU x,iV x,(0:Int)):Int×Int×Int).2.2≠0 from λg=>g rfl)]
   by_cases h4:0<seq/\seq=d.tb (2*who.toNat)
   ·rw[ae h4,ae h4];exact same _ _
   ·rw[aa h4,aa h4]
    by_cases h5:seq<=d.tb (2*who.toNat)
    ·rw[ae h5,ae h5];exact same _ _
    ·rw[aa h5,aa h5]
     by_cases h6:fZ d.b l.length base=0
     ·have yK:d.b<=base/\base<=d.b+(l.length:Int):=by
       unfold fZ at h6
       split at h6
       ·exact absurd h6 qD
       ·split at h6
        ·exact absurd h6 qD
        ·omega
      have a:=sD h.jL yK;have c:(iG d l base).1=l.drop (base-d.b).toNat:=by unfold iG;rw[aa (λg=>g h6)]
      have f:tx.getD (base-d.b).toNat []=fT d l base:=by
       rw[ar,h.Mb _ qW];rfl
      rw[aa (show¬fZ d.b l.length base≠0 from λg=>g h6),a,c,f];rw[aa (show¬((fT d l base,(0:Int)):BS×Int).2≠0 from λg=>g rfl)]
      by_cases h7:((fT d l base).length:Int)=kU x
      ·rw[aa (show¬((fT d l base).length:Int)≠kU x from λg=>g h7),aa (show¬((kU x,iV x,(0:Int)):Int×Int×Int).1≠(((fT d l base,(0:Int)):BS×Int).1.length:Int) from λg=>g h7.symm)]
       by_cases h8:(il x (l.drop (base-d.b).toNat)).2=0
       ·rw[aa (show¬(il x (l.drop (base-d.b).toNat)).2≠0 from λg=>g h8),aa (show¬(il x (l.drop (base-d.b).toNat)).2≠0 from λg=>g h8)];exact LN h _
       ·rw[ae h8,ae h8];exact same _ _
      ·rw[ae h7,ae (show((kU x,iV x,(0:Int)):Int×Int×Int).1≠(((fT d l base,(0:Int)):BS×Int).1.length:Int) from λg=>h7 g.symm)];exact same _ _
     ·have a:=AJ (d:=d) (l:=l) h6;rw[ae h6,a];rw[ae (show((([],fZ d.b l.length base):BS×Int)).2≠0 from h6)];exact same _ _
  ·have hs:vZ x=(0,0,ed x):=by unfold vZ;rw[aa h3]
   rw[hs,ae h3,ae (show(((0:Int),(0:Int),ed x):Int×Int×Int).2.2≠0 from h3)];exact same _ _
theorem oM(d:iq)(h:d.dE=0\/d.dE=1)(x:BS)(s:Int):uL (gC d x s) (1-d.dE)=x/\C2 (gC d x s) (1-d.dE)=s/\uL (gC d x s) d.dE=uL d d.dE/\C2 (gC d x s) d.dE=C2 d d.dE/\ja d=uL d (1-d.dE)/\mB d=C2 d (1-d.dE)/\(gC d x s).dE=d.dE/\(gC d x s).gn=d.gn/\(gC d x s).b=d.b/\(gC d x s).fs=d.fs/\(gC d x s).sf=d.sf/\(gC d x s).mv=d.mv/\(gC d x s).to=d.to/\(gC d x s).pt=d.pt/\(gC d x s).wh=d.wh/\(gC d x s).gH=d.gH:=by
 unfold gC ja mB
 rcases h with e|e
 ·rw[e,ae rfl,ae rfl,ae rfl];exact⟨rfl,rfl,rfl,rfl,rfl,rfl,rfl,rfl,rfl,rfl,rfl,rfl,rfl,rfl,rfl,rfl⟩
 ·rw[e,aa qD,aa qD,aa qD];exact⟨rfl,rfl,rfl,rfl,rfl,rfl,rfl,rfl,rfl,rfl,rfl,rfl,rfl,rfl,rfl,rfl⟩
theorem MP.VK{d:SC}{l:List eP}{m:Option Mv}{dr:iq}{tx:List BS}(h:MP d l m dr tx){d':SC}{m':Option Mv}{x:BS}{s:Int}{a:iq}(hr:a= {gC dr x s with mv:=a.mv,to:=a.to,pt:=a.pt,wh:=a.wh,gH:=a.gH})(ha:qU d' l m')
  (e1:d'.dE=d.dE)(o:d'.gn=d.gn)(p:d'.b=d.b)(q:d'.fs=d.fs)(r:d'.sf=d.sf)(t:d'.tx=d.tx)(a0:ek d' d.dE=ek d d.dE)(u:fS d' d.dE=fS d d.dE)(a1:ek d' (1-d.dE)=x)(s1:fS d' (1-d.dE)=s)
  (gH:a.gH=d'.gH)(kS:m'=none->a.mv=false)(Ma:∀y,m'=some y->a.mv=true/\a.to=y.f/\a.pt=y.c/\a.wh=y.w):MP d' l m' a tx:=by
 obtain⟨r1,r2,k,n,_,_,v,z,A,e,g,_⟩:=oM dr (by rw[h.dE];exact h.jL.dE) x s;rw[h.dE] at r1 r2 k n;have q1:∀j,uL a j=uL (gC dr x s) j:=λj=>by rw[hr];rfl
 have q2:∀j,C2 a j=C2 (gC dr x s) j:=λj=>by rw[hr];rfl
 have f1:a.dE=dr.dE:=by rw[hr];exact v
 have f2:a.gn=dr.gn:=by rw[hr];exact z
 have f3:a.b=dr.b:=by rw[hr];exact A
 have f4:a.fs=dr.fs:=by rw[hr];exact e
 have f5:a.sf=dr.sf:=by rw[hr];exact g
 refine⟨ha,two h.jL.dE ?_ ?_,two h.jL.dE ?_ ?_,by rw[f1,e1];exact h.dE,by rw[f2,o];exact h.gn,by rw[f3,p];exact h.b,by rw[f4,q];exact h.fs,by rw[f5,r];exact h.sf,gH,kS,Ma,h.EP,λi hi=>by rw[t];exact h.Mb i hi⟩
 ·rw[a0,q1,k];exact h.AI _ h.jL.dE
 ·rw[a1,q1,r1]
 ·rw[u,q2,n];exact h.KN _ h.jL.dE
 ·rw[s1,q2,r2]
theorem Pd{d:SC}{l:List eP}{m:Option Mv}{dr:iq}{tx:List BS}(h:MP d l m dr tx):(kt dr tx l).v=(jl d l m).v/\(kt dr tx l).l=(jl d l m).l/\MP (jl d l m).d (jl d l m).l (jl d l m).m (kt dr tx l).d (kt dr tx l).tx:=by
 have ha:=(AQ h.jL).jL;have e1:(1:Int)-(1-d.dE)=d.dE:=by omega
 have hat:dr.dE=0\/dr.dE=1:=by rw[h.dE];exact h.jL.dE
 obtain⟨t1,t2,t3,t4,t5⟩:=oY (n:=0) h.jL.dk h.jL.tV (aP _);rw[e1] at t3 t5;have t2:ek (iF d (1-d.dE) 0) (1-d.dE)=[]:=t2;have t3:ek (iF d (1-d.dE) 0) d.dE=ek d d.dE:=t3;have t5:fS (iF d (1-d.dE) 0) d.dE=fS d d.dE:=t5;have t1:mw (iF d (1-d.dE) 0):=t1;have t4:fS (iF d (1-d.dE) 0) (1-d.dE)=0:=by
  have hs:=(h.jL.dk.slot (1-d.dE)).2.1;have t4:fS (iF d (1-d.dE) 0) (1-d.dE)=min (fS d (1-d.dE)) ((0:Nat):Int):=t4;rw[t4];omega
 obtain _|⟨f,c,w⟩:=m
 ·have j:jl d l none=tT d l:=rfl;rw[j] at ha⊢;have B:kt dr tx l=⟨{(if dr.gH=true then gC dr [] 0 else dr) with gH:=false},tx,l,dr.gH⟩:=by
   unfold kt;rw[ae (h.kS rfl)]
  rw[B];unfold tT at ha⊢
  by_cases ho:d.gH=true
  ·rw[ae ho] at ha⊢;have q:dr.gH=true:=by rw[h.gH];exact ho
   obtain⟨_,_,_,_,_,_,_,_,_,_,_,a,k,z,u,p⟩:=oM dr hat [] 0;refine⟨q,rfl,?_⟩;show MP {iF d (1-d.dE) 0 with gH:=false} l none {(if dr.gH=true then gC dr [] 0 else dr) with gH:=false} tx
   rw[ae q];exact h.VK (x:=[]) (s:=0) rfl ha rfl rfl rfl rfl rfl rfl t3 t5 t2 t4 rfl (λ_=>a.trans (h.kS rfl)) (λy hy=>(by cases hy))
  ·rw[aa ho] at ha⊢;have q:dr.gH=false:=by rw[h.gH];exact Bool.eq_false_iff.2 ho
   refine⟨q,rfl,?_⟩;show MP d l none {(if dr.gH=true then gC dr [] 0 else dr) with gH:=false} tx
   rw[aa (by rw[q];decide)];have e:({dr with gH:=false}:iq)=dr:=by rw[<-q]
   rw[e];exact h
 obtain⟨o1,hf,hg,ho⟩:=h.jL.ot;have hf:d.b<=f/\f<=d.b+(l.length:Int):=hf;obtain⟨m1,m2,A,E⟩:=h.Ma _ rfl;have m2:dr.to=f:=m2;have A:dr.pt=c:=A;have E:dr.wh=w:=E;have O:=yA h.jL hf hg;have rB:=h.jL.hd.b;unfold mO at rB;obtain⟨s1,s2,s3,L⟩:=kb h.jL hf;have hlen:=h.jL.len;have M:rL (gg dr.fs dr.b (l.take (f-d.b).toNat)) (gU d l f):=by
  rw[h.b];exact sy _ _ _ _ h.fs
 have T:tx.getD (f-d.b).toNat []=fT d l f:=by
  rw[ar,h.Mb _ qW];rfl
 have C:¬dr.mv=false:=by rw[m1];decide
 have D:=h.AI _ h.jL.tV;have J:=h.KN _ h.jL.tV
 rcases ho with⟨v1,v2,v3⟩|⟨v1,v2,v3,v4⟩|⟨v1,v2,v0,r1,r2,js,v3,v4,v5,v6,v7⟩
 ·have v1:c= -1:=v1;have v2:w=false:=v2;subst v1 v2;have j:jl d l (some ⟨f,-1,false⟩)=sB d l f false (hM (d.gn+1) f (iy d l f).1 (gU d l f)).1:=vO (show(-1:Int)<0 by decide);have U:(hM (dr.gn+1) dr.to (tx.getD (dr.to-dr.b).toNat []) (gg dr.fs dr.b (l.take (dr.to-dr.b).toNat))).1=jK (iA (d.gn+1) f (fT d l f) (gU d l f)):=by
   rw[m2,h.gn];have N:(f-dr.b).toNat=(f-d.b).toNat:=by rw[h.b]
   rw[N,T,oG (O.Wu M.symm)];show jK (iA _ _ _ _)=_;unfold iA gT;rw[AH M]
  have B:kt dr tx l=⟨{gC dr (jK (iA (d.gn+1) f (fT d l f) (gU d l f))) 0 with pt:=0},tx,l,true⟩:=by
   unfold kt;rw[aa C,ae (by rw[A];show(-1:Int)<0;decide),U]
  have V:sB d l f false (hM (d.gn+1) f (iy d l f).1 (gU d l f)).1=⟨jd (iF d (1-d.dE) 0) (1-d.dE) (jK (iA (d.gn+1) f (fT d l f) (gU d l f))),l,some ⟨f,0,false⟩,true⟩:=by
   unfold sB;rw[sD h.jL hf,oG O]
  rw[j,V] at ha⊢;rw[B];have W:=(oF (g:=d.gn+1) (b:=f) (t:=gU d l f) s2).2.2;obtain⟨p1,p2,G,H⟩:=k8 t1 h.jL.tV (t:=jK (iA (d.gn+1) f (fT d l f) (gU d l f))) (by rw[t2,iz];show 0+_<=_;omega);rw[e1] at G;obtain⟨_,_,_,_,_,_,_,_,_,_,_,a,k,z,u,p⟩:=oM dr hat (jK (iA (d.gn+1) f (fT d l f) (gU d l f))) 0;refine⟨rfl,rfl,?_⟩;exact h.VK (x:=jK (iA (d.gn+1) f (fT d l f) (gU d l f))) (s:=0) rfl ha rfl rfl rfl rfl rfl rfl (by rw[<-t3];exact G) (by rw[<-t5];exact H _) (p2.trans (by rw[t2];rfl)) ((H _).trans t4) (p.trans h.gH) (λg=>(by cases g)) (λy hy=>by
   cases hy;exact⟨a.trans m1,k.trans m2,rfl,u.trans E⟩)
 ·have v1:0<=c:=v1;have v2:w=false:=v2;have v3:f+c<=d.b+(l.length:Int):=v3;have v4:ek d (1-d.dE)=fe (gi (d.gn+1) f (fT d l f) (gU d l f) ((gr d l f).take c.toNat) none):=v4;subst v2;have Di:(ek d (1-d.dE)).length<=264462:=by
   rw[v4];refine kP s2 (o:=none) (λr hr=>?_) ?_
   ·rw[cN,aS] at hr;exact jb _ _ _ _ s1 r (cG hr)
   ·rw[cN,aS,aI,L];omega
  have j:jl d l (some ⟨f,c,false⟩)=pT d l f c (λr=>(gQ r).1) (gq 3 []).1:=by
   show(if c<0 then _ else _)=_;rw[aa qW,ae rfl]
  rw[j] at ha⊢;unfold pT at ha⊢
  by_cases hlt:f+c<d.b+(l.length:Int)
  ·rw[ae hlt] at ha⊢;obtain⟨r,g1,g2,g3⟩:=EB hf.1 v1 hlt;have hr1:=jb _ _ _ _ h.jL.ch r (ax g1);have P:(λr=>(gQ r).1) r=jK (fE r):=by show(gQ r).1=_;rw[uH hr1]
   rw[g2,P] at ha⊢;have B:kt dr tx l=⟨{gC dr (ja dr++jK (fE r)) (mB dr) with pt:=c+1},tx,l,true⟩:=by
    have X:(dr.to-dr.b+dr.pt).toNat=(f+c-d.b).toNat:=by rw[m2,A,h.b];congr 1;omega
    unfold kt;rw[aa C,aa (by rw[A];omega),ae ⟨E,by rw[m2,A,h.b];exact hlt⟩,X,g2,A];show _=_;rw[show(gQ r).1=jK (fE r) from P]
   rw[B];obtain⟨_,_,_,_,I,K,_,_,_,_,_,a,k,z,u,p⟩:=oM dr hat (ja dr++jK (fE r)) (mB dr);have mU:=(oE hr1).2.2;obtain⟨p1,p2,G,H⟩:=k8 h.jL.dk h.jL.tV (t:=jK (fE r)) (by rw[iz];omega);rw[e1] at G;refine⟨rfl,rfl,?_⟩;exact h.VK (x:=ja dr++jK (fE r)) (s:=mB dr) rfl ha rfl rfl rfl rfl rfl rfl G (H _) (p2.trans (by rw[I,h.dE,D])) ((H _).trans (by rw[K,h.dE,J])) (p.trans h.gH) (λg=>(by cases g)) (λy hy=>by
    cases hy;exact⟨a.trans m1,k.trans m2,rfl,u.trans E⟩)
  ·rw[aa hlt] at ha⊢;have B:kt dr tx l=⟨{gC dr (ja dr++(gq 3 []).1) (mB dr) with wh:=true},tx,l,true⟩:=by
    unfold kt;rw[aa C,aa (by rw[A];omega),aa (λg=>hlt (by have:=g.2;rw[m2,A,h.b] at this;exact this)),ae E]
   rw[B];obtain⟨_,_,_,_,I,K,_,_,_,_,_,a,k,z,u,p⟩:=oM dr hat (ja dr++(gq 3 []).1) (mB dr);have Y:(gq 3 []).1.length=7:=by rw[qF,iz];rfl
   obtain⟨p1,p2,G,H⟩:=k8 h.jL.dk h.jL.tV (t:=(gq 3 []).1) qW;rw[e1] at G;refine⟨rfl,rfl,?_⟩;exact h.VK (x:=ja dr++(gq 3 []).1) (s:=mB dr) rfl ha rfl rfl rfl rfl rfl rfl G (H _) (p2.trans (by rw[I,h.dE,D])) ((H _).trans (by rw[K,h.dE,J])) (p.trans h.gH) (λg=>(by cases g)) (λy hy=>by
    cases hy;exact⟨a.trans m1,k.trans m2,z.trans A,rfl⟩)
 ·have v1:0<=c:=v1;have v2:w=true:=v2;subst v2;obtain⟨q1,q2,Z,Q⟩:=lB h.jL.dk h.jL.tV;rw[e1] at Q;obtain⟨F,hF,hr⟩:=vN h.jL;have j:jl d l (some ⟨f,c,true⟩)=AF d ⟨d.gn+1,f,fT d l f,F,gg F f (gr d l f),gr d l f,true,((ek d (1-d.dE)).length:Int)⟩:=by
   show(if c<0 then _ else _)=_;rw[aa qW,aa (by simp),q2,hr]
  rw[j] at ha⊢;have N:(dr.to-dr.b).toNat=(f-d.b).toNat:=by rw[m2,h.b]
  have B:kt dr tx l=⟨{gC dr (ja dr) ((ja dr).length:Int) with fs:=gg dr.fs dr.b (l.take (f-d.b).toNat),b:=f,gn:=d.gn+1,dE:=1-d.dE,sf:=f+((gr d l f).length:Int),mv:=false,gH:=true},tx.drop (f-d.b).toNat,gr d l f,true⟩:=by
   unfold kt;rw[aa C,aa (by rw[A];omega),aa (λg=>by have:=g.1;rw[E] at this;cases this),aa (by rw[E];decide),N,m2,h.gn,h.dE];rfl
  rw[B];obtain⟨k1,k2,R,S,I,K,_,_,_,_,_,a,k,z,u,p⟩:=oM dr hat (ja dr) ((ja dr).length:Int);rw[h.dE] at k1 k2 R S I K;refine⟨rfl,rfl,⟨ha,two h.jL.dE ?_ ?_,two h.jL.dE ?_ ?_,rfl,rfl,rfl,M.trans hF.symm,rfl,rfl,λ_=>rfl,λy hy=>(by cases hy),?_,λi hi=>?_⟩⟩
  ·show ek (jj d (1-d.dE)) d.dE=uL (gC dr (ja dr) ((ja dr).length:Int)) d.dE;rw[q2,R];exact h.AI _ h.jL.dE
  ·show ek (jj d (1-d.dE)) (1-d.dE)=uL (gC dr (ja dr) ((ja dr).length:Int)) (1-d.dE);rw[q2,k1,I];exact D
  ·show fS (jj d (1-d.dE)) d.dE=C2 (gC dr (ja dr) ((ja dr).length:Int)) d.dE;rw[Q,S];exact h.KN _ h.jL.dE
  ·show fS (jj d (1-d.dE)) (1-d.dE)=C2 (gC dr (ja dr) ((ja dr).length:Int)) (1-d.dE);rw[Z,k2,I,D]
  ·show(tx.drop (f-d.b).toNat).length=(gr d l f).length+1;rw[aJ,h.EP,L];omega
  ·have hi:i<=(gr d l f).length:=hi;rw[L] at hi;show(tx.drop (f-d.b).toNat)[i]? =some (lG (fT d l f) ((gr d l f).take i));rw[bu,h.Mb _ qW];unfold fT gr;rw[<-mc,dU]
theorem C3(a1:BS)(a2:Int)(b1:BS)(b2:Int)(he:(kR a1 a2 b1 b2).e=0):∃i L,(i=0\/i=1)/\(kR a1 a2 b1 b2).d=lI a1 a2 b1 b2 i L/\(kT a1 a2 b1 b2).d=kj a1 b1 i L/\(kR a1 a2 b1 b2).l=L.e8/\(kT a1 a2 b1 b2).tx=(gG L.text L.e8).1:=by
 unfold kR kT at*
 by_cases hc:gS a1 a2 b1 b2≠0
 ·rw[ae hc] at he;exact absurd he hc
 rw[aa hc] at he⊢;rw[aa hc];unfold oH tn at*
 by_cases gA:hG (fW (fk a1).1)
 ·rw[ae gA,ae gA]
  by_cases gB:hG (fW (fk b1).1)/\(fW (fk a1).1).1.gen<(fW (fk b1).1).1.gen
  ·rw[ae gB,ae gB];exact⟨1,_,.inr rfl,rfl,rfl,rfl,rfl⟩
  ·rw[aa gB,aa gB];exact⟨0,_,.inl rfl,rfl,rfl,rfl,rfl⟩
 ·rw[aa gA] at he⊢;rw[aa gA]
  by_cases gB:hG (fW (fk b1).1)
  ·rw[ae gB,ae gB];exact⟨1,_,.inr rfl,rfl,rfl,rfl,rfl⟩
  ·rw[aa gB] at he;exact absurd (show(12:Int)=0 from he) qD
theorem Pe{d:SC}{l:List eP}{m:Option Mv}(h:qU d l m)(n k1:Int):∃d' l' c f,kR (d.x1.take (jS d.x1 d.x2 n).toNat) (jS d.x1 d.x2 n) (d.x3.take (jS d.x3 d.x4 k1).toNat) (jS d.x3 d.x4 k1)=⟨d',l',0⟩/\kT (d.x1.take (jS d.x1 d.x2 n).toNat) (jS d.x1 d.x2 n) (d.x3.take (jS d.x3 d.x4 k1).toNat) (jS d.x3 d.x4 k1)=⟨c,f,l',0⟩/\MP d' l' none c f/\d'.gn<=d.gn+1:=by
 obtain⟨d',l',t,ho⟩:=LJ h n k1;obtain⟨a1,o⟩:∃a,d.x1.take (jS d.x1 d.x2 n).toNat=a:=⟨_,rfl⟩;obtain⟨a2,p⟩:∃a,jS d.x1 d.x2 n=a:=⟨_,rfl⟩;obtain⟨b1,hb1⟩:∃a,d.x3.take (jS d.x3 d.x4 k1).toNat=a:=⟨_,rfl⟩;obtain⟨b2,hb2⟩:∃a,jS d.x3 d.x4 k1=a:=⟨_,rfl⟩;rw[o,p,hb1,hb2] at t;rw[o,p,hb1,hb2];obtain⟨s1,s2⟩:=C1 a1 a2 b1 b2;have he:(kR a1 a2 b1 b2).e=0:=by rw[t]
 obtain⟨q,g⟩:=s2 he;obtain⟨i,L,hi,k,z2,z3,z4⟩:=C3 a1 a2 b1 b2 he;rw[he] at s1;rw[t] at q g k z3;obtain⟨c,f,u,v,z⟩:∃dr tx l e,kT a1 a2 b1 b2=⟨dr,tx,l,e⟩:=⟨_,_,_,_,rfl⟩;rw[z] at s1 q g z2 z4;have s1:(0:Int)=v:=s1;have q:u=l':=q;have g:O4 d' l' c f:=g;have k:d'=lI a1 a2 b1 b2 i L:=k;have z2:c=kj a1 b1 i L:=z2;have z3:l'=L.e8:=z3;have z4:f=(gG L.text L.e8).1:=z4;have y1:d'.dE=i:=by rw[k];rfl
 have y2:d'.gn=L.gen:=by rw[k];rfl
 have A:d'.fs=L.first:=by rw[k];rfl
 have B:d'.tx=L.text:=by rw[k];rfl
 have C:d'.gH=false:=by rw[k];rfl
 have w:c.dE=i/\c.gn=L.gen/\c.fs=L.first/\c.gH=false/\c.mv=false:=by
  rw[z2];unfold kj
  rcases hi with rfl|rfl
  ·rw[ae rfl];exact⟨rfl,rfl,rfl,rfl,rfl⟩
  ·rw[aa qD];exact⟨rfl,rfl,rfl,rfl,rfl⟩
 obtain⟨w1,w2,D,E,F⟩:=w;have r:f=(gG d'.tx l').1:=by rw[z4,B,z3]
 have y:=ho.jL.hd.tx;have s:=ho.jL.ch;refine⟨d',l',c,f,t,by rw[z,q,<-s1],⟨ho.jL,?_,?_,by rw[w1,y1],by rw[w2,y2],g.b.symm,λ_ _=>by rw[D,A],g.sf.symm,by rw[E,C],λ_=>F,λx hx=>(by cases hx),?_,λa ha=>?_⟩,ho.gn⟩
 ·rintro j (rfl|rfl)
  ·exact g.x1
  ·exact g.x3
 ·rintro j (rfl|rfl)
  ·exact g.x2
  ·exact g.x4
 ·have h0:=(sA l' _ _ _ s).1;have hl:=ho.jL.len;have e:gG d'.tx l'=(d'.tx::(mj d'.tx l').1,0):=by
   unfold gG;rw[aa qW,aa (λh=>h h0)]
  rw[r,e,au,uv l' d'.tx h0]
 ·rw[r];exact Bf s y a ha
end Go.Proofs.YtobngncjflogcaaGreat.AM
