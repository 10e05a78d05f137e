/-
  Part 17 of what the law ShopPlays reaches: the plain machine, contracts of the functions and plain laws; each lemma says its own condition.
-/
import Derived.Test.YtobngncjflogcaaGreatShopPlays16
import Derived.Test.YtobngncjflogcaaGreatShopPlays7
import Derived.Test.YtobngncjflogcaaGreatShopPlays6
set_option linter.unusedVariables false
set_option linter.unusedSimpArgs false
namespace Go.Proofs.YtobngncjflogcaaGreat.AM
open Go Go.RowKit
set_option maxRecDepth 100000
set_option maxHeartbeats 2000000
def gU(d:SC)(l:List eP)(f:Int):Nat->Int:=gg d.fs d.b (l.take (f-d.b).toNat)
def fT(d:SC)(l:List eP)(f:Int):BS:=lG d.tx (l.take (f-d.b).toNat)
def gr(d:SC)(l:List eP)(f:Int):List eP:=l.drop (f-d.b).toNat
def Main(AI:BS)(KN sf g b:Int)(tx:BS)(fs:Nat->Int)(l:List eP):Prop:=
 ∃r1 r2 a,l=r1++r2/\AI=fe (gi g b tx fs r1 (some r2))/\a<=r2.length/\KN=((fe (gi g b tx fs r1 (some (r2.take a)))).length:Int)/\sf<=b+(r1.length:Int)+a
def XS(AI:BS)(gn:Int):Prop:=∃g b tx t r1 o,oz g b tx t/\fN b t 0 tx (r1++o.getD [])/\AI=fe (gi g b tx t r1 o)/\g<gn
def Wv(d:SC)(l:List eP)(m:Mv):Prop:=
 (m.c= -1/\m.w=false/\ek d (1-d.dE)=[])\/
 (0<=m.c/\m.w=false/\m.f+m.c<=d.b+(l.length:Int)/\ek d (1-d.dE)=fe (gi (d.gn+1) m.f (fT d l m.f) (gU d l m.f) ((gr d l m.f).take m.c.toNat) none))\/
 (0<=m.c/\m.w=true/\m.c<=64/\∃r1 r2 a,gr d l m.f=r1++r2/\ek d (1-d.dE)=fe (gi (d.gn+1) m.f (fT d l m.f) (gU d l m.f) r1 (some r2))/\a<=r2.length/\
  (a=0\/fS d (1-d.dE)=((fe (gi (d.gn+1) m.f (fT d l m.f) (gU d l m.f) r1 (some (r2.take a)))).length:Int))/\d.sf<=m.f+(r1.length:Int)+a)
def Zz(d:SC)(l:List eP):Option Mv->Prop
 |none=>(d.gH=true/\XS (ek d (1-d.dE)) d.gn)\/(d.gH=false/\ek d (1-d.dE)=[])
 |some m=>d.gH=false/\(d.b<=m.f/\m.f<=d.b+(l.length:Int))/\d.gn<2147483647/\Wv d l m
structure qU(d:SC)(l:List eP)(m:Option Mv):Prop where
 dE:d.dE=0\/d.dE=1
 dk:mw d
 hd:oz d.gn d.b d.tx d.fs
 ch:fN d.b d.fs 0 d.tx l
 tb:rL d.tb (gg d.fs d.b l)
 now:d.now=lG d.tx l
 sf:d.sf<=d.b+(l.length:Int)
 mn:Main (ek d d.dE) (fS d d.dE) d.sf d.gn d.b d.tx d.fs l
 ot:Zz d l m
theorem qU.tV{d:SC}{l:List eP}{m:Option Mv}(h:qU d l m):1-d.dE=0\/1-d.dE=1:=by rcases h.dE with h|h<;>omega
theorem qU.len{d:SC}{l:List eP}{m:Option Mv}(h:qU d l m):l.length<=64/\d.b+(l.length:Int)<=2147483647/\0<=d.b:=by
 have hb:=h.hd.b;unfold mO at hb
 rcases qE l _ _ _ h.ch with rfl|g
 ·simp only[aT];omega
 ·omega
theorem qU.CM{d:SC}{l:List eP}{m:Option Mv}(h:qU d l m):KB d l:=by
 obtain⟨h1,h2,h3,h4⟩:=qG h.ch;have hb:=h.hd.b;have hg:=h.hd.g;unfold mO at hb hg;exact⟨h.dE,hb,qW,h4,h1,h2,h3⟩
theorem kP{g b:Int}{tx:BS}{t:Nat->Int}(a:tx.length<=500){r1:List eP}{o:Option (List eP)}(hc:∀r∈r1++o.getD [],iL r=0)(hl:(r1++o.getD []).length<=64):(fe (gi g b tx t r1 o)).length<=264462:=by
 have h1:=EA _ (uI (g:=g) (b:=b) (t:=t) a hc);rw[pO] at h1;rw[ag] at hl;cases o with
 |none=>simp only at h1;omega
 |some r2=>simp only[Option.getD_some] at h1 hl;omega
theorem qU.Uc{d:SC}{l:List eP}{m:Option Mv}(h:qU d l m):(ek d d.dE).length<=264462:=by
 obtain⟨r1,r2,a,h1,h2,_⟩:=h.mn;rw[h2];refine kP h.hd.tx (o:=some r2) ?_ ?_
 ·show∀r∈r1++r2,_;rw[<-h1];exact jb _ _ _ _ h.ch
 ·show(r1++r2).length<=64;rw[<-h1];exact h.len.1
theorem kb{d:SC}{l:List eP}{m:Option Mv}(h:qU d l m){f:Int}(hf:d.b<=f/\f<=d.b+(l.length:Int)):fN f (gU d l f) 0 (fT d l f) (gr d l f)/\(fT d l f).length<=500/\(∀j,j<16->mO (gU d l f j))/\(gr d l f).length=(d.b+(l.length:Int)-f).toNat:=by
 obtain⟨a,ha⟩:∃a:Nat,(f-d.b).toNat=a:=⟨_,rfl⟩;have c:f=d.b+(a:Int):=by omega
 have i:a<=l.length:=by omega
 have hc:=h.ch;rw[<-aZ a l] at hc;obtain⟨c1,e⟩:=(mW (l.take a) (l.drop a) d.fs 0 d.tx).1 hc;have g:d.b+((0:Nat):Int)=d.b:=by omega
 have e1:0+(l.take a).length=a+0:=by rw[aI];omega
 rw[g,e1] at e;have c3:=tU a _ _ _ _ e;have t1:=Ez h.len.2.2 (l.take a) d.fs 0 d.tx c1 h.hd.t;rw[g] at t1;unfold gU fT gr;rw[ha];refine⟨by rw[c];exact c3,tf _ _ _ _ c1 h.hd.tx,t1,by rw[aJ];omega⟩
theorem yA{d:SC}{l:List eP}{m:Option Mv}(h:qU d l m){f:Int}(hf:d.b<=f/\f<=d.b+(l.length:Int))(hg:d.gn<2147483647):oz (d.gn+1) f (fT d l f) (gU d l f):=by
 obtain⟨_,h2,h3,_⟩:=kb h hf;have:=h.len;have a:=h.hd.g;unfold mO at a;exact⟨⟨qW,qW⟩,⟨qW,qW⟩,h2,h3⟩
theorem sD{d:SC}{l:List eP}{m:Option Mv}(h:qU d l m){f:Int}(hf:d.b<=f/\f<=d.b+(l.length:Int)):iy d l f=(fT d l f,0):=by
 obtain⟨a,ha⟩:∃a:Nat,f-d.b=a:=⟨(f-d.b).toNat,qW⟩;have ht:fZ d.b l.length f=0:=by
  unfold fZ;rw[aa qW,aa qW]
 unfold iy fT;rw[aa (λx=>x ht),ha,yw h.ch h.hd.tx a qW,aA]
theorem AJ{d:SC}{l:List eP}{f:Int}(hf:fZ d.b l.length f≠0):iy d l f=([],fZ d.b l.length f):=by
 unfold iy;rw[ae hf]
structure RY(d:SC)(l:List eP)(d':SC)(l':List eP):Prop where
 hd:d'.b+(l'.length:Int)=d.b+(l.length:Int)
 b:d.b<=d'.b
 tx:∀r,d'.b<=r->r<=d'.b+(l'.length:Int)->fT d' l' r=fT d l r
theorem RY.of{d d':SC}{l:List eP}(hb:d'.b=d.b)(ht:d'.tx=d.tx):RY d l d' l:=⟨by rw[hb],qW,λr _ _=>by unfold fT;rw[hb,ht]⟩
theorem AK(g b:Int)(tx:BS)(t:Nat->Int)(r1 r2:List eP)(r:eP):fe (gi g b tx t r1 (some r2))++jK (fE r)=fe (gi g b tx t r1 (some (r2++[r]))):=by
 have e:gi g b tx t r1 (some (r2++[r]))=gi g b tx t r1 (some r2)++[fE r]:=by
  show iA g b tx t::(r1.map fE++iQ::(r2++[r]).map fE)=iA g b tx t::(r1.map fE++iQ::r2.map fE)++[fE r];rw[dq,aK,bh,aK];rfl
 rw[e,oC];have:fe [fE r]=jK (fE r):=by simp[fe]
 rw[this]
theorem Gk(g b:Int)(tx:BS)(t:Nat->Int)(r1:List eP)(r:eP):fe (gi g b tx t r1 none)++jK (fE r)=fe (gi g b tx t (r1++[r]) none):=by
 have e:gi g b tx t (r1++[r]) none=gi g b tx t r1 none++[fE r]:=by
  show iA g b tx t::((r1++[r]).map fE++[])=iA g b tx t::(r1.map fE++[])++[fE r];rw[dq,aS,aS,aK];rfl
 rw[e,oC];have:fe [fE r]=jK (fE r):=by simp[fe]
 rw[this]
theorem AL(g b:Int)(tx:BS)(t:Nat->Int)(r1:List eP):fe (gi g b tx t r1 none)++jK iQ=fe (gi g b tx t r1 (some [])):=by
 have e:gi g b tx t r1 (some [])=gi g b tx t r1 none++[iQ]:=by
  show iA g b tx t::(r1.map fE++[iQ])=iA g b tx t::(r1.map fE++[])++[iQ];rw[aS,aK]
 rw[e,oC];have:fe [iQ]=jK iQ:=by simp[fe]
 rw[this]
theorem AN(g b:Int)(tx:BS)(t:Nat->Int):jK (iA g b tx t)=fe (gi g b tx t [] none):=by
 have:gi g b tx t [] none=[iA g b tx t]:=rfl;rw[this];simp[fe]
theorem lj{l:List eP}{r:eP}{a:Nat}(h:a<=l.length):(l++[r]).take a=l.take a:=cP h
theorem Gl{l:List eP}{r:eP}{a:Nat}(h:a<=l.length):(l++[r]).drop a=l.drop a++[r]:=cO h
theorem Ox{d d':SC}{l:List eP}{r:eP}(hb:d'.b=d.b)(ht:d'.tx=d.tx)(a:d'.fs=d.fs){f:Int}(hf:d.b<=f/\f<=d.b+(l.length:Int)):
  fT d' (l++[r]) f=fT d l f/\gU d' (l++[r]) f=gU d l f/\gr d' (l++[r]) f=gr d l f++[r]:=by
 have ha:(f-d.b).toNat<=l.length:=by omega
 unfold fT gU gr;rw[hb,ht,a,lj ha,Gl ha];exact⟨rfl,rfl,rfl⟩
theorem Oy{d d':SC}(l:List eP)(hb:d'.b=d.b)(ht:d'.tx=d.tx)(a:d'.fs=d.fs)(f:Int):fT d' l f=fT d l f/\gU d' l f=gU d l f/\gr d' l f=gr d l f:=by
 unfold fT gU gr;rw[hb,ht,a];exact⟨rfl,rfl,rfl⟩
def vM(m:Option Mv)(x t:BS):BS:=match m with
 |none=>x
 |some m=>if m.w=true then x++t else x
theorem Oz{d:SC}{l:List eP}{m:Option Mv}(h:qU d l m){r:eP}(hn:gw d.b d.tb l.length d.now.length r=0):
  (gz d l m r).e=0/\(gz d l m r).l=l++[r]/\(gz d l m r).v=d.b+(l.length:Int)+1/\(gz d l m r).d.b=d.b/\(gz d l m r).d.tx=d.tx/\(gz d l m r).d.gn=d.gn/\(gz d l m r).d.sf=d.sf/\(gz d l m r).d.fs=d.fs/\qU (gz d l m r).d (l++[r]) m:=by
 have h1:=(lz hn).1;have hr:=uH h1;have hlt:(jK (fE r)).length<=4007:=by
  have:=(oE h1).2.2;rw[iz];omega
 have J:gz d l m r=⟨vB {lS d m (jK (fE r)) with now:=(kl r.delta d.now).1} l r,l++[r],d.b+(l.length+1:Nat),0⟩:=by
  unfold gz;rw[aa (λx=>x hn),hr];exact aa (λx=>x rfl)
 have hP:∀D:SC,D=lS d m (jK (fE r))->D.b=d.b/\D.tx=d.tx/\D.gn=d.gn/\D.sf=d.sf/\D.fs=d.fs/\D.dE=d.dE/\D.tb=d.tb/\D.gH=d.gH:=by
  rintro D rfl;unfold lS
  split
  ·exact⟨rfl,rfl,rfl,rfl,rfl,rfl,rfl,rfl⟩
  ·split<;>exact⟨rfl,rfl,rfl,rfl,rfl,rfl,rfl,rfl⟩
 have Q:=h.Uc;obtain⟨p1,p2,z,C⟩:=k8 h.dk h.dE (t:=jK (fE r)) qW;have R:∀D:SC,D=lS d m (jK (fE r))->mw D/\ek D d.dE=ek d d.dE++jK (fE r)/\(∀j,fS D j=fS d j)/\ek D (1-d.dE)=vM m (ek d (1-d.dE)) (jK (fE r)):=by
  rintro D rfl;obtain _|⟨f,c,w⟩:=m
  ·exact⟨p1,p2,C,z⟩
  ·cases w with
   |false=>exact⟨p1,p2,C,z⟩
   |true=>
    have E:lS d (some ⟨f,c,true⟩) (jK (fE r))=jd (jd d d.dE (jK (fE r))) (1-d.dE) (jK (fE r)):=rfl;rw[E];have Di:(ek (jd d d.dE (jK (fE r))) (1-d.dE)).length+(jK (fE r)).length<=1048576:=by
     rw[z];obtain⟨_,hf,hg,ho⟩:=h.ot
     rcases ho with⟨_,hw,_⟩|⟨_,hw,_⟩|⟨_,_,_,r1,r2,K,e1,F,_⟩
     ·cases hw
     ·cases hw
     ·have F:ek d (1-d.dE)=fe (gi (d.gn+1) f (fT d l f) (gU d l f) r1 (some r2)):=F;have e1:gr d l f=r1++r2:=e1;have hf:d.b<=f/\f<=d.b+(l.length:Int):=hf;rw[F];obtain⟨s1,s2,s3,S⟩:=kb h hf;have hh:=h.len;have:=kP (g:=d.gn+1) (b:=f) (t:=gU d l f) s2 (r1:=r1) (o:=some r2) (by rw[e1] at s1;exact jb _ _ _ _ s1) (by show(r1++r2).length<=64;rw[<-e1,S];omega);omega
    obtain⟨q1,q2,L,T⟩:=k8 p1 h.tV (t:=jK (fE r)) Di;have e1:(1:Int)-(1-d.dE)=d.dE:=by omega
    rw[e1] at L;exact⟨q1,by rw[L,p2],λj=>by rw[T,C],by rw[q2,z];rfl⟩
 obtain⟨a1,a2,a3,a4,a5,M,N,O⟩:=hP _ rfl;obtain⟨b1,b2,b3,s⟩:=R _ rfl;obtain⟨D,G⟩:∃D,lS d m (jK (fE r))=D:=⟨_,rfl⟩;rw[G] at J a1 a2 a3 a4 a5 M N O b1 b2 b3 s;obtain⟨i,a⟩:∃i,vB {D with now:=(kl r.delta d.now).1} l r=i:=⟨_,rfl⟩
 have k1:i.b=d.b:=by rw[<-a];exact a1
 have k2:i.tx=d.tx:=by rw[<-a];exact a2
 have k:i.gn=d.gn:=by rw[<-a];exact a3
 have A:i.sf=d.sf:=by rw[<-a];exact a4
 have q:i.fs=d.fs:=by rw[<-a];exact a5
 have n:i.dE=d.dE:=by rw[<-a];exact M
 have U:i.tb=gJ d.tb r.who.toNat r.seq (d.b+(l.length:Int)+1):=by rw[<-a,<-N,<-a1];rfl
 have P:i.gH=d.gH:=by rw[<-a];exact O
 have V:i.now=(kl r.delta d.now).1:=by rw[<-a];rfl
 have c1:mw i:=by rw[<-a];exact b1
 have u:∀j,ek i j=ek D j:=λj=>by rw[<-a];rfl
 have c3:∀j,fS i j=fS D j:=λj=>by rw[<-a];rfl
 rw[J,a];refine⟨rfl,rfl,by show d.b+((l.length+1:Nat):Int)=_;omega,k1,k2,k,A,q,?_⟩;show qU i (l++[r]) m;have hx:gw d.b (gg d.fs d.b l) l.length (lG d.tx l).length r=0:=by rw[<-vH h.tb,<-h.now];exact hn
 have y:fN d.b d.fs 0 d.tx (l++[r]):=by
  rw[mW];refine⟨h.ch,?_,trivial⟩;have W:d.b+((0:Nat):Int)=d.b:=by omega
  rw[W,bf];exact hx
 obtain⟨r1,r2,K,m1,m2,X,Y,Z⟩:=h.mn;refine⟨by rw[n];exact h.dE,c1,by rw[k,k1,k2,q];exact h.hd,by rw[k1,q,k2];exact y,?_,?_,?_,⟨r1,r2++[r],K,?_,?_,?_,?_,?_⟩,?_⟩
 ·rw[U,q,k1,pN];exact h.tb.add _ _ _
 ·rw[V,k2,mc,h.now];rfl
 ·rw[A,k1,ag];have:=h.sf;omega
 ·rw[m1,bh]
 ·rw[n,u,b2,m2,k,k1,k2,q,AK]
 ·rw[ag];omega
 ·rw[n,c3,b3,Y,k,k1,k2,q,lj X]
 ·rw[A,k1];exact Z
 ·have ho:=h.ot;obtain _|⟨f,c,w⟩:=m
  ·show(_/\_)\/(_/\_);rw[P,n,u,s,k];exact ho
  ·obtain⟨o1,B,o3,o4⟩:=ho;obtain⟨t1,t2,t3⟩:=Ox (r:=r) k1 k2 q B;have H:d.b<=f:=B.1;have OA:f<=d.b+(l.length:Int):=B.2;refine⟨by rw[P];exact o1,by rw[k1,ag];exact⟨H,by show f<=_;omega⟩,by rw[k];exact o3,?_⟩
   rcases o4 with⟨w1,w2,p⟩|⟨w1,w2,p,I⟩|⟨w1,w2,w0,s1,s2,ks,p,I,w5,w6,w7⟩
   ·have w2:w=false:=w2;subst w2;exact .inl ⟨w1,rfl,by rw[n,u,s];exact p⟩
   ·have w2:w=false:=w2;subst w2;refine .inr (.inl ⟨w1,rfl,by rw[k1,ag];have p:f+c<=d.b+(l.length:Int):=p;show f+c<=_;omega,?_⟩);rw[n,u,s,k,t1,t2,t3];have hs:=(kb h B).2.2.2;have w1:0<=c:=w1;have p:f+c<=d.b+(l.length:Int):=p;rw[lj (by show c.toNat<=_;rw[hs];show c.toNat<=(d.b+(l.length:Int)-f).toNat;omega)];exact I
   ·have w2:w=true:=w2;subst w2;refine .inr (.inr ⟨w1,rfl,w0,s1,s2++[r],ks,?_,?_,?_,?_,?_⟩)
    ·rw[t3,p,bh]
    ·rw[n,u,s,k,t1,t2,<-AK,<-I];rfl
    ·rw[ag];omega
    ·rw[n,c3,b3,k,t1,t2,lj w5];exact w6
    ·rw[A];exact w7
theorem KO{d:SC}{l:List eP}{m:Option Mv}{r:eP}(hn:gw d.b d.tb l.length d.now.length r≠0):gz d l m r=⟨d,l,0,gw d.b d.tb l.length d.now.length r⟩:=by
 unfold gz;rw[ae hn]
theorem AP{d:SC}{l:List eP}{m:Option Mv}(h:qU d l m):qU (jR d l.length m) l m/\(jR d l.length m).sf=d.b+(l.length:Int)/\(jR d l.length m).b=d.b/\(jR d l.length m).tx=d.tx/\(jR d l.length m).gn=d.gn/\(jR d l.length m).fs=d.fs:=by
 have I:mw (nC d m)/\(∀j,ek (nC d m) j=ek d j)/\fS (nC d m) d.dE=fS d d.dE/\(fS (nC d m) (1-d.dE)=(match m with|some ⟨_,_,true⟩=>((ek d (1-d.dE)).length:Int)|_=>fS d (1-d.dE)))/\(nC d m).dE=d.dE/\(nC d m).b=d.b/\(nC d m).tx=d.tx/\(nC d m).gn=d.gn/\(nC d m).fs=d.fs/\(nC d m).tb=d.tb/\(nC d m).now=d.now/\(nC d m).gH=d.gH:=by
  obtain _|⟨f,c,w⟩:=m
  ·exact⟨h.dk,λ_=>rfl,rfl,rfl,rfl,rfl,rfl,rfl,rfl,rfl,rfl,rfl⟩
  ·cases w with
   |false=>exact⟨h.dk,λ_=>rfl,rfl,rfl,rfl,rfl,rfl,rfl,rfl,rfl,rfl,rfl⟩
   |true=>
    have e:nC d (some ⟨f,c,true⟩)=jj d (1-d.dE):=rfl;rw[e];obtain⟨q1,q2,x,u⟩:=lB h.dk h.tV;have e1:(1:Int)-(1-d.dE)=d.dE:=by omega
    rw[e1] at u;exact⟨q1,q2,u,x,rfl,rfl,rfl,rfl,rfl,rfl,rfl,rfl⟩
 obtain⟨w1,w2,J,y,o,z,A,B,C,p,q,r⟩:=I;obtain⟨D,F⟩:∃D,nC d m=D:=⟨_,rfl⟩;rw[F] at w1 w2 J y o z A B C p q r;obtain⟨q1,q2,x,u⟩:=lB w1 (i:=D.dE) (by rw[o];exact h.dE);obtain⟨E,G⟩:∃E,jR d l.length m=E:=⟨_,rfl⟩;have a:E= {jj D D.dE with sf:=d.b+(l.length:Int)}:=by rw[<-G,<-F];rfl
 have k1:E.b=d.b:=by rw[a];exact z
 have k2:E.tx=d.tx:=by rw[a];exact A
 have g:E.gn=d.gn:=by rw[a];exact B
 have v:E.sf=d.b+(l.length:Int):=by rw[a]
 have n:E.fs=d.fs:=by rw[a];exact C
 have k:E.dE=d.dE:=by rw[a];exact o
 have K:E.tb=d.tb:=by rw[a];exact p
 have H:E.gH=d.gH:=by rw[a];exact r
 have L:E.now=d.now:=by rw[a];exact q
 have c1:mw E:=by rw[a];exact q1
 have s:∀j,ek E j=ek d j:=λj=>by rw[a,<-w2 j];exact q2 j
 have c3:fS E d.dE=((ek d d.dE).length:Int):=by rw[a,<-o,<-w2 D.dE];exact x
 have c4:fS E (1-d.dE)=fS D (1-d.dE):=by rw[a,<-o];exact u
 rw[G];refine⟨?_,v,k1,k2,g,n⟩;obtain⟨r1,r2,Q,m1,m2,R,S,T⟩:=h.mn;refine⟨by rw[k];exact h.dE,c1,by rw[g,k1,k2,n];exact h.hd,by rw[k1,n,k2];exact h.ch,by rw[K,n,k1];exact h.tb,by rw[L,k2];exact h.now,by rw[v,k1];exact aN _,⟨r1,r2,r2.length,m1,?_,ah _,?_,?_⟩,?_⟩
 ·rw[k,s,g,k1,k2,n];exact m2
 ·rw[k,c3,m2,g,k1,k2,n,aM]
 ·rw[v,k1,m1,ag];omega
 ·have ho:=h.ot;obtain _|⟨f,c,w⟩:=m
  ·show(_/\_)\/(_/\_);rw[H,k,s,g];exact ho
  ·obtain⟨M,t,N,O⟩:=ho;obtain⟨t1,t2,t3⟩:=Oy l k1 k2 n f;refine⟨by rw[H];exact M,by rw[k1];exact t,by rw[g];exact N,?_⟩
   rcases O with⟨v1,v2,v3⟩|⟨v1,v2,v3,v4⟩|⟨v1,v2,v0,s1,s2,ks,v3,v4,v5,v6,U⟩
   ·exact .inl ⟨v1,v2,by rw[k,s];exact v3⟩
   ·refine .inr (.inl ⟨v1,v2,by rw[k1];exact v3,?_⟩);rw[k,s,g,t1,t2,t3];exact v4
   ·have v2:w=true:=v2;subst v2;have t:d.b<=f/\f<=d.b+(l.length:Int):=t;have v3:gr d l f=s1++s2:=v3;have hs:=(kb h t).2.2.2;refine .inr (.inr ⟨v1,rfl,v0,s1,s2,s2.length,by rw[t3];exact v3,by rw[k,s,g,t1,t2];exact v4,ah _,.inr ?_,?_⟩)
    ·rw[k,c4,y,g,t1,t2,aM];show((ek d (1-d.dE)).length:Int)=_;rw[v4]
    ·rw[v];have:(gr d l f).length=s1.length+s2.length:=by rw[v3,ag]
     rw[hs] at this;have P:f<=d.b+(l.length:Int):=t.2;show d.b+(l.length:Int)<=f+(s1.length:Int)+(s2.length:Int);omega
theorem KP{d:SC}{l:List eP}{m:Option Mv}(h:qU d l m)(hg:d.gn<2147483647)(j:Int):qU d l (kh d l.length m j).1:=by
 unfold kh
 split
 ·exact h
 ·rename_i h1
  split
  ·exact h
  ·rename_i h2;obtain _|⟨f,c,w⟩:=m
   ·have ho:d.gH=false:=by
     cases he:d.gH
     ·rfl
     ·exact absurd (.inr he) h1
    refine⟨h.dE,h.dk,h.hd,h.ch,h.tb,h.now,h.sf,h.mn,ho,?_,hg,.inl ⟨rfl,rfl,?_⟩⟩
    ·have ht:fZ d.b l.length j=0:=az h2;unfold fZ at ht
     split at ht
     ·exact absurd ht qD
     ·split at ht
      ·exact absurd ht qD
      ·show d.b<=j/\j<=d.b+(l.length:Int);omega
    ·rcases h.ot with⟨h3,_⟩|⟨_,h3⟩
     ·rw[ho] at h3;cases h3
     ·exact h3
   ·exact absurd (.inl rfl) h1
theorem vN{d:SC}{l:List eP}{f c:Int}(h:qU d l (some ⟨f,c,true⟩)):
  ∃F,rL F (gU d l f)/\fW (fk (ek d (1-d.dE))).1=(⟨d.gn+1,f,fT d l f,F,gg F f (gr d l f),gr d l f,true,((ek d (1-d.dE)).length:Int)⟩,0):=by
 obtain⟨_,hf,hg,ho⟩:=h.ot;have hf:d.b<=f/\f<=d.b+(l.length:Int):=hf
 rcases ho with⟨_,hw,_⟩|⟨_,hw,_⟩|⟨_,_,_,r1,r2,g,e1,a,_⟩
 ·cases hw
 ·cases hw
 ·have e1:gr d l f=r1++r2:=e1;have a:ek d (1-d.dE)=fe (gi (d.gn+1) f (fT d l f) (gU d l f) r1 (some r2)):=a;obtain⟨s1,s2,i,j⟩:=kb h hf;have e:=yA h hf hg;have hc:fN f (gU d l f) 0 (fT d l f) (r1++(some r2).getD []):=by show fN _ _ _ _ (r1++r2);rw[<-e1];exact s1
  obtain⟨F,hF,hr⟩:=nB e hc;refine⟨F,hF,?_⟩;rw[a,Kp _ (uI s2 (jb _ _ _ _ hc)),hr];show(hI.mk _ _ _ _ (gg F f (r1++r2)) (r1++r2) true _,(0:Int))=_;rw[e1]
theorem CN{d:SC}{l:List eP}{m:Option Mv}(h:qU d l m):CL d l m:=by
 refine⟨h.CM,λf c w hm=>?_⟩;subst hm;obtain⟨_,hf,hg,ho⟩:=h.ot;have hf:d.b<=f/\f<=d.b+(l.length:Int):=hf;have hl:=h.len;refine⟨hf,?_,λhc hw=>?_⟩
 ·rcases ho with⟨h1,_⟩|⟨_,_,h1,_⟩|⟨_,_,h1,_⟩
  ·have h1:c= -1:=h1;omega
  ·have h1:f+c<=d.b+(l.length:Int):=h1;omega
  ·have h1:c<=64:=h1;omega
 ·subst hw;have e:=(lB h.dk h.tV).2.1 (1-d.dE);obtain⟨F,_,hr⟩:=vN h;rw[e,hr];obtain⟨_,_,_,a⟩:=kb h hf;refine⟨(h.dk.slot (1-d.dE)).1,rfl,⟨by show 0<=f;omega,by show f<=_;omega⟩,by show(gr d l f).length<=64;rw[a];omega⟩
theorem EB{d:SC}{l:List eP}{f c:Int}(hf:d.b<=f)(hc:0<=c)(hlt:f+c<d.b+(l.length:Int)):∃r,l[(f+c-d.b).toNat]? =some r/\l.getD (f+c-d.b).toNat Gf=r/\(gr d l f).take (c+1).toNat=(gr d l f).take c.toNat++[r]:=by
 have hi:(f+c-d.b).toNat<l.length:=by omega
 refine⟨l[(f+c-d.b).toNat],af hi,by rw[ar,af hi];rfl,?_⟩;have e:(c+1).toNat=c.toNat+1:=by omega
 unfold gr;rw[e,eK,bu];have a:(f-d.b).toNat+c.toNat=(f+c-d.b).toNat:=by omega
 rw[a,af hi];rfl
theorem vO{d:SC}{l:List eP}{f c:Int}{w:Bool}(hc:c<0):jl d l (some ⟨f,c,w⟩)=sB d l f w (hM (d.gn+1) f (iy d l f).1 (gU d l f)).1:=by
 show(if c<0 then _ else _)=_;rw[ae hc];rfl
structure KQ(d:SC)(l:List eP)(m:Option Mv)(y:RR):Prop where
 jL:qU y.d y.l y.m
 same:RY d l y.d y.l
 gn:y.d.gn<=d.gn+1
 sf:d.sf<=y.d.sf
theorem oI{d d':SC}{l:List eP}{m m':Option Mv}{v:Bool}(h:qU d' l m')(hb:d'.b=d.b)(ht:d'.tx=d.tx)(hg:d'.gn=d.gn)(hs:d'.sf=d.sf):KQ d l m ⟨d',l,m',v⟩:=⟨h,.of hb ht,by show d'.gn<=_;omega,by show _<=d'.sf;omega⟩
theorem AQ{d:SC}{l:List eP}{m:Option Mv}(h:qU d l m):KQ d l m (jl d l m):=by
 obtain⟨r1,r2,p,m1,m2,q,s,u⟩:=h.mn;have e1:(1:Int)-(1-d.dE)=d.dE:=by omega
 obtain _|⟨f,c,w⟩:=m
 ·
  show KQ d l none (tT d l);unfold tT
  split
  ·rename_i ho;obtain⟨q1,q2,a,x,i⟩:=oY (n:=0) h.dk h.tV (aP _);rw[e1] at a i;have q2:ek (iF d (1-d.dE) 0) (1-d.dE)=[]:=q2;refine oI ⟨h.dE,q1,h.hd,h.ch,h.tb,h.now,h.sf,⟨r1,r2,p,m1,?_,q,?_,u⟩,.inr ⟨rfl,q2⟩⟩ rfl rfl rfl rfl
   ·show ek (iF d (1-d.dE) 0) d.dE=_;have a:ek (iF d (1-d.dE) 0) d.dE=ek d d.dE:=a;rw[a];exact m2
   ·show fS (iF d (1-d.dE) 0) d.dE=_;have i:fS (iF d (1-d.dE) 0) d.dE=fS d d.dE:=i;rw[i];exact s
  ·exact oI h rfl rfl rfl rfl
 obtain⟨y,hf,hg,ho⟩:=h.ot;have hf:d.b<=f/\f<=d.b+(l.length:Int):=hf;obtain⟨s1,s2,I,v⟩:=kb h hf;have A:=yA h hf hg;have hlen:=h.len
 rcases ho with⟨v1,v2,v3⟩|⟨v1,v2,v3,v4⟩|⟨v1,v2,v0,t1,t2,ks,v3,v4,v5,v6,J⟩
 ·
  have v1:c= -1:=v1;have v2:w=false:=v2;subst v1 v2;have e:jl d l (some ⟨f,-1,false⟩)=sB d l f false (hM (d.gn+1) f (iy d l f).1 (gU d l f)).1:=vO qD;rw[e,sD h hf,oG A];unfold sB;obtain⟨q1,q2,a,x,i⟩:=oY (n:=0) h.dk h.tV (aP _);rw[e1] at a i;have q2:ek (iF d (1-d.dE) 0) (1-d.dE)=[]:=q2;have a:ek (iF d (1-d.dE) 0) d.dE=ek d d.dE:=a;have i:fS (iF d (1-d.dE) 0) d.dE=fS d d.dE:=i;have q1:mw (iF d (1-d.dE) 0):=q1;have C:=(oF (g:=d.gn+1) (b:=f) (t:=gU d l f) s2).2.2;obtain⟨p1,p2,j,k⟩:=k8 q1 h.tV (t:=jK (iA (d.gn+1) f (fT d l f) (gU d l f))) (by rw[q2,iz];show 0+_<=_;omega);rw[e1] at j;refine oI ⟨h.dE,p1,h.hd,h.ch,h.tb,h.now,h.sf,⟨r1,r2,p,m1,?_,q,?_,u⟩,y,hf,hg,.inr (.inl ⟨by show(0:Int)<=0;decide,rfl,by show f+0<=d.b+(l.length:Int);omega,?_⟩)⟩ rfl rfl rfl rfl
  ·show ek (jd (iF d (1-d.dE) 0) (1-d.dE) _) d.dE=_;rw[j,a];exact m2
  ·show fS (jd (iF d (1-d.dE) 0) (1-d.dE) _) d.dE=_;rw[k,i];exact s
  ·show ek (jd (iF d (1-d.dE) 0) (1-d.dE) _) (1-d.dE)=fe (gi (d.gn+1) f (fT d l f) (gU d l f) ((gr d l f).take (0:Int).toNat) none);rw[p2,q2,cE,AN];rfl
 ·have v1:0<=c:=v1;have v2:w=false:=v2;have v3:f+c<=d.b+(l.length:Int):=v3;have v4:ek d (1-d.dE)=fe (gi (d.gn+1) f (fT d l f) (gU d l f) ((gr d l f).take c.toNat) none):=v4;subst v2;have Di:(ek d (1-d.dE)).length<=264462:=by
   rw[v4];refine kP s2 (o:=none) (λr hr=>?_) ?_
   ·rw[cN,aS] at hr;exact jb _ _ _ _ s1 r (cG hr)
   ·rw[cN,aS,aI,v];omega
  have e:jl d l (some ⟨f,c,false⟩)=pT d l f c (λr=>(gQ r).1) (gq 3 []).1:=by
   show(if c<0 then _ else _)=_;rw[aa qW,ae rfl]
  rw[e];unfold pT
  by_cases hlt:f+c<d.b+(l.length:Int)
  ·
   rw[ae hlt];obtain⟨r,g1,g2,g3⟩:=EB hf.1 v1 hlt;have hr1:=jb _ _ _ _ h.ch r (ax g1);rw[g2];have D:(λr=>(gQ r).1) r=jK (fE r):=by show(gQ r).1=_;rw[uH hr1]
   rw[D];have mU:=(oE hr1).2.2;obtain⟨p1,p2,j,k⟩:=k8 h.dk h.tV (t:=jK (fE r)) (by rw[iz];omega);rw[e1] at j;refine oI ⟨h.dE,p1,h.hd,h.ch,h.tb,h.now,h.sf,⟨r1,r2,p,m1,?_,q,?_,u⟩,y,hf,hg,.inr (.inl ⟨by show(0:Int)<=c+1;omega,rfl,by show f+(c+1)<=d.b+(l.length:Int);omega,?_⟩)⟩ rfl rfl rfl rfl
   ·show ek (jd d (1-d.dE) _) d.dE=_;rw[j];exact m2
   ·show fS (jd d (1-d.dE) _) d.dE=_;rw[k];exact s
   ·show ek (jd d (1-d.dE) _) (1-d.dE)=fe (gi (d.gn+1) f (fT d l f) (gU d l f) ((gr d l f).take (c+1).toNat) none);rw[p2,v4,g3,Gk]
  ·
   rw[aa hlt,qF];have E:(jK iQ).length=7:=by rw[iz];rfl
   obtain⟨p1,p2,j,k⟩:=k8 h.dk h.tV (t:=jK iQ) qW;rw[e1] at j;have gf:(gr d l f).take c.toNat=gr d l f:=aY (by rw[v];omega);refine oI ⟨h.dE,p1,h.hd,h.ch,h.tb,h.now,h.sf,⟨r1,r2,p,m1,?_,q,?_,u⟩,y,hf,hg,.inr (.inr ⟨v1,rfl,by show c<=64;omega,gr d l f,[],0,?_,?_,aP _,.inl rfl,?_⟩)⟩ rfl rfl rfl rfl
   ·show ek (jd d (1-d.dE) _) d.dE=_;rw[j];exact m2
   ·show fS (jd d (1-d.dE) _) d.dE=_;rw[k];exact s
   ·show gr d l f=_;rw[aS]
   ·show ek (jd d (1-d.dE) _) (1-d.dE)=fe (gi (d.gn+1) f (fT d l f) (gU d l f) (gr d l f) (some []));rw[p2,v4,gf,AL]
   ·show d.sf<=f+((gr d l f).length:Int)+((0:Nat):Int);have:=h.sf;rw[v];omega
 ·
  have v1:0<=c:=v1;have v2:w=true:=v2;subst v2;have v3:gr d l f=t1++t2:=v3;have v4:ek d (1-d.dE)=fe (gi (d.gn+1) f (fT d l f) (gU d l f) t1 (some t2)):=v4;obtain⟨q1,q2,a,x⟩:=lB h.dk h.tV;rw[e1] at x;obtain⟨F,hF,hr⟩:=vN h;have e:jl d l (some ⟨f,c,true⟩)=AF d ⟨d.gn+1,f,fT d l f,F,gg F f (gr d l f),gr d l f,true,((ek d (1-d.dE)).length:Int)⟩:=by
   show(if c<0 then _ else _)=_;rw[aa qW,aa (by simp),q2,hr]
  rw[e];have z:d.b+(l.length:Int)=f+((gr d l f).length:Int):=by rw[v];omega
  have B:(gr d l f).length=t1.length+t2.length:=by rw[v3,ag]
  refine⟨⟨h.tV,q1,A.Wu hF.symm,oD _ _ _ _ _ hF.symm s1,rL.refl _,?_,aN _,⟨t1,t2,t2.length,v3,?_,ah _,?_,?_⟩,.inl ⟨rfl,?_⟩⟩,⟨?_,hf.1,λr hr1 G=>?_⟩,aN _,?_⟩
  ·show d.now=lG (fT d l f) (gr d l f);rw[h.now];unfold fT gr;rw[<-mc,aZ]
  ·show ek (jj d (1-d.dE)) (1-d.dE)=fe (gi (d.gn+1) f (fT d l f) F t1 (some t2));rw[q2,v4,sC hF]
  ·show fS (jj d (1-d.dE)) (1-d.dE)=((fe (gi (d.gn+1) f (fT d l f) F t1 (some (t2.take t2.length)))).length:Int);rw[a,v4,sC hF,aM]
  ·show f+((gr d l f).length:Int)<=f+(t1.length:Int)+(t2.length:Int);omega
  ·show XS (ek (jj d (1-d.dE)) (1-(1-d.dE))) (d.gn+1);rw[e1,q2];exact⟨d.gn,d.b,d.tx,d.fs,r1,some r2,h.hd,by show fN _ _ _ _ (r1++r2);rw[<-m1];exact h.ch,m2,qW⟩
  ·show f+((gr d l f).length:Int)=_;exact z.symm
  ·show lG (fT d l f) ((gr d l f).take (r-f).toNat)=fT d l r;have hr1:f<=r:=hr1;unfold fT gr;rw[<-mc]
   congr 1
   have H:(r-d.b).toNat=(f-d.b).toNat+(r-f).toNat:=by omega
   rw[H,dU]
  ·show d.sf<=f+((gr d l f).length:Int);have:=h.sf;omega
theorem yB:oz 1 0 [] λ_=>0:=⟨qD,qD,qD,λ_ _=>by decide⟩
theorem EC:qU mP [] none/\mP.b=0/\mP.gn=1/\mP.gH=false/\mP.tx=[]:=by
 have hz:mw Z0:=by show gS [] 0 [] 0=0;decide
 have ht:(hM 1 0 [] λ_=>0).1++(gq 3 []).1=fe (gi 1 0 [] (λ_=>0) [] (some [])):=by
  rw[oG yB,qF];show jK (iA 1 0 [] λ_=>0)++jK iQ=_;rw[AN,AL]
 have hl:(fe (gi 1 0 [] (λ_=>0) [] (some []))).length<=264462:=kP (o:=some []) qD (λr hr=>by cases hr) qD;obtain⟨p1,p2,i,n⟩:=k8 hz (.inl rfl) (t:=fe (gi 1 0 [] (λ_=>0) [] (some []))) (by show 0+_<=_;omega);obtain⟨q1,q2,j,p⟩:=lB p1 (.inl rfl);have e:mP= {jj (jd Z0 0 (fe (gi 1 0 [] (λ_=>0) [] (some [])))) 0 with gn:=1,b:=0,tx:=[],fs:=λ_=>0,tb:=λ_=>0,wh:=true,gd:=0}:=by
  unfold mP;rw[ht];rfl
 obtain⟨D,a⟩:∃D,mP=D:=⟨_,rfl⟩;rw[e] at a;have k1:D.b=0:=by rw[<-a]
 have k2:D.tx=[]:=by rw[<-a]
 have c:D.gn=1:=by rw[<-a]
 have g:D.sf=0:=by rw[<-a];rfl
 have d:D.fs=λ_=>0:=by rw[<-a]
 have f:D.dE=0:=by rw[<-a];rfl
 have k:D.tb=λ_=>0:=by rw[<-a]
 have h:D.gH=false:=by rw[<-a];rfl
 have l:D.now=[]:=by rw[<-a];rfl
 have c1:mw D:=by rw[<-a];exact q1
 have m:ek D 0=fe (gi 1 0 [] (λ_=>0) [] (some [])):=by rw[<-a];exact(q2 0).trans p2
 have c3:fS D 0=((fe (gi 1 0 [] (λ_=>0) [] (some []))).length:Int):=by
  rw[<-a];have:fS (jj (jd Z0 0 (fe (gi 1 0 [] (λ_=>0) [] (some [])))) 0) 0=_:=j;rw[p2] at this;exact this
 have c4:ek D 1=[]:=by rw[<-a];exact(q2 1).trans i
 rw[e,a];refine⟨⟨.inl f,c1,by rw[c,k1,k2,d];exact yB,trivial,by rw[k,d];exact rL.refl _,by rw[l,k2];rfl,by rw[g,k1];decide,⟨[],[],0,rfl,?_,ah _,?_,?_⟩,.inr ⟨h,?_⟩⟩,k1,c,h,k2⟩
 ·rw[f,c,k1,k2,d];exact m
 ·rw[f,c,k1,k2,d];exact c3
 ·rw[g,k1];decide
 ·rw[f];exact c4
theorem oZ(d:SC)(l:List eP)(m:Option Mv)(r:eP):(gz d l m r).d.gH=d.gH/\(gz d l m r).d.gn=d.gn/\(gz d l m r).d.b=d.b/\(gz d l m r).d.tx=d.tx:=by
 have hp:∀t,(lS d m t).gH=d.gH/\(lS d m t).gn=d.gn/\(lS d m t).b=d.b/\(lS d m t).tx=d.tx:=by
  intro t;unfold lS
  split
  ·exact⟨rfl,rfl,rfl,rfl⟩
  ·split<;>exact⟨rfl,rfl,rfl,rfl⟩
 unfold gz
 split
 ·exact⟨rfl,rfl,rfl,rfl⟩
 ·split
  ·exact⟨rfl,rfl,rfl,rfl⟩
  ·exact hp _
structure tW(L:hI)(now:BS):Prop where
 ch:fN L.base L.first 0 L.text L.e8
 tb:L.table=gg L.first L.base L.e8
 now:now=lG L.text L.e8
theorem KR{L:hI}{now:BS}{f:Frame}{q:hI×BS}(h:nv L now f=some q)(hi:tW L now):tW q.1 q.2/\q.1.base=L.base/\q.1.gen=L.gen/\q.1.text=L.text/\q.1.first=L.first:=by
 unfold nv at h
 split at h
 ·split at h
  ·cases h
  ·cases h;exact⟨⟨hi.ch,hi.tb,hi.now⟩,rfl,rfl,rfl,rfl⟩
 ·split at h
  ·split at h
   ·rename_i hc;cases h;refine⟨⟨?_,?_,?_⟩,rfl,rfl,rfl,rfl⟩
    ·show fN L.base L.first 0 L.text (L.e8++[jH f.body])
     rw[mW];have a:L.base+((0:Nat):Int)=L.base:=by omega
     refine⟨hi.ch,?_,trivial⟩;rw[a,bf,<-hi.tb,<-hi.now];exact hc.2
    ·show gJ L.table _ _ _=gg L.first L.base (L.e8++[jH f.body])
     rw[pN,<-hi.tb];rfl
    ·show _=lG L.text (L.e8++[jH f.body]);rw[mc,<-hi.now];rfl
   ·cases h
  ·cases h
theorem ED:∀(fs:List Frame)(L:hI)(now:BS),tW L now->(∃n,tW (kI fs L now) n)/\(kI fs L now).base=L.base/\(kI fs L now).gen=L.gen/\(kI fs L now).text=L.text/\(kI fs L now).first=L.first
 |[],L,now,h=>⟨⟨now,h⟩,rfl,rfl,rfl,rfl⟩
 |f::fs,L,now,h=>by
  rw[kI];cases hs:nv L now f with
  |none=>exact⟨⟨now,h⟩,rfl,rfl,rfl,rfl⟩
  |some q=>
   obtain⟨h1,h2,h3,h4,h5⟩:=KR hs h;obtain⟨g1,g2,g3,g4,g5⟩:=ED fs q.1 q.2 h1;exact⟨g1,g2.trans h2,g3.trans h3,g4.trans h4,g5.trans h5⟩
theorem AR{fs:List Frame}(h:(fW fs).2=0):(∃n,tW (fW fs).1 n)/\oz (fW fs).1.gen (fW fs).1.base (fW fs).1.text (fW fs).1.first:=by
 have hb:=Cq;have key:∀(hg a:BS->Int)(ht:BS->BS)(hf:BS->Nat->Int)(ho:BS->Bool),(∀x,mO (hg x))->(∀x,mO (a x))->(∀x,ho x=true->(ht x).length<=500)->(∀x j,mO (hf x j))->(ly hg a ht hf ho fs).2=0->
   (∃n,tW (ly hg a ht hf ho fs).1 n)/\oz (ly hg a ht hf ho fs).1.gen (ly hg a ht hf ho fs).1.base (ly hg a ht hf ho fs).1.text (ly hg a ht hf ho fs).1.first:=by
  intro hg a ht hf ho k1 k2 c d h;cases fs with
  |nil=>exact absurd (show(7:Int)=0 from h) qD
  |cons f fs=>
   have e:ly hg a ht hf ho (f::fs)=if f.kind≠1\/ho f.body=false then(xo,3) else(kI fs (pL (hg f.body) (a f.body) (ht f.body) (hf f.body) ((f.body.length:Int)+7)) (ht f.body),0):=rfl;rw[e] at h⊢
   split at h
   ·exact absurd h qD
   ·rename_i hc;rw[aa hc];have b:ho f.body=true:=by cases hx:ho f.body;exact absurd (.inr hx) hc;rfl
    obtain⟨g1,g2,g3,g4,g5⟩:=ED fs (pL (hg f.body) (a f.body) (ht f.body) (hf f.body) ((f.body.length:Int)+7)) (ht f.body) ⟨trivial,rfl,rfl⟩;refine⟨g1,?_⟩;show oz (kI _ _ _).gen (kI _ _ _).base (kI _ _ _).text (kI _ _ _).first
    rw[g2,g3,g4,g5];exact⟨k1 _,k2 _,c _ b,λj _=>d _ j⟩
 have hlen:∀x,mq x=true->(kp x 18).1.length<=500:=by
  intro x hx;unfold mq at hx
  generalize kp x 18=q at hx⊢
  simp only[aW,bc] at hx;exact hx.2
 exact key _ _ _ _ _ (λx=>hb x 0) (λx=>hb x 1) hlen (λx j=>hb x (j+2)) h
theorem tW.ok{L:hI}{now:BS}(h:tW L now)(hd:oz L.gen L.base L.text L.first):Ey L:=by
 obtain⟨h1,h2,h3,h4⟩:=qG h.ch;have:=hd.b;unfold mO at this;exact⟨qW,qW,h1⟩
theorem sE{fs:List Frame}{L:hI}{e:Int}(h:fW fs=(L,e))(he:e=0):Ey L:=by
 have h2:(fW fs).2=0:=by rw[h];exact he
 obtain⟨⟨n,h3⟩,h4⟩:=AR h2;rw[h] at h3 h4;exact h3.ok h4
def AS(y:PH)(x:V)(a:List (Nat×Ob)):Prop:=(y.e≠0/\x=.tup [.nil,.int .i64 y.e]/\a=[])\/(y.e=0/\∃bl ba,x=.tup [.ptr 60 (some bl) 47 0 0,.int .i64 0]/\a=[(60,fx bl (fw y.d (.own 1000200 ba 3 y.l.length) .nil)),(1000200,iw ba (y.l.map ca)),(999,jk 0 none)])
theorem qH{a1 b1:BS}{a2 b2:Int}(h:gS a1 a2 b1 b2=0):a1.length<=1048576/\b1.length<=1048576:=by
 obtain⟨h1,h2⟩:=p9 h;exact⟨(lq h1).1,(lq h2).1⟩
theorem KS(a1:BS)(a2:Int)(b1:BS)(b2:Int):Spec Tryz.prog 54 [.agg [.str a1,qI a2,.str b1,qI b2]] (cp []) λx h'=>∃c,AS (kR a1 a2 b1 b2) x c/\h'=cp c:=by
 refine fu iD KL (L:=[]) (AS (kR a1 a2 b1 b2)) λR f=>?_;obtain⟨LA,g,b⟩:∃L e,fW (fk a1).1=(L,e):=⟨_,_,rfl⟩;obtain⟨LB,i,hB⟩:∃L e,fW (fk b1).1=(L,e):=⟨_,_,rfl⟩;refine KM dn rfl _ _ Kz JE Ee rC JX a1 a2 b1 b2 (gS a1 a2 b1 b2) (ia (B5 a1 a2 b1 b2) (λh=>.cons (.same _) .nil) rfl) (λh=>(qH h).1) (λh=>(qH h).2) LA LB g i b hB (sE b) (sE hB) (kR a1 a2 b1 b2) (by unfold kR;rw[b,hB]) R ?_ ?_
 ·intro s s' e he hne a hr;subst he;exact f s s' (.tup [.nil,qI _]) [] a (eM _ _ _ (λx hx=>by rw[hx];rfl) hr) trivial (.tup _ (by simp;exact⟨.nil,.int _ _⟩)) (λp hp=>by cases hp) (.inl ⟨hne,rfl,rfl⟩)
 ·intro s s' bl ba n rows d hd he hn ds a hr ha;subst hd hn ds;refine f s s' (.tup [.ptr 60 (some bl) 47 0 0,qI 0]) _ a (eM _ _ _ (λx hx=>by rw[hx];rfl) hr) ha (.tup _ (by simp;exact⟨.ptr _ _ _ _ _,.int _ _⟩)) (λp hp=>?_) (.inr ⟨he,bl,ba,rfl,rfl⟩);simp only[aw,aD,bw] at hp
  rcases hp with rfl|rfl|rfl
  ·exact jB (.own _ _ _ _) .nil bl
  ·exact fL _
  ·exact uJ 0 none
def KT(T:c8):Prop:=∀(k ka km:Nat)(a1:BS)(a2:Int)(b1:BS)(b2:Int)(h:Hp)(K:V->Hp->Prop),N3 k ka km->h k=none->h ka=none->h km=none->
 (∀d l e,⟨d,l,e⟩=kR a1 a2 b1 b2->(e≠0->K (.tup [.nil,qI e]) h)/\(e=0->∀bl ba n rows mo,n=l.length->rows=l.map ca->mo=jk 0 none->K (.tup [.ptr k (some bl) 47 0 0,qI 0]) (h.fK [(k,fx bl (fw d (.own ka ba 3 n) .nil)),(ka,iw ba rows),(km,mo)])))->T 54 [.agg [.str a1,qI a2,.str b1,qI b2]] h K
theorem RZ:KT (fm Tryz.prog):=by
 intro k ka km a1 a2 b1 b2 h K hN hk c f hK;obtain⟨n1,n2,g⟩:=hN.ne;have n:¬ka=k:=λe=>n1 e.symm;have p:¬km=k:=λe=>n2 e.symm;have r:¬km=ka:=λe=>g e.symm;have s:gD [(60,k),(1000200,ka),(999,km)] 60=k:=by simp[gD]
 have t:gD [(60,k),(1000200,ka),(999,km)] 1000200=ka:=by simp[gD]
 have a:([(60,k),(1000200,ka),(999,km)].map (·.1)).Nodup:=by show([60,1000200,999]:List Nat).Nodup;decide
 have b:([(60,k),(1000200,ka),(999,km)].map (·.2)).Nodup:=by simp[n1,n2,g]
 refine mA (KS a1 a2 b1 b2) (m:=[(60,k),(1000200,ka),(999,km)]) (.cons (.same _) .nil) (λj o hj=>by cases hj) (λq hq=>⟨nU a q hq,nV b q hq,λo ho=>by cases ho⟩) ?_;obtain⟨y,hy⟩:∃y,kR a1 a2 b1 b2=y:=⟨_,rfl⟩;rw[hy] at hK⊢;obtain⟨d,l,e⟩:=y;rintro x w (⟨he,rfl,rfl⟩|⟨he,bl,ba,rfl,rfl⟩)
 ·have u:h.gy [(60,k),(1000200,ka),(999,km)] (cp [])=h:=by
   funext i
   simp only[Hp.gy,bK,bP,bN,bG,bc]
   split
   ·rename_i hi;show(none:Option Ob)=_
    rcases hi with hi|hi|hi<;>subst hi
    ·rw[hk]
    ·rw[c]
    ·rw[f]
   ·rfl
  rw[u];exact(hK d l e rfl).1 he
 ·rw[sr h _ _ rfl a b (by simp)];have e1:mb [(60,k),(1000200,ka),(999,km)] (Ob.gM (gD [(60,k),(1000200,ka),(999,km)])) [(60,fx bl (fw d (.own 1000200 ba 3 l.length) .nil)),(1000200,iw ba (l.map ca)),(999,jk 0 none)]=[(k,fx bl (fw d (.own ka ba 3 l.length) .nil)),(ka,iw ba (l.map ca)),(km,jk 0 none)]:=by
   simp only[mb,cu,cB,iM,jA,pQ];show[(k,fx bl (fw d (.own (gD _ 1000200) ba 3 l.length) _)),_,_]=_;rw[t];rfl
  rw[e1];have v:(V.tup [.ptr 60 (some bl) 47 0 0,qI 0]).gM (gD [(60,k),(1000200,ka),(999,km)])=.tup [.ptr k (some bl) 47 0 0,qI 0]:=by
   show V.tup [.ptr (gD _ 60) (some bl) 47 0 0,qI 0]=_;rw[s]
  rw[v];exact(hK d l e rfl).2 he bl ba _ _ _ rfl rfl rfl
def tj(done:List Nat):Nat->Nat
 |0=>0
 |n+1=>tj done n+(if fq done n=true then 0 else 1)
theorem ik(i:Nat)(done:List Nat):fq (i::done) i=true:=by simp[fq]
theorem cm{i j:Nat}(h:j≠i)(done:List Nat):fq (i::done) j=fq done j:=by
 have:Nat.beq i j=false:=by
  cases hb:Nat.beq i j
  ·rfl
  ·exact absurd (bA hb).symm h
 simp[fq,this]
theorem qJ{i j:Nat}{done:List Nat}(h:fq done j=true):fq (i::done) j=true:=by simp[fq,h]
theorem EE{i:Nat}{done:List Nat}:∀n,n<=i->tj (i::done) n=tj done n
 |0,_=>rfl
 |n+1,h=>by
  simp only[tj];rw[EE n qW,cm qW]
theorem CO{i:Nat}{done:List Nat}(hi:fq done i=false):∀n,i<n->tj (i::done) n+1=tj done n
 |0,h=>by omega
 |n+1,h=>by
  simp only[tj]
  by_cases e:i=n
  ·subst e;rw[EE _ (ah _),ik,hi];rfl
  ·rw[cm qW,<-CO hi n qW];omega
theorem vP{done:List Nat}:∀n,tj done n=0->∀i,i<n->fq done i=true
 |0,_,i,h=>by omega
 |n+1,h,i,hi=>by
  simp only[tj] at h
  by_cases e:i=n
  ·subst e;cases a:fq done i
   ·rw[a] at h;simp at h
   ·rfl
  ·exact vP n qW i qW
theorem yC:∀n,tj [] n=n
 |0=>rfl
 |n+1=>by simp only[tj];rw[yC n];rfl
theorem vQ{f:Nat->AO->Prop}{done:List Nat}:∀(l:List (AO×List Nat))(m:Nat),(∀(j:Nat)(o:AO)(ps:List Nat),l[j]? =some (o,ps)->fq done (m+j)=false->ps.all (fq done)=true->f (m+j) o)->BM (mh done m l) f
 |[],m,h=>trivial
 |(o,ps)::l,m,h=>by
  have ih:=vQ (f:=f) (done:=done) l (m+1) λj o ps h1 h2 h3=>by
   have:=h (j+1) o ps h1 (by rw[<-h2];congr 1;omega) h3
   rwa[show m+(j+1)=m+1+j by omega] at this
  simp only[mh]
  split
  ·rename_i he;rw[aW] at he;have h0:=h 0 o ps rfl (by simpa using he.1) he.2;rw[ct] at h0
   revert ih
   cases mh done (m+1) l with
   |nil=>intro _;exact h0
   |cons x r=>intro ih;exact⟨h0,ih⟩
  ·exact ih
def tk(ops:List (AO×List Nat))(done:List Nat):Prop:=∀j o ps,ops[j]? =some (o,ps)->fq done j=true->∀k∈ps,fq done k=true
theorem EF{P:Prim}{T:c8}{ops:List (AO×List Nat)}{K:S->Prop}(F:List Nat->S)
  (a:∀(done:List Nat)(i:Nat)(o:AO)(ps:List Nat),ops[i]? =some (o,ps)->fq done i=false->(∀k∈ps,fq done k=true)->tk ops done->∀K':S->Prop,K' (F (i::done))->eH P T o (F done) K')
  (hK:∀done,(∀i,i<ops.length->fq done i=true)->K (F done)):
  ∀(n:Nat)(done:List Nat),tj done ops.length=n->tk ops done->lL P T ops n done (F done) K
 |0,done,hc,_=>hK done (vP _ hc)
 |n+1,done,hc,c=>by
  show BM (mh done 0 ops) _;refine vQ ops 0 λj o ps hj hf hp=>?_;rw[bf] at hf⊢;have hq:∀k∈ps,fq done k=true:=aQ.1 hp;have hlt:j<ops.length:=(aj.1 hj).1;refine a done j o ps hj hf hq c _ (EF F a hK n (j::done) (by have:=CO hf ops.length hlt;omega) ?_);intro f o' d b hd k hk
  by_cases e:f=j
  ·subst e;rw[hj] at b;cases b;exact qJ (hq k hk)
  ·rw[cm e] at hd;exact qJ (c f o' d b hd k hk)
theorem AT{P:Prim}{T:c8}{ops:List (AO×List Nat)}{K:S->Prop}{n:Nat}(hn:ops.length=n)(F:List Nat->S)
  (a:∀(done:List Nat)(i:Nat)(o:AO)(ps:List Nat),ops[i]? =some (o,ps)->fq done i=false->(∀k∈ps,fq done k=true)->tk ops done->∀K':S->Prop,K' (F (i::done))->eH P T o (F done) K')
  (hK:∀done,(∀i,i<n->fq done i=true)->K (F done)){s:S}(hs:s=F []):lL P T ops n [] s K:=by
 subst hs;exact EF F a (by rw[hn];exact hK) n [] (by rw[yC,hn]) (λj o ps _ h=>by cases h)
theorem AU{P:Prim}{T:c8}{ops:List (AO×List Nat)}{K:S->Prop}(I:List Nat->S->Prop)
  (a:∀(done:List Nat)(i:Nat)(o:AO)(ps:List Nat)(s:S),ops[i]? =some (o,ps)->fq done i=false->(∀k∈ps,fq done k=true)->tk ops done->I done s->∀K':S->Prop,(∀s',I (i::done) s'->K' s')->eH P T o s K')
  (hK:∀done s,(∀i,i<ops.length->fq done i=true)->I done s->K s):
  ∀(n:Nat)(done:List Nat)(s:S),tj done ops.length=n->tk ops done->I done s->lL P T ops n done s K
 |0,done,s,hc,_,d=>hK done s (vP _ hc) d
 |n+1,done,s,hc,c,d=>by
  show BM (mh done 0 ops) _;refine vQ ops 0 λj o ps hj hf hp=>?_;rw[bf] at hf⊢;have hq:∀k∈ps,fq done k=true:=aQ.1 hp;have hlt:j<ops.length:=(aj.1 hj).1;refine a done j o ps s hj hf hq c d _ λs' f=>AU I a hK n (j::done) s' (by have:=CO hf ops.length hlt;omega) ?_ f;intro h o' g b hd k hk
  by_cases e:h=j
  ·subst e;rw[hj] at b;cases b;exact qJ (hq k hk)
  ·rw[cm e] at hd;exact qJ (c h o' g b hd k hk)
theorem pU{P:Prim}{T:c8}{ops:List (AO×List Nat)}{K:S->Prop}{n:Nat}(hn:ops.length=n)(I:List Nat->S->Prop)
  (a:∀(done:List Nat)(i:Nat)(o:AO)(ps:List Nat)(s:S),ops[i]? =some (o,ps)->fq done i=false->(∀k∈ps,fq done k=true)->tk ops done->I done s->∀K':S->Prop,(∀s',I (i::done) s'->K' s')->eH P T o s K')
  (hK:∀done s,(∀i,i<n->fq done i=true)->I done s->K s){s:S}(hs:I [] s):lL P T ops n [] s K:=
 AU I a (by rw[hn];exact hK) n [] s (by rw[yC,hn]) (λj o ps _ h=>by cases h) hs
def eO(done:List Nat):List (Nat×Nat×V)->(Nat->V)->Nat->V
 |[],t,i=>t i
 |(k,s,v)::l,t,i=>if i=s then(if fq done k=true then v else t i) else eO done l t i
def L8:List (Nat×Nat×V)->(Nat->V)->Nat->V
 |[],t,i=>t i
 |(_,s,v)::l,t,i=>match Nat.beq i s with
  |true=>v
  |false=>L8 l t i
theorem nW:∀(L:List (Nat×Nat×V))(t:Nat->V),eO [] L t=t
 |[],t=>rfl
 |(k,s,v)::l,t=>by
  funext i
  have ih:=eZ (nW l t) i;simp only[eO,fq]
  split
  ·rfl
  ·exact ih
theorem nX{done:List Nat}:∀(L:List (Nat×Nat×V))(t:Nat->V),(∀p∈L,fq done p.1=true)->eO done L t=L8 L t
 |[],t,_=>rfl
 |(k,s,v)::l,t,h=>by
  funext i
  have ih:=eZ (nX l t λp hp=>h p (bM _ hp)) i;have hk:=h (k,s,v) bQ;simp only[eO,L8];have hk:fq done k=true:=hk
  by_cases hi:i=s
  ·subst hi;have:Nat.beq i i=true:=bO i;rw[ae rfl,ae hk,this]
  ·have:Nat.beq i s=false:=by
    cases hb:Nat.beq i s
    ·rfl
    ·exact absurd (bA hb) hi
   rw[aa hi,this];exact ih
theorem mf{done:List Nat}{k:Nat}:∀(L:List (Nat×Nat×V))(t:Nat->V),(L.map (·.1)).contains k=false->eO (k::done) L t=eO done L t
 |[],t,_=>rfl
 |(k',s,v)::l,t,h=>by
  simp only[aR,List.contains_cons,Bool.or_eq_false_iff,cr] at h
  funext i
  have ih:=eZ (mf (done:=done) l t h.2) i;simp only[eO];rw[cm (λe=>h.1 e.symm),ih]
theorem dS{done:List Nat}{k s:Nat}{v:V}:∀(L:List (Nat×Nat×V))(t:Nat->V),(L.map (·.1)).Nodup->(L.map (·.2.1)).Nodup->(k,s,v)∈L->gy (eO done L t) s v=eO (k::done) L t
 |[],t,_,_,h=>by cases h
 |(k',s',v')::l,t,n1,n2,h=>by
  rw[aR,cV] at n1 n2
  funext i
  rcases aw.1 h with h|h
  ·cases h;have a:eO (k::done) l t=eO done l t:=mf l t (by
    cases hc:(l.map (·.1)).contains k
    ·rfl
    ·exact absurd (List.contains_iff_mem.1 hc) n1.1)
   simp only[gy,eO]
   by_cases hi:i=s
   ·rw[ae hi,ae hi,ik,ae rfl]
   ·rw[aa hi,aa hi,a,aa hi]
  ·have ih:=eZ (dS (done:=done) l t n1.2 n2.2 h) i;have hs:s'≠s:=λe=>n2.1 (aC.2 ⟨_,h,e.symm⟩);have hk:k'≠k:=λe=>n1.1 (aC.2 ⟨_,h,e.symm⟩);simp only[gy,eO] at ih⊢
   by_cases hi:i=s
   ·subst hi;rw[ae rfl] at ih⊢;rw[aa (λe=>hs e.symm)];exact ih
   ·rw[aa hi] at ih⊢;rw[cm hk]
    by_cases hi2:i=s'
    ·rw[ae hi2,ae hi2]
    ·rw[aa hi2,aa hi2];exact ih
theorem dF{done:List Nat}{k s:Nat}{v:V}(hk:fq done k=true):∀(L:List (Nat×Nat×V))(t:Nat->V),(L.map (·.2.1)).Nodup->(k,s,v)∈L->eO done L t s=v
 |[],t,_,h=>by cases h
 |(k',s',v')::l,t,n2,h=>by
  rw[aR,cV] at n2
  rcases aw.1 h with h|h
  ·cases h;simp[eO,hk]
  ·have hs:s'≠s:=λe=>n2.1 (aC.2 ⟨_,h,e.symm⟩);simp only[eO];rw[aa (λe=>hs e.symm)];exact dF hk l t n2.2 h
theorem gX{done:List Nat}{s:Nat}:∀(L:List (Nat×Nat×V))(t:Nat->V),(L.map (·.2.1)).contains s=false->eO done L t s=t s
 |[],t,_=>rfl
 |(k',s',v')::l,t,h=>by
  simp only[aR,List.contains_cons,Bool.or_eq_false_iff,cr] at h;simp only[eO];rw[aa h.1];exact gX l t h.2
theorem KU{t:Nat->V}{s:Nat}{v:V}(h:t s=v):gy t s v=t:=by
 funext i
 unfold gy
 split
 ·rename_i e;subst e;exact h.symm
 ·rfl
def Vn:List (Nat×V)->(Nat->V)->Nat->V
 |[],t,i=>t i
 |(s,v)::l,t,i=>match Nat.beq i s with
  |true=>v
  |false=>Vn l t i
def Gm:List (Nat×Option Ob)->Hp->Nat->Option Ob
 |[],h,i=>h i
 |(k,o)::l,h,i=>match Nat.beq i k with
  |true=>o
  |false=>Gm l h i
def PI:List (Nat×V)->S->Prop
 |[],_=>True
 |(i,v)::l,s=>s.t i=v/\PI l s
def PJ:List (Nat×Option Ob)->S->Prop
 |[],_=>True
 |(k,o)::l,s=>s.h k=o/\PJ l s
theorem KV{s:S}:∀(L:List (Nat×V)),PI L s->Vn L s.t=s.t
 |[],_=>rfl
 |(j,v)::l,h=>by
  funext i
  have ih:=eZ (KV l h.2) i;simp only[Vn]
  split
  ·rename_i e;rw[bA e];exact h.1.symm
  ·exact ih
theorem KW{s:S}:∀(L:List (Nat×Option Ob)),PJ L s->Gm L s.h=s.h
 |[],_=>rfl
 |(j,v)::l,h=>by
  funext i
  have ih:=eZ (KW l h.2) i;simp only[Gm]
  split
  ·rename_i e;rw[bA e];exact h.1.symm
  ·exact ih
theorem lC{Q:S->Prop}{s:S}(L:List (Nat×V))(H:List (Nat×Option Ob))(h1:PI L s)(h2:PJ H s)(a:∀t h,Q ⟨Vn L t,Gm H h⟩):Q s:=by
 have:=a s.t s.h;rw[KV L h1,KW H h2] at this;exact this
def kJ:Nat->AC->AC
 |n+1,.seq _ y=>kJ n y
 |_,x=>x
def pV:Nat->AC->AC->AC
 |n+1,.seq x y,r=>.seq x (pV n y r)
 |_,_,r=>r
section
variable {P:Prim} {T:c8} {s:S} {d x y:Nat} {K:S->Prop}
theorem gR{v:V}(hx:s.t x=v)(hK:K ⟨gy s.t d v,s.h⟩):eH P T ⟨some d,none,.mov (.t x)⟩ s K:=by
 show K ⟨gy s.t d (s.t x),s.h⟩;rw[hx];exact hK
theorem iR{k sz i o:Nat}{b:Option Nat}(hx:s.t x=.ptr k b sz i o)(hK:K ⟨gy s.t d (.ptr k b sz i o),s.h⟩):eH P T ⟨some d,none,.nilchk (.t x)⟩ s K:=by
 simp only[eH,jh,fV,iI.ev,hx];exact hK
theorem jf{k sz i o off:Nat}{b:Option Nat}(hx:s.t x=.ptr k b sz i o)(hK:K ⟨gy s.t d (.ptr k b sz i (o+off)),s.h⟩):eH P T ⟨some d,none,.faddr off (.t x)⟩ s K:=by
 simp only[eH,jh,fV,iI.ev,hx];exact hK
theorem jw{k sz off ty:Nat}{b:Option Nat}{r:List V}{v:V}(hx:s.t x=.ptr k b sz 0 off)(hk:s.h k=some ⟨b,ty,sz,[r]⟩)(hlt:k<1000000)(hr:off<r.length/\r.getD off .iC=v)(hK:K ⟨gy s.t d v,s.h⟩):eH P T ⟨some d,none,.load1 (.t x)⟩ s K:=by
 simp only[eH,jh,fV,iI.ev,hx,po,oQ,hk,cA hlt,xK];refine⟨trivial,trivial,hr.1,?_⟩;rw[hr.2];exact hK
theorem o0{k sz off ty n:Nat}{b:Option Nat}{r cs:List V}(hx:s.t x=.ptr k b sz 0 off)(hk:s.h k=some ⟨b,ty,sz,[r]⟩)(hlt:k<1000000)(hr:off+n<=r.length/\(r.drop off).take n=cs)(hK:K ⟨gy s.t d (.agg cs),s.h⟩):eH P T ⟨some d,none,.loadn n (.t x)⟩ s K:=by
 simp only[eH,jh,fV,iI.ev,hx,pq,oQ,hk,cA hlt];refine⟨trivial,trivial,hr.1,?_⟩;rw[hr.2];exact hK
theorem lT{k sz off ty n:Nat}{b:Option Nat}{r:List V}{v:V}(hx:s.t x=.ptr k b sz 0 off)(hy:s.t y=v)(hf:v.fits n)(hk:s.h k=some ⟨b,ty,sz,[r]⟩)(hlt:k<1000000)(hr:off+n<=r.length)(hK:K ⟨s.t,s.h.put k ⟨b,ty,sz,[kf r off v.cells]⟩⟩):eH P T ⟨none,none,.store n (.t x) (.t y)⟩ s K:=by
 simp only[eH,jh,fV,iI.ev,hx,hy,rm,oQ,hk,cA hlt,Mq];exact⟨trivial,trivial,hr,hf,hK⟩
theorem jM{g:Nat}{dd:Option Nat}{op:rh}(hg:s.t g=.bool false)(h:eH P T ⟨dd,none,op⟩ s K):eH P T ⟨dd,some (g,false),op⟩ s K:=by
 simp only[eH,hg];have e:s.set g (.bool false)=s:=by
  show(⟨gy s.t g (.bool false),s.h⟩:S)=s;rw[KU hg]
 rw[e];exact h
end
end Go.Proofs.YtobngncjflogcaaGreat.AM
