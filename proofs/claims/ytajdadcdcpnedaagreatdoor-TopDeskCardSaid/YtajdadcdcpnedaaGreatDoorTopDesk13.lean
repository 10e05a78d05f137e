/-
  Part 13 of what the law TopDesk reaches: the plain machine, contracts of the functions and plain laws; each lemma says its own condition.
-/
import Derived.Test.YtajdadcdcpnedaaGreatDoorTopDesk12
import Derived.Test.YtajdadcdcpnedaaGreatDoorTopDesk6
import Derived.Test.YtajdadcdcpnedaaGreatDoorTopDesk8
import Derived.Test.YtajdadcdcpnedaaGreatDoorTopDesk5
import Derived.Test.YtajdadcdcpnedaaGreatDoorTopDesk11
import Derived.Test.YtajdadcdcpnedaaGreatDoorTopDesk7
set_option linter.unusedVariables false
set_option linter.unusedSimpArgs false
namespace Go.Proofs.YtajdadcdcpnedaaGreatDoor.AM
open Go Go.RowKit
set_option maxRecDepth 100000
set_option maxHeartbeats 2000000
def je(d:SC)(l:List er)(f:Int):Nat->Int:=jr d.fs d.b (l.take (f-d.b).toNat)
def gg(d:SC)(l:List er)(f:Int):BS:=lW d.tx (l.take (f-d.b).toNat)
def jC(d:SC)(l:List er)(f:Int):List er:=l.drop (f-d.b).toNat
def Main(a:BS)(c sf g b:Int)(tx:BS)(fs:Nat->Int)(l:List er):Prop:=
 ∃r1 r2 d,l=r1++r2/\a=eF (gi g b tx fs r1 (some r2))/\d<=r2.length/\c=((eF (gi g b tx fs r1 (some (r2.take d)))).length:Int)/\sf<=b+(r1.length:Int)+d
def WB(a:BS)(gn:Int):Prop:=∃g b tx t r1 o,mZ g b tx t/\fN b t 0 tx (r1++o.getD [])/\a=eF (gi g b tx t r1 o)/\g<gn
def T3(d:SC)(l:List er)(m:Mv):Prop:=
 (m.c= -1/\m.w=false/\fb d (1-d.at')=[])\/
 (0<=m.c/\m.w=false/\m.f+m.c<=d.b+(l.length:Int)/\fb d (1-d.at')=eF (gi (d.gn+1) m.f (gg d l m.f) (je d l m.f) ((jC d l m.f).take m.c.toNat) none))\/
 (0<=m.c/\m.w=true/\m.c<=64/\∃r1 r2 a,jC d l m.f=r1++r2/\fb d (1-d.at')=eF (gi (d.gn+1) m.f (gg d l m.f) (je d l m.f) r1 (some r2))/\a<=r2.length/\
  (a=0\/ie d (1-d.at')=((eF (gi (d.gn+1) m.f (gg d l m.f) (je d l m.f) r1 (some (r2.take a)))).length:Int))/\d.sf<=m.f+(r1.length:Int)+a)
def WC(d:SC)(l:List er):Option Mv->Prop
 |none=>(d.jE=true/\WB (fb d (1-d.at')) d.gn)\/(d.jE=false/\fb d (1-d.at')=[])
 |some m=>d.jE=false/\(d.b<=m.f/\m.f<=d.b+(l.length:Int))/\d.gn<2147483647/\T3 d l m
structure uQ(d:SC)(l:List er)(m:Option Mv):Prop where
 at':d.at'=0\/d.at'=1
 dk:na d
 hd:mZ d.gn d.b d.tx d.fs
 ch:fN d.b d.fs 0 d.tx l
 tb:td d.tb (jr d.fs d.b l)
 now:d.now=lW d.tx l
 sf:d.sf<=d.b+(l.length:Int)
 mn:Main (fb d d.at') (ie d d.at') d.sf d.gn d.b d.tx d.fs l
 ot:WC d l m
theorem uQ.T4{d:SC}{l:List er}{m:Option Mv}(h:uQ d l m):1-d.at'=0\/1-d.at'=1:=by rcases h.at' with h|h<;>omega
theorem uQ.len{d:SC}{l:List er}{m:Option Mv}(h:uQ d l m):l.length<=64/\d.b+(l.length:Int)<=2147483647/\0<=d.b:=by
 have hb:=h.hd.b;unfold nT at hb
 rcases pC l _ _ _ h.ch with rfl|g
 ·simp only[aL];omega
 ·omega
theorem uQ.Jh{d:SC}{l:List er}{m:Option Mv}(h:uQ d l m):nz d l:=by
 obtain⟨h1,h2,h3,h4⟩:=Db h.ch;have hb:=h.hd.b;have hg:=h.hd.g;unfold nT at hb hg;exact⟨h.at',hb,qW,h4,h1,h2,h3⟩
theorem nA{g b:Int}{tx:BS}{t:Nat->Int}(a:tx.length<=500){r1:List er}{o:Option (List er)}(hc:∀r∈r1++o.getD [],ir r=0)(hl:(r1++o.getD []).length<=64):(eF (gi g b tx t r1 o)).length<=264462:=by
 have h1:=Da _ (xI (g:=g) (b:=b) (t:=t) a hc);rw[oP] at h1;rw[ae] at hl;cases o with
 |none=>simp only at h1;omega
 |some r2=>simp only[Option.getD_some] at h1 hl;omega
theorem uQ.T5{d:SC}{l:List er}{m:Option Mv}(h:uQ d l m):(fb d d.at').length<=264462:=by
 obtain⟨r1,r2,a,h1,h2,_⟩:=h.mn;rw[h2];refine nA h.hd.tx (o:=some r2) ?_ ?_
 ·show∀r∈r1++r2,_;rw[<-h1];exact lC _ _ _ _ h.ch
 ·show(r1++r2).length<=64;rw[<-h1];exact h.len.1
theorem nd{d:SC}{l:List er}{m:Option Mv}(h:uQ d l m){f:Int}(hf:d.b<=f/\f<=d.b+(l.length:Int)):fN f (je d l f) 0 (gg d l f) (jC d l f)/\(gg d l f).length<=500/\(∀j,j<16->nT (je d l f j))/\(jC d l f).length=(d.b+(l.length:Int)-f).toNat:=by
 obtain⟨a,ha⟩:∃a:Nat,(f-d.b).toNat=a:=⟨_,rfl⟩;have c:f=d.b+(a:Int):=by omega
 have i:a<=l.length:=by omega
 have hc:=h.ch;rw[<-bF a l] at hc;obtain⟨c1,e⟩:=(lB (l.take a) (l.drop a) d.fs 0 d.tx).1 hc;have g:d.b+((0:Nat):Int)=d.b:=by omega
 have e1:0+(l.take a).length=a+0:=by rw[aE];omega
 rw[g,e1] at e;have c3:=sS a _ _ _ _ e;have t1:=C9 h.len.2.2 (l.take a) d.fs 0 d.tx c1 h.hd.t;rw[g] at t1;unfold je gg jC;rw[ha];refine⟨by rw[c];exact c3,wy _ _ _ _ c1 h.hd.tx,t1,by rw[aP];omega⟩
theorem Ql{d:SC}{l:List er}{m:Option Mv}(h:uQ d l m){f:Int}(hf:d.b<=f/\f<=d.b+(l.length:Int))(hg:d.gn<2147483647):mZ (d.gn+1) f (gg d l f) (je d l f):=by
 obtain⟨_,h2,h3,_⟩:=nd h hf;have:=h.len;have a:=h.hd.g;unfold nT at a;exact⟨⟨qW,qW⟩,⟨qW,qW⟩,h2,h3⟩
theorem uR{d:SC}{l:List er}{m:Option Mv}(h:uQ d l m){f:Int}(hf:d.b<=f/\f<=d.b+(l.length:Int)):iu d l f=(gg d l f,0):=by
 obtain⟨a,ha⟩:∃a:Nat,f-d.b=a:=⟨(f-d.b).toNat,qW⟩;have ht:iZ d.b l.length f=0:=by
  unfold iZ;rw[aa qW,aa qW]
 unfold iu gg;rw[aa (λx=>x ht),ha,C5 h.ch h.hd.tx a qW,aG]
structure Same(d:SC)(l:List er)(d':SC)(l':List er):Prop where
 hd:d'.b+(l'.length:Int)=d.b+(l.length:Int)
 b:d.b<=d'.b
 tx:∀r,d'.b<=r->r<=d'.b+(l'.length:Int)->gg d' l' r=gg d l r
theorem Same.of{d d':SC}{l:List er}(hb:d'.b=d.b)(ht:d'.tx=d.tx):Same d l d' l:=⟨by rw[hb],qW,λr _ _=>by unfold gg;rw[hb,ht]⟩
theorem zJ(g b:Int)(tx:BS)(t:Nat->Int)(r1 r2:List er)(r:er):eF (gi g b tx t r1 (some r2))++kC (fM r)=eF (gi g b tx t r1 (some (r2++[r]))):=by
 have e:gi g b tx t r1 (some (r2++[r]))=gi g b tx t r1 (some r2)++[fM r]:=by
  show js g b tx t::(r1.map fM++iw::(r2++[r]).map fM)=js g b tx t::(r1.map fM++iw::r2.map fM)++[fM r];rw[cj,aD,aU,aD];rfl
 rw[e,pA];have:eF [fM r]=kC (fM r):=by simp[eF]
 rw[this]
theorem Ji(g b:Int)(tx:BS)(t:Nat->Int)(r1:List er):eF (gi g b tx t r1 none)++kC iw=eF (gi g b tx t r1 (some [])):=by
 have e:gi g b tx t r1 (some [])=gi g b tx t r1 none++[iw]:=by
  show js g b tx t::(r1.map fM++[iw])=js g b tx t::(r1.map fM++[])++[iw];rw[bg,aD]
 rw[e,pA];have:eF [iw]=kC iw:=by simp[eF]
 rw[this]
theorem Jj(g b:Int)(tx:BS)(t:Nat->Int):kC (js g b tx t)=eF (gi g b tx t [] none):=by
 have:gi g b tx t [] none=[js g b tx t]:=rfl;rw[this];simp[eF]
theorem kJ{l:List er}{r:er}{a:Nat}(h:a<=l.length):(l++[r]).take a=l.take a:=cW h
theorem E4{l:List er}{r:er}{a:Nat}(h:a<=l.length):(l++[r]).drop a=l.drop a++[r]:=bV h
theorem Nb{d d':SC}{l:List er}{r:er}(hb:d'.b=d.b)(ht:d'.tx=d.tx)(a:d'.fs=d.fs){f:Int}(hf:d.b<=f/\f<=d.b+(l.length:Int)):
  gg d' (l++[r]) f=gg d l f/\je d' (l++[r]) f=je d l f/\jC d' (l++[r]) f=jC d l f++[r]:=by
 have ha:(f-d.b).toNat<=l.length:=by omega
 unfold gg je jC;rw[hb,ht,a,kJ ha,E4 ha];exact⟨rfl,rfl,rfl⟩
theorem Nc{d d':SC}(l:List er)(hb:d'.b=d.b)(ht:d'.tx=d.tx)(a:d'.fs=d.fs)(f:Int):gg d' l f=gg d l f/\je d' l f=je d l f/\jC d' l f=jC d l f:=by
 unfold gg je jC;rw[hb,ht,a];exact⟨rfl,rfl,rfl⟩
def Qm(m:Option Mv)(x t:BS):BS:=match m with
 |none=>x
 |some m=>if m.w=true then x++t else x
theorem Dc{d:SC}{l:List er}{m:Option Mv}(h:uQ d l m){r:er}(hn:gQ d.b d.tb l.length d.now.length r=0):
  (gW d l m r).e=0/\(gW d l m r).l=l++[r]/\(gW d l m r).v=d.b+(l.length:Int)+1/\(gW d l m r).d.b=d.b/\(gW d l m r).d.tx=d.tx/\(gW d l m r).d.gn=d.gn/\(gW d l m r).d.sf=d.sf/\(gW d l m r).d.fs=d.fs/\uQ (gW d l m r).d (l++[r]) m:=by
 have h1:=(lX hn).1;have hr:=M5 h1;have hlt:(kC (fM r)).length<=4007:=by
  have:=(uM h1).2.2;rw[ku];omega
 have L:gW d l m r=⟨rk {pO d m (kC (fM r)) with now:=(kB r.delta d.now).1} l r,l++[r],d.b+(l.length+1:Nat),0⟩:=by
  unfold gW;rw[aa (λx=>x hn),hr];exact aa (λx=>x rfl)
 have hP:∀D:SC,D=pO d m (kC (fM r))->D.b=d.b/\D.tx=d.tx/\D.gn=d.gn/\D.sf=d.sf/\D.fs=d.fs/\D.at'=d.at'/\D.tb=d.tb/\D.jE=d.jE:=by
  rintro D rfl;unfold pO
  split
  ·exact⟨rfl,rfl,rfl,rfl,rfl,rfl,rfl,rfl⟩
  ·split<;>exact⟨rfl,rfl,rfl,rfl,rfl,rfl,rfl,rfl⟩
 have S:=h.T5;obtain⟨C,E,z,F⟩:=xM h.dk h.at' (t:=kC (fM r)) qW;have T:∀D:SC,D=pO d m (kC (fM r))->na D/\fb D d.at'=fb d d.at'++kC (fM r)/\(∀j,ie D j=ie d j)/\fb D (1-d.at')=Qm m (fb d (1-d.at')) (kC (fM r)):=by
  rintro D rfl;obtain _|⟨f,c,w⟩:=m
  ·exact⟨C,E,F,z⟩
  ·cases w with
   |false=>exact⟨C,E,F,z⟩
   |true=>
    have G:pO d (some ⟨f,c,true⟩) (kC (fM r))=kL (kL d d.at' (kC (fM r))) (1-d.at') (kC (fM r)):=rfl;rw[G];have K5:(fb (kL d d.at' (kC (fM r))) (1-d.at')).length+(kC (fM r)).length<=1048576:=by
     rw[z];obtain⟨_,hf,hg,ho⟩:=h.ot
     rcases ho with⟨_,hw,_⟩|⟨_,hw,_⟩|⟨_,_,_,r1,r2,M,e1,H,_⟩
     ·cases hw
     ·cases hw
     ·have H:fb d (1-d.at')=eF (gi (d.gn+1) f (gg d l f) (je d l f) r1 (some r2)):=H;have e1:jC d l f=r1++r2:=e1;have hf:d.b<=f/\f<=d.b+(l.length:Int):=hf;rw[H];obtain⟨s1,s2,s3,U⟩:=nd h hf;have hh:=h.len;have:=nA (g:=d.gn+1) (b:=f) (t:=je d l f) s2 (r1:=r1) (o:=some r2) (by rw[e1] at s1;exact lC _ _ _ _ s1) (by show(r1++r2).length<=64;rw[<-e1,U];omega);omega
    obtain⟨q1,q2,N,V⟩:=xM C h.T4 (t:=kC (fM r)) K5;have e1:(1:Int)-(1-d.at')=d.at':=by omega
    rw[e1] at N;exact⟨q1,by rw[N,E],λj=>by rw[V,F],by rw[q2,z];rfl⟩
 obtain⟨a1,a2,a3,a4,a5,O,P,Q⟩:=hP _ rfl;obtain⟨b1,b2,b3,b4⟩:=T _ rfl;obtain⟨D,I⟩:∃D,pO d m (kC (fM r))=D:=⟨_,rfl⟩;rw[I] at L a1 a2 a3 a4 a5 O P Q b1 b2 b3 b4;obtain⟨i,a⟩:∃i,rk {D with now:=(kB r.delta d.now).1} l r=i:=⟨_,rfl⟩
 have k1:i.b=d.b:=by rw[<-a];exact a1
 have q:i.tx=d.tx:=by rw[<-a];exact a2
 have k:i.gn=d.gn:=by rw[<-a];exact a3
 have A:i.sf=d.sf:=by rw[<-a];exact a4
 have s:i.fs=d.fs:=by rw[<-a];exact a5
 have n:i.at'=d.at':=by rw[<-a];exact O
 have W:i.tb=iQ d.tb r.who.toNat r.seq (d.b+(l.length:Int)+1):=by rw[<-a,<-P,<-a1];rfl
 have R:i.jE=d.jE:=by rw[<-a];exact Q
 have X:i.now=(kB r.delta d.now).1:=by rw[<-a];rfl
 have c1:na i:=by rw[<-a];exact b1
 have u:∀j,fb i j=fb D j:=λj=>by rw[<-a];rfl
 have c3:∀j,ie i j=ie D j:=λj=>by rw[<-a];rfl
 rw[L,a];refine⟨rfl,rfl,by show d.b+((l.length+1:Nat):Int)=_;omega,k1,q,k,A,s,?_⟩;show uQ i (l++[r]) m;have hx:gQ d.b (jr d.fs d.b l) l.length (lW d.tx l).length r=0:=by rw[<-zC h.tb,<-h.now];exact hn
 have y:fN d.b d.fs 0 d.tx (l++[r]):=by
  rw[lB];refine⟨h.ch,?_,trivial⟩;have Y:d.b+((0:Nat):Int)=d.b:=by omega
  rw[Y,aW];exact hx
 obtain⟨r1,r2,M,m1,m2,m3,m4,m5⟩:=h.mn;refine⟨by rw[n];exact h.at',c1,by rw[k,k1,q,s];exact h.hd,by rw[k1,s,q];exact y,?_,?_,?_,⟨r1,r2++[r],M,?_,?_,?_,?_,?_⟩,?_⟩
 ·rw[W,s,k1,rA];exact h.tb.add _ _ _
 ·rw[X,q,oO,h.now];rfl
 ·rw[A,k1,ae];have:=h.sf;omega
 ·rw[m1,aU]
 ·rw[n,u,b2,m2,k,k1,q,s,zJ]
 ·rw[ae];omega
 ·rw[n,c3,b3,m4,k,k1,q,s,kJ m3]
 ·rw[A,k1];exact m5
 ·have ho:=h.ot;obtain _|⟨f,c,w⟩:=m
  ·show(_/\_)\/(_/\_);rw[R,n,u,b4,k];exact ho
  ·obtain⟨Z,B,o3,o4⟩:=ho;obtain⟨t1,t2,t3⟩:=Nb (r:=r) k1 q s B;have J:d.b<=f:=B.1;have R0:f<=d.b+(l.length:Int):=B.2;refine⟨by rw[R];exact Z,by rw[k1,ae];exact⟨J,by show f<=_;omega⟩,by rw[k];exact o3,?_⟩
   rcases o4 with⟨w1,w2,p⟩|⟨w1,w2,p,K⟩|⟨w1,w2,w0,s1,s2,ks,p,K,w5,w6,w7⟩
   ·have w2:w=false:=w2;subst w2;exact .inl ⟨w1,rfl,by rw[n,u,b4];exact p⟩
   ·have w2:w=false:=w2;subst w2;refine .inr (.inl ⟨w1,rfl,by rw[k1,ae];have p:f+c<=d.b+(l.length:Int):=p;show f+c<=_;omega,?_⟩);rw[n,u,b4,k,t1,t2,t3];have hs:=(nd h B).2.2.2;have w1:0<=c:=w1;have p:f+c<=d.b+(l.length:Int):=p;rw[kJ (by show c.toNat<=_;rw[hs];show c.toNat<=(d.b+(l.length:Int)-f).toNat;omega)];exact K
   ·have w2:w=true:=w2;subst w2;refine .inr (.inr ⟨w1,rfl,w0,s1,s2++[r],ks,?_,?_,?_,?_,?_⟩)
    ·rw[t3,p,aU]
    ·rw[n,u,b4,k,t1,t2,<-zJ,<-K];rfl
    ·rw[ae];omega
    ·rw[n,c3,b3,k,t1,t2,kJ w5];exact w6
    ·rw[A];exact w7
theorem Jk{d:SC}{l:List er}{m:Option Mv}(h:uQ d l m):uQ (iI d l.length m) l m/\(iI d l.length m).sf=d.b+(l.length:Int)/\(iI d l.length m).b=d.b/\(iI d l.length m).tx=d.tx/\(iI d l.length m).gn=d.gn/\(iI d l.length m).fs=d.fs:=by
 have J:na (pN d m)/\(∀j,fb (pN d m) j=fb d j)/\ie (pN d m) d.at'=ie d d.at'/\(ie (pN d m) (1-d.at')=(match m with|some ⟨_,_,true⟩=>((fb d (1-d.at')).length:Int)|_=>ie d (1-d.at')))/\(pN d m).at'=d.at'/\(pN d m).b=d.b/\(pN d m).tx=d.tx/\(pN d m).gn=d.gn/\(pN d m).fs=d.fs/\(pN d m).tb=d.tb/\(pN d m).now=d.now/\(pN d m).jE=d.jE:=by
  obtain _|⟨f,c,w⟩:=m
  ·exact⟨h.dk,λ_=>rfl,rfl,rfl,rfl,rfl,rfl,rfl,rfl,rfl,rfl,rfl⟩
  ·cases w with
   |false=>exact⟨h.dk,λ_=>rfl,rfl,rfl,rfl,rfl,rfl,rfl,rfl,rfl,rfl,rfl⟩
   |true=>
    have e:pN d (some ⟨f,c,true⟩)=mJ d (1-d.at'):=rfl;rw[e];obtain⟨q1,q2,y,v⟩:=tA h.dk h.T4;have e1:(1:Int)-(1-d.at')=d.at':=by omega
    rw[e1] at v;exact⟨q1,q2,v,y,rfl,rfl,rfl,rfl,rfl,rfl,rfl,rfl⟩
 obtain⟨w1,w2,K,z,p,A,B,C,F,q,r,s⟩:=J;obtain⟨D,G⟩:∃D,pN d m=D:=⟨_,rfl⟩;rw[G] at w1 w2 K z p A B C F q r s;obtain⟨q1,q2,y,v⟩:=tA w1 (i:=D.at') (by rw[p];exact h.at');obtain⟨E,H⟩:∃E,iI d l.length m=E:=⟨_,rfl⟩;have a:E= {mJ D D.at' with sf:=d.b+(l.length:Int)}:=by rw[<-H,<-G];rfl
 have k1:E.b=d.b:=by rw[a];exact A
 have n:E.tx=d.tx:=by rw[a];exact B
 have g:E.gn=d.gn:=by rw[a];exact C
 have x:E.sf=d.b+(l.length:Int):=by rw[a]
 have o:E.fs=d.fs:=by rw[a];exact F
 have k:E.at'=d.at':=by rw[a];exact p
 have L:E.tb=d.tb:=by rw[a];exact q
 have I:E.jE=d.jE:=by rw[a];exact s
 have M:E.now=d.now:=by rw[a];exact r
 have c1:na E:=by rw[a];exact q1
 have t:∀j,fb E j=fb d j:=λj=>by rw[a,<-w2 j];exact q2 j
 have c3:ie E d.at'=((fb d d.at').length:Int):=by rw[a,<-p,<-w2 D.at'];exact y
 have c4:ie E (1-d.at')=ie D (1-d.at'):=by rw[a,<-p];exact v
 rw[H];refine⟨?_,x,k1,n,g,o⟩;obtain⟨r1,r2,R,m1,m2,m3,m4,m5⟩:=h.mn;refine⟨by rw[k];exact h.at',c1,by rw[g,k1,n,o];exact h.hd,by rw[k1,o,n];exact h.ch,by rw[L,o,k1];exact h.tb,by rw[M,n];exact h.now,by rw[x,k1];exact bn _,⟨r1,r2,r2.length,m1,?_,ak _,?_,?_⟩,?_⟩
 ·rw[k,t,g,k1,n,o];exact m2
 ·rw[k,c3,m2,g,k1,n,o,aN]
 ·rw[x,k1,m1,ae];omega
 ·have ho:=h.ot;obtain _|⟨f,c,w⟩:=m
  ·show(_/\_)\/(_/\_);rw[I,k,t,g];exact ho
  ·obtain⟨N,u,O,P⟩:=ho;obtain⟨t1,t2,t3⟩:=Nc l k1 n o f;refine⟨by rw[I];exact N,by rw[k1];exact u,by rw[g];exact O,?_⟩
   rcases P with⟨v1,v2,v3⟩|⟨v1,v2,v3,v4⟩|⟨v1,v2,v0,s1,s2,ks,v3,v4,v5,v6,S⟩
   ·exact .inl ⟨v1,v2,by rw[k,t];exact v3⟩
   ·refine .inr (.inl ⟨v1,v2,by rw[k1];exact v3,?_⟩);rw[k,t,g,t1,t2,t3];exact v4
   ·have v2:w=true:=v2;subst v2;have u:d.b<=f/\f<=d.b+(l.length:Int):=u;have v3:jC d l f=s1++s2:=v3;have hs:=(nd h u).2.2.2;refine .inr (.inr ⟨v1,rfl,v0,s1,s2,s2.length,by rw[t3];exact v3,by rw[k,t,g,t1,t2];exact v4,ak _,.inr ?_,?_⟩)
    ·rw[k,c4,z,g,t1,t2,aN];show((fb d (1-d.at')).length:Int)=_;rw[v4]
    ·rw[x];have:(jC d l f).length=s1.length+s2.length:=by rw[v3,ae]
     rw[hs] at this;have Q:f<=d.b+(l.length:Int):=u.2;show d.b+(l.length:Int)<=f+(s1.length:Int)+(s2.length:Int);omega
theorem Jl:mZ 1 0 [] λ_=>0:=⟨qD,qD,qD,λ_ _=>by decide⟩
theorem Nd:uQ ik [] none/\ik.b=0/\ik.gn=1/\ik.jE=false/\ik.tx=[]:=by
 have hz:na Z0:=by show iz [] 0 [] 0=0;decide
 have ht:(lU 1 0 [] λ_=>0).1++(jz 3 []).1=eF (gi 1 0 [] (λ_=>0) [] (some [])):=by
  rw[I1 Jl,M6];show kC (js 1 0 [] λ_=>0)++kC iw=_;rw[Jj,Ji]
 have hl:(eF (gi 1 0 [] (λ_=>0) [] (some []))).length<=264462:=nA (o:=some []) qD (λr hr=>by cases hr) qD;obtain⟨k,h,l,s⟩:=xM hz (.inl rfl) (t:=eF (gi 1 0 [] (λ_=>0) [] (some []))) (by show 0+_<=_;omega);obtain⟨q1,q2,m,u⟩:=tA k (.inl rfl);have e:ik= {mJ (kL Z0 0 (eF (gi 1 0 [] (λ_=>0) [] (some [])))) 0 with gn:=1,b:=0,tx:=[],fs:=λ_=>0,tb:=λ_=>0,wh:=true,gd:=0}:=by
  unfold ik;rw[ht];rfl
 obtain⟨D,a⟩:∃D,ik=D:=⟨_,rfl⟩;rw[e] at a;have k1:D.b=0:=by rw[<-a]
 have c:D.tx=[]:=by rw[<-a]
 have d:D.gn=1:=by rw[<-a]
 have i:D.sf=0:=by rw[<-a];rfl
 have f:D.fs=λ_=>0:=by rw[<-a]
 have g:D.at'=0:=by rw[<-a];rfl
 have n:D.tb=λ_=>0:=by rw[<-a]
 have j:D.jE=false:=by rw[<-a];rfl
 have p:D.now=[]:=by rw[<-a];rfl
 have c1:na D:=by rw[<-a];exact q1
 have q:fb D 0=eF (gi 1 0 [] (λ_=>0) [] (some [])):=by rw[<-a];exact(q2 0).trans h
 have c3:ie D 0=((eF (gi 1 0 [] (λ_=>0) [] (some []))).length:Int):=by
  rw[<-a];have:ie (mJ (kL Z0 0 (eF (gi 1 0 [] (λ_=>0) [] (some [])))) 0) 0=_:=m;rw[h] at this;exact this
 have c4:fb D 1=[]:=by rw[<-a];exact(q2 1).trans l
 rw[e,a];refine⟨⟨.inl g,c1,by rw[d,k1,c,f];exact Jl,trivial,by rw[n,f];exact td.refl _,by rw[p,c];rfl,by rw[i,k1];decide,⟨[],[],0,rfl,?_,ak _,?_,?_⟩,.inr ⟨j,?_⟩⟩,k1,d,j,c⟩
 ·rw[g,d,k1,c,f];exact q
 ·rw[g,d,k1,c,f];exact c3
 ·rw[i,k1];decide
 ·rw[g];exact c4
structure sT(L:hM)(now:BS):Prop where
 ch:fN L.base L.first 0 L.text L.gq
 tb:L.table=jr L.first L.base L.gq
 now:now=lW L.text L.gq
theorem Jm{L:hM}{now:BS}{f:Frame}{q:hM×BS}(h:oI L now f=some q)(hi:sT L now):sT q.1 q.2/\q.1.base=L.base/\q.1.gen=L.gen/\q.1.text=L.text/\q.1.first=L.first:=by
 unfold oI at h
 split at h
 ·split at h
  ·cases h
  ·cases h;exact⟨⟨hi.ch,hi.tb,hi.now⟩,rfl,rfl,rfl,rfl⟩
 ·split at h
  ·split at h
   ·rename_i hc;cases h;refine⟨⟨?_,?_,?_⟩,rfl,rfl,rfl,rfl⟩
    ·show fN L.base L.first 0 L.text (L.gq++[lp f.body])
     rw[lB];have a:L.base+((0:Nat):Int)=L.base:=by omega
     refine⟨hi.ch,?_,trivial⟩;rw[a,aW,<-hi.tb,<-hi.now];exact hc.2
    ·show iQ L.table _ _ _=jr L.first L.base (L.gq++[lp f.body])
     rw[rA,<-hi.tb];rfl
    ·show _=lW L.text (L.gq++[lp f.body]);rw[oO,<-hi.now];rfl
   ·cases h
  ·cases h
theorem Dd:∀(fs:List Frame)(L:hM)(now:BS),sT L now->(∃n,sT (k8 fs L now) n)/\(k8 fs L now).base=L.base/\(k8 fs L now).gen=L.gen/\(k8 fs L now).text=L.text/\(k8 fs L now).first=L.first
 |[],L,now,h=>⟨⟨now,h⟩,rfl,rfl,rfl,rfl⟩
 |f::fs,L,now,h=>by
  rw[k8];cases hs:oI L now f with
  |none=>exact⟨⟨now,h⟩,rfl,rfl,rfl,rfl⟩
  |some q=>
   obtain⟨h1,h2,h3,h4,h5⟩:=Jm hs h;obtain⟨g1,g2,g3,g4,g5⟩:=Dd fs q.1 q.2 h1;exact⟨g1,g2.trans h2,g3.trans h3,g4.trans h4,g5.trans h5⟩
theorem Jn{fs:List Frame}(h:(gS fs).2=0):(∃n,sT (gS fs).1 n)/\mZ (gS fs).1.gen (gS fs).1.base (gS fs).1.text (gS fs).1.first:=by
 have hb:=HO;have key:∀(hg a:BS->Int)(ht:BS->BS)(hf:BS->Nat->Int)(ho:BS->Bool),(∀x,nT (hg x))->(∀x,nT (a x))->(∀x,ho x=true->(ht x).length<=500)->(∀x j,nT (hf x j))->(mV hg a ht hf ho fs).2=0->
   (∃n,sT (mV hg a ht hf ho fs).1 n)/\mZ (mV hg a ht hf ho fs).1.gen (mV hg a ht hf ho fs).1.base (mV hg a ht hf ho fs).1.text (mV hg a ht hf ho fs).1.first:=by
  intro hg a ht hf ho k1 c d g h;cases fs with
  |nil=>exact absurd (show(7:Int)=0 from h) qD
  |cons f fs=>
   have e:mV hg a ht hf ho (f::fs)=if f.kind≠1\/ho f.body=false then(CN,3) else(k8 fs (uC (hg f.body) (a f.body) (ht f.body) (hf f.body) ((f.body.length:Int)+7)) (ht f.body),0):=rfl;rw[e] at h⊢
   split at h
   ·exact absurd h qD
   ·rename_i hc;rw[aa hc];have b:ho f.body=true:=by cases hx:ho f.body;exact absurd (.inr hx) hc;rfl
    obtain⟨g1,g2,g3,g4,g5⟩:=Dd fs (uC (hg f.body) (a f.body) (ht f.body) (hf f.body) ((f.body.length:Int)+7)) (ht f.body) ⟨trivial,rfl,rfl⟩;refine⟨g1,?_⟩;show mZ (k8 _ _ _).gen (k8 _ _ _).base (k8 _ _ _).text (k8 _ _ _).first
    rw[g2,g3,g4,g5];exact⟨k1 _,c _,d _ b,λj _=>g _ j⟩
 have hlen:∀x,mI x=true->(nK x 18).1.length<=500:=by
  intro x hx;unfold mI at hx
  generalize nK x 18=q at hx⊢
  simp only[aO,bM] at hx;exact hx.2
 exact key _ _ _ _ _ (λx=>hb x 0) (λx=>hb x 1) hlen (λx j=>hb x (j+2)) h
theorem sT.ok{L:hM}{now:BS}(h:sT L now)(hd:mZ L.gen L.base L.text L.first):C7 L:=by
 obtain⟨h1,h2,h3,h4⟩:=Db h.ch;have:=hd.b;unfold nT at this;exact⟨qW,qW,h1⟩
theorem zK{fs:List Frame}{L:hM}{e:Int}(h:gS fs=(L,e))(he:e=0):C7 L:=by
 have h2:(gS fs).2=0:=by rw[h];exact he
 obtain⟨⟨n,h3⟩,h4⟩:=Jn h2;rw[h] at h3 h4;exact h3.ok h4
def zL(y:O0)(x:V)(L':List (Nat×Ob)):Prop:=(y.e≠0/\x=.tup [.nil,.int .i64 y.e]/\L'=[])\/(y.e=0/\∃bl ba,x=.tup [.ptr 60 (some bl) 47 0 0,.int .i64 0]/\L'=[(60,eO bl (eM y.d (.own 1000200 ba 3 y.l.length) .nil)),(1000200,il ba (y.l.map bd)),(999,gu 0 none)])
theorem wA{a1 b1:BS}{a2 b2:Int}(h:iz a1 a2 b1 b2=0):a1.length<=1048576/\b1.length<=1048576:=by
 obtain⟨h1,h2⟩:=pk h;exact⟨(kg h1).1,(kg h2).1⟩
theorem Jo(a1:BS)(a2:Int)(b1:BS)(b2:Int):Spec Tryz.prog 159 [.agg [.str a1,qI a2,.str b1,qI b2]] (a8 []) λx h'=>∃L',zL (nL a1 a2 b1 b2) x L'/\h'=a8 L':=by
 refine dE hW Je (L:=[]) (zL (nL a1 a2 b1 b2)) λR b=>?_;obtain⟨LA,c,hA⟩:∃L e,gS (fR a1).1=(L,e):=⟨_,_,rfl⟩;obtain⟨LB,f,hB⟩:∃L e,gS (fR b1).1=(L,e):=⟨_,_,rfl⟩;refine Jf cp rfl _ _ Qh RR H9 oJ Iq a1 a2 b1 b2 (iz a1 a2 b1 b2) (gK (Be a1 a2 b1 b2) (λh=>.cons (.same _) .nil) rfl) (λh=>(wA h).1) (λh=>(wA h).2) LA LB c f hA hB (zK hA) (zK hB) (nL a1 a2 b1 b2) (by unfold nL;rw[hA,hB]) R ?_ ?_
 ·intro s s' e he hne a hr;subst he;exact b s s' (.tup [.nil,qI _]) [] a (da _ _ _ (λx hx=>by rw[hx];rfl) hr) trivial (.tup _ (by simp;exact⟨.nil,.int _ _⟩)) (λp hp=>by cases hp) (.inl ⟨hne,rfl,rfl⟩)
 ·intro s s' bl ba n rows d hd he hn hrows a hr ha;subst hd hn hrows;refine b s s' (.tup [.ptr 60 (some bl) 47 0 0,qI 0]) _ a (da _ _ _ (λx hx=>by rw[hx];rfl) hr) ha (.tup _ (by simp;exact⟨.ptr _ _ _ _ _,.int _ _⟩)) (λp hp=>?_) (.inr ⟨he,bl,ba,rfl,rfl⟩);simp only[ah,aq,aQ] at hp
  rcases hp with rfl|rfl|rfl
  ·exact iB (.own _ _ _ _) .nil bl
  ·exact gR _
  ·exact tz 0 none
def Jp(T:cm):Prop:=∀(k ka km:Nat)(a1:BS)(a2:Int)(b1:BS)(b2:Int)(h:Hp)(K:V->Hp->Prop),N3 k ka km->h k=none->h ka=none->h km=none->
 (∀d l e,⟨d,l,e⟩=nL a1 a2 b1 b2->(e≠0->K (.tup [.nil,qI e]) h)/\(e=0->∀bl ba n rows mo,n=l.length->rows=l.map bd->mo=gu 0 none->K (.tup [.ptr k (some bl) 47 0 0,qI 0]) (h.jl [(k,eO bl (eM d (.own ka ba 3 n) .nil)),(ka,il ba rows),(km,mo)])))->T 159 [.agg [.str a1,qI a2,.str b1,qI b2]] h K
theorem Qn:Jp (dF Tryz.prog):=by
 intro k ka km a1 a2 b1 b2 h K hN hk c f hK;obtain⟨n1,n2,n3⟩:=hN.ne;have g:¬ka=k:=λe=>n1 e.symm;have n:¬km=k:=λe=>n2 e.symm;have p:¬km=ka:=λe=>n3 e.symm;have l0:gD [(60,k),(1000200,ka),(999,km)] 60=k:=by simp[gD]
 have l1:gD [(60,k),(1000200,ka),(999,km)] 1000200=ka:=by simp[gD]
 have a:([(60,k),(1000200,ka),(999,km)].map (·.1)).Nodup:=by show([60,1000200,999]:List Nat).Nodup;decide
 have b:([(60,k),(1000200,ka),(999,km)].map (·.2)).Nodup:=by simp[n1,n2,n3]
 refine oe (Jo a1 a2 b1 b2) (m:=[(60,k),(1000200,ka),(999,km)]) (.cons (.same _) .nil) (λj o hj=>by cases hj) (λq hq=>⟨tw a q hq,ru b q hq,λo ho=>by cases ho⟩) ?_;obtain⟨y,hy⟩:∃y,nL a1 a2 b1 b2=y:=⟨_,rfl⟩;rw[hy] at hK⊢;obtain⟨d,l,e⟩:=y;rintro x L' (⟨he,rfl,rfl⟩|⟨he,bl,ba,rfl,rfl⟩)
 ·have r:h.jh [(60,k),(1000200,ka),(999,km)] (a8 [])=h:=by
   funext i
   simp only[Hp.jh,bZ,cE,cw,bq,bM]
   split
   ·rename_i hi;show(none:Option Ob)=_
    rcases hi with hi|hi|hi<;>subst hi
    ·rw[hk]
    ·rw[c]
    ·rw[f]
   ·rfl
  rw[r];exact(hK d l e rfl).1 he
 ·rw[zy h _ _ rfl a b (by simp)];have e1:mX [(60,k),(1000200,ka),(999,km)] (Ob.gy (gD [(60,k),(1000200,ka),(999,km)])) [(60,eO bl (eM d (.own 1000200 ba 3 l.length) .nil)),(1000200,il ba (l.map bd)),(999,gu 0 none)]=[(k,eO bl (eM d (.own ka ba 3 l.length) .nil)),(ka,il ba (l.map bd)),(km,gu 0 none)]:=by
   simp only[mX,cZ,dR,iA,kp,uP];show[(k,eO bl (eM d (.own (gD _ 1000200) ba 3 l.length) _)),_,_]=_;rw[l1];rfl
  rw[e1];have s:(V.tup [.ptr 60 (some bl) 47 0 0,qI 0]).gy (gD [(60,k),(1000200,ka),(999,km)])=.tup [.ptr k (some bl) 47 0 0,qI 0]:=by
   show V.tup [.ptr (gD _ 60) (some bl) 47 0 0,qI 0]=_;rw[l0]
  rw[s];exact(hK d l e rfl).2 he bl ba _ _ _ rfl rfl rfl
theorem lD(p:Part)(u k:Int)(hp:nR p):kE (chunk p u k)=if p.kind=2 then 0 else k.toNat:=by
 have h1:=gU hp;unfold chunk
 split
 ·unfold kE;rw[r7];rfl
 ·have:=oh [] (if p.kind=1 then Tok.keep else Tok.cut) (by split<;>simp) k.toNat
  simp only[cL,iL] at this;simp[kE,this]
def mt(xs a:List Tok):List Tok×List Tok:=iV (xs.length+a.length) xs a
theorem nB:∀(f:Nat)(xs a:List Tok),xs.length+a.length<=f->iV f xs a=mt xs a:=by
 have key:∀(f g:Nat)(xs a:List Tok),xs.length+a.length<=f->xs.length+a.length<=g->iV f xs a=iV g xs a:=by
  intro f
  induction f with
  |zero=>
   intro g xs a h _;have h1:xs=[]:=aB qW;have h2:a=[]:=aB qW;subst h1 h2;cases g<;>rfl
  |succ f ih=>
   intro g xs a h1 h2;cases g with
   |zero=>
    have e1:xs=[]:=aB qW;have b:a=[]:=aB qW;subst e1 b;rfl
   |succ g=>
    rcases xs with _|⟨x,xs⟩
    ·rcases a with _|⟨y,a⟩
     ·rfl
     ·simp at h1 h2;cases y<;>simp only[iV]
      rw[ih g [] a (by simp;omega) (by simp;omega)]
    ·rcases a with _|⟨y,a⟩
     ·simp at h1 h2;cases x<;>simp only[iV]
      rw[ih g xs [] (by simp;omega) (by simp;omega)]
     ·simp at h1 h2;cases x<;>cases y<;>simp only[iV]
      all_goals(rw[ih g _ _ (by first|omega|(simp;omega)) (by first|omega|(simp;omega))])
 exact λf xs a h=>key _ _ xs a h (ak _)
theorem R1(xs a:List Tok)(b:UInt8):mt (.put b::xs) a=(.put b::(mt xs a).1,.keep::(mt xs a).2):=by
 unfold mt;rw[show(Tok.put b::xs).length+a.length=(xs.length+a.length)+1 by simp;omega];rfl
theorem R2(xs a:List Tok)(b:UInt8)(h:∀c r,xs≠.put c::r):mt xs (.put b::a)=(.keep::(mt xs a).1,.put b::(mt xs a).2):=by
 unfold mt;rw[show xs.length+(Tok.put b::a).length=(xs.length+a.length)+1 by simp;omega,iV];intro c r hr;exact h c r hr
theorem R3(xs a:List Tok):mt (.keep::xs) (.keep::a)=(.keep::(mt xs a).1,.keep::(mt xs a).2):=by
 conv=>lhs;unfold mt
 rw[show(Tok.keep::xs).length+(Tok.keep::a).length=(xs.length+a.length+1)+1 by simp;omega,iV,nB _ _ _ qW]
theorem R4(xs a:List Tok):mt (.cut::xs) (.keep::a)=(.cut::(mt xs a).1,(mt xs a).2):=by
 conv=>lhs;unfold mt
 rw[show(Tok.cut::xs).length+(Tok.keep::a).length=(xs.length+a.length+1)+1 by simp;omega,iV,nB _ _ _ qW]
theorem R5(xs a:List Tok):mt (.keep::xs) (.cut::a)=((mt xs a).1,.cut::(mt xs a).2):=by
 conv=>lhs;unfold mt
 rw[show(Tok.keep::xs).length+(Tok.cut::a).length=(xs.length+a.length+1)+1 by simp;omega,iV,nB _ _ _ qW]
theorem R6(xs a:List Tok):mt (.cut::xs) (.cut::a)=mt xs a:=by
 conv=>lhs;unfold mt
 rw[show(Tok.cut::xs).length+(Tok.cut::a).length=(xs.length+a.length+1)+1 by simp;omega,iV,nB _ _ _ qW]
theorem Qo(t:BS)(xs a:List Tok):mt (t.map .put++xs) a=(t.map .put++(mt xs a).1,List.replicate t.length .keep++(mt xs a).2):=by
 induction t with
 |nil=>rfl
 |cons b t ih=>simp only[aI,aD,R1,ih,ar,bf]
theorem Qp(t:BS)(xs a:List Tok)(h:∀c r,xs≠.put c::r):mt xs (t.map .put++a)=(List.replicate t.length .keep++(mt xs a).1,t.map .put++(mt xs a).2):=by
 induction t with
 |nil=>rfl
 |cons b t ih=>simp only[aI,aD,R2 _ _ _ h,ih,ar,bf]
theorem Qq(n:Nat)(xs a:List Tok):mt (List.replicate n .keep++xs) (List.replicate n .keep++a)=(List.replicate n .keep++(mt xs a).1,List.replicate n .keep++(mt xs a).2):=by
 induction n with
 |zero=>rfl
 |succ n ih=>simp only[bf,aD,R3,ih]
theorem Qr(n:Nat)(xs a:List Tok):mt (List.replicate n .cut++xs) (List.replicate n .keep++a)=(List.replicate n .cut++(mt xs a).1,(mt xs a).2):=by
 induction n with
 |zero=>rfl
 |succ n ih=>simp only[bf,aD,R4,ih]
theorem Qs(n:Nat)(xs a:List Tok):mt (List.replicate n .keep++xs) (List.replicate n .cut++a)=((mt xs a).1,List.replicate n .cut++(mt xs a).2):=by
 induction n with
 |zero=>rfl
 |succ n ih=>simp only[bf,aD,R5,ih]
theorem Qt(n:Nat)(xs a:List Tok):mt (List.replicate n .cut++xs) (List.replicate n .cut++a)=mt xs a:=by
 induction n with
 |zero=>rfl
 |succ n ih=>simp only[bf,aD,R6,ih]
def gF(m:Mk)(a b:Part)(n:Int):Mk:=if a.kind=1/\b.kind=1 then m.fU n else if a.kind=3/\b.kind=1 then m.hO n else m
def gG(m:Mk)(a b:Part)(n:Int):Mk:=if a.kind=1/\b.kind=1 then m.fU n else if a.kind=1/\b.kind=3 then m.hO n else m
theorem Nf{p:Part}{r:List Part}{u:Int}(ok:oG (p::r) u)(h2:p.kind≠2):∀c q,fI (p::r) u≠.put c::q:=by
 intro c q hq;have hu:=ok.2;simp only at hu;have hk:0<=ds p-u/\u+(ds p-u)<=ds p:=by omega
 have h1:=kK ok hk;obtain⟨n,hn⟩:∃n,(ds p-u).toNat=n+1:=⟨(ds p-u).toNat-1,qW⟩;have:chunk p u (ds p-u)=List.replicate (ds p-u).toNat (if p.kind=1 then Tok.keep else Tok.cut):=by unfold chunk;rw[aa h2]
 rw[h1,this,hn,bf] at hq;simp only[aD,cy] at hq;have:=hq.1
 split at this<;>cases this
theorem Jq{p:Part}{r lb:List Part}{ua ub:Int}(ok:oG (p::r) ua)(h2:p.kind=2)(rZ:kE (fI (p::r) ua)=kE (fI lb ub)):
  mt (fI (p::r) ua) (fI lb ub)=((k7 (p::r) ua (ds p-ua)).map .put++(mt (fI (eA (p::r) ua (ds p-ua)).1 (eA (p::r) ua (ds p-ua)).2) (fI lb ub)).1,List.replicate (k7 (p::r) ua (ds p-ua)).length .keep++(mt (fI (eA (p::r) ua (ds p-ua)).1 (eA (p::r) ua (ds p-ua)).2) (fI lb ub)).2)/\
   kE (fI (eA (p::r) ua (ds p-ua)).1 (eA (p::r) ua (ds p-ua)).2)=kE (fI lb ub)/\((fI (p::r) ua).length:Int)=(ds p-ua)+(fI (eA (p::r) ua (ds p-ua)).1 (eA (p::r) ua (ds p-ua)).2).length/\(k7 (p::r) ua (ds p-ua)).length=(ds p-ua).toNat:=by
 have hu:=ok.2;simp only at hu;have hk:0<=ds p-ua/\ua+(ds p-ua)<=ds p:=by omega
 have h1:=kK ok hk;have h3:=pv ok hk;have hc:chunk p ua (ds p-ua)=(k7 (p::r) ua (ds p-ua)).map .put:=by unfold chunk;rw[ab h2];simp[k7,h2]
 have ho:=lD p ua (ds p-ua) (ok.1 p (by simp));rw[ab h2] at ho;refine⟨?_,?_,?_,?_⟩
 ·rw[h1,hc,Qo]
 ·rw[h1,lv] at rZ;omega
 ·rw[h1,ae,h3];omega
 ·rw[hc,aH] at h3;exact h3
theorem zM{q:Part}{s la:List Part}{ua ub:Int}(ok:oG (q::s) ub)(h2:q.kind=2)(a:∀c r,fI la ua≠.put c::r)(rZ:kE (fI la ua)=kE (fI (q::s) ub)):
  mt (fI la ua) (fI (q::s) ub)=(List.replicate (k7 (q::s) ub (ds q-ub)).length .keep++(mt (fI la ua) (fI (eA (q::s) ub (ds q-ub)).1 (eA (q::s) ub (ds q-ub)).2)).1,(k7 (q::s) ub (ds q-ub)).map .put++(mt (fI la ua) (fI (eA (q::s) ub (ds q-ub)).1 (eA (q::s) ub (ds q-ub)).2)).2)/\
   kE (fI la ua)=kE (fI (eA (q::s) ub (ds q-ub)).1 (eA (q::s) ub (ds q-ub)).2)/\((fI (q::s) ub).length:Int)=(ds q-ub)+(fI (eA (q::s) ub (ds q-ub)).1 (eA (q::s) ub (ds q-ub)).2).length/\(k7 (q::s) ub (ds q-ub)).length=(ds q-ub).toNat:=by
 have hu:=ok.2;simp only at hu;have hk:0<=ds q-ub/\ub+(ds q-ub)<=ds q:=by omega
 have h1:=kK ok hk;have h3:=pv ok hk;have hc:chunk q ub (ds q-ub)=(k7 (q::s) ub (ds q-ub)).map .put:=by unfold chunk;rw[ab h2];simp[k7,h2]
 have ho:=lD q ub (ds q-ub) (ok.1 q (by simp));rw[ab h2] at ho;refine⟨?_,?_,?_,?_⟩
 ·rw[h1,hc,Qp _ _ _ a]
 ·rw[h1,lv] at rZ;omega
 ·rw[h1,ae,h3];omega
 ·rw[hc,aH] at h3;exact h3
theorem BJ{p q:Part}{r s:List Part}{ua ub k:Int}{m1 m2:Mk}(sx:oG (p::r) ua)(pM:oG (q::s) ub)(h3:p.kind≠2)(h2:q.kind≠2)(hk:0<=k)(c:ua+k<=ds p)(d:ub+k<=ds q)(rZ:kE (fI (p::r) ua)=kE (fI (q::s) ub)):
  m1.run (mt (fI (p::r) ua) (fI (q::s) ub)).1=(gF m1 p q k).run (mt (fI (eA (p::r) ua k).1 (eA (p::r) ua k).2) (fI (eA (q::s) ub k).1 (eA (q::s) ub k).2)).1/\
  m2.run (mt (fI (p::r) ua) (fI (q::s) ub)).2=(gG m2 p q k).run (mt (fI (eA (p::r) ua k).1 (eA (p::r) ua k).2) (fI (eA (q::s) ub k).1 (eA (q::s) ub k).2)).2/\
   kE (fI (eA (p::r) ua k).1 (eA (p::r) ua k).2)=kE (fI (eA (q::s) ub k).1 (eA (q::s) ub k).2)/\((fI (p::r) ua).length:Int)=k+(fI (eA (p::r) ua k).1 (eA (p::r) ua k).2).length/\((fI (q::s) ub).length:Int)=k+(fI (eA (q::s) ub k).1 (eA (q::s) ub k).2).length:=by
 have h:=sx.2;have i:=pM.2;simp only at h i;have a1:=kK sx ⟨hk,c⟩;have a2:=pv sx ⟨hk,c⟩;have b1:=kK pM ⟨hk,d⟩;have b2:=pv pM ⟨hk,d⟩;have j:=gU (sx.1 p (by simp));have l:=gU (pM.1 q (by simp));have ho:=lD p ua k (sx.1 p (by simp));have hi:=lD q ub k (pM.1 q (by simp));rw[aa h3] at ho;rw[aa h2] at hi;have e:((k.toNat:Nat):Int)=k:=by omega
 have m:chunk p ua k=List.replicate k.toNat (if p.kind=1 then .keep else .cut):=by unfold chunk;rw[aa h3]
 have n:chunk q ub k=List.replicate k.toNat (if q.kind=1 then .keep else .cut):=by unfold chunk;rw[aa h2]
 have key:m1.run (mt (fI (p::r) ua) (fI (q::s) ub)).1=(gF m1 p q k).run (mt (fI (eA (p::r) ua k).1 (eA (p::r) ua k).2) (fI (eA (q::s) ub k).1 (eA (q::s) ub k).2)).1/\
  m2.run (mt (fI (p::r) ua) (fI (q::s) ub)).2=(gG m2 p q k).run (mt (fI (eA (p::r) ua k).1 (eA (p::r) ua k).2) (fI (eA (q::s) ub k).1 (eA (q::s) ub k).2)).2:=by
  rw[a1,b1,m,n]
  by_cases a:p.kind=1
  ·by_cases q1:q.kind=1
   ·have b:gF m1 p q k=m1.fU k:=by simp[gF,a,q1]
    have z2:gG m2 p q k=m2.fU k:=by simp[gG,a,q1]
    rw[ab a,ab q1,b,z2,Qq];simp only[Mk.kb,Mk.od,e,and_self]
   ·have f:q.kind=3:=by omega
    have b:gF m1 p q k=m1:=by simp[gF,a,f]
    have z2:gG m2 p q k=m2.hO k:=by simp[gG,a,f]
    rw[ab a,aa q1,b,z2,Qs];simp only[Mk.kb,Mk.ti,e,and_self]
  ·have g:p.kind=3:=by omega
   by_cases q1:q.kind=1
   ·have b:gF m1 p q k=m1.hO k:=by simp[gF,g,q1]
    have z2:gG m2 p q k=m2:=by simp[gG,g]
    rw[aa a,ab q1,b,z2,Qr];simp only[Mk.kb,Mk.ti,e,and_self]
   ·have f:q.kind=3:=by omega
    have b:gF m1 p q k=m1:=by simp[gF,g,f]
    have z2:gG m2 p q k=m2:=by simp[gG,g]
    rw[aa a,aa q1,b,z2,Qt];exact⟨rfl,rfl⟩
 refine⟨key.1,key.2,?_,?_,?_⟩
 ·rw[a1,b1,lv,lv] at rZ;omega
 ·rw[a1,ae,a2];omega
 ·rw[b1,ae,b2];omega
def wB(a b:List Part):List Part:=nI (mt (fP a) (fP b)).1
def wC(a b:List Part):List Part:=nI (mt (fP a) (fP b)).2
def uS(a b:List Part):Int:=if cR a≠0 then cR a else if cR b≠0 then cR b else if lg a≠lg b then 4 else if cR (wB a b)≠0 then cR (wB a b) else cR (wC a b)
def ld(a b:List Part):List Part×List Part×Int:=if uS a b=0 then(wB a b,wC a b,0) else([],[],uS a b)
def Jr(rv:List RV)(r1 r2:List (List V))(e:Int)(R:S->Prop):Prop:=
 (∀(s s':S)(a:Int),cd s s'->ia rv [.nilsl,.nilsl,.int .i64 a] s'->r1=[]/\r2=[]/\a=e->R s)/\
 (∀(s s':S)(k1 b:Nat)(b1 b2:Option Nat)(t1 t2 n1 n2:Nat)(w1 w2:List (List V))(a:Int),cd s s'->ia rv [.own k1 b1 3 n1,.own b b2 3 n2,.int .i64 a] s'->s'.h k1=some ⟨b1,t1,3,w1⟩->s'.h b=some ⟨b2,t2,3,w2⟩->n1=r1.length/\n2=r2.length/\w1=r1/\w2=r2/\a=e->R s)/\
 (∀(s s':S)(w1 w2:List (List V))(a:Int),cd s s'->ia rv [.sl false 3 w1,.sl false 3 w2,.int .i64 a] s'->w1=r1/\w2=r2/\a=e->R s)
theorem E5{rv:List RV}{a b:List Part}{e:Int}{R:S->Prop}(c:∀s s',cd s s'->Gq rv (.tup [gI a,gI b,.int .i64 e]) s'->R s):Jr rv (a.map a7) (b.map a7) e R:=by
 refine⟨?_,?_,?_⟩
 ·rintro s s' d he hr ⟨h1,h2,rfl⟩;refine c s s' he (da _ _ _ (λx hx=>?_) hr);subst hx;unfold gI;rw[h1,h2];exact .jI (.nilsl 3) (.jI (.nilsl 3) (.jI (.same _ (.int _ _)) .xh))
 ·rintro s s' k1 f b1 b2 t1 t2 n1 n2 w1 w2 d he hr g1 g2 ⟨rfl,rfl,rfl,rfl,rfl⟩;refine c s s' he (da _ _ _ (λx hx=>?_) hr);subst hx;exact .jI (.rows g1 rfl rfl rfl (mS _) (fL _)) (.jI (.rows g2 rfl rfl rfl (mS _) (fL _)) (.jI (.same _ (.int _ _)) .xh))
 ·rintro s s' w1 w2 d he hr ⟨rfl,rfl,rfl⟩;refine c s s' he (da _ _ _ (λx hx=>?_) hr);subst hx;exact .jI (.same _ (.sl _ _ (fL _))) (.jI (.same _ (.sl _ _ (fL _))) (.jI (.same _ (.int _ _)) .xh))
def De:AC:=qr [qo 4 (.mov (.c (.slice none 0 0))),qo 5 (.mov (.c (.slice none 0 0))),qz 6 0] (qr [qm 26 0,qa 27 188 [.t 26],qm 25 27,qx 28 0 25,qx 29 1 25,qx 30 2 25,qm 7 28,qm 8 29,qm 9 30] (qq (qr [qm 31 9,qc 32 .neq 31 0] (qu 32 (qr [qm 33 9,qo 4 (.mov (.c (.slice none 0 0))),qo 5 (.mov (.c (.slice none 0 0))),qm 6 33] .ret) .skip)) (qr [qm 35 1,qa 36 188 [.t 35],qm 34 36,qx 37 0 34,qx 38 1 34,qx 39 2 34,qm 10 37,qm 11 38,qm 9 39] (qq (qr [qm 40 9,qc 41 .neq 40 0] (qu 41 (qr [qm 42 9,qo 4 (.mov (.c (.slice none 0 0))),qo 5 (.mov (.c (.slice none 0 0))),qm 6 42] .ret) .skip)) (qq (qr [qm 43 7,qm 44 10,qb 45 .neq 43 44] (qu 45 (qr [qo 4 (.mov (.c (.slice none 0 0))),qo 5 (.mov (.c (.slice none 0 0))),qz 6 4] .ret) .skip)) (qr [qo 12 (.alloc 88 SU),qo 13 (.alloc 88 SU)] (qr [qm 46 0,qa 47 230 [.t 46],qm 48 1,qa 49 230 [.t 48],qm 14 47,qm 15 49] (qq (.block 0 (.loop (qq (qr [qm 50 14,qa 51 231 [.t 50],qc 52 .neq 51 0,qm 53 52,qg 54 53 false (.mov (.t 15)),qg 55 53 false (.call 231 [.t 54]),qg 56 53 false (.bin .neq (.t 55) (qk 0)),qo 57 (.pick (.t 53) (.c (.bool true)) (.t 56))] (qu 57 .skip (.exit 0))) (.block 1 (.block 2 (qr [qm 103 14,qa 104 231 [.t 103],qc 105 .eql 104 2,qm 102 105] (qu 102 (qr [qm 106 14,qm 107 14,qa 108 233 [.t 107],qa 109 232 [.t 106,.t 108],qm 16 109] (qr [qm 110 16,qa 111 34 [.t 12,.t 110]] (qR [qm 112 16,qo 113 (.len true (.t 112)),qa 114 32 [.t 13,.t 113]]))) (qr [qm 116 15,qa 117 231 [.t 116],qc 118 .eql 117 2,qm 115 118] (qu 115 (qr [qm 119 15,qm 120 15,qa 121 233 [.t 120],qa 122 232 [.t 119,.t 121],qm 17 122] (qr [qm 123 17,qa 124 34 [.t 13,.t 123]] (qR [qm 125 17,qo 126 (.len true (.t 125)),qa 127 32 [.t 12,.t 126]]))) (qr [qm 58 14,qa 59 233 [.t 58],qm 60 15,qa 61 233 [.t 60],qo 62 (.mm false (.t 59) (.t 61)),qm 18 62] (qr [qm 63 14,qa 64 231 [.t 63],qc 65 .eql 64 3,qm 66 15,qa 67 231 [.t 66],qc 68 .eql 67 3,qm 19 65,qm 20 68] (qr [qm 69 14,qm 70 18,qa 71 232 [.t 69,.t 70]] (qr [qm 72 15,qm 73 18,qa 74 232 [.t 72,.t 73]] (.block 3 (qr [qm 76 19,qo 77 (.not (.t 76)),qm 78 77,qg 79 78 true (.mov (.t 20)),qg 80 78 true (.not (.t 79)),qo 81 (.pick (.t 78) (.t 80) (.c (.bool false))),qm 75 81] (qu 75 (qr [qm 82 18,qa 83 32 [.t 12,.t 82]] (qR [qm 84 18,qa 85 32 [.t 13,.t 84]])) (qr [qm 87 19,qm 88 87,qg 89 88 true (.mov (.t 20)),qg 90 88 true (.not (.t 89)),qo 91 (.pick (.t 88) (.t 90) (.c (.bool false))),qm 86 91] (qu 86 (qR [qm 92 18,qa 93 33 [.t 12,.t 92]]) (qr [qm 95 20,qm 96 95,qg 97 96 true (.mov (.t 19)),qg 98 96 true (.not (.t 97)),qo 99 (.pick (.t 96) (.t 98) (.c (.bool false))),qm 94 99] (qu 94 (qR [qm 100 18,qa 101 33 [.t 13,.t 100]]) .skip)))))))))))))))))))) (qr [qa 128 35 [.t 12],qa 129 35 [.t 13],qm 21 128,qm 22 129] (qq (qr [qm 130 21,qa 131 187 [.t 130],qm 23 131] (qr [qm 132 23,qc 133 .neq 132 0] (qu 133 (qr [qm 134 23,qo 4 (.mov (.c (.slice none 0 0))),qo 5 (.mov (.c (.slice none 0 0))),qm 6 134] .ret) .skip))) (qq (qr [qm 135 22,qa 136 187 [.t 135],qm 24 136] (qr [qm 137 24,qc 138 .neq 137 0] (qu 138 (qr [qm 139 24,qo 4 (.mov (.c (.slice none 0 0))),qo 5 (.mov (.c (.slice none 0 0))),qm 6 139] .ret) .skip))) (qr [qm 140 21,qm 141 22,qm 4 140,qm 5 141,qz 6 0] .ret))))))))))))
theorem Ng:fF Tryz.prog 202 Tryz.f202 De [.t 4,.t 5,.t 6] 2 dS:=⟨Tryz.func202,by decide+kernel,by kernel_rfl,by kernel_rfl,by decide+kernel⟩
structure YM(t1 t2:List Tok) where
 la:List Part
 ua:Int
 lb:List Part
 ub:Int
 ra:List (List V)
 rb:List (List V)
 m1:Mk
 n1:Nat
 Qu:BS
 Qv:Int
 Js:List (List V)
 b1:Option Nat
 m2:Mk
 n2:Nat
 pO:BS
 Jt:Int
 rows2:List (List V)
 b2:Option Nat
 j:Nat
 EM:ra=la.map a7
 vq:rb=lb.map a7
 K9:n1=m1.out.length/\Js=m1.out.map a7/\Qu=m1.put/\Qv=m1.cut
 pR:n2=m2.out.length/\rows2=m2.out.map a7/\pO=m2.put/\Jt=m2.cut
 sx:oG la ua
 pM:oG lb ub
 rC:Mk.new.run t1=m1.run (mt (fI la ua) (fI lb ub)).1
 rD:Mk.new.run t2=m2.run (mt (fI la ua) (fI lb ub)).2
 rZ:kE (fI la ua)=kE (fI lb ub)
 hb1:m1.Bd j j
 hb2:m2.Bd j j
 hj:j+(fI la ua).length+(fI lb ub).length<=10000
theorem Nh(P:Prim)(hP:P=cp)(T T1:cm)(a b:List Part)(S8 S9:List (List V))(R7:S8=a.map a7)(R8:S9=b.map a7)
  (E:∀k:Int,0<=k/\k<=1000000->yK T 32 [qI k] (λm=>∃j w,m.Bd j w/\j<=2000000) (λm=>m.fU k) nJ)
  (X:∀s:BS,s.length<=1000000000->yK T 34 [.str s] (λm=>m.put.length+s.length<=1000000000) (λm=>m.iM s) nJ)
  (R9:∀k:Int,0<=k/\k<=1000000->yK T 33 [qI k] (λm=>∃j w,m.Bd j w/\j<=2000000) (λm=>m.hO k) nJ)
  (Y:yK T 35 [] (λm=>m.out.length<=100000000) (λm=>⟨m.flush,[],0⟩) yL)
  (O:OT T)(i:Mq T 231 (λ_ _=>True) (λl _=>CE l) true)(z:Mq T 233 (λl u=>l≠[]/\oG l u) (λl u=>sP l-u) true)(A:OS T)
  (Q:∀(d:List Part)(h:Hp)(K:V->Hp->Prop)(k:Nat)(b:Option Nat)(n:Nat)(rs:List (List V))(q:Int),d.length<=100000000->rs=d.map a7->n=rs.length->q=cR d->h k=some ⟨b,41,3,rs⟩->K (qI q) h->T 187 [.own k b 3 n] h K)
  (i1 o1 c1 i2 o2 c2:Int)(hs1:vW a=(i1,o1,c1))(hs2:vW b=(i2,o2,c2))
  (U8:hJ T 188 [.sl false 3 S8] (.tup [qI i1,qI o1,qI c1]))(U9:hJ T 188 [.sl false 3 S9] (.tup [qI i2,qI o2,qI c2]))
  (r1 r2:List Part)(e:Int)(hr:ld a b=(r1,r2,e))(Ta Tb:List (List V))(Z:Ta=r1.map a7)(Qw:Tb=r2.map a7)
  (R:S->Prop)(hR:Jr [.t 4,.t 5,.t 6] Ta Tb e R):gE P T T1 De (S0 [.sl false 3 S8,.sl false 3 S9] Hp.emp) R (λ_ _=>False) R:=by
 have bad:∀x:Int,uS a b=x->x≠0->Ta=[]/\Tb=[]/\x=e:=by
  intro x hx h0;unfold ld at hr;rw[hx,aa h0] at hr;simp only[aX] at hr;refine⟨by rw[Z,<-hr.1];rfl,by rw[Qw,<-hr.2.1];rfl,hr.2.2⟩
 have fW:uS a b=0->Ta=(wB a b).map a7/\Tb=(wC a b).map a7/\0=e:=by
  intro hx;unfold ld at hr;rw[hx,ab rfl] at hr;simp only[aX] at hr;exact⟨by rw[Z,<-hr.1],by rw[Qw,<-hr.2.1],hr.2.2⟩
 clear hr Z Qw;have q1:c1=cR a/\(cR a=0->i1=lg a):=by
  unfold vW at hs1
  by_cases h:cR a=0
  ·rw[ab h] at hs1;simp only[aX] at hs1;exact⟨qW,λ_=>hs1.1.symm⟩
  ·rw[aa h] at hs1;simp only[aX] at hs1;exact⟨hs1.2.2.symm,λhh=>absurd hh h⟩
 have q2:c2=cR b/\(cR b=0->i2=lg b):=by
  unfold vW at hs2
  by_cases h:cR b=0
  ·rw[ab h] at hs2;simp only[aX] at hs2;exact⟨qW,λ_=>hs2.1.symm⟩
  ·rw[aa h] at hs2;simp only[aX] at hs2;exact⟨hs2.2.2.symm,λhh=>absurd hh h⟩
 clear hs1 hs2;unfold uS at bad fW;rw[<-q1.1,<-q2.1] at bad fW;cbv;refine U8 _ _ ?_;clear U8;cbv;refine a6 (λh=>?_) (λh=>?_)
 ·have v:c1≠0:=iG hP h;rw[ab v] at bad;cbv;exact hR.1 _ _ _ (cd.refl _) rfl (bad _ rfl v)
 have hz1:c1=0:=iy hP h;rw[aa (λh=>h hz1)] at bad fW;cbv;refine U9 _ _ ?_;clear U9;cbv;refine a6 (λh=>?_) (λh=>?_)
 ·have v:c2≠0:=iG hP h;rw[ab v] at bad;cbv;exact hR.1 _ _ _ (cd.refl _) rfl (bad _ rfl v)
 have hz2:c2=0:=iy hP h;rw[aa (λh=>h hz2)] at bad fW;have za:cR a=0:=q1.1.symm.trans hz1;have zb:cR b=0:=q2.1.symm.trans hz2;rw[<-q1.2 za,<-q2.2 zb] at bad fW;cbv;refine a6 (λh=>?_) (λh=>?_)
 ·have v:i1≠i2:=iG hP h;rw[ab v] at bad;cbv;exact hR.1 _ _ _ (cd.refl _) rfl (bad _ rfl qD)
 have Tc:i1=i2:=iy hP h;rw[aa (λh=>h Tc)] at bad fW;rw[q1.2 za,q2.2 zb] at Tc;obtain⟨Va,Qx,XT,XU,_,_⟩:=gw za;obtain⟨T6,Qy,hb1,hb2,_,_⟩:=gw zb;have XV:=pj a Qx;have WD:=ou a Qx;have XW:=ou b Qy;have WE:=pj b Qy;have hlen:∀ts:List Tok,ts.length<=kE ts+iN ts:=by
  intro ts
  induction ts with
  |nil=>simp
  |cons t ts ih=>cases t<;>simp[kE,iL,iN] at* <;>omega
 have SX:=hlen (fP a);have Rs:=hlen (fP b);have Vb:∀(l:List Part),(∀p∈l,nR p)->oG l 0:=by
  intro l hl;refine⟨hl,?_⟩;cases l with
  |nil=>rfl
  |cons p l=>exact⟨bn _,size_pos (hl p (by simp))⟩
 have G:∀l:List Part,fI l 0=fP l:=λl=>by simp[fI]
 clear h;cbv;intro Sa;cbv;intro Sb;cbv;refine O 2000 a _ _ _ R7 rfl rfl λbx=>?_;cbv;refine O 2001 b _ _ _ R8 rfl rfl λbz=>?_;clear O;cbv;refine⟨YM (mt (fP a) (fP b)).1 (mt (fP a) (fP b)).2,λy=>[(12,.ptr 12 (some Sa) 3 0 0),(13,.ptr 13 (some Sb) 3 0 0),(14,.ptr 2000 (some bx) 2 0 0),(15,.ptr 2001 (some bz) 2 0 0)],
  λy=>[(12,⟨some Sa,88,3,[[.own 1000998 y.b1 3 y.n1,.str y.Qu,qI y.Qv]]⟩),(1000998,⟨y.b1,41,3,y.Js⟩),(13,⟨some Sb,88,3,[[.own 1000999 y.b2 3 y.n2,.str y.pO,qI y.Jt]]⟩),(1000999,⟨y.b2,41,3,y.rows2⟩),(2000,⟨some bx,270,2,[[.sl false 3 y.ra,qI y.ua]]⟩),(2001,⟨some bz,270,2,[[.sl false 3 y.rb,qI y.ub]]⟩)],
  λy=>(fI y.la y.ua).length+(fI y.lb y.ub).length,
  ⟨_,cd.trans (cd.kQ (k:=12) (k':=1000998) (ty:=41) (sz:=3) (r:=0) (c:=0) rfl rfl rfl rfl) (cd.kQ (k:=13) (k':=1000999) (ty:=41) (sz:=3) (r:=0) (c:=0) rfl rfl rfl rfl),⟨a,0,b,0,S8,S9,Mk.new,_,_,_,_,_,Mk.new,_,_,_,_,_,0,R7,R8,⟨rfl,rfl,rfl,rfl⟩,⟨rfl,rfl,rfl,rfl⟩,Vb a Qx,Vb b Qy,by rw[G,G],by rw[G,G],by rw[G,G];((try simp only[nc] at*);omega),Mk.xi,Mk.xi,by rw[G,G];((try simp only[nc] at*);omega)⟩,⟨rfl,rfl,rfl,rfl,trivial⟩,⟨rfl,rfl,rfl,rfl,rfl,rfl,trivial⟩⟩,?_⟩
 rintro⟨la,ua,lb,ub,ra,rb,m1,n1,Qu,Qv,XX,XY,m2,n2,pO,Jt,XZ,X0,j,EM,vq,K9,pR,sx,pM,rC,rD,rZ,hb1,hb2,hj⟩;have WG:=hb1.put;have WH:=hb1.len;have WI:=hb2.put;have WJ:=hb2.len;cbv;refine i _ _ _ _ _ _ _ EM trivial rfl λkx Vc=>?_;cbv
 rcases la with _|⟨p,la⟩
 ·have Td:kx=0:=Vc;refine eB (xm hP Td) ?_;cbv;refine i _ _ _ _ _ _ _ vq trivial rfl λky Vd=>?_;cbv
  rcases lb with _|⟨q,lb⟩
  ·
   have WK:ky=0:=Vd;have hc:wB a b=m1.flush:=by show(Mk.new.run _).flush=_;rw[rC];simp[fI,fP,mt,iV,Mk.run]
   have hd:wC a b=m2.flush:=by show(Mk.new.run _).flush=_;rw[rD];simp[fI,fP,mt,iV,Mk.run]
   have X1:=hb1.flush.1;have R0:=hb2.flush.1;refine eB (xm hP WK) ?_;cbv;refine Y _ _ _ _ _ _ _ _ m1 _ _ K9 qW rfl rfl rfl λX2 X3 Sc X4 w1 g=>?_;obtain⟨Rx,g,_,_⟩:=g;simp only[] at Rx g;cbv;refine Y _ _ _ _ _ _ _ _ m2 _ _ pR qW rfl rfl rfl λX5 X6 Ve X7 w2 o=>?_;obtain⟨K3,o,_,_⟩:=o;simp only[] at K3 o;obtain⟨x1,Vf⟩:∃x,x=cR m1.flush:=⟨_,rfl⟩;obtain⟨x2,Te⟩:∃x,x=cR m2.flush:=⟨_,rfl⟩;rw[hc,hd,<-Vf,<-Te] at bad fW;cbv;refine Q m1.flush _ _ _ _ _ _ x1 qW g (by rw[Rx,g];simp) Vf rfl ?_;cbv;refine a6 (λh=>?_) (λh=>?_)
   ·have v:x1≠0:=iG hP h;rw[ab v] at bad;cbv;exact hR.1 _ _ _ (cd.refl _) rfl (bad _ rfl v)
   have T7:x1=0:=iy hP h;rw[aa (λh=>h T7)] at bad fW;cbv;refine Q m2.flush _ _ _ _ _ _ x2 qW o (by rw[K3,o];simp) Te rfl ?_;cbv;refine a6 (λh=>?_) (λh=>?_)
   ·have v:x2≠0:=iG hP h;cbv;exact hR.1 _ _ _ (cd.refl _) rfl (bad _ rfl v)
   have T7:x2=0:=iy hP h;obtain⟨g1,g2,g3⟩:=fW T7;cbv;exact hR.2.1 _ _ _ _ _ _ _ _ _ _ _ _ _ (cd.refl _) rfl rfl rfl ⟨by rw[g1,Rx];simp,by rw[g2,K3];simp,by rw[g1,g],by rw[g2,o],g3⟩
  ·have X8:ky=q.kind:=Vd;have WL:=gU (pM.1 q (by simp));have hu:=pM.2;simp only at hu;have hk:0<=ds q-ub/\ub+(ds q-ub)<=ds q:=by omega
   have W:q.kind=2:=by
    by_cases h2:q.kind=2
    ·exact h2
    ·exfalso
     rw[kK pM hk,lv,lD q ub _ (pM.1 q (by simp)),aa h2] at rZ;simp[fI,fP,kE,iL] at rZ;omega
   refine gj (yP hP qW) ?_;cbv;refine i _ _ _ _ _ _ _ EM trivial rfl λT8 Qz=>?_;have Te:T8=0:=Qz;cbv;refine eB (p9 hP qW) ?_;cbv;obtain⟨s1,s2,s3,F⟩:=zM pM W (la:=[]) (ua:=ua) (by intro c r hr;simp[fI,fP] at hr) rZ;have hsz:=size_le (pM.1 q (by simp));refine i _ _ _ _ _ _ _ vq trivial rfl λSd H=>?_;have Vg:Sd=q.kind:=H;cbv;refine gj (p8 hP qW) ?_;cbv;refine z _ _ _ _ _ _ _ vq ⟨by simp,pM⟩ rfl λql Se=>?_;have I:ql=ds q-ub:=Se;cbv;refine A _ _ q lb ub ql _ _ _ vq pM qW rfl λqs rows' u' e1 U f=>?_;rw[I] at e1 U f;have J:P.b5 qs=((ds q-ub).toNat:Int):=by rw[cA hP,e1,F]
   cbv;have pc:=X qs (by rw[e1,F];omega);refine pc _ _ _ _ _ _ _ _ m2 _ _ pR (by rw[e1,F];omega) rfl rfl rfl λAF n' L M w1 g=>?_;cbv;have kc:=E (P.b5 qs) (by rw[J];((try simp only[nc] at*);omega));refine kc _ _ _ _ _ _ _ _ m1 _ _ K9 ⟨_,_,hb1,qW⟩ rfl rfl rfl λSf T9 Ua Ub w2 o=>?_;rw[J] at o;cbv;refine⟨_,cd.refl _,⟨[],ua,(eA (q::lb) ub (ds q-ub)).1,_,_,_,m1.fU ((ds q-ub).toNat:Int),_,_,_,_,_,m2.iM qs,_,_,_,_,_,j+(ds q-ub).toNat,EM,U,o,g,sx,by rw[f];exact jo pM hk,?_,?_,?_,?_,?_,?_⟩,⟨rfl,rfl,rfl,rfl,trivial⟩,⟨rfl,rfl,rfl,rfl,rfl,rfl,trivial⟩,?_⟩
   ·rw[rC,s1,f,Mk.kb,Mk.od,F]
   ·rw[rD,s1,e1,f,Mk.kb,Mk.pf]
   ·rw[f];exact s2
   ·exact(hb1.fU _ qW).mono qW qW
   ·exact(hb2.iM qs).mono qW (by rw[e1,F];omega)
   ·rw[f];((try simp only[nc] at*);omega)
   ·show(fI [] ua).length+(fI (eA (q::lb) ub (ds q-ub)).1 u').length<(fI [] ua).length+(fI (q::lb) ub).length;rw[f];((try simp only[nc] at*);omega)
 ·have X9:kx=p.kind:=Vc;have Tw:=gU (sx.1 p (by simp));have WM:=sx.2;simp only at WM;refine gj (yP hP qW) ?_;cbv;refine i _ _ _ _ _ _ _ EM trivial rfl λT8 Qz=>?_;have Te:T8=p.kind:=Qz;cbv
  by_cases p2:p.kind=2
  ·
   obtain⟨s1,s2,s3,F⟩:=Jq sx p2 rZ;have hk:0<=ds p-ua/\ua+(ds p-ua)<=ds p:=by omega
   have hsz:=size_le (sx.1 p (by simp));refine gj (p8 hP qW) ?_;cbv;refine z _ _ _ _ _ _ _ EM ⟨by simp,sx⟩ rfl λql Se=>?_;have I:ql=ds p-ua:=Se;cbv;refine A _ _ p la ua ql _ _ _ EM sx qW rfl λqs rows' u' e1 U f=>?_;rw[I] at e1 U f;have J:P.b5 qs=((ds p-ua).toNat:Int):=by rw[cA hP,e1,F]
   cbv;have pc:=X qs (by rw[e1,F];omega);refine pc _ _ _ _ _ _ _ _ m1 _ _ K9 (by rw[e1,F];omega) rfl rfl rfl λAF n' L M w1 g=>?_;cbv;have kc:=E (P.b5 qs) (by rw[J];((try simp only[nc] at*);omega));refine kc _ _ _ _ _ _ _ _ m2 _ _ pR ⟨_,_,hb2,qW⟩ rfl rfl rfl λSf T9 Ua Ub w2 o=>?_;rw[J] at o;cbv;refine⟨_,cd.refl _,⟨(eA (p::la) ua (ds p-ua)).1,_,lb,ub,_,_,m1.iM qs,_,_,_,_,_,m2.fU ((ds p-ua).toNat:Int),_,_,_,_,_,j+(ds p-ua).toNat,U,vq,g,o,by rw[f];exact jo sx hk,pM,?_,?_,?_,?_,?_,?_⟩,⟨rfl,rfl,rfl,rfl,trivial⟩,⟨rfl,rfl,rfl,rfl,rfl,rfl,trivial⟩,?_⟩
   ·rw[rC,s1,e1,f,Mk.kb,Mk.pf]
   ·rw[rD,s1,f,Mk.kb,Mk.od,F]
   ·rw[f];exact s2
   ·exact(hb1.iM qs).mono qW (by rw[e1,F];omega)
   ·exact(hb2.fU _ qW).mono qW qW
   ·rw[f];((try simp only[nc] at*);omega)
   ·show(fI (eA (p::la) ua (ds p-ua)).1 u').length+(fI lb ub).length<(fI (p::la) ua).length+(fI lb ub).length;rw[f];((try simp only[nc] at*);omega)
  ·refine eB (p9 hP qW) ?_;cbv
   rcases lb with _|⟨q,lb⟩
   ·exfalso
    have hk:0<=ds p-ua/\ua+(ds p-ua)<=ds p:=by omega
    rw[kK sx hk,lv,lD p ua _ (sx.1 p (by simp)),aa p2] at rZ;simp[fI,fP,kE,iL] at rZ;omega
   have WL:=gU (pM.1 q (by simp));have Vh:=pM.2;simp only at Vh
   by_cases q2:q.kind=2
   ·have hu:=Vh;have W:=q2;have hk:0<=ds q-ub/\ub+(ds q-ub)<=ds q:=by omega
    obtain⟨s1,s2,s3,F⟩:=zM pM W (la:=(p::la)) (ua:=ua) (Nf sx p2) rZ;have hsz:=size_le (pM.1 q (by simp));refine i _ _ _ _ _ _ _ vq trivial rfl λSd H=>?_;have Vg:Sd=q.kind:=H;cbv;refine gj (p8 hP qW) ?_;cbv;refine z _ _ _ _ _ _ _ vq ⟨by simp,pM⟩ rfl λql Se=>?_;have I:ql=ds q-ub:=Se;cbv;refine A _ _ q lb ub ql _ _ _ vq pM qW rfl λqs rows' u' e1 U f=>?_;rw[I] at e1 U f;have J:P.b5 qs=((ds q-ub).toNat:Int):=by rw[cA hP,e1,F]
    cbv;have pc:=X qs (by rw[e1,F];omega);refine pc _ _ _ _ _ _ _ _ m2 _ _ pR (by rw[e1,F];omega) rfl rfl rfl λAF n' L M w1 g=>?_;cbv;have kc:=E (P.b5 qs) (by rw[J];((try simp only[nc] at*);omega));refine kc _ _ _ _ _ _ _ _ m1 _ _ K9 ⟨_,_,hb1,qW⟩ rfl rfl rfl λSf T9 Ua Ub w2 o=>?_;rw[J] at o;cbv;refine⟨_,cd.refl _,⟨(p::la),ua,(eA (q::lb) ub (ds q-ub)).1,_,_,_,m1.fU ((ds q-ub).toNat:Int),_,_,_,_,_,m2.iM qs,_,_,_,_,_,j+(ds q-ub).toNat,EM,U,o,g,sx,by rw[f];exact jo pM hk,?_,?_,?_,?_,?_,?_⟩,⟨rfl,rfl,rfl,rfl,trivial⟩,⟨rfl,rfl,rfl,rfl,rfl,rfl,trivial⟩,?_⟩
    ·rw[rC,s1,f,Mk.kb,Mk.od,F]
    ·rw[rD,s1,e1,f,Mk.kb,Mk.pf]
    ·rw[f];exact s2
    ·exact(hb1.fU _ qW).mono qW qW
    ·exact(hb2.iM qs).mono qW (by rw[e1,F];omega)
    ·rw[f];((try simp only[nc] at*);omega)
    ·show(fI (p::la) ua).length+(fI (eA (q::lb) ub (ds q-ub)).1 u').length<(fI (p::la) ua).length+(fI (q::lb) ub).length;rw[f];((try simp only[nc] at*);omega)
   ·refine i _ _ _ _ _ _ _ vq trivial rfl λSd H=>?_;have Vg:Sd=q.kind:=H;cbv;refine eB (p9 hP qW) ?_;cbv;refine z _ _ _ _ _ _ _ EM ⟨by simp,sx⟩ rfl λq1 Q1=>?_;have Q1:q1=ds p-ua:=Q1;cbv;refine z _ _ _ _ _ _ _ vq ⟨by simp,pM⟩ rfl λN W=>?_;have W:N=ds q-ub:=W;cbv;refine i _ _ _ _ _ _ _ EM trivial rfl λWN Uc=>?_;have Ya:WN=p.kind:=Uc;cbv;refine i _ _ _ _ _ _ _ vq trivial rfl λWO Ud=>?_;have Yb:WO=q.kind:=Ud;cbv;obtain⟨k,hk⟩:∃k,P.mn q1 N=k:=⟨_,rfl⟩;have Yc:k=min q1 N:=by rw[<-hk,Ru hP]
    have D:0<k/\ua+k<=ds p/\ub+k<=ds q:=by omega
    obtain⟨s1,Tf,s2,s3,F⟩:=BJ (m1:=m1) (m2:=m2) (k:=k) sx pM p2 q2 qW D.2.1 D.2.2 rZ;have hsz:=size_le (sx.1 p (by simp));refine A _ _ p la ua (P.mn q1 N) _ _ _ EM sx (by rw[hk];omega) rfl λYd Js u1 e1 U f=>?_;rw[hk] at e1 U f;cbv;refine A _ _ q lb ub (P.mn q1 N) _ _ _ vq pM (by rw[hk];omega) rfl λYe rows2 u2 f1 f2 f3=>?_;rw[hk] at f1 f2 f3;cbv
    by_cases p3:p.kind=3
    ·by_cases q3:q.kind=3
     ·have B:gF m1 p q k=m1:=by simp[gF,p3,q3]
      have C:gG m2 p q k=m2:=by simp[gG,p3,q3]
      repeat first|(refine gj (p8 hP qW) ?_;cbv)|(refine eB (p9 hP qW) ?_;cbv)
      refine⟨_,cd.refl _,⟨(eA (p::la) ua k).1,_,(eA (q::lb) ub k).1,_,_,_,m1,_,_,_,_,_,m2,_,_,_,_,_,j+k.toNat,U,f2,K9,pR,by rw[f];exact jo sx ⟨qW,D.2.1⟩,by rw[f3];exact jo pM ⟨qW,D.2.2⟩,by rw[rC,s1,f,f3,B],by rw[rD,Tf,f,f3,C],by rw[f,f3];exact s2,hb1.mono qW qW,hb2.mono qW qW,by rw[f,f3];((try simp only[nc] at*);omega)⟩,⟨rfl,rfl,rfl,rfl,trivial⟩,⟨rfl,rfl,rfl,rfl,rfl,rfl,trivial⟩,?_⟩;show(fI (eA (p::la) ua k).1 u1).length+(fI (eA (q::lb) ub k).1 u2).length<(fI (p::la) ua).length+(fI (q::lb) ub).length;rw[f,f3];((try simp only[nc] at*);omega)
     ·have Tg:q.kind=1:=by omega
      have B:gF m1 p q k=m1.hO k:=by simp[gF,p3,Tg]
      have C:gG m2 p q k=m2:=by simp[gG,p3]
      repeat first|(refine gj (p8 hP qW) ?_;cbv)|(refine eB (p9 hP qW) ?_;cbv)
      have cc:=R9 (P.mn q1 N) (by rw[hk];omega);refine cc _ _ _ _ _ _ _ _ m1 _ _ K9 ⟨_,_,hb1,qW⟩ rfl rfl rfl λAF n' L M w1 g=>?_;rw[hk] at g;cbv;refine⟨_,cd.refl _,⟨(eA (p::la) ua k).1,_,(eA (q::lb) ub k).1,_,_,_,m1.hO k,_,_,_,_,_,m2,_,_,_,_,_,j+k.toNat,U,f2,g,pR,by rw[f];exact jo sx ⟨qW,D.2.1⟩,by rw[f3];exact jo pM ⟨qW,D.2.2⟩,by rw[rC,s1,f,f3,B],by rw[rD,Tf,f,f3,C],by rw[f,f3];exact s2,(hb1.hO _ qW).mono qW qW,hb2.mono qW qW,by rw[f,f3];((try simp only[nc] at*);omega)⟩,⟨rfl,rfl,rfl,rfl,trivial⟩,⟨rfl,rfl,rfl,rfl,rfl,rfl,trivial⟩,?_⟩;show(fI (eA (p::la) ua k).1 u1).length+(fI (eA (q::lb) ub k).1 u2).length<(fI (p::la) ua).length+(fI (q::lb) ub).length;rw[f,f3];((try simp only[nc] at*);omega)
    ·have Sc:p.kind=1:=by omega
     by_cases q3:q.kind=3
     ·have B:gF m1 p q k=m1:=by simp[gF,Sc,q3]
      have C:gG m2 p q k=m2.hO k:=by simp[gG,Sc,q3]
      repeat first|(refine gj (p8 hP qW) ?_;cbv)|(refine eB (p9 hP qW) ?_;cbv)
      have cc:=R9 (P.mn q1 N) (by rw[hk];omega);refine cc _ _ _ _ _ _ _ _ m2 _ _ pR ⟨_,_,hb2,qW⟩ rfl rfl rfl λAF n' L M w1 g=>?_;rw[hk] at g;cbv;refine⟨_,cd.refl _,⟨(eA (p::la) ua k).1,_,(eA (q::lb) ub k).1,_,_,_,m1,_,_,_,_,_,m2.hO k,_,_,_,_,_,j+k.toNat,U,f2,K9,g,by rw[f];exact jo sx ⟨qW,D.2.1⟩,by rw[f3];exact jo pM ⟨qW,D.2.2⟩,by rw[rC,s1,f,f3,B],by rw[rD,Tf,f,f3,C],by rw[f,f3];exact s2,hb1.mono qW qW,(hb2.hO _ qW).mono qW qW,by rw[f,f3];((try simp only[nc] at*);omega)⟩,⟨rfl,rfl,rfl,rfl,trivial⟩,⟨rfl,rfl,rfl,rfl,rfl,rfl,trivial⟩,?_⟩;show(fI (eA (p::la) ua k).1 u1).length+(fI (eA (q::lb) ub k).1 u2).length<(fI (p::la) ua).length+(fI (q::lb) ub).length;rw[f,f3];((try simp only[nc] at*);omega)
     ·have Tg:q.kind=1:=by omega
      have B:gF m1 p q k=m1.fU k:=by simp[gF,Sc,Tg]
      have C:gG m2 p q k=m2.fU k:=by simp[gG,Sc,Tg]
      repeat first|(refine gj (p8 hP qW) ?_;cbv)|(refine eB (p9 hP qW) ?_;cbv)
      have cc:=E (P.mn q1 N) (by rw[hk];omega);refine cc _ _ _ _ _ _ _ _ m1 _ _ K9 ⟨_,_,hb1,qW⟩ rfl rfl rfl λAF n' L M w1 g=>?_;rw[hk] at g;cbv;refine cc _ _ _ _ _ _ _ _ m2 _ _ pR ⟨_,_,hb2,qW⟩ rfl rfl rfl λSf T9 Ua Ub w2 o=>?_;rw[hk] at o;cbv;refine⟨_,cd.refl _,⟨(eA (p::la) ua k).1,_,(eA (q::lb) ub k).1,_,_,_,m1.fU k,_,_,_,_,_,m2.fU k,_,_,_,_,_,j+k.toNat,U,f2,g,o,by rw[f];exact jo sx ⟨qW,D.2.1⟩,by rw[f3];exact jo pM ⟨qW,D.2.2⟩,by rw[rC,s1,f,f3,B],by rw[rD,Tf,f,f3,C],by rw[f,f3];exact s2,(hb1.fU _ qW).mono qW qW,(hb2.fU _ qW).mono qW qW,by rw[f,f3];((try simp only[nc] at*);omega)⟩,⟨rfl,rfl,rfl,rfl,trivial⟩,⟨rfl,rfl,rfl,rfl,rfl,rfl,trivial⟩,?_⟩;show(fI (eA (p::la) ua k).1 u1).length+(fI (eA (q::lb) ub k).1 u2).length<(fI (p::la) ua).length+(fI (q::lb) ub).length;rw[f,f3];((try simp only[nc] at*);omega)
theorem Ni(a b:List Part)(ha:a.length<=maxLen)(hb:b.length<=maxLen):Spec Tryz.prog 202 [gI a,gI b] Hp.emp (Is (.tup [gI (ld a b).1,gI (ld a b).2.1,.int .i64 (ld a b).2.2])):=
 kX hW Ng λR e=>Nh cp rfl _ _ a b _ _ rfl rfl (λk hk=>GN k hk) (λs hs=>Ps s hs) (λk hk=>Pt k hk) GO RO Bs Bt RN
  (λd h K k b n rs q hd c hn hq hk hK=>⟨h,iY.refl h,lA (lI d (by(have:maxLen=9223372036854775807:=by decide);omega)) (.cons (.own k b 3 n _ (by rw[jU hn hk,c]) (by simp)) .nil) (by rw[hq] at hK;exact hK)⟩)
  _ _ _ _ _ _ rfl rfl (LM (xg a ha) rfl) (LM (xg b hb) rfl) _ _ _ rfl _ _ rfl rfl R (E5 e)
def kF(x:List Part):List er->List Part×Int
 |[]=>(x,0)
 |r::l=>if(ld r.delta x).2.2≠0 then([],(ld r.delta x).2.2) else kF (ld r.delta x).2.1 l
def wD:List (BS×Nat)->List (BS×Nat)->List (BS×Nat)
 |[],a=>a
 |[(p,c)],(q,d)::a=>(p++q,c+d)::a
 |[g],[]=>[g]
 |g::g2::r,a=>g::wD (g2::r) a
theorem rE(a b:List Tok):gV (a++b)=wD (gV a) (gV b):=by
 induction a with
 |nil=>
  obtain⟨⟨q,d⟩,e,h⟩:=nv b;simp[gV,h,wD]
 |cons t a ih=>
  obtain⟨⟨p,c⟩,r,h⟩:=nv a;obtain⟨⟨q,d⟩,e,h'⟩:=nv b;rw[h,h'] at ih;cases t
  ·simp only[aD,gV,ih,h,h'];cases r<;>simp[wD]
  ·simp only[aD,gV,ih,h,h'];cases r<;>simp[wD]
  ·simp only[aD,gV,ih,h,h'];cases r<;>simp[wD]<;>omega
theorem BK{a c:List Tok}(h:gV a=gV c)(b:List Tok):gV (a++b)=gV (c++b):=by rw[rE,rE,h]
theorem uT{b b':List Tok}(h:gV b=gV b')(a:List Tok):gV (a++b)=gV (a++b'):=by rw[rE,rE,h]
theorem E6(n:Nat)(b:UInt8):gV (List.replicate n .cut++[.put b])=gV (.put b::List.replicate n .cut):=by
 have h1:=qX n [.put b] [b] 0 [] rfl;have h2:=qX n [] [] 0 [] rfl;rw[bg] at h2;rw[h1];simp[gV,h2]
def xN(m:Mk):List Tok:=fP m.out++(m.put.map .put++List.replicate m.cut.toNat .cut)
theorem uU(m:Mk):fP m.flush=xN m:=by
 unfold Mk.flush xN;rw[lJ,lJ,aU]
 congr 1
 congr 1
 ·split
  ·rename_i h;rw[h];rfl
  ·simp[fP,ib]
 ·split
  ·simp[fP,ib]
  ·rename_i h;rw[show m.cut.toNat=0 by omega];rfl
theorem xO:∀{k:Int}{l:List Part},jS k l->∀p∈l,lM p
 |_,[],_=>by simp
 |_,q::l,h=>by
  intro p hp
  rcases ah.1 hp with rfl|hp
  ·exact h.1
  ·exact xO h.2.2.2 p hp
theorem xP(o:List Part)(ho:∀p∈o,lM p):fP (iR o 1)=fP o++[.keep]:=by
 unfold iR;cases h:o.getLast? with
 |none=>
  rw[List.getLast?_eq_none_iff] at h;subst h;rfl
 |some p=>
  obtain⟨a,rfl⟩:=List.getLast?_eq_some_iff.1 h;simp only
  split
  ·rename_i hk;rw[eh,lJ,lJ,aU]
   congr 1
   have hp:=ho p (by simp);have hn:0<p.n:=by unfold lM at hp;omega
   simp only[fP,ib,hk,bg];rw[aa qD,ab trivial,show(p.n+1).toNat=p.n.toNat+1 by omega,List.replicate_succ'];rfl
  ·rw[lJ];rfl
theorem E7{m:Mk}(hm:m.Ok)(t:Tok):gV (xN (m.tok t))=gV (xN m++[t]):=by
 cases t with
 |keep=>
  have:xN (m.tok .keep)=fP (iR m.flush 1):=by
   simp[Mk.tok,Mk.fU,xN]
  rw[this,xP _ (xO hm.flush),uU]
 |put b=>
  show gV (fP m.out++((m.put++[b]).map .put++List.replicate m.cut.toNat .cut))=gV (fP m.out++(m.put.map .put++List.replicate m.cut.toNat .cut)++[.put b]);rw[aU,aU,cj,aU];refine uT (uT ?_ _) _;exact(E6 _ _).symm
 |cut=>
  have hc:=hm.cut;show gV (fP m.out++(m.put.map .put++List.replicate (m.cut+1).toNat .cut))=gV (fP m.out++(m.put.map .put++List.replicate m.cut.toNat .cut)++[.cut]);rw[show(m.cut+1).toNat=m.cut.toNat+1 by omega,List.replicate_succ',aU,aU]
theorem zN:∀(ts:List Tok){m:Mk},m.Ok->gV (xN (m.run ts))=gV (xN m++ts)
 |[],m,_=>by rw[Mk.Lw,bg]
 |t::ts,m,h=>by
  have h1:=zN ts (h.tok t);show gV (xN ((m.tok t).run ts))=_;rw[h1,BK (E7 h t) ts,aU];rfl
theorem rF(ts:List Tok):gV (fP (nI ts))=gV ts:=by
 unfold nI;rw[uU,zN ts Mk.GK];rfl
def Sg:List (BS×Nat)->Nat
 |[]=>0
 |[g]=>g.2
 |g::g2::r=>g.2+1+Sg (g2::r)
def Ju:List (BS×Nat)->Nat
 |[]=>0
 |[g]=>g.1.length
 |g::g2::r=>g.1.length+1+Ju (g2::r)
def Sh:List (BS×Nat)->BS->BS
 |[],_=>[]
 |[g],_=>g.1
 |g::g2::r,s=>g.1++((s.drop g.2).take 1++Sh (g2::r) (s.drop (g.2+1)))
theorem zO(ts:List Tok):kE ts=Sg (gV ts):=by
 induction ts with
 |nil=>rfl
 |cons t ts ih=>
  obtain⟨⟨p,c⟩,r,h⟩:=nv ts;rw[h] at ih;cases t
  ·simp only[gV,h,Sg];rw[<-ih];simp[kE,iL];omega
  ·simp only[gV,h];cases r<;>simp only[Sg] at* <;>rw[<-ih]<;>rfl
  ·simp only[gV,h];cases r<;>simp only[Sg] at* <;>simp only[kE,iL,ar] at* <;>omega
theorem wE(ts:List Tok):iN ts=Ju (gV ts):=by
 induction ts with
 |nil=>rfl
 |cons t ts ih=>
  obtain⟨⟨p,c⟩,r,h⟩:=nv ts;rw[h] at ih;cases t
  ·simp only[gV,h,Ju,iN];rw[<-ih];simp;omega
  ·simp only[gV,h,iN];cases r<;>simp only[Ju,ar] at* <;>omega
  ·simp only[gV,h,iN];cases r<;>simp only[Ju] at* <;>omega
theorem zP(ts:List Tok):∀s,my ts s=Sh (gV ts) s:=by
 induction ts with
 |nil=>intro s;rfl
 |cons t ts ih=>
  intro s;obtain⟨⟨p,c⟩,r,h⟩:=nv ts;rw[h] at ih;cases t
  ·simp only[gV,h,Sh,my];rw[<-ih];simp
  ·simp only[gV,h,my];rw[ih];cases r<;>simp[Sh]
  ·simp only[gV,h,my];rw[ih];cases r<;>simp[Sh,dM,Nat.add_comm,Nat.add_left_comm]
theorem xQ(ts:List Tok):kE (fP (nI ts))=kE ts:=by rw[zO,rF,<-zO]
theorem zQ(ts:List Tok):iN (fP (nI ts))=iN ts:=by rw[wE,rF,<-wE]
theorem Nj(ts:List Tok)(s:BS):my (fP (nI ts)) s=my ts s:=by rw[zP,rF,<-zP]
theorem Nk(ts:List Tok):nI (fP (nI ts))=nI ts:=GJ (rF ts)
theorem Jv{d:List Part}{p:Part}(h:p∈d):kE (ib p)<=kE (fP d)/\iN (ib p)<=iN (fP d):=by
 obtain⟨a,b,rfl⟩:=eG h;rw[lJ];simp only[fP,lv,uq];omega
theorem zR{p:Part}(h:lM p):(p.kind=2->iN (ib p)=p.text.length/\p.text.length≠0)/\(p.kind≠2->kE (ib p)=p.n.toNat/\0<p.n/\p.text=[])/\(p.kind=2->p.n=0):=by
 unfold lM at h;refine⟨λk=>?_,λk=>?_,λk=>by omega⟩
 ·unfold ib;rw[ab k,yS];refine⟨rfl,λg=>?_⟩
  rcases h with h|h
  ·exact h.2.2 (aB g)
  ·omega
 ·unfold ib;rw[aa k];have hr:∀(n:Nat)(x:Tok),x=.keep\/x=.cut->kE (List.replicate n x)=n:=by
   intro n x hx;have:=oh [] x hx n;simp only[cL,iL] at this;simp[kE,this]
  refine⟨?_,qW,(h.resolve_left λg=>k g.1).2.2⟩
  split
  ·exact hr _ _ (.inl rfl)
  ·exact hr _ _ (.inr rfl)
theorem zS:∀(d:List Part),(∀p∈d,lM p)->d.length<=kE (fP d)+iN (fP d)
 |[],_=>by simp
 |p::d,h=>by
  have h1:=zS d λq hq=>h q (by simp[hq]);obtain⟨h2,h3,_⟩:=zR (h p (by simp));simp only[fP,lv,uq,ar]
  by_cases k:p.kind=2
  ·have:=h2 k;omega
  ·have:=h3 k;omega
theorem BL(ts:List Tok)(h1:kE ts<=500)(h2:iN ts<=500):cR (nI ts)=0:=by
 have hf:=xO (qP ts);have ho:∀p∈nI ts,nR p:=by
  intro p hp;obtain⟨g1,g2,g3⟩:=zR (hf p hp);obtain⟨l1,l2⟩:=Jv hp;rw[xQ] at l1;rw[zQ] at l2;have hk:=hf p hp;unfold lM at hk;unfold nR lj
  by_cases k:p.kind=2
  ·have a1:=g1 k;have a2:=g3 k;rw[aa qW,ab k,aa (by rintro(h|h);exact h a2;exact a1.2 (by rw[h];rfl)),aa qW]
  ·have a1:=g2 k;rw[ab qW,aa (by rintro(h|h);omega;exact h a1.2.2),aa (by rw[a1.2.2];simp only[aL];omega)]
 have hn:=zS _ hf;have hi:=ou _ ho;have hu:=pj _ ho;rw[xQ] at hn hi;rw[zQ] at hn hu;have hc:qw 0 (nI ts)=0:=by
  have:∀(k:Int)(l:List Part),jS k l->(∀p∈l,nR p)->qw k l=0:=by
   intro k l
   induction l generalizing k with
   |nil=>intro _ _;rfl
   |cons p l ih=>
    intro h hp;obtain⟨h1,h2,h3,h4⟩:=h;unfold qw;rw[aa (by rintro(h|h);exact h2 h;exact h3 h),aa (λg=>g (hp p (by simp))),ih _ h4 λq hq=>hp q (by simp[hq])]
  exact this 0 _ (qP ts) ho
 unfold cR;rw[aa qW,aa (λg=>g hc),aa qW]
theorem zT{a b:List Part}(h:(ld a b).2.2=0):cR a=0/\cR b=0/\lg a=lg b/\cR (wC a b)=0/\(ld a b).2.1=wC a b:=by
 unfold ld at h⊢
 by_cases he:uS a b=0
 ·rw[ab he];unfold uS at he
  by_cases h1:cR a≠0
  ·rw[ab h1] at he;exact absurd he h1
  rw[aa h1] at he
  by_cases h2:cR b≠0
  ·rw[ab h2] at he;exact absurd he h2
  rw[aa h2] at he
  by_cases h3:lg a≠lg b
  ·rw[ab h3] at he;exact absurd he qD
  rw[aa h3] at he
  by_cases h4:cR (wB a b)≠0
  ·rw[ab h4] at he;exact absurd he h4
  rw[aa h4] at he;exact⟨aK h1,aK h2,aK h3,he,rfl⟩
 ·rw[aa he] at h;exact absurd h he
end Go.Proofs.YtajdadcdcpnedaaGreatDoor.AM
