/-
  Part 14 of what the law WorldPlays reaches: the plain machine, contracts of the functions and plain laws; each lemma says its own condition.
-/
import Derived.Test.YtobngncjflogcaaGreatWorldPlays11
import Derived.Test.YtobngncjflogcaaGreatWorldPlays8
import Derived.Test.YtobngncjflogcaaGreatWorldPlays6
import Derived.Test.YtobngncjflogcaaGreatWorldPlays9
import Derived.Test.YtobngncjflogcaaGreatWorldPlays10
set_option linter.unusedVariables false
set_option linter.unusedSimpArgs false
namespace Go.Proofs.YtobngncjflogcaaGreat.AM
open Go Go.RowKit
set_option maxRecDepth 100000
set_option maxHeartbeats 2000000
def jh(d:SC)(i:Int):Int:=if i=0 then d.x2 else d.x4
def th(d:SC):Prop:=j7 d.x1 d.x2 d.x3 d.x4=0
theorem jw{x:BS}{n:Int}:iI x n=0↔x.length<=1048576/\0<=n/\n<=(x.length:Int):=by
 constructor
 ·exact rF
 ·intro h;unfold iI;rw[aa qW,aa qW]
theorem qE{a1 b1:BS}{a2 b2:Int}:j7 a1 a2 b1 b2=0↔iI a1 a2=0/\iI b1 b2=0:=by
 constructor
 ·exact xT
 ·rintro⟨h1,h2⟩;unfold j7;rw[aa (λh=>h h1)];exact h2
theorem th.slot{d:SC}(h:th d)(i:Int):(gQ d i).length<=1048576/\0<=jh d i/\jh d i<=((gQ d i).length:Int):=by
 obtain⟨h1,h2⟩:=qE.1 h;unfold gQ jh
 split
 ·exact jw.1 h1
 ·exact jw.1 h2
theorem Dm{d:SC}(h:th d){i:Int}(hi:i=0\/i=1):oi d.x1 d.x2 d.x3 d.x4 i=0:=by
 unfold oi;rw[aa (λg=>g h),aa qW]
theorem pE{d:SC}{i:Int}{t:BS}(h:th d)(hi:i=0\/i=1)(hl:(gQ d i).length+t.length<=1048576):
  th (kT d i t)/\gQ (kT d i t) i=gQ d i++t/\gQ (kT d i t) (1-i)=gQ d (1-i)/\∀j,jh (kT d i t) j=jh d j:=by
 have hk:=Dm h hi;obtain⟨h1,h2⟩:=qE.1 h;have s1:=jw.1 h1;have s2:=jw.1 h2
 rcases hi with rfl|rfl
 ·have hl:d.x1.length+t.length<=1048576:=hl;have e:nf d.x1 d.x2 d.x3 d.x4 0 t=⟨d.x1++t,d.x2,d.x3,d.x4,0⟩:=by
   unfold nf;rw[aa (λg=>g hk),ae rfl,aa qW]
  have e2:kT d 0 t= {d with x1:=d.x1++t}:=by
   unfold kT;rw[e]
  rw[e2];exact⟨qE.2 ⟨(jw (x:=d.x1++t) (n:=d.x2)).2 (by rw[an];omega),h2⟩,rfl,rfl,λj=>rfl⟩
 ·have hl:d.x3.length+t.length<=1048576:=hl;have e:nf d.x1 d.x2 d.x3 d.x4 1 t=⟨d.x1,d.x2,d.x3++t,d.x4,0⟩:=by
   unfold nf;rw[aa (λg=>g hk),aa qD,aa qW]
  have e2:kT d 1 t= {d with x3:=d.x3++t}:=by
   unfold kT;rw[e]
  rw[e2];exact⟨qE.2 ⟨h1,(jw (x:=d.x3++t) (n:=d.x4)).2 (by rw[an];omega)⟩,rfl,rfl,λj=>rfl⟩
theorem Dn{d:SC}{i:Int}(h:th d)(hi:i=0\/i=1):
  th (pS d i)/\(∀j,gQ (pS d i) j=gQ d j)/\jh (pS d i) i=((gQ d i).length:Int)/\jh (pS d i) (1-i)=jh d (1-i):=by
 have hk:=Dm h hi;obtain⟨h1,h2⟩:=qE.1 h;have s1:=jw.1 h1;have s2:=jw.1 h2
 rcases hi with rfl|rfl
 ·have e:ng d.x1 d.x2 d.x3 d.x4 0=⟨d.x1,d.x1.length,d.x3,d.x4,0⟩:=by
   unfold ng;rw[aa (λg=>g hk),ae rfl]
  have e2:pS d 0= {d with x2:=d.x1.length}:=by
   unfold pS;rw[e]
  rw[e2];exact⟨qE.2 ⟨(jw (x:=d.x1) (n:=(d.x1.length:Int))).2 qW,h2⟩,λj=>rfl,rfl,rfl⟩
 ·have e:ng d.x1 d.x2 d.x3 d.x4 1=⟨d.x1,d.x2,d.x3,d.x3.length,0⟩:=by
   unfold ng;rw[aa (λg=>g hk),aa qD]
  have e2:pS d 1= {d with x4:=d.x3.length}:=by
   unfold pS;rw[e]
  rw[e2];exact⟨qE.2 ⟨h1,(jw (x:=d.x3) (n:=(d.x3.length:Int))).2 qW⟩,λj=>rfl,rfl,rfl⟩
theorem tR{b:Int}(i:Nat):∀(c:List eX)(tb:Nat->Int)(k:Nat)(now:BS),gj b tb (i+k) now c->gj (b+(i:Int)) tb k now c
 |[],_,_,_,_=>trivial
 |r::c,tb,k,now,h=>by
  refine⟨?_,?_⟩
  ·have h1:=h.1;unfold gL at h1⊢
   by_cases g1:iH r≠0
   ·rw[ae g1] at h1;exact absurd h1 g1
   rw[aa g1] at h1⊢
   by_cases g2:r.seq<=tb (2*r.who.toNat)
   ·rw[ae g2] at h1;exact absurd h1 qD
   rw[aa g2] at h1⊢
   by_cases g3:64<=((i+k:Nat):Int)\/2147483647<=b+((i+k:Nat):Int)
   ·rw[ae g3] at h1;exact absurd h1 qD
   rw[aa g3] at h1;rw[aa qW];exact h1
  ·have h2:=h.2;have e:b+(i:Int)+(k:Int)+1=b+((i+k:Nat):Int)+1:=by omega
   rw[e];exact tR i c _ (k+1) _ h2
theorem Fc{tb:Nat->Int}(h:∀j,j<16->nX (tb j)){w:Nat}{q n:Int}(hq:nX q)(hn:nX n):∀j,j<16->nX (kG tb w q n j):=by
 intro j hj;unfold kG
 split
 ·exact hq
 ·split
  ·exact hn
  ·exact h j hj
theorem Dp{b:Int}(hb:0<=b):∀(l:List eX)(tb:Nat->Int)(i:Nat)(now:BS),gj b tb i now l->(∀j,j<16->nX (tb j))->∀j,j<16->nX (iK tb (b+(i:Int)) l j)
 |[],_,_,_,_,h=>h
 |r::l,tb,i,now,hc,h=>by
  have h1:=lB hc.1;have h2:=nH h1.1;have:=Dp hb l _ (i+1) _ hc.2 (Fc h ⟨h2.2.1.1,h2.2.1.2⟩ ⟨qW,qW⟩);have e:b+((i+1:Nat):Int)=b+(i:Int)+1:=by omega
  rw[e] at this;exact this
theorem Dq:∀(l:List Frame),(∀f∈l,Jr f)->(ig l).length<=4007*l.length
 |[],_=>ag _
 |f::l,h=>by
  have h1:=(h f (by simp)).2.2;have h2:=Dq l λg hg=>h g (by simp[hg]);rw[B5,an,nY,ar];omega
theorem uC{b:Int}{tb:Nat->Int}{i:Nat}{now:BS}{l:List eX}(hc:gj b tb i now l):mj l/\(∀r∈l,0<=r.who/\r.who<=7)/\(∀r∈l,r.delta.length<=1000000000)/\l.length<=64:=by
 have a:l.length<=64:=by
  rcases pD l _ _ _ hc with rfl|h
  ·simp
  ·omega
 have h1:=ma l _ _ _ hc;have hm:maxLen=9223372036854775807:=by decide
 exact⟨⟨qW,λr hr=>(yj (h1 r hr)).1⟩,λr hr=>(nH (h1 r hr)).1,λr hr=>(yj (h1 r hr)).2,a⟩
def nI(d:SC)(l:List eX)(f:Int):Nat->Int:=iK d.fs d.b (l.take (f-d.b).toNat)
def jN(d:SC)(l:List eX)(f:Int):BS:=lK d.tx (l.take (f-d.b).toNat)
def pZ(d:SC)(l:List eX)(f:Int):List eX:=l.drop (f-d.b).toNat
def Main(LH:BS)(Tf sf g b:Int)(tx:BS)(fs:Nat->Int)(l:List eX):Prop:=
 ∃r1 r2 a,l=r1++r2/\LH=ig (kM g b tx fs r1 (some r2))/\a<=r2.length/\Tf=((ig (kM g b tx fs r1 (some (r2.take a)))).length:Int)/\sf<=b+(r1.length:Int)+a
def X6(LH:BS)(gn:Int):Prop:=∃g b tx t r1 o,B4 g b tx t/\gj b t 0 tx (r1++o.getD [])/\LH=ig (kM g b tx t r1 o)/\g<gn
def VC(d:SC)(l:List eX)(m:Mv):Prop:=
 (m.c= -1/\m.w=false/\gQ d (1-d.gr)=[])\/
 (0<=m.c/\m.w=false/\m.f+m.c<=d.b+(l.length:Int)/\gQ d (1-d.gr)=ig (kM (d.gn+1) m.f (jN d l m.f) (nI d l m.f) ((pZ d l m.f).take m.c.toNat) none))\/
 (0<=m.c/\m.w=true/\m.c<=64/\∃r1 r2 a,pZ d l m.f=r1++r2/\gQ d (1-d.gr)=ig (kM (d.gn+1) m.f (jN d l m.f) (nI d l m.f) r1 (some r2))/\a<=r2.length/\
  (a=0\/jh d (1-d.gr)=((ig (kM (d.gn+1) m.f (jN d l m.f) (nI d l m.f) r1 (some (r2.take a)))).length:Int))/\d.sf<=m.f+(r1.length:Int)+a)
def X7(d:SC)(l:List eX):Option Mv->Prop
 |none=>(d.jq=true/\X6 (gQ d (1-d.gr)) d.gn)\/(d.jq=false/\gQ d (1-d.gr)=[])
 |some m=>d.jq=false/\(d.b<=m.f/\m.f<=d.b+(l.length:Int))/\d.gn<2147483647/\VC d l m
structure Bb(d:SC)(l:List eX)(m:Option Mv):Prop where
 gr:d.gr=0\/d.gr=1
 dk:th d
 hd:B4 d.gn d.b d.tx d.fs
 ch:gj d.b d.fs 0 d.tx l
 tb:yi d.tb (iK d.fs d.b l)
 now:d.now=lK d.tx l
 sf:d.sf<=d.b+(l.length:Int)
 mn:Main (gQ d d.gr) (jh d d.gr) d.sf d.gn d.b d.tx d.fs l
 ot:X7 d l m
theorem Bb.UU{d:SC}{l:List eX}{m:Option Mv}(h:Bb d l m):1-d.gr=0\/1-d.gr=1:=by rcases h.gr with h|h<;>omega
theorem Bb.len{d:SC}{l:List eX}{m:Option Mv}(h:Bb d l m):l.length<=64/\d.b+(l.length:Int)<=2147483647/\0<=d.b:=by
 have hb:=h.hd.b;unfold nX at hb
 rcases pD l _ _ _ h.ch with rfl|g
 ·simp only[aK];omega
 ·omega
theorem Bb.Nq{d:SC}{l:List eX}{m:Option Mv}(h:Bb d l m):Jz d l:=by
 obtain⟨h1,h2,h3,h4⟩:=uC h.ch;have hb:=h.hd.b;have hg:=h.hd.g;unfold nX at hb hg;exact⟨h.gr,hb,qW,h4,h1,h2,h3⟩
theorem lZ{g b:Int}{tx:BS}{t:Nat->Int}(a:tx.length<=500){r1:List eX}{o:Option (List eX)}(hc:∀r∈r1++o.getD [],iH r=0)(hl:(r1++o.getD []).length<=64):(ig (kM g b tx t r1 o)).length<=264462:=by
 have h1:=Dq _ (Nl (g:=g) (b:=b) (t:=t) a hc);rw[Jw] at h1;rw[an] at hl;cases o with
 |none=>simp only at h1;omega
 |some r2=>simp only[Option.getD_some] at h1 hl;omega
theorem Bb.Tg{d:SC}{l:List eX}{m:Option Mv}(h:Bb d l m):(gQ d d.gr).length<=264462:=by
 obtain⟨r1,r2,a,h1,h2,_⟩:=h.mn;rw[h2];refine lZ h.hd.tx (o:=some r2) ?_ ?_
 ·show∀r∈r1++r2,_;rw[<-h1];exact ma _ _ _ _ h.ch
 ·show(r1++r2).length<=64;rw[<-h1];exact h.len.1
theorem ti{d:SC}{l:List eX}{m:Option Mv}(h:Bb d l m){f:Int}(hf:d.b<=f/\f<=d.b+(l.length:Int)):gj f (nI d l f) 0 (jN d l f) (pZ d l f)/\(jN d l f).length<=500/\(∀j,j<16->nX (nI d l f j))/\(pZ d l f).length=(d.b+(l.length:Int)-f).toNat:=by
 obtain⟨a,ha⟩:∃a:Nat,(f-d.b).toNat=a:=⟨_,rfl⟩;have c:f=d.b+(a:Int):=by omega
 have i:a<=l.length:=by omega
 have hc:=h.ch;rw[<-bL a l] at hc;obtain⟨c1,e⟩:=(l9 (l.take a) (l.drop a) d.fs 0 d.tx).1 hc;have g:d.b+((0:Nat):Int)=d.b:=by omega
 have e1:0+(l.take a).length=a+0:=by rw[aZ];omega
 rw[g,e1] at e;have c3:=tR a _ _ _ _ e;have t1:=Dp h.len.2.2 (l.take a) d.fs 0 d.tx c1 h.hd.t;rw[g] at t1;unfold nI jN pZ;rw[ha];refine⟨by rw[c];exact c3,tf _ _ _ _ c1 h.hd.tx,t1,by rw[bA];omega⟩
theorem Ah{d:SC}{l:List eX}{m:Option Mv}(h:Bb d l m){f:Int}(hf:d.b<=f/\f<=d.b+(l.length:Int)):jM d l f=(jN d l f,0):=by
 obtain⟨a,ha⟩:∃a:Nat,f-d.b=a:=⟨(f-d.b).toNat,qW⟩;have ht:gl d.b l.length f=0:=by
  unfold gl;rw[aa qW,aa qW]
 unfold jM jN;rw[aa (λx=>x ht),ha,Nk h.ch h.hd.tx a qW,aM]
theorem JG{d:SC}{l:List eX}{f:Int}(hf:gl d.b l.length f≠0):jM d l f=([],gl d.b l.length f):=by
 unfold jM;rw[ae hf]
structure Th(d:SC)(l:List eX)(d':SC)(l':List eX):Prop where
 hd:d'.b+(l'.length:Int)=d.b+(l.length:Int)
 b:d.b<=d'.b
 tx:∀r,d'.b<=r->r<=d'.b+(l'.length:Int)->jN d' l' r=jN d l r
theorem Th.of{d d':SC}{l:List eX}(hb:d'.b=d.b)(ht:d'.tx=d.tx):Th d l d' l:=⟨by rw[hb],qW,λr _ _=>by unfold jN;rw[hb,ht]⟩
theorem Ai(g b:Int)(tx:BS)(t:Nat->Int)(r1 r2:List eX)(r:eX):ig (kM g b tx t r1 (some r2))++qV (iS r)=ig (kM g b tx t r1 (some (r2++[r]))):=by
 have e:kM g b tx t r1 (some (r2++[r]))=kM g b tx t r1 (some r2)++[iS r]:=by
  show mF g b tx t::(r1.map iS++kV::(r2++[r]).map iS)=mF g b tx t::(r1.map iS++kV::r2.map iS)++[iS r];rw[bW,ay,aP,ay];rfl
 rw[e,xq];have:ig [iS r]=qV (iS r):=by simp[ig]
 rw[this]
theorem JH(g b:Int)(tx:BS)(t:Nat->Int)(r1:List eX):ig (kM g b tx t r1 none)++qV kV=ig (kM g b tx t r1 (some [])):=by
 have e:kM g b tx t r1 (some [])=kM g b tx t r1 none++[kV]:=by
  show mF g b tx t::(r1.map iS++[kV])=mF g b tx t::(r1.map iS++[])++[kV];rw[aJ,ay]
 rw[e,xq];have:ig [kV]=qV kV:=by simp[ig]
 rw[this]
theorem JI(g b:Int)(tx:BS)(t:Nat->Int):qV (mF g b tx t)=ig (kM g b tx t [] none):=by
 have:kM g b tx t [] none=[mF g b tx t]:=rfl;rw[this];simp[ig]
theorem kF{l:List eX}{r:eX}{a:Nat}(h:a<=l.length):(l++[r]).take a=l.take a:=cI h
theorem Fe{l:List eX}{r:eX}{a:Nat}(h:a<=l.length):(l++[r]).drop a=l.drop a++[r]:=bu h
theorem Nr{d d':SC}{l:List eX}{r:eX}(hb:d'.b=d.b)(ht:d'.tx=d.tx)(a:d'.fs=d.fs){f:Int}(hf:d.b<=f/\f<=d.b+(l.length:Int)):
  jN d' (l++[r]) f=jN d l f/\nI d' (l++[r]) f=nI d l f/\pZ d' (l++[r]) f=pZ d l f++[r]:=by
 have ha:(f-d.b).toNat<=l.length:=by omega
 unfold jN nI pZ;rw[hb,ht,a,kF ha,Fe ha];exact⟨rfl,rfl,rfl⟩
def vN(m:Option Mv)(x t:BS):BS:=match m with
 |none=>x
 |some m=>if m.w=true then x++t else x
theorem Ns{d:SC}{l:List eX}{m:Option Mv}(h:Bb d l m){r:eX}(hn:gL d.b d.tb l.length d.now.length r=0):
  (fN d l m r).e=0/\(fN d l m r).l=l++[r]/\(fN d l m r).v=d.b+(l.length:Int)+1/\(fN d l m r).d.b=d.b/\(fN d l m r).d.tx=d.tx/\(fN d l m r).d.gn=d.gn/\(fN d l m r).d.sf=d.sf/\(fN d l m r).d.fs=d.fs/\Bb (fN d l m r).d (l++[r]) m:=by
 have h1:=(lB hn).1;have hr:=Dl h1;have hlt:(qV (iS r)).length<=4007:=by
  have:=(sd h1).2.2;rw[nY];omega
 have H:fN d l m r=⟨vI {ld d m (qV (iS r)) with now:=(gP r.delta d.now).1} l r,l++[r],d.b+(l.length+1:Nat),0⟩:=by
  unfold fN;rw[aa (λx=>x hn),hr];exact aa (λx=>x rfl)
 have hP:∀D:SC,D=ld d m (qV (iS r))->D.b=d.b/\D.tx=d.tx/\D.gn=d.gn/\D.sf=d.sf/\D.fs=d.fs/\D.gr=d.gr/\D.tb=d.tb/\D.jq=d.jq:=by
  rintro D rfl;unfold ld
  split
  ·exact⟨rfl,rfl,rfl,rfl,rfl,rfl,rfl,rfl⟩
  ·split<;>exact⟨rfl,rfl,rfl,rfl,rfl,rfl,rfl,rfl⟩
 have O:=h.Tg;obtain⟨p1,p2,z,B⟩:=pE h.dk h.gr (t:=qV (iS r)) qW;have P:∀D:SC,D=ld d m (qV (iS r))->th D/\gQ D d.gr=gQ d d.gr++qV (iS r)/\(∀j,jh D j=jh d j)/\gQ D (1-d.gr)=vN m (gQ d (1-d.gr)) (qV (iS r)):=by
  rintro D rfl;obtain _|⟨f,c,w⟩:=m
  ·exact⟨p1,p2,B,z⟩
  ·cases w with
   |false=>exact⟨p1,p2,B,z⟩
   |true=>
    have C:ld d (some ⟨f,c,true⟩) (qV (iS r))=kT (kT d d.gr (qV (iS r))) (1-d.gr) (qV (iS r)):=rfl;rw[C];have OO:(gQ (kT d d.gr (qV (iS r))) (1-d.gr)).length+(qV (iS r)).length<=1048576:=by
     rw[z];obtain⟨_,hf,hg,ho⟩:=h.ot
     rcases ho with⟨_,hw,_⟩|⟨_,hw,_⟩|⟨_,_,_,r1,r2,I,e1,e2,_⟩
     ·cases hw
     ·cases hw
     ·have e2:gQ d (1-d.gr)=ig (kM (d.gn+1) f (jN d l f) (nI d l f) r1 (some r2)):=e2;have e1:pZ d l f=r1++r2:=e1;have hf:d.b<=f/\f<=d.b+(l.length:Int):=hf;rw[e2];obtain⟨s1,s2,s3,Q⟩:=ti h hf;have hh:=h.len;have:=lZ (g:=d.gn+1) (b:=f) (t:=nI d l f) s2 (r1:=r1) (o:=some r2) (by rw[e1] at s1;exact ma _ _ _ _ s1) (by show(r1++r2).length<=64;rw[<-e1,Q];omega);omega
    obtain⟨q1,q2,J,R⟩:=pE p1 h.UU (t:=qV (iS r)) OO;have e1:(1:Int)-(1-d.gr)=d.gr:=by omega
    rw[e1] at J;exact⟨q1,by rw[J,p2],λj=>by rw[R,B],by rw[q2,z];rfl⟩
 obtain⟨a1,a2,a3,a4,a5,K,L,M⟩:=hP _ rfl;obtain⟨b1,b2,b3,s⟩:=P _ rfl;obtain⟨D,E⟩:∃D,ld d m (qV (iS r))=D:=⟨_,rfl⟩;rw[E] at H a1 a2 a3 a4 a5 K L M b1 b2 b3 s;obtain⟨i,a⟩:∃i,vI {D with now:=(gP r.delta d.now).1} l r=i:=⟨_,rfl⟩
 have k1:i.b=d.b:=by rw[<-a];exact a1
 have k2:i.tx=d.tx:=by rw[<-a];exact a2
 have k:i.gn=d.gn:=by rw[<-a];exact a3
 have A:i.sf=d.sf:=by rw[<-a];exact a4
 have q:i.fs=d.fs:=by rw[<-a];exact a5
 have n:i.gr=d.gr:=by rw[<-a];exact K
 have S:i.tb=kG d.tb r.who.toNat r.seq (d.b+(l.length:Int)+1):=by rw[<-a,<-L,<-a1];rfl
 have N:i.jq=d.jq:=by rw[<-a];exact M
 have T:i.now=(gP r.delta d.now).1:=by rw[<-a];rfl
 have c1:th i:=by rw[<-a];exact b1
 have u:∀j,gQ i j=gQ D j:=λj=>by rw[<-a];rfl
 have c3:∀j,jh i j=jh D j:=λj=>by rw[<-a];rfl
 rw[H,a];refine⟨rfl,rfl,by show d.b+((l.length+1:Nat):Int)=_;omega,k1,k2,k,A,q,?_⟩;show Bb i (l++[r]) m;have hx:gL d.b (iK d.fs d.b l) l.length (lK d.tx l).length r=0:=by rw[<-Ae h.tb,<-h.now];exact hn
 have y:gj d.b d.fs 0 d.tx (l++[r]):=by
  rw[l9];refine⟨h.ch,?_,trivial⟩;have U:d.b+((0:Nat):Int)=d.b:=by omega
  rw[U,aS];exact hx
 obtain⟨r1,r2,I,m1,m2,V,W,X⟩:=h.mn;refine⟨by rw[n];exact h.gr,c1,by rw[k,k1,k2,q];exact h.hd,by rw[k1,q,k2];exact y,?_,?_,?_,⟨r1,r2++[r],I,?_,?_,?_,?_,?_⟩,?_⟩
 ·rw[S,q,k1,vK];exact h.tb.add _ _ _
 ·rw[T,k2,sc,h.now];rfl
 ·rw[A,k1,an];have:=h.sf;omega
 ·rw[m1,aP]
 ·rw[n,u,b2,m2,k,k1,k2,q,Ai]
 ·rw[an];omega
 ·rw[n,c3,b3,W,k,k1,k2,q,kF V]
 ·rw[A,k1];exact X
 ·have ho:=h.ot;obtain _|⟨f,c,w⟩:=m
  ·show(_/\_)\/(_/\_);rw[N,n,u,s,k];exact ho
  ·obtain⟨o1,o2,o3,Y⟩:=ho;obtain⟨t1,t2,t3⟩:=Nr (r:=r) k1 k2 q o2;have F:d.b<=f:=o2.1;have Z:f<=d.b+(l.length:Int):=o2.2;refine⟨by rw[N];exact o1,by rw[k1,an];exact⟨F,by show f<=_;omega⟩,by rw[k];exact o3,?_⟩
   rcases Y with⟨w1,w2,p⟩|⟨w1,w2,p,G⟩|⟨w1,w2,w0,s1,s2,ks,p,G,w5,w6,w7⟩
   ·have w2:w=false:=w2;subst w2;exact .inl ⟨w1,rfl,by rw[n,u,s];exact p⟩
   ·have w2:w=false:=w2;subst w2;refine .inr (.inl ⟨w1,rfl,by rw[k1,an];have p:f+c<=d.b+(l.length:Int):=p;show f+c<=_;omega,?_⟩);rw[n,u,s,k,t1,t2,t3];have hs:=(ti h o2).2.2.2;have w1:0<=c:=w1;have p:f+c<=d.b+(l.length:Int):=p;rw[kF (by show c.toNat<=_;rw[hs];show c.toNat<=(d.b+(l.length:Int)-f).toNat;omega)];exact G
   ·have w2:w=true:=w2;subst w2;refine .inr (.inr ⟨w1,rfl,w0,s1,s2++[r],ks,?_,?_,?_,?_,?_⟩)
    ·rw[t3,p,aP]
    ·rw[n,u,s,k,t1,t2,<-Ai,<-G];rfl
    ·rw[an];omega
    ·rw[n,c3,b3,k,t1,t2,kF w5];exact w6
    ·rw[A];exact w7
theorem JJ{d:SC}{l:List eX}{m:Option Mv}{r:eX}(hn:gL d.b d.tb l.length d.now.length r≠0):fN d l m r=⟨d,l,0,gL d.b d.tb l.length d.now.length r⟩:=by
 unfold fN;rw[ae hn]
theorem yo:B4 1 0 [] λ_=>0:=⟨qD,qD,qD,λ_ _=>by decide⟩
theorem Dr:Bb kL [] none/\kL.b=0/\kL.gn=1/\kL.jq=false/\kL.tx=[]:=by
 have hz:th Z0:=by show j7 [] 0 [] 0=0;decide
 have ht:(iu 1 0 [] λ_=>0).1++(gC 3 []).1=ig (kM 1 0 [] (λ_=>0) [] (some [])):=by
  rw[vL yo,yl];show qV (mF 1 0 [] λ_=>0)++qV kV=_;rw[JI,JH]
 have hl:(ig (kM 1 0 [] (λ_=>0) [] (some []))).length<=264462:=lZ (o:=some []) qD (λr hr=>by cases hr) qD;obtain⟨p1,p2,i,n⟩:=pE hz (.inl rfl) (t:=ig (kM 1 0 [] (λ_=>0) [] (some []))) (by show 0+_<=_;omega);obtain⟨q1,q2,j,p⟩:=Dn p1 (.inl rfl);have e:kL= {pS (kT Z0 0 (ig (kM 1 0 [] (λ_=>0) [] (some [])))) 0 with gn:=1,b:=0,tx:=[],fs:=λ_=>0,tb:=λ_=>0,wh:=true,gd:=0}:=by
  unfold kL;rw[ht];rfl
 obtain⟨D,a⟩:∃D,kL=D:=⟨_,rfl⟩;rw[e] at a;have k1:D.b=0:=by rw[<-a]
 have k2:D.tx=[]:=by rw[<-a]
 have c:D.gn=1:=by rw[<-a]
 have g:D.sf=0:=by rw[<-a];rfl
 have d:D.fs=λ_=>0:=by rw[<-a]
 have f:D.gr=0:=by rw[<-a];rfl
 have k:D.tb=λ_=>0:=by rw[<-a]
 have h:D.jq=false:=by rw[<-a];rfl
 have l:D.now=[]:=by rw[<-a];rfl
 have c1:th D:=by rw[<-a];exact q1
 have m:gQ D 0=ig (kM 1 0 [] (λ_=>0) [] (some [])):=by rw[<-a];exact(q2 0).trans p2
 have c3:jh D 0=((ig (kM 1 0 [] (λ_=>0) [] (some []))).length:Int):=by
  rw[<-a];have:jh (pS (kT Z0 0 (ig (kM 1 0 [] (λ_=>0) [] (some [])))) 0) 0=_:=j;rw[p2] at this;exact this
 have c4:gQ D 1=[]:=by rw[<-a];exact(q2 1).trans i
 rw[e,a];refine⟨⟨.inl f,c1,by rw[c,k1,k2,d];exact yo,trivial,by rw[k,d];exact yi.refl _,by rw[l,k2];rfl,by rw[g,k1];decide,⟨[],[],0,rfl,?_,ag _,?_,?_⟩,.inr ⟨h,?_⟩⟩,k1,c,h,k2⟩
 ·rw[f,c,k1,k2,d];exact m
 ·rw[f,c,k1,k2,d];exact c3
 ·rw[g,k1];decide
 ·rw[f];exact c4
theorem yq(d:SC)(l:List eX)(m:Option Mv)(r:eX):(fN d l m r).d.jq=d.jq/\(fN d l m r).d.gn=d.gn/\(fN d l m r).d.b=d.b/\(fN d l m r).d.tx=d.tx:=by
 have hp:∀t,(ld d m t).jq=d.jq/\(ld d m t).gn=d.gn/\(ld d m t).b=d.b/\(ld d m t).tx=d.tx:=by
  intro t;unfold ld
  split
  ·exact⟨rfl,rfl,rfl,rfl⟩
  ·split<;>exact⟨rfl,rfl,rfl,rfl⟩
 unfold fN
 split
 ·exact⟨rfl,rfl,rfl,rfl⟩
 ·split
  ·exact⟨rfl,rfl,rfl,rfl⟩
  ·exact hp _
structure Pb(L:ID)(now:BS):Prop where
 ch:gj L.base L.first 0 L.text L.IE
 tb:L.table=iK L.first L.base L.IE
 now:now=lK L.text L.IE
theorem Pb.ok{L:ID}{now:BS}(h:Pb L now)(hd:B4 L.gen L.base L.text L.first):Te L:=by
 obtain⟨h1,h2,h3,h4⟩:=uC h.ch;have:=hd.b;unfold nX at this;exact⟨qW,qW,h1⟩
def ou(done:List Nat):Nat->Nat
 |0=>0
 |n+1=>ou done n+(if fG done n=true then 0 else 1)
theorem kH(i:Nat)(done:List Nat):fG (i::done) i=true:=by simp[fG]
theorem hM{i j:Nat}(h:j≠i)(done:List Nat):fG (i::done) j=fG done j:=by
 have:Nat.beq i j=false:=by
  cases hb:Nat.beq i j
  ·rfl
  ·exact absurd (aY hb).symm h
 simp[fG,this]
theorem mb{i j:Nat}{done:List Nat}(h:fG done j=true):fG (i::done) j=true:=by simp[fG,h]
theorem Ds{i:Nat}{done:List Nat}:∀n,n<=i->ou (i::done) n=ou done n
 |0,_=>rfl
 |n+1,h=>by
  simp only[ou];rw[Ds n qW,hM qW]
theorem qF{i:Nat}{done:List Nat}(hi:fG done i=false):∀n,i<n->ou (i::done) n+1=ou done n
 |0,h=>by omega
 |n+1,h=>by
  simp only[ou]
  by_cases e:i=n
  ·subst e;rw[Ds _ (ag _),kH,hi];rfl
  ·rw[hM qW,<-qF hi n qW];omega
theorem vO{done:List Nat}:∀n,ou done n=0->∀i,i<n->fG done i=true
 |0,_,i,h=>by omega
 |n+1,h,i,hi=>by
  simp only[ou] at h
  by_cases e:i=n
  ·subst e;cases hh:fG done i
   ·rw[hh] at h;simp at h
   ·rfl
  ·exact vO n qW i qW
theorem yr:∀n,ou [] n=n
 |0=>rfl
 |n+1=>by simp only[ou];rw[yr n];rfl
theorem sg{f:Nat->AO->Prop}{done:List Nat}:∀(l:List (AO×List Nat))(m:Nat),(∀(j:Nat)(o:AO)(ps:List Nat),l[j]? =some (o,ps)->fG done (m+j)=false->ps.all (fG done)=true->f (m+j) o)->xI (jx done m l) f
 |[],m,h=>trivial
 |(o,ps)::l,m,h=>by
  have ih:=sg (f:=f) (done:=done) l (m+1) λj o ps h1 h2 h3=>by
   have:=h (j+1) o ps h1 (by rw[<-h2];congr 1;omega) h3
   rwa[show m+(j+1)=m+1+j by omega] at this
  simp only[jx]
  split
  ·rename_i he;rw[aO] at he;have h0:=h 0 o ps rfl (by simpa using he.1) he.2;rw[bP] at h0
   revert ih
   cases jx done (m+1) l with
   |nil=>intro _;exact h0
   |cons x r=>intro ih;exact⟨h0,ih⟩
  ·exact ih
def nj(ops:List (AO×List Nat))(done:List Nat):Prop:=∀j o ps,ops[j]? =some (o,ps)->fG done j=true->∀k∈ps,fG done k=true
theorem Aj{P:Prim}{T:cp}{ops:List (AO×List Nat)}{K:S->Prop}(I:List Nat->S->Prop)
  (a:∀(done:List Nat)(i:Nat)(o:AO)(ps:List Nat)(s:S),ops[i]? =some (o,ps)->fG done i=false->(∀k∈ps,fG done k=true)->nj ops done->I done s->∀K':S->Prop,(∀s',I (i::done) s'->K' s')->fm P T o s K')
  (hK:∀done s,(∀i,i<ops.length->fG done i=true)->I done s->K s):
  ∀(n:Nat)(done:List Nat)(s:S),ou done ops.length=n->nj ops done->I done s->lF P T ops n done s K
 |0,done,s,hc,_,d=>hK done s (vO _ hc) d
 |n+1,done,s,hc,c,d=>by
  show xI (jx done 0 ops) _;refine sg ops 0 λj o ps hj hf hp=>?_;rw[aS] at hf⊢;have hq:∀k∈ps,fG done k=true:=aE.1 hp;have hlt:j<ops.length:=(ah.1 hj).1;refine a done j o ps s hj hf hq c d _ λs' f=>Aj I a hK n (j::done) s' (by have:=qF hf ops.length hlt;omega) ?_ f;intro h o' g b hd k hk
  by_cases e:h=j
  ·subst e;rw[hj] at b;cases b;exact mb (hq k hk)
  ·rw[hM e] at hd;exact mb (c h o' g b hd k hk)
theorem Ak{P:Prim}{T:cp}{ops:List (AO×List Nat)}{K:S->Prop}{n:Nat}(hn:ops.length=n)(I:List Nat->S->Prop)
  (a:∀(done:List Nat)(i:Nat)(o:AO)(ps:List Nat)(s:S),ops[i]? =some (o,ps)->fG done i=false->(∀k∈ps,fG done k=true)->nj ops done->I done s->∀K':S->Prop,(∀s',I (i::done) s'->K' s')->fm P T o s K')
  (hK:∀done s,(∀i,i<n->fG done i=true)->I done s->K s){s:S}(hs:I [] s):lF P T ops n [] s K:=
 Aj I a (by rw[hn];exact hK) n [] s (by rw[yr,hn]) (λj o ps _ h=>by cases h) hs
def iJ(done:List Nat):List (Nat×Nat×V)->(Nat->V)->Nat->V
 |[],t,i=>t i
 |(k,s,v)::l,t,i=>if i=s then(if fG done k=true then v else t i) else iJ done l t i
def Ti:List (Nat×Nat×V)->(Nat->V)->Nat->V
 |[],t,i=>t i
 |(_,s,v)::l,t,i=>match Nat.beq i s with
  |true=>v
  |false=>Ti l t i
theorem ys:∀(L:List (Nat×Nat×V))(t:Nat->V),iJ [] L t=t
 |[],t=>rfl
 |(k,s,v)::l,t=>by
  funext i
  have ih:=et (ys l t) i;simp only[iJ,fG]
  split
  ·rfl
  ·exact ih
theorem yt{done:List Nat}:∀(L:List (Nat×Nat×V))(t:Nat->V),(∀p∈L,fG done p.1=true)->iJ done L t=Ti L t
 |[],t,_=>rfl
 |(k,s,v)::l,t,h=>by
  funext i
  have ih:=et (yt l t λp hp=>h p (bM _ hp)) i;have hk:=h (k,s,v) bS;simp only[iJ,Ti];have hk:fG done k=true:=hk
  by_cases hi:i=s
  ·subst hi;have:Nat.beq i i=true:=b9 i;rw[ae rfl,ae hk,this]
  ·have:Nat.beq i s=false:=by
    cases hb:Nat.beq i s
    ·rfl
    ·exact absurd (aY hb) hi
   rw[aa hi,this];exact ih
theorem sh{done:List Nat}{k:Nat}:∀(L:List (Nat×Nat×V))(t:Nat->V),(L.map (·.1)).contains k=false->iJ (k::done) L t=iJ done L t
 |[],t,_=>rfl
 |(k',s,v)::l,t,h=>by
  simp only[aL,List.contains_cons,Bool.or_eq_false_iff,beq_eq_false_iff_ne] at h
  funext i
  have ih:=et (sh (done:=done) l t h.2) i;simp only[iJ];rw[hM (λe=>h.1 e.symm),ih]
theorem ij{done:List Nat}{k s:Nat}{v:V}:∀(L:List (Nat×Nat×V))(t:Nat->V),(L.map (·.1)).Nodup->(L.map (·.2.1)).Nodup->(k,s,v)∈L->iX (iJ done L t) s v=iJ (k::done) L t
 |[],t,_,_,h=>by cases h
 |(k',s',v')::l,t,n1,n2,h=>by
  rw[aL,cM] at n1 n2
  funext i
  rcases ax.1 h with h|h
  ·cases h;have a:iJ (k::done) l t=iJ done l t:=sh l t (by
    cases hc:(l.map (·.1)).contains k
    ·rfl
    ·exact absurd (List.contains_iff_mem.1 hc) n1.1)
   simp only[iX,iJ]
   by_cases hi:i=s
   ·rw[ae hi,ae hi,kH,ae rfl]
   ·rw[aa hi,aa hi,a,aa hi]
  ·have ih:=et (ij (done:=done) l t n1.2 n2.2 h) i;have hs:s'≠s:=λe=>n2.1 (aC.2 ⟨_,h,e.symm⟩);have hk:k'≠k:=λe=>n1.1 (aC.2 ⟨_,h,e.symm⟩);simp only[iX,iJ] at ih⊢
   by_cases hi:i=s
   ·subst hi;rw[ae rfl] at ih⊢;rw[aa (λe=>hs e.symm)];exact ih
   ·rw[aa hi] at ih⊢;rw[hM hk]
    by_cases hi2:i=s'
    ·rw[ae hi2,ae hi2]
    ·rw[aa hi2,aa hi2];exact ih
theorem ik{done:List Nat}{k s:Nat}{v:V}(hk:fG done k=true):∀(L:List (Nat×Nat×V))(t:Nat->V),(L.map (·.2.1)).Nodup->(k,s,v)∈L->iJ done L t s=v
 |[],t,_,h=>by cases h
 |(k',s',v')::l,t,n2,h=>by
  rw[aL,cM] at n2
  rcases ax.1 h with h|h
  ·cases h;simp[iJ,hk]
  ·have hs:s'≠s:=λe=>n2.1 (aC.2 ⟨_,h,e.symm⟩);simp only[iJ];rw[aa (λe=>hs e.symm)];exact ik hk l t n2.2 h
theorem n3{done:List Nat}{s:Nat}:∀(L:List (Nat×Nat×V))(t:Nat->V),(L.map (·.2.1)).contains s=false->iJ done L t s=t s
 |[],t,_=>rfl
 |(k',s',v')::l,t,h=>by
  simp only[aL,List.contains_cons,Bool.or_eq_false_iff,beq_eq_false_iff_ne] at h;simp only[iJ];rw[aa h.1];exact n3 l t h.2
def Tj:List (Nat×V)->(Nat->V)->Nat->V
 |[],t,i=>t i
 |(s,v)::l,t,i=>match Nat.beq i s with
  |true=>v
  |false=>Tj l t i
def JK:List (Nat×Option Ob)->Hp->Nat->Option Ob
 |[],h,i=>h i
 |(k,o)::l,h,i=>match Nat.beq i k with
  |true=>o
  |false=>JK l h i
def Dt:List (Nat×V)->S->Prop
 |[],_=>True
 |(i,v)::l,s=>s.t i=v/\Dt l s
def Du:List (Nat×Option Ob)->S->Prop
 |[],_=>True
 |(k,o)::l,s=>s.h k=o/\Du l s
theorem JL{s:S}:∀(L:List (Nat×V)),Dt L s->Tj L s.t=s.t
 |[],_=>rfl
 |(j,v)::l,h=>by
  funext i
  have ih:=et (JL l h.2) i;simp only[Tj]
  split
  ·rename_i e;rw[aY e];exact h.1.symm
  ·exact ih
theorem JM{s:S}:∀(L:List (Nat×Option Ob)),Du L s->JK L s.h=s.h
 |[],_=>rfl
 |(j,v)::l,h=>by
  funext i
  have ih:=et (JM l h.2) i;simp only[JK]
  split
  ·rename_i e;rw[aY e];exact h.1.symm
  ·exact ih
theorem pF{Q:S->Prop}{s:S}(L:List (Nat×V))(H:List (Nat×Option Ob))(h1:Dt L s)(h2:Du H s)(a:∀t h,Q ⟨Tj L t,JK H h⟩):Q s:=by
 have:=a s.t s.h;rw[JL L h1,JM H h2] at this;exact this
def kW:Nat->AC->AC
 |n+1,.seq _ y=>kW n y
 |_,x=>x
def p0:Nat->AC->AC->AC
 |n+1,.seq x y,r=>.seq x (p0 n y r)
 |_,_,r=>r
section
variable {P:Prim} {T:cp} {s:S} {d x y:Nat} {K:S->Prop}
theorem sj{v:V}(hx:s.t x=v)(hK:K ⟨iX s.t d v,s.h⟩):fm P T ⟨some d,none,.mov (.t x)⟩ s K:=by
 show K ⟨iX s.t d (s.t x),s.h⟩;rw[hx];exact hK
theorem tS{k sz i o:Nat}{b:Option Nat}(hx:s.t x=.ptr k b sz i o)(hK:K ⟨iX s.t d (.ptr k b sz i o),s.h⟩):fm P T ⟨some d,none,.nilchk (.t x)⟩ s K:=by
 simp only[fm,iz,fC,hJ.ev,hx];exact hK
theorem qG{k sz i o off:Nat}{b:Option Nat}(hx:s.t x=.ptr k b sz i o)(hK:K ⟨iX s.t d (.ptr k b sz i (o+off)),s.h⟩):fm P T ⟨some d,none,.faddr off (.t x)⟩ s K:=by
 simp only[fm,iz,fC,hJ.ev,hx];exact hK
theorem vP{k sz off ty:Nat}{b:Option Nat}{r:List V}{v:V}(hx:s.t x=.ptr k b sz 0 off)(hk:s.h k=some ⟨b,ty,sz,[r]⟩)(hlt:k<1000000)(hr:off<r.length/\r.getD off .gS=v)(hK:K ⟨iX s.t d v,s.h⟩):fm P T ⟨some d,none,.load1 (.t x)⟩ s K:=by
 simp only[fm,iz,fC,hJ.ev,hx,oF,nN,hk,bV hlt,xz];refine⟨trivial,trivial,hr.1,?_⟩;rw[hr.2];exact hK
theorem B7{k sz off ty n:Nat}{b:Option Nat}{r cs:List V}(hx:s.t x=.ptr k b sz 0 off)(hk:s.h k=some ⟨b,ty,sz,[r]⟩)(hlt:k<1000000)(hr:off+n<=r.length/\(r.drop off).take n=cs)(hK:K ⟨iX s.t d (.agg cs),s.h⟩):fm P T ⟨some d,none,.loadn n (.t x)⟩ s K:=by
 simp only[fm,iz,fC,hJ.ev,hx,oG,nN,hk,bV hlt];refine⟨trivial,trivial,hr.1,?_⟩;rw[hr.2];exact hK
theorem vQ{k sz off ty n:Nat}{b:Option Nat}{r:List V}{v:V}(hx:s.t x=.ptr k b sz 0 off)(hy:s.t y=v)(hf:v.fits n)(hk:s.h k=some ⟨b,ty,sz,[r]⟩)(hlt:k<1000000)(hr:off+n<=r.length)(hK:K ⟨s.t,s.h.put k ⟨b,ty,sz,[kP r off v.cells]⟩⟩):fm P T ⟨none,none,.store n (.t x) (.t y)⟩ s K:=by
 simp only[fm,iz,fC,hJ.ev,hx,hy,p8,nN,hk,bV hlt,LW];exact⟨trivial,trivial,hr,hf,hK⟩
end
section
variable {v0 v1 v2 v3 v4:V} {gn bs:Int} {fs:Nat->Int} {rv:V} {Ze Zf:Nat}
end
def Al:AC:=qr [qo 2 (.alloc 49 [qe,q0])] (qr [qm 3 0,qm 4 0,qo 5 (.len true (.t 4)),qo 6 (.build [qe,q0] [(0,1,(.t 3)),(1,1,(.t 5))]),qs 2 2 6] .ret)
theorem JN:fo Tryz.prog 30 Tryz.f30 Al [.cn 2 2] 1 eV:=⟨Tryz.func30,by decide+kernel,by kernel_rfl,by kernel_rfl,by decide+kernel⟩
theorem JO(P:Prim)(hP:P=ca)(T b:cp)(s:BS)(n:Int)(hn:P.eP s=n)(R:S->Prop)(c:∀s' a m,m=n->a7 s' a->hX [.cn 2 2] [.agg [.str s,qI m]] a->R s'):fX P T b Al (S0 [.str s] Hp.emp) R (λ_ _=>False) R:=by
 cbv
 repeat' first|(refine qA ?_;cbv)|(intro d;cbv)
 exact c _ _ _ hn (a7.refl _) ⟨rfl,rfl,aj 0,ag 2,rfl⟩
theorem JP(s:BS):Spec Tryz.prog 30 [.str s] Hp.emp (Is (.agg [.str s,.int .i64 (s.length:Int)])):=
 eW gY JN [.agg [.str s,.int .i64 (s.length:Int)]] (.agg _ (by simp;exact⟨.str _,.int _ _⟩)) λR b=>JO ca rfl _ _ s _ rfl R λs' a m hm he hr=>by subst hm;exact b s' a he hr
structure im where
 x1:BS
 x2:Int
 x3:BS
 x4:Int
 gr:Int
 gn:Int
 b:Int
 fs:Nat->Int
 sf:Int
 mv:Bool
 to:Int
 pt:Int
 wh:Bool
 jq:Bool
def Am(d:im)(tv rv:V):List V:=[.str d.x1,.int .i64 d.x2,.str d.x3,.int .i64 d.x4,.int .i64 d.gr,.int .i64 d.gn,.int .i64 d.b,.int .i64 (d.fs 0),.int .i64 (d.fs 1),.int .i64 (d.fs 2),.int .i64 (d.fs 3),.int .i64 (d.fs 4),.int .i64 (d.fs 5),.int .i64 (d.fs 6),.int .i64 (d.fs 7),.int .i64 (d.fs 8),.int .i64 (d.fs 9),.int .i64 (d.fs 10),.int .i64 (d.fs 11),.int .i64 (d.fs 12),.int .i64 (d.fs 13),.int .i64 (d.fs 14),.int .i64 (d.fs 15),tv,rv,.int .i64 d.sf,.bool d.mv,.int .i64 d.to,.int .i64 d.pt,.bool d.wh,.bool d.jq]
def fV(bl:Nat)(d:im)(tv rv:V):Ob:=⟨some bl,58,31,[Am d tv rv]⟩
theorem l1{bl:Nat}{d:im}{a lr:List (List V)}(ht:∀r∈a,∀v∈r,Fz v)(hl:∀r∈lr,∀v∈r,Fz v):(fV bl d (.sl false 1 a) (.sl false 3 lr)).Fz:=by
 intro r hr v hv;simp only[fV,aw] at hr;subst hr;simp only[Am,ax,aF,bj] at hv
 rcases hv with rfl|rfl|rfl|rfl|rfl|rfl|rfl|rfl|rfl|rfl|rfl|rfl|rfl|rfl|rfl|rfl|rfl|rfl|rfl|rfl|rfl|rfl|rfl|rfl|rfl|rfl|rfl|rfl|rfl|rfl|rfl<;>first|exact .sl _ _ ht|exact .sl _ _ hl|constructor
theorem Q5{f k bl:Nat}{d:im}{c lr:List (List V)}(ht:∀r∈c,∀v∈r,Fz v)(hl:∀r∈lr,∀v∈r,Fz v){rest a:List V}{v:V}(hs:Spec Tryz.prog f (.ptr 0 (some bl) 31 0 0::a) (b7 [(0,fV bl d (.sl false 1 c) (.sl false 3 lr))]) λx h'=>∃e,(x=v/\e=[(0,fV bl d (.sl false 1 c) (.sl false 3 lr))])/\h'=b7 e)(b:∀h m,k6 h m rest a)(hv:∀g,v.gA g=v)
  {h:Hp}{K:V->Hp->Prop}(hk:h k=some (fV bl d (.sl false 1 c) (.sl false 3 lr)))(hK:K v h):fj Tryz.prog f (.ptr k (some bl) 31 0 0::rest) h K:=by
 refine Jq [(0,k)] hs (.cons ?_ (b h _)) (by simp) (by simp) rfl (λp hp=>?_) (by rw[hv];exact hK)
 ·have:=Arg.same (h:=h) (m:=[(0,k)]) (.ptr k (some bl) 31 0 0);simpa[V.gA,V.rl,gT] using this
 ·simp only[aw] at hp;subst hp;exact⟨by show(h k).map _=_;rw[hk];rfl,l1 ht hl⟩
theorem Q6{f k bl:Nat}{d:im}{c lr:List (List V)}(ht:∀r∈c,∀v∈r,Fz v)(hl:∀r∈lr,∀v∈r,Fz v){rest a:List V}{v:V}(hs:Spec Tryz.prog f (.ptr 0 (some bl) 31 0 0::a) (b7 [(0,fV bl d (.sl false 1 c) (.sl false 3 lr))]) λx h'=>∃j,(x=v/\j=[(0,fV bl d (.sl false 1 c) (.sl false 3 lr))])/\h'=b7 j)(b:∀h m,k6 h m rest a)(hv:∀g,v.gA g=v)
  {h:Hp}{K:V->Hp->Prop}(hk:h k=some (fV bl d (.sl false 1 c) (.sl false 3 lr)))(hK:K v h):fa Tryz.prog f (.ptr k (some bl) 31 0 0::rest) h K:=by
 refine vJ [(0,k)] hs (.cons ?_ (b h _)) (by simp) (by simp) (by simp) (λp hp=>?_) (λp hp=>?_) ?_ ?_
 ·have:=Arg.same (h:=h) (m:=[(0,k)]) (.ptr k (some bl) 31 0 0);simpa[V.gA,V.rl,gT] using this
 ·simp only[aw] at hp;subst hp;exact⟨_,aw.2 rfl,rfl⟩
 ·simp only[aw] at hp;subst hp;exact⟨by show(h k).map _=_;rw[hk];rfl,l1 ht hl⟩
 ·rintro x j ⟨rfl,rfl⟩;rfl
 ·rintro x j ⟨rfl,rfl⟩;rw[hv];have e:h.e9 (oo [(0,k)] (Ob.gA (gI [(0,k)])) [(0,fV bl d (.sl false 1 c) (.sl false 3 lr))])=h:=by
   funext i
   show(match(if i=k then some _ else none) with|some o=>some o|none=>h i)=_
   by_cases hi:i=k
   ·rw[ae hi,hi,hk];rfl
   ·rw[aa hi]
  rw[e];exact hK
def Dv:AC:=qr [qz 2 0] (qq (.region true [qm 3 0,qn 4 3,qf 5 6 4,ql 6 5,qm 7 0,qn 8 7,qf 9 24 8,ql 10 9,qo 11 (.len false (.t 10)),qb 12 .add 6 11,qm 2 12]) .ret)
theorem Nt:fo Tryz.prog 35 Tryz.f35 Dv [.t 2] 1 eV:=⟨Tryz.func35,by decide+kernel,by kernel_rfl,by kernel_rfl,by decide+kernel⟩
theorem Nu(P:Prim)(hP:P=ca)(T c:cp)(bl:Nat)(d:im)(a lr:List (List V))(q1:P.i64 (P.add d.b (P.da lr)))(r:Int)(hr:P.add d.b (P.da lr)=r)
  (R:S->Prop)(e:∀s s' q,q=r->a7 s s'->hX [.t 2] [qI q] s'->fh [(0,fV bl d (.sl false 1 a) (.sl false 3 lr))] s'->R s):fX P T c Dv (S0 [.ptr 0 (some bl) 31 0 0] (b7 [(0,fV bl d (.sl false 1 a) (.sl false 3 lr))])) R (λ_ _=>False) R:=by
 cbv
 repeat' first|(refine qA ?_;cbv)|(intro f;cbv)
 exact e _ _ _ hr (a7.refl _) rfl ⟨rfl,trivial⟩
theorem Dw(bl:Nat)(d:im)(a lr:List (List V))(ht:∀r∈a,∀v∈r,Fz v)(hl:∀r∈lr,∀v∈r,Fz v)(hb:0<=d.b/\d.b<=4294967295)(hn:lr.length<=1000):Spec Tryz.prog 35 [.ptr 0 (some bl) 31 0 0] (b7 [(0,fV bl d (.sl false 1 a) (.sl false 3 lr))]) λx h'=>∃c,(x=qI (d.b+(lr.length:Int))/\c=[(0,fV bl d (.sl false 1 a) (.sl false 3 lr))])/\h'=b7 c:=
 fe gY Nt (L:=[(0,fV bl d (.sl false 1 a) (.sl false 3 lr))]) (λx c=>x=qI (d.b+(lr.length:Int))/\c=[(0,fV bl d (.sl false 1 a) (.sl false 3 lr))]) λR e=>
  Nu ca rfl _ _ bl d a lr (by show-9223372036854775808<=d.b+(lr.length:Int)/\d.b+(lr.length:Int)<=9223372036854775807;omega) _ rfl R λs s' q hq he hr ha=>e s s' _ _ he (eS _ _ _ (λx hx=>by rw[hx,hq];rfl) hr) ha (.int _ _) (λp hp=>by simp only[aw] at hp;subst hp;exact l1 ht hl) ⟨rfl,rfl⟩
def tj(T:cp):Prop:=∀(k bl:Nat)(d:im)(a lr:List (List V))(h:Hp)(K:V->Hp->Prop),(∀r∈a,∀v∈r,Fz v)->(∀r∈lr,∀v∈r,Fz v)->(0<=d.b/\d.b<=4294967295)->lr.length<=1000->h k=some (fV bl d (.sl false 1 a) (.sl false 3 lr))->(∀q,q=d.b+(lr.length:Int)->K (qI q) h)->T 35 [.ptr k (some bl) 31 0 0] h K
theorem B8:tj (fa Tryz.prog):=λk bl d a lr h K ht hl hb hn hk hK=>Q6 ht hl (Dw bl d a lr ht hl hb hn) (λ_ _=>.nil) (λ_=>rfl) hk (hK _ rfl)
theorem Q7:tj (fj Tryz.prog):=λk bl d a lr h K ht hl hb hn hk hK=>Q5 ht hl (Dw bl d a lr ht hl hb hn) (λ_ _=>.nil) (λ_=>rfl) hk (hK _ rfl)
theorem sk{P:Prim}{T a:cp}{N:S->Prop}{X:Nat->S->Prop}{R:S->Prop}:∀(n:Nat)(ac:AC)(s:S),fX P T a (p0 n ac .skip) s (λs=>fX P T a (kW n ac) s N X R) X R->fX P T a ac s N X R:=by
 have key:∀(n:Nat)(ac:AC),(λs=>fX P T a (p0 n ac .skip) s (λs=>fX P T a (kW n ac) s N X R) X R)=λs=>fX P T a ac s N X R:=by
  intro n
  induction n with
  |zero=>intro ac;rfl
  |succ n ih=>
   intro ac;cases ac with
   |seq x y=>
    funext s
    show fX P T a x s (λs=>fX P T a (p0 n y .skip) s (λs=>fX P T a (kW n y) s N X R) X R) X R=fX P T a x s (λs=>fX P T a y s N X R) X R;rw[ih y]
   |_=>rfl
 intro n ac s h;have:=et (key n ac) s;exact this▸h
theorem qH(l:List eX):∀r∈l.map a8,∀v∈r,Fz v:=λr hr v hv=>fW l r hr v hv
def An:AC:=qr [qz 4 0] (qq (qr [qm 5 1,qm 6 0,qn 7 6,qf 8 6 7,ql 9 8,qb 10 .lss 5 9] (qu 10 (qr [qz 4 9] .ret) .skip)) (qq (qr [qm 11 1,qm 12 0,qa 13 35 [.t 12],qb 14 .gtr 11 13] (qu 14 (qr [qz 4 8] .ret) .skip)) (qr [qz 4 0] .ret)))
theorem JQ:fo Tryz.prog 41 Tryz.f41 An [.t 4] 2 eV:=⟨Tryz.func41,by decide+kernel,by kernel_rfl,by kernel_rfl,by decide+kernel⟩
theorem JR(P:Prim)(hP:P=ca)(T h:cp)(e:tj T)(bl:Nat)(d:im)(c lr:List (List V))(ht:∀r∈c,∀v∈r,Fz v)(hl:∀r∈lr,∀v∈r,Fz v)(hb:0<=d.b/\d.b<=4294967295)(hn:lr.length<=1000)(j:Int)(y:Int)(hy:y=gl d.b lr.length j)
  (R:S->Prop)(f:∀s s' q,q=y->a7 s s'->hX [.t 4] [qI q] s'->fh [(0,fV bl d (.sl false 1 c) (.sl false 3 lr))] s'->R s):fX P T h An (S0 [.ptr 0 (some bl) 31 0 0,qI j] (b7 [(0,fV bl d (.sl false 1 c) (.sl false 3 lr))])) R (λ_ _=>False) R:=by
 unfold gl at hy;cbv
 repeat' first|(refine qA ?_;cbv)|(intro a;cbv)
 refine ab (λg=>?_) (λg=>?_)
 ·have g1:j<d.b:=fA hP g;rw[ae g1] at hy;cbv
  repeat' first|(refine qA ?_;cbv)|(intro a;cbv)
  exact f _ _ _ hy.symm (a7.refl _) rfl ⟨rfl,trivial⟩
 have g1:¬j<d.b:=fg hP g;rw[aa g1] at hy;cbv
 repeat' first|(refine qA ?_;cbv)|(intro a;cbv)|(refine e 0 bl d c lr _ _ ht hl hb hn rfl λq hq=>?_;cbv)|fail
 refine ab (λg=>?_) (λg=>?_)
 ·have g2:q<j:=fA hP g;rw[hq] at g2;rw[ae g2] at hy;cbv
  repeat' first|(refine qA ?_;cbv)|(intro a;cbv)
  exact f _ _ _ hy.symm (a7.refl _) rfl ⟨rfl,trivial⟩
 have g2:¬q<j:=fg hP g;rw[hq] at g2;rw[aa g2] at hy;cbv
 repeat' first|(refine qA ?_;cbv)|(intro a;cbv)
 exact f _ _ _ hy.symm (a7.refl _) rfl ⟨rfl,trivial⟩
theorem JS(bl:Nat)(d:im)(a lr:List (List V))(ht:∀r∈a,∀v∈r,Fz v)(hl:∀r∈lr,∀v∈r,Fz v)(hb:0<=d.b/\d.b<=4294967295)(hn:lr.length<=1000)(j:Int):Spec Tryz.prog 41 [.ptr 0 (some bl) 31 0 0,qI j] (b7 [(0,fV bl d (.sl false 1 a) (.sl false 3 lr))]) λx h'=>∃c,(x=qI (gl d.b lr.length j)/\c=[(0,fV bl d (.sl false 1 a) (.sl false 3 lr))])/\h'=b7 c:=
 fe gY JQ (L:=[(0,fV bl d (.sl false 1 a) (.sl false 3 lr))]) (λx c=>x=qI (gl d.b lr.length j)/\c=[(0,fV bl d (.sl false 1 a) (.sl false 3 lr))]) λR e=>
  JR ca rfl _ _ B8 bl d a lr ht hl hb hn j _ rfl R λs s' q hq he hr ha=>e s s' _ _ he (eS _ _ _ (λx hx=>by rw[hx,hq];rfl) hr) ha (.int _ _) (λp hp=>by simp only[aw] at hp;subst hp;exact l1 ht hl) ⟨rfl,rfl⟩
def JT(T:cp):Prop:=∀(k bl:Nat)(d:im)(a lr:List (List V))(j:Int)(h:Hp)(K:V->Hp->Prop),(∀r∈a,∀v∈r,Fz v)->(∀r∈lr,∀v∈r,Fz v)->(0<=d.b/\d.b<=4294967295)->lr.length<=1000->h k=some (fV bl d (.sl false 1 a) (.sl false 3 lr))->(∀q,q=gl d.b lr.length j->K (qI q) h)->T 41 [.ptr k (some bl) 31 0 0,qI j] h K
theorem Q8:JT (fa Tryz.prog):=λk bl d a lr j h K ht hl hb hn hk hK=>Q6 ht hl (JS bl d a lr ht hl hb hn j) (λ_ _=>.cons (.same _) .nil) (λ_=>rfl) hk (hK _ rfl)
def Dx:AC:=qr [qo 4 (.mov (.c qe))] (qq (.region true [qm 5 0,qn 6 5,qf 7 23 6,ql 8 7,qm 9 1,qm 10 0,qn 11 10,qf 12 6 11,ql 13 12,qb 14 .sub 9 13,qo 15 (.iaddr 1 (.t 8) (.t 14)),ql 16 15,qm 4 16]) .ret)
theorem Nv:fo Tryz.prog 42 Tryz.f42 Dx [.t 4] 2 eV:=⟨Tryz.func42,by decide+kernel,by kernel_rfl,by kernel_rfl,by decide+kernel⟩
theorem Nw(P:Prim)(hP:P=ca)(T g:cp)(bl:Nat)(d:im)(c lr:List (List V))(j:Int)(m1:P.i64 (P.sub j d.b))(m2:P.fQ 0 (P.sub j d.b))(f:BS)(a:P.row c (P.nat (P.sub j d.b)) [.str f])
  (R:S->Prop)(h:∀s s' q,q=f->a7 s s'->hX [.t 4] [.str q] s'->fh [(0,fV bl d (.sl false 1 c) (.sl false 3 lr))] s'->R s):fX P T g Dx (S0 [.ptr 0 (some bl) 31 0 0,qI j] (b7 [(0,fV bl d (.sl false 1 c) (.sl false 3 lr))])) R (λ_ _=>False) R:=by
 cbv
 repeat' first|(refine qA ?_;cbv)|(intro e;cbv)
 refine⟨_,a,?_⟩;cbv
 repeat' first|(refine qA ?_;cbv)|(intro e;cbv)
 exact h _ _ _ rfl (a7.refl _) rfl ⟨rfl,trivial⟩
theorem Nx(bl:Nat)(d:im)(a lr:List (List V))(ht:∀r∈a,∀v∈r,Fz v)(hl:∀r∈lr,∀v∈r,Fz v)(hb:0<=d.b/\d.b<=4294967295)(j:Int)(i:Nat)(hj:j-d.b=(i:Int))(hi:i<=1000)(c:BS)(h0:a[i]? =some [.str c]):Spec Tryz.prog 42 [.ptr 0 (some bl) 31 0 0,qI j] (b7 [(0,fV bl d (.sl false 1 a) (.sl false 3 lr))]) λx h'=>∃e,(x=.str c/\e=[(0,fV bl d (.sl false 1 a) (.sl false 3 lr))])/\h'=b7 e:=
 fe gY Nv (L:=[(0,fV bl d (.sl false 1 a) (.sl false 3 lr))]) (λx e=>x=.str c/\e=[(0,fV bl d (.sl false 1 a) (.sl false 3 lr))]) λR f=>
  Nw ca rfl _ _ bl d a lr j (by show-9223372036854775808<=j-d.b/\j-d.b<=9223372036854775807;omega) (by show 0<=j-d.b;omega) c (fL rfl hj h0) R λs s' q hq he hr ha=>f s s' _ _ he (eS _ _ _ (λx hx=>by rw[hx,hq];rfl) hr) ha (.str _) (λp hp=>by simp only[aw] at hp;subst hp;exact l1 ht hl) ⟨rfl,rfl⟩
def Pc(T:cp):Prop:=∀(k bl:Nat)(d:im)(a lr:List (List V))(j:Int)(i:Nat)(c:BS)(h:Hp)(K:V->Hp->Prop),(∀r∈a,∀v∈r,Fz v)->(∀r∈lr,∀v∈r,Fz v)->(0<=d.b/\d.b<=4294967295)->j-d.b=(i:Int)->i<=1000->a[i]? =some [.str c]->h k=some (fV bl d (.sl false 1 a) (.sl false 3 lr))->K (.str c) h->T 42 [.ptr k (some bl) 31 0 0,qI j] h K
theorem Tk:Pc (fj Tryz.prog):=λk bl d a lr j i b h K ht hl hb hj hi h0 hk hK=>Q5 ht hl (Nx bl d a lr ht hl hb j i hj hi b h0) (λ_ _=>.cons (.same _) .nil) (λ_=>rfl) hk hK
def Dy:AC:=qr [qo 4 (.alloc 55 Vk)] (qr [qm 8 0,qn 9 8,qf 10 7 9,qd 11 16 10,qo 5 (.alloc 55 Vk),qs 16 5 11] (qq (qr [qm 12 1,qm 13 0,qn 14 13,qf 15 6 14,ql 16 15,qb 17 .sub 12 16,qz 18 0] (.block 0 (.loop (qr [qb 19 .lss 18 17] (qq (qu 19 .skip (.exit 0)) (qq (.block 1 (qr [qm 20 18,qm 6 20] (qr [qm 21 0,qn 22 21,qf 23 24 22,ql 24 23,qm 25 6,qo 26 (.iaddr 3 (.t 24) (.t 25)),qd 27 3 26,qo 7 (.alloc 91 F4),qs 3 7 27] (.region true [qf 28 0 7,ql 29 28,qf 30 1 7,ql 31 30,qm 32 0,qn 33 32,qf 34 6 33,ql 35 34,qm 36 6,qb 37 .add 35 36,qc 38 .add 37 1,qo 39 (.build D7 [(0,1,(.t 31)),(1,1,(.t 38))]),qo 40 (.iarr 8 2 (.t 5) (.t 29)),qs 2 40 39])))) (qR [qc 41 .add 18 1,qm 18 41]))))))) (qr [qd 42 16 5,qs 16 4 42] .ret)))
theorem Ny:fo Tryz.prog 38 Tryz.f38 Dy [.cn 4 16] 2 eV:=⟨Tryz.func38,by decide+kernel,by kernel_rfl,by kernel_rfl,by decide+kernel⟩
theorem Nz(P:Prim)(hP:P=ca)(T E:cp)(bl:Nat)(d:im)(A:List (List V))(l:List eX)(lr:List (List V))(q:lr=l.map a8)(hb:0<=d.b/\d.b<=4294967295)(F:l.length<=1000)(t:∀r∈l,0<=r.who/\r.who<=7)(j:Int)(hj:d.b<=j/\j<=d.b+(l.length:Int))(a:Nat)(B:j-d.b=(a:Int))
  (R:S->Prop)(G:∀(s s':S)(tb:Nat->Int),tb=iK d.fs d.b (l.take a)->a7 s s'->hX [.cn 4 16] [lY tb] s'->fh [(0,fV bl d (.sl false 1 A) (.sl false 3 lr))] s'->R s):fX P T E Dy (S0 [.ptr 0 (some bl) 31 0 0,qI j] (b7 [(0,fV bl d (.sl false 1 A) (.sl false 3 lr))])) R (λ_ _=>False) R:=by
 have m1:P.i64 (P.sub j d.b):=by rw[sub_eq hP];exact ft hP qW
 obtain⟨hi,u⟩:∃hi,hi=P.sub j d.b:=⟨_,rfl⟩;have D:hi=(a:Int):=by rw[u,sub_eq hP];exact B
 have H:P.da lr=(l.length:Int):=by rw[gi hP,q];simp
 cbv
 repeat' first|(refine qA ?_;cbv)|(intro n;cbv)
 rename_i v;rw[<-u];refine⟨X4 d.fs d.b l a,λy=>[(0,.ptr 0 (some bl) 31 0 0),(4,.ptr 4 (some v) 16 0 0),(5,.ptr 5 (some n) 16 0 0),(17,qI hi),(18,qI y.k)],
  λy=>[(0,fV bl d (.sl false 1 A) (.sl false 3 lr)),(4,⟨some v,55,16,[[qI 0,qI 0,qI 0,qI 0,qI 0,qI 0,qI 0,qI 0,qI 0,qI 0,qI 0,qI 0,qI 0,qI 0,qI 0,qI 0]]⟩),(5,⟨some n,55,16,[[qI (y.tb 0),qI (y.tb 1),qI (y.tb 2),qI (y.tb 3),qI (y.tb 4),qI (y.tb 5),qI (y.tb 6),qI (y.tb 7),qI (y.tb 8),qI (y.tb 9),qI (y.tb 10),qI (y.tb 11),qI (y.tb 12),qI (y.tb 13),qI (y.tb 14),qI (y.tb 15)]]⟩)],λy=>l.length-y.i,
  ⟨_,a7.refl _,⟨0,0,d.fs,qW,rfl,by simp[iK]⟩,⟨rfl,rfl,rfl,rfl,rfl,trivial⟩,⟨rfl,rfl,rfl,trivial⟩⟩,?_⟩
 rintro⟨i,k,tb,hi2,hk,wm⟩;cbv;refine ab (λg=>?_) (λg=>?_)
 ·have g3:k<hi:=fA hP g;have p:i<l.length:=by((try simp only[nc] at*);omega)
  have e:i+1<=a:=by((try simp only[nc] at*);omega)
  obtain⟨r,ko⟩:∃r,l[i]? =some r:=⟨_,af p⟩;have m:P.row lr (P.nat k) [qI r.who,qI r.seq,.sl false 3 (r.delta.map a6)]:=fL hP hk (by rw[q,av,ko];rfl);have c:=Fb d.fs d.b l i r ko;have x:=t r (az ko);obtain⟨w,hw⟩:∃w,r.who=w:=⟨_,rfl⟩;obtain⟨sq,C⟩:∃w,r.seq=w:=⟨_,rfl⟩;rw[hw,C] at m c;rw[hw] at x
  generalize r.delta.map a6=dr at m
  obtain⟨wn,z⟩:∃wn,w.toNat=wn:=⟨_,rfl⟩;have q1:P.fQ 0 k:=iQ hP (by rw[hk];exact aT _);have J:P.i64 (P.add k 1):=by rw[add_eq hP];exact ft hP qO
  have o:P.add k 1=((i+1:Nat):Int):=by rw[add_eq hP,hk];simp
  have K:P.i64 (P.add d.b k):=by rw[add_eq hP];exact ft hP qO
  have L:P.i64 (P.add (P.add d.b k) 1):=by rw[add_eq hP,add_eq hP];exact ft hP qO
  have M:P.fQ 0 w:=iQ hP x.1;have N:P.iw w 8:=kZ hP qW;have f:P.nat w=wn:=by rw[<-z];subst hP;rfl
  rw[z] at c;cbv
  repeat' first|(refine qA ?_;cbv)|(intro n;cbv)
  refine⟨_,m,?_⟩;cbv
  repeat' first|(refine qA ?_;cbv)|(intro I;cbv)
  have hc:wn=0\/wn=1\/wn=2\/wn=3\/wn=4\/wn=5\/wn=6\/wn=7:=by omega
  rcases hc with rfl|rfl|rfl|rfl|rfl|rfl|rfl|rfl
  ·refine⟨0,f,?_⟩;cbv
   repeat' first|(refine qA ?_;cbv)|(intro h;cbv)
   refine⟨_,a7.refl _,⟨i+1,_,kG tb 0 sq (P.add (P.add d.b k) 1),e,o,?_⟩,⟨rfl,rfl,rfl,rfl,rfl,trivial⟩,⟨rfl,rfl,rfl,trivial⟩,?_⟩
   ·rw[c,wm,add_eq hP,add_eq hP,hk]
   ·show l.length-(i+1)<l.length-i;omega
  ·refine⟨1,f,?_⟩;cbv
   repeat' first|(refine qA ?_;cbv)|(intro h;cbv)
   refine⟨_,a7.refl _,⟨i+1,_,kG tb 1 sq (P.add (P.add d.b k) 1),e,o,?_⟩,⟨rfl,rfl,rfl,rfl,rfl,trivial⟩,⟨rfl,rfl,rfl,trivial⟩,?_⟩
   ·rw[c,wm,add_eq hP,add_eq hP,hk]
   ·show l.length-(i+1)<l.length-i;omega
  ·refine⟨2,f,?_⟩;cbv
   repeat' first|(refine qA ?_;cbv)|(intro h;cbv)
   refine⟨_,a7.refl _,⟨i+1,_,kG tb 2 sq (P.add (P.add d.b k) 1),e,o,?_⟩,⟨rfl,rfl,rfl,rfl,rfl,trivial⟩,⟨rfl,rfl,rfl,trivial⟩,?_⟩
   ·rw[c,wm,add_eq hP,add_eq hP,hk]
   ·show l.length-(i+1)<l.length-i;omega
  ·refine⟨3,f,?_⟩;cbv
   repeat' first|(refine qA ?_;cbv)|(intro h;cbv)
   refine⟨_,a7.refl _,⟨i+1,_,kG tb 3 sq (P.add (P.add d.b k) 1),e,o,?_⟩,⟨rfl,rfl,rfl,rfl,rfl,trivial⟩,⟨rfl,rfl,rfl,trivial⟩,?_⟩
   ·rw[c,wm,add_eq hP,add_eq hP,hk]
   ·show l.length-(i+1)<l.length-i;omega
  ·refine⟨4,f,?_⟩;cbv
   repeat' first|(refine qA ?_;cbv)|(intro h;cbv)
   refine⟨_,a7.refl _,⟨i+1,_,kG tb 4 sq (P.add (P.add d.b k) 1),e,o,?_⟩,⟨rfl,rfl,rfl,rfl,rfl,trivial⟩,⟨rfl,rfl,rfl,trivial⟩,?_⟩
   ·rw[c,wm,add_eq hP,add_eq hP,hk]
   ·show l.length-(i+1)<l.length-i;omega
  ·refine⟨5,f,?_⟩;cbv
   repeat' first|(refine qA ?_;cbv)|(intro h;cbv)
   refine⟨_,a7.refl _,⟨i+1,_,kG tb 5 sq (P.add (P.add d.b k) 1),e,o,?_⟩,⟨rfl,rfl,rfl,rfl,rfl,trivial⟩,⟨rfl,rfl,rfl,trivial⟩,?_⟩
   ·rw[c,wm,add_eq hP,add_eq hP,hk]
   ·show l.length-(i+1)<l.length-i;omega
  ·refine⟨6,f,?_⟩;cbv
   repeat' first|(refine qA ?_;cbv)|(intro h;cbv)
   refine⟨_,a7.refl _,⟨i+1,_,kG tb 6 sq (P.add (P.add d.b k) 1),e,o,?_⟩,⟨rfl,rfl,rfl,rfl,rfl,trivial⟩,⟨rfl,rfl,rfl,trivial⟩,?_⟩
   ·rw[c,wm,add_eq hP,add_eq hP,hk]
   ·show l.length-(i+1)<l.length-i;omega
  ·refine⟨7,f,?_⟩;cbv
   repeat' first|(refine qA ?_;cbv)|(intro h;cbv)
   refine⟨_,a7.refl _,⟨i+1,_,kG tb 7 sq (P.add (P.add d.b k) 1),e,o,?_⟩,⟨rfl,rfl,rfl,rfl,rfl,trivial⟩,⟨rfl,rfl,rfl,trivial⟩,?_⟩
   ·rw[c,wm,add_eq hP,add_eq hP,hk]
   ·show l.length-(i+1)<l.length-i;omega
 ·have g3:¬k<hi:=fg hP g;have p:i=a:=by((try simp only[nc] at*);omega)
  subst p;cbv
  repeat' first|(refine qA ?_;cbv)|(intro n;cbv)
  exact G _ _ tb wm (a7.refl _) ⟨rfl,rfl,aj 0,ag 16,rfl⟩ ⟨rfl,trivial⟩
theorem Dz(bl:Nat)(d:im)(a:List (List V))(ht:∀r∈a,∀v∈r,Fz v)(l:List eX)(hb:0<=d.b/\d.b<=4294967295)(f:l.length<=1000)(c:∀r∈l,0<=r.who/\r.who<=7)(j:Int)(hj:d.b<=j/\j<=d.b+(l.length:Int)):Spec Tryz.prog 38 [.ptr 0 (some bl) 31 0 0,qI j] (b7 [(0,fV bl d (.sl false 1 a) (.sl false 3 (l.map a8)))])
  λx h'=>∃e,(x=lY (iK d.fs d.b (l.take (j-d.b).toNat))/\e=[(0,fV bl d (.sl false 1 a) (.sl false 3 (l.map a8)))])/\h'=b7 e:=
 fe gY Ny (L:=[(0,fV bl d (.sl false 1 a) (.sl false 3 (l.map a8)))]) (λx e=>x=lY (iK d.fs d.b (l.take (j-d.b).toNat))/\e=[(0,fV bl d (.sl false 1 a) (.sl false 3 (l.map a8)))]) λR g=>
  Nz ca rfl _ _ bl d a l _ rfl hb f c j hj (j-d.b).toNat qW R λs s' tb wm he hr ha=>g s s' _ _ he (eS _ _ _ (λx hx=>by rw[hx,wm];rfl) hr) ha (Nn _) (λp hp=>by simp only[aw] at hp;subst hp;exact l1 ht (qH _)) ⟨rfl,rfl⟩
def DA(T:cp):Prop:=∀(k bl:Nat)(d:im)(a:List (List V))(l:List eX)(lr:List (List V))(j:Int)(h:Hp)(K:V->Hp->Prop),(∀r∈a,∀v∈r,Fz v)->lr=l.map a8->(0<=d.b/\d.b<=4294967295)->l.length<=1000->(∀r∈l,0<=r.who/\r.who<=7)->(d.b<=j/\j<=d.b+(l.length:Int))->h k=some (fV bl d (.sl false 1 a) (.sl false 3 lr))->(∀tb,tb=iK d.fs d.b (l.take (j-d.b).toNat)->K (lY tb) h)->T 38 [.ptr k (some bl) 31 0 0,qI j] h K
theorem Tl:DA (fa Tryz.prog):=λk bl d b l lr j h K ht a hb hn hw hj hk hK=>by
 subst a;exact Q6 ht (qH _) (Dz bl d b ht l hb hn hw j hj) (λ_ _=>.cons (.same _) .nil) (λ_=>rfl) hk (hK _ rfl)
theorem a7.X8{s:S}{h':Hp}(hh:jj s.h h'):a7 s ⟨s.t,h'⟩:=by
 intro C n a w c hs;obtain⟨F,h1,h2⟩:=hs.ex;obtain⟨F',h3,h4⟩:=hh C F w c h1;exact⟨⟨F',h4,λi=>(h2 i).mono h3 (λb hb=>.inr hb)⟩,hs.df,hs.sz⟩
theorem a7.cells{s:S}{k ty sz:Nat}{b:Option Nat}{r r':List V}(hk:s.h k=some ⟨b,ty,sz,[r]⟩)(hl:r'.length=r.length)(hv:∀(i:Nat)(v v':V),r[i]? =some v->r'[i]? =some v'->v'=v\/(v=.nilsl/\∃t z,v'=.sl t z [])):a7 s ⟨s.t,Hp.put s.h k ⟨b,ty,sz,[r']⟩⟩:=by
 intro C n a w I hs;obtain⟨F,h1,h2⟩:=hs.ex;have one:fy F C.B w ⟨b,ty,sz,[r]⟩->fy F C.B w ⟨b,ty,sz,[r']⟩:=by
  intro h;unfold fy at h⊢;cases b with
  |none=>exact absurd (show([r]:List (List V))=[] from h) (by simp)
  |some b=>
   obtain⟨c,cap,hc,h1,h2,h3,h4,h5⟩:=h;refine⟨c,cap,hc,h1,h2,h3,λq hq=>?_,λi j q v hi hj=>?_⟩
   ·have hq:q=r':=aw.1 hq;rw[hq,hl];exact h4 r (aw.2 rfl)
   ·have hi:([r']:List (List V))[i]? =some q:=hi;cases i with
    |succ i=>simp at hi
    |zero=>
     simp only[bq,aH] at hi;subst hi;have d:j<r.length:=by rw[<-hl];exact(ah.1 hj).1
     obtain⟨u,A,D,f⟩:=h5 0 j r r[j] rfl (af d);refine⟨u,A,D,?_⟩
     rcases hv j r[j] v (af d) hj with e|⟨e,t,z,e2⟩
     ·rw[e];exact f
     ·rw[e] at f;rw[e2];cases f;exact .slnil _ _
 have look:∀j q,Hp.put s.h k ⟨b,ty,sz,[r']⟩ j=some q->∃p,s.h j=some p/\p.b=q.b/\(fy F C.B w p->fy F C.B w q):=by
  intro j q hj;simp only[Hp.put] at hj
  by_cases h:j=k
  ·rw[ae h] at hj;cases hj;subst h;exact⟨_,hk,rfl,one⟩
  ·rw[aa h] at hj;exact⟨q,hj,rfl,id⟩
 refine⟨⟨F,⟨λj q hj=>?_,λj y q E b' hj g hb l=>?_,λj q b' hj hb=>?_,h1.jq,h1.new,h1.lt,h1.ev⟩,h2⟩,hs.df,hs.sz⟩
 ·obtain⟨p,p1,p2,m⟩:=look j q hj;exact m (h1.ob j p p1)
 ·obtain⟨p,p1,p2,m⟩:=look j q hj;obtain⟨G,o,x,H⟩:=look y E g;exact h1.inj j y p G b' p1 o (p2.trans hb) (x.trans l)
 ·obtain⟨p,p1,p2,m⟩:=look j q hj;exact h1.live j p b' p1 (p2.trans hb)
theorem a7.NA{s:S}{k ty sz c z:Nat}{t:Bool}{b:Option Nat}{r:List V}(hk:s.h k=some ⟨b,ty,sz,[r]⟩)(hc:r[c]? =some .nilsl):a7 s ⟨s.t,Hp.put s.h k ⟨b,ty,sz,[r.set c (.sl t z [])]⟩⟩:=by
 refine a7.cells hk (eC ..) λi v v' hi hv=>?_;rw[cz] at hv
 by_cases h:c=i
 ·subst h;rw[ae rfl] at hv;rw[hc] at hi;cases hi
  split at hv
  ·cases hv;exact .inr ⟨rfl,t,z,rfl⟩
  ·cases hv
 ·rw[aa h,hi] at hv;cases hv;exact .inl rfl
theorem a7.Tm{s:S}{q k bl n:Nat}{b:Option Nat}{d:im}{rows lr:List (List V)}(hq:s.h q=some (fV bl d (.own k b 1 n) (.sl false 3 lr)))(hk:s.h k=some ⟨b,9,1,rows⟩)(hn:rows.length=n)(hz:∀r∈rows,∀v∈r,Fz v)(hne:q≠k):
  ∃s',a7 s s'/\s'.t=s.t/\s'.h q=some (fV bl d (.sl false 1 rows) (.sl false 3 lr))/\∀j,j≠q->j≠k->s'.h j=s.h j:=by
 refine⟨_,a7.X8 (jj.EO (c:=23) hk hq rfl rfl rfl rfl hn hz),rfl,?_,λj h1 h2=>?_⟩
 ·show Hp.del (Hp.put s.h q _) k q=_;simp only[Hp.del,Hp.put];rw[aa hne,ae trivial];rfl
 ·show Hp.del (Hp.put s.h q _) k j=_;simp only[Hp.del,Hp.put];rw[aa h2,aa h1]
def oV(bl:Nat)(d:im)(tx:List BS)(l:List eX):List (Nat×Ob):=[(0,fV bl d (.sl false 1 (ds tx)) (.sl false 3 (l.map a8)))]
theorem uD{bl:Nat}{d:im}{tx:List BS}{l:List eX}:∀p∈oV bl d tx l,p.2.Fz:=λp hp=>by
 simp only[oV,aw] at hp;subst hp;exact l1 (jl _) (fW _)
theorem Tn{f k bl:Nat}{d:im}{tx:List BS}{l:List eX}{rest a:List V}{post:V->im->List BS->List eX->Prop}(hs:Spec Tryz.prog f (.ptr 0 (some bl) 31 0 0::a) (b7 (oV bl d tx l)) λx h'=>∃c,(∃d' iE l',post x d' iE l'/\c=oV bl d' iE l')/\h'=b7 c)(b:∀h m,k6 h m rest a)(hv:∀x d' iE l' g,post x d' iE l'->x.gA g=x)
  {h:Hp}{K:V->Hp->Prop}(hk:h k=some (fV bl d (.sl false 1 (ds tx)) (.sl false 3 (l.map a8))))(hK:∀x d' iE l',post x d' iE l'->K x (h.e9 [(k,fV bl d' (.sl false 1 (ds iE)) (.sl false 3 (l'.map a8)))])):fa Tryz.prog f (.ptr k (some bl) 31 0 0::rest) h K:=by
 refine vJ [(0,k)] hs (.cons ?_ (b h _)) (by simp) (by simp) (by simp) (λp hp=>?_) (λp hp=>?_) ?_ ?_
 ·have:=Arg.same (h:=h) (m:=[(0,k)]) (.ptr k (some bl) 31 0 0);simpa[V.gA,V.rl,gT] using this
 ·simp only[oV,aw] at hp;subst hp;exact⟨_,aw.2 rfl,rfl⟩
 ·refine⟨?_,uD p hp⟩;simp only[oV,aw] at hp;subst hp;show(h k).map _=_;rw[hk];rfl
 ·rintro x c ⟨d',iE,l',_,rfl⟩;rfl
 ·rintro x c ⟨d',iE,l',hp,rfl⟩;rw[hv x d' iE l' _ hp];exact hK x d' iE l' hp
theorem To:DA (fj Tryz.prog):=λk bl d b l lr j h K ht a hb hn hw hj hk hK=>by
 subst a;exact Q5 ht (qH _) (Dz bl d b ht l hb hn hw j hj) (λ_ _=>.cons (.same _) .nil) (λ_=>rfl) hk (hK _ rfl)
def vR:im:=⟨(iu 1 0 [] λ_=>0).1++(gC 3 []).1,(((iu 1 0 [] λ_=>0).1++(gC 3 []).1).length:Int),[],0,0,1,0,λ_=>0,0,false,0,0,false,false⟩
def DB:AC:=qr [qo 0 (.mov (.c (.pointer none)))] (qr [qo 5 (.build Vk []),qa 6 29 [qk 1,qk 0,(.c qe),.t 5],qm 4 6,qx 7 0 4,qx 8 1 4,qm 1 7,qm 2 8] (qr [qo 9 (.bslice 9 1 [(.c qe)]),qo 10 (.build [qe,q0,qe,q0,q0,q0,q0,q0,q0,q0,q0,q0,q0,q0,q0,q0,q0,q0,q0,q0,q0,q0,q0,(.slice none 0 0),(.slice none 0 0),q0,(.bool false),q0,q0,(.bool false),(.bool false)] [(5,1,qk 1),(23,1,(.t 9))]),qo 11 (.box 58 31 (.t 10)),qm 3 11] (qq (.region true [qm 12 3,qm 13 1,qa 14 31 [],qb 15 .add 13 14,qa 16 30 [.t 15],qn 17 12,qf 18 0 17,qf 19 0 18,qo 20 (.iarr 2 2 (.t 19) (qk 0)),qs 2 20 16]) (qr [qm 21 3,qm 0 21] .ret))))
theorem NB:fo Tryz.prog 6 Tryz.f6 DB [.t 0] 0 eV:=⟨Tryz.func6,by decide+kernel,by kernel_rfl,by kernel_rfl,by decide+kernel⟩
theorem NC(P:Prim)(hP:P=ca)(T m:cp)(hd i:BS)(u:hd.length<=1000000/\i.length<=1000000)(e:Int)(h1:fZ T 29 [qI 1,qI 0,.str [],.agg [qI 0,qI 0,qI 0,qI 0,qI 0,qI 0,qI 0,qI 0,qI 0,qI 0,qI 0,qI 0,qI 0,qI 0,qI 0,qI 0]] (.tup [.str hd,qI e]))(h2:fZ m 31 [] (.str i))(j:∀s,fZ m 30 [.str s] (.agg [.str s,qI (P.eP s)]))
  (R:S->Prop)(w:∀(s s':S)(bl:Nat)(z:BS)(g:Int),z=hd++i->g=(z.length:Int)->a7 s s'->hX [.t 0] [.ptr 11 (some bl) 31 0 0] s'->fh [(11,fV bl ⟨z,g,[],0,0,1,0,λ_=>0,0,false,0,0,false,false⟩ (.sl false 1 [[.str []]]) (.sl false 3 []))] s'->R s):fX P T m DB (S0 [] Hp.emp) R (λ_ _=>False) R:=by
 have z0:P.fQ 0 0:=iQ hP qD;have l0:P.iw 0 2:=kZ hP qD;have l:P.nat 0=0:=by subst hP;rfl
 have i1:P.i64 (P.add (P.eP hd) (P.eP i)):=by rw[add_eq hP,eF hP,eF hP];exact ft hP qW
 have key:∀(s:S)(bl a:Nat)(z:BS)(g:Int),z=hd++i->g=(z.length:Int)->s.h 11=some (fV bl ⟨z,g,[],0,0,1,0,λ_=>0,0,false,0,0,false,false⟩ (.own 1000009 (some a) 1 1) .nilsl)->s.h 1000009=some ⟨some a,9,1,[[.str []]]⟩->s.t 0=.ptr 11 (some bl) 31 0 0->R s:=by
  intro s bl a z g hz o k1 k2 x;have e1:=a7.NA (t:=false) (z:=3) (c:=24) k1 rfl;obtain⟨s',e2,t2,q2,_⟩:=a7.Tm (s:=⟨s.t,Hp.put s.h 11 _⟩) (q:=11) (k:=1000009) (n:=1) (b:=some a) (bl:=bl) (d:=⟨z,g,[],0,0,1,0,λ_=>0,0,false,0,0,false,false⟩) (rows:=[[.str []]]) (lr:=[]) rfl k2 rfl (λr hr v hv=>by rw[aw.1 hr] at hv;rw[aw.1 hv];exact .str _) qD;refine w s s' bl z g hz o (e1.trans e2) ?_ ⟨q2,trivial⟩;show[s'.t 0]=[.ptr 11 (some bl) 31 0 0];rw[t2,<-x]
 cbv
 repeat' first|(refine qA ?_;cbv)|(refine⟨0,l,?_⟩;cbv)|(refine⟨1,n1,?_⟩;cbv)|(intro f;cbv)
 refine h1 _ _ ?_;cbv
 repeat' first|(refine qA ?_;cbv)|(refine⟨0,l,?_⟩;cbv)|(refine⟨1,n1,?_⟩;cbv)|(intro f;cbv)
 rename_i p;refine h2 _ _ ?_;cbv
 repeat' first|(refine qA ?_;cbv)|(refine⟨0,l,?_⟩;cbv)|(refine⟨1,n1,?_⟩;cbv)|(intro f;cbv)
 refine j _ _ _ ?_;cbv
 repeat' first|(refine qA ?_;cbv)|(refine⟨0,l,?_⟩;cbv)|(refine⟨1,n1,?_⟩;cbv)|(intro f;cbv)
 exact key _ f p (P.gV hd i) (P.eP (P.gV hd i)) (by subst hP;rfl) (eF hP _) rfl rfl rfl
theorem ND:Spec Tryz.prog 6 [] (b7 []) λx h'=>∃a,(∃bl,x=.ptr 11 (some bl) 31 0 0/\a=[(11,fV bl vR (.sl false 1 (ds [[]])) (.sl false 3 (([]:List eX).map a8)))])/\h'=b7 a:=by
 have hl:(iu 1 0 [] λ_=>0).1.length<=1000000/\(gC 3 []).1.length<=1000000:=by
  have h1:=tg (g:=1) (b:=0) (tx:=[]) (t:=λ_=>0) qD;rw[vL yo,yl,nY,nY];have:=h1.2.2;exact⟨qW,by show(0:Nat)+7<=_;omega⟩
 exact fe gY NB (L:=[]) (λx a=>∃bl,x=.ptr 11 (some bl) 31 0 0/\a=[(11,fV bl vR (.sl false 1 (ds [[]])) (.sl false 3 (([]:List eX).map a8)))]) λR d=>
  NC ca rfl _ _ (iu 1 0 [] λ_=>0).1 (gC 3 []).1 hl (iu 1 0 [] λ_=>0).2 (fU (Jg 1 0 [] qD λ_=>0) (λ_=>.cons (.same _) (.cons (.same _) (.cons (.same _) (.cons (.same _) .nil)))) rfl) (qi Jc (λ_=>.nil) rfl) (λs=>qi (JP s) (λ_=>.cons (.same _) .nil) rfl) R λs s' bl z e hz c he hr ha=>by
   subst c hz;exact d s s' (.ptr 11 (some bl) 31 0 0) _ he (eS _ _ _ (λx hx=>by rw[hx];rfl) hr) ha (.ptr _ _ _ _ _) (λp hp=>by simp only[aw] at hp;subst hp;exact l1 (jl [[]]) (fW [])) ⟨bl,rfl,rfl⟩
def Pd(T:cp):Prop:=∀(k:Nat)(h:Hp)(K:V->Hp->Prop),h k=none->(∀bl a lr d,d=vR->a=ds [[]]->lr=([]:List eX).map a8->K (.ptr k (some bl) 31 0 0) (h.e9 [(k,fV bl d (.sl false 1 a) (.sl false 3 lr))]))->T 6 [] h K
theorem Tp:Pd (fa Tryz.prog):=by
 intro k h K hk hK;have l0:gI [(11,k)] 11=k:=by simp[gI]
 have a:([(11,k)].map (·.1)).Nodup:=by simp
 have b:([(11,k)].map (·.2)).Nodup:=by simp
 refine oe ND (m:=[(11,k)]) .nil (λj o hj=>by cases hj) (λq hq=>⟨py a q hq,pz b q hq,λo ho=>by cases ho⟩) ?_;rintro x c ⟨bl,rfl,rfl⟩;rw[Aa h _ _ rfl a b (by simp)];have e1:oo [(11,k)] (Ob.gA (gI [(11,k)])) [(11,fV bl vR (.sl false 1 (ds [[]])) (.sl false 3 (([]:List eX).map a8)))]=[(k,fV bl vR (.sl false 1 (ds [[]])) (.sl false 3 (([]:List eX).map a8)))]:=rfl;rw[e1];have e2:(V.ptr 11 (some bl) 31 0 0).gA (gI [(11,k)])=.ptr k (some bl) 31 0 0:=by
  show V.ptr (gI _ 11) (some bl) 31 0 0=_;rw[l0]
 rw[e2];exact hK bl _ _ _ rfl rfl rfl
structure vS(d:im)(tx:List BS)(l:List eX):Prop where
 b:0<=d.b/\d.b<=2147483647
 n:l.length<=64
 Pe:tx.length=l.length+1
 Zg:∀s∈tx,s.length<=maxLen
 rv:mj l
 who:∀r∈l,0<=r.who/\r.who<=7
 gr:d.gr=0\/d.gr=1
 gn:0<=d.gn/\d.gn<=4294967295
 x:d.x1.length<=1048576/\d.x3.length<=1048576
 m:d.mv=true->(d.b<=d.to/\d.to<=d.b+(l.length:Int))/\(-1<=d.pt/\d.pt<=4294967295)
def r1:eX:=⟨1,1,[⟨2,0,[97]⟩]⟩
end Go.Proofs.YtobngncjflogcaaGreat.AM
