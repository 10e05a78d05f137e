/-
  Part 15 of what the law ShopPlays reaches: the plain machine, contracts of the functions and plain laws; each lemma says its own condition.
-/
import Derived.Test.YtobngncjflogcaaGreatShopPlays14
set_option linter.unusedVariables false
set_option linter.unusedSimpArgs false
namespace Go.Proofs.YtobngncjflogcaaGreat.AM
open Go Go.RowKit
set_option maxRecDepth 100000
set_option maxHeartbeats 2000000
def rL(f g:Nat->Int):Prop:=∀j,j<16->f j=g j
theorem rL.refl(f:Nat->Int):rL f f:=λ_ _=>rfl
theorem rL.symm{f g:Nat->Int}(h:rL f g):rL g f:=λj hj=>(h j hj).symm
theorem rL.trans{f g k:Nat->Int}(h:rL f g)(h':rL g k):rL f k:=λj hj=>(h j hj).trans (h' j hj)
theorem rL.add{f g:Nat->Int}(h:rL f g)(w:Nat)(q n:Int):rL (gJ f w q n) (gJ g w q n):=λj hj=>by
 unfold gJ
 split
 ·rfl
 ·split
  ·rfl
  ·exact h j hj
def gg:(Nat->Int)->Int->List eP->Nat->Int
 |fs,_,[]=>fs
 |fs,b,r::l=>gg (gJ fs r.who.toNat r.seq (b+1)) (b+1) l
theorem pN:∀(a c:List eP)(fs:Nat->Int)(b:Int),gg fs b (a++c)=gg (gg fs b a) (b+a.length) c
 |[],c,fs,b=>by simp[gg]
 |r::a,c,fs,b=>by
  rw[aK,gg,gg,pN a c]
  congr 1
  simp only[au];omega
theorem sy:∀(a:List eP)(f g:Nat->Int)(b:Int),rL f g->rL (gg f b a) (gg g b a)
 |[],_,_,_,h=>h
 |r::a,_,_,_,h=>sy a _ _ _ (h.add _ _ _)
def fN(b:Int):(Nat->Int)->Nat->BS->List eP->Prop
 |_,_,_,[]=>True
 |tb,i,now,r::l=>gw b tb i now.length r=0/\fN b (gJ tb r.who.toNat r.seq (b+(i:Int)+1)) (i+1) (kl r.delta now).1 l
def lG(now:BS):List eP->BS
 |[]=>now
 |r::l=>lG (kl r.delta now).1 l
theorem mc:∀(a c:List eP)(now:BS),lG now (a++c)=lG (lG now a) c
 |[],_,_=>rfl
 |r::a,c,now=>mc a c _
theorem vH{b:Int}{f g:Nat->Int}(h:rL f g)(i:Nat)(n:Int)(r:eP):gw b f i n r=gw b g i n r:=by
 unfold gw
 by_cases h1:iL r≠0
 ·rw[ae h1,ae h1]
 ·have:=nz (az h1);rw[aa h1,aa h1,h (2*r.who.toNat) qW]
theorem oD{b:Int}:∀(l:List eP)(f g:Nat->Int)(i:Nat)(now:BS),rL f g->fN b f i now l->fN b g i now l
 |[],_,_,_,_,_,_=>trivial
 |r::l,f,g,i,now,h,hc=>⟨by rw[<-vH h];exact hc.1,oD l _ _ _ _ (h.add _ _ _) hc.2⟩
theorem mW{b:Int}:∀(a c:List eP)(tb:Nat->Int)(i:Nat)(now:BS),fN b tb i now (a++c)↔fN b tb i now a/\fN b (gg tb (b+(i:Int)) a) (i+a.length) (lG now a) c
 |[],c,tb,i,now=>by simp[fN,gg,lG]
 |r::a,c,tb,i,now=>by
  rw[aK,fN,mW a c,fN,gg,lG,dC];have e1:b+((i+1:Nat):Int)=b+(i:Int)+1:=by omega
  have d:i+1+a.length=i+(r::a).length:=by simp only[au];omega
  rw[e1,d]
theorem lz{b:Int}{tb:Nat->Int}{i:Nat}{n:Int}{r:eP}(h:gw b tb i n r=0):iL r=0/\kW r.delta n=0/\i<64/\b+(i:Int)<2147483647/\tb (2*r.who.toNat)<r.seq:=by
 unfold gw at h
 by_cases h1:iL r≠0
 ·rw[ae h1] at h;exact absurd h h1
 rw[aa h1] at h
 by_cases h2:r.seq<=tb (2*r.who.toNat)
 ·rw[ae h2] at h;exact absurd h qD
 rw[aa h2] at h
 by_cases h3:64<=(i:Int)\/2147483647<=b+i
 ·rw[ae h3] at h;exact absurd h qD
 rw[aa h3] at h;exact⟨az h1,h,qW,qW,qW⟩
theorem jb{b:Int}:∀(l:List eP)(tb:Nat->Int)(i:Nat)(now:BS),fN b tb i now l->∀r∈l,iL r=0
 |[],_,_,_,_,_,h=>by cases h
 |r::l,_,_,_,hc,q,hq=>by
  rcases aw.1 hq with rfl|hq
  ·exact(lz hc.1).1
  ·exact jb l _ _ _ hc.2 q hq
theorem qE{b:Int}:∀(l:List eP)(tb:Nat->Int)(i:Nat)(now:BS),fN b tb i now l->l=[]\/i+l.length<=64/\b+((i+l.length:Nat):Int)<=2147483647
 |[],_,_,_,_=>.inl rfl
 |r::l,_,i,_,hc=>by
  have h1:=lz hc.1
  right
  rcases qE l _ _ _ hc.2 with rfl|h
  ·simp only[au,aT];omega
  ·simp only[au];omega
theorem vI{b:Int}{tb:Nat->Int}{i:Nat}{now:BS}{r:eP}(h:gw b tb i now.length r=0):(kl r.delta now).2=0:=by
 have:=(lz h).2.1;unfold kl;rw[ae this]
theorem sA{b:Int}:∀(l:List eP)(tb:Nat->Int)(i:Nat)(now:BS),fN b tb i now l->(mj now l).2=0/\Er now l=lG now l
 |[],_,_,now,_=>⟨rfl,rfl⟩
 |r::l,tb,i,now,hc=>by
  obtain⟨h1,h2⟩:=sA l _ _ _ hc.2;have h3:=(lz hc.1).1;have h4:=vI hc.1;have e:(mj now (r::l)).2=0:=by rw[mj,aa (λx=>x h3),aa (λx=>x h4)];exact h1
  refine⟨e,?_⟩;rw[CF e,h2];rfl
theorem tf{b:Int}:∀(l:List eP)(tb:Nat->Int)(i:Nat)(now:BS),fN b tb i now l->now.length<=500->(lG now l).length<=500
 |[],_,_,_,_,h=>h
 |r::l,tb,i,now,hc,h=>by
  refine tf l _ _ _ hc.2 ?_;obtain⟨c1,_,c3,_⟩:=xB (vI hc.1);have:=fP c1;have:=Kr c1;omega
theorem CG:∀(l:List eP)(now:BS)(k:Nat),(mj now l).2=0->k<=l.length->(now::(mj now l).1).getD k []=lG now (l.take k)
 |_,_,0,_,_=>rfl
 |[],_,k+1,_,h=>absurd h (by simp)
 |r::l,now,k+1,h,hk=>by
  obtain⟨_,_,c3,c4⟩:=vG h;rw[c4,List.getD_cons_succ,cI,lG];exact CG l _ k c3 (by simpa using hk)
theorem yw{b:Int}{fs:Nat->Int}{tx:BS}{l:List eP}(hc:fN b fs 0 tx l)(a:tx.length<=500)(k:Nat)(hk:k<=l.length):kQ tx l (k:Int)=(lG tx (l.take k),0):=by
 have hg:=(sA l _ _ _ hc).1;have c:l.length<=64:=by
  rcases qE l _ _ _ hc with rfl|h
  ·simp
  ·omega
 have ht:gG tx l=(tx::(mj tx l).1,0):=by
  unfold gG;rw[aa qW,aa (λx=>x hg)]
 unfold kQ;rw[ht];rw[aa (λx=>x rfl),aa qW];simp only[aA];rw[CG l tx k hg hk]
def fE(r:eP):Frame:=⟨2,kq r⟩
def iQ:Frame:=⟨3,[]⟩
def iA(g b:Int)(tx:BS)(t:Nat->Int):Frame:=⟨1,gT g b tx t⟩
theorem oE{r:eP}(h:iL r=0):vF (fE r):=⟨by show(1:Int)<=2;decide,by show(2:Int)<=255;decide,tR h⟩
theorem Ga:vF iQ:=⟨qD,qD,qD⟩
theorem oF{g b:Int}{tx:BS}{t:Nat->Int}(h:tx.length<=500):vF (iA g b tx t):=⟨by show(1:Int)<=1;decide,by show(1:Int)<=255;decide,sw h⟩
theorem uH{r:eP}(h:iL r=0):gQ r=(jK (fE r),0):=by
 have:=tR h;unfold gQ;rw[aa (λx=>x h)];have e:iE r.who.toNat++iE r.seq.toNat++codeF r.delta=kq r:=rfl;rw[e];unfold gq;rw[aa qW,aa qW];rfl
theorem oG{g b:Int}{tx:BS}{t:Nat->Int}(h:oz g b tx t):hM g b tx t=(jK (iA g b tx t),0):=by
 have:=sw (g:=g) (b:=b) (t:=t) h.tx;have a:=h.tx;unfold hM;rw[ae h.flat,aa qW];have e:jX (je g b t)++tx=gT g b tx t:=rfl;rw[e];unfold gq;rw[aa qW,aa qW];rfl
theorem yx{r:eP}(h:iL r=0):r.Ok/\r.delta.length<=1000000000:=by
 obtain⟨h1,h2,h3⟩:=nz h;have h4:=fP h3;have hm:maxLen=9223372036854775807:=by decide
 refine⟨⟨⟨qW,qW⟩,⟨qW,qW⟩,qW,λp hp=>?_⟩,qW⟩;obtain⟨b1,b2,b3,a⟩:=iU (h4.2.1 p hp);have hk:p.kind=1\/p.kind=2\/p.kind=3:=by rcases a with h|⟨h,_⟩<;>omega
 exact⟨⟨qW,qW⟩,⟨qW,qW⟩,qW⟩
theorem qF:(gq 3 []).1=jK iQ:=rfl
def Ks:List Frame->hI->BS->Option (hI×BS)
 |[],L,now=>some (L,now)
 |f::fs,L,now=>match nv L now f with
  |none=>none
  |some (a,n2)=>Ks fs a n2
theorem vJ:∀(a c:List Frame)(L:hI)(now:BS)(q:hI×BS),Ks a L now=some q->kI (a++c) L now=kI c q.1 q.2
 |[],c,L,now,q,h=>by cases h;rfl
 |f::a,c,L,now,q,h=>by
  rw[aK,kI];rw[Ks] at h;cases hs:nv L now f with
  |none=>rw[hs] at h;cases h
  |some p=>
   rw[hs] at h;exact vJ a c _ _ q h
def hI.lA(L:hI)(l:List eP):hI:=⟨L.gen,L.base,L.text,L.first,gg L.table (L.base+(L.e8.length:Int)) l,L.e8++l,L.whole,L.eF+((fe (l.map fE)).length:Int)⟩
theorem Gb{L:hI}{now:BS}{r:eP}(h:gw L.base L.table L.e8.length now.length r=0):nv L now (fE r)=some (L.lA [r],(kl r.delta now).1):=by
 have h1:=(lz h).1;obtain⟨e1,a⟩:=F6 h1;have hb:(fE r).body=kq r:=rfl;have hk:(fE r).kind=2:=rfl;unfold nv;rw[hk,hb,e1,a];rw[aa qD,ae rfl,ae ⟨rfl,h⟩];have b:((fe ([r].map fE)).length:Int)=((kq r).length:Int)+7:=by
  rw[aR,ej,jv,ag,iz];have:(fe []).length=0:=rfl;rw[this,hb];omega
 unfold hI.lA;rw[b];rfl
theorem AA(L:hI)(r:eP)(l:List eP):(L.lA [r]).lA l=L.lA (r::l):=by
 unfold hI.lA;simp only[aR,ej,jv,ag,au,aT,gg];have e1:L.base+((L.e8.length+(0+1):Nat):Int)=L.base+(L.e8.length:Int)+1:=by omega
 have a:L.eF+(((jK (fE r)).length+(fe []).length:Nat):Int)+((fe (l.map fE)).length:Int)=L.eF+(((jK (fE r)).length+(fe (l.map fE)).length:Nat):Int):=by
  have:(fe []).length=0:=rfl;rw[this];omega
 rw[e1,a];simp
theorem CH(L:hI):L.lA []=L:=by
 unfold hI.lA;cases L;simp[gg,fe]
theorem vK:∀(l:List eP)(L:hI)(now:BS),fN L.base L.table L.e8.length now l->Ks (l.map fE) L now=some (L.lA l,lG now l)
 |[],L,now,_=>by rw[CH];rfl
 |r::l,L,now,hc=>by
  rw[aR,Ks,Gb hc.1];simp only;rw[vK l (L.lA [r]) _ ?_,AA]
  ·rfl
  ·have e:(L.lA [r]).e8.length=L.e8.length+1:=by simp[hI.lA]
   have a:(L.lA [r]).table=gJ L.table r.who.toNat r.seq (L.base+(L.e8.length:Int)+1):=rfl;rw[e,a];exact hc.2
def nA:Option (List eP)->List Frame
 |none=>[]
 |some r2=>iQ::r2.map fE
def gi(g b:Int)(tx:BS)(t:Nat->Int)(r1:List eP)(o:Option (List eP)):List Frame:=iA g b tx t::(r1.map fE++nA o)
theorem CI{hg hb:BS->Int}{ht:BS->BS}{hf:BS->Nat->Int}{ho:BS->Bool}{B:BS}{g b:Int}{tx:BS}{F:Nat->Int}(h0:ho B=true)(h1:hg B=g)(h2:hb B=b)(h3:ht B=tx)(h4:hf B=F)(fs:List Frame):
  ly hg hb ht hf ho (⟨1,B⟩::fs)=(kI fs (pL g b tx F ((B.length:Int)+7)) tx,0):=by
 subst h1 h2 h3 h4;show(if(1:Int)≠1\/ho B=false then _ else _)=_;rw[aa];rintro(h|h)
 ·exact h rfl
 ·rw[h0] at h;cases h
theorem CJ{L:hI}{now:BS}(h:L.whole=false):nv L now iQ=some (⟨L.gen,L.base,L.text,L.first,L.table,L.e8,true,L.eF+7⟩,now):=by
 unfold nv;have hk:iQ.kind=3:=rfl;have hb:iQ.body=[]:=rfl;rw[hk,hb,ae rfl,aa (by rw[h];simp)];rfl
theorem Oj{g b:Int}{tx:BS}{F t1 t2:Nat->Int}{r1 r2:List eP}{w:Bool}{n1 n2:Int}(ht:t1=t2)(hr:r1=r2)(hn:n1=n2):(⟨g,b,tx,F,t1,r1,w,n1⟩:hI)=⟨g,b,tx,F,t2,r2,w,n2⟩:=by
 subst ht hr hn;rfl
theorem nB{g b:Int}{tx:BS}{t:Nat->Int}(h:oz g b tx t){r1:List eP}{o:Option (List eP)}(hc:fN b t 0 tx (r1++o.getD [])):
  ∃F,rL F t/\fW (gi g b tx t r1 o)=(⟨g,b,tx,F,gg F b (r1++o.getD []),r1++o.getD [],o.isSome,((fe (gi g b tx t r1 o)).length:Int)⟩,0):=by
 obtain⟨h1,h2,h3,h4,h5⟩:=F7 h;have d:fW (gi g b tx t r1 o)=ly (λx=>jt x 0) (λx=>jt x 1) (λx=>(kp x 18).1) (λx j=>jt x (j+2)) mq (iA g b tx t::(r1.map fE++nA o)):=rfl;have e1:=CI (hg:=λx=>jt x 0) (hb:=λx=>jt x 1) (ht:=λx=>(kp x 18).1) (hf:=λx j=>jt x (j+2)) (F:=λj=>jt (gT g b tx t) (j+2)) h1 h2 h3 h4 rfl (r1.map fE++nA o);refine⟨λj=>jt (gT g b tx t) (j+2),h5,?_⟩;have hF:rL (λj=>jt (gT g b tx t) (j+2)) t:=h5;rw[d];refine Eq.trans e1 ?_;clear d e1 h1 h2 h3 h4 h5
 generalize(λj=>jt (gT g b tx t) (j+2))=F at hF⊢
 obtain⟨c1,f⟩:=(mW r1 (o.getD []) t 0 tx).1 hc;have a:=vK r1 (pL g b tx F (((gT g b tx t).length:Int)+7)) tx (oD r1 t F 0 tx hF.symm c1);rw[vJ _ _ _ _ _ a];have hl:((fe (gi g b tx t r1 o)).length:Int)=((gT g b tx t).length:Int)+7+((fe (r1.map fE)).length:Int)+((fe (nA o)).length:Int):=by
  unfold gi;rw[jv,oC,ag,ag,iz];have:(iA g b tx t).body=gT g b tx t:=rfl;rw[this];omega
 rw[hl];cases o with
 |none=>
  have ht:(fe (nA none)).length=0:=rfl;rw[ht];simp[nA,kI,hI.lA,pL]
 |some r2=>
  have hd:(fe (nA (some r2))).length=7+(fe (r2.map fE)).length:=by
   show(fe (iQ::r2.map fE)).length=_;rw[jv,ag,iz];rfl
  rw[hd];have i:∀(L:hI)(now:BS),L.whole=false->kI (nA (some r2)) L now=kI (r2.map fE) ⟨L.gen,L.base,L.text,L.first,L.table,L.e8,true,L.eF+7⟩ now:=by
   intro L now hw;show kI (iQ::r2.map fE) L now=_;rw[kI,CJ hw]
  rw[i _ _ rfl];have c3:=oD r2 _ _ _ _ (sy r1 t F (b+((0:Nat):Int)) hF.symm) f;rw[bf] at c3;have c:=vK r2 ⟨g,b,tx,F,gg F (b+((0:Nat):Int)) r1,[]++r1,true,((gT g b tx t).length:Int)+7+((fe (r1.map fE)).length:Int)+7⟩ (lG tx r1) c3;have e:=vJ _ [] _ _ _ c;rw[aS] at e;show(kI (r2.map fE) ⟨g,b,tx,F,gg F (b+((0:Nat):Int)) r1,[]++r1,true,((gT g b tx t).length:Int)+7+((fe (r1.map fE)).length:Int)+7⟩ (lG tx r1),(0:Int))=_;rw[e];have k:gg F b (r1++r2)=gg (gg F (b+((0:Nat):Int)) r1) (b+(r1.length:Int)) r2:=by rw[pN,Int.natCast_zero,Int.add_zero]
  refine aB (λx=>(x,(0:Int))) ?_;refine Oj k.symm rfl ?_;show((gT g b tx t).length:Int)+7+((fe (r1.map fE)).length:Int)+7+((fe (r2.map fE)).length:Int)=_;omega
theorem rH(g b:Int)(tx:BS)(t:Nat->Int)(r1 r2:List eP)(j:Nat):(gi g b tx t r1 (some r2)).take (r1.length+2+j)=gi g b tx t r1 (some (r2.take j)):=by
 have e:r1.length+2+j=((r1.length+1)+j)+1:=by omega
 rw[e];show iA g b tx t::(r1.map fE++iQ::r2.map fE).take (r1.length+1+j)=_;have a:(r1.map fE++iQ::r2.map fE).take (r1.length+1+j)=r1.map fE++iQ::(r2.take j).map fE:=by
  have c:r1.length+1+j=(r1.map fE).length+(j+1):=by rw[aF];omega
  rw[c,cY,cI,fj]
 rw[a];rfl
theorem pO(g b:Int)(tx:BS)(t:Nat->Int)(r1:List eP)(o:Option (List eP)):(gi g b tx t r1 o).length=r1.length+1+(match o with|none=>0|some r2=>r2.length+1):=by
 cases o<;>simp[gi,nA]
 omega
theorem Gc(g b:Int)(tx:BS)(t:Nat->Int)(r1:List eP)(o:Option (List eP))(k:Nat)(hk:k<=(gi g b tx t r1 o).length):
  k=0\/(∃j,j<=r1.length/\k=j+1/\(gi g b tx t r1 o).take k=gi g b tx t (r1.take j) none)\/(∃r2 j,o=some r2/\j<=r2.length/\k=r1.length+2+j/\(gi g b tx t r1 o).take k=gi g b tx t r1 (some (r2.take j))):=by
 cases k with
 |zero=>exact .inl rfl
 |succ k=>
  right
  have e:(gi g b tx t r1 o).take (k+1)=iA g b tx t::(r1.map fE++nA o).take k:=rfl
  by_cases hk2:k<=r1.length
  ·left
   refine⟨k,hk2,rfl,?_⟩;rw[e,cP (by rw[aF];exact hk2),<-fj];simp[gi,nA]
  ·right
   cases o with
   |none=>rw[pO] at hk;simp only at hk;omega
   |some r2=>
    rw[pO] at hk;simp only at hk;refine⟨r2,k+1-(r1.length+2),rfl,qW,qW,?_⟩;have:=rH g b tx t r1 r2 (k+1-(r1.length+2));rw[<-this]
    congr 1
    omega
theorem uI{g b:Int}{tx:BS}{t:Nat->Int}(h:tx.length<=500){r1:List eP}{o:Option (List eP)}(hc:∀r∈r1++o.getD [],iL r=0):∀f∈gi g b tx t r1 o,vF f:=by
 intro f hf;unfold gi at hf
 rcases aw.1 hf with rfl|hf
 ·exact oF h
 ·rcases bn.1 hf with hf|hf
  ·obtain⟨r,hr,rfl⟩:=aC.1 hf;exact oE (hc r (dV _ hr))
  ·cases o with
   |none=>cases hf
   |some r2=>
    rcases aw.1 hf with rfl|hf
    ·exact Ga
    ·obtain⟨r,hr,rfl⟩:=aC.1 hf;exact oE (hc r (bW _ hr))
theorem tg{g b:Int}{tx:BS}{t:Nat->Int}(h:oz g b tx t){r1:List eP}{o:Option (List eP)}(hc:fN b t 0 tx (r1++o.getD []))(n:Nat):
  (fk ((fe (gi g b tx t r1 o)).take n)).1=[]\/(∃j,j<=r1.length/\(fk ((fe (gi g b tx t r1 o)).take n)).1=gi g b tx t (r1.take j) none)\/
  (∃r2 j,o=some r2/\j<=r2.length/\(fk ((fe (gi g b tx t r1 o)).take n)).1=gi g b tx t r1 (some (r2.take j))/\(fe (gi g b tx t r1 (some (r2.take j)))).length<=n):=by
 obtain⟨k,k1,k2,d,e⟩:=sx (gi g b tx t r1 o) (uI h.tx (jb _ _ _ _ hc)) n
 rcases Gc g b tx t r1 o k k1 with rfl|⟨j,a,rfl,c⟩|⟨r2,j,rfl,a,rfl,c⟩
 ·left;rw[k2];rfl
 ·right;left;exact⟨j,a,by rw[k2,c]⟩
 ·right;right
  rw[c] at k2 d;exact⟨r2,j,rfl,a,k2,d⟩
theorem xC{g b:Int}{tx:BS}{t:Nat->Int}(h:oz g b tx t){r1 r2:List eP}(hc:fN b t 0 tx (r1++r2))(n a:Nat)(hj:a<=r2.length)(hn:(fe (gi g b tx t r1 (some (r2.take a)))).length<=n):
  ∃j,a<=j/\j<=r2.length/\(fk ((fe (gi g b tx t r1 (some r2))).take n)).1=gi g b tx t r1 (some (r2.take j))/\(fe (gi g b tx t r1 (some (r2.take j)))).length<=n:=by
 obtain⟨k,k1,k2,c,d⟩:=sx (gi g b tx t r1 (some r2)) (uI h.tx (o:=some r2) (jb _ _ _ _ hc)) n;have hk:=d (r1.length+2+a) (by rw[pO];simp only;omega) (by rw[rH];exact hn);have e:=rH g b tx t r1 r2 (k-(r1.length+2));rw[show r1.length+2+(k-(r1.length+2))=k by omega] at e;rw[pO] at k1;simp only at k1;refine⟨k-(r1.length+2),qW,qW,by rw[k2,e],by rw[<-e];exact c⟩
theorem AB{g b:Int}{tx:BS}{t:Nat->Int}{r1 r2:List eP}(j:Nat)(hj:j<=r2.length):(fe (gi g b tx t r1 (some r2))).take (fe (gi g b tx t r1 (some (r2.take j)))).length=fe (gi g b tx t r1 (some (r2.take j))):=by
 have e:gi g b tx t r1 (some r2)=gi g b tx t r1 (some (r2.take j))++(r2.drop j).map fE:=by
  show iA g b tx t::(r1.map fE++iQ::r2.map fE)=(iA g b tx t::(r1.map fE++iQ::(r2.take j).map fE))++(r2.drop j).map fE;rw[aK,bh,aK,<-dq,aZ]
 rw[e,oC];exact eG
theorem xD(fs:Nat->Int)(b:Int)(l:List eP)(i:Nat)(r:eP)(h:l[i]? =some r):gg fs b (l.take (i+1))=gJ (gg fs b (l.take i)) r.who.toNat r.seq (b+(i:Int)+1):=by
 have hi:i<l.length:=(aj.1 h).1;rw[eK,h,Option.toList_some,pN];have e:((l.take i).length:Int)=i:=by rw[aI];omega
 rw[e];rfl
def Es:AC:=qr [qo 4 (.alloc 55 Te)] (qr [qm 8 0,qn 9 8,qf 10 5 9,qf 11 3 10,qd 12 16 11,qo 5 (.alloc 55 Te),qs 16 5 12] (qq (qq (.region true [qm 13 0,qn 14 13,qf 15 5 14,qf 16 35 15,ql 17 16,qm 18 1,qm 19 0,qn 20 19,qf 21 5 20,qf 22 1 21,ql 23 22,qb 24 .sub 18 23,qo 25 (.slsl 3 (.t 17) none (some (.t 24))),qo 26 (.len false (.t 25)),qz 27 0]) (.block 0 (.loop (qr [qb 28 .lss 27 26] (qq (qu 28 .skip (.exit 0)) (qq (.block 1 (qr [qm 29 27,qo 30 (.iaddr 3 (.t 25) (.t 27)),qd 31 3 30,qo 7 (.alloc 91 xI),qm 6 29,qs 3 7 31] (.region true [qf 32 0 7,ql 33 32,qf 34 1 7,ql 35 34,qm 36 0,qn 37 36,qf 38 5 37,qf 39 1 38,ql 40 39,qm 41 6,qb 42 .add 40 41,qc 43 .add 42 1,qo 44 (.build Bo [(0,1,(.t 35)),(1,1,(.t 43))]),qo 45 (.iarr 8 2 (.t 5) (.t 33)),qs 2 45 44]))) (qR [qc 46 .add 27 1,qm 27 46]))))))) (qr [qd 47 16 5,qs 16 4 47] .ret)))
theorem Ol:fF Tryz.prog 93 Tryz.f93 Es [.cn 4 16] 2 er:=⟨Tryz.func93,by decide+kernel,by kernel_rfl,by kernel_rfl,by decide+kernel⟩
structure XR(fs:Nat->Int)(b:Int)(l:List eP)(a:Nat) where
 i:Nat
 k:Int
 tb:Nat->Int
 hi:i<=a
 hk:k=(i:Int)
 kH:tb=gg fs b (l.take i)
theorem Om(P:Prim)(hP:P=dn)(T E:c8)(bl:Nat)(d:SC)(ba:Option Nat)(l:List eP)(n:Nat)(hn:n=l.length)(rows:List (List V))(ds:rows=l.map ca)(mv:V)(F:V.one mv=true)(hb:0<=d.b/\d.b<=4294967295)(G:n<=1000)(u:∀r∈l,0<=r.who/\r.who<=7)(j:Int)(hj:d.b<=j/\j<=d.b+(n:Int))(a:Nat)(B:j-d.b=(a:Int))
  (R:S->Prop)(H:∀(s s':S)(tb:Nat->Int),tb=gg d.fs d.b (l.take a)->c6 s s'->iH [.cn 4 16] [kC tb] s'->fG (S2 bl d ba n rows mv) s'->R s):gj P T E Es (S0 [.ptr 0 (some bl) 47 0 0,qI j] (cp (S2 bl d ba n rows mv))) R (λ_ _=>False) R:=by
 have m1:P.i64 (P.sub j d.b):=by rw[sub_eq hP];exact eR hP qW
 have m2:P.fC 0 (P.sub j d.b):=iu hP (by rw[sub_eq hP];omega);have J:P.fC (P.sub j d.b) (P.int n):=lE hP (by rw[sub_eq hP,int_eq hP];omega);have K:P.fC 0 0:=lE hP (aN _);obtain⟨hi,v⟩:∃hi,hi=P.sub j d.b:=⟨_,rfl⟩;have D:hi=(a:Int):=by rw[v,sub_eq hP];exact B
 cbv
 repeat' first|(refine qA ?_;cbv)|(intro o;cbv)
 rename_i x;rw[<-v];refine⟨XR d.fs d.b l a,λy=>[(0,.ptr 0 (some bl) 47 0 0),(4,.ptr 4 (some x) 16 0 0),(5,.ptr 5 (some o) 16 0 0),(25,.win 1000001 ba 3 0 hi),(26,qI (P.sub hi 0)),(27,qI y.k)],
  λy=>[(0,fx bl (fw d (.own 1000001 ba 3 n) mv)),(1000001,iw ba rows),(4,⟨some x,55,16,[[qI 0,qI 0,qI 0,qI 0,qI 0,qI 0,qI 0,qI 0,qI 0,qI 0,qI 0,qI 0,qI 0,qI 0,qI 0,qI 0]]⟩),(5,⟨some o,55,16,[[qI (y.tb 0),qI (y.tb 1),qI (y.tb 2),qI (y.tb 3),qI (y.tb 4),qI (y.tb 5),qI (y.tb 6),qI (y.tb 7),qI (y.tb 8),qI (y.tb 9),qI (y.tb 10),qI (y.tb 11),qI (y.tb 12),qI (y.tb 13),qI (y.tb 14),qI (y.tb 15)]]⟩)],λy=>l.length-y.i,
  ⟨_,c6.refl _,⟨0,0,d.fs,qW,rfl,by simp[gg]⟩,⟨rfl,rfl,rfl,rfl,rfl,rfl,trivial⟩,⟨rfl,rfl,rfl,rfl,trivial⟩⟩,?_⟩
 rintro⟨i,k,tb,hi2,hk,kH⟩;cbv;refine ab (λg=>?_) (λg=>?_)
 ·have g2:k<P.sub hi 0:=fJ hP g;have g3:k<hi:=by rw[sub_eq hP] at g2;omega
  have t:i<l.length:=by((try simp only[nc] at*);omega)
  have e:i+1<=a:=by((try simp only[nc] at*);omega)
  obtain⟨r,ku⟩:∃r,l[i]? =some r:=⟨_,af t⟩;have v8:P.add 0 k=(i:Int):=by rw[add_eq hP,hk];simp
  have m:P.row rows (P.nat (P.add 0 k)) [qI r.who,qI r.seq,.sl false 3 (r.delta.map bd)]:=ga hP v8 (by rw[ds,av,ku];rfl);have c:=xD d.fs d.b l i r ku;have z:=u r (ax ku);obtain⟨w,hw⟩:∃w,r.who=w:=⟨_,rfl⟩;obtain⟨p,C⟩:∃w,r.seq=w:=⟨_,rfl⟩;rw[hw,C] at m c;rw[hw] at z
  generalize r.delta.map bd=dr at m
  obtain⟨wn,A⟩:∃wn,w.toNat=wn:=⟨_,rfl⟩;have q1:P.fC 0 k:=iu hP (by rw[hk];exact aO _);have q2:P.iO k (P.sub hi 0):=kN hP g2;have L:P.i64 (P.add k 1):=by rw[add_eq hP];exact eR hP qO
  have q:P.add k 1=((i+1:Nat):Int):=by rw[add_eq hP,hk];simp
  have M:P.i64 (P.add d.b k):=by rw[add_eq hP];exact eR hP qO
  have N:P.i64 (P.add (P.add d.b k) 1):=by rw[add_eq hP,add_eq hP];exact eR hP qO
  have O:P.fC 0 w:=iu hP z.1;have Q:P.iO w 8:=kN hP qW;have f:P.nat w=wn:=by rw[<-A];subst hP;rfl
  rw[A] at c;cbv
  repeat' first|(refine qA ?_;cbv)|(intro o;cbv)
  refine⟨_,m,?_⟩;cbv
  repeat' first|(refine qA ?_;cbv)|(intro I;cbv)
  have hc:wn=0\/wn=1\/wn=2\/wn=3\/wn=4\/wn=5\/wn=6\/wn=7:=by omega
  rcases hc with rfl|rfl|rfl|rfl|rfl|rfl|rfl|rfl
  ·refine⟨0,f,?_⟩;cbv
   repeat' first|(refine qA ?_;cbv)|(intro h;cbv)
   refine⟨_,c6.refl _,⟨i+1,_,gJ tb 0 p (P.add (P.add d.b k) 1),e,q,?_⟩,⟨rfl,rfl,rfl,rfl,rfl,rfl,trivial⟩,⟨rfl,rfl,rfl,rfl,trivial⟩,?_⟩
   ·rw[c,kH,add_eq hP,add_eq hP,hk]
   ·show l.length-(i+1)<l.length-i;omega
  ·refine⟨1,f,?_⟩;cbv
   repeat' first|(refine qA ?_;cbv)|(intro h;cbv)
   refine⟨_,c6.refl _,⟨i+1,_,gJ tb 1 p (P.add (P.add d.b k) 1),e,q,?_⟩,⟨rfl,rfl,rfl,rfl,rfl,rfl,trivial⟩,⟨rfl,rfl,rfl,rfl,trivial⟩,?_⟩
   ·rw[c,kH,add_eq hP,add_eq hP,hk]
   ·show l.length-(i+1)<l.length-i;omega
  ·refine⟨2,f,?_⟩;cbv
   repeat' first|(refine qA ?_;cbv)|(intro h;cbv)
   refine⟨_,c6.refl _,⟨i+1,_,gJ tb 2 p (P.add (P.add d.b k) 1),e,q,?_⟩,⟨rfl,rfl,rfl,rfl,rfl,rfl,trivial⟩,⟨rfl,rfl,rfl,rfl,trivial⟩,?_⟩
   ·rw[c,kH,add_eq hP,add_eq hP,hk]
   ·show l.length-(i+1)<l.length-i;omega
  ·refine⟨3,f,?_⟩;cbv
   repeat' first|(refine qA ?_;cbv)|(intro h;cbv)
   refine⟨_,c6.refl _,⟨i+1,_,gJ tb 3 p (P.add (P.add d.b k) 1),e,q,?_⟩,⟨rfl,rfl,rfl,rfl,rfl,rfl,trivial⟩,⟨rfl,rfl,rfl,rfl,trivial⟩,?_⟩
   ·rw[c,kH,add_eq hP,add_eq hP,hk]
   ·show l.length-(i+1)<l.length-i;omega
  ·refine⟨4,f,?_⟩;cbv
   repeat' first|(refine qA ?_;cbv)|(intro h;cbv)
   refine⟨_,c6.refl _,⟨i+1,_,gJ tb 4 p (P.add (P.add d.b k) 1),e,q,?_⟩,⟨rfl,rfl,rfl,rfl,rfl,rfl,trivial⟩,⟨rfl,rfl,rfl,rfl,trivial⟩,?_⟩
   ·rw[c,kH,add_eq hP,add_eq hP,hk]
   ·show l.length-(i+1)<l.length-i;omega
  ·refine⟨5,f,?_⟩;cbv
   repeat' first|(refine qA ?_;cbv)|(intro h;cbv)
   refine⟨_,c6.refl _,⟨i+1,_,gJ tb 5 p (P.add (P.add d.b k) 1),e,q,?_⟩,⟨rfl,rfl,rfl,rfl,rfl,rfl,trivial⟩,⟨rfl,rfl,rfl,rfl,trivial⟩,?_⟩
   ·rw[c,kH,add_eq hP,add_eq hP,hk]
   ·show l.length-(i+1)<l.length-i;omega
  ·refine⟨6,f,?_⟩;cbv
   repeat' first|(refine qA ?_;cbv)|(intro h;cbv)
   refine⟨_,c6.refl _,⟨i+1,_,gJ tb 6 p (P.add (P.add d.b k) 1),e,q,?_⟩,⟨rfl,rfl,rfl,rfl,rfl,rfl,trivial⟩,⟨rfl,rfl,rfl,rfl,trivial⟩,?_⟩
   ·rw[c,kH,add_eq hP,add_eq hP,hk]
   ·show l.length-(i+1)<l.length-i;omega
  ·refine⟨7,f,?_⟩;cbv
   repeat' first|(refine qA ?_;cbv)|(intro h;cbv)
   refine⟨_,c6.refl _,⟨i+1,_,gJ tb 7 p (P.add (P.add d.b k) 1),e,q,?_⟩,⟨rfl,rfl,rfl,rfl,rfl,rfl,trivial⟩,⟨rfl,rfl,rfl,rfl,trivial⟩,?_⟩
   ·rw[c,kH,add_eq hP,add_eq hP,hk]
   ·show l.length-(i+1)<l.length-i;omega
 ·have g2:¬k<P.sub hi 0:=fM hP g;have g3:¬k<hi:=by rw[sub_eq hP] at g2;omega
  have t:i=a:=by((try simp only[nc] at*);omega)
  subst t;cbv
  repeat' first|(refine qA ?_;cbv)|(intro o;cbv)
  exact H _ _ tb kH (c6.refl _) ⟨rfl,rfl,an 0,ah 16,rfl⟩ ⟨rfl,rfl,trivial⟩
theorem Et(f:Nat->Int):Fz (kC f):=.agg _ (by simp;exact⟨.int _ _,.int _ _,.int _ _,.int _ _,.int _ _,.int _ _,.int _ _,.int _ _,.int _ _,.int _ _,.int _ _,.int _ _,.int _ _,.int _ _,.int _ _,.int _ _⟩)
theorem On(bl:Nat)(d:SC)(ba:Option Nat)(l:List eP)(hb:0<=d.b/\d.b<=4294967295)(e:l.length<=1000)(a:∀r∈l,0<=r.who/\r.who<=7)(j:Int)(hj:d.b<=j/\j<=d.b+(l.length:Int))(mv:V)(hq:MQ mv):Spec Tryz.prog 93 [.ptr 0 (some bl) 47 0 0,qI j] (cp (S2 bl d ba l.length (l.map ca) mv))
  λx h'=>∃c,(x=kC (gg d.fs d.b (l.take (j-d.b).toNat))/\c=S2 bl d ba l.length (l.map ca) mv)/\h'=cp c:=
 fu iD Ol (L:=S2 bl d ba l.length (l.map ca) mv) (λx c=>x=kC (gg d.fs d.b (l.take (j-d.b).toNat))/\c=S2 bl d ba l.length (l.map ca) mv) λR f=>
  Om dn rfl _ _ bl d ba l _ rfl _ rfl mv hq.1.2 hb e a j hj (j-d.b).toNat qW R λs s' tb kH he hr ha=>f s s' _ _ he (eM _ _ _ (λx hx=>by rw[hx,kH];rfl) hr) ha (Et _) (JU hq.1.1) ⟨rfl,rfl⟩
def PE(T:c8):Prop:=∀(k ka bl:Nat)(d:SC)(ba:Option Nat)(n:Nat)(rows:List (List V))(l:List eP)(mv:V)(j:Int)(h:Hp)(K:V->Hp->Prop),rows=l.map ca->n=l.length->(0<=d.b/\d.b<=4294967295)->l.length<=1000->(∀r∈l,0<=r.who/\r.who<=7)->(d.b<=j/\j<=d.b+(l.length:Int))->MQ mv->Nat.beq k ka=false->ys k ka mv=true->h k=some (fx bl (fw d (.own ka ba 3 n) mv))->h ka=some (iw ba rows)->
 (∀tb,tb=gg d.fs d.b (l.take (j-d.b).toNat)->K (kC tb) h)->T 93 [.ptr k (some bl) 47 0 0,qI j] h K
theorem T8:PE (fX Tryz.prog):=by
 rintro k ka bl d ba n rows l mv j h K rfl rfl hb hn a hj hq hne hr hk b hK;exact TW (Q:=MQ) (λg=>hq.rl g) (λmv hq=>On bl d ba l hb hn a j hj mv hq) rfl (λ_=>rfl) hq.1.1 hne hk b (hK _ rfl)
structure Mv where
 f:Int
 c:Int
 w:Bool
def kS(km bm:Nat):Option Mv->V
 |none=>.nil
 |some _=>.ptr km (some bm) 3 0 0
def jk(bm:Nat):Option Mv->Ob
 |none=>⟨none,133,3,[]⟩
 |some m=>⟨some bm,133,3,[[.int .i64 m.f,.int .i64 m.c,.bool m.w]]⟩
theorem th(km bm:Nat)(m:Option Mv):Fz (kS km bm m):=by cases m<;>first|exact .nil|exact .ptr _ _ _ _ _
theorem Oo(km bm:Nat)(m:Option Mv):V.one (kS km bm m)=true:=by cases m<;>rfl
theorem Oq(km bm:Nat)(m:Option Mv):NW (kS km bm m)=true:=by cases m<;>rfl
theorem ti(km bm:Nat)(m:Option Mv):MQ (kS km bm m):=⟨⟨th _ _ _,Oo _ _ _⟩,Oq _ _ _⟩
theorem pP(km bm:Nat)(m:Option Mv)(g:Nat->Nat):(kS km bm m).rl g=kS (g km) bm m:=by cases m<;>rfl
theorem pQ(bm:Nat)(m:Option Mv)(g:Nat->Nat):(jk bm m).gM g=jk bm m:=by cases m<;>rfl
theorem uJ(bm:Nat)(m:Option Mv):(jk bm m).Fz:=by
 intro r hr v hv;cases m with
 |none=>cases hr
 |some m=>
  simp only[jk,aq] at hr;subst hr;simp only[aw,aD,bw] at hv
  rcases hv with rfl|rfl|rfl
  ·exact .int _ _
  ·exact .int _ _
  ·exact .bool _
def S3(bl:Nat)(d:SC)(ba:Option Nat)(n:Nat)(rows:List (List V))(bm:Nat)(m:Option Mv):List (Nat×Ob):=[(0,fx bl (fw d (.own 1000001 ba 3 n) (kS 1 bm m))),(1000001,iw ba rows),(1,jk bm m)]
theorem tS{bl:Nat}{d:SC}{ba:Option Nat}{n:Nat}{l:List eP}{bm:Nat}{m:Option Mv}:∀p∈S3 bl d ba n (l.map ca) bm m,p.2.Fz:=by
 intro p hp;simp only[S3,aw,aD,bw] at hp
 rcases hp with rfl|rfl|rfl
 ·exact jB (.own _ _ _ _) (th _ _ _) bl
 ·exact fL _
 ·exact uJ _ _
structure N3(k ka km:Nat):Prop where
 a:Nat.beq k ka=false
 b:Nat.beq k km=false
 c:Nat.beq ka km=false
theorem N3.ne{k ka km:Nat}(h:N3 k ka km):k≠ka/\k≠km/\ka≠km:=by
 refine⟨λe=>?_,λe=>?_,λe=>?_⟩<;>subst e
 ·have:=h.a;rw[bO] at this;cases this
 ·have:=h.b;rw[bO] at this;cases this
 ·have:=h.c;rw[bO] at this;cases this
theorem vL{f k ka km bl bm:Nat}{rest:List V}{d:SC}{ba:Option Nat}{n:Nat}{l:List eP}{m:Option Mv}{post:V->SC->List eP->Option Mv->Prop}(hs:Spec Tryz.prog f (.ptr 0 (some bl) 47 0 0::rest) (cp (S3 bl d ba n (l.map ca) bm m)) λx h'=>∃i,(∃a b d' l' m',post x d' l' m'/\i=S3 bl d' a l'.length (l'.map ca) b m')/\h'=cp i)
  (c:∀h m,mH h m rest rest)(hv:∀x d' l' m' g,post x d' l' m'->x.gM g=x)(hN:N3 k ka km){h:Hp}{K:V->Hp->Prop}(hk:h k=some (fx bl (fw d (.own ka ba 3 n) (kS km bm m))))(j:h ka=some (iw ba (l.map ca)))(o:h km=some (jk bm m))
  (hK:∀x a b d' l' m',post x d' l' m'->K x (h.fK [(k,fx bl (fw d' (.own ka a 3 l'.length) (kS km b m'))),(ka,iw a (l'.map ca)),(km,jk b m')])):fm Tryz.prog f (.ptr k (some bl) 47 0 0::rest) h K:=by
 obtain⟨n1,n2,t⟩:=hN.ne;have q:¬ka=k:=λe=>n1 e.symm;have r:¬km=k:=λe=>n2 e.symm;have s:¬km=ka:=λe=>t e.symm;have b0:gW [(0,k),(1000001,ka),(1,km)] k=0:=by simp[gW]
 have b1:gW [(0,k),(1000001,ka),(1,km)] ka=1000001:=by simp[gW,q]
 have b2:gW [(0,k),(1000001,ka),(1,km)] km=1:=by simp[gW,r,s]
 have y:gD [(0,k),(1000001,ka),(1,km)] 0=k:=by simp[gD]
 have u:gD [(0,k),(1000001,ka),(1,km)] 1000001=ka:=by simp[gD]
 have w:gD [(0,k),(1000001,ka),(1,km)] 1=km:=by simp[gD]
 refine xv [(0,k),(1000001,ka),(1,km)] hs (.cons ?_ (c h _)) (by simp) (by simp[n1,n2,t]) (by simp) (λp hp=>?_) (λp hp=>?_) ?_ ?_
 ·have:=Arg.same (h:=h) (m:=[(0,k),(1000001,ka),(1,km)]) (.ptr k (some bl) 47 0 0);simpa[V.gM,V.rl,b0] using this
 ·simp only[S3,aw,aD,bw] at hp
  rcases hp with rfl|rfl|rfl<;>simp
 ·simp only[S3,aw,aD,bw] at hp
  rcases hp with rfl|rfl|rfl
  ·refine⟨?_,jB (.own _ _ _ _) (th _ _ _) bl⟩;show(h (gD _ 0)).map _=_;rw[y,hk,aE,iM,pP,b2];show some (fx bl (fw d (.own (gW _ ka) ba 3 n) _))=_;rw[b1]
  ·refine⟨?_,fL _⟩;show(h (gD _ 1000001)).map _=_;rw[u,j,aE,jA]
  ·refine⟨?_,uJ _ _⟩;show(h (gD _ 1)).map _=_;rw[w,o,aE,pQ]
 ·rintro v i ⟨a,b,d',l',m',_,rfl⟩;rfl
 ·rintro v i ⟨a,b,d',l',m',hp,rfl⟩;rw[hv v d' l' m' _ hp];have e:mb [(0,k),(1000001,ka),(1,km)] (Ob.gM (gD [(0,k),(1000001,ka),(1,km)])) (S3 bl d' a l'.length (l'.map ca) b m')=[(k,fx bl (fw d' (.own ka a 3 l'.length) (kS km b m'))),(ka,iw a (l'.map ca)),(km,jk b m')]:=by
   simp only[mb,S3,cu,cB,iM,jA,pQ,pP,w];show[(k,fx bl (fw d' (.own (gD _ 1000001) a 3 l'.length) _)),_,_]=_;rw[u]
  rw[e];exact hK v a b d' l' m' hp
def nC(d:SC):Option Mv->SC
 |none=>d
 |some m=>if m.w=true then jj d (1-d.dE) else d
def jR(d:SC)(n:Nat)(m:Option Mv):SC:= {jj (nC d m) (nC d m).dE with sf:=d.b+(n:Int)}
def AD:AC:=.seq (qr [qm 2 0,qn 3 2,qf 4 45 3,ql 5 4,qo 6 (.eqp true (.t 5) (.c (.pointer none))),qm 7 6,qg 8 7 true (.mov (.t 0)),qg 9 7 true (.nilchk (.t 8)),qg 10 7 true (.faddr 45 (.t 9)),qg 11 7 true (.load1 (.t 10)),qg 12 7 true (.nilchk (.t 11)),qg 13 7 true (.faddr 2 (.t 12)),qg 14 7 true (.load1 (.t 13)),qo 15 (.pick (.t 7) (.t 14) (.c (.bool false)))] (qu 15 (qR [qm 16 0,qm 17 0,qn 18 17,qf 19 4 18,ql 20 19,qo 21 (.bin .sub (qk 1) (.t 20)),qa 22 28 [.t 16,.t 21]]) .skip)) (qr [qm 23 0,qm 24 0,qn 25 24,qf 26 4 25,ql 27 26,qa 28 28 [.t 23,.t 27]] (qR [qm 29 0,qm 30 0,qa 31 34 [.t 30],qn 32 29,qf 33 44 32,qs 1 33 31]))
theorem Kt:fF Tryz.prog 47 Tryz.f47 AD [] 1 er:=⟨Tryz.func47,by decide+kernel,by kernel_rfl,by kernel_rfl,by decide+kernel⟩
theorem Ku(P:Prim)(hP:P=dn)(T l:c8)(g:Ac T)(h:mu T)(bl:Nat)(d:SC)(ba:Option Nat)(n:Nat)(rows:List (List V))(bm:Nat)(m:Option Mv)(hb:0<=d.b/\d.b<=4294967295)(i:n<=1000)(hat:d.dE=0\/d.dE=1)
  (R:S->Prop)(k:∀(s s':S)(d':SC),d'=jR d n m->c6 s s'->iH [] [] s'->fG (S3 bl d' ba n rows bm m) s'->R s):gj P T l AD (S0 [.ptr 0 (some bl) 47 0 0] (cp (S3 bl d ba n rows bm m))) R (λ_ _=>False) R:=by
 have m1:P.i64 (P.sub 1 d.dE):=by rw[sub_eq hP];exact eR hP qW
 have m2:P.sub 1 d.dE=1-d.dE:=sub_eq hP _ _;obtain _|⟨f,c,w⟩:=m
 ·cbv
  repeat' first|(refine qA ?_;cbv)|(intro a;cbv)
  refine g 0 bl d (.own 1000001 ba 3 n) .nil _ _ _ ⟨⟨.own _ _ _ _,rfl⟩,.nil,rfl⟩ rfl rfl rfl λd2 e=>?_;have hb2:d2.b=d.b:=by rw[e];rfl
  cbv
  repeat' first|(refine qA ?_;cbv)|(intro a;cbv)
  refine h 0 bl d2 1000001 ba n .nil _ _ (by rw[hb2];omega) i ⟨.nil,rfl⟩ rfl rfl rfl λq hq=>?_;rw[hb2] at hq;cbv
  repeat' first|(refine qA ?_;cbv)|(intro a;cbv)
  exact k _ _ {d2 with sf:=q} (by rw[e,hq];rfl) (c6.refl _) rfl ⟨rfl,rfl,rfl,trivial⟩
 ·cbv
  repeat' first|(refine qA ?_;cbv)|(intro a;cbv)
  cases w
  ·cbv
   repeat' first|(refine qA ?_;cbv)|(intro a;cbv)
   refine g 0 bl d (.own 1000001 ba 3 n) (.ptr 1 (some bm) 3 0 0) _ _ _ ⟨⟨.own _ _ _ _,rfl⟩,.ptr _ _ _ _ _,rfl⟩ rfl rfl rfl λd2 e=>?_;have hb2:d2.b=d.b:=by rw[e];rfl
   cbv
   repeat' first|(refine qA ?_;cbv)|(intro a;cbv)
   refine h 0 bl d2 1000001 ba n (.ptr 1 (some bm) 3 0 0) _ _ (by rw[hb2];omega) i ⟨.ptr _ _ _ _ _,rfl⟩ rfl rfl rfl λq hq=>?_;rw[hb2] at hq;cbv
   repeat' first|(refine qA ?_;cbv)|(intro a;cbv)
   exact k _ _ {d2 with sf:=q} (by rw[e,hq];rfl) (c6.refl _) rfl ⟨rfl,rfl,rfl,trivial⟩
  ·cbv
   repeat' first|(refine qA ?_;cbv)|(intro a;cbv)
   refine g 0 bl d (.own 1000001 ba 3 n) (.ptr 1 (some bm) 3 0 0) _ _ _ ⟨⟨.own _ _ _ _,rfl⟩,.ptr _ _ _ _ _,rfl⟩ rfl rfl rfl λd1 j=>?_;rw[m2] at j;have hb1:d1.b=d.b:=by rw[j];rfl
   cbv
   repeat' first|(refine qA ?_;cbv)|(intro a;cbv)
   refine g 0 bl d1 (.own 1000001 ba 3 n) (.ptr 1 (some bm) 3 0 0) _ _ _ ⟨⟨.own _ _ _ _,rfl⟩,.ptr _ _ _ _ _,rfl⟩ rfl rfl rfl λd2 e=>?_;have hb2:d2.b=d.b:=by rw[e,<-hb1];rfl
   cbv
   repeat' first|(refine qA ?_;cbv)|(intro a;cbv)
   refine h 0 bl d2 1000001 ba n (.ptr 1 (some bm) 3 0 0) _ _ (by rw[hb2];omega) i ⟨.ptr _ _ _ _ _,rfl⟩ rfl rfl rfl λq hq=>?_;rw[hb2] at hq;cbv
   repeat' first|(refine qA ?_;cbv)|(intro a;cbv)
   exact k _ _ {d2 with sf:=q} (by rw[e,hq,j];rfl) (c6.refl _) rfl ⟨rfl,rfl,rfl,trivial⟩
theorem Kv(bl:Nat)(d:SC)(ba:Option Nat)(l:List eP)(bm:Nat)(m:Option Mv)(hb:0<=d.b/\d.b<=4294967295)(f:l.length<=1000)(hat:d.dE=0\/d.dE=1):Spec Tryz.prog 47 [.ptr 0 (some bl) 47 0 0] (cp (S3 bl d ba l.length (l.map ca) bm m))
  λx h'=>∃e,(∃a c d' l' m',(x=.tup []/\d'=jR d l.length m/\l'=l/\m'=m)/\e=S3 bl d' a l'.length (l'.map ca) c m')/\h'=cp e:=
 fu iD Kt (L:=S3 bl d ba l.length (l.map ca) bm m) (λx e=>∃a c d' l' m',(x=.tup []/\d'=jR d l.length m/\l'=l/\m'=m)/\e=S3 bl d' a l'.length (l'.map ca) c m') λR g=>
  Ku dn rfl _ _ Ee rC bl d ba l.length (l.map ca) bm m hb f hat R λs s' d' hd he hr ha=>g s s' _ _ he (eM _ _ _ (λx hx=>by rw[hx];rfl) hr) ha (.tup _ (λv hv=>by cases hv)) tS ⟨ba,bm,d',l,m,⟨rfl,hd,rfl,rfl⟩,rfl⟩
def kh(d:SC)(n:Nat)(m:Option Mv)(j:Int):Option Mv×Int:=if m.isSome=true\/d.gH=true then(m,13) else if fZ d.b n j≠0 then(m,fZ d.b n j) else(some ⟨j,-1,false⟩,0)
def AE:AC:=qr [qz 4 0] (qq (qr [qm 6 0,qn 7 6,qf 8 45 7,ql 9 8,qo 10 (.eqp true (.t 9) (.c (.pointer none))),qm 11 10,qg 12 11 false (.mov (.t 0)),qg 13 11 false (.nilchk (.t 12)),qg 14 11 false (.faddr 46 (.t 13)),qg 15 11 false (.load1 (.t 14)),qo 16 (.pick (.t 11) (.c (.bool true)) (.t 15))] (qu 16 (qr [qz 4 13] .ret) .skip)) (qq (qr [qm 17 0,qm 18 1,qa 19 75 [.t 17,.t 18],qm 5 19] (qr [qm 20 5,qc 21 .neq 20 0] (qu 21 (qr [qm 22 5,qm 4 22] .ret) .skip))) (qr [qm 23 0,qm 24 1,qo 25 (.build [q0,q0,(.bool false)] [(0,1,(.t 24)),(1,1,(qk (-1)))]),qo 26 (.box 133 3 (.t 25)),qn 27 23,qf 28 45 27,qs 1 28 26] (qr [qz 4 0] .ret))))
theorem Kw:fF Tryz.prog 49 Tryz.f49 AE [.t 4] 2 er:=⟨Tryz.func49,by decide+kernel,by kernel_rfl,by kernel_rfl,by decide+kernel⟩
theorem Kx(P:Prim)(hP:P=dn)(T r:c8)(l:uF T)(bl:Nat)(d:SC)(ba:Option Nat)(n:Nat)(rows:List (List V))(bm:Nat)(m:Option Mv)(hb:0<=d.b/\d.b<=4294967295)(o:n<=1000)(j:Int)
  (R:S->Prop)(k:∀(s s':S)(e:Int)(m':Option Mv)(p:Nat),(m',e)=kh d n m j->c6 s s'->iH [.t 4] [qI e] s'->fG (S3 bl d ba n rows p m') s'->R s):gj P T r AE (S0 [.ptr 0 (some bl) 47 0 0,qI j] (cp (S3 bl d ba n rows bm m))) R (λ_ _=>False) R:=by
 obtain _|⟨f,c,w⟩:=m
 ·cbv
  repeat' first|(refine qA ?_;cbv)|(intro a;cbv)
  refine ab (λg=>?_) (λg=>?_)
  ·have i:d.gH=true:=g;cbv
   repeat' first|(refine qA ?_;cbv)|(intro a;cbv)
   exact k _ _ 13 none bm (by unfold kh;rw[ae (.inr i)]) (c6.refl _) rfl ⟨rfl,rfl,rfl,trivial⟩
  have i:d.gH=false:=g
  ·cbv
   repeat' first|(refine qA ?_;cbv)|(intro a;cbv)|(refine l 0 bl d 1000001 ba n .nil j _ _ hb o ⟨.nil,rfl⟩ rfl rfl rfl rfl λq hq=>?_;cbv)|fail
   have hk:kh d n none j=if fZ d.b n j≠0 then(none,fZ d.b n j) else(some ⟨j,-1,false⟩,0):=by
    unfold kh;rw[aa (by rw[i];simp)]
   rw[<-hq] at hk;refine ab (λg=>?_) (λg=>?_)
   ·have g1:q≠0:=hH hP g;rw[ae g1] at hk;cbv
    repeat' first|(refine qA ?_;cbv)|(intro a;cbv)
    exact k _ _ _ none bm hk.symm (c6.refl _) rfl ⟨rfl,rfl,rfl,trivial⟩
   ·have g1:q=0:=gZ hP g;rw[aa (λh=>h g1)] at hk;cbv
    repeat' first|(refine qA ?_;cbv)|(intro a;cbv)
    refine k _ _ 0 (some ⟨j,-1,false⟩) a hk.symm (c6.CD [(0,0,fx bl (fw d (.own 1000001 ba 3 n) (.ptr 1 (some a) 3 0 0))),(1000001,1000001,iw ba rows),(1,26,jk a (some ⟨j,-1,false⟩))] (by show([0,1000001,26]:List Nat).Nodup;decide) ⟨⟨_,rfl,rfl,rfl⟩,⟨_,rfl,rfl,rfl⟩,⟨_,rfl,rfl,rfl⟩,trivial⟩) rfl ⟨rfl,rfl,rfl,trivial⟩
 ·cbv
  repeat' first|(refine qA ?_;cbv)|(intro a;cbv)
  exact k _ _ 13 (some ⟨f,c,w⟩) bm (by unfold kh;rw[ae (.inl rfl)]) (c6.refl _) rfl ⟨rfl,rfl,rfl,trivial⟩
theorem Ky(bl:Nat)(d:SC)(ba:Option Nat)(l:List eP)(bm:Nat)(m:Option Mv)(hb:0<=d.b/\d.b<=4294967295)(g:l.length<=1000)(j:Int):Spec Tryz.prog 49 [.ptr 0 (some bl) 47 0 0,qI j] (cp (S3 bl d ba l.length (l.map ca) bm m))
  λx h'=>∃f,(∃c a d' l' m',(x=qI (kh d l.length m j).2/\d'=d/\l'=l/\m'=(kh d l.length m j).1)/\f=S3 bl d' c l'.length (l'.map ca) a m')/\h'=cp f:=
 fu iD Kw (L:=S3 bl d ba l.length (l.map ca) bm m) (λx f=>∃c a d' l' m',(x=qI (kh d l.length m j).2/\d'=d/\l'=l/\m'=(kh d l.length m j).1)/\f=S3 bl d' c l'.length (l'.map ca) a m') λR h=>
  Kx dn rfl _ _ Cu bl d ba l.length (l.map ca) bm m hb g j R λs s' e m' a hd he hr ha=>h s s' _ _ he (eM _ _ _ (λx hx=>by rw[hx];rfl) hr) ha (.int _ _) tS ⟨ba,a,d,l,m',⟨by rw[<-hd],rfl,rfl,by rw[<-hd]⟩,rfl⟩
theorem gN.pR{C:Ctx}{F:Nat->Prop}{h:Hp}{w:World}(hs:gN C F h w)(k ty sz:Nat):gN C F (Hp.put h k ⟨none,ty,sz,[]⟩) w:=by
 have look:∀j q,Hp.put h k ⟨none,ty,sz,[]⟩ j=some q->q=⟨none,ty,sz,[]⟩\/h j=some q:=by
  intro j q hj;simp only[Hp.put] at hj
  by_cases h1:j=k
  ·rw[ae h1] at hj;cases hj;exact .inl rfl
  ·rw[aa h1] at hj;exact .inr hj
 refine⟨λj q hj=>?_,λj c q d b hj a hb hb'=>?_,λj q b hj hb=>?_,hs.gH,hs.new,hs.lt,hs.ev⟩
 ·rcases look j q hj with rfl|hj
  ·exact(show fU F C.B w ⟨none,ty,sz,[]⟩ from rfl)
  ·exact hs.ob j q hj
 ·rcases look j q hj with rfl|hj
  ·cases hb
  ·rcases look c d a with rfl|a
   ·cases hb'
   ·exact hs.inj j c q d b hj a hb hb'
 ·rcases look j q hj with rfl|hj
  ·cases hb
  ·exact hs.live j q b hj hb
theorem jU.pR(h:Hp)(k ty sz:Nat):jU h (Hp.put h k ⟨none,ty,sz,[]⟩):=λ_ F _ _ hs=>⟨F,λ_ h=>h,hs.pR k ty sz⟩
theorem c6.pR(s:S)(k ty sz:Nat):c6 s ⟨s.t,Hp.put s.h k ⟨none,ty,sz,[]⟩⟩:=λC n a w b hs=>by
 obtain⟨F,h1,h2⟩:=hs.ex;exact⟨⟨F,h1.pR k ty sz,h2⟩,hs.df,hs.sz⟩
def q8(l:hI)(v:V)(e:Int):V:=.tup [.agg (lF l.gen l.base l.text l.first l.table v l.whole l.eF),.int .i64 e]
def CK(T:c8):Prop:=∀(a:Nat)(s:BS)(h:Hp)(K:V->Hp->Prop),s.length<=1048576->h a=none->(∀(l:hI)(e:Int)(ba:Option Nat)(n:Nat)(rows:List (List V)),(l,e)=fW (fk s).1->n=l.e8.length->rows=l.e8.map ca->(e=0->K (q8 l (.own a ba 3 n) e) (Hp.put h a (iw ba rows)))/\
 (e≠0->K (q8 l .nilsl e) h)/\(e≠0->K (q8 l (.own a ba 3 n) e) h))->T 94 [.str s] h K
theorem Kz:CK (fm Tryz.prog):=by
 intro a s h K hs hk hK;have hl:gD [(1000999,a)] 1000999=a:=by simp[gD]
 have hb:gW [(1000999,a)] a=1000999:=by simp[gW]
 refine mA (m:=[(1000999,a)]) (F4 s hs) (fO rfl) (λj o hj=>by cases hj) (λq hq=>?_) ?_
 ·rw[aq.1 hq];exact⟨hl,hb,λo ho=>by cases ho⟩
 ·have b:h.gy [(1000999,a)] (cp [])=h:=by
   funext i
   simp only[Hp.gy,bK,bP,bN,bc]
   by_cases hi:a=i
   ·rw[ae hi,<-hi,hk];rfl
   ·rw[aa hi]
  generalize c:fW (fk s).1=q at*
  obtain⟨l,e⟩:=q;have rl:∀v g,(q8 l v e).gM g=q8 l (v.rl g) e:=λv g=>rfl;rintro x d (⟨he,ba,rfl,rfl⟩|⟨he,rfl,rfl⟩|⟨he,ba,rfl,rfl⟩)
  ·have e1:h.gy [(1000999,a)] (cp [(1000999,iw ba (l.e8.map ca))])=Hp.put h a (iw ba (l.e8.map ca)):=by
    funext i
    simp only[Hp.gy,Hp.put,bK,bP,bN,bc]
    by_cases hi:a=i
    ·rw[ae hi,ae hi.symm,<-hi,hb];show(some (iw ba (l.e8.map ca))).map (Ob.gM (gD [(1000999,a)]))=_;rw[aE,jA]
    ·rw[aa hi,aa λe=>hi e.symm]
   rw[e1];show K ((q8 l (.own 1000999 ba 3 l.e8.length) e).gM _) _;rw[rl];show K (q8 l (.own (gD [(1000999,a)] 1000999) ba 3 l.e8.length) e) _;rw[hl];exact(hK l e ba _ _ rfl rfl rfl).1 he
  ·rw[b];show K ((q8 l .nilsl e).gM _) _;rw[rl];exact(hK l e none _ _ rfl rfl rfl).2.1 he
  ·rw[b];show K ((q8 l (.own 1000999 ba 3 l.e8.length) e).gM _) _;rw[rl];show K (q8 l (.own (gD [(1000999,a)] 1000999) ba 3 l.e8.length) e) _;rw[hl];exact(hK l e ba _ _ rfl rfl rfl).2.2 he
def pS:AC:=qr [qo 2 (.mov (.c (.bool false)))] (qr [qm 11 0,qn 12 11,qf 13 4 12,ql 14 13,qo 15 (.bin .sub (qk 1) (.t 14)),qm 3 15] (qr [qm 16 0,qn 17 16,qf 18 45 17,ql 19 18,qm 4 19] (qq (.block 0 (qr [qm 54 4,qo 55 (.eqp false (.t 54) (.c (.pointer none))),qm 56 55,qg 57 56 true (.mov (.t 0)),qg 58 56 true (.nilchk (.t 57)),qg 59 56 true (.faddr 46 (.t 58)),qg 60 56 true (.load1 (.t 59)),qg 61 56 true (.not (.t 60)),qo 62 (.pick (.t 56) (.t 61) (.c (.bool false))),qm 53 62] (qu 53 (qr [qo 2 (.mov (.c (.bool false)))] .ret) (qr [qm 64 4,qo 65 (.eqp false (.t 64) (.c (.pointer none))),qm 63 65] (qu 63 (qr [qm 66 0,qm 67 3,qa 68 92 [.t 66,.t 67,qk 0]] (qR [qm 69 0,qn 70 69,qf 71 46 70,⟨none,none,.store 1 (.t 71) (.c (.bool false))⟩])) (qr [qm 73 4,qn 74 73,qf 75 1 74,ql 76 75,qc 77 .lss 76 0,qm 72 77] (qu 72 (qr [qm 79 0,qm 80 4,qn 81 80,qf 82 0 81,ql 83 82,qa 84 39 [.t 79,.t 83],qm 78 84,qx 85 0 78,qx 86 1 78,qm 5 85,qm 6 86] (qq (.region true [qm 88 0,qn 89 88,qf 90 5 89,qf 91 0 90,ql 92 91,qc 93 .add 92 1,qm 94 4,qn 95 94,qf 96 0 95,ql 97 96,qm 98 5,qm 99 0,qm 100 4,qn 101 100,qf 102 0 101,ql 103 102,qa 104 93 [.t 99,.t 103],qa 105 25 [.t 93,.t 97,.t 98,.t 104],qm 87 105,qx 106 0 87,qx 107 1 87,qm 7 106,qm 8 107]) (qr [qm 108 0,qm 109 3,qa 110 92 [.t 108,.t 109,qk 0]] (qr [qm 111 0,qm 112 3,qm 113 7,qa 114 26 [.t 111,.t 112,.t 113]] (qR [qm 115 4,qn 116 115,qf 117 1 116,⟨none,none,.store 1 (.t 117) (qk 0)⟩]))))) (qq (.region true [qm 119 4,qn 120 119,qf 121 2 120,ql 122 121,qo 123 (.not (.t 122)),qm 124 123,qg 125 124 true (.mov (.t 4)),qg 126 124 true (.nilchk (.t 125)),qg 127 124 true (.faddr 0 (.t 126)),qg 128 124 true (.load1 (.t 127)),qg 129 124 true (.mov (.t 4)),qg 130 124 true (.nilchk (.t 129)),qg 131 124 true (.faddr 1 (.t 130)),qg 132 124 true (.load1 (.t 131)),qg 133 124 true (.bin .add (.t 128) (.t 132)),qg 134 124 true (.mov (.t 0)),qg 135 124 true (.call 34 [.t 134]),qg 136 124 true (.bin .lss (.t 133) (.t 135)),qo 137 (.pick (.t 124) (.t 136) (.c (.bool false))),qm 118 137]) (qu 118 (qq (.region true [qm 139 0,qn 140 139,qf 141 5 140,qf 142 35 141,ql 143 142,qm 144 4,qn 145 144,qf 146 0 145,ql 147 146,qm 148 4,qn 149 148,qf 150 1 149,ql 151 150,qb 152 .add 147 151,qm 153 0,qn 154 153,qf 155 5 154,qf 156 1 155,ql 157 156,qb 158 .sub 152 157,qo 159 (.iaddr 3 (.t 143) (.t 158)),qd 160 3 159,qa 161 78 [.t 160],qm 138 161,qx 162 0 138,qx 163 1 138,qm 9 162,qm 10 163]) (qr [qm 164 0,qm 165 3,qm 166 9,qa 167 26 [.t 164,.t 165,.t 166]] (qR [qm 168 4,qn 169 168,qf 170 1 169,ql 171 170,qc 172 .add 171 1,qn 173 168,qf 174 1 173,qs 1 174 172]))) (qr [qm 176 4,qn 177 176,qf 178 2 177,ql 179 178,qo 180 (.not (.t 179)),qm 175 180] (qu 175 (qr [qm 181 0,qm 182 3,qa 183 27 [],qa 184 26 [.t 181,.t 182,.t 183]] (qR [qm 185 4,qn 186 185,qf 187 2 186,⟨none,none,.store 1 (.t 187) (.c (.bool true))⟩])) (qr [qm 20 0,qm 21 3,qa 22 28 [.t 20,.t 21]] (qr [qm 24 0,qm 25 0,qm 26 3,qn 27 25,qf 28 0 27,qf 29 0 28,qo 30 (.iarr 2 2 (.t 29) (.t 26)),qf 31 0 30,ql 32 31,qa 33 94 [.t 32],qm 23 33,qx 34 0 23,qx 35 1 23,qn 36 24,qf 37 5 36,qs 38 37 34] (qr [qm 38 0,qm 39 0,qa 40 34 [.t 39],qn 41 38,qf 42 44 41,qs 1 42 40] (qR [qm 43 0,qm 44 0,qm 45 0,qm 46 3,qn 47 43,qf 48 4 47,qs 1 48 46,qn 49 44,qf 50 45 49,⟨none,none,.store 1 (.t 50) (.c (.pointer none))⟩,qn 51 45,qf 52 46 51,⟨none,none,.store 1 (.t 52) (.c (.bool true))⟩]))))))))))))))) (qr [qo 2 (.mov (.c (.bool true)))] .ret))))
theorem KA:fF Tryz.prog 51 Tryz.f51 pS [.t 2] 1 er:=⟨Tryz.func51,by decide+kernel,by kernel_rfl,by kernel_rfl,by decide+kernel⟩
structure RR where
 d:SC
 l:List eP
 m:Option Mv
 v:Bool
def tT(d:SC)(l:List eP):RR:=if d.gH=true then⟨{iF d (1-d.dE) 0 with gH:=false},l,none,true⟩ else⟨d,l,none,false⟩
theorem Gd(P:Prim)(hP:P=dn)(T h:c8)(e:Ef T)(bl:Nat)(d:SC)(ba:Option Nat)(l:List eP)(n:Nat)(rows:List (List V))(bm:Nat)(hat:d.dE=0\/d.dE=1)
  (R:S->Prop)(f:∀(s s':S)(d':SC)(v:Bool),⟨d',l,none,v⟩=tT d l->c6 s s'->iH [.t 2] [.bool v] s'->fG (S3 bl d' ba n rows bm none) s'->R s):gj P T h pS (S0 [.ptr 0 (some bl) 47 0 0] (cp (S3 bl d ba n rows bm none))) R (λ_ _=>False) R:=by
 have m1:P.i64 (P.sub 1 d.dE):=by rw[sub_eq hP];exact eR hP qW
 have m2:P.sub 1 d.dE=1-d.dE:=sub_eq hP _ _;cbv
 repeat' first|(refine qA ?_;cbv)|(intro b;cbv)
 refine ab (λg=>?_) (λg=>?_)
 ·have c:d.gH=true:=g;cbv
  repeat' first|(refine qA ?_;cbv)|(intro b;cbv)
  refine e 0 bl d (.own 1000001 ba 3 n) .nil _ _ _ _ ⟨⟨.own _ _ _ _,rfl⟩,.nil,rfl⟩ rfl rfl rfl λd2 a=>?_;have a:d2=iF d (P.sub 1 d.dE) 0:=a;rw[m2] at a;cbv
  repeat' first|(refine qA ?_;cbv)|(intro b;cbv)
  exact f _ _ {d2 with gH:=false} true (by unfold tT;rw[ae c,a]) (c6.refl _) rfl ⟨rfl,rfl,rfl,trivial⟩
 ·have c:d.gH=false:=g;cbv
  repeat' first|(refine qA ?_;cbv)|(intro b;cbv)
  exact f _ _ d false (by unfold tT;rw[aa (by rw[c];simp)]) (c6.refl _) rfl ⟨rfl,rfl,rfl,trivial⟩
def sB(d:SC)(l:List eP)(f:Int)(w:Bool)(t:BS):RR:=⟨jd (iF d (1-d.dE) 0) (1-d.dE) t,l,some ⟨f,0,w⟩,true⟩
theorem Ge(P:Prim)(hP:P=dn)(T o:c8)(i:Ef T)(j:vA T)(p:yt T)(k:PE o)(bl:Nat)(d:SC)(ba:Option Nat)(l:List eP)(hl:lO l)(n:Nat)(hn:n=l.length)(rows:List (List V))(ds:rows=l.map ca)(bm:Nat)(f c:Int)(w:Bool)(hc:c<0)(hat:d.dE=0\/d.dE=1)
  (hb:0<=d.b/\d.b<=4294967295)(u:n<=1000)(m:∀r∈l,0<=r.who/\r.who<=7)(hf:d.b<=f/\f<=d.b+(l.length:Int))(v:0<=d.gn/\d.gn<=4294967295)(t1:BS)(e1:Int)(q:t1.length<=140737488355328)
  (h1:∀x tb g,x=(iy d l f).1->tb=gg d.fs d.b (l.take (f-d.b).toNat)->g=d.gn+1->gK o 25 [qI g,qI f,.str x,kC tb] (.tup [.str t1,qI e1]))
  (R:S->Prop)(z:∀(s s':S)(d':SC),⟨d',l,some ⟨f,0,w⟩,true⟩=sB d l f w t1->c6 s s'->iH [.t 2] [.bool true] s'->fG (S3 bl d' ba n rows bm (some ⟨f,0,w⟩)) s'->R s):gj P T o pS (S0 [.ptr 0 (some bl) 47 0 0] (cp (S3 bl d ba n rows bm (some ⟨f,c,w⟩)))) R (λ_ _=>False) R:=by
 have m1:P.i64 (P.sub 1 d.dE):=by rw[sub_eq hP];exact eR hP qW
 have m2:P.sub 1 d.dE=1-d.dE:=sub_eq hP _ _;have B:P.i64 (P.add d.gn 1):=by rw[add_eq hP];exact eR hP qW
 have A:P.add d.gn 1=d.gn+1:=add_eq hP _ _;have hq:MQ (.ptr 1 (some bm) 3 0 0):=ti 1 bm (some ⟨f,c,w⟩);cbv
 repeat' first|(refine qA ?_;cbv)|(intro a;cbv)
 refine ab (λg=>?_) (λg=>?_)
 ·cbv
  repeat' first|(refine qA ?_;cbv)|(intro a;cbv)
  refine p 0 1000001 bl d ba n rows l (.ptr 1 (some bm) 3 0 0) f _ _ ds hn hl hb qW hq rfl rfl rfl rfl λx y hx hy=>?_;cbv
  repeat' first|(refine qA ?_;cbv)|(intro a;cbv)
  refine k 0 1000001 bl d ba n rows l (.ptr 1 (some bm) 3 0 0) f _ _ ds hn hb qW m hf hq rfl rfl rfl rfl λtb kH=>?_;cbv
  repeat' first|(refine qA ?_;cbv)|(intro a;cbv)|(refine h1 x tb _ hx kH A _ _ ?_;cbv)|fail
  refine i 0 bl d (.own 1000001 ba 3 n) (.ptr 1 (some bm) 3 0 0) _ _ _ _ ⟨⟨.own _ _ _ _,rfl⟩,.ptr _ _ _ _ _,rfl⟩ rfl rfl rfl λd2 e=>?_;have e:d2=iF d (P.sub 1 d.dE) 0:=e;rw[m2] at e;cbv
  repeat' first|(refine qA ?_;cbv)|(intro a;cbv)
  refine j 0 bl d2 (.own 1000001 ba 3 n) (.ptr 1 (some bm) 3 0 0) _ _ _ _ q ⟨⟨.own _ _ _ _,rfl⟩,.ptr _ _ _ _ _,rfl⟩ rfl rfl rfl λd3 h=>?_;have h:d3=jd d2 (P.sub 1 d.dE) t1:=h;rw[m2,e] at h;cbv
  repeat' first|(refine qA ?_;cbv)|(intro a;cbv)
  exact z _ _ d3 (by rw[h];rfl) (c6.refl _) rfl ⟨rfl,rfl,rfl,trivial⟩
 ·exact absurd hc (fM hP g)
def Gf:eP:=⟨0,0,[]⟩
def pT(d:SC)(l:List eP)(f c:Int)(a:eP->BS)(t3:BS):RR:=if f+c<d.b+(l.length:Int) then⟨jd d (1-d.dE) (a (l.getD (f+c-d.b).toNat Gf)),l,some ⟨f,c+1,false⟩,true⟩ else⟨jd d (1-d.dE) t3,l,some ⟨f,c,true⟩,true⟩
theorem Gg(P:Prim)(hP:P=dn)(T v:c8)(m:vA T)(x:mu v)(bl:Nat)(d:SC)(ba:Option Nat)(l:List eP)(n:Nat)(hn:n=l.length)(rows:List (List V))(ds:rows=l.map ca)(bm:Nat)(f c:Int)(hc:0<=c/\c<=4294967295)(hat:d.dE=0\/d.dE=1)
  (hb:0<=d.b/\d.b<=4294967295)(y:n<=1000)(hf:d.b<=f/\f<=d.b+(l.length:Int))(o:eP->BS)(F:eP->Int)(z:∀r,(o r).length<=140737488355328)(t3:BS)(A:t3.length<=140737488355328)
  (h2:∀r∈l,gK v 78 [.agg [qI r.who,qI r.seq,.sl false 3 (r.delta.map bd)]] (.tup [.str (o r),qI (F r)]))(h3:gK T 27 [] (.str t3))
  (R:S->Prop)(G:∀(s s':S)(d':SC)(m':Mv),⟨d',l,some m',true⟩=pT d l f c o t3->c6 s s'->iH [.t 2] [.bool true] s'->fG (S3 bl d' ba n rows bm (some m')) s'->R s):gj P T v pS (S0 [.ptr 0 (some bl) 47 0 0] (cp (S3 bl d ba n rows bm (some ⟨f,c,false⟩)))) R (λ_ _=>False) R:=by
 have m1:P.i64 (P.sub 1 d.dE):=by rw[sub_eq hP];exact eR hP qW
 have m2:P.sub 1 d.dE=1-d.dE:=sub_eq hP _ _;have J:P.i64 (P.add f c):=by rw[add_eq hP];exact eR hP qW
 have H:P.add f c=f+c:=add_eq hP _ _;have K:P.i64 (P.sub (P.add f c) d.b):=by rw[sub_eq hP,add_eq hP];exact eR hP qW
 have L:P.i64 (P.add c 1):=by rw[add_eq hP];exact eR hP qW
 have I:P.add c 1=c+1:=add_eq hP _ _;have hq:MQ (.ptr 1 (some bm) 3 0 0):=ti 1 bm (some ⟨f,c,false⟩);cbv
 repeat' first|(refine qA ?_;cbv)|(intro e;cbv)
 refine ab (λg=>?_) (λg=>?_)
 ·exact absurd (fJ hP g) qW
 cbv
 repeat' first|(refine qA ?_;cbv)|(intro e;cbv)|(refine x 0 bl d 1000001 ba n (.ptr 1 (some bm) 3 0 0) _ _ hb y hq.1 rfl rfl rfl λq p=>?_;cbv)|fail
 refine ab (λg=>?_) (λg=>?_)
 ·have g1:P.add f c<q:=fJ hP g;rw[H,p,hn] at g1;obtain⟨i,hi⟩:∃i:Nat,f+c-d.b=(i:Int):=⟨(f+c-d.b).toNat,qW⟩;have B:i<l.length:=by((try simp only[nc] at*);omega)
  obtain⟨r,ku⟩:∃r,l[i]? =some r:=⟨_,af B⟩;have v8:P.sub (P.add f c) d.b=(i:Int):=by rw[sub_eq hP,add_eq hP];exact hi
  have h:P.row rows (P.nat (P.sub (P.add f c) d.b)) [qI r.who,qI r.seq,.sl false 3 (r.delta.map bd)]:=ga hP v8 (by rw[ds,av,ku];rfl);have j:=h2 r (ax ku);have k:pT d l f c o t3=⟨jd d (1-d.dE) (o r),l,some ⟨f,c+1,false⟩,true⟩:=by
   unfold pT;rw[ae g1,hi,aA,ar,ku];rfl
  have ld:=z r
  generalize r.delta.map bd=dr at h j
  obtain⟨M,C⟩:∃w,r.who=w:=⟨_,rfl⟩;obtain⟨N,D⟩:∃w,r.seq=w:=⟨_,rfl⟩;obtain⟨tr,u⟩:∃t,o r=t:=⟨_,rfl⟩;obtain⟨O,E⟩:∃t,F r=t:=⟨_,rfl⟩;rw[C,D] at h j;rw[u] at ld k j;rw[E] at j;have q1:P.fC 0 (P.sub (P.add f c) d.b):=iu hP (by rw[v8];exact aO _);have q2:P.iO (P.sub (P.add f c) d.b) (P.int n):=kN hP (by rw[v8,int_eq hP];omega);cbv
  repeat' first|(refine qA ?_;cbv)|(intro e;cbv)
  refine⟨_,h,?_⟩;cbv
  repeat' first|(refine qA ?_;cbv)|(intro e;cbv)|(refine j _ _ ?_;cbv)|fail
  refine m 0 bl d (.own 1000001 ba 3 n) (.ptr 1 (some bm) 3 0 0) _ _ _ _ ld ⟨⟨.own _ _ _ _,rfl⟩,.ptr _ _ _ _ _,rfl⟩ rfl rfl rfl λd3 a=>?_;have a:d3=jd d (P.sub 1 d.dE) tr:=a;rw[m2] at a;cbv
  repeat' first|(refine qA ?_;cbv)|(intro e;cbv)
  exact G _ _ d3 ⟨f,P.add c 1,false⟩ (by rw[k,a,I]) (c6.refl _) rfl ⟨rfl,rfl,rfl,trivial⟩
 ·have g1:¬P.add f c<q:=fM hP g;rw[H,p,hn] at g1;have k:pT d l f c o t3=⟨jd d (1-d.dE) t3,l,some ⟨f,c,true⟩,true⟩:=by
   unfold pT;rw[aa g1]
  cbv
  repeat' first|(refine qA ?_;cbv)|(intro e;cbv)|(refine h3 _ _ ?_;cbv)|fail
  refine m 0 bl d (.own 1000001 ba 3 n) (.ptr 1 (some bm) 3 0 0) _ _ _ _ A ⟨⟨.own _ _ _ _,rfl⟩,.ptr _ _ _ _ _,rfl⟩ rfl rfl rfl λd3 a=>?_;have a:d3=jd d (P.sub 1 d.dE) t3:=a;rw[m2] at a;cbv
  repeat' first|(refine qA ?_;cbv)|(intro e;cbv)
  exact G _ _ d3 ⟨f,c,true⟩ (by rw[k,a]) (c6.refl _) rfl ⟨rfl,rfl,rfl,trivial⟩
def ek(d:SC)(i:Int):BS:=if i=0 then d.x1 else d.x3
def AF(d:SC)(L:hI):RR:=⟨{jj d (1-d.dE) with dE:=1-d.dE,gn:=L.gen,b:=L.base,tx:=L.text,fs:=L.first,tb:=L.table,wh:=L.whole,gd:=L.eF,sf:=L.base+(L.e8.length:Int),gH:=true},L.e8,none,true⟩
theorem Gh(P:Prim)(hP:P=dn)(T B:c8)(u:Ac T)(v:CK T)(w:mu T)(bl:Nat)(d:SC)(ba:Option Nat)(n:Nat)(rows:List (List V))(bm:Nat)(f c:Int)(hc:0<=c)(hat:d.dE=0\/d.dE=1)
  (hlen:(ek (jj d (1-d.dE)) (1-d.dE)).length<=1048576)(L:hI)(A:fW (fk (ek (jj d (1-d.dE)) (1-d.dE))).1=(L,0))(x:0<=L.base/\L.base<=4294967295)(y:L.e8.length<=1000)
  (C:mu B)
  (R:S->Prop)(D:∀(s s':S)(d':SC)(i:Option Nat)(n':Nat)(h:List (List V)),n'=L.e8.length->h=L.e8.map ca->⟨d',L.e8,none,true⟩=AF d L->c6 s s'->iH [.t 2] [.bool true] s'->fG (S3 bl d' i n' h bm none) s'->R s):gj P T B pS (S0 [.ptr 0 (some bl) 47 0 0] (cp (S3 bl d ba n rows bm (some ⟨f,c,true⟩)))) R (λ_ _=>False) R:=by
 have m1:P.i64 (P.sub 1 d.dE):=by rw[sub_eq hP];exact eR hP qW
 have m2:P.sub 1 d.dE=1-d.dE:=sub_eq hP _ _;have q1:P.fC 0 (P.sub 1 d.dE):=iu hP (by rw[m2];omega);have q2:P.iO (P.sub 1 d.dE) 2:=kN hP (by rw[m2];omega);cbv
 repeat' first|(refine qA ?_;cbv)|(intro z;cbv)
 refine ab (λg=>?_) (λg=>?_)
 ·exact absurd (fJ hP g) qW
 cbv
 repeat' first|(refine qA ?_;cbv)|(intro z;cbv)
 refine u 0 bl d (.own 1000001 ba 3 n) (.ptr 1 (some bm) 3 0 0) _ _ _ ⟨⟨.own _ _ _ _,rfl⟩,.ptr _ _ _ _ _,rfl⟩ rfl rfl rfl λd2 l=>?_;have l:d2=jj d (P.sub 1 d.dE):=l;rw[m2] at l;cbv
 repeat' first|(refine qA ?_;cbv)|(intro z;cbv)
 rcases hat with hat|hat
 ·have hN:P.nat (P.sub 1 d.dE)=1:=by rw[m2,hat];subst hP;rfl
  have o:ek (jj d (1-d.dE)) (1-d.dE)=d2.x3:=by rw[<-l,hat];rfl
  rw[o] at hlen A;refine⟨1,hN,?_⟩;cbv
  repeat' first|(refine qA ?_;cbv)|(intro p;cbv)
  refine v 1000033 _ _ _ hlen rfl λa e i n' h j m k=>?_;have j:(a,e)=fW (fk d2.x3).1:=j;rw[A] at j;obtain⟨rfl,rfl⟩:a=L/\e=0:=⟨aB Prod.fst j,aB Prod.snd j⟩;refine⟨λ_=>?_,λhe=>absurd rfl he,λhe=>absurd rfl he⟩;cbv
  repeat' first|(refine qA ?_;cbv)|(intro p;cbv)
  refine w 0 bl {d2 with gn:=a.gen,b:=a.base,tx:=a.text,fs:=a.first,tb:=a.table,wh:=a.whole,gd:=a.eF} 1000033 i n' (.ptr 1 (some bm) 3 0 0) _ _ x (by rw[m];exact y) ⟨.ptr _ _ _ _ _,rfl⟩ rfl rfl rfl λq hq=>?_
  have r:q=a.base+(a.e8.length:Int):=by rw[hq,m]
  cbv
  repeat' first|(refine qA ?_;cbv)|(intro p;cbv)
  refine D _ _ {d2 with dE:=P.sub 1 d.dE,gn:=a.gen,b:=a.base,tx:=a.text,fs:=a.first,tb:=a.table,wh:=a.whole,gd:=a.eF,sf:=q,gH:=true} i n' h m k (by rw[l,r,m2];rfl)
   (c6.trans (c6.pR _ 999 133 3) (c6.CD [(0,0,fx bl (fw {d2 with dE:=P.sub 1 d.dE,gn:=a.gen,b:=a.base,tx:=a.text,fs:=a.first,tb:=a.table,wh:=a.whole,gd:=a.eF,sf:=q,gH:=true} (.own 1000001 i 3 n') .nil)),(1000001,1000033,iw i h),(1,999,jk bm none)] (by show([0,1000033,999]:List Nat).Nodup;decide) ⟨⟨_,rfl,rfl,rfl⟩,⟨_,rfl,rfl,rfl⟩,⟨_,rfl,rfl,rfl⟩,trivial⟩)) rfl ⟨rfl,rfl,rfl,trivial⟩
 ·have hN:P.nat (P.sub 1 d.dE)=0:=by rw[m2,hat];subst hP;rfl
  have o:ek (jj d (1-d.dE)) (1-d.dE)=d2.x1:=by rw[<-l,hat];rfl
  rw[o] at hlen A;refine⟨0,hN,?_⟩;cbv
  repeat' first|(refine qA ?_;cbv)|(intro p;cbv)
  refine v 1000033 _ _ _ hlen rfl λa e i n' h j m k=>?_;have j:(a,e)=fW (fk d2.x1).1:=j;rw[A] at j;obtain⟨rfl,rfl⟩:a=L/\e=0:=⟨aB Prod.fst j,aB Prod.snd j⟩;refine⟨λ_=>?_,λhe=>absurd rfl he,λhe=>absurd rfl he⟩;cbv
  repeat' first|(refine qA ?_;cbv)|(intro p;cbv)
  refine w 0 bl {d2 with gn:=a.gen,b:=a.base,tx:=a.text,fs:=a.first,tb:=a.table,wh:=a.whole,gd:=a.eF} 1000033 i n' (.ptr 1 (some bm) 3 0 0) _ _ x (by rw[m];exact y) ⟨.ptr _ _ _ _ _,rfl⟩ rfl rfl rfl λq hq=>?_
  have r:q=a.base+(a.e8.length:Int):=by rw[hq,m]
  cbv
  repeat' first|(refine qA ?_;cbv)|(intro p;cbv)
  refine D _ _ {d2 with dE:=P.sub 1 d.dE,gn:=a.gen,b:=a.base,tx:=a.text,fs:=a.first,tb:=a.table,wh:=a.whole,gd:=a.eF,sf:=q,gH:=true} i n' h m k (by rw[l,r,m2];rfl)
   (c6.trans (c6.pR _ 999 133 3) (c6.CD [(0,0,fx bl (fw {d2 with dE:=P.sub 1 d.dE,gn:=a.gen,b:=a.base,tx:=a.text,fs:=a.first,tb:=a.table,wh:=a.whole,gd:=a.eF,sf:=q,gH:=true} (.own 1000001 i 3 n') .nil)),(1000001,1000033,iw i h),(1,999,jk bm none)] (by show([0,1000033,999]:List Nat).Nodup;decide) ⟨⟨_,rfl,rfl,rfl⟩,⟨_,rfl,rfl,rfl⟩,⟨_,rfl,rfl,rfl⟩,trivial⟩)) rfl ⟨rfl,rfl,rfl,trivial⟩
def jl(d:SC)(l:List eP):Option Mv->RR
 |none=>tT d l
 |some m=>if m.c<0 then sB d l m.f m.w (hM (d.gn+1) m.f (iy d l m.f).1 (gg d.fs d.b (l.take (m.f-d.b).toNat))).1
  else if m.w=false then pT d l m.f m.c (λr=>(gQ r).1) (gq 3 []).1
  else AF d (fW (fk (ek (jj d (1-d.dE)) (1-d.dE))).1).1
structure KB(d:SC)(l:List eP):Prop where
 dE:d.dE=0\/d.dE=1
 b:0<=d.b/\d.b<=2147483647
 gn:0<=d.gn/\d.gn<=4294967295
 len:l.length<=64
 rv:lO l
 who:∀r∈l,0<=r.who/\r.who<=7
 dl:∀r∈l,r.delta.length<=1000000000
structure CL(d:SC)(l:List eP)(m:Option Mv):Prop extends KB d l where
 mv:∀f c w,m=some ⟨f,c,w⟩->(d.b<=f/\f<=d.b+(l.length:Int))/\c<=4294967295/\(0<=c->w=true->(ek (jj d (1-d.dE)) (1-d.dE)).length<=1048576/\(fW (fk (ek (jj d (1-d.dE)) (1-d.dE))).1).2=0/\
  (0<=(fW (fk (ek (jj d (1-d.dE)) (1-d.dE))).1).1.base/\(fW (fk (ek (jj d (1-d.dE)) (1-d.dE))).1).1.base<=2147483647)/\(fW (fk (ek (jj d (1-d.dE)) (1-d.dE))).1).1.e8.length<=64)
theorem Gi(d:SC)(l:List eP)(j:Int)(hd:d.tx.length<=maxLen):(iy d l j).1.length<=maxLen:=by
 have hm:(500:Nat)<=maxLen:=by decide
 unfold iy
 split
 ·exact aP _
 ·unfold kQ
  split
  ·exact aP _
  ·rename_i h;have h2:=xa (az h)
   split
   ·exact aP _
   ·rw[h2.2.2.2.1];simp only;have h3:∀(l:List eP)(now:BS),now.length<=500->(mj now l).2=0->∀i,((now::(mj now l).1).getD i []).length<=500:=by
     intro l
     induction l with
     |nil=>intro now hn _ i;cases i with|zero=>exact hn|succ i=>simp[mj]
     |cons r l ih=>
      intro now hn hg i;cases i with
      |zero=>exact hn
      |succ i=>
       obtain⟨_,a,c3,c4⟩:=vG hg;rw[c4,List.getD_cons_succ];refine ih _ ?_ c3 i;obtain⟨k1,_,b,_⟩:=xB a;have:=fP k1;have:=Kr k1;omega
    exact aV (h3 l d.tx h2.1 h2.2.2.1 _) hm
theorem KC(bl:Nat)(d:SC)(ba:Option Nat)(l:List eP)(bm:Nat)(m:Option Mv)(a:CL d l m)(q:d.tx.length<=maxLen):Spec Tryz.prog 51 [.ptr 0 (some bl) 47 0 0] (cp (S3 bl d ba l.length (l.map ca) bm m))
  λx h'=>∃o,(∃e k d' l' m',(∃v,x=.bool v/\⟨d',l',m',v⟩=jl d l m)/\o=S3 bl d' e l'.length (l'.map ca) k m')/\h'=cp o:=by
 have hb:=a.b;have hb2:0<=d.b/\d.b<=4294967295:=⟨hb.1,qW⟩;have n:l.length<=1000:=aV a.len qD;refine fu iD KA (L:=S3 bl d ba l.length (l.map ca) bm m) (λx o=>∃e k d' l' m',(∃v,x=.bool v/\⟨d',l',m',v⟩=jl d l m)/\o=S3 bl d' e l'.length (l'.map ca) k m') λR p=>?_;obtain _|⟨f,c,w⟩:=m
 ·exact Gd dn rfl _ _ JE bl d ba l l.length (l.map ca) bm a.dE R λs s' d' v hd he hr ha=>p s s' (.bool v) _ he (eM _ _ _ (λx hx=>by rw[hx];rfl) hr) ha (.bool _) tS ⟨ba,bm,d',l,none,⟨v,rfl,hd⟩,rfl⟩
 ·obtain⟨hf,t,hw⟩:=a.mv f c w rfl
  by_cases hc:c<0
  ·have i:jl d l (some ⟨f,c,w⟩)=sB d l f w (hM (d.gn+1) f (iy d l f).1 (gg d.fs d.b (l.take (f-d.b).toNat))).1:=by
    show(if c<0 then _ else _)=_;rw[ae hc]
   exact Ge dn rfl _ _ JE xq Cy T8 bl d ba l a.rv l.length rfl (l.map ca) rfl bm f c w hc a.dE hb2 n a.who hf a.gn (hM (d.gn+1) f (iy d l f).1 (gg d.fs d.b (l.take (f-d.b).toNat))).1 (hM (d.gn+1) f (iy d l f).1 (gg d.fs d.b (l.take (f-d.b).toNat))).2 (by have:=xt (d.gn+1) f (iy d l f).1 (gg d.fs d.b (l.take (f-d.b).toNat));omega)
    (λx tb g hx kH hg=>by subst hx kH hg;exact oh (Ak (d.gn+1) f _ (Gi d l f q) _) (λ_=>.cons (.same _) (.cons (.same _) (.cons (.same _) (.cons (.same _) .nil)))) rfl) R
    λs s' d' hd he hr ha=>p s s' (.bool true) _ he (eM _ _ _ (λx hx=>by rw[hx];rfl) hr) ha (.bool _) tS ⟨ba,bm,d',l,some ⟨f,0,w⟩,⟨true,rfl,by rw[i];exact hd⟩,rfl⟩
  ·cases w with
   |false=>
    have i:jl d l (some ⟨f,c,false⟩)=pT d l f c (λr=>(gQ r).1) (gq 3 []).1:=by
     show(if c<0 then _ else _)=_;rw[aa hc,ae rfl]
    exact Gg dn rfl _ _ xq Ct bl d ba l l.length rfl (l.map ca) rfl bm f c ⟨qW,t⟩ a.dE hb2 n hf (λr=>(gQ r).1) (λr=>(gQ r).2) (λr=>by have:=sm r;omega) (gq 3 []).1 (by have:=qC 3 [];omega)
     (λr hr=>oh (Am r (a.rv.2 r hr).2.2) (λh=>.cons (by
      obtain⟨a1,a2⟩:=sk (h:=h) (m:=[]) (l:=[qI r.who,qI r.seq,.sl false 3 (r.delta.map bd)]) (l':=uw r) (.cons (.same _) (.cons (.same _) (.cons (.mY _ _) .nil)));exact .agg _ _ a1 a2) .nil) rfl) (im Ao rfl rfl) R
     λs s' d' m' hd he hr ha=>p s s' (.bool true) _ he (eM _ _ _ (λx hx=>by rw[hx];rfl) hr) ha (.bool _) tS ⟨ba,bm,d',l,some m',⟨true,rfl,by rw[i];exact hd⟩,rfl⟩
   |true=>
    obtain⟨w1,w2,A,B⟩:=hw qW rfl;obtain⟨L,u⟩:∃L,(fW (fk (ek (jj d (1-d.dE)) (1-d.dE))).1).1=L:=⟨_,rfl⟩;have i:jl d l (some ⟨f,c,true⟩)=AF d L:=by
     show(if c<0 then _ else _)=_;rw[aa hc,aa (by simp),u]
    rw[u] at A B;exact Gh dn rfl _ _ Ee Kz rC bl d ba l.length (l.map ca) bm f c qW a.dE w1 L (Prod.ext u w2) ⟨A.1,qW⟩ qW Ct R
     λs s' d' e n' y z j hd he hr ha=>by
      subst z j;exact p s s' (.bool true) _ he (eM _ _ _ (λx hx=>by rw[hx];rfl) hr) ha (.bool _) tS ⟨e,bm,d',L.e8,none,⟨true,rfl,by rw[i];exact hd⟩,rfl⟩
end Go.Proofs.YtobngncjflogcaaGreat.AM
