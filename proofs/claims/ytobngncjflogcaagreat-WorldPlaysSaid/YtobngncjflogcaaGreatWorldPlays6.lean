/-
  Part 6 of what the law WorldPlays reaches: the plain machine, contracts of the functions and plain laws; each lemma says its own condition.
-/
import Derived.Test.YtobngncjflogcaaGreatWorldPlays5
import Derived.Test.YtobngncjflogcaaGreatWorldPlays4
set_option linter.unusedVariables false
set_option linter.unusedSimpArgs false
namespace Go.Proofs.YtobngncjflogcaaGreat.AM
open Go
set_option maxRecDepth 100000
set_option maxHeartbeats 2000000
def lx(m:Mk):List BS->List Bool->Mk
 |p::ps,k::ks=>lx (if k then(m.gm p).fF 1 else(m.gm p).gZ 1) ps ks
 |p::_,[]=>m.gm p
 |[],_=>m
theorem vm(m:Mk)(b:UInt8)(l:List BS)(ks:List Bool)(h:l≠[]):lx m (gx b l) ks=lx (m.gm [b]) l ks:=by
 cases l with
 |nil=>exact absurd rfl h
 |cons p r=>cases ks<;>simp[gx,lx,Mk.gm]
theorem zr(m:Mk)(ts:List fP):lx m (e9 ts) (dE ts)=m.run ts:=by
 induction ts generalizing m with
 |nil=>simp[e9,dE,lx,Mk.run,Mk.gm]
 |cons t ts ih=>
  have hs:m.run (t::ts)=(m.tok t).run ts:=rfl;rw[hs,<-ih];cases t
  ·simp[e9,dE,lx,Mk.tok,Mk.gm]
  ·simp only[e9,dE,Mk.tok];exact vm _ _ _ _ (lh ts)
  ·simp[e9,dE,lx,Mk.tok,Mk.gm]
def ds(l:List BS):List (List V):=l.map λs=>[.str s]
def fp(l:List Bool):List (List V):=l.map λb=>[.bool b]
theorem vn(ts:List fP)(x:fP)(hx:x=.keep\/x=.cut)(n:Nat):e9 (ts++List.replicate n x)=e9 ts++List.replicate n []:=by
 induction n generalizing ts with
 |zero=>simp
 |succ n ih=>rw[aB,show ts++x::List.replicate n x=(ts++[x])++List.replicate n x by simp,ih,wy _ _ hx];simp[aB]
theorem jK(ts:List fP)(x:fP)(hx:x=.keep\/x=.cut)(n:Nat):dE (ts++List.replicate n x)=dE ts++List.replicate n (decide (x=.keep)):=by
 rw[ph]
 congr 1
 induction n with
 |zero=>rfl
 |succ n ih=>rcases hx with rfl|rfl<;>simp[aB,dE,ih]
theorem oQ(ts:List fP):(dE ts).length<=ts.length:=by
 induction ts with
 |nil=>simp[dE]
 |cons t ts ih=>cases t<;>simp[dE]<;>omega
theorem EA(p:Part)(h:0<=p.n/\p.n<=500/\p.text.length<=500):(gK p).length<=500:=by
 unfold gK
 split
 ·simp;omega
 ·split<;>simp<;>omega
theorem zs(l:List Part)(h:∀p∈l,0<=p.n/\p.n<=500/\p.text.length<=500):(cm l).length<=500*l.length:=by
 induction l with
 |nil=>simp[cm]
 |cons p l ih=>
  have h1:=EA p (h p (by simp));have h2:=ih λq hq=>h q (by simp[hq]);simp only[cm,an,ar];omega
theorem Mf(ts:List fP):∀s∈e9 ts,s.length<=ts.length:=by
 induction ts with
 |nil=>simp[e9]
 |cons t ts ih=>
  intro s hs;cases t
  ·simp only[e9,ax] at hs
   rcases hs with rfl|hs
   ·simp
   ·have:=ih s hs;simp;omega
  ·simp only[e9] at hs;obtain⟨p,r,h⟩:=nS ts;rw[h] at hs ih;simp only[gx,ax] at hs
   rcases hs with rfl|hs
   ·have:=ih p (by simp);simp;omega
   ·have:=ih s (by simp[hs]);simp;omega
  ·simp only[e9,ax] at hs
   rcases hs with rfl|hs
   ·simp
   ·have:=ih s hs;simp;omega
theorem EB(ts:List fP)(t:BS):∃q,(e9 ts)[(dE ts).length]? =some q/\q.length<=ts.length/\e9 (ts++t.map .put)=(e9 ts).set (dE ts).length (q++t):=by
 have hl:=kR ts;rw[xP];obtain⟨init,q,h⟩:∃init q,e9 ts=init++[q]:=⟨(e9 ts).dropLast,(e9 ts).getLast (lh ts),(dP (lh ts)).symm⟩;have hi:(dE ts).length=init.length:=by rw[h] at hl;simp at hl;omega
 refine⟨q,by rw[h,hi];simp,Mf ts q (by rw[h];simp),?_⟩;rw[h,hi];simp[mS]
def G5:AC:=qr [qo 2 (.alloc 139 PI)] (qr [qo 6 (.bslice 9 1 [(.c qe)]),qo 7 (.build PI [(0,1,(.t 6))]),qo 3 (.alloc 139 PI),qs 2 3 7] (qq (qr [qm 8 0,qo 9 (.len false (.t 8)),qz 10 0] (.block 0 (.loop (qr [qb 11 .lss 10 9] (qq (qu 11 .skip (.exit 0)) (qq (.block 1 (qr [qo 12 (.iaddr 3 (.t 8) (.t 10)),qd 13 3 12,qo 5 (.alloc 115 wj),qs 3 5 13] (qq (qr [qf 14 0 5,ql 15 14,qc 16 .eql 15 2] (qu 16 (qq (.region true [qf 17 0 3,ql 18 17,qf 19 0 3,ql 20 19,qo 21 (.len false (.t 20)),qc 22 .sub 21 1,qo 23 (.iaddr 1 (.t 18) (.t 22)),ql 24 23,qf 25 2 5,ql 26 25,qb 27 .add 24 26,qo 28 (.iaddr 1 (.t 18) (.t 22)),qs 1 28 27]) (.exit 1)) .skip)) (qr [qf 29 1 5,ql 30 29,qz 31 0] (.block 2 (.loop (qr [qb 32 .lss 31 30] (qq (qu 32 .skip (.exit 2)) (qq (.block 3 (qr [qf 33 1 3,ql 34 33,qf 35 0 5,ql 36 35,qc 37 .eql 36 1,qo 38 (.bslice 4 1 [.t 37]),qo 39 (.append 4 1 1 (.t 34) (.t 38)),qf 40 1 3,qs 1 40 39] (qR [qf 41 0 3,ql 42 41,qo 43 (.bslice 9 1 [(.c qe)]),qo 44 (.append 9 1 16 (.t 42) (.t 43)),qf 45 0 3,qs 1 45 44]))) (qR [qc 46 .add 31 1,qm 31 46])))))))))) (qR [qc 47 .add 10 1,qm 10 47]))))))) (qr [qd 48 2 3,qs 2 2 48] .ret)))
theorem P4:fo Tryz.prog 83 Tryz.f83 G5 [.cn 2 2] 1 eV:=⟨Tryz.func83,by decide+kernel,by kernel_rfl,by kernel_rfl,by decide+kernel⟩
structure XC(d:List Part) where
 k:Int
 pre:List Part
 rest:List Part
 pr:List (List V)
 kr:List (List V)
 np:Nat
 nk:Nat
 bp:Option Nat
 bk:Option Nat
 hd:d=pre++rest
 hk:k=pre.length
 Ba:pr=ds (e9 (cm pre))
 vo:kr=fp (dE (cm pre))
 FU:np=pr.length
 FV:nk=kr.length
structure Vu(ts:List fP)(x:fP)(n:Int) where
 r:Int
 pr:List (List V)
 kr:List (List V)
 np:Nat
 nk:Nat
 bp:Option Nat
 bk:Option Nat
 h0:0<=r/\r<=n
 Ba:pr=ds (e9 (ts++List.replicate r.toNat x))
 vo:kr=fp (dE (ts++List.replicate r.toNat x))
 FU:np=pr.length
 FV:nk=kr.length
theorem a7.mT{s:S}{k k' ty sz r c:Nat}{o:Ob}{row:List V}(hk:s.h k=some o)(hr:o.rows[r]? =some row)(hc:row[c]? =some .nilsl)(d:s.h k'=none):
  a7 s ⟨s.t,Hp.put (Hp.put s.h k ⟨o.b,o.ty,o.sz,o.rows.set r (row.set c (.own k' none sz 0))⟩) k' ⟨none,ty,sz,[]⟩⟩:=by
 intro C n a w f hs;obtain⟨F,h1,h2⟩:=hs.ex;obtain⟨F',hF,e⟩:=jj.mT hk hr hc d C F w f h1;exact⟨⟨F',e,λi=>(h2 i).mono hF (λ_ h=>.inr h)⟩,hs.df,hs.sz⟩
theorem P5(P:Prim)(hP:P=ca)(T X:cp)(d:List Part)(H:d.length<=1600)(I:∀p∈d,0<=p.n/\p.n<=500/\p.text.length<=500)(rows:List (List V))(dS:rows=d.map a6)
  (pr kr:List (List V))(Ba:pr=ds (e9 (cm d)))(vo:kr=fp (dE (cm d)))(R:S->Prop)
  (a:∀(s s':S)(np nk:Nat)(bp bk:Option Nat)(l m:List (List V)),a7 s s'->hX [.cn 2 2] [.agg [.own 1000006 bp 1 np,.own 1000039 bk 1 nk]] s'->s'.h 1000006=some ⟨bp,9,1,l⟩->s'.h 1000039=some ⟨bk,4,1,m⟩->
   l=pr/\m=kr/\np=pr.length/\nk=kr.length->R s):fX P T X G5 (S0 [.sl true 3 rows] Hp.emp) R (λ_ _=>False) R:=by
 cbv;intro o;cbv;intro Y;cbv;intro u;cbv;have hl:P.da rows=d.length:=by subst hP;simp[ca,dS]
 refine⟨XC d,λy=>[(0,.sl true 3 rows),(2,.ptr 2 (some o) 2 0 0),(3,.ptr 3 (some u) 2 0 0),(8,.sl true 3 rows),(9,qI (P.da rows)),(10,qI y.k)],
  λy=>[(2,⟨some o,139,2,[[.nilsl,.nilsl]]⟩),(3,⟨some u,139,2,[[.own 1000006 y.bp 1 y.np,.own 1000039 y.bk 1 y.nk]]⟩),(1000006,⟨y.bp,9,1,y.pr⟩),(1000039,⟨y.bk,4,1,y.kr⟩)],λy=>y.rest.length,
  ⟨_,a7.mT (k:=3) (k':=1000039) (ty:=4) (sz:=1) (r:=0) (c:=1) rfl rfl rfl rfl,⟨0,[],d,_,_,_,_,_,_,?_,?_,?_,?_,?_,?_⟩,⟨rfl,rfl,rfl,rfl,rfl,rfl,trivial⟩,⟨rfl,rfl,rfl,rfl,trivial⟩⟩,?_⟩
 ·rfl
 ·rfl
 ·rfl
 ·rfl
 ·rfl
 ·rfl
 rintro⟨k,pre,rest,z,J,np,nk,bp,bk,hd,hk,b,e,FU,FV⟩;cbv;have Z:P.da rows=pre.length+rest.length:=by subst hP;simp[ca,dS,hd]
 have Y2:pre.length+rest.length<=1600:=by rw[hd] at H;simpa using H
 have XD:=zs pre λp hp=>I p (by simp[hd,hp]);have Y3:(dE (cm pre)).length<=(cm pre).length:=oQ _;have f:np=(dE (cm pre)).length+1:=by rw[FU,b,ds,aI,kR]
 have w:nk=(dE (cm pre)).length:=by rw[FV,e,fp,aI]
 refine ab (λh=>?_) (λh=>?_)
 ·rcases rest with _|⟨⟨kd,n,t⟩,rest⟩
  ·(exfalso;clear a;subst hP;simp[ca,nc] at*;first|omega|grind)
  have hb:=I ⟨kd,n,t⟩ (by simp[hd]);simp only at hb;have x:=m7 dS hd hk P hP;cbv;refine⟨by subst hP;simp[ca,hk],_,x,?_⟩;clear x;cbv;intro K;cbv;refine ab (λh=>?_) (λh=>?_)
  ·
   have v:kd=2:=by clear a;subst hP;simpa[ca] using h
   obtain⟨q,hq,G6,L⟩:=EB (cm pre) t;have A:P.row z (P.nat (P.sub (P.int np) 1)) [.str q]:=by
    clear a;subst hP;rw[b,f];simp only[ca];rw[show(((dE (cm pre)).length+1:Nat):Int)-1=((dE (cm pre)).length:Int) by omega,aM];simp[ds,hq]
   have B:P.i64 (P.sub (P.int np) 1):=by clear a;subst hP;simp only[ca,iU];omega
   have C:P.fQ 0 (P.sub (P.int np) 1):=by clear a;subst hP;simp only[ca];omega
   have D:P.iw (P.sub (P.int np) 1) (P.int np):=by clear a;subst hP;simp only[ca];omega
   have E:P.i64 (P.add (P.eP q) (P.eP t)):=by clear a;subst hP;simp only[ca,iU];omega
   have g:P.i64 (P.add k 1):=by clear a;subst hP;simp only[ca,iU];rw[hk];simp only[nc];omega
   cbv
   repeat'(first|(intro β;cbv)|(refine And.intro (by assumption) ?_;cbv)|(refine ab (λh=>?_) (λh=>?_)<;>try cbv)|(refine Exists.intro _ (And.intro (by assumption) ?_);cbv)|(refine hc1 _ _ ?_;cbv)|(refine M _ _ ?_;cbv)|(refine N _ _ ?_;cbv)|(refine O _ _ ?_;cbv)|(refine Q _ _ ?_;cbv)|(refine U _ _ ?_;cbv)|(refine And.intro (by(clear a;subst hP;simp[ca,iU,nc] at* <;>first|omega|grind)) ?_;cbv))
   all_goals
    refine⟨_,a7.refl _,⟨_,pre++[⟨kd,n,t⟩],rest,_,_,_,_,_,_,?_,?_,?_,?_,?_,?_⟩,⟨rfl,rfl,rfl,rfl,rfl,rfl,trivial⟩,⟨rfl,rfl,rfl,rfl,trivial⟩,by simp⟩
   all_goals(clear a A B C D E g;subst hP)
   ·simp[hd]
   ·simp[ca,hk]
   ·rw[iO,show cm [⟨kd,n,t⟩]=t.map .put by simp[cm,gK,v],L,b,f];simp only[ca];rw[show(((dE (cm pre)).length+1:Nat):Int)-1=((dE (cm pre)).length:Int) by omega,aM];simp[ds,List.map_set]
   ·rw[iO,show cm [⟨kd,n,t⟩]=t.map .put by simp[cm,gK,v],ph,pj,aJ,e]
   ·simp[ca,FU]
   ·exact FV
  ·
   have v:kd≠2:=by clear a;subst hP;simpa[ca] using h
   have hx:(if kd=1 then fP.keep else fP.cut)=.keep\/(if kd=1 then fP.keep else fP.cut)=.cut:=by split<;>simp
   have W:gK ⟨kd,n,t⟩=List.replicate n.toNat (if kd=1 then fP.keep else fP.cut):=by simp only[gK,aa v];split<;>rfl
   cbv;refine⟨Vu (cm pre) (if kd=1 then fP.keep else fP.cut) n,λy=>[(0,.sl true 3 rows),(2,.ptr 2 (some o) 2 0 0),(3,.ptr 3 (some u) 2 0 0),(5,.ptr 5 (some K) 3 0 0),(8,.sl true 3 rows),(9,qI (P.da rows)),(10,qI k),(30,qI n),(31,qI y.r)],
    λy=>[(2,⟨some o,139,2,[[.nilsl,.nilsl]]⟩),(3,⟨some u,139,2,[[.own 1000006 y.bp 1 y.np,.own 1000039 y.bk 1 y.nk]]⟩),(5,⟨some K,115,3,[[qI kd,qI n,.str t]]⟩),(1000006,⟨y.bp,9,1,y.pr⟩),(1000039,⟨y.bk,4,1,y.kr⟩)],λy=>(n-y.r).toNat,
    ⟨_,a7.refl _,⟨0,z,J,np,nk,bp,bk,⟨bf _,hb.1⟩,by simpa using b,by simpa using e,FU,FV⟩,⟨rfl,rfl,rfl,rfl,rfl,rfl,rfl,rfl,rfl,trivial⟩,⟨rfl,rfl,rfl,rfl,rfl,trivial⟩⟩,?_⟩
   clear f w;rintro⟨r,l,m,np,nk,bp,bk,h0,i,j,FU,FV⟩;have w:nk=(dE (cm pre)).length+r.toNat:=by rw[FV,j,fp,aI,jK _ _ hx];simp
   have f:np=(dE (cm pre)).length+r.toNat+1:=by rw[FU,i,ds,aI,kR,jK _ _ hx];simp
   cbv;refine ab (λh=>?_) (λh=>?_)
   ·have F:r<n:=by clear a;subst hP;simpa[ca] using h
    have B:P.bytes (P.add (P.int nk) (P.da [[.bool (P.eq kd 1)]])) 1:=by clear a;subst hP;simp[ca];omega
    have C:P.bytes (P.add (P.int np) (P.da [[.str []]])) 16:=by clear a;subst hP;simp[ca];omega
    have D:P.oc m nk:=by clear a;subst hP;simp[ca,FV]
    have E:P.oc l np:=by clear a;subst hP;simp[ca,FU]
    have g:P.i64 (P.add r 1):=by clear a;subst hP;simp only[ca,iU];omega
    cbv
    repeat'(first|(intro β;cbv)|(refine And.intro (by assumption) ?_;cbv)|(refine ab (λh=>?_) (λh=>?_)<;>try cbv)|(refine Exists.intro _ (And.intro (by assumption) ?_);cbv)|(refine hc1 _ _ ?_;cbv)|(refine M _ _ ?_;cbv)|(refine N _ _ ?_;cbv)|(refine O _ _ ?_;cbv)|(refine Q _ _ ?_;cbv)|(refine U _ _ ?_;cbv)|(refine And.intro (by(clear a;subst hP;simp[ca,iU,nc] at* <;>first|omega|grind)) ?_;cbv))
    all_goals
     refine⟨_,a7.refl _,⟨_,_,_,_,_,_,_,?_,?_,?_,?_,?_⟩,⟨rfl,rfl,rfl,rfl,rfl,rfl,rfl,rfl,rfl,trivial⟩,⟨rfl,rfl,rfl,rfl,rfl,trivial⟩,?_⟩
    all_goals(clear a B C D E g;subst hP)
    ·simp only[ca];omega
    ·simp only[ca];rw[show(r+1).toNat=r.toNat+1 by omega,vn _ _ hx,i,vn _ _ hx];simp[ds,cA]
    ·simp only[ca];rw[show(r+1).toNat=r.toNat+1 by omega,jK _ _ hx,j,jK _ _ hx];simp only[fp,cA,bW,aP]
     congr 2
     by_cases h1:kd=1<;>simp[h1]
    ·simp[ca,FU]
    ·simp[ca,FV]
    ·simp only[ca];omega
   ·have F:r=n:=by clear a;subst hP;simp[ca] at h;omega
    have g:P.i64 (P.add k 1):=by clear a;subst hP;simp only[ca,iU];rw[hk];simp only[nc];omega
    cbv
    repeat'(first|(intro β;cbv)|(refine And.intro (by assumption) ?_;cbv)|(refine ab (λh=>?_) (λh=>?_)<;>try cbv)|(refine Exists.intro _ (And.intro (by assumption) ?_);cbv)|(refine hc1 _ _ ?_;cbv)|(refine M _ _ ?_;cbv)|(refine N _ _ ?_;cbv)|(refine O _ _ ?_;cbv)|(refine Q _ _ ?_;cbv)|(refine U _ _ ?_;cbv)|(refine And.intro (by(clear a;subst hP;simp[ca,iU,nc] at* <;>first|omega|grind)) ?_;cbv))
    all_goals
     refine⟨_,a7.refl _,⟨_,pre++[⟨kd,n,t⟩],rest,_,_,_,_,_,_,?_,?_,?_,?_,?_,?_⟩,⟨rfl,rfl,rfl,rfl,rfl,rfl,trivial⟩,⟨rfl,rfl,rfl,rfl,trivial⟩,by simp⟩
    all_goals(clear a g;subst hP)
    ·simp[hd]
    ·simp[ca,hk]
    ·rw[i,iO,show cm [⟨kd,n,t⟩]=gK ⟨kd,n,t⟩ by simp[cm],W,F]
    ·rw[j,iO,show cm [⟨kd,n,t⟩]=gK ⟨kd,n,t⟩ by simp[cm],W,F]
    ·exact FU
    ·exact FV
 ·have G:rest=[]:=by
   cases rest with
   |nil=>rfl
   |cons p rest=>(exfalso;clear a;subst hP;simp[ca,nc] at*;first|omega|grind)
  subst G;rw[aJ] at hd;subst hd;cbv;exact a _ _ np nk bp bk z J (a7.refl _) ⟨rfl,rfl,Nat.zero_lt_one,ag _,rfl⟩ rfl rfl ⟨b.trans Ba.symm,e.trans vo.symm,by rw[FU,b,Ba],by rw[FV,e,vo]⟩
theorem jl(l:List BS):∀r∈ds l,∀v∈r,Fz v:=by
 intro r hr v hv;obtain⟨s,_,rfl⟩:=aC.1 hr;simp only[aw] at hv;subst hv;exact .str _
theorem zt(l:List Bool):∀r∈fp l,∀v∈r,Fz v:=by
 intro r hr v hv;obtain⟨s,_,rfl⟩:=aC.1 hr;simp only[aw] at hv;subst hv;exact .bool _
theorem vp(l:List BS):∀r∈ds l,r.length=1:=by
 intro r hr;obtain⟨s,_,rfl⟩:=aC.1 hr;rfl
theorem zu(l:List Bool):∀r∈fp l,r.length=1:=by
 intro r hr;obtain⟨s,_,rfl⟩:=aC.1 hr;rfl
def og(ps:List BS)(ks:List Bool):V:=.agg [.sl false 1 (ds ps),.sl false 1 (fp ks)]
theorem m8(d:List Part)(a:d.length<=1600)(b:∀p∈d,0<=p.n/\p.n<=500/\p.text.length<=500):Spec Tryz.prog 83 [.sl true 3 (d.map a6)] Hp.emp (Is (og (e9 (cm d)) (dE (cm d)))):=
 hH gY P4 λR c=>P5 ca rfl _ _ d a b _ rfl _ _ rfl rfl R λs s' np nk bp bk e f he hr h1 h2 h3=>c s s' he (by
  obtain⟨rfl,rfl,rfl,rfl⟩:=h3;refine eS _ _ _ (λx hx=>?_) hr;subst hx;exact .ga (.rows h1 rfl rfl rfl (vp _) (jl _)) (.ga (.rows h2 rfl rfl rfl (zu _) (zt _)) .ry))
structure Mk.Bd(m:Mk)(j w:Nat):Prop where
 len:m.out.length<=3*j
 cut:0<=m.cut/\m.cut<=j
 ns:∀p∈m.out,0<=p.n/\p.n<=j
 put:m.put.length<=w
theorem Mk.vq:Mk.new.Bd 0 0:=⟨by simp[Mk.new],by simp[Mk.new],by simp[Mk.new],by simp[Mk.new]⟩
theorem Mk.Bd.gm{m:Mk}{j w:Nat}(h:m.Bd j w)(s:BS):(m.gm s).Bd j (w+s.length):=⟨h.len,h.cut,h.ns,by have:=h.put;simp[Mk.gm];omega⟩
theorem Mk.Bd.gZ{m:Mk}{j w:Nat}(h:m.Bd j w)(n:Int)(hn:0<=n):(m.gZ n).Bd (j+n.toNat) w:=
 ⟨by have:=h.len;simp only[Mk.gZ];omega,by have:=h.cut;simp only[Mk.gZ];omega,λp hp=>by have:=h.ns p hp;omega,h.put⟩
theorem Mk.Bd.flush{m:Mk}{j w:Nat}(h:m.Bd j w):m.flush.length<=3*j+2/\∀p∈m.flush,0<=p.n/\p.n<=j:=by
 have h1:=h.len;have h2:=h.cut;refine⟨?_,λp hp=>?_⟩
 ·unfold Mk.flush
  split<;>split<;>simp<;>omega
 ·unfold Mk.flush at hp;rw[aU,aU] at hp
  rcases hp with(hp|hp)|hp
  ·exact h.ns p hp
  ·split at hp
   ·cases hp
   ·simp at hp;subst hp;simp
  ·split at hp
   ·simp at hp;subst hp;exact h2
   ·cases hp
theorem Mk.Bd.fF{m:Mk}{j w:Nat}(h:m.Bd j w)(n:Int)(hn:0<=n):(m.fF n).Bd (j+n.toNat) w:=by
 unfold Mk.fF
 by_cases h0:n=0
 ·subst h0;simpa using h
 rw[aa h0];obtain⟨h1,h2⟩:=h.flush;refine⟨?_,by simp;omega,λp hp=>?_,by simp⟩
 ·simp only[iP]
  split
  ·split
   ·simp;omega
   ·simp;omega
  ·simp;omega
 ·simp only[iP] at hp
  split at hp
  ·rename_i q hq
   split at hp
   ·rcases aU.1 hp with hp|hp
    ·have:=h2 p ((List.dropLast_sublist _).mem hp);omega
    ·simp at hp;subst hp;have:=h2 q (List.mem_of_getLast? hq);simp only;omega
   ·rcases aU.1 hp with hp|hp
    ·have:=h2 p hp;omega
    ·simp at hp;subst hp;simp only;omega
  ·simp at hp;subst hp;simp only;omega
theorem Mk.Bd.mono{m:Mk}{j w a w':Nat}(h:m.Bd j w)(hj:j<=a)(hw:w<=w'):m.Bd a w':=
 ⟨by have:=h.len;omega,by have:=h.cut;omega,λp hp=>by have:=h.ns p hp;omega,by have:=h.put;omega⟩
def rz(b0 b1 b2:Nat)(ba:Option Nat)(n:Nat)(put:BS)(cut:Int)(rows:List (List V)):List (Nat×Ob):=
 [(0,⟨some b0,9,1,[[.str put]]⟩),(1,⟨some b1,30,1,[[.own 1000000 ba 3 n]]⟩),(2,⟨some b2,3,1,[[.int .i64 cut]]⟩),(1000000,⟨ba,115,3,rows⟩)]
def G7:AC:=.seq (qr [ql 3 0,qo 4 (.bin .neq (.t 3) (.c qe))] (qu 4 (qR [ql 5 1,ql 6 0,qo 7 (.build wj [(0,1,qk 2),(2,1,(.t 6))]),qo 8 (.bslice 115 3 [.t 7]),qo 9 (.append 115 3 32 (.t 5) (.t 8)),qs 1 1 9]) .skip)) (qq (qr [ql 10 2,qc 11 .gtr 10 0] (qu 11 (qR [ql 12 1,ql 13 2,qo 14 (.build wj [(0,1,qk 3),(1,1,(.t 13))]),qo 15 (.bslice 115 3 [.t 14]),qo 16 (.append 115 3 32 (.t 12) (.t 15)),qs 1 1 16]) .skip)) (qR [⟨none,none,.store 1 (.t 0) (.c qe)⟩,⟨none,none,.store 1 (.t 2) (qk 0)⟩]))
theorem P6:fo Tryz.prog 149 Tryz.f149 G7 [] 3 eV:=⟨Tryz.func149,by decide+kernel,by kernel_rfl,by kernel_rfl,by decide+kernel⟩
theorem P7(P:Prim)(hP:P=ca)(T e:cp)(b0 b1 b2:Nat)(ba:Option Nat)(n:Nat)(put:BS)(cut:Int)(rows:List (List V))(m:Mk)(hn:n=m.out.length)(dS:rows=m.out.map a6)(a:put=m.put)(b:cut=m.cut)(uj:m.out.length<=10000000)
  (R:S->Prop)(c:∀(s s':S)(d:Option Nat)(n2:Nat)(gB:List (List V)),a7 s s'->fh (rz b0 b1 b2 d n2 [] 0 gB) s'->n2=m.flush.length/\gB=m.flush.map a6->R s):
  fX P T e G7 (S0 [.ptr 0 (some b0) 1 0 0,.ptr 1 (some b1) 1 0 0,.ptr 2 (some b2) 1 0 0] (b7 (rz b0 b1 b2 ba n put cut rows))) R (λ_ _=>False) R:=by
 cbv
 repeat'(first|(intro β;cbv)|(refine And.intro (by assumption) ?_;cbv)|(refine ab (λh=>?_) (λh=>?_)<;>try cbv)|(refine Exists.intro _ (And.intro (by assumption) ?_);cbv)|(refine hc1 _ _ ?_;cbv)|(refine f _ _ ?_;cbv)|(refine g _ _ ?_;cbv)|(refine i _ _ ?_;cbv)|(refine j _ _ ?_;cbv)|(refine k _ _ ?_;cbv)|(refine And.intro (by(clear c;subst hP;simp[ca,iU,nc] at* <;>first|omega|grind)) ?_;cbv))
 all_goals
  refine c _ _ _ _ _ (a7.refl _) ⟨rfl,rfl,rfl,rfl,trivial⟩ ?_;clear c;subst hP;subst hn dS a b;simp[ca,nc,Mk.flush] at*
  try simp[*]
  try exact⟨rfl,rfl⟩
  try rfl
theorem CK{b0 b1 b2:Nat}{ba:Option Nat}{n:Nat}{put:BS}{cut:Int}{d:List Part}:∀p∈rz b0 b1 b2 ba n put cut (d.map a6),p.2.Fz:=by
 intro p hp;simp only[rz,ax,aF,bj] at hp
 rcases hp with rfl|rfl|rfl|rfl
 ·intro r hr v hv;simp at hr;subst hr;simp at hv;subst hv;exact .str _
 ·intro r hr v hv;simp at hr;subst hr;simp at hv;subst hv;exact .own _ _ _ _
 ·intro r hr v hv;simp at hr;subst hr;simp at hv;subst hv;exact .int _ _
 ·exact ff d
theorem P8(b0 b1 b2:Nat)(ba:Option Nat)(m:Mk)(uj:m.out.length<=10000000):
  Spec Tryz.prog 149 [.ptr 0 (some b0) 1 0 0,.ptr 1 (some b1) 1 0 0,.ptr 2 (some b2) 1 0 0] (b7 (rz b0 b1 b2 ba m.out.length m.put m.cut (m.out.map a6)))
   (λv h'=>∃b,(v=.tup []/\∃a,b=rz b0 b1 b2 a m.flush.length [] 0 (m.flush.map a6))/\h'=b7 b):=
 fe gY P6 (λv b=>v=.tup []/\∃a,b=rz b0 b1 b2 a m.flush.length [] 0 (m.flush.map a6)) λR c=>P7 ca rfl _ _ b0 b1 b2 ba _ _ _ _ m rfl rfl rfl rfl uj R λs s' a n2 gB he ha h2=>by
  obtain⟨rfl,rfl⟩:=h2;exact c s s' (.tup []) _ he rfl ha (.tup _ (by simp)) CK ⟨rfl,a,rfl⟩
def CL(T:cp):Prop:=∀(b3 b c:Nat)(ba:Option Nat)(n:Nat)(put:BS)(cut:Int)(rows:List (List V))(m:Mk)(h:Hp)(K:V->Hp->Prop),n=m.out.length/\rows=m.out.map a6/\put=m.put/\cut=m.cut->m.out.length<=10000000->
 h 4=some ⟨some b,9,1,[[.str put]]⟩->h 3=some ⟨some b3,30,1,[[.own 1000057 ba 3 n]]⟩->h 5=some ⟨some c,3,1,[[qI cut]]⟩->h 1000057=some ⟨ba,115,3,rows⟩->
 (∀(a:Option Nat)(n':Nat)(rows':List (List V)),n'=m.flush.length/\rows'=m.flush.map a6->K (.tup []) (Hp.put (Hp.put (Hp.put (Hp.put h 4 ⟨some b,9,1,[[.str []]]⟩) 3 ⟨some b3,30,1,[[.own 1000057 a 3 n']]⟩) 5 ⟨some c,3,1,[[qI 0]]⟩) 1000057 ⟨a,115,3,rows'⟩))->
 T 149 [.ptr 4 (some b) 1 0 0,.ptr 3 (some b3) 1 0 0,.ptr 5 (some c) 1 0 0] h K
theorem Mg:CL (fa Tryz.prog):=by
 rintro b3 b c ba n put cut rows m h K ⟨rfl,rfl,rfl,rfl⟩ uj h4 h3 h5 ha hK;refine oe (P8 b b3 c ba m uj) (m:=[(0,4),(1,3),(2,5),(1000000,1000057)]) (.cons (.same _) (.cons (.same _) (.cons (.same _) .nil))) (λj o hj=>?_) (λq hq=>?_) ?_
 ·simp only[rz,b7] at hj
  split at hj
  ·rename_i h0;exact⟨(0,4),by simp,h0.symm⟩
  split at hj
  ·rename_i h0;exact⟨(1,3),by simp,h0.symm⟩
  split at hj
  ·rename_i h0;exact⟨(2,5),by simp,h0.symm⟩
  split at hj
  ·rename_i h0;exact⟨(1000000,1000057),by simp,h0.symm⟩
  ·cases hj
 ·simp only[ax,aF,bj] at hq
  rcases hq with rfl|rfl|rfl|rfl
  all_goals refine⟨by simp[gI],by simp[gT],λo ho=>⟨?_,CK (b0:=b) (b1:=b3) (b2:=c) (ba:=ba) (n:=m.out.length) (put:=m.put) (cut:=m.cut) (d:=m.out) (_,o) (jk ho)⟩⟩
  all_goals simp[rz,b7] at ho;subst ho
  ·rw[h4];rfl
  ·rw[h3];rfl
  ·rw[h5];rfl
  ·rw[ha];simp only[aN,Ob.gA,pn]
 ·rintro v f ⟨rfl,a,rfl⟩;have e:h.iX [(0,4),(1,3),(2,5),(1000000,1000057)] (b7 (rz b b3 c a m.flush.length [] 0 (m.flush.map a6)))=Hp.put (Hp.put (Hp.put (Hp.put h 4 ⟨some b,9,1,[[.str []]]⟩) 3 ⟨some b3,30,1,[[.own 1000057 a 3 m.flush.length]]⟩) 5 ⟨some c,3,1,[[qI 0]]⟩) 1000057 ⟨a,115,3,m.flush.map a6⟩:=by
   funext i
   by_cases h1:i=1000057
   ·subst h1;simp[Hp.iX,Hp.put,gT,rz,b7];simp only[Ob.gA,pn]
   by_cases h2:i=5
   ·subst h2;simp[Hp.iX,Hp.put,gT,rz,b7,Ob.gA,V.rl]
   by_cases h3:i=3
   ·subst h3;simp[Hp.iX,Hp.put,gT,rz,b7,Ob.gA,V.rl,gI]
   by_cases h4:i=4
   ·subst h4;simp[Hp.iX,Hp.put,gT,rz,b7,Ob.gA,V.rl]
   have g1:¬1000057=i:=λe=>h1 e.symm;have g2:¬5=i:=λe=>h2 e.symm;have g3:¬3=i:=λe=>h3 e.symm;have g4:¬4=i:=λe=>h4 e.symm;simp[Hp.iX,Hp.put,h1,h2,h3,h4,g1,g2,g3,g4]
  rw[e];exact hK a _ _ ⟨rfl,rfl⟩
structure XE(ps:List BS)(ks:List Bool) where
 k:Int
 m:Mk
 n:Nat
 put:BS
 cut:Int
 rows:List (List V)
 ba:Option Nat
 tZ:List BS
 pV:List BS
 vr:List Bool
 j6:List Bool
 h1:ps=tZ++pV
 h2:ks=vr++j6
 hl:tZ.length=vr.length
 hk:k=tZ.length
 hm:n=m.out.length/\rows=m.out.map a6/\put=m.put/\cut=m.cut
 jR:lx Mk.new ps ks=lx m pV j6
 uj:m.Bd tZ.length tZ.flatten.length
def OS:AC:=qr [qo 1 (.box 139 2 (.t 0)),qo 2 (.mov (.c (.slice none 0 0)))] (qr [qo 3 (.alloc 30 [(.slice none 0 0)])] (qr [qo 4 (.alloc 9 [qe]),qo 5 (.alloc 3 [q0]),⟨none,none,.store 1 (.t 4) (.c qe)⟩,⟨none,none,.store 1 (.t 5) (qk 0)⟩] (qr [qo 10 (.mkfn 149 [.t 4,.t 3,.t 5]),qm 6 10] (qq (qr [qf 11 1 1,ql 12 11,qo 13 (.len false (.t 12)),qz 14 0] (.block 0 (.loop (qr [qb 15 .lss 14 13] (qq (qu 15 .skip (.exit 0)) (qq (.block 1 (qr [qm 16 14,qo 17 (.iaddr 1 (.t 12) (.t 14)),ql 18 17,qm 7 16,qm 8 18] (qq (.region true [ql 19 4,qf 20 0 1,ql 21 20,qm 22 7,qo 23 (.iaddr 1 (.t 21) (.t 22)),ql 24 23,qb 25 .add 19 24,qs 1 4 25]) (qq (qr [qm 26 8,qo 27 (.not (.t 26))] (qu 27 (qr [ql 28 5,qc 29 .add 28 1,qs 1 5 29] (.exit 1)) .skip)) (qr [qm 30 6,qo 31 (.callv (.t 30) [])] (qr [ql 32 3,qo 33 (.len false (.t 32)),qm 9 33] (qr [qm 34 9,qc 35 .gtr 34 0,qm 36 35,qg 37 36 true (.load1 (.t 3)),qg 38 36 true (.mov (.t 9)),qg 39 36 true (.bin .sub (.t 38) (qk 1)),qg 40 36 true (.iaddr 3 (.t 37) (.t 39)),qg 41 36 true (.faddr 0 (.t 40)),qg 42 36 true (.load1 (.t 41)),qg 43 36 true (.bin .eql (.t 42) (qk 1)),qo 44 (.pick (.t 36) (.t 43) (.c (.bool false)))] (qu 44 (qR [ql 45 3,qm 46 9,qc 47 .sub 46 1,qo 48 (.iaddr 3 (.t 45) (.t 47)),qf 49 1 48,ql 50 49,qc 51 .add 50 1,qo 52 (.iaddr 3 (.t 45) (.t 47)),qf 53 1 52,qs 1 53 51]) (qR [ql 54 3,qo 55 (.build wj [(0,1,qk 1),(1,1,qk 1)]),qo 56 (.bslice 115 3 [.t 55]),qo 57 (.append 115 3 32 (.t 54) (.t 56)),qs 1 3 57]))))))))) (qR [qc 58 .add 14 1,qm 14 58]))))))) (qq (.region true [ql 59 4,qf 60 0 1,ql 61 60,qf 62 1 1,ql 63 62,qo 64 (.len false (.t 63)),qo 65 (.iaddr 1 (.t 61) (.t 64)),ql 66 65,qb 67 .add 59 66,qs 1 4 67]) (qr [qm 68 6,qo 69 (.callv (.t 68) [])] (qr [ql 70 3,qm 2 70] .ret)))))))
theorem SL:fo Tryz.prog 132 Tryz.f132 OS [.t 2] 1 eV:=⟨Tryz.func132,by decide+kernel,by kernel_rfl,by kernel_rfl,by decide+kernel⟩
theorem SM(P:Prim)(hP:P=ca)(T T1:cp)(ps:List BS)(ks:List Bool)(hlen:ps.length=ks.length+1)(hb1:ks.length<=1000000)(hb2:ps.flatten.length<=1000000000)(pr kr:List (List V))(Ba:pr=ds ps)(vo:kr=fp ks)(a:CL T)
  (R:S->Prop)(d:∀(s s':S)(u:Option Nat)(n2:Nat)(gB:List (List V)),a7 s s'->hX [.t 2] [.own 1000057 u 3 n2] s'->s'.h 1000057=some ⟨u,115,3,gB⟩->n2=(lx Mk.new ps ks).flush.length/\gB=(lx Mk.new ps ks).flush.map a6->R s):
  fX P T T1 OS (S0 [.agg [.sl true 1 pr,.sl true 1 kr]] Hp.emp) R (λ_ _=>False) R:=by
 have x:P.da kr=ks.length:=by subst hP;simp[ca,vo,fp]
 cbv;intro E;cbv;intro z;cbv;intro A;cbv;intro B;cbv;refine⟨XE ps ks,λy=>[(1,.ptr 1 (some E) 2 0 0),(3,.ptr 3 (some z) 1 0 0),(4,.ptr 4 (some A) 1 0 0),(5,.ptr 5 (some B) 1 0 0),(6,.fn 149 [.ptr 4 (some A) 1 0 0,.ptr 3 (some z) 1 0 0,.ptr 5 (some B) 1 0 0]),(12,.sl true 1 kr),(13,qI (P.da kr)),(14,qI y.k)],
  λy=>[(1,⟨some E,139,2,[[.sl true 1 pr,.sl true 1 kr]]⟩),(4,⟨some A,9,1,[[.str y.put]]⟩),(3,⟨some z,30,1,[[.own 1000057 y.ba 3 y.n]]⟩),(5,⟨some B,3,1,[[qI y.cut]]⟩),(1000057,⟨y.ba,115,3,y.rows⟩)],λy=>y.j6.length,
  ⟨_,a7.mT (k:=3) (k':=1000057) (ty:=115) (sz:=3) (r:=0) (c:=0) rfl rfl rfl rfl,⟨0,Mk.new,_,_,_,_,_,[],ps,[],ks,rfl,rfl,rfl,rfl,⟨rfl,rfl,rfl,rfl⟩,rfl,Mk.vq⟩,⟨rfl,rfl,rfl,rfl,rfl,rfl,rfl,rfl,trivial⟩,⟨rfl,rfl,rfl,rfl,rfl,trivial⟩⟩,?_⟩
 rintro⟨k,m,n,put,cut,rows,ba,tZ,pV,vr,j6,h1,h2,hl,hk,hm,jR,uj⟩;have yJ:pV.length=j6.length+1:=by rw[h1,h2] at hlen;simp at hlen;omega
 have hpl:tZ.length+j6.length<=1000000:=by rw[h2] at hb1;simp at hb1;omega
 rcases pV with _|⟨p,pV⟩
 ·simp at yJ
 have UK:tZ.flatten.length+p.length<=1000000000:=by rw[h1] at hb2;simp at hb2⊢;omega
 have F:P.da kr=vr.length+j6.length:=by rw[x,h2];simp
 have b:P.row pr (P.nat k) [.str p]:=by subst hP;simp[ca,Ba,hk,ds,h1]
 have i:=(uj.gm p);have Q:=uj.put;obtain⟨zw,q7,v,w⟩:=hm;have l:P.i64 (P.add (P.eP put) (P.eP p)):=by clear d a;subst hP;simp only[ca,iU,v];omega
 have j:P.fQ 0 k:=by clear d a;subst hP;simp only[ca];omega
 have q:P.i64 (P.add k 1):=by clear d a;subst hP;simp only[ca,iU];omega
 cbv;refine ab (λh=>?_) (λh=>?_)
 ·rcases j6 with _|⟨U,j6⟩
  ·clear a;(exfalso;clear d;subst hP;simp[ca,nc] at*;first|omega|grind)
  have f:P.row kr (P.nat k) [.bool U]:=by subst hP;simp[ca,vo,hk,fp,h2,hl]
  cbv;refine⟨j,_,f,?_⟩;cbv;refine⟨j,_,b,?_⟩;cbv;refine⟨l,?_⟩;cases U
  ·
   have o:=i.gZ 1 qW;have Y4:=uj.cut;have W:P.i64 (P.add cut 1):=by clear d a;subst hP;simp only[ca,iU,w];omega
   cbv
   repeat'(first|(intro β;cbv)|(refine And.intro (by assumption) ?_;cbv)|(refine ab (λh=>?_) (λh=>?_)<;>try cbv)|(refine Exists.intro _ (And.intro (by assumption) ?_);cbv)|(refine hc1 _ _ ?_;cbv)|(refine G _ _ ?_;cbv)|(refine H _ _ ?_;cbv)|(refine I _ _ ?_;cbv)|(refine J _ _ ?_;cbv)|(refine K _ _ ?_;cbv)|(refine And.intro (by(clear d;subst hP;simp[ca,iU,nc] at* <;>first|omega|grind)) ?_;cbv))
   all_goals
    refine⟨_,a7.refl _,⟨_,(m.gm p).gZ 1,_,_,_,_,_,tZ++[p],pV,vr++[false],j6,by simp[h1],by simp[h2],by simp[hl],?_,?_,?_,?_⟩,⟨rfl,rfl,rfl,rfl,rfl,rfl,rfl,rfl,trivial⟩,⟨rfl,rfl,rfl,rfl,rfl,trivial⟩,by simp⟩
   all_goals(clear d a l j q W b f;subst hP)
   ·simp[ca,hk]
   ·exact⟨zw,q7,by simp[ca,Mk.gZ,Mk.gm,v],by simp[ca,Mk.gZ,Mk.gm,w]⟩
   ·rw[jR];simp[lx]
   ·simpa using o
  ·
   have o:=i.fF 1 qW;obtain⟨XF,X⟩:=i.flush;have C:=i.len;cbv;refine a _ _ _ _ _ _ _ _ (m.gm p) _ _ ⟨zw,q7,?_,w⟩ qW rfl rfl rfl rfl λu n' rows' g=>?_
   ·clear d a l j q b f;subst hP;simp[ca,Mk.gm,v]
   obtain⟨g,e⟩:=g;cbv;have L:P.bytes (P.add (P.int n') (P.da [[qI 1,qI 1,.str []]])) 32:=by clear d a;subst hP;simp[ca];omega
   have M:P.oc rows' n':=by clear d a;subst hP;simp[ca,g,e]
   rcases dF (m.gm p).flush with hf|⟨pre,⟨qk,qn,qt⟩,hf⟩
   ·refine ab (λh=>?_) (λh=>?_)
    ·exfalso;clear d a;subst hP;rw[hf] at g;simp[ca,g] at h
    cbv
    repeat'(first|(intro β;cbv)|(refine And.intro (by assumption) ?_;cbv)|(refine ab (λh=>?_) (λh=>?_)<;>try cbv)|(refine Exists.intro _ (And.intro (by assumption) ?_);cbv)|(refine hc1 _ _ ?_;cbv)|(refine G _ _ ?_;cbv)|(refine H _ _ ?_;cbv)|(refine I _ _ ?_;cbv)|(refine J _ _ ?_;cbv)|(refine K _ _ ?_;cbv)|(refine And.intro (by(clear d;subst hP;simp[ca,iU,nc] at* <;>first|omega|grind)) ?_;cbv))
    all_goals
     refine⟨_,a7.refl _,⟨_,(m.gm p).fF 1,_,_,_,_,_,tZ++[p],pV,vr++[true],j6,by simp[h1],by simp[h2],by simp[hl],?_,?_,?_,?_⟩,⟨rfl,rfl,rfl,rfl,rfl,rfl,rfl,rfl,trivial⟩,⟨rfl,rfl,rfl,rfl,rfl,trivial⟩,by simp⟩
    all_goals(clear d a l j q b f L M;subst hP)
    ·simp[ca,hk]
    ·simp[ca,g,e,Mk.fF,hf,iP,a6]
    ·rw[jR];simp[lx]
    ·simpa using o
   ·rw[dG] at hf;have hq:=X ⟨qk,qn,qt⟩ (by rw[hf];simp);have P9:qn<=(tZ.length:Int):=hq.2;have XG:0<=qn:=hq.1;have D:n'=pre.length+1:=by rw[g,hf];simp
    have N:P.row rows' (P.nat (P.sub (P.int n') 1)) [qI qk,qI qn,.str qt]:=by clear d a;subst hP;rw[e,D,hf];simp[ca,a6]
    have Y:P.i64 (P.sub (P.int n') 1):=by clear d a;subst hP;simp only[ca,iU];omega
    have Z:P.fQ 0 (P.sub (P.int n') 1):=by clear d a;subst hP;simp only[ca];omega
    have XH:P.iw (P.sub (P.int n') 1) (P.int n'):=by clear d a;subst hP;simp only[ca];omega
    have XI:P.i64 (P.add qn 1):=by clear d a;subst hP;simp only[ca,iU];omega
    refine ab (λh=>?_) (λh=>?_)
    rotate_left
    ·exfalso;clear d a;subst hP;simp[ca,D] at h
    cbv
    repeat'(first|(intro β;cbv)|(refine And.intro (by assumption) ?_;cbv)|(refine ab (λh=>?_) (λh=>?_)<;>try cbv)|(refine Exists.intro _ (And.intro (by assumption) ?_);cbv)|(refine hc1 _ _ ?_;cbv)|(refine G _ _ ?_;cbv)|(refine H _ _ ?_;cbv)|(refine I _ _ ?_;cbv)|(refine J _ _ ?_;cbv)|(refine K _ _ ?_;cbv)|(refine And.intro (by(clear d;subst hP;simp[ca,iU,nc] at* <;>first|omega|grind)) ?_;cbv))
    all_goals
     refine⟨_,a7.refl _,⟨_,(m.gm p).fF 1,_,_,_,_,_,tZ++[p],pV,vr++[true],j6,by simp[h1],by simp[h2],by simp[hl],?_,?_,?_,?_⟩,⟨rfl,rfl,rfl,rfl,rfl,rfl,rfl,rfl,trivial⟩,⟨rfl,rfl,rfl,rfl,rfl,trivial⟩,by simp⟩
    all_goals(clear d a l j q b f L M Y Z XH XI N;subst hP)
    any_goals(simp[ca,hk];done)
    any_goals(rw[jR];simp[lx];done)
    any_goals(simpa using o)
    all_goals(simp[ca] at*;simp[g,e,D,Mk.fF,hf,iP,a6, *])
 ·rcases j6 with _|⟨U,j6⟩
  rotate_left
  ·clear a;(exfalso;clear d;subst hP;simp[ca,nc] at*;first|omega|grind)
  have XJ:pV=[]:=by simpa using yJ
  subst XJ;have O:lx Mk.new ps ks=m.gm p:=by rw[jR];rfl
  have hk2:k=P.da kr:=by rw[F,hk,hl];simp
  subst hk2;have C:=i.len;cbv;refine⟨j,_,b,?_⟩;cbv;refine⟨l,?_⟩;refine a _ _ _ _ _ _ _ _ (m.gm p) _ _ ⟨zw,q7,?_,w⟩ qW rfl rfl rfl rfl λu n' rows' g=>?_
  ·clear d a l j q b;subst hP;simp[ca,Mk.gm,v]
  cbv;exact d _ _ _ _ _ (a7.refl _) rfl rfl (by rw[O];exact g)
def UP(ps:List BS)(ks:List Bool):List Part:=(lx Mk.new ps ks).flush
theorem OT(ps:List BS)(ks:List Bool)(hlen:ps.length=ks.length+1)(hb1:ks.length<=1000000)(hb2:ps.flatten.length<=1000000000):Spec Tryz.prog 132 [.agg [.sl true 1 (ds ps),.sl true 1 (fp ks)]] Hp.emp (Is (fc (UP ps ks))):=
 hH gY SL λR a=>SM ca rfl _ _ ps ks hlen hb1 hb2 _ _ rfl rfl Mg R λs s' b n2 gB he hr h1 h2=>a s s' he (by
  obtain⟨rfl,rfl⟩:=h2;refine eS _ _ _ (λx hx=>?_) hr;subst hx;exact .rows h1 rfl rfl (by simp) (λr hr=>by obtain⟨p,_,rfl⟩:=aC.1 hr;rfl) (ff _))
def lk(pre:List Part):Int:=match pre.getLast? with
 |some p=>p.kind
 |none=>0
theorem G8(pre:List Part)(p:Part):lk (pre++[p])=p.kind:=by simp[lk]
theorem zx(pre:List Part)(p:Part)(rest:List Part)(h:¬(pre≠[]/\(lk pre=p.kind\/lk pre=3/\p.kind=2)))(hf:mi p=0):oI (lk pre) (p::rest)=oI (lk (pre++[p])) rest:=by
 rw[G8,oI]
 by_cases hp:pre=[]
 ·subst hp;have:lk []=0:=rfl;rw[this];unfold mi at hf
  grind [mi]
 ·grind
def xb:AC:=qr [qz 2 0] (qq (qr [qm 6 0,qo 7 (.len false (.t 6)),qc 8 .gtr 7 1600] (qu 8 (qr [qz 2 2] .ret) .skip)) (qq (qr [qm 9 0,qo 10 (.len false (.t 9)),qz 11 0] (.block 0 (.loop (qr [qb 12 .lss 11 10] (qq (qu 12 .skip (.exit 0)) (qq (.block 1 (qr [qm 13 11,qo 14 (.iaddr 3 (.t 9) (.t 11)),qd 15 3 14,qo 4 (.alloc 115 wj),qm 3 13,qs 3 4 15] (qq (qq (.region true [qm 16 3,qc 17 .gtr 16 0,qm 18 17,qg 19 18 true (.mov (.t 0)),qg 20 18 true (.mov (.t 3)),qg 21 18 true (.bin .sub (.t 20) (qk 1)),qg 22 18 true (.iaddr 3 (.t 19) (.t 21)),qg 23 18 true (.faddr 0 (.t 22)),qg 24 18 true (.load1 (.t 23)),qg 25 18 true (.faddr 0 (.t 4)),qg 26 18 true (.load1 (.t 25)),qg 27 18 true (.bin .eql (.t 24) (.t 26)),qg 28 18 true (.mov (.t 27)),qg 29 28 false (.mov (.t 0)),qg 30 28 false (.mov (.t 3)),qg 31 28 false (.bin .sub (.t 30) (qk 1)),qg 32 28 false (.iaddr 3 (.t 29) (.t 31)),qg 33 28 false (.faddr 0 (.t 32)),qg 34 28 false (.load1 (.t 33)),qg 35 28 false (.bin .eql (.t 34) (qk 3)),qg 36 28 false (.mov (.t 35)),qg 37 36 true (.faddr 0 (.t 4)),qg 38 36 true (.load1 (.t 37)),qg 39 36 true (.bin .eql (.t 38) (qk 2)),qg 40 28 false (.pick (.t 36) (.t 39) (.c (.bool false))),qg 41 18 true (.pick (.t 28) (.c (.bool true)) (.t 40)),qo 42 (.pick (.t 18) (.t 41) (.c (.bool false)))]) (qu 42 (qr [qz 2 3] .ret) .skip)) (qr [qd 43 3 4,qa 44 129 [.t 43],qm 5 44] (qr [qm 45 5,qc 46 .neq 45 0] (qu 46 (qr [qm 47 5,qm 2 47] .ret) .skip)))))) (qR [qc 48 .add 11 1,qm 11 48]))))))) (qq (qr [qm 49 0,qa 50 90 [.t 49],qc 51 .gtr 50 500,qm 52 51,qg 53 52 false (.mov (.t 0)),qg 54 52 false (.call 130 [.t 53]),qg 55 52 false (.bin .gtr (.t 54) (qk 500)),qo 56 (.pick (.t 52) (.c (.bool true)) (.t 55))] (qu 56 (qr [qz 2 2] .ret) .skip)) (qr [qz 2 0] .ret))))
theorem EC:fo Tryz.prog 89 Tryz.f89 xb [.t 2] 1 eV:=⟨Tryz.func89,by decide+kernel,by kernel_rfl,by kernel_rfl,by decide+kernel⟩
theorem ED(P:Prim)(hP:P=ca)(T D:cp)(d:List Part)(E:d.length<=maxLen)(rows:List (List V))(dS:rows=d.map a6)(r:Int)(hr:cF d=r)
  (z:Int->Int->BS->Int)(j:∀k n t,z k n t=mi ⟨k,n,t⟩)(hc1:∀{k n t},fZ T 129 [.agg [qI k,qI n,.str t]] (qI (z k n t)))
  (a b:Int)(ha:a=jy d)(hb:b=gX d)(c:d.length<=1600->oI 0 d=0->fZ T 90 [.sl true 3 rows] (qI a))(e:d.length<=1600->oI 0 d=0->fZ T 130 [.sl true 3 rows] (qI b))
  (R:S->Prop)(g:∀s s',a7 s s'->hX [.t 2] [qI r] s'->R s):fX P T D xb (S0 [.sl true 3 rows] Hp.emp) R (λ_ _=>False) R:=by
 cbv;have hl:P.da rows=d.length:=by subst hP;simp[ca,dS]
 refine ab (λh=>?_) (λh=>?_)
 ·cbv;refine g _ _ (a7.refl _) ?_;cbv;clear g hc1 c e;subst hP;subst hr;simp[ca,nc] at*;grind [cF]
 cbv;have m:d.length<=1600:=by clear g hc1 c e;subst hP;simp[ca,nc] at*;omega
 refine⟨{y:Int×List Part×List Part//d=y.2.1++y.2.2/\y.1=y.2.1.length/\oI 0 d=oI (lk y.2.1) y.2.2},λy=>[(0,.sl true 3 rows),(9,.sl true 3 rows),(10,qI (P.da rows)),(11,qI y.1.1)],λ_=>[],λy=>y.1.2.2.length,
  ⟨_,a7.refl _,⟨(0,[],d),rfl,rfl,rfl⟩,?_,?_⟩,?_⟩
 ·cbv
 ·cbv
 rintro⟨⟨k,pre,rest⟩,hd,hk,hc⟩
 dsimp only at hd hk hc
 cbv;have u:P.da rows=pre.length+rest.length:=by subst hP;simp[ca,dS,hd]
 refine ab (λh=>?_) (λh=>?_)
 ·rcases rest with _|⟨⟨kd,n,t⟩,rest⟩
  ·clear hc1 c e;(exfalso;clear g;subst hP;simp[ca,nc] at*;first|omega|grind)
  cbv;have i:=m7 dS hd hk P hP;have hpl:pre.length<=1600:=by rw[hd] at m;simp at m;omega
  refine⟨by clear hc1 c e;(clear g;subst hP;simp[ca,iU,nc] at* <;>first|omega|grind),_,i,?_⟩
  cbv;intro β;cbv;have hx:=j kd n t
  rcases dF pre with f|⟨A,⟨qk,qn,F⟩,f⟩
  ·refine ab (λh=>?_) (λh=>?_)
   ·exfalso;clear g hc1 c e;subst f;subst hP;simp[ca] at*;omega
   repeat'(first|(intro β;cbv)|(refine And.intro (by assumption) ?_;cbv)|(refine ab (λh=>?_) (λh=>?_)<;>try cbv)|(refine Exists.intro _ (And.intro (by assumption) ?_);cbv)|(refine hc1 _ _ ?_;cbv)|(refine c _ _ ?_;cbv)|(refine e _ _ ?_;cbv)|(refine o _ _ ?_;cbv)|(refine q _ _ ?_;cbv)|(refine v _ _ ?_;cbv)|(refine And.intro (by(clear g;subst hP;simp[ca,iU,nc] at* <;>first|omega|grind)) ?_;cbv))
   all_goals first
    |(refine g _ _ (a7.refl _) ?_
      cbv;clear g hc1 c e i j;subst hP;subst hr;subst f;simp[ca,nc,lk] at*;grind [cF,oI,mi])
    |(refine⟨_,a7.refl _,⟨(_,pre++[⟨kd,n,t⟩],rest),?_⟩,⟨rfl,rfl,rfl,rfl,trivial⟩,trivial,by simp⟩
      clear g i hc1 c e j;subst hP;refine⟨by simp[hd],by simp[ca,hk],?_⟩;rw[hc];exact zx _ _ _ (λh=>h.1 f) (by simp[ca] at*;omega))
  ·have l:P.row rows (P.nat (P.sub k 1)) (a6 ⟨qk,qn,F⟩):=by
    subst hP;simp[ca,dS,hd,hk,f]
   have x:lk pre=qk:=by rw[f,dG,G8]
   have G:0<pre.length:=by rw[f];simp
   have hk2:(k:Int)=(pre.length:Int):=hk;have B:(1:Int)<=k:=by rw[hk2];omega
   have C:k<=1600:=by rw[hk2];omega
   have H:P.i64 (P.sub k 1):=by clear g hc1 c e hl u hk hk2 h;subst hP;show iU (k-1);unfold iU;omega
   have I:P.fQ 0 (P.sub k 1):=by clear g hc1 c e hl u hk hk2 h;subst hP;show 0<=k-1;omega
   refine ab (λh=>?_) (λh=>?_)
   rotate_left
   ·exfalso;clear g hc1 c e;subst hP;simp[ca] at*;omega
   repeat'(first|(intro β;cbv)|(refine And.intro (by assumption) ?_;cbv)|(refine ab (λh=>?_) (λh=>?_)<;>try cbv)|(refine Exists.intro _ (And.intro (by assumption) ?_);cbv)|(refine hc1 _ _ ?_;cbv)|(refine c _ _ ?_;cbv)|(refine e _ _ ?_;cbv)|(refine o _ _ ?_;cbv)|(refine q _ _ ?_;cbv)|(refine v _ _ ?_;cbv)|(refine And.intro (by(clear g;subst hP;simp[ca,iU,nc] at* <;>first|omega|grind)) ?_;cbv))
   all_goals first
    |(refine g _ _ (a7.refl _) ?_
      cbv;clear g hc1 c e i l j;subst hP;subst hr;simp[ca,nc] at*;grind [cF,oI,mi])
    |(refine⟨_,a7.refl _,⟨(_,pre++[⟨kd,n,t⟩],rest),?_⟩,⟨rfl,rfl,rfl,rfl,trivial⟩,trivial,by simp⟩
      clear g i l hc1 c e j;subst hP;refine⟨by simp[hd],by simp[ca,hk],?_⟩;rw[hc];refine zx _ _ _ ?_ (by simp[ca] at*;omega);simp[ca,x] at*
      grind)
 ·have:rest=[]:=by
   cases rest with
   |nil=>rfl
   |cons p rest=>clear hc1 c e;(exfalso;clear g;subst hP;simp[ca,nc] at*;first|omega|grind)
  subst this;have w:oI 0 d=0:=hc;have o:=c m w;have q:=e m w;clear c e;cbv
  repeat'(first|(intro β;cbv)|(refine And.intro (by assumption) ?_;cbv)|(refine ab (λh=>?_) (λh=>?_)<;>try cbv)|(refine Exists.intro _ (And.intro (by assumption) ?_);cbv)|(refine hc1 _ _ ?_;cbv)|(refine c _ _ ?_;cbv)|(refine e _ _ ?_;cbv)|(refine o _ _ ?_;cbv)|(refine q _ _ ?_;cbv)|(refine v _ _ ?_;cbv)|(refine And.intro (by(clear g;subst hP;simp[ca,iU,nc] at* <;>first|omega|grind)) ?_;cbv))
  all_goals
   refine g _ _ (a7.refl _) ?_;cbv;clear g hc1 o q;subst hP;subst hr;simp[ca,nc] at*;grind [cF]
theorem gU(d:List Part)(a:d.length<=maxLen):Spec Tryz.prog 89 [.sl true 3 (d.map a6)] Hp.emp (Is (.int .i64 (cF d))):=
 eW gY EC [.int .i64 (cF d)] (.int _ _) λR b=>ED ca rfl _ _ d a _ rfl _ rfl (λk n t=>mi ⟨k,n,t⟩) (λ_ _ _=>rfl) (fU (GC ⟨_,_,_⟩) (λh=>.cons (.same _) .nil) rfl) _ _ rfl rfl
  (λh1 h2=>fU (lI d h1 (qv 0 d h2)) (λh=>.cons (.same _) .nil) rfl) (λh1 h2=>fU (rk d h1 (qv 0 d h2)) (λh=>.cons (.same _) .nil) rfl) R b
theorem iV{f:Nat}{d:List Part}{v:V}(h:Spec Tryz.prog f [.sl true 3 (d.map a6)] Hp.emp (Is v))(hv:v.gA (gI [])=v):fZ (fa Tryz.prog) f [fc d] v:=fU h (λ_=>.cons (.j8 _ _) .nil) hv
def EE(T:cp)(f:Nat)(args:List V)(pre:Mk->Prop)(g:Mk->Mk)(r:Nat->Option Nat->Nat->V):Prop:=
 ∀(k ka b:Nat)(ba:Option Nat)(n:Nat)(put:BS)(cut:Int)(rows:List (List V))(m:Mk)(h:Hp)(K:V->Hp->Prop),n=m.out.length/\rows=m.out.map a6/\put=m.put/\cut=m.cut->pre m->Nat.beq k ka=false->
  h k=some ⟨some b,182,3,[[.own ka ba 3 n,.str put,qI cut]]⟩->h ka=some ⟨ba,115,3,rows⟩->
  (∀(d:Option Nat)(n':Nat)(a:BS)(c:Int)(rows':List (List V)),n'=(g m).out.length/\rows'=(g m).out.map a6/\a=(g m).put/\c=(g m).cut->
   K (r ka d n') (Hp.put (Hp.put h k ⟨some b,182,3,[[.own ka d 3 n',.str a,qI c]]⟩) ka ⟨d,115,3,rows'⟩))->T f (.ptr k (some b) 3 0 0::args) h K
theorem xR{f:Nat}{args:List V}{pre:Mk->Prop}{g:Mk->Mk}{r0:Mk->Option Nat->V}{r:Nat->Option Nat->Nat->V}(hs:∀m,pre m->ml f args m (g m) (r0 m))(ha:args.all V.pl=true)(hr:∀m k ka ba,(r0 m ba).gA (gI [(0,k),(1000000,ka)])=r ka ba (g m).out.length):EE (fa Tryz.prog) f args pre g r:=by
 rintro k ka b ba n put cut rows m h K ⟨rfl,rfl,rfl,rfl⟩ hp hne hk c hK;have a:k≠ka:=by intro e;subst e;rw[b9] at hne;cases hne
 exact OR (hs m hp) ha a hk c λd=>by rw[hr];exact hK d _ _ _ _ ⟨rfl,rfl,rfl,rfl⟩
def rA:Nat->Option Nat->Nat->V:=λ_ _ _=>.tup []
def CM:Nat->Option Nat->Nat->V:=λka ba n=>.own ka ba 3 n
theorem OU(k:Int)(hk:0<=k/\k<=1000000):EE (fa Tryz.prog) 126 [.int .i64 k] (λm=>∃j w,m.Bd j w/\j<=2000000) (λm=>m.fF k) rA:=
 xR (λm⟨j,w,hb,hj⟩=>GX m k (by have:=hb.flush.1;omega) (λp hp=>by have:=hb.flush.2 p hp;unfold iU;omega) (by have:=hb.len;omega)) rfl (λ_ _ _ _=>rfl)
theorem SN(s:BS)(hs:s.length<=1000000000):EE (fa Tryz.prog) 125 [.str s] (λm=>m.put.length+s.length<=1000000000) (λm=>m.gm s) rA:=
 xR (λm h=>Ma m s qW) rfl (λ_ _ _ _=>rfl)
theorem SO(k:Int)(hk:0<=k/\k<=1000000):EE (fa Tryz.prog) 127 [.int .i64 k] (λm=>∃j w,m.Bd j w/\j<=2000000) (λm=>m.gZ k) rA:=
 xR (λm⟨j,w,hb,hj⟩=>Md m k (by have:=hb.cut;unfold iU;omega)) rfl (λ_ _ _ _=>rfl)
theorem OV:EE (fa Tryz.prog) 128 [] (λm=>m.out.length<=100000000) (λm=>⟨m.flush,[],0⟩) CM:=
 xR (r0:=λm a=>.own 1000000 a 3 m.flush.length) (λm h=>G0 m h) rfl (λm k ka ba=>by simp[V.gA,V.rl,gI,CM])
def tI(rv:List RV)(sz:Nat)(rows':List (List V))(a:List V)(R:S->Prop):Prop:=
 (∀(s s':S),a7 s s'->hX rv (.nilsl::a) s'->rows'=[]->R s)/\
 (∀(s s':S)(k:Nat)(b:Option Nat)(ty n:Nat)(rows:List (List V)),a7 s s'->hX rv (.own k b sz n::a) s'->s'.h k=some ⟨b,ty,sz,rows⟩->n=rows'.length/\rows=rows'->R s)/\
 (∀(s s':S)(rows:List (List V)),a7 s s'->hX rv (.sl false sz rows::a) s'->rows=rows'->R s)
theorem Qa{h:Hp}:∀{l:List V},(∀v∈l,Fz v)->Fr h (.tup l) (.tup l):=λhz=>.same _ (.tup _ hz)
theorem BL{h:Hp}{v v':V}{b:List V}(h1:Fr h v v')(hz:∀v∈b,Fz v):Fr h (nx (v::b)) (nx (v'::b)):=by
 cases b with
 |nil=>exact h1
 |cons a b=>exact .ir h1 (Qa hz)
theorem mu{rv:List RV}{sz:Nat}{rows':List (List V)}{c:List V}{R:S->Prop}(hsz:∀r∈rows',r.length=sz)(hz:∀r∈rows',∀v∈r,Fz v)(a:∀v∈c,Fz v)(d:∀s s',a7 s s'->zk rv (nx (.sl false sz rows'::c)) s'->R s):tI rv sz rows' c R:=by
 refine⟨?_,?_,?_⟩
 ·rintro s s' he hr rfl;exact d s s' he (eS _ _ _ (λx hx=>by subst hx;exact BL (.nilsl sz) a) hr)
 ·rintro s s' k b ty n rows he hr h1 ⟨rfl,rfl⟩;exact d s s' he (eS _ _ _ (λx hx=>by subst hx;exact BL (.rows h1 rfl rfl rfl hsz hz) a) hr)
 ·rintro s s' rows he hr rfl;exact d s s' he (eS _ _ _ (λx hx=>by subst hx;exact BL (.same _ (.sl _ _ hz)) a) hr)
theorem ly(d:List Part):∀r∈d.map a6,r.length=3:=by
 intro r hr;obtain⟨p,_,rfl⟩:=aC.1 hr;rfl
theorem xS(e:Int):∀v∈[V.int .i64 e],Fz v:=by intro v hv;simp at hv;subst hv;exact .int _ _
instance:DecidableEq Part:=λa b=>by
 cases a with
 |mk k n t=>cases b with
  |mk k' n' c=>exact decidable_of_iff (k=k'/\n=n'/\t=c) (by simp)
def G9:AC:=qr [qo 4 (.mov (.c (.bool false)))] (qq (qr [qm 6 0,qo 7 (.len false (.t 6)),qm 8 1,qo 9 (.len false (.t 8)),qb 10 .neq 7 9] (qu 10 (qr [qo 4 (.mov (.c (.bool false)))] .ret) .skip)) (qq (qr [qm 11 0,qo 12 (.len false (.t 11)),qz 13 0] (.block 0 (.loop (qr [qb 14 .lss 13 12] (qq (qu 14 .skip (.exit 0)) (qq (.block 1 (qr [qm 15 13,qm 5 15] (qq (.region true [qm 16 0,qm 17 5,qo 18 (.iaddr 3 (.t 16) (.t 17)),qd 19 3 18,qm 20 1,qm 21 5,qo 22 (.iaddr 3 (.t 20) (.t 21)),qd 23 3 22,qo 24 (.eqs true [1,1,2] (.t 19) (.t 23))]) (qu 24 (qr [qo 4 (.mov (.c (.bool false)))] .ret) .skip)))) (qR [qc 25 .add 13 1,qm 13 25]))))))) (qr [qo 4 (.mov (.c (.bool true)))] .ret)))
theorem Qb:fo Tryz.prog 107 Tryz.f107 G9 [.t 4] 2 eV:=⟨Tryz.func107,by decide+kernel,by kernel_rfl,by kernel_rfl,by decide+kernel⟩
theorem Qc(P:Prim)(hP:P=ca)(T m:cp)(a b:List Part)(o:a.length<=maxLen)(ra rb:List (List V))(sS:ra=a.map a6)(rB:rb=b.map a6)(r:Bool)(hr:decide (a=b)=r)
  (R:S->Prop)(f:∀s s',a7 s s'->hX [.t 4] [.bool r] s'->R s):fX P T m G9 (S0 [.sl true 3 ra,.sl true 3 rb] Hp.emp) R (λ_ _=>False) R:=by
 have h1:P.da ra=a.length:=by subst hP;simp[ca,sS]
 have h2:P.da rb=b.length:=by subst hP;simp[ca,rB]
 have hm:maxLen=9223372036854775807:=by decide
 cbv;refine ab (λh=>?_) (λh=>?_)
 ·cbv;refine f _ _ (a7.refl _) ?_;cbv;clear f;subst hP;have:a.length≠b.length:=by simp[ca,nc] at h h1 h2;omega
  have:r=false:=by rw[<-hr,eo];intro e;subst e;exact this rfl
  rw[this]
 have p:a.length=b.length:=by clear f;subst hP;simp[ca,nc] at h h1 h2;omega
 cbv;refine⟨{y:Int×List Part×List Part×List Part×List Part//a=y.2.1++y.2.2.1/\b=y.2.2.2.1++y.2.2.2.2/\y.1=y.2.1.length/\y.2.1=y.2.2.2.1},λy=>[(0,.sl true 3 ra),(1,.sl true 3 rb),(12,qI (P.da ra)),(13,qI y.1.1)],λ_=>[],λy=>y.1.2.2.1.length,
  ⟨_,a7.refl _,⟨(0,[],a,[],b),rfl,rfl,rfl,rfl⟩,⟨rfl,rfl,rfl,rfl,trivial⟩,trivial⟩,?_⟩
 rintro⟨⟨k,p1,r1,p2,r2⟩,ha,hb,hk,hp⟩
 dsimp only at ha hb hk hp
 subst hp;have g:a.length=p1.length+r1.length:=by rw[ha];simp
 have j:b.length=p1.length+r2.length:=by rw[hb];simp
 cbv;refine ab (λh=>?_) (λh=>?_)
 ·rcases r1 with _|⟨⟨kd,n,t⟩,r1⟩
  ·exfalso;clear f;subst hP;simp[ca,nc] at h h1 hk g;omega
  rcases r2 with _|⟨⟨l,n',q⟩,r2⟩
  ·exfalso;simp at j g;omega
  have d:=m7 sS ha hk P hP;have c:=m7 rB hb hk P hP;have ho:P.fQ 0 k:=by clear f;subst hP;simp[ca,nc] at*;omega
  have i:P.i64 (P.add k 1):=by clear f d c;subst hP;simp[ca,iU,nc] at*;omega
  cbv;refine⟨ho,_,d,?_⟩;cbv;refine⟨ho,_,c,?_⟩;cbv;refine ab (λh=>?_) (λh=>?_)
  ·cbv;refine⟨i,_,a7.refl _,⟨(_,p1++[⟨kd,n,t⟩],r1,p1++[⟨l,n',q⟩],r2),?_⟩,⟨rfl,rfl,rfl,rfl,trivial⟩,trivial,by simp⟩;clear f ho i d c;subst hP;simp[ca] at h;simp[ha,hb,hk,ca,h]
  ·cbv;refine f _ _ (a7.refl _) ?_;cbv;clear f ho i d c;subst hP;have:r=false:=by
    rw[<-hr,eo];intro e;rw[ha,hb] at e;simp at e;simp[ca,e] at h
   rw[this]
 ·cbv;refine f _ _ (a7.refl _) ?_;cbv;clear f;subst hP;have e1:r1=[]:=by simp[ca,nc] at h h1 hk;exact aq qW
  have e2:r2=[]:=by subst e1;exact aq (by simp at g;omega)
  subst e1 e2;have:r=true:=by rw[<-hr,bU,ha,hb]
  rw[this]
theorem Qd(a b:List Part)(c:a.length<=maxLen):Spec Tryz.prog 107 [.sl true 3 (a.map a6),.sl true 3 (b.map a6)] Hp.emp (Is (.bool (decide (a=b)))):=
 eW gY Qb [.bool (decide (a=b))] (.bool _) λR d=>Qc ca rfl _ _ a b c _ _ rfl rfl _ rfl R d
def CN:AC:=qr [qo 4 (.mov (.c (.bool false)))] (qr [qm 5 0,qm 6 1,qa 7 107 [.t 5,.t 6],qm 4 7] .ret)
theorem Mh:fo Tryz.prog 67 Tryz.f67 CN [.t 4] 2 eV:=⟨Tryz.func67,by decide+kernel,by kernel_rfl,by kernel_rfl,by decide+kernel⟩
theorem Mi(P:Prim)(hP:P=ca)(T a:cp)(ra rb:List (List V))(r:Bool)(hc1:fZ T 107 [.sl true 3 ra,.sl true 3 rb] (.bool r))
  (R:S->Prop)(b:∀s s',a7 s s'->hX [.t 4] [.bool r] s'->R s):fX P T a CN (S0 [.sl true 3 ra,.sl true 3 rb] Hp.emp) R (λ_ _=>False) R:=by
 cbv;refine hc1 _ _ ?_;cbv;exact b _ _ (a7.refl _) rfl
theorem Mj(a b:List Part)(c:a.length<=maxLen):Spec Tryz.prog 67 [.sl true 3 (a.map a6),.sl true 3 (b.map a6)] Hp.emp (Is (.bool (decide (a=b)))):=
 eW gY Mh [.bool (decide (a=b))] (.bool _) λR d=>Mi ca rfl _ _ _ _ _ (fU (Qd a b c) (λh=>.cons (.same _) (.cons (.same _) .nil)) rfl) R d
theorem jm{h:Hp}{k sz n ty:Nat}{b:Option Nat}{rs:List (List V)}(hn:n=rs.length)(hk:h k=some ⟨b,ty,sz,rs⟩):rowsOf h sz (.own k b sz n)=some rs:=by
 simp only[rowsOf,hk];rw[ae ⟨trivial,trivial,trivial,qW⟩,hn,cj]
theorem Ml{f sz ty:Nat}{rows:List (List V)}{v:V}(hs:Spec Tryz.prog f [.sl true sz rows] Hp.emp (Is v))(hv:v.gA (gI [])=v)(h:Hp)(K:V->Hp->Prop)(k:Nat)(b:Option Nat)(n:Nat)(rs:List (List V))(a:rs=rows)(hn:n=rs.length)(hk:h k=some ⟨b,ty,sz,rs⟩)(hK:K v h):fa Tryz.prog f [.own k b sz n] h K:=
 ⟨h,jj.refl h,kD hs (.cons (.own k b sz n rows (by rw[jm hn hk,a]) (by simp)) .nil) (by rw[hv];exact hK)⟩
theorem pq(ts:List fP):(e9 ts).flatten.length<=ts.length:=by
 induction ts with
 |nil=>simp[e9]
 |cons t ts ih=>
  cases t
  ·simp only[e9,bI,an,aK,ar];omega
  ·obtain⟨p,r,h⟩:=nS ts;simp only[e9,h,gx,bI,an,ar] at*;omega
  ·simp only[e9,bI,an,aK,ar];omega
theorem Qe(ts:List fP)(h:ts.length<=1000000):Spec Tryz.prog 132 [.agg [.sl true 1 (ds (e9 ts)),.sl true 1 (fp (dE ts))]] Hp.emp (Is (fc (nT ts))):=by
 have:=OT (e9 ts) (dE ts) (kR ts) (by have:=oQ ts;omega) (by have:=pq ts;omega);unfold UP at this;rw[zr] at this;exact this
theorem m9(h:Hp)(ps:List BS)(ks:List Bool):Arg h [] (og ps ks) (.agg [.sl true 1 (ds ps),.sl true 1 (fp ks)]):=
 .agg _ _ rfl λi v v' a b=>by
  match i with
  |0=>simp at a b;subst a b;exact .j8 _ _
  |1=>simp at a b;subst a b;exact .j8 _ _
  |i+2=>simp at a
theorem GM(ps:List BS)(ks:List Bool):(og ps ks).gA (gI [])=og ps ks:=rfl
theorem CO(l:List Part)(h1:l.length<=1600)(h2:∀p∈l,0<=p.n/\p.n<=500/\p.text.length<=500):(cm l).length<=1000000:=by have:=zs l h2;omega
theorem CP(ts:List fP)(h:ts.length<=1000000):(nT ts).length<=10000000:=by
 have:∀(ts:List fP){m:Mk}{j w:Nat},m.Bd j w->(m.run ts).Bd (j+ts.length) (w+ts.length):=by
  intro ts
  induction ts with
  |nil=>intro m j w h;exact h
  |cons t ts ih=>
   intro m j w h;have h1:(m.tok t).Bd (j+1) (w+1):=by
    cases t
    ·exact(h.fF 1 qW).mono (by simp) qW
    ·exact(h.gm [_]).mono qW (by simp)
    ·exact(h.gZ 1 qW).mono (by simp) qW
   exact(ih h1).mono (by simp;omega) (by simp;omega)
 have:=(this ts Mk.vq).flush.1;show(Mk.run Mk.new ts).flush.length<=_;omega
theorem SP{f:Nat}{d d2:List Part}{v:V}(h:Spec Tryz.prog f [.sl true 3 (d.map a6),.sl true 3 (d2.map a6)] Hp.emp (Is v))(hv:v.gA (gI [])=v):fZ (fa Tryz.prog) f [fc d,fc d2] v:=fU h (λ_=>.cons (.j8 _ _) (.cons (.j8 _ _) .nil)) hv
theorem eY{t:Bool}{A B:Prop}(ht:t=true)(h:A):br.match_1 (λ_=>Prop) t (λ_=>A) (λ_=>B):=by subst ht;exact h
theorem fv{t:Bool}{A B:Prop}(ht:t=false)(h:B):br.match_1 (λ_=>Prop) t (λ_=>A) (λ_=>B):=by subst ht;exact h
section
variable {P:Prim} (hP:P=ca)
include hP
theorem fA{a b:Int}(h:P.lt a b=true):a<b:=by subst hP;exact cB h
theorem fg{a b:Int}(h:P.lt a b=false):¬a<b:=by subst hP;exact dj h
theorem iG{a b:Int}(h:P.le a b=true):a<=b:=by subst hP;exact cB h
theorem iA{a b:Int}(h:P.le a b=false):¬a<=b:=by subst hP;exact dj h
theorem na{a b:Int}(h:P.eq a b=true):a=b:=by subst hP;exact cB h
theorem nd{a b:Int}(h:P.eq a b=false):¬a=b:=by subst hP;exact dj h
theorem fE{a b:Int}(h:P.ne a b=true):¬a=b:=by subst hP;exact cB h
theorem fD{a b:Int}(h:P.ne a b=false):a=b:=by subst hP;exact aG (dj h)
theorem SQ{a b:Int}(h:a<b):P.lt a b=true:=by subst hP;exact bV h
theorem nU{a b:Int}(h:¬a<b):P.lt a b=false:=by subst hP;exact dg h
theorem my{a b:Int}(h:a=b):P.eq a b=true:=by subst hP;exact bV h
theorem oR{a b:Int}(h:¬a=b):P.eq a b=false:=by subst hP;exact dg h
theorem EF{a b:Int}(h:¬a=b):P.ne a b=true:=by subst hP;exact bV h
theorem EG{a b:Int}(h:a=b):P.ne a b=false:=by subst hP;exact dg (λhh=>hh h)
theorem Ha{a b:BS}(h:a=b):P.seq a b=true:=by subst hP;exact bV h
theorem CQ(a b:Int):P.mn a b=min a b:=by subst hP;rfl
theorem OW(a b:Int):P.mx a b=max a b:=by subst hP;rfl
theorem gi(rows:List (List V)):P.da rows=(rows.length:Int):=by subst hP;rfl
theorem eF(s:BS):P.eP s=(s.length:Int):=by subst hP;rfl
theorem add_eq(a b:Int):P.add a b=a+b:=by subst hP;rfl
theorem sub_eq(a b:Int):P.sub a b=a-b:=by subst hP;rfl
theorem int_eq(n:Nat):P.int n=(n:Int):=by subst hP;rfl
theorem iQ{k:Int}(h:0<=k):P.fQ 0 k:=by subst hP;exact h
theorem yK{a b:Int}(h:a<=b):P.fQ a b:=by subst hP;exact h
theorem kZ{a b:Int}(h:a<b):P.iw a b:=by subst hP;exact h
theorem ft{a:Int}(h: -9223372036854775808<=a/\a<=9223372036854775807):P.i64 a:=by subst hP;exact h
theorem fL{rows:List (List V)}{i:Nat}{r:List V}{k:Int}(hk:k=(i:Int))(h:rows[i]? =some r):P.row rows (P.nat k) r:=by
 subst hP;subst hk;show rows[((i:Nat):Int).toNat]? =some r;rw[aM];exact h
end
theorem CR{f:Nat}{d:List Part}{vs:List V}{v:V}(h:Spec Tryz.prog f (.sl true 3 (d.map a6)::vs) Hp.emp (Is v))(hv:v.gA (gI [])=v)(a:vs.all V.pl=true):fZ (fa Tryz.prog) f (fc d::vs) v:=fU h (λ_=>.cons (.j8 _ _) (gf a)) hv
theorem s8(d:List Part)(h:d.length<=10000000):fZ (fa Tryz.prog) 67 [fc d,fc d] (.bool true):=by
 have:=SP (Mj d d (by(have:maxLen=9223372036854775807:=by decide);omega)) rfl
 rwa[bV rfl] at this
theorem lU{f:Nat}{vs:List V}{v:V}(h:Spec Tryz.prog f vs Hp.emp (Is v))(hv:v.gA (gI [])=v)(a:vs.all V.pl=true):fZ (fa Tryz.prog) f vs v:=fU h (λ_=>gf a) hv
theorem hZ(d:List Part)(h:∀p∈d,oq p):(fH (cm d):Int)=jy d:=by
 induction d with
 |nil=>rfl
 |cons p d ih=>
  have h1:=gu (h p (by simp));have h2:=ih λq hq=>h q (by simp[hq]);simp only[cm,kq,jy];have:(fH (gK p):Int)=if p.kind=1\/p.kind=3 then p.n else 0:=by
   unfold gK
   by_cases k2:p.kind=2
   ·rw[ae k2,aa qW];simp[fH,pj]
   ·rw[aa k2];have hr:∀(n:Nat)(x:fP),x=.keep\/x=.cut->fH (List.replicate n x)=n:=by
     intro n x hx;have:=jK [] x hx n;simp only[bO,dE] at this;simp[fH,this]
    have a:p.kind=1\/p.kind=3:=by omega
    rw[ae a]
    split
    ·rw[hr _ _ (.inl rfl)];omega
    ·rw[hr _ _ (.inr rfl)];omega
  rw[<-this,<-h2];omega
theorem vt(n:Nat)(x:fP):fi (List.replicate n x)=if x=.cut then 0 else n:=by
 induction n with
 |zero=>simp[fi]
 |succ n ih=>cases x<;>simp[aB,fi,ih]
theorem vu(t:BS):fi (t.map .put)=t.length:=by
 induction t with
 |nil=>rfl
 |cons b t ih=>simp[fi,ih]
theorem ja(d:List Part)(h:∀p∈d,oq p):(fi (cm d):Int)=gX d:=by
 induction d with
 |nil=>rfl
 |cons p d ih=>
  have h1:=gu (h p (by simp));have h2:=ih λq hq=>h q (by simp[hq]);simp only[cm,nB,gX];have:(fi (gK p):Int)=if p.kind=1 then p.n else if p.kind=3 then 0 else p.text.length:=by
   unfold gK
   by_cases k2:p.kind=2
   ·rw[ae k2,vu,aa qW,aa qW]
   ·rw[aa k2]
    split
    ·rw[vt,aa (by simp)];omega
    ·rw[vt,ae rfl,ae qW];rfl
  rw[<-this,<-h2];omega
theorem rC{d:List Part}(h:∀p∈d,oq p):∀p∈d,0<=p.n/\p.n<=500/\p.text.length<=500:=λp hp=>by have:=gu (h p hp);omega
theorem dv{d:List Part}(h:cF d=0):d.length<=1600/\(∀p∈d,oq p)/\jy d<=500/\gX d<=500/\0<=jy d/\0<=gX d:=by
 obtain⟨h1,h2,h3,h4⟩:=l7 h;have h5:=qv 0 d h2;exact⟨h1,h5,h3,h4,(xO d h5).1,(rj d h5).1⟩
theorem kS{d:List Part}(h:cF d=0):(cm d).length<=1000000:=by
 obtain⟨h1,h2,_⟩:=dv h;exact CO d h1 (rC h2)
open Go.RowKit
def iI(x:BS)(n:Int):Int:=if 1048576<x.length then 2 else if n<0\/(x.length:Int)<n then 3 else 0
def j7(a1:BS)(a2:Int)(b1:BS)(b2:Int):Int:=if iI a1 a2≠0 then iI a1 a2 else iI b1 b2
def oi(a1:BS)(a2:Int)(b1:BS)(b2:Int)(i:Int):Int:=if j7 a1 a2 b1 b2≠0 then j7 a1 a2 b1 b2 else if i<0\/2<=i then 1 else 0
structure D4 where
 x1:BS
 x2:Int
 x3:BS
 x4:Int
 e:Int
def UQ(e:Int):D4:=⟨[],0,[],0,e⟩
def nf(a1:BS)(a2:Int)(b1:BS)(b2:Int)(i:Int)(s:BS):D4:=if oi a1 a2 b1 b2 i≠0 then UQ (oi a1 a2 b1 b2 i)
 else if i=0 then(if 1048576<a1.length+s.length then UQ 2 else⟨a1++s,a2,b1,b2,0⟩)
 else(if 1048576<b1.length+s.length then UQ 2 else⟨a1,a2,b1++s,b2,0⟩)
def ng(a1:BS)(a2:Int)(b1:BS)(b2:Int)(i:Int):D4:=if oi a1 a2 b1 b2 i≠0 then UQ (oi a1 a2 b1 b2 i)
 else if i=0 then⟨a1,a1.length,b1,b2,0⟩ else⟨a1,a2,b1,b1.length,0⟩
theorem rF{x:BS}{n:Int}(h:iI x n=0):x.length<=1048576/\0<=n/\n<=(x.length:Int):=by
 unfold iI at h
 split at h
 ·exact absurd h qD
 ·split at h
  ·exact absurd h qD
  ·omega
theorem xT{a1 b1:BS}{a2 b2:Int}(h:j7 a1 a2 b1 b2=0):iI a1 a2=0/\iI b1 b2=0:=by
 unfold j7 at h
 by_cases g:iI a1 a2≠0
 ·rw[ae g] at h;exact absurd h g
 ·rw[aa g] at h;exact⟨aG g,h⟩
theorem look_ok{a1 b1:BS}{a2 b2 i:Int}(h:oi a1 a2 b1 b2 i=0):j7 a1 a2 b1 b2=0/\(i=0\/i=1):=by
 unfold oi at h
 by_cases g:j7 a1 a2 b1 b2≠0
 ·rw[ae g] at h;exact absurd h g
 ·rw[aa g] at h;refine⟨aG g,?_⟩
  split at h
  ·exact absurd h qD
  ·omega
structure XK(a1:BS)(a2:Int)(b1:BS)(b2:Int) where
 m:Nat
 k:Int
 hm:m<=2
 hk:k=(m:Int)
 h0:0<m->iI a1 a2=0
 h1:1<m->iI b1 b2=0
def Hb:AC:=qr [qo 1 (.box 52 4 (.t 0)),qz 2 0] (qq (qr [qf 5 0 1,qd 6 4 5,qz 7 0] (.block 0 (.loop (qr [qc 8 .lss 7 2] (qq (qu 8 .skip (.exit 0)) (qq (.block 1 (qr [qo 9 (.ixa true 2 2 (.t 6) (.t 7)),qo 4 (.alloc 49 [qe,q0]),qs 2 4 9] (qq (qr [qf 10 0 4,ql 11 10,qo 12 (.len true (.t 11)),qc 13 .gtr 12 1048576] (qu 13 (qr [qz 2 2] .ret) .skip)) (qr [qf 14 1 4,ql 15 14,qc 16 .lss 15 0,qm 17 16,qg 18 17 false (.faddr 1 (.t 4)),qg 19 17 false (.load1 (.t 18)),qg 20 17 false (.faddr 0 (.t 4)),qg 21 17 false (.load1 (.t 20)),qg 22 17 false (.len true (.t 21)),qg 23 17 false (.bin .gtr (.t 19) (.t 22)),qo 24 (.pick (.t 17) (.c (.bool true)) (.t 23))] (qu 24 (qr [qz 2 3] .ret) .skip))))) (qR [qc 25 .add 7 1,qm 7 25]))))))) (qr [qz 2 0] .ret))
theorem Qf:fo Tryz.prog 95 Tryz.f95 Hb [.t 2] 1 eV:=⟨Tryz.func95,by decide+kernel,by kernel_rfl,by kernel_rfl,by decide+kernel⟩
theorem Qg(P:Prim)(hP:P=ca)(T j:cp)(a1:BS)(a2:Int)(b1:BS)(b2:Int)
  (R:S->Prop)(b:∀d s' x,x=j7 a1 a2 b1 b2->a7 d s'->hX [.t 2] [qI x] s'->R d):fX P T j Hb (S0 [.agg [.str a1,qI a2,.str b1,qI b2]] Hp.emp) R (λ_ _=>False) R:=by
 cbv;intro β;cbv
 repeat' first|(refine qA ?_;cbv)|(intro a;cbv)
 refine⟨XK a1 a2 b1 b2,λy=>[(6,.agg [.str a1,qI a2,.str b1,qI b2]),(7,qI y.k)],λy=>[],λy=>2-y.m,
  ⟨_,a7.refl _,⟨0,0,qD,rfl,λh=>absurd h qD,λh=>absurd h qD⟩,⟨rfl,rfl,trivial⟩,trivial⟩,?_⟩
 rintro⟨m,k,hm,hk,h0,h1⟩;cbv;refine ab (λg=>?_) (λg=>?_)
 ·have h5:k<2:=fA hP g
  replace hm:m<2:=by((try simp only[nc] at*);omega)
  have f:P.fQ 0 k:=iQ hP qO;have k1:P.iw k 2:=kZ hP qO;have k2:P.i64 (P.add k 1):=by rw[add_eq hP];exact ft hP qO
  have i:P.add k 1=((m+1:Nat):Int):=by rw[add_eq hP,hk];((try simp only[nc] at*);omega)
  have hc:m=0\/m=1:=by omega
  rcases hc with rfl|rfl
  ·cbv;have c:P.nat k=0:=by rw[hk];subst hP;rfl
   refine⟨f,k1,0,c,?_⟩;cbv
   repeat' first|(refine qA ?_;cbv)|(intro a;cbv)
   refine ab (λg=>?_) (λg=>?_)
   ·have g1:1048576<P.eP a1:=fA hP g;rw[eF hP] at g1;have hx:iI a1 a2=2:=by unfold iI;rw[ae qO]
    cbv;exact b _ _ _ (by unfold j7;rw[ae (by rw[hx];decide),hx]) (a7.refl _) rfl
   have g1:¬1048576<P.eP a1:=fg hP g;rw[eF hP] at g1;cbv
   repeat' first|(refine qA ?_;cbv)|(intro a;cbv)
   refine ab (λg=>?_) (λg=>?_)
   ·have g2:a2<0:=fA hP g;have hx:iI a1 a2=3:=by unfold iI;rw[aa qO,ae (.inl g2)]
    cbv;exact b _ _ _ (by unfold j7;rw[ae (by rw[hx];decide),hx]) (a7.refl _) rfl
   have g2:¬a2<0:=fg hP g;cbv
   repeat' first|(refine qA ?_;cbv)|(intro a;cbv)
   refine ab (λg=>?_) (λg=>?_)
   ·have g3:P.eP a1<a2:=fA hP g;rw[eF hP] at g3;have hx:iI a1 a2=3:=by unfold iI;rw[aa qO,ae (.inr g3)]
    cbv;exact b _ _ _ (by unfold j7;rw[ae (by rw[hx];decide),hx]) (a7.refl _) rfl
   have g3:¬P.eP a1<a2:=fg hP g;rw[eF hP] at g3;have hx:iI a1 a2=0:=by unfold iI;rw[aa qO,aa qO]
   cbv
   repeat' first|(refine qA ?_;cbv)|(intro a;cbv)
   exact⟨_,a7.refl _,⟨1,_,qD,i,λ_=>hx,λh=>absurd h qD⟩,⟨rfl,rfl,trivial⟩,trivial,by show 2-(0+1)<2-0;decide⟩
  ·cbv;have c:P.nat k=1:=by rw[hk];subst hP;rfl
   refine⟨f,k1,1,c,?_⟩;cbv
   repeat' first|(refine qA ?_;cbv)|(intro a;cbv)
   refine ab (λg=>?_) (λg=>?_)
   ·have g1:1048576<P.eP b1:=fA hP g;rw[eF hP] at g1;have hx:iI b1 b2=2:=by unfold iI;rw[ae qO]
    cbv;exact b _ _ _ (by unfold j7;rw[aa (λg=>g (h0 qD)),hx]) (a7.refl _) rfl
   have g1:¬1048576<P.eP b1:=fg hP g;rw[eF hP] at g1;cbv
   repeat' first|(refine qA ?_;cbv)|(intro a;cbv)
   refine ab (λg=>?_) (λg=>?_)
   ·have g2:b2<0:=fA hP g;have hx:iI b1 b2=3:=by unfold iI;rw[aa qO,ae (.inl g2)]
    cbv;exact b _ _ _ (by unfold j7;rw[aa (λg=>g (h0 qD)),hx]) (a7.refl _) rfl
   have g2:¬b2<0:=fg hP g;cbv
   repeat' first|(refine qA ?_;cbv)|(intro a;cbv)
   refine ab (λg=>?_) (λg=>?_)
   ·have g3:P.eP b1<b2:=fA hP g;rw[eF hP] at g3;have hx:iI b1 b2=3:=by unfold iI;rw[aa qO,ae (.inr g3)]
    cbv;exact b _ _ _ (by unfold j7;rw[aa (λg=>g (h0 qD)),hx]) (a7.refl _) rfl
   have g3:¬P.eP b1<b2:=fg hP g;rw[eF hP] at g3;have hx:iI b1 b2=0:=by unfold iI;rw[aa qO,aa qO]
   cbv
   repeat' first|(refine qA ?_;cbv)|(intro a;cbv)
   exact⟨_,a7.refl _,⟨2,_,qD,i,λ_=>h0 qD,λ_=>hx⟩,⟨rfl,rfl,trivial⟩,trivial,by show 2-(1+1)<2-1;decide⟩
 ·have h5:¬k<2:=fg hP g;have q7:m=2:=by((try simp only[nc] at*);omega)
  have e:j7 a1 a2 b1 b2=0:=by unfold j7;rw[aa (λg=>g (h0 qW)),h1 qW]
  cbv;exact b _ _ _ e.symm (a7.refl _) rfl
theorem Qh(a1:BS)(a2:Int)(b1:BS)(b2:Int):Spec Tryz.prog 95 [.agg [.str a1,.int .i64 a2,.str b1,.int .i64 b2]] Hp.emp (Is (.int .i64 (j7 a1 a2 b1 b2))):=
 eW gY Qf [.int .i64 (j7 a1 a2 b1 b2)] (.int _ _) λR a=>Qg ca rfl _ _ a1 a2 b1 b2 R λs s' b h he hr=>by subst h;exact a s s' he hr
def Hc:AC:=qr [qo 2 (.box 52 4 (.t 0)),qz 4 0] (qq (qr [qd 6 4 2,qa 7 95 [.t 6],qm 5 7] (qr [qm 8 5,qc 9 .neq 8 0] (qu 9 (qr [qm 10 5,qm 4 10] .ret) .skip))) (qq (qr [qm 11 1,qc 12 .lss 11 0,qm 13 12,qg 14 13 false (.mov (.t 1)),qg 15 13 false (.bin .geq (.t 14) (qk 2)),qo 16 (.pick (.t 13) (.c (.bool true)) (.t 15))] (qu 16 (qr [qz 4 1] .ret) .skip)) (qr [qz 4 0] .ret)))
theorem Qi:fo Tryz.prog 111 Tryz.f111 Hc [.t 4] 2 eV:=⟨Tryz.func111,by decide+kernel,by kernel_rfl,by kernel_rfl,by decide+kernel⟩
theorem Qj(P:Prim)(hP:P=ca)(T d:cp)(a1:BS)(a2:Int)(b1:BS)(b2 i c:Int)(h1:fZ T 95 [.agg [.str a1,qI a2,.str b1,qI b2]] (qI c))(r:Int)(hr:(if c≠0 then c else if i<0\/2<=i then 1 else 0)=r)
  (R:S->Prop)(a:∀b s' x,x=r->a7 b s'->hX [.t 4] [qI x] s'->R b):fX P T d Hc (S0 [.agg [.str a1,qI a2,.str b1,qI b2],qI i] Hp.emp) R (λ_ _=>False) R:=by
 cbv;intro β;cbv
 repeat' first|(refine qA ?_;cbv)|(intro e;cbv)
 refine h1 _ _ ?_;cbv;refine ab (λg=>?_) (λg=>?_)
 ·rw[ae (fE hP g)] at hr;cbv;exact a _ _ _ hr (a7.refl _) rfl
 rw[aa (λx=>x (fD hP g))] at hr;cbv;refine ab (λg=>?_) (λg=>?_)
 ·rw[ae (.inl (fA hP g))] at hr;cbv;exact a _ _ _ hr (a7.refl _) rfl
 have g1:=fg hP g;cbv;refine ab (λg=>?_) (λg=>?_)
 ·rw[ae (.inr (iG hP g))] at hr;cbv;exact a _ _ _ hr (a7.refl _) rfl
 have g2:=iA hP g;rw[aa qW] at hr;cbv;exact a _ _ _ hr (a7.refl _) rfl
theorem Hd(a1:BS)(a2:Int)(b1:BS)(b2 i:Int):Spec Tryz.prog 111 [.agg [.str a1,.int .i64 a2,.str b1,.int .i64 b2],.int .i64 i] Hp.emp (Is (.int .i64 (oi a1 a2 b1 b2 i))):=
 eW gY Qi [.int .i64 (oi a1 a2 b1 b2 i)] (.int _ _) λR a=>Qj ca rfl _ _ a1 a2 b1 b2 i _ (fU (Qh a1 a2 b1 b2) (λh=>.cons (.same _) .nil) rfl) _ rfl R λs s' b h he hr=>by subst h;exact a s s' he hr
def He:AC:=qr [qo 3 (.box 52 4 (.t 0)),qo 6 (.alloc 52 Sw),qz 7 0] (qq (qr [qd 9 4 3,qm 10 1,qa 11 111 [.t 9,.t 10],qm 8 11] (qr [qm 12 8,qc 13 .neq 12 0] (qu 13 (qr [qo 14 (.build Sw []),qm 15 8,qs 4 6 14,qm 7 15] .ret) .skip))) (qq (qr [qm 16 1,qf 17 0 3,qo 18 (.iarr 2 2 (.t 17) (.t 16)),qf 19 0 18,ql 20 19,qo 21 (.len true (.t 20)),qm 22 2,qo 23 (.len true (.t 22)),qb 24 .add 21 23,qc 25 .gtr 24 1048576] (qu 25 (qr [qo 26 (.build Sw []),qs 4 6 26,qz 7 2] .ret) .skip)) (qr [qm 27 1,qf 28 0 3,qo 29 (.iarr 2 2 (.t 28) (.t 27)),qf 30 0 29,ql 31 30,qm 32 2,qb 33 .add 31 32,qf 34 0 3,qo 35 (.iarr 2 2 (.t 34) (.t 27)),qf 36 0 35,qs 1 36 33] (qr [qd 37 4 3,qs 4 6 37,qz 7 0] .ret))))
theorem Qk:fo Tryz.prog 71 Tryz.f71 He [.cn 6 4,.t 7] 3 eV:=⟨Tryz.func71,by decide+kernel,by kernel_rfl,by kernel_rfl,by decide+kernel⟩
theorem Ql(P:Prim)(hP:P=ca)(T h:cp)(a1:BS)(a2:Int)(b1:BS)(b2 i:Int)(s:BS)(hs:s.length<=140737488355328)(c:Int)(hc:c=oi a1 a2 b1 b2 i)(h1:fZ T 111 [.agg [.str a1,qI a2,.str b1,qI b2],qI i] (qI c))(r:D4)(hr:nf a1 a2 b1 b2 i s=r)
  (R:S->Prop)(b:∀f s' x1 x2 x3 x4 e,(⟨x1,x2,x3,x4,e⟩:D4)=r->a7 f s'->hX [.cn 6 4,.t 7] [.agg [.str x1,qI x2,.str x3,qI x4],qI e] s'->R f):fX P T h He (S0 [.agg [.str a1,qI a2,.str b1,qI b2],qI i,.str s] Hp.emp) R (λ_ _=>False) R:=by
 have a0:P.fQ 0 0:=iQ hP qD;have j:P.fQ 0 1:=iQ hP qD;have l0:P.iw 0 2:=kZ hP qD;have o:P.iw 1 2:=kZ hP qD;have d:P.nat 0=0:=by subst hP;rfl
 have n1:P.nat 1=1:=by subst hP;rfl
 unfold nf at hr;cbv;intro β;cbv
 repeat' first|(refine qA ?_;cbv)|(intro a;cbv)
 refine h1 _ _ ?_;clear h1;cbv;refine ab (λg=>?_) (λg=>?_)
 ·rw[<-hc,ae (fE hP g)] at hr;cbv
  repeat' first|(refine qA ?_;cbv)|(intro a;cbv)
  exact b _ _ _ _ _ _ _ hr (a7.refl _) ⟨rfl,rfl,aj 0,ag 4,rfl⟩
 have g0:c=0:=fD hP g;rw[<-hc,aa (λx=>x g0)] at hr;obtain⟨hd,hi⟩:=look_ok (hc.symm.trans g0);obtain⟨ha,hb⟩:=xT hd;obtain⟨k,l,m⟩:=rF ha;obtain⟨hb1,hb2,n⟩:=rF hb;clear hc g
 rcases hi with rfl|rfl
 ·rw[ae rfl] at hr;have i1:P.i64 (P.add (P.eP a1) (P.eP s)):=by rw[add_eq hP,eF hP,eF hP];exact ft hP qO
  cbv
  repeat' first|(refine qA ?_;cbv)|(refine⟨0,d,?_⟩;cbv)|(intro a;cbv)
  refine ab (λg=>?_) (λg=>?_)
  ·have g1:1048576<P.add (P.eP a1) (P.eP s):=fA hP g;rw[add_eq hP,eF hP,eF hP] at g1;rw[ae qO] at hr;cbv
   repeat' first|(refine qA ?_;cbv)|(refine⟨0,d,?_⟩;cbv)|(intro a;cbv)
   exact b _ _ _ _ _ _ _ hr (a7.refl _) ⟨rfl,rfl,aj 0,ag 4,rfl⟩
  ·have g1:¬1048576<P.add (P.eP a1) (P.eP s):=fg hP g;rw[add_eq hP,eF hP,eF hP] at g1;have e1:P.gV a1 s=a1++s:=by subst hP;rfl
   rw[aa qO,<-e1] at hr;cbv
   repeat' first|(refine qA ?_;cbv)|(refine⟨0,d,?_⟩;cbv)|(intro a;cbv)
   exact b _ _ _ _ _ _ _ hr (a7.refl _) ⟨rfl,rfl,aj 0,ag 4,rfl⟩
 ·rw[aa qD] at hr;have i1:P.i64 (P.add (P.eP b1) (P.eP s)):=by rw[add_eq hP,eF hP,eF hP];exact ft hP qO
  cbv
  repeat' first|(refine qA ?_;cbv)|(refine⟨1,n1,?_⟩;cbv)|(intro a;cbv)
  refine ab (λg=>?_) (λg=>?_)
  ·have g1:1048576<P.add (P.eP b1) (P.eP s):=fA hP g;rw[add_eq hP,eF hP,eF hP] at g1;rw[ae qO] at hr;cbv
   repeat' first|(refine qA ?_;cbv)|(refine⟨1,n1,?_⟩;cbv)|(intro a;cbv)
   exact b _ _ _ _ _ _ _ hr (a7.refl _) ⟨rfl,rfl,aj 0,ag 4,rfl⟩
  ·have g1:¬1048576<P.add (P.eP b1) (P.eP s):=fg hP g;rw[add_eq hP,eF hP,eF hP] at g1;have e1:P.gV b1 s=b1++s:=by subst hP;rfl
   rw[aa qO,<-e1] at hr;cbv
   repeat' first|(refine qA ?_;cbv)|(refine⟨1,n1,?_⟩;cbv)|(intro a;cbv)
   exact b _ _ _ _ _ _ _ hr (a7.refl _) ⟨rfl,rfl,aj 0,ag 4,rfl⟩
theorem Qm(a1:BS)(a2:Int)(b1:BS)(b2 i:Int)(s:BS)(hs:s.length<=140737488355328):Spec Tryz.prog 71 [.agg [.str a1,.int .i64 a2,.str b1,.int .i64 b2],.int .i64 i,.str s] Hp.emp (Is (.tup [.agg [.str (nf a1 a2 b1 b2 i s).x1,.int .i64 (nf a1 a2 b1 b2 i s).x2,.str (nf a1 a2 b1 b2 i s).x3,.int .i64 (nf a1 a2 b1 b2 i s).x4],.int .i64 (nf a1 a2 b1 b2 i s).e])):=
 eW gY Qk [.agg [.str (nf a1 a2 b1 b2 i s).x1,.int .i64 (nf a1 a2 b1 b2 i s).x2,.str (nf a1 a2 b1 b2 i s).x3,.int .i64 (nf a1 a2 b1 b2 i s).x4],.int .i64 (nf a1 a2 b1 b2 i s).e] (.tup _ (by simp;exact⟨.agg _ (by simp;exact⟨.str _,.int _ _,.str _,.int _ _⟩),.int _ _⟩)) λR a=>Ql ca rfl _ _ a1 a2 b1 b2 i s hs _ rfl (fU (Hd a1 a2 b1 b2 i) (λh=>.cons (.same _) (.cons (.same _) .nil)) rfl) (nf a1 a2 b1 b2 i s) rfl R
  λs s' x1 x2 x3 x4 e h he hr=>a s s' he (by rw[<-h];exact hr)
def Hf:AC:=qr [qo 2 (.box 52 4 (.t 0)),qo 4 (.alloc 52 Sw),qz 5 0] (qq (qr [qd 7 4 2,qm 8 1,qa 9 111 [.t 7,.t 8],qm 6 9] (qr [qm 10 6,qc 11 .neq 10 0] (qu 11 (qr [qo 12 (.build Sw []),qm 13 6,qs 4 4 12,qm 5 13] .ret) .skip))) (qr [qm 14 1,qm 15 1,qf 16 0 2,qo 17 (.iarr 2 2 (.t 16) (.t 15)),qf 18 0 17,ql 19 18,qo 20 (.len true (.t 19)),qf 21 0 2,qo 22 (.iarr 2 2 (.t 21) (.t 14)),qf 23 1 22,qs 1 23 20] (qr [qd 24 4 2,qs 4 4 24,qz 5 0] .ret)))
theorem Qn:fo Tryz.prog 72 Tryz.f72 Hf [.cn 4 4,.t 5] 2 eV:=⟨Tryz.func72,by decide+kernel,by kernel_rfl,by kernel_rfl,by decide+kernel⟩
theorem Qo(P:Prim)(hP:P=ca)(T f:cp)(a1:BS)(a2:Int)(b1:BS)(b2 i:Int)(c:Int)(hc:c=oi a1 a2 b1 b2 i)(h1:fZ T 111 [.agg [.str a1,qI a2,.str b1,qI b2],qI i] (qI c))(r:D4)(hr:ng a1 a2 b1 b2 i=r)
  (R:S->Prop)(b:∀d s' x1 x2 x3 x4 e,(⟨x1,x2,x3,x4,e⟩:D4)=r->a7 d s'->hX [.cn 4 4,.t 5] [.agg [.str x1,qI x2,.str x3,qI x4],qI e] s'->R d):fX P T f Hf (S0 [.agg [.str a1,qI a2,.str b1,qI b2],qI i] Hp.emp) R (λ_ _=>False) R:=by
 have a0:P.fQ 0 0:=iQ hP qD;have h:P.fQ 0 1:=iQ hP qD;have l0:P.iw 0 2:=kZ hP qD;have o:P.iw 1 2:=kZ hP qD;have j:P.nat 0=0:=by subst hP;rfl
 have n1:P.nat 1=1:=by subst hP;rfl
 unfold ng at hr;cbv;intro β;cbv
 repeat' first|(refine qA ?_;cbv)|(intro a;cbv)
 refine h1 _ _ ?_;clear h1;cbv;refine ab (λg=>?_) (λg=>?_)
 ·rw[<-hc,ae (fE hP g)] at hr;cbv
  repeat' first|(refine qA ?_;cbv)|(intro a;cbv)
  exact b _ _ _ _ _ _ _ hr (a7.refl _) ⟨rfl,rfl,aj 0,ag 4,rfl⟩
 have g0:c=0:=fD hP g;rw[<-hc,aa (λx=>x g0)] at hr;obtain⟨hd,hi⟩:=look_ok (hc.symm.trans g0);obtain⟨ha,hb⟩:=xT hd;obtain⟨k,l,m⟩:=rF ha;obtain⟨hb1,hb2,n⟩:=rF hb;clear hc g
 rcases hi with rfl|rfl
 ·have e1:P.eP a1=(a1.length:Int):=eF hP _;rw[ae rfl] at hr;cbv
  repeat' first|(refine qA ?_;cbv)|(refine⟨0,j,?_⟩;cbv)|(intro a;cbv)
  exact b _ _ _ _ _ _ _ ((aR (λx=>(⟨a1,x,b1,b2,0⟩:D4)) e1).trans hr) (a7.refl _) ⟨rfl,rfl,aj 0,ag 4,rfl⟩
 ·have e1:P.eP b1=(b1.length:Int):=eF hP _;rw[aa qD] at hr;cbv
  repeat' first|(refine qA ?_;cbv)|(refine⟨1,n1,?_⟩;cbv)|(intro a;cbv)
  exact b _ _ _ _ _ _ _ ((aR (λx=>(⟨a1,a2,b1,x,0⟩:D4)) e1).trans hr) (a7.refl _) ⟨rfl,rfl,aj 0,ag 4,rfl⟩
theorem Qp(a1:BS)(a2:Int)(b1:BS)(b2 i:Int):Spec Tryz.prog 72 [.agg [.str a1,.int .i64 a2,.str b1,.int .i64 b2],.int .i64 i] Hp.emp (Is (.tup [.agg [.str (ng a1 a2 b1 b2 i).x1,.int .i64 (ng a1 a2 b1 b2 i).x2,.str (ng a1 a2 b1 b2 i).x3,.int .i64 (ng a1 a2 b1 b2 i).x4],.int .i64 (ng a1 a2 b1 b2 i).e])):=
 eW gY Qn [.agg [.str (ng a1 a2 b1 b2 i).x1,.int .i64 (ng a1 a2 b1 b2 i).x2,.str (ng a1 a2 b1 b2 i).x3,.int .i64 (ng a1 a2 b1 b2 i).x4],.int .i64 (ng a1 a2 b1 b2 i).e] (.tup _ (by simp;exact⟨.agg _ (by simp;exact⟨.str _,.int _ _,.str _,.int _ _⟩),.int _ _⟩)) λR a=>Qo ca rfl _ _ a1 a2 b1 b2 i _ rfl (fU (Hd a1 a2 b1 b2 i) (λh=>.cons (.same _) (.cons (.same _) .nil)) rfl) (ng a1 a2 b1 b2 i) rfl R
  λs s' x1 x2 x3 x4 e h he hr=>a s s' he (by rw[<-h];exact hr)
end Go.Proofs.YtobngncjflogcaaGreat.AM
