/-
  Part 13 of what the law ShopPlays reaches: the plain machine, contracts of the functions and plain laws; each lemma says its own condition.
-/
import Derived.Test.YtobngncjflogcaaGreatShopPlays7
import Derived.Test.YtobngncjflogcaaGreatShopPlays9
import Derived.Test.YtobngncjflogcaaGreatShopPlays10
import Derived.Test.YtobngncjflogcaaGreatShopPlays12
set_option linter.unusedVariables false
set_option linter.unusedSimpArgs false
namespace Go.Proofs.YtobngncjflogcaaGreat.AM
open Go Go.RowKit
set_option maxRecDepth 100000
set_option maxHeartbeats 2000000
def mO(n:Int):Prop:=0<=n/\n<=2147483647
instance(n:Int):Decidable (mO n):=inferInstanceAs (Decidable (_/\_))
def jX(l:List Int):BS:=(l.map λn=>iE n.toNat).flatten
def nT(l:List Int):BS×Bool:=if∀n∈l,mO n then(jX l,true) else([],false)
def je(g b:Int)(t:Nat->Int):List Int:=[g,b,t 0,t 1,t 2,t 3,t 4,t 5,t 6,t 7,t 8,t 9,t 10,t 11,t 12,t 13,t 14,t 15]
def hM(g b:Int)(tx:BS)(t:Nat->Int):BS×Int:=
 if∀n∈je g b t,mO n then(if 500<tx.length then([],2) else gq 1 (jX (je g b t)++tx)) else([],1)
def gQ(r:eP):BS×Int:=if iL r≠0 then([],iL r) else gq 2 (iE r.who.toNat++iE r.seq.toNat++codeF r.delta)
theorem ox(l:List Int):(jX l).length<=5*l.length:=by
 induction l with
 |nil=>simp[jX]
 |cons a l ih=>
  have:=jr a.toNat;simp only[jX,aR,bE,ag,au] at ih⊢;omega
theorem xr(a:List Int)(n:Int):jX (a++[n])=jX a++iE n.toNat:=by simp[jX]
theorem nw(g b:Int)(t:Nat->Int):(je g b t).length=18:=rfl
def Eg:AC:=qr [qo 2 (.mov (.c qe)),qo 3 (.mov (.c (.bool false)))] (qr [qo 4 (.mov (.c qe))] (qq (qr [qm 9 0,qo 10 (.len false (.t 9)),qz 11 0] (.block 0 (.loop (qr [qb 12 .lss 11 10] (qq (qu 12 .skip (.exit 0)) (qq (.block 1 (qr [qo 13 (.iaddr 1 (.t 9) (.t 11)),ql 14 13,qm 6 14] (qr [qm 16 6,qa 17 108 [.t 16],qm 15 17,qx 18 0 15,qx 19 1 15,qm 7 18,qm 8 19] (qq (qr [qm 20 8,qc 21 .neq 20 0] (qu 21 (qr [qo 2 (.mov (.c qe)),qo 3 (.mov (.c (.bool false)))] .ret) .skip)) (qR [qm 22 4,qm 23 7,qb 24 .add 22 23,qm 4 24]))))) (qR [qc 25 .add 11 1,qm 11 25]))))))) (qr [qm 26 4,qm 2 26,qo 3 (.mov (.c (.bool true)))] .ret)))
theorem NX:fF Tryz.prog 68 Tryz.f68 Eg [.t 2,.t 3] 1 er:=⟨Tryz.func68,by decide+kernel,by kernel_rfl,by kernel_rfl,by decide+kernel⟩
structure XG(l:List Int) where
 k:Int
 pre:List Int
 rest:List Int
 o:BS
 hd:l=pre++rest
 hk:k=(pre.length:Int)
 ho:o=jX pre
 pd:∀n∈pre,mO n
theorem NY(P:Prim)(hP:P=dn)(T q:c8)(l:List Int)(hl:l.length<=1000)(rows:List (List V))(ds:rows=gL l)(d:Int->BS)(f:Int->Int)
  (h1:∀n,gK T 108 [qI n] (.tup [.str (d n),qI (f n)]))(i:∀n,f n=0->mO n/\d n=iE n.toNat)(j:∀n,f n≠0->¬mO n)
  (r:BS)(e:Bool)(hr:nT l=(r,e))
  (R:S->Prop)(m:∀p s' x y,x=r/\y=e->c6 p s'->iH [.t 2,.t 3] [.str x,.bool y] s'->R p):gj P T q Eg (S0 [.sl true 1 rows] Hp.emp) R (λ_ _=>False) R:=by
 have a:P.dv rows=(l.length:Int):=by rw[gE hP,ds];simp[gL]
 cbv;refine⟨XG l,λy=>[(4,.str y.o),(9,.sl true 1 rows),(10,qI (P.dv rows)),(11,qI y.k)],λy=>[],λy=>y.rest.length,
  ⟨_,c6.refl _,⟨0,[],l,[],rfl,rfl,rfl,by simp⟩,⟨rfl,rfl,rfl,rfl,trivial⟩,trivial⟩,?_⟩
 rintro⟨k,pre,rest,o,hd,hk,ho,pd⟩
 replace hk:k=(pre.length:Int):=hk
 have b:pre.length+rest.length=l.length:=by rw[hd];simp
 cbv;refine ab (λh=>?_) (λh=>?_)
 ·have h6:k<P.dv rows:=fJ hP h;rw[a] at h6
  rcases rest with _|⟨n,rest⟩
  ·exfalso;simp at b;((try simp only[nc] at*);omega)
  have c:P.row rows (P.nat k) [qI n]:=ga hP hk (by rw[ds,gL,av,hd];simp);have k1:P.fC 0 k:=iu hP qO;have k2:P.i64 (P.add k 1):=by rw[add_eq hP];exact eR hP qO
  have s:P.add k 1=(((pre++[n]).length:Nat):Int):=by rw[add_eq hP,hk];simp
  have c1:=h1 n;have z:=ox pre;cbv;refine⟨k1,_,c,?_⟩;cbv;refine c1 _ _ ?_;cbv;refine ab (λh=>?_) (λh=>?_)
  ·have g:=j n (hH hP h);unfold nT at hr;rw[aa (λx=>g (x n (by rw[hd];simp)))] at hr;cbv;exact m _ _ _ _ (by simpa using hr) (c6.refl _) rfl
  have g:=i n (gZ hP h);have u:P.i64 (P.add (P.c9 o) (P.c9 (d n))):=by
   rw[add_eq hP,da hP,da hP,ho,g.2];have:=jr n.toNat;exact eR hP qO
  have v:P.h9 o (d n)=jX (pre++[n]):=by rw[k7 hP,xr,ho,g.2]
  have w:∀x∈pre++[n],mO x:=by
   intro x hx
   rcases bn.1 hx with hx|hx
   ·exact pd x hx
   ·rw[aq.1 hx];exact g.1
  cbv;refine⟨u,?_⟩;cbv;refine⟨k2,?_⟩;exact⟨_,c6.refl _,⟨_,pre++[n],rest,_,by simp[hd],s,v,w⟩,⟨rfl,rfl,rfl,rfl,trivial⟩,trivial,by simp⟩
 ·have h6:¬k<P.dv rows:=fM hP h;rw[a] at h6
  rcases rest with _|⟨y,rest⟩
  rotate_left
  ·exfalso;simp at b;((try simp only[nc] at*);omega)
  rw[aS] at hd;subst hd;unfold nT at hr;rw[ae pd,<-ho] at hr;cbv;exact m _ _ _ _ (by simpa using hr) (c6.refl _) rfl
theorem RJ{n:Int}(h:(qS n).2=0):mO n/\(qS n).1=iE n.toNat:=by
 unfold qS at h⊢
 by_cases hn:n<0\/2147483647<n
 ·rw[ae hn] at h;exact absurd h qD
 ·rw[aa hn];exact⟨by unfold mO;omega,rfl⟩
theorem NZ{n:Int}(h:(qS n).2≠0):¬mO n:=by
 unfold qS at h
 by_cases hn:n<0\/2147483647<n
 ·unfold mO;omega
 ·rw[aa hn] at h;exact absurd rfl h
theorem Eh(l:List Int)(hl:l.length<=1000):Spec Tryz.prog 68 [.sl true 1 (gL l)] Hp.emp (Is (.tup [.str (nT l).1,.bool (nT l).2])):=
 ep iD NX [.str (nT l).1,.bool (nT l).2] (.tup _ (by simp;exact⟨.str _,.bool _⟩)) λR a=>NY dn rfl _ _ l hl _ rfl (λn=>(qS n).1) (λn=>(qS n).2)
  (λn=>im (DM n) rfl rfl) (λn=>RJ) (λn=>NZ) _ _ rfl R λb s' x y h he hr=>by obtain⟨rfl,rfl⟩:=h;exact a b s' he hr
def Ei:AC:=qr [qo 5 (.box 55 16 (.t 2)),qo 6 (.mov (.c (.slice none 0 0)))] (qr [qm 10 0,qm 11 1,qo 12 (.bslice 3 1 [.t 10,.t 11]),qm 7 12] (qq (qr [qd 13 16 5,qz 14 0] (.block 0 (.loop (qr [qc 15 .lss 14 8] (qq (qu 15 .skip (.exit 0)) (qq (.block 1 (qr [qo 16 (.ixa true 8 2 (.t 13) (.t 14)),qo 9 (.alloc 54 Bo),qs 2 9 16] (qR [qm 17 7,qf 18 0 9,ql 19 18,qf 20 1 9,ql 21 20,qo 22 (.bslice 3 1 [.t 19,.t 21]),qo 23 (.append 3 1 8 (.t 17) (.t 22)),qm 7 23]))) (qR [qc 24 .add 14 1,qm 14 24]))))))) (qr [qm 25 7,qm 6 25] .ret)))
theorem N0:fF Tryz.prog 69 Tryz.f69 Ei [.t 6] 3 er:=⟨Tryz.func69,by decide+kernel,by kernel_rfl,by kernel_rfl,by decide+kernel⟩
structure XH(L:List Int) where
 m:Nat
 k:Int
 b:Option Nat
 c:Nat
 rows:List (List V)
 hm:m<=8
 hk:k=(m:Int)
 ds:rows=gL (L.take (2+2*m))
 hc:c=2+2*m
theorem N1(P:Prim)(hP:P=dn)(T l:c8)(g b:Int)(t:Nat->Int)
  (R:S->Prop)(j:qZ [.t 6] 1 (gL (je g b t)) [] R):gj P T l Ei (S0 [qI g,qI b,.agg [qI (t 0),qI (t 1),qI (t 2),qI (t 3),qI (t 4),qI (t 5),qI (t 6),qI (t 7),qI (t 8),qI (t 9),qI (t 10),qI (t 11),qI (t 12),qI (t 13),qI (t 14),qI (t 15)]] Hp.emp) R (λ_ _=>False) R:=by
 have hN:∀n:Nat,P.nat (n:Int)=n:=by intro n;subst hP;rfl
 cbv;intro β;cbv
 repeat' first|(refine qA ?_;cbv)|(intro o;cbv)
 refine⟨XH (je g b t),λy=>[(7,.own 1000012 y.b 1 y.c),(13,.agg [qI (t 0),qI (t 1),qI (t 2),qI (t 3),qI (t 4),qI (t 5),qI (t 6),qI (t 7),qI (t 8),qI (t 9),qI (t 10),qI (t 11),qI (t 12),qI (t 13),qI (t 14),qI (t 15)]),(14,qI y.k)],λy=>[(1000012,⟨y.b,3,1,y.rows⟩)],λy=>8-y.m,
  ⟨_,c6.refl _,⟨0,0,_,_,_,qW,rfl,rfl,rfl⟩,⟨rfl,rfl,rfl,trivial⟩,⟨rfl,trivial⟩⟩,?_⟩
 rintro⟨m,k,bb,c,rows,hm,hk,ds,hc⟩;cbv;refine ab (λh=>?_) (λh=>?_)
 ·have h5:k<8:=fJ hP h
  replace hm:m<8:=by((try simp only[nc] at*);omega)
  have a:P.fC 0 k:=iu hP qO;have k1:P.iO k 8:=kN hP qO;have k2:P.i64 (P.add k 1):=by rw[add_eq hP];exact eR hP qO
  have d:P.add k 1=((m+1:Nat):Int):=by rw[add_eq hP,hk];((try simp only[nc] at*);omega)
  have e:P.nat k=m:=by rw[hk];exact hN m
  have f4:P.nL rows c:=lx hP _ _ (by rw[ds,hc];simp[gL,nw];omega);have f5:∀r:List (List V),r.length=2->P.bytes (P.add (P.int c) (P.dv r)) 8:=by intro r i;subst hP;show((c:Int)+(r.length:Int))*8<=_;rw[hc,i];((try simp only[nc] at*);omega)
  have f6:∀x y:List V,P.nL [x,y] 2:=λx y=>lx hP _ _ rfl;have f7:P.kB rows [[qI (t (2*m))],[qI (t (2*m+1))]]=gL ((je g b t).take (2+2*(m+1))):=by
   rw[ds];subst hP;have hc:m=0\/m=1\/m=2\/m=3\/m=4\/m=5\/m=6\/m=7:=by omega
   rcases hc with rfl|rfl|rfl|rfl|rfl|rfl|rfl|rfl<;>rfl
  have f8:∀x y:List V,P.hU c (P.fQ [x,y])=2+2*(m+1):=by intro x y;subst hP;show c+2=_;omega
  clear j h5 h;have hc:m=0\/m=1\/m=2\/m=3\/m=4\/m=5\/m=6\/m=7:=by omega
  rcases hc with rfl|rfl|rfl|rfl|rfl|rfl|rfl|rfl
  ·cbv;refine⟨a,k1,0,e,?_⟩;cbv
   repeat' first|(refine And.intro (by first|assumption|decide|exact f6 _ _|exact f5 _ rfl) ?_;cbv)|(intro β;cbv)
   exact⟨_,c6.refl _,⟨0+1,_,_,_,_,qD,d,f7,f8 _ _⟩,⟨rfl,rfl,rfl,trivial⟩,⟨rfl,trivial⟩,by show 8-(0+1)<8-0;decide⟩
  ·cbv;refine⟨a,k1,1,e,?_⟩;cbv
   repeat' first|(refine And.intro (by first|assumption|decide|exact f6 _ _|exact f5 _ rfl) ?_;cbv)|(intro β;cbv)
   exact⟨_,c6.refl _,⟨1+1,_,_,_,_,qD,d,f7,f8 _ _⟩,⟨rfl,rfl,rfl,trivial⟩,⟨rfl,trivial⟩,by show 8-(1+1)<8-1;decide⟩
  ·cbv;refine⟨a,k1,2,e,?_⟩;cbv
   repeat' first|(refine And.intro (by first|assumption|decide|exact f6 _ _|exact f5 _ rfl) ?_;cbv)|(intro β;cbv)
   exact⟨_,c6.refl _,⟨2+1,_,_,_,_,qD,d,f7,f8 _ _⟩,⟨rfl,rfl,rfl,trivial⟩,⟨rfl,trivial⟩,by show 8-(2+1)<8-2;decide⟩
  ·cbv;refine⟨a,k1,3,e,?_⟩;cbv
   repeat' first|(refine And.intro (by first|assumption|decide|exact f6 _ _|exact f5 _ rfl) ?_;cbv)|(intro β;cbv)
   exact⟨_,c6.refl _,⟨3+1,_,_,_,_,qD,d,f7,f8 _ _⟩,⟨rfl,rfl,rfl,trivial⟩,⟨rfl,trivial⟩,by show 8-(3+1)<8-3;decide⟩
  ·cbv;refine⟨a,k1,4,e,?_⟩;cbv
   repeat' first|(refine And.intro (by first|assumption|decide|exact f6 _ _|exact f5 _ rfl) ?_;cbv)|(intro β;cbv)
   exact⟨_,c6.refl _,⟨4+1,_,_,_,_,qD,d,f7,f8 _ _⟩,⟨rfl,rfl,rfl,trivial⟩,⟨rfl,trivial⟩,by show 8-(4+1)<8-4;decide⟩
  ·cbv;refine⟨a,k1,5,e,?_⟩;cbv
   repeat' first|(refine And.intro (by first|assumption|decide|exact f6 _ _|exact f5 _ rfl) ?_;cbv)|(intro β;cbv)
   exact⟨_,c6.refl _,⟨5+1,_,_,_,_,qD,d,f7,f8 _ _⟩,⟨rfl,rfl,rfl,trivial⟩,⟨rfl,trivial⟩,by show 8-(5+1)<8-5;decide⟩
  ·cbv;refine⟨a,k1,6,e,?_⟩;cbv
   repeat' first|(refine And.intro (by first|assumption|decide|exact f6 _ _|exact f5 _ rfl) ?_;cbv)|(intro β;cbv)
   exact⟨_,c6.refl _,⟨6+1,_,_,_,_,qD,d,f7,f8 _ _⟩,⟨rfl,rfl,rfl,trivial⟩,⟨rfl,trivial⟩,by show 8-(6+1)<8-6;decide⟩
  ·cbv;refine⟨a,k1,7,e,?_⟩;cbv
   repeat' first|(refine And.intro (by first|assumption|decide|exact f6 _ _|exact f5 _ rfl) ?_;cbv)|(intro β;cbv)
   exact⟨_,c6.refl _,⟨7+1,_,_,_,_,qD,d,f7,f8 _ _⟩,⟨rfl,rfl,rfl,trivial⟩,⟨rfl,trivial⟩,by show 8-(7+1)<8-7;decide⟩
 ·have h5:¬k<8:=fM hP h;have f:m=8:=by((try simp only[nc] at*);omega)
  have e1:rows=gL (je g b t):=by rw[ds,f];rfl
  cbv;exact j.2.1 _ _ _ _ _ _ _ (c6.refl _) rfl rfl ⟨by rw[hc,f];rfl,e1⟩
theorem N2(g b:Int)(t:Nat->Int):Spec Tryz.prog 69 [.int .i64 g,.int .i64 b,kC t] Hp.emp (Is (.sl false 1 (gL (je g b t)))):=
 jq iD N0 λR a=>N1 dn rfl _ _ g b t R (ng (zM _) (zN _) (by simp) a)
def Aj:AC:=qr [qo 7 (.box 55 16 (.t 3)),qo 8 (.mov (.c qe)),qz 9 0] (qr [qm 13 0,qm 14 1,qd 15 16 7,qa 16 69 [.t 13,.t 14,.t 15],qa 17 68 [.t 16],qm 12 17,qx 18 0 12,qx 19 1 12,qm 10 18,qm 11 19] (qq (qr [qm 20 11,qo 21 (.not (.t 20))] (qu 21 (qr [qo 8 (.mov (.c qe)),qz 9 1] .ret) .skip)) (qq (qr [qm 22 2,qo 23 (.len true (.t 22)),qc 24 .gtr 23 500] (qu 24 (qr [qo 8 (.mov (.c qe)),qz 9 2] .ret) .skip)) (qr [qm 25 10,qm 26 2,qb 27 .add 25 26,qo 28 (.build uN [(0,1,qk 1),(1,1,(.t 27))]),qa 29 70 [.t 28],qx 30 0 29,qx 31 1 29,qm 8 30,qm 9 31] .ret))))
theorem J1:fF Tryz.prog 25 Tryz.f25 Aj [.t 8,.t 9] 4 er:=⟨Tryz.func25,by decide+kernel,by kernel_rfl,by kernel_rfl,by decide+kernel⟩
theorem J2(P:Prim)(hP:P=dn)(T j:c8)(g b:Int)(tx:BS)(k:tx.length<=maxLen)(t:Nat->Int)(fr:List (List V))(o:BS)(ok:Bool)(ho:o.length<=100)
  (h1:gK T 69 [qI g,qI b,.agg [qI (t 0),qI (t 1),qI (t 2),qI (t 3),qI (t 4),qI (t 5),qI (t 6),qI (t 7),qI (t 8),qI (t 9),qI (t 10),qI (t 11),qI (t 12),qI (t 13),qI (t 14),qI (t 15)]] (.sl false 1 fr))(h2:gK T 68 [.sl false 1 fr] (.tup [.str o,.bool ok]))
  (d:BS->BS)(f:BS->Int)(h3:∀s,gK T 70 [.agg [qI 1,.str s]] (.tup [.str (d s),qI (f s)]))
  (r:BS)(e:Int)(hr:(if ok then(if 500<tx.length then([],2) else(d (o++tx),f (o++tx))) else([],1))=(r,e))
  (R:S->Prop)(c:∀i s' x y,x=r/\y=e->c6 i s'->iH [.t 8,.t 9] [.str x,qI y] s'->R i):gj P T j Aj (S0 [qI g,qI b,.str tx,.agg [qI (t 0),qI (t 1),qI (t 2),qI (t 3),qI (t 4),qI (t 5),qI (t 6),qI (t 7),qI (t 8),qI (t 9),qI (t 10),qI (t 11),qI (t 12),qI (t 13),qI (t 14),qI (t 15)]] Hp.emp) R (λ_ _=>False) R:=by
 have a:P.c9 tx=(tx.length:Int):=da hP tx;cbv;intro β;cbv
 repeat' first|(refine qA ?_;cbv)|(intro l;cbv)
 refine h1 _ _ ?_;cbv;refine h2 _ _ ?_;cbv;refine ab (λh=>?_) (λh=>?_)
 ·rw[ae h] at hr;cbv;refine ab (λh=>?_) (λh=>?_)
  ·have h6:500<P.c9 tx:=fJ hP h;rw[a] at h6;rw[ae qO] at hr;cbv;exact c _ _ _ _ (by simpa using hr) (c6.refl _) rfl
  ·have h6:¬500<P.c9 tx:=fM hP h;rw[a] at h6;rw[aa qO] at hr;have m:P.i64 (P.add (P.c9 o) (P.c9 tx)):=by rw[add_eq hP,da hP,da hP];exact eR hP qO
   have c3:=h3 (P.h9 o tx);rw[<-k7 hP o tx] at hr;cbv;refine⟨m,?_⟩;cbv;refine c3 _ _ ?_;cbv;exact c _ _ _ _ (by simpa using hr) (c6.refl _) rfl
 ·rw[aa (by rw[h];decide)] at hr;cbv;exact c _ _ _ _ (by simpa using hr) (c6.refl _) rfl
theorem J3{g b:Int}{t:Nat->Int}:(nT (je g b t)).1.length<=100:=by
 unfold nT
 split
 ·have:=ox (je g b t);rw[nw] at this;simp only[];omega
 ·simp
theorem Ak(g b:Int)(tx:BS)(a:tx.length<=maxLen)(t:Nat->Int):Spec Tryz.prog 25 [.int .i64 g,.int .i64 b,.str tx,kC t] Hp.emp (Is (.tup [.str (hM g b tx t).1,.int .i64 (hM g b tx t).2])):=
 ep iD J1 [.str (hM g b tx t).1,.int .i64 (hM g b tx t).2] (.tup _ (by simp;exact⟨.str _,.int _ _⟩)) λR c=>J2 dn rfl _ _ g b tx a t (gL (je g b t)) (nT (je g b t)).1 (nT (je g b t)).2 J3
  (ia (N2 g b t) (λh=>.cons (.same _) (.cons (.same _) (.cons (.same _) .nil))) rfl) (zO (Eh _ (by rw[nw];omega)) rfl rfl) (λs=>(gq 1 s).1) (λs=>(gq 1 s).2) (λs=>ia (yl ⟨1,s⟩) (λh=>.cons (.same _) .nil) rfl) (hM g b tx t).1 (hM g b tx t).2
  (by
   unfold hM nT
   by_cases h:∀n∈je g b t,mO n
   ·rw[ae h,ae h];rfl
   ·rw[aa h,aa h];rfl) R λd s' x y h he hr=>by obtain⟨rfl,rfl⟩:=h;exact c d s' he hr
def Ej:AC:=qr [qo 1 (.box 91 3 (.t 0)),qo 2 (.mov (.c qe)),qz 3 0] (qq (qr [qd 9 3 1,qa 10 114 [.t 9],qm 4 10] (qr [qm 11 4,qc 12 .neq 11 0] (qu 12 (qr [qm 13 4,qo 2 (.mov (.c qe)),qm 3 13] .ret) .skip))) (qr [qf 15 0 1,ql 16 15,qf 17 1 1,ql 18 17,qo 19 (.bslice 3 1 [.t 16,.t 18]),qa 20 68 [.t 19],qm 14 20,qx 21 0 14,qx 22 1 14,qm 5 21,qm 6 22] (qr [qf 24 2 1,ql 25 24,qa 26 115 [.t 25],qm 23 26,qx 27 0 23,qx 28 1 23,qm 7 27,qm 8 28] (qr [qm 29 5,qm 30 7,qb 31 .add 29 30,qo 32 (.build uN [(0,1,qk 2),(1,1,(.t 31))]),qa 33 70 [.t 32],qx 34 0 33,qx 35 1 33,qm 2 34,qm 3 35] .ret))))
theorem N6:fF Tryz.prog 78 Tryz.f78 Ej [.t 2,.t 3] 1 er:=⟨Tryz.func78,by decide+kernel,by kernel_rfl,by kernel_rfl,by decide+kernel⟩
theorem N7(P:Prim)(hP:P=dn)(T l:c8)(a:Bool)(w q:Int)(dr:List (List V))(c:Int)(h1:gK T 114 [.agg [qI w,qI q,.sl a 3 dr]] (qI c))(o cs:BS)(ho:o.length<=100)(m:cs.length<=10000000)
  (h2:c=0->∀(h:Hp)(K:V->Hp->Prop)(k:Nat)(b:Option Nat)(rs:List (List V)),rs=gL [w,q]->h k=some ⟨b,3,1,rs⟩->K (.tup [.str o,.bool true]) h->T 68 [.own k b 1 2] h K)
  (h3:c=0->gK T 115 [.sl a 3 dr] (.tup [.str cs,qI 0]))
  (f:BS->BS)(g:BS->Int)(h4:∀s,gK T 70 [.agg [qI 2,.str s]] (.tup [.str (f s),qI (g s)]))
  (r:BS)(e:Int)(hr:(if c≠0 then([],c) else(f (o++cs),g (o++cs)))=(r,e))
  (R:S->Prop)(i:∀j s' x y,x=r/\y=e->c6 j s'->iH [.t 2,.t 3] [.str x,qI y] s'->R j):gj P T l Ej (S0 [.agg [qI w,qI q,.sl a 3 dr]] Hp.emp) R (λ_ _=>False) R:=by
 cbv;intro β;cbv
 repeat' first|(refine qA ?_;cbv)|(intro d;cbv)
 refine h1 _ _ ?_;cbv;refine ab (λh=>?_) (λh=>?_)
 ·rw[ae (hH hP h)] at hr;cbv;exact i _ _ _ _ (by simpa using hr) (c6.refl _) rfl
 have h0:c=0:=gZ hP h;rw[aa (λx=>x h0)] at hr;have f3:=h3 h0;have n:P.i64 (P.add (P.c9 o) (P.c9 cs)):=by rw[add_eq hP,da hP,da hP];exact eR hP qO
 have c4:=h4 (P.h9 o cs);rw[<-k7 hP o cs] at hr;cbv;intro β;cbv;refine h2 h0 _ _ _ _ _ ?_ rfl ?_
 ·rfl
 cbv
 repeat' first|(refine qA ?_;cbv)|(intro d;cbv)
 refine f3 _ _ ?_;cbv;refine⟨n,?_⟩;cbv;refine c4 _ _ ?_;cbv;exact i _ _ _ _ (by simpa using hr) (c6.refl _) rfl
theorem Al(d:List Part)(h:ed d=0):(codeF d).length<=1000000:=by
 have hc:=fP h;have:=jr d.length;have key:∀l:List Part,(∀p∈l,rT p)->((l.map ll).flatten).length<=505*l.length:=by
  intro l
  induction l with
  |nil=>simp
  |cons p l ih=>
   intro hl;have:=ih λq hq=>hl q (by simp[hq]);have hp:=iU (hl p (by simp));have hn:=jr (4*(p.n+p.text.length)+p.kind).toNat;simp only[aR,bE,ag,au,ll]
   ((try simp only[nc] at*);omega)
 have:=key d hc.2.1;have:=hc.1;unfold codeF;rw[ag];omega
theorem FY{w q:Int}(h1:mO w)(h2:mO q):nT [w,q]=(iE w.toNat++iE q.toNat,true):=by
 unfold nT;rw[ae (by intro n hn;simp at hn;rcases hn with rfl|rfl<;>assumption)]
 simp[jX]
theorem Am(r:eP)(hr:fH r.delta):Spec Tryz.prog 78 [.agg (uw r)] Hp.emp (Is (.tup [.str (gQ r).1,.int .i64 (gQ r).2])):=
 ep iD N6 [.str (gQ r).1,.int .i64 (gQ r).2] (.tup _ (by simp;exact⟨.str _,.int _ _⟩)) λR c=>N7 dn rfl _ _ true r.who r.seq (r.delta.map bd) (iL r) (ia (MV r hr) (λh=>.cons (.same _) .nil) rfl) (iE r.who.toNat++iE r.seq.toNat) (if iL r=0 then codeF r.delta else[])
  (by have h1:=jr r.who.toNat;have h2:=jr r.seq.toNat;rw[ag];omega)
  (by split;(·rename_i h;have:=Al r.delta (jg h).2.2.2.2;omega);(·simp))
  (λh0 h K k b rs a hk hK=>by
   obtain⟨g1,g2,g3,g4,g5⟩:=jg h0;have hs:=Eh [r.who,r.seq] (by simp);rw[FY ⟨g1,qW⟩ ⟨g3,g4⟩] at hs;exact ur hs rfl h K k b 2 rs a (by rw[a];rfl) hk hK)
  (λh0=>by
   have g5:=(jg h0).2.2.2.2;have hs:=Cg r.delta hr.1;rw[ae g5,g5] at hs;rw[ae h0];exact im hs rfl rfl)
  (λs=>(gq 2 s).1) (λs=>(gq 2 s).2) (λs=>ia (yl ⟨2,s⟩) (λh=>.cons (.same _) .nil) rfl) (gQ r).1 (gQ r).2
  (by
   unfold gQ
   by_cases h:iL r≠0
   ·rw[ae h,ae h]
   ·rw[aa h,aa h,ae (az h)]) R λd s' x y h he hr=>by obtain⟨rfl,rfl⟩:=h;exact c d s' he hr
def An:AC:=qr [qo 0 (.mov (.c qe))] (qr [qo 4 (.build uN [(0,1,qk 3)]),qa 5 70 [.t 4],qm 3 5,qx 6 0 3,qx 7 1 3,qm 1 6,qm 2 7] (qr [qm 8 1,qm 0 8] .ret))
theorem J4:fF Tryz.prog 27 Tryz.f27 An [.t 0] 0 er:=⟨Tryz.func27,by decide+kernel,by kernel_rfl,by kernel_rfl,by decide+kernel⟩
theorem J5(P:Prim)(hP:P=dn)(T b:c8)(u:BS)(e:Int)(h1:gK T 70 [.agg [qI 3,.str []]] (.tup [.str u,qI e]))
  (R:S->Prop)(c:∀a s' x,x=u->c6 a s'->iH [.t 0] [.str x] s'->R a):gj P T b An (S0 [] Hp.emp) R (λ_ _=>False) R:=by
 cbv;refine h1 _ _ ?_;cbv;exact c _ _ _ rfl (c6.refl _) rfl
theorem Ao:Spec Tryz.prog 27 [] Hp.emp (Is (.str (gq 3 []).1)):=
 ep iD J4 [.str (gq 3 []).1] (.str _) λR a=>J5 dn rfl _ _ _ (gq 3 []).2 (ia (yl ⟨3,[]⟩) (λh=>.cons (.same _) .nil) rfl) R λb s' x h he hr=>by subst h;exact a b s' he hr
def Ap:AC:=qr [qo 0 (.mov (.c qe))] (qr [qo 4 (.build uN [(0,1,qk 3)]),qa 5 74 [.t 4],qm 3 5,qx 6 0 3,qx 7 1 3,qm 1 6,qm 2 7] (qr [qm 8 1,qm 0 8] .ret))
theorem J6:fF Tryz.prog 31 Tryz.f31 Ap [.t 0] 0 er:=⟨Tryz.func31,by decide+kernel,by kernel_rfl,by kernel_rfl,by decide+kernel⟩
theorem J7(P:Prim)(hP:P=dn)(T b:c8)(u:BS)(e:Int)(h1:gK T 74 [.agg [qI 3,.str []]] (.tup [.str u,qI e]))
  (R:S->Prop)(c:∀a s' x,x=u->c6 a s'->iH [.t 0] [.str x] s'->R a):gj P T b Ap (S0 [] Hp.emp) R (λ_ _=>False) R:=by
 cbv;refine h1 _ _ ?_;cbv;exact c _ _ _ rfl (c6.refl _) rfl
theorem Aq:Spec Tryz.prog 31 [] Hp.emp (Is (.str (gq 3 []).1)):=
 ep iD J6 [.str (gq 3 []).1] (.str _) λR a=>J7 dn rfl _ _ _ (gq 3 []).2 (ia (qp ⟨3,[]⟩) (λh=>.cons (.same _) .nil) rfl) R λb s' x h he hr=>by subst h;exact a b s' he hr
def J8:AC:=qr [qo 1 (.box 91 3 (.t 0)),qo 2 (.mov (.c qe)),qz 3 0] (qq (qr [qd 5 3 1,qa 6 118 [.t 5],qm 4 6] (qr [qm 7 4,qc 8 .neq 7 0] (qu 8 (qr [qm 9 4,qo 2 (.mov (.c qe)),qm 3 9] .ret) .skip))) (qq (.region true [qf 10 0 1,ql 11 10,qa 12 73 [.t 11],qf 13 1 1,ql 14 13,qa 15 73 [.t 14],qb 16 .add 12 15,qf 17 2 1,ql 18 17,qa 19 119 [.t 18],qb 20 .add 16 19,qo 21 (.build uN [(0,1,qk 2),(1,1,(.t 20))]),qa 22 74 [.t 21],qx 23 0 22,qx 24 1 22,qm 2 23,qm 3 24]) .ret))
theorem RK:fF Tryz.prog 82 Tryz.f82 J8 [.t 2,.t 3] 1 er:=⟨Tryz.func82,by decide+kernel,by kernel_rfl,by kernel_rfl,by decide+kernel⟩
theorem RL(P:Prim)(hP:P=dn)(T d:c8)(w q:Int)(dr:List (List V))(c:Int)(h1:gK T 118 [.agg [qI w,qI q,.sl false 3 dr]] (qI c))(a b cs:BS)(l:a.length<=5)(m:b.length<=5)(n:cs.length<=10000000)
  (h2:c=0->gK d 73 [qI w] (.str a))(f:c=0->gK d 73 [qI q] (.str b))
  (h3:c=0->gK d 119 [.sl false 3 dr] (.str cs))
  (g:BS->BS)(i:BS->Int)(h4:∀s,gK d 74 [.agg [qI 2,.str s]] (.tup [.str (g s),qI (i s)]))
  (r:BS)(e:Int)(hr:(if c≠0 then([],c) else(g (a++b++cs),i (a++b++cs)))=(r,e))
  (R:S->Prop)(j:∀k s' x y,x=r/\y=e->c6 k s'->iH [.t 2,.t 3] [.str x,qI y] s'->R k):gj P T d J8 (S0 [.agg [qI w,qI q,.sl false 3 dr]] Hp.emp) R (λ_ _=>False) R:=by
 cbv;intro β;cbv
 repeat' first|(refine qA ?_;cbv)|(intro o;cbv)
 refine h1 _ _ ?_;cbv;refine ab (λh=>?_) (λh=>?_)
 ·rw[ae (hH hP h)] at hr;cbv;exact j _ _ _ _ (by simpa using hr) (c6.refl _) rfl
 have h0:c=0:=gZ hP h;rw[aa (λx=>x h0)] at hr;have f2:=h2 h0;have f22:=f h0;have f3:=h3 h0;have p:P.i64 (P.add (P.c9 a) (P.c9 b)):=by rw[add_eq hP,da hP,da hP];exact eR hP qO
 have u:P.i64 (P.add (P.c9 (P.h9 a b)) (P.c9 cs)):=by rw[add_eq hP,da hP,da hP,k7 hP,ag];exact eR hP qO
 have c4:=h4 (P.h9 (P.h9 a b) cs);rw[<-k7 hP a b,<-k7 hP (P.h9 a b) cs] at hr;cbv;refine f2 _ _ ?_;cbv;refine f22 _ _ ?_;cbv;refine⟨p,?_⟩;cbv;refine f3 _ _ ?_;cbv;refine⟨u,?_⟩;cbv;refine c4 _ _ ?_;cbv;exact j _ _ _ _ (by simpa using hr) (c6.refl _) rfl
theorem J9(r:eP)(hr:fH r.delta):Spec Tryz.prog 82 [.agg (ca r)] Hp.emp (Is (.tup [.str (gQ r).1,.int .i64 (gQ r).2])):=
 ep iD RK [.str (gQ r).1,.int .i64 (gQ r).2] (.tup _ (by simp;exact⟨.str _,.int _ _⟩)) λR a=>RL dn rfl _ _ r.who r.seq (r.delta.map bd) (iL r) (ia (uz r hr) (λh=>.cons (.same _) .nil) rfl) (iE r.who.toNat) (iE r.seq.toNat) (if iL r=0 then codeF r.delta else[])
  (jr _) (jr _)
  (by split;(·rename_i h;have:=Al r.delta (jg h).2.2.2.2;omega);(·simp))
  (λh0=>oh (sa _ (jg h0).1 (by have:=(jg h0).2.1;omega)) (λ_=>fO rfl) rfl) (λh0=>oh (sa _ (jg h0).2.2.1 (jg h0).2.2.2.1) (λ_=>fO rfl) rfl)
  (λh0=>by rw[ae h0];exact DE (zX r.delta (jg h0).2.2.2.2) rfl rfl)
  (λs=>(gq 2 s).1) (λs=>(gq 2 s).2) (λs=>oh (qp ⟨2,s⟩) (λh=>.cons (.same _) .nil) rfl) (gQ r).1 (gQ r).2
  (by
   unfold gQ
   by_cases h:iL r≠0
   ·rw[ae h,ae h]
   ·rw[aa h,aa h,ae (az h)]) R λb s' x y h he hr=>by obtain⟨rfl,rfl⟩:=h;exact a b s' he hr
def Ar:AC:=qr [qo 7 (.box 55 16 (.t 3)),qo 8 (.mov (.c qe)),qz 9 0] (qr [qm 16 0,qm 17 1,qo 18 (.bslice 3 1 [.t 16,.t 17]),qm 10 18] (qq (qr [qd 19 16 7,qz 20 0] (.block 0 (.loop (qr [qc 21 .lss 20 8] (qq (qu 21 .skip (.exit 0)) (qq (.block 1 (qr [qo 22 (.ixa true 8 2 (.t 19) (.t 20)),qo 12 (.alloc 54 Bo),qs 2 12 22] (qR [qm 23 10,qf 24 0 12,ql 25 24,qf 26 1 12,ql 27 26,qo 28 (.bslice 3 1 [.t 25,.t 27]),qo 29 (.append 3 1 8 (.t 23) (.t 28)),qm 10 29]))) (qR [qc 30 .add 20 1,qm 20 30]))))))) (qr [qo 13 (.mov (.c qe))] (qq (qr [qm 31 10,qo 32 (.len false (.t 31)),qz 33 0] (.block 2 (.loop (qr [qb 34 .lss 33 32] (qq (qu 34 .skip (.exit 2)) (qq (.block 3 (qr [qo 35 (.iaddr 1 (.t 31) (.t 33)),ql 36 35,qm 15 36] (qq (qr [qm 37 15,qc 38 .lss 37 0,qm 39 38,qg 40 39 false (.mov (.t 15)),qg 41 39 false (.bin .gtr (.t 40) (qk 2147483647)),qo 42 (.pick (.t 39) (.c (.bool true)) (.t 41))] (qu 42 (qr [qo 8 (.mov (.c qe)),qz 9 1] .ret) .skip)) (qR [qm 43 13,qm 44 15,qa 45 73 [.t 44],qb 46 .add 43 45,qm 13 46])))) (qR [qc 47 .add 33 1,qm 33 47]))))))) (qq (qr [qm 48 2,qo 49 (.len true (.t 48)),qc 50 .gtr 49 500] (qu 50 (qr [qo 8 (.mov (.c qe)),qz 9 2] .ret) .skip)) (qr [qm 51 13,qm 52 2,qb 53 .add 51 52,qo 54 (.build uN [(0,1,qk 1),(1,1,(.t 53))]),qa 55 74 [.t 54],qx 56 0 55,qx 57 1 55,qm 8 56,qm 9 57] .ret))))))
theorem Ka:fF Tryz.prog 29 Tryz.f29 Ar [.t 8,.t 9] 4 er:=⟨Tryz.func29,by decide+kernel,by kernel_rfl,by kernel_rfl,by decide+kernel⟩
theorem Kb(P:Prim)(hP:P=dn)(T J:c8)(g b:Int)(tx:BS)(K:tx.length<=maxLen)(t:Nat->Int)(A:Int->BS)(l:∀n,mO n->A n=iE n.toNat)
  (h1:∀n,mO n->gK T 73 [qI n] (.str (A n)))
  (E:BS->BS)(F:BS->Int)(h3:∀s,gK T 74 [.agg [qI 1,.str s]] (.tup [.str (E s),qI (F s)]))
  (r:BS)(e:Int)(hr:(if∀n∈je g b t,mO n then(if 500<tx.length then([],2) else(E (jX (je g b t)++tx),F (jX (je g b t)++tx))) else([],1))=(r,e))
  (R:S->Prop)(p:∀G s' x y,x=r/\y=e->c6 G s'->iH [.t 8,.t 9] [.str x,qI y] s'->R G):gj P T J Ar (S0 [qI g,qI b,.str tx,.agg [qI (t 0),qI (t 1),qI (t 2),qI (t 3),qI (t 4),qI (t 5),qI (t 6),qI (t 7),qI (t 8),qI (t 9),qI (t 10),qI (t 11),qI (t 12),qI (t 13),qI (t 14),qI (t 15)]] Hp.emp) R (λ_ _=>False) R:=by
 have hN:∀n:Nat,P.nat (n:Int)=n:=by intro n;subst hP;rfl
 have q:P.c9 tx=(tx.length:Int):=da hP tx;cbv;intro β;cbv
 repeat' first|(refine qA ?_;cbv)|(intro M;cbv)
 refine⟨XH (je g b t),λy=>[(2,.str tx),(10,.own 1000018 y.b 1 y.c),(19,.agg [qI (t 0),qI (t 1),qI (t 2),qI (t 3),qI (t 4),qI (t 5),qI (t 6),qI (t 7),qI (t 8),qI (t 9),qI (t 10),qI (t 11),qI (t 12),qI (t 13),qI (t 14),qI (t 15)]),(20,qI y.k)],λy=>[(1000018,⟨y.b,3,1,y.rows⟩)],λy=>8-y.m,
  ⟨_,c6.refl _,⟨0,0,_,_,_,qW,rfl,rfl,rfl⟩,⟨rfl,rfl,rfl,rfl,trivial⟩,⟨rfl,trivial⟩⟩,?_⟩
 rintro⟨m,k,bb,c,rows,hm,hk,ds,hc⟩;cbv;refine ab (λh=>?_) (λh=>?_)
 ·have h5:k<8:=fJ hP h
  replace hm:m<8:=by((try simp only[nc] at*);omega)
  have f:P.fC 0 k:=iu hP qO;have k1:P.iO k 8:=kN hP qO;have k2:P.i64 (P.add k 1):=by rw[add_eq hP];exact eR hP qO
  have a:P.add k 1=((m+1:Nat):Int):=by rw[add_eq hP,hk];((try simp only[nc] at*);omega)
  have d:P.nat k=m:=by rw[hk];exact hN m
  have f4:P.nL rows c:=lx hP _ _ (by rw[ds,hc];simp[gL,nw];omega);have f5:∀r:List (List V),r.length=2->P.bytes (P.add (P.int c) (P.dv r)) 8:=by intro r B;subst hP;show((c:Int)+(r.length:Int))*8<=_;rw[hc,B];((try simp only[nc] at*);omega)
  have f6:∀x y:List V,P.nL [x,y] 2:=λx y=>lx hP _ _ rfl;have f7:P.kB rows [[qI (t (2*m))],[qI (t (2*m+1))]]=gL ((je g b t).take (2+2*(m+1))):=by
   rw[ds];subst hP;have hc:m=0\/m=1\/m=2\/m=3\/m=4\/m=5\/m=6\/m=7:=by omega
   rcases hc with rfl|rfl|rfl|rfl|rfl|rfl|rfl|rfl<;>rfl
  have f8:∀x y:List V,P.hU c (P.fQ [x,y])=2+2*(m+1):=by intro x y;subst hP;show c+2=_;omega
  clear p h5 h;have hc:m=0\/m=1\/m=2\/m=3\/m=4\/m=5\/m=6\/m=7:=by omega
  rcases hc with rfl|rfl|rfl|rfl|rfl|rfl|rfl|rfl
  ·cbv;refine⟨f,k1,0,d,?_⟩;cbv
   repeat' first|(refine And.intro (by first|assumption|decide|exact f6 _ _|exact f5 _ rfl) ?_;cbv)|(intro β;cbv)
   exact⟨_,c6.refl _,⟨0+1,_,_,_,_,qD,a,f7,f8 _ _⟩,⟨rfl,rfl,rfl,rfl,trivial⟩,⟨rfl,trivial⟩,by show 8-(0+1)<8-0;decide⟩
  ·cbv;refine⟨f,k1,1,d,?_⟩;cbv
   repeat' first|(refine And.intro (by first|assumption|decide|exact f6 _ _|exact f5 _ rfl) ?_;cbv)|(intro β;cbv)
   exact⟨_,c6.refl _,⟨1+1,_,_,_,_,qD,a,f7,f8 _ _⟩,⟨rfl,rfl,rfl,rfl,trivial⟩,⟨rfl,trivial⟩,by show 8-(1+1)<8-1;decide⟩
  ·cbv;refine⟨f,k1,2,d,?_⟩;cbv
   repeat' first|(refine And.intro (by first|assumption|decide|exact f6 _ _|exact f5 _ rfl) ?_;cbv)|(intro β;cbv)
   exact⟨_,c6.refl _,⟨2+1,_,_,_,_,qD,a,f7,f8 _ _⟩,⟨rfl,rfl,rfl,rfl,trivial⟩,⟨rfl,trivial⟩,by show 8-(2+1)<8-2;decide⟩
  ·cbv;refine⟨f,k1,3,d,?_⟩;cbv
   repeat' first|(refine And.intro (by first|assumption|decide|exact f6 _ _|exact f5 _ rfl) ?_;cbv)|(intro β;cbv)
   exact⟨_,c6.refl _,⟨3+1,_,_,_,_,qD,a,f7,f8 _ _⟩,⟨rfl,rfl,rfl,rfl,trivial⟩,⟨rfl,trivial⟩,by show 8-(3+1)<8-3;decide⟩
  ·cbv;refine⟨f,k1,4,d,?_⟩;cbv
   repeat' first|(refine And.intro (by first|assumption|decide|exact f6 _ _|exact f5 _ rfl) ?_;cbv)|(intro β;cbv)
   exact⟨_,c6.refl _,⟨4+1,_,_,_,_,qD,a,f7,f8 _ _⟩,⟨rfl,rfl,rfl,rfl,trivial⟩,⟨rfl,trivial⟩,by show 8-(4+1)<8-4;decide⟩
  ·cbv;refine⟨f,k1,5,d,?_⟩;cbv
   repeat' first|(refine And.intro (by first|assumption|decide|exact f6 _ _|exact f5 _ rfl) ?_;cbv)|(intro β;cbv)
   exact⟨_,c6.refl _,⟨5+1,_,_,_,_,qD,a,f7,f8 _ _⟩,⟨rfl,rfl,rfl,rfl,trivial⟩,⟨rfl,trivial⟩,by show 8-(5+1)<8-5;decide⟩
  ·cbv;refine⟨f,k1,6,d,?_⟩;cbv
   repeat' first|(refine And.intro (by first|assumption|decide|exact f6 _ _|exact f5 _ rfl) ?_;cbv)|(intro β;cbv)
   exact⟨_,c6.refl _,⟨6+1,_,_,_,_,qD,a,f7,f8 _ _⟩,⟨rfl,rfl,rfl,rfl,trivial⟩,⟨rfl,trivial⟩,by show 8-(6+1)<8-6;decide⟩
  ·cbv;refine⟨f,k1,7,d,?_⟩;cbv
   repeat' first|(refine And.intro (by first|assumption|decide|exact f6 _ _|exact f5 _ rfl) ?_;cbv)|(intro β;cbv)
   exact⟨_,c6.refl _,⟨7+1,_,_,_,_,qD,a,f7,f8 _ _⟩,⟨rfl,rfl,rfl,rfl,trivial⟩,⟨rfl,trivial⟩,by show 8-(7+1)<8-7;decide⟩
 have h5:¬k<8:=fM hP h;have i:m=8:=by((try simp only[nc] at*);omega)
 have u:rows=gL (je g b t):=by rw[ds,i];rfl
 have C:c=18:=by rw[hc,i]
 have v:(je g b t).length=18:=nw g b t;clear h5 h i hN;obtain⟨L,H⟩:∃L,je g b t=L:=⟨_,rfl⟩;rw[H] at hr u v;clear H;cbv;refine⟨XG L,λy=>[(2,.str tx),(13,.str y.o),(31,.own 1000018 bb 1 c),(32,qI (P.int c)),(33,qI y.k)],λy=>[(1000018,⟨bb,3,1,rows⟩)],λy=>y.rest.length,
  ⟨_,c6.refl _,⟨0,[],L,[],rfl,rfl,rfl,by simp⟩,⟨rfl,rfl,rfl,rfl,rfl,trivial⟩,⟨rfl,trivial⟩⟩,?_⟩
 rintro⟨k,pre,rest,o,hd,hk,ho,pd⟩
 replace hk:k=(pre.length:Int):=hk
 have w:pre.length+rest.length=18:=by rw[<-v,hd];simp
 have j:P.int c=18:=by rw[int_eq hP,C];rfl
 cbv;refine ab (λh=>?_) (λh=>?_)
 ·have h6:k<P.int c:=fJ hP h;rw[j] at h6
  rcases rest with _|⟨n,rest⟩
  ·exfalso;simp at w;((try simp only[nc] at*);omega)
  have z:P.row rows (P.nat k) [qI n]:=ga hP hk (by rw[u,gL,av,hd];simp);have k1:P.fC 0 k:=iu hP qO;have d:P.iO k (P.int c):=kN hP (by rw[j];exact h6);have k2:P.i64 (P.add k 1):=by rw[add_eq hP];exact eR hP qO
  have a:P.add k 1=(((pre++[n]).length:Nat):Int):=by rw[add_eq hP,hk];simp
  have I:=ox pre;have bad:¬mO n->[]=r/\1=e:=λg=>by
   rw[aa (λx=>g (x n (by rw[hd];simp)))] at hr;simpa using hr
  cbv;refine⟨k1,d,_,z,?_⟩;cbv;refine ab (λh=>?_) (λh=>?_)
  ·have g:=fJ hP h;cbv;exact p _ _ _ _ (bad (by unfold mO;omega)) (c6.refl _) rfl
  have g1:=fM hP h;cbv;refine ab (λh=>?_) (λh=>?_)
  ·have g:=fJ hP h;cbv;exact p _ _ _ _ (bad (by unfold mO;omega)) (c6.refl _) rfl
  have g2:=fM hP h;have g:mO n:=by unfold mO;omega
  have c1:=h1 n g;have D:P.i64 (P.add (P.c9 o) (P.c9 (A n))):=by
   rw[add_eq hP,da hP,da hP,ho,l n g];have:=jr n.toNat;exact eR hP qO
  have N:P.h9 o (A n)=jX (pre++[n]):=by rw[k7 hP,xr,ho,l n g]
  have O:∀x∈pre++[n],mO x:=by
   intro x hx
   rcases bn.1 hx with hx|hx
   ·exact pd x hx
   ·rw[aq.1 hx];exact g
  cbv;refine c1 _ _ ?_;cbv;refine⟨D,?_⟩;cbv;refine⟨k2,?_⟩;exact⟨_,c6.refl _,⟨_,pre++[n],rest,_,by simp[hd],a,N,O⟩,⟨rfl,rfl,rfl,rfl,rfl,trivial⟩,⟨rfl,trivial⟩,by simp⟩
 ·have h6:¬k<P.int c:=fM hP h;rw[j] at h6
  rcases rest with _|⟨y,rest⟩
  rotate_left
  ·exfalso;simp at w;((try simp only[nc] at*);omega)
  rw[aS] at hd;rw[<-hd] at pd ho;have I:=ox L;rw[ae pd,<-ho] at hr;rw[<-ho] at I;cbv;refine ab (λh=>?_) (λh=>?_)
  ·have h6:500<P.c9 tx:=fJ hP h;rw[q] at h6;rw[ae qO] at hr;cbv;exact p _ _ _ _ (by simpa using hr) (c6.refl _) rfl
  ·have h6:¬500<P.c9 tx:=fM hP h;rw[q] at h6;rw[aa qO] at hr;have D:P.i64 (P.add (P.c9 o) (P.c9 tx)):=by rw[add_eq hP,da hP,da hP];exact eR hP qO
   have c3:=h3 (P.h9 o tx);rw[<-k7 hP o tx] at hr;cbv;refine⟨D,?_⟩;cbv;refine c3 _ _ ?_;cbv;exact p _ _ _ _ (by simpa using hr) (c6.refl _) rfl
theorem As(g b:Int)(tx:BS)(a:tx.length<=maxLen)(t:Nat->Int):Spec Tryz.prog 29 [.int .i64 g,.int .i64 b,.str tx,kC t] Hp.emp (Is (.tup [.str (hM g b tx t).1,.int .i64 (hM g b tx t).2])):=
 ep iD Ka [.str (hM g b tx t).1,.int .i64 (hM g b tx t).2] (.tup _ (by simp;exact⟨.str _,.int _ _⟩)) λR c=>Kb dn rfl _ _ g b tx a t (λn=>iE n.toNat) (λ_ _=>rfl)
  (λn h=>im (sa n h.1 h.2) rfl rfl) (λs=>(gq 1 s).1) (λs=>(gq 1 s).2) (λs=>ia (qp ⟨1,s⟩) (λh=>.cons (.same _) .nil) rfl) (hM g b tx t).1 (hM g b tx t).2
  rfl R λd s' x y h he hr=>by obtain⟨rfl,rfl⟩:=h;exact c d s' he hr
theorem qB(f:Nat)(vs:List V)(h h':Hp)(K:V->Hp->Prop)(he:jU h h')(hc:fm Tryz.prog f vs h' K):fm Tryz.prog f vs h K:=by
 obtain⟨h0,h1,h2⟩:=hc;exact⟨h0,jU.trans he h1,h2⟩
theorem FZ(P:Prim)(hP:P=dn)(T o:c8)(bl:Nat)(ba:Option Nat)(d:SC)(mv:V)(p:V.one mv=true)(n:Nat)(rows:List (List V))(hn:n=rows.length)(s:n<=100)(w:Nat)(hw:w<8)(a q:Int)(k:a=(w:Int))(dr:List (List V))(hb:0<=d.b/\d.b<=4294967295)
  (e:List (List V))(f:e=rows++[[qI a,qI q,.sl false 3 dr]])(n':Nat)(h:n'=n+1)(v:Int)(hv:v=d.b+(n:Int)+1)
  (R:S->Prop)(g:∀(m s':S)(l:Option Nat)(i:Nat->Int)(r2:List (List V))(n2:Nat),(∀j,i j=gJ d.tb w q v j)->r2=e->n2=n'->c6 m s'->lM s' [] (λx=>l4 x=.tup [])->
   fG (S2 bl {d with tb:=i} l n2 r2 mv) s'->R m):
  gj P T o ym (S0 [.ptr 0 (some bl) 47 0 5,.agg [qI a,qI q,.sl false 3 dr]] (cp (S2 bl d ba n rows mv))) R (λ_ _=>False) R:=by
 have f4:P.nL rows n:=lx hP _ _ hn.symm;have f5:∀r,P.bytes (P.add (P.int n) (P.dv [r])) 40:=by intro r;subst hP;show((n:Int)+1)*40<=_;((try simp only[nc] at*);omega)
 have f6:∀r,P.nL [r] 1:=by intro r;subst hP;rfl
 have f7:P.kB rows [[qI a,qI q,.sl false 3 dr]]=e:=by rw[f];subst hP;rfl
 have f8:∀r:List V,P.hU n (P.fQ [r])=n':=by intro r;rw[h];subst hP;rfl
 have f9:∀r:List V,P.int (P.hU n (P.fQ [r]))=(n:Int)+1:=by intro r;rw[f8,h,int_eq hP];((try simp only[nc] at*);omega)
 have g1:∀r:List V,P.add d.b (P.int (P.hU n (P.fQ [r])))=v:=by intro r;rw[add_eq hP,f9,hv];omega
 have g2:∀r:List V,P.i64 (P.add d.b (P.int (P.hU n (P.fQ [r])))):=by intro r;rw[g1,hv];exact eR hP qO
 have q1:P.fC 0 a:=iu hP qW;have q2:P.iO a 8:=kN hP qW;have c:P.nat a=w:=by rw[k];subst hP;rfl
 cbv
 repeat' first|(refine And.intro (by first|assumption|decide|exact f6 _|exact f5 _|exact g2 _) ?_;cbv)|(intro t;cbv)
 have hc:w=0\/w=1\/w=2\/w=3\/w=4\/w=5\/w=6\/w=7:=by omega
 have g3:=g1 [qI a,qI q,.sl false 3 dr];have g4:=f8 [qI a,qI q,.sl false 3 dr]
 rcases hc with rfl|rfl|rfl|rfl|rfl|rfl|rfl|rfl
 ·refine⟨0,c,?_⟩;cbv;exact g _ _ _ (λj=>if j=0 then q else if j=1 then P.add d.b (P.int (P.hU n (P.fQ [[qI a,qI q,.sl false 3 dr]]))) else d.tb j) _ _ (λj=>by rw[g3];rfl) f7 g4 (c6.refl _) rfl ⟨rfl,rfl,trivial⟩
 ·refine⟨1,c,?_⟩;cbv;exact g _ _ _ (λj=>if j=2 then q else if j=3 then P.add d.b (P.int (P.hU n (P.fQ [[qI a,qI q,.sl false 3 dr]]))) else d.tb j) _ _ (λj=>by rw[g3];rfl) f7 g4 (c6.refl _) rfl ⟨rfl,rfl,trivial⟩
 ·refine⟨2,c,?_⟩;cbv;exact g _ _ _ (λj=>if j=4 then q else if j=5 then P.add d.b (P.int (P.hU n (P.fQ [[qI a,qI q,.sl false 3 dr]]))) else d.tb j) _ _ (λj=>by rw[g3];rfl) f7 g4 (c6.refl _) rfl ⟨rfl,rfl,trivial⟩
 ·refine⟨3,c,?_⟩;cbv;exact g _ _ _ (λj=>if j=6 then q else if j=7 then P.add d.b (P.int (P.hU n (P.fQ [[qI a,qI q,.sl false 3 dr]]))) else d.tb j) _ _ (λj=>by rw[g3];rfl) f7 g4 (c6.refl _) rfl ⟨rfl,rfl,trivial⟩
 ·refine⟨4,c,?_⟩;cbv;exact g _ _ _ (λj=>if j=8 then q else if j=9 then P.add d.b (P.int (P.hU n (P.fQ [[qI a,qI q,.sl false 3 dr]]))) else d.tb j) _ _ (λj=>by rw[g3];rfl) f7 g4 (c6.refl _) rfl ⟨rfl,rfl,trivial⟩
 ·refine⟨5,c,?_⟩;cbv;exact g _ _ _ (λj=>if j=10 then q else if j=11 then P.add d.b (P.int (P.hU n (P.fQ [[qI a,qI q,.sl false 3 dr]]))) else d.tb j) _ _ (λj=>by rw[g3];rfl) f7 g4 (c6.refl _) rfl ⟨rfl,rfl,trivial⟩
 ·refine⟨6,c,?_⟩;cbv;exact g _ _ _ (λj=>if j=12 then q else if j=13 then P.add d.b (P.int (P.hU n (P.fQ [[qI a,qI q,.sl false 3 dr]]))) else d.tb j) _ _ (λj=>by rw[g3];rfl) f7 g4 (c6.refl _) rfl ⟨rfl,rfl,trivial⟩
 ·refine⟨7,c,?_⟩;cbv;exact g _ _ _ (λj=>if j=14 then q else if j=15 then P.add d.b (P.int (P.hU n (P.fQ [[qI a,qI q,.sl false 3 dr]]))) else d.tb j) _ _ (λj=>by rw[g3];rfl) f7 g4 (c6.refl _) rfl ⟨rfl,rfl,trivial⟩
def vB(d:SC)(l:List eP)(r:eP):SC:= {d with tb:=gJ d.tb r.who.toNat r.seq (d.b+(l.length:Int)+1)}
theorem F1(bl:Nat)(ba:Option Nat)(d:SC)(l:List eP)(hl:l.length<=100)(r:eP)(hw:0<=r.who/\r.who<=7)(hb:0<=d.b/\d.b<=4294967295)(mv:V)(hq:MQ mv):
  Spec Tryz.prog 80 [.ptr 0 (some bl) 47 0 5,.agg (ca r)] (cp (S2 bl d ba l.length (l.map ca) mv)) λx h'=>∃c,(x=.tup []/\∃a,c=S2 bl (vB d l r) a (l.length+1) ((l++[r]).map ca) mv)/\h'=cp c:=
 fu iD D7 (L:=S2 bl d ba l.length (l.map ca) mv) (λx c=>x=.tup []/\∃a,c=S2 bl (vB d l r) a (l.length+1) ((l++[r]).map ca) mv) λR i=>
  FZ dn rfl _ _ bl ba d mv hq.1.2 l.length (l.map ca) (by simp) hl r.who.toNat qW r.who r.seq qW (r.delta.map bd) hb ((l++[r]).map ca) (by simp[ca,gh]) (l.length+1) rfl (d.b+(l.length:Int)+1) rfl R
   λj s' a f r2 n2 kH g h he hr ha=>by
    have e:f=gJ d.tb r.who.toNat r.seq (d.b+(l.length:Int)+1):=funext kH;rw[e,g,h] at ha;exact i j s' (.tup []) (S2 bl (vB d l r) a (l.length+1) ((l++[r]).map ca) mv) he hr ha (.tup _ (λv hv=>by cases hv)) (JU hq.1.1) ⟨rfl,a,rfl⟩
def Ek(T:c8):Prop:=∀(k ka bl:Nat)(d:SC)(ba:Option Nat)(n:Nat)(rows:List (List V))(l:List eP)(mv:V)(w q:Int)(dr:List (List V))(r:eP)(h:Hp)(K:V->Hp->Prop),rows=l.map ca->n=l.length->l.length<=100->(w=r.who/\q=r.seq/\dr=r.delta.map bd)->(0<=r.who/\r.who<=7)->(0<=d.b/\d.b<=4294967295)->MQ mv->Nat.beq k ka=false->ys k ka mv=true->
 h k=some (fx bl (fw d (.own ka ba 3 n) mv))->h ka=some (iw ba rows)->(∀c d' n' a,d'=vB d l r->n'=l.length+1->a=(l++[r]).map ca->K (.tup []) (Hp.put (Hp.put h k (fx bl (fw d' (.own ka c 3 n') mv))) ka (iw c a)))->T 80 [.ptr k (some bl) 47 0 5,.agg [qI w,qI q,.sl false 3 dr]] h K
theorem Kc:Ek (fm Tryz.prog):=by
 rintro k ka bl d ba n rows l mv w q dr r h K rfl rfl hl ⟨rfl,rfl,rfl⟩ hw hb hq hne hr hk a hK;exact RI (off:=5) (Q:=MQ) (rest:=[.agg (ca r)]) (λg=>hq.rl g) (λmv hq=>F1 bl ba d l hl r hw hb mv hq) (λh=>.cons (.same _) .nil) (λ_=>rfl) hq.1.1 hne hr hk a λb=>hK b _ _ _ rfl rfl rfl
def Z0:SC:=⟨[],0,[],0,0,0,0,[],λ_=>0,λ_=>0,false,0,[],0,false⟩
def Pz(t:BS):SC:= {jj (jd Z0 0 t) 0 with gn:=1,b:=0,tx:=[],fs:=λ_=>0,tb:=λ_=>0,wh:=true,gd:=0}
def El:AC:=qr [qo 0 (.mov (.c (.pointer none)))] (qr [qo 4 (.build Xg []),qo 5 (.box 75 47 (.t 4)),qm 1 5] (qr [qm 7 1,qn 8 7,qf 9 5 8,qf 10 19 9,qd 11 16 10,qa 12 25 [qk 1,qk 0,(.c qe),.t 11],qm 6 12,qx 13 0 6,qx 14 1 6,qm 2 13,qm 3 14] (qr [qm 15 1,qm 16 2,qa 17 27 [],qb 18 .add 16 17,qa 19 26 [.t 15,qk 0,.t 18]] (qr [qm 20 1,qa 21 28 [.t 20,qk 0]] (qr [qm 22 1,qo 23 (.build xJ [(0,1,qk 1),(36,1,(.c (.bool true)))]),qn 24 22,qf 25 5 24,qs 38 25 23] (qr [qm 26 1,qm 0 26] .ret))))))
theorem N8:fF Tryz.prog 5 Tryz.f5 El [.t 0] 0 er:=⟨Tryz.func5,by decide+kernel,by kernel_rfl,by kernel_rfl,by decide+kernel⟩
theorem N9(P:Prim)(hP:P=dn)(T i:c8)(a:vA T)(e:Ac T)(t1 t2:BS)(e1:Int)(h1:gK T 25 [qI 1,qI 0,.str [],kC λ_=>0] (.tup [.str t1,qI e1]))(h2:gK T 27 [] (.str t2))(hl:t1.length+t2.length<=100000)
  (R:S->Prop)(j:∀(s s':S)(β:Nat)(d:SC),d=Pz (t1++t2)->c6 s s'->iH [.t 0] [.ptr 5 (some β) 47 0 0] s'->fG [(5,fx β (fw d (.own 6 none 3 0) .nil)),(6,iw none [])] s'->R s):gj P T i El (S0 [] Hp.emp) R (λ_ _=>False) R:=by
 have g1:P.i64 (P.add (P.c9 t1) (P.c9 t2)):=by rw[add_eq hP,da hP,da hP];exact eR hP qW
 have g2:P.h9 t1 t2=t1++t2:=by subst hP;rfl
 cbv
 repeat' first|(refine qA ?_;cbv)|(intro f;cbv)|(refine h1 _ _ ?_;cbv)|(refine h2 _ _ ?_;cbv)|fail
 refine a 5 _ Z0 .nilsl .nil _ _ _ _ (by rw[g2,ag];omega) ⟨⟨.nilsl,rfl⟩,.nil,rfl⟩ rfl rfl rfl λd1 g=>?_;cbv
 repeat' first|(refine qA ?_;cbv)|(intro f;cbv)|(refine e 5 _ d1 .nilsl .nil _ _ _ ⟨⟨.nilsl,rfl⟩,.nil,rfl⟩ rfl rfl rfl λd2 h=>?_;cbv)|fail
 exact j _ _ _ {d2 with gn:=1,b:=0,tx:=[],fs:=λ_=>0,tb:=λ_=>0,wh:=true,gd:=0} (by rw[h,g,g2];rfl) (c6.mK (k:=5) (k':=6) (ty:=91) (sz:=3) (r:=0) (c:=40) rfl rfl rfl rfl) rfl ⟨rfl,rfl,trivial⟩
def mP:SC:=Pz ((hM 1 0 [] λ_=>0).1++(gq 3 []).1)
def uG:AC:=qr [qo 3 (.box 91 3 (.t 1)),qz 4 0,qz 5 0] (qq (qq (.region true [qm 9 0,qn 10 9,qf 11 5 10,qd 12 38 11,qm 13 0,qn 14 13,qf 15 43 14,ql 16 15,qo 17 (.len true (.t 16)),qd 18 3 3,qa 19 77 [.t 12,.t 17,.t 18],qm 6 19]) (qr [qm 20 6,qc 21 .neq 20 0] (qu 21 (qr [qm 22 6,qz 4 0,qm 5 22] .ret) .skip))) (qr [qf 23 2 3,ql 24 23,qo 25 (.append 115 3 32 (.c (.slice none 0 0)) (.t 24)),qf 26 2 3,qs 1 26 25] (qr [qd 28 3 3,qa 29 78 [.t 28],qm 27 29,qx 30 0 27,qx 31 1 27,qm 7 30,qm 8 31] (qq (qr [qm 32 8,qc 33 .neq 32 0] (qu 33 (qr [qm 34 8,qz 4 0,qm 5 34] .ret) .skip)) (qr [qm 35 0,qm 36 0,qn 37 36,qf 38 4 37,ql 39 38,qm 40 7,qa 41 26 [.t 35,.t 39,.t 40]] (qq (qr [qm 42 0,qn 43 42,qf 44 45 43,ql 45 44,qo 46 (.eqp true (.t 45) (.c (.pointer none))),qm 47 46,qg 48 47 true (.mov (.t 0)),qg 49 47 true (.nilchk (.t 48)),qg 50 47 true (.faddr 45 (.t 49)),qg 51 47 true (.load1 (.t 50)),qg 52 47 true (.nilchk (.t 51)),qg 53 47 true (.faddr 2 (.t 52)),qg 54 47 true (.load1 (.t 53)),qo 55 (.pick (.t 47) (.t 54) (.c (.bool false)))] (qu 55 (qR [qm 56 0,qm 57 0,qn 58 57,qf 59 4 58,ql 60 59,qo 61 (.bin .sub (qk 1) (.t 60)),qm 62 7,qa 63 26 [.t 56,.t 61,.t 62]]) .skip)) (qq (.region true [qm 65 0,qf 66 2 3,ql 67 66,qm 68 0,qn 69 68,qf 70 43 69,ql 71 70,qa 72 79 [.t 67,.t 71],qm 64 72,qx 73 0 64,qx 74 1 64,qn 75 65,qf 76 43 75,qs 1 76 73]) (qq (qq (.region true [qm 77 0,qn 78 77,qf 79 5 78,qd 80 3 3]) (qR [qa 81 80 [.t 79,.t 80]])) (qr [qm 82 0,qa 83 34 [.t 82],qm 4 83,qz 5 0] .ret)))))))))
theorem Oa:fF Tryz.prog 43 Tryz.f43 uG [.t 4,.t 5] 2 er:=⟨Tryz.func43,by decide+kernel,by kernel_rfl,by kernel_rfl,by decide+kernel⟩
structure rD where
 d:SC
 l:List eP
 v:Int
 e:Int
def TX:BS:=(hM 1 0 [] λ_=>0).1
def PA:BS:=(gq 3 []).1
theorem Cz(k:Int)(b:BS):(oc k b).length=b.length+7:=by
 simp[oc,iZ,ko]
theorem qC(k:Int)(b:BS):(gq k b).1.length<=4007:=by
 unfold gq
 split
 ·simp
 ·split
  ·simp
  ·rename_i h;rw[Cz];omega
theorem xt(g b:Int)(tx:BS)(t:Nat->Int):(hM g b tx t).1.length<=4007:=by
 unfold hM
 split
 ·split
  ·simp
  ·exact qC _ _
 ·simp
theorem sm(r:eP):(gQ r).1.length<=4007:=by
 unfold gQ
 split
 ·simp
 ·exact qC _ _
theorem Kd:TX.length+PA.length<=100000:=by
 have h1:=xt 1 0 [] λ_=>0;have h2:=qC 3 [];show(hM 1 0 [] λ_=>0).1.length+(gq 3 []).1.length<=_;omega
theorem Oc:Spec Tryz.prog 5 [] (cp []) λx h'=>∃a,(∃β,x=.ptr 5 (some β) 47 0 0/\a=[(5,fx β (fw mP (.own 6 none 3 0) .nil)),(6,iw none [])])/\h'=cp a:=
 fu iD N8 (L:=[]) (λx a=>∃β,x=.ptr 5 (some β) 47 0 0/\a=[(5,fx β (fw mP (.own 6 none 3 0) .nil)),(6,iw none [])]) λR b=>
  N9 dn rfl _ _ xq Ee TX PA _ (ia (Ak 1 0 [] (by simp) λ_=>0) (λ_=>.cons (.same _) (.cons (.same _) (.cons (.same _) (.cons (.same _) .nil)))) rfl) (im Ao rfl rfl) Kd R
   λs s' β d hd he hr ha=>by
    subst hd;refine b s s' (.ptr 5 (some β) 47 0 0) [(5,fx β (fw mP (.own 6 none 3 0) .nil)),(6,iw none [])] he (eM _ _ _ (λx hx=>by rw[hx];rfl) hr) ha (.ptr _ _ _ _ _) (λp hp=>?_) ⟨β,rfl,rfl⟩
    rcases aw.1 hp with rfl|hp
    ·exact jB (.own _ _ _ _) .nil β
    ·rw[aq.1 hp];exact fL []
def PB(T:c8):Prop:=∀(k ka:Nat)(h:Hp)(K:V->Hp->Prop),h k=none->h ka=none->Nat.beq k ka=false->Nat.beq ka 5=false->(∀β d,d=mP->K (.ptr k (some β) 47 0 0) (Hp.put (Hp.put h k (fx β (fw d (.own ka none 3 0) .nil))) ka (iw none [])))->T 5 [] h K
theorem TY:PB (fm Tryz.prog):=by
 intro k ka h K hk d hne c hK;have b:k≠ka:=by intro e;subst e;rw[bO] at hne;cases hne
 have a:¬ka=k:=λe=>b e.symm;have h6:gD [(5,k),(6,ka)] 6=ka:=by simp[gD]
 have h5:gD [(5,k),(6,ka)] 5=k:=by simp[gD]
 refine mA Oc (m:=[(5,k),(6,ka)]) .nil (λj o hj=>by cases hj) (λq hq=>?_) ?_
 ·simp only[aw,aD,bw] at hq
  rcases hq with rfl|rfl
  ·exact⟨h5,by simp[gW],λo ho=>by cases ho⟩
  ·exact⟨h6,by simp[gW,a],λo ho=>by cases ho⟩
 ·rintro v f ⟨β,rfl,rfl⟩;have e:h.gy [(5,k),(6,ka)] (cp [(5,fx β (fw mP (.own 6 none 3 0) .nil)),(6,iw none [])])=Hp.put (Hp.put h k (fx β (fw mP (.own ka none 3 0) .nil))) ka (iw none []):=by
   funext i
   simp only[Hp.gy,Hp.put,bK,bP,bN,bG,bc]
   by_cases h1:ka=i
   ·subst h1;have hb:gW [(5,k),(6,ka)] ka=6:=by simp[gW,a]
    rw[ae (.inr rfl),ae rfl,hb];rfl
   ·by_cases h2:k=i
    ·subst h2;have hb:gW [(5,k),(6,ka)] k=5:=by simp[gW]
     rw[ae (.inl rfl),aa (λe=>h1 e.symm),ae rfl,hb];show(some (fx β (fw mP (.own 6 none 3 0) .nil))).map (Ob.gM (gD [(5,k),(6,ka)]))=_;rw[aE,iM];show some (fx β (fw mP (.own (gD [(5,k),(6,ka)] 6) none 3 0) .nil))=_;rw[h6]
    ·rw[aa (by rintro(h|h);exact h2 h;exact h1 h),aa (λe=>h1 e.symm),aa (λe=>h2 e.symm)]
  rw[e];have:(V.ptr 5 (some β) 47 0 0).gM (gD [(5,k),(6,ka)])=.ptr k (some β) 47 0 0:=by
   show V.ptr (gD [(5,k),(6,ka)] 5) (some β) 47 0 0=_;rw[h5]
  rw[this];exact hK β _ rfl
theorem Od{d:SC}{ba:Option Nat}{l:List eP}{h:Hp}(h1:h 1000001=some ⟨ba,91,3,l.map ca⟩):Arg h [] (.agg [.int .i64 d.gn,.int .i64 d.b,.str d.tx,.int .i64 (d.fs 0),.int .i64 (d.fs 1),.int .i64 (d.fs 2),.int .i64 (d.fs 3),.int .i64 (d.fs 4),.int .i64 (d.fs 5),.int .i64 (d.fs 6),.int .i64 (d.fs 7),.int .i64 (d.fs 8),.int .i64 (d.fs 9),.int .i64 (d.fs 10),.int .i64 (d.fs 11),.int .i64 (d.fs 12),.int .i64 (d.fs 13),.int .i64 (d.fs 14),.int .i64 (d.fs 15),.int .i64 (d.tb 0),.int .i64 (d.tb 1),.int .i64 (d.tb 2),.int .i64 (d.tb 3),.int .i64 (d.tb 4),.int .i64 (d.tb 5),.int .i64 (d.tb 6),.int .i64 (d.tb 7),.int .i64 (d.tb 8),.int .i64 (d.tb 9),.int .i64 (d.tb 10),.int .i64 (d.tb 11),.int .i64 (d.tb 12),.int .i64 (d.tb 13),.int .i64 (d.tb 14),.int .i64 (d.tb 15),.own 1000001 ba 3 l.length,.bool d.wh,.int .i64 d.gd]) (M3 d.gn d.b d.tx d.fs d.tb (l.map ca) d.wh d.gd):=by
 have hown:Arg h [] (.own 1000001 ba 3 l.length) (.sl true 3 (l.map ca)):=.own 1000001 ba 3 l.length _ (jO (by simp) h1) (by simp);obtain⟨a1,a2⟩:=sk (h:=h) (m:=[]) (l:=[.int .i64 d.gn,.int .i64 d.b,.str d.tx,.int .i64 (d.fs 0),.int .i64 (d.fs 1),.int .i64 (d.fs 2),.int .i64 (d.fs 3),.int .i64 (d.fs 4),.int .i64 (d.fs 5),.int .i64 (d.fs 6),.int .i64 (d.fs 7),.int .i64 (d.fs 8),.int .i64 (d.fs 9),.int .i64 (d.fs 10),.int .i64 (d.fs 11),.int .i64 (d.fs 12),.int .i64 (d.fs 13),.int .i64 (d.fs 14),.int .i64 (d.fs 15),.int .i64 (d.tb 0),.int .i64 (d.tb 1),.int .i64 (d.tb 2),.int .i64 (d.tb 3),.int .i64 (d.tb 4),.int .i64 (d.tb 5),.int .i64 (d.tb 6),.int .i64 (d.tb 7),.int .i64 (d.tb 8),.int .i64 (d.tb 9),.int .i64 (d.tb 10),.int .i64 (d.tb 11),.int .i64 (d.tb 12),.int .i64 (d.tb 13),.int .i64 (d.tb 14),.int .i64 (d.tb 15),.own 1000001 ba 3 l.length,.bool d.wh,.int .i64 d.gd]) (l':=[.int .i64 d.gn,.int .i64 d.b,.str d.tx,.int .i64 (d.fs 0),.int .i64 (d.fs 1),.int .i64 (d.fs 2),.int .i64 (d.fs 3),.int .i64 (d.fs 4),.int .i64 (d.fs 5),.int .i64 (d.fs 6),.int .i64 (d.fs 7),.int .i64 (d.fs 8),.int .i64 (d.fs 9),.int .i64 (d.fs 10),.int .i64 (d.fs 11),.int .i64 (d.fs 12),.int .i64 (d.fs 13),.int .i64 (d.fs 14),.int .i64 (d.fs 15),.int .i64 (d.tb 0),.int .i64 (d.tb 1),.int .i64 (d.tb 2),.int .i64 (d.tb 3),.int .i64 (d.tb 4),.int .i64 (d.tb 5),.int .i64 (d.tb 6),.int .i64 (d.tb 7),.int .i64 (d.tb 8),.int .i64 (d.tb 9),.int .i64 (d.tb 10),.int .i64 (d.tb 11),.int .i64 (d.tb 12),.int .i64 (d.tb 13),.int .i64 (d.tb 14),.int .i64 (d.tb 15),.sl true 3 (l.map ca),.bool d.wh,.int .i64 d.gd]) ((.cons (.same _) (.cons (.same _) (.cons (.same _) (.cons (.same _) (.cons (.same _) (.cons (.same _) (.cons (.same _) (.cons (.same _) (.cons (.same _) (.cons (.same _) (.cons (.same _) (.cons (.same _) (.cons (.same _) (.cons (.same _) (.cons (.same _) (.cons (.same _) (.cons (.same _) (.cons (.same _) (.cons (.same _) (.cons (.same _) (.cons (.same _) (.cons (.same _) (.cons (.same _) (.cons (.same _) (.cons (.same _) (.cons (.same _) (.cons (.same _) (.cons (.same _) (.cons (.same _) (.cons (.same _) (.cons (.same _) (.cons (.same _) (.cons (.same _) (.cons (.same _) (.cons (.same _) (.cons hown (.cons (.same _) (.cons (.same _) .nil)))))))))))))))))))))))))))))))))))))));exact .agg _ _ a1 a2
structure L3 where
 a:Int
 b:Int
 e:Int
def iX(tb:Nat->Int)(w:Int):L3:=if w<0\/7<w then⟨0,0,1⟩ else⟨tb (2*w.toNat),tb (2*w.toNat+1),0⟩
def Au:AC:=qr [qo 4 (.alloc 54 Bo),qz 5 0] (qq (qr [qm 6 1,qc 7 .lss 6 0,qm 8 7,qg 9 8 false (.mov (.t 1)),qg 10 8 false (.bin .gtr (.t 9) (qk 7)),qo 11 (.pick (.t 8) (.c (.bool true)) (.t 10))] (qu 11 (qr [qo 12 (.build Bo []),qs 2 4 12,qz 5 1] .ret) .skip)) (qr [qm 13 0,qm 14 1,qn 15 13,qf 16 5 15,qf 17 19 16,qo 18 (.iarr 8 2 (.t 17) (.t 14)),qd 19 2 18,qs 2 4 19,qz 5 0] .ret))
theorem Ke:fF Tryz.prog 37 Tryz.f37 Au [.cn 4 2,.t 5] 2 er:=⟨Tryz.func37,by decide+kernel,by kernel_rfl,by kernel_rfl,by decide+kernel⟩
theorem Kf(P:Prim)(hP:P=dn)(T m:c8)(bl:Nat)(d:SC)(rv mv:V)(n:V.one rv=true)(o:V.one mv=true)(j:Int)(w:Nat)(hw:0<=j->j=(w:Int))(Y:L3)(i:Y=if j<0\/7<j then⟨0,0,1⟩ else⟨d.tb (2*w),d.tb (2*w+1),0⟩)
  (R:S->Prop)(k:∀s s' a b e,a=Y.a/\b=Y.b/\e=Y.e->c6 s s'->iH [.cn 4 2,.t 5] [.agg [qI a,qI b],qI e] s'->fG (S1 bl d rv mv) s'->R s):gj P T m Au (S0 [.ptr 0 (some bl) 47 0 0,qI j] (cp (S1 bl d rv mv))) R (λ_ _=>False) R:=by
 cbv
 repeat' first|(refine qA ?_;cbv)|(intro c;cbv)
 refine ab (λg=>?_) (λg=>?_)
 ·have g1:j<0:=fJ hP g;rw[ae (.inl g1)] at i;cbv
  repeat' first|(refine qA ?_;cbv)|(intro c;cbv)
  refine k _ _ _ _ _ ⟨?_,?_,?_⟩ (c6.refl _) ⟨rfl,rfl,an 0,ah 2,rfl⟩ ⟨rfl,trivial⟩<;>rw[i]
 have g1:¬j<0:=fM hP g;cbv
 repeat' first|(refine qA ?_;cbv)|(intro c;cbv)
 refine ab (λg=>?_) (λg=>?_)
 ·have g2:7<j:=fJ hP g;rw[ae (.inr g2)] at i;cbv
  repeat' first|(refine qA ?_;cbv)|(intro c;cbv)
  refine k _ _ _ _ _ ⟨?_,?_,?_⟩ (c6.refl _) ⟨rfl,rfl,an 0,ah 2,rfl⟩ ⟨rfl,trivial⟩<;>rw[i]
 have g2:¬7<j:=fM hP g;rw[aa (λh=>h.elim g1 g2)] at i;have l:=hw qW;have q1:P.fC 0 j:=iu hP qW;have q2:P.iO j 8:=kN hP qW;have f:P.nat j=w:=by rw[l];subst hP;rfl
 have hc:w=0\/w=1\/w=2\/w=3\/w=4\/w=5\/w=6\/w=7:=by((try simp only[nc] at*);omega)
 cbv
 repeat' first|(refine qA ?_;cbv)|(intro c;cbv)
 rcases hc with rfl|rfl|rfl|rfl|rfl|rfl|rfl|rfl
 ·refine⟨0,f,?_⟩;cbv
  repeat' first|(refine qA ?_;cbv)|(intro c;cbv)
  refine k _ _ _ _ _ ⟨?_,?_,?_⟩ (c6.refl _) ⟨rfl,rfl,an 0,ah 2,rfl⟩ ⟨rfl,trivial⟩<;>rw[i]
 ·refine⟨1,f,?_⟩;cbv
  repeat' first|(refine qA ?_;cbv)|(intro c;cbv)
  refine k _ _ _ _ _ ⟨?_,?_,?_⟩ (c6.refl _) ⟨rfl,rfl,an 0,ah 2,rfl⟩ ⟨rfl,trivial⟩<;>rw[i]
 ·refine⟨2,f,?_⟩;cbv
  repeat' first|(refine qA ?_;cbv)|(intro c;cbv)
  refine k _ _ _ _ _ ⟨?_,?_,?_⟩ (c6.refl _) ⟨rfl,rfl,an 0,ah 2,rfl⟩ ⟨rfl,trivial⟩<;>rw[i]
 ·refine⟨3,f,?_⟩;cbv
  repeat' first|(refine qA ?_;cbv)|(intro c;cbv)
  refine k _ _ _ _ _ ⟨?_,?_,?_⟩ (c6.refl _) ⟨rfl,rfl,an 0,ah 2,rfl⟩ ⟨rfl,trivial⟩<;>rw[i]
 ·refine⟨4,f,?_⟩;cbv
  repeat' first|(refine qA ?_;cbv)|(intro c;cbv)
  refine k _ _ _ _ _ ⟨?_,?_,?_⟩ (c6.refl _) ⟨rfl,rfl,an 0,ah 2,rfl⟩ ⟨rfl,trivial⟩<;>rw[i]
 ·refine⟨5,f,?_⟩;cbv
  repeat' first|(refine qA ?_;cbv)|(intro c;cbv)
  refine k _ _ _ _ _ ⟨?_,?_,?_⟩ (c6.refl _) ⟨rfl,rfl,an 0,ah 2,rfl⟩ ⟨rfl,trivial⟩<;>rw[i]
 ·refine⟨6,f,?_⟩;cbv
  repeat' first|(refine qA ?_;cbv)|(intro c;cbv)
  refine k _ _ _ _ _ ⟨?_,?_,?_⟩ (c6.refl _) ⟨rfl,rfl,an 0,ah 2,rfl⟩ ⟨rfl,trivial⟩<;>rw[i]
 ·refine⟨7,f,?_⟩;cbv
  repeat' first|(refine qA ?_;cbv)|(intro c;cbv)
  refine k _ _ _ _ _ ⟨?_,?_,?_⟩ (c6.refl _) ⟨rfl,rfl,an 0,ah 2,rfl⟩ ⟨rfl,trivial⟩<;>rw[i]
theorem Kg(bl:Nat)(d:SC)(w:Int)(rv mv:V)(hq:WQ rv mv):Spec Tryz.prog 37 [.ptr 0 (some bl) 47 0 0,qI w] (cp (S1 bl d rv mv)) λx h'=>∃c,(x=.tup [.agg [qI (iX d.tb w).a,qI (iX d.tb w).b],qI (iX d.tb w).e]/\c=S1 bl d rv mv)/\h'=cp c:=
 qy Ke [.agg [qI (iX d.tb w).a,qI (iX d.tb w).b],qI (iX d.tb w).e] _ rfl (.tup _ (by simp;exact⟨.agg _ (by simp;exact⟨.int _ _,.int _ _⟩),.int _ _⟩)) bl d rv mv hq λR f=>Kf dn rfl _ _ bl d rv mv hq.1.2 hq.2.2 w w.toNat (λh=>by omega) (iX d.tb w) rfl R
  λs s' a b e h he hr ha=>by obtain⟨rfl,rfl,rfl⟩:=h;exact f s s' he hr ha
def CA(T:c8):Prop:=∀(k bl:Nat)(d:SC)(rv mv:V)(w:Int)(h:Hp)(K:V->Hp->Prop),WQ rv mv->qT k rv=true->qT k mv=true->h k=some (fx bl (fw d rv mv))->(∀a b e,a=(iX d.tb w).a->b=(iX d.tb w).b->e=(iX d.tb w).e->K (.tup [.agg [qI a,qI b],qI e]) h)->T 37 [.ptr k (some bl) 47 0 0,qI w] h K
theorem Kh:CA (fm Tryz.prog):=λk bl d rv mv w h K hq r1 r2 hk hK=>Vl (Q:=WQ) (λg=>hq.rl g) (λrv mv hq=>Kg bl d w rv mv hq) rfl (λ_=>rfl) hq.1.1 hq.2.1 r1 r2 hk (hK _ _ _ rfl rfl rfl)
def Av:AC:=qr [qo 2 (.alloc 52 GA)] (qr [qm 3 0,qn 4 3,qf 5 0 4,qd 6 4 5,qs 4 2 6] .ret)
theorem Ki:fF Tryz.prog 32 Tryz.f32 Av [.cn 2 4] 1 er:=⟨Tryz.func32,by decide+kernel,by kernel_rfl,by kernel_rfl,by decide+kernel⟩
theorem Kj(P:Prim)(hP:P=dn)(T a:c8)(bl:Nat)(d:SC)(rv mv:V)(b:V.one rv=true)(c:V.one mv=true)
  (R:S->Prop)(e:∀s s',c6 s s'->iH [.cn 2 4] [.agg [.str d.x1,qI d.x2,.str d.x3,qI d.x4]] s'->fG (S1 bl d rv mv) s'->R s):gj P T a Av (S0 [.ptr 0 (some bl) 47 0 0] (cp (S1 bl d rv mv))) R (λ_ _=>False) R:=by
 cbv
 repeat' first|(refine qA ?_;cbv)|(intro f;cbv)
 exact e _ _ (c6.refl _) ⟨rfl,rfl,an 0,ah 4,rfl⟩ ⟨rfl,trivial⟩
theorem Aw(bl:Nat)(d:SC)(rv mv:V)(hq:WQ rv mv):Spec Tryz.prog 32 [.ptr 0 (some bl) 47 0 0] (cp (S1 bl d rv mv)) λx h'=>∃a,(x=.agg [.str d.x1,qI d.x2,.str d.x3,qI d.x4]/\a=S1 bl d rv mv)/\h'=cp a:=
 qy Ki [.agg [.str d.x1,qI d.x2,.str d.x3,qI d.x4]] _ rfl (.agg _ (by simp;exact⟨.str _,.int _ _,.str _,.int _ _⟩)) bl d rv mv hq λR b=>Kj dn rfl _ _ bl d rv mv hq.1.2 hq.2.2 R b
def yu(T:c8):Prop:=∀(k bl:Nat)(d:SC)(rv mv:V)(h:Hp)(K:V->Hp->Prop),WQ rv mv->qT k rv=true->qT k mv=true->h k=some (fx bl (fw d rv mv))->K (.agg [.str d.x1,qI d.x2,.str d.x3,qI d.x4]) h->T 32 [.ptr k (some bl) 47 0 0] h K
theorem RM:yu (fm Tryz.prog):=λk bl d rv mv h K hq r1 r2 hk hK=>Vl (Q:=WQ) (λg=>hq.rl g) (λrv mv hq=>Aw bl d rv mv hq) rfl (λ_=>rfl) hq.1.1 hq.2.1 r1 r2 hk hK
theorem RN:yu (fX Tryz.prog):=λk bl d rv mv h K hq r1 r2 hk hK=>yr (Q:=WQ) (λg=>hq.rl g) (λrv mv hq=>Aw bl d rv mv hq) rfl (λ_=>rfl) hq.1.1 hq.2.1 hk hK
theorem c6.RO{s:S}{k q n ty:Nat}{b:Option Nat}{dr:List (List V)}{O g p:Ob}{pre:List (List V)}{x y:V}(hk:s.h k=some ⟨b,ty,3,dr⟩)(hq:s.h q=some O)(u:O.rows=pre++[[x,y,.own k b 3 n]])(h0:s.h 0=some g)(h1:s.h 1000001=some p)(hn:dr.length=n)(hz:∀r∈dr,∀v∈r,Fz v)(w:q≠0)(z:q≠1000001)(c:k≠0)(d:k≠1000001)(f:k≠q):
  c6 s ⟨s.t,cp [(0,g),(1000001,p),(q,⟨O.b,O.ty,O.sz,pre++[[x,y,.sl false 3 dr]]⟩)]⟩:=by
 have same:∀(j:Nat)(o:Ob),s.h j=some o->j≠k->j≠k/\∃q,s.h j=some q/\o.b=q.b/\o.ty=q.ty/\o.sz=q.sz/\o.rows.length=q.rows.length/\∀(i:Nat)(r r':List V),q.rows[i]? =some r->o.rows[i]? =some r'->r'.length=r.length/\∀(l:Nat)(v v':V),r[l]? =some v->r'[l]? =some v'->M4 k b 3 n dr v v':=
  λj o ho hj=>⟨hj,o,ho,rfl,rfl,rfl,rfl,λi r r' h1 h2=>by rw[h1] at h2;cases h2;exact⟨rfl,λl v v' h3 h4=>by rw[h3] at h4;cases h4;exact .inl rfl⟩⟩
 refine c6.freeze (o:=⟨b,ty,3,dr⟩) hk rfl rfl hn hz (λj=>.inl rfl) (λj A hj=>?_);simp only[cp] at hj
 split at hj
 ·rename_i e;cases hj;subst e;exact same _ _ h0 (λe=>c e.symm)
 ·split at hj
  ·rename_i e;cases hj;subst e;exact same _ _ h1 (λe=>d e.symm)
  ·split at hj
   ·rename_i e;cases hj;subst e;refine⟨λe=>f e.symm,O,hq,rfl,rfl,rfl,by rw[u];simp,λi r r' e1 a=>?_⟩;rw[u] at e1;simp only at a;rw[List.getElem?_append] at e1 a
    by_cases hi:i<pre.length
    ·rw[ae hi] at e1 a;rw[e1] at a;cases a;exact⟨rfl,λl v v' h4 h5=>by rw[h4] at h5;cases h5;exact .inl rfl⟩
    ·rw[aa hi] at e1 a;cases hp:i-pre.length with
     |zero=>
      rw[hp] at e1 a;simp only[bT,aH] at e1 a;subst e1 a;refine⟨rfl,λl v v' h4 h5=>?_⟩
      match l with
      |0=>simp at h4 h5;subst h4 h5;exact .inl rfl
      |1=>simp at h4 h5;subst h4 h5;exact .inl rfl
      |2=>simp at h4 h5;subst h4 h5;exact .inr ⟨rfl,rfl⟩
      |l+3=>simp at h4
     |succ m=>rw[hp] at e1;simp at e1
   ·cases hj
def iG(d:SC)(l:List eP)(j:Int):List eP×Int:=if fZ d.b l.length j≠0 then([],fZ d.b l.length j) else(l.drop (j-d.b).toNat,0)
def Ax:AC:=qr [qo 4 (.mov (.c (.slice none 0 0))),qz 5 0] (qq (qr [qm 10 0,qm 11 1,qa 12 75 [.t 10,.t 11],qm 6 12] (qr [qm 13 6,qc 14 .neq 13 0] (qu 14 (qr [qm 15 6,qo 4 (.mov (.c (.slice none 0 0))),qm 5 15] .ret) .skip))) (qr [qo 7 (.mov (.c (.slice none 0 0)))] (qq (qq (.region true [qm 16 0,qn 17 16,qf 18 5 17,qf 19 35 18,ql 20 19,qm 21 1,qm 22 0,qn 23 22,qf 24 5 23,qf 25 1 24,ql 26 25,qb 27 .sub 21 26,qo 28 (.slsl 3 (.t 20) (some (.t 27)) none),qo 29 (.len false (.t 28)),qz 30 0]) (.block 0 (.loop (qr [qb 31 .lss 30 29] (qq (qu 31 .skip (.exit 0)) (qq (.block 1 (qr [qo 32 (.iaddr 3 (.t 28) (.t 30)),qd 33 3 32,qo 9 (.alloc 91 xI),qs 3 9 33] (qr [qf 34 2 9,ql 35 34,qo 36 (.append 115 3 32 (.c (.slice none 0 0)) (.t 35)),qf 37 2 9,qs 1 37 36] (qR [qm 38 7,qd 39 3 9,qo 40 (.bslice 91 3 [.t 39]),qo 41 (.append 91 3 40 (.t 38) (.t 40)),qm 7 41])))) (qR [qc 42 .add 30 1,qm 30 42]))))))) (qr [qm 43 7,qm 4 43,qz 5 0] .ret))))
theorem Kk:fF Tryz.prog 40 Tryz.f40 Ax [.t 4,.t 5] 2 er:=⟨Tryz.func40,by decide+kernel,by kernel_rfl,by kernel_rfl,by decide+kernel⟩
structure Zq(l:List eP)(a:Nat) where
 i:Nat
 k:Int
 ba:Option Nat
 m:Nat
 rows:List (List V)
 hi:a+i<=l.length
 hk:k=(i:Int)
 hm:m=i
 hr:rows=((l.drop a).take i).map ca
theorem Kl(P:Prim)(hP:P=dn)(T K:c8)(B:uF T)(bl:Nat)(d:SC)(ba:Option Nat)(l:List eP)(n:Nat)(hn:n=l.length)(rows:List (List V))(ds:rows=l.map ca)(C:∀r∈l,r.delta.length<=1000000000)(mv:V)(D:qT 0 mv=true)(hm:Fz mv/\V.one mv=true)(hw:NW mv=true)(hb:0<=d.b/\d.b<=4294967295)(E:n<=1000)(j:Int)(x:List eP)(y:Int)(hr:iG d l j=(x,y))
  (R:S->Prop)(J:∀s s' A m ro,m=x.length->ro=x.map ca->c6 s s'->iH [.t 4,.t 5] [.own 1000041 A 3 m,qI y] s'->fG [(0,fx bl (fw d (.own 1000001 ba 3 n) mv)),(1000001,iw ba rows),(1000041,iw A ro)] s'->R s):gj P T K Ax (S0 [.ptr 0 (some bl) 47 0 0,qI j] (cp (S2 bl d ba n rows mv))) R (λ_ _=>False) R:=by
 have L:=hm.2;unfold iG at hr;rw[<-hn] at hr;cbv
 repeat' first|(refine qA ?_;cbv)|(intro c;cbv)
 refine B 0 bl d 1000001 ba n mv j _ _ hb E hm hw rfl D rfl λq hq=>?_;rw[<-hq] at hr;cbv
 repeat' first|(refine qA ?_;cbv)|(intro c;cbv)
 refine ab (λg=>?_) (λg=>?_)
 ·have g1:q≠0:=hH hP g;rw[ae g1] at hr;cases hr;cbv
  repeat' first|(refine qA ?_;cbv)|(intro c;cbv)
  exact J _ _ none 0 [] rfl rfl (c6.nil (i:=4) (k:=1000041) (ty:=91) (sz:=3) rfl rfl) rfl ⟨rfl,rfl,rfl,trivial⟩
 have g1:q=0:=gZ hP g;rw[aa (λM=>M g1)] at hr;have hj:d.b<=j/\j<=d.b+(n:Int):=by
  rw[g1] at hq;unfold fZ at hq
  split at hq
  ·cases hq
  ·split at hq
   ·cases hq
   ·omega
 have m1:P.i64 (P.sub j d.b):=by rw[sub_eq hP];exact eR hP qW
 have m2:P.fC 0 (P.sub j d.b):=iu hP (by rw[sub_eq hP];omega);have U:P.fC (P.sub j d.b) (P.int n):=lE hP (by rw[sub_eq hP,int_eq hP];omega);have W:P.fC (P.int n) (P.int n):=lE hP (aN _);obtain⟨a,ha⟩:∃a:Nat,P.sub j d.b=(a:Int):=⟨(j-d.b).toNat,by rw[sub_eq hP];omega⟩;have F:(j-d.b).toNat=a:=by rw[sub_eq hP] at ha;omega
 have N:a<=l.length:=by rw[sub_eq hP] at ha;omega
 rw[F] at hr;simp only[aL] at hr;obtain⟨hx,hy⟩:=hr;obtain⟨lo,u⟩:∃lo,lo=P.sub j d.b:=⟨_,rfl⟩;have G:lo=(a:Int):=by rw[u];exact ha
 cbv
 repeat' first|(refine qA ?_;cbv)|(intro c;cbv)
 rw[<-u];refine⟨Zq l a,λy=>[(0,.ptr 0 (some bl) 47 0 0),(7,.own 1000041 y.ba 3 y.m),(28,.win 1000001 ba 3 lo (P.int n)),(29,qI (P.sub (P.int n) lo)),(30,qI y.k)],
  λy=>[(0,fx bl (fw d (.own 1000001 ba 3 n) mv)),(1000001,iw ba rows),(1000041,iw y.ba y.rows)],λy=>l.length-y.i,
  ⟨_,c6.nil (i:=7) (k:=1000041) (ty:=91) (sz:=3) rfl rfl,⟨0,0,none,0,[],qW,rfl,rfl,by simp⟩,⟨rfl,rfl,rfl,rfl,rfl,trivial⟩,⟨rfl,rfl,rfl,trivial⟩⟩,?_⟩
 rintro⟨i,k,A,m,ro,hi,hk,h,o⟩;cbv;refine ab (λg=>?_) (λg=>?_)
 ·have g2:k<P.sub (P.int n) lo:=fJ hP g;have g3:k<(n:Int)-lo:=by rw[sub_eq hP,int_eq hP] at g2;exact g2
  have v:a+i<l.length:=by((try simp only[nc] at*);omega)
  obtain⟨r,ku⟩:∃r,l[a+i]? =some r:=⟨_,af v⟩;have v8:P.add lo k=((a+i:Nat):Int):=by rw[add_eq hP,G,hk];simp
  have f:P.row rows (P.nat (P.add lo k)) [qI r.who,qI r.seq,.sl false 3 (r.delta.map bd)]:=ga hP v8 (by rw[ds,av,ku];rfl);have H:(r.delta.map bd).length<=1000000000:=by have:=C r (ax ku);simpa using this
  have z:=gI r.delta;have p:((l.drop a).take (i+1)).map ca=ro++[[qI r.who,qI r.seq,.sl false 3 (r.delta.map bd)]]:=by
   have e:(l.drop a)[i]? =some r:=by rw[bu];exact ku
   rw[o,eK,e];simp[ca,gh]
  generalize r.delta.map bd=dr at f H z p
  obtain⟨w,hw⟩:∃w,r.who=w:=⟨_,rfl⟩;obtain⟨X,I⟩:∃w,r.seq=w:=⟨_,rfl⟩;rw[hw,I] at f p;have q1:P.fC 0 k:=iu hP (by rw[hk];exact aO _);have q2:P.iO k (P.sub (P.int n) lo):=kN hP g2;have Y:P.i64 (P.add k 1):=by rw[add_eq hP];exact eR hP qO
  have O:P.add k 1=((i+1:Nat):Int):=by rw[add_eq hP,hk];simp
  have f1:P.bytes (P.dv dr) 32:=by subst hP;show(dr.length:Int)*32<=_;((try simp only[nc] at*);omega)
  have f2:dr.length=P.fQ dr:=by subst hP;rfl
  have f4:P.nL ro m:=lx hP _ _ (by rw[o,h];simp;omega);have f5:∀r,P.bytes (P.add (P.int m) (P.dv [r])) 40:=by intro r;subst hP;show((m:Int)+1)*40<=_;((try simp only[nc] at*);omega)
  have f6:∀r,P.nL [r] 1:=by intro r;subst hP;rfl
  have f7:∀r,P.kB ro [r]=ro++[r]:=by intro r;subst hP;rfl
  have f8:∀r:List V,P.hU m (P.fQ [r])=i+1:=by intro r;rw[<-h];subst hP;rfl
  cbv
  repeat' first|(refine qA ?_;cbv)|(intro c;cbv)
  refine⟨_,f,?_⟩;cbv
  repeat' first|(refine And.intro (by first|assumption|decide|exact f6 _|exact f5 _) ?_;cbv)|(intro Q;cbv)
  rw[f7,f8];refine⟨_,c6.RO (k:=1000036) (q:=1000041) rfl rfl rfl rfl rfl f2 z qD qD qD qD qD,⟨i+1,_,_,i+1,_,qW,O,rfl,p.symm⟩,⟨rfl,rfl,rfl,rfl,rfl,trivial⟩,⟨rfl,rfl,rfl,trivial⟩,?_⟩;show l.length-(i+1)<l.length-i;omega
 ·have g2:¬k<P.sub (P.int n) lo:=fM hP g;have g3:¬k<(n:Int)-lo:=by rw[sub_eq hP,int_eq hP] at g2;exact g2
  have v:a+i=l.length:=by((try simp only[nc] at*);omega)
  cbv
  repeat' first|(refine qA ?_;cbv)|(intro c;cbv)
  subst hy;refine J _ _ A m ro ?_ ?_ (c6.refl _) rfl ⟨rfl,rfl,rfl,trivial⟩
  ·rw[h,<-hx];simp;omega
  ·rw[o,<-hx,aY (by simp;omega)]
theorem Km(bl:Nat)(d:SC)(ba:Option Nat)(l:List eP)(e:∀r∈l,r.delta.length<=1000000000)(hb:0<=d.b/\d.b<=4294967295)(f:l.length<=1000)(j:Int)(mv:V)(hq:MQ mv):Spec Tryz.prog 40 [.ptr 0 (some bl) 47 0 0,qI j] (cp (S2 bl d ba l.length (l.map ca) mv))
  λx h'=>∃c,(∃a,x=.tup [.own 1000041 a 3 (iG d l j).1.length,qI (iG d l j).2]/\c=[(0,fx bl (fw d (.own 1000001 ba 3 l.length) mv)),(1000001,iw ba (l.map ca)),(1000041,iw a ((iG d l j).1.map ca))])/\h'=cp c:=
 fu iD Kk (L:=S2 bl d ba l.length (l.map ca) mv) (λx c=>∃a,x=.tup [.own 1000041 a 3 (iG d l j).1.length,qI (iG d l j).2]/\c=[(0,fx bl (fw d (.own 1000001 ba 3 l.length) mv)),(1000001,iw ba (l.map ca)),(1000041,iw a ((iG d l j).1.map ca))]) λR h=>
  Kl dn rfl _ _ Cu bl d ba l _ rfl _ rfl e mv (Ta hq.2) hq.1 hq.2 hb f j _ _ rfl R λs s' a m ro hm g he hr ha=>by
   subst hm g;refine h s s' _ _ he (eM _ _ _ (λx hx=>by rw[hx];rfl) hr) ha (.tup _ (by simp;exact⟨.own _ _ _ _,.int _ _⟩)) (λp hp=>?_) ⟨a,rfl,rfl⟩;simp only[aw,aD,bw] at hp
   rcases hp with rfl|rfl|rfl
   ·exact jB (.own _ _ _ _) hq.1.1 bl
   ·exact fL _
   ·exact fL _
end Go.Proofs.YtobngncjflogcaaGreat.AM
