/-
  Part 10 of what the law TopDesk reaches: the plain machine, contracts of the functions and plain laws; each lemma says its own condition.
-/
import Derived.Test.YtajdadcdcpnedaaGreatDoorTopDesk7
import Derived.Test.YtajdadcdcpnedaaGreatDoorTopDesk8
import Derived.Test.YtajdadcdcpnedaaGreatDoorTopDesk9
set_option linter.unusedVariables false
set_option linter.unusedSimpArgs false
namespace Go.Proofs.YtajdadcdcpnedaaGreatDoor.AM
open Go Go.RowKit
set_option maxRecDepth 100000
set_option maxHeartbeats 2000000
def nT(n:Int):Prop:=0<=n/\n<=2147483647
instance(n:Int):Decidable (nT n):=inferInstanceAs (Decidable (_/\_))
def jA(l:List Int):BS:=(l.map λn=>ij n.toNat).flatten
def ml(l:List Int):BS×Bool:=if∀n∈l,nT n then(jA l,true) else([],false)
def jq(g b:Int)(t:Nat->Int):List Int:=[g,b,t 0,t 1,t 2,t 3,t 4,t 5,t 6,t 7,t 8,t 9,t 10,t 11,t 12,t 13,t 14,t 15]
def lU(g b:Int)(tx:BS)(t:Nat->Int):BS×Int:=
 if∀n∈jq g b t,nT n then(if 500<tx.length then([],2) else jz 1 (jA (jq g b t)++tx)) else([],1)
def jV(r:er):BS×Int:=if ir r≠0 then([],ir r) else jz 2 (ij r.who.toNat++ij r.seq.toNat++codeF r.delta)
theorem sh(l:List Int):(jA l).length<=5*l.length:=by
 induction l with
 |nil=>simp[jA]
 |cons a l ih=>
  have:=ko a.toNat;simp only[jA,aI,c9,ae,ar] at ih⊢;omega
theorem EH(a:List Int)(n:Int):jA (a++[n])=jA a++ij n.toNat:=by simp[jA]
theorem oK(g b:Int)(t:Nat->Int):(jq g b t).length=18:=rfl
def CT:AC:=qr [qo 2 (.mov (.c qe)),qo 3 (.mov (.c (.bool false)))] (qr [qo 4 (.mov (.c qe))] (qq (qr [qm 9 0,qo 10 (.len false (.t 9)),qz 11 0] (.block 0 (.loop (qr [qb 12 .lss 11 10] (qq (qu 12 .skip (.exit 0)) (qq (.block 1 (qr [qo 13 (.iaddr 1 (.t 9) (.t 11)),ql 14 13,qm 6 14] (qr [qm 16 6,qa 17 134 [.t 16],qm 15 17,qx 18 0 15,qx 19 1 15,qm 7 18,qm 8 19] (qq (qr [qm 20 8,qc 21 .neq 20 0] (qu 21 (qr [qo 2 (.mov (.c qe)),qo 3 (.mov (.c (.bool false)))] .ret) .skip)) (qR [qm 22 4,qm 23 7,qb 24 .add 22 23,qm 4 24]))))) (qR [qc 25 .add 11 1,qm 11 25]))))))) (qr [qm 26 4,qm 2 26,qo 3 (.mov (.c (.bool true)))] .ret)))
theorem MN:fF Tryz.prog 77 Tryz.f77 CT [.t 2,.t 3] 1 dS:=⟨Tryz.func77,by decide+kernel,by kernel_rfl,by kernel_rfl,by decide+kernel⟩
structure Wu(l:List Int) where
 k:Int
 pre:List Int
 rest:List Int
 o:BS
 hd:l=pre++rest
 hk:k=(pre.length:Int)
 ho:o=jA pre
 hin:∀n∈pre,nT n
theorem MO(P:Prim)(hP:P=cp)(T q:cm)(l:List Int)(hl:l.length<=1000)(rows:List (List V))(hrows:rows=gf l)(d:Int->BS)(f:Int->Int)
  (h1:∀n,hJ T 134 [qI n] (.tup [.str (d n),qI (f n)]))(i:∀n,f n=0->nT n/\d n=ij n.toNat)(j:∀n,f n≠0->¬nT n)
  (r:BS)(e:Bool)(hr:ml l=(r,e))
  (R:S->Prop)(m:∀p s' x y,x=r/\y=e->cd p s'->ia [.t 2,.t 3] [.str x,.bool y] s'->R p):gE P T q CT (S0 [.sl true 1 rows] Hp.emp) R (λ_ _=>False) R:=by
 have a:P.cF rows=(l.length:Int):=by rw[hX hP,hrows];simp[gf]
 cbv;refine⟨Wu l,λy=>[(4,.str y.o),(9,.sl true 1 rows),(10,qI (P.cF rows)),(11,qI y.k)],λy=>[],λy=>y.rest.length,
  ⟨_,cd.refl _,⟨0,[],l,[],rfl,rfl,rfl,by simp⟩,⟨rfl,rfl,rfl,rfl,trivial⟩,trivial⟩,?_⟩
 rintro⟨k,pre,rest,o,hd,hk,ho,hin⟩
 replace hk:k=(pre.length:Int):=hk
 have b:pre.length+rest.length=l.length:=by rw[hd];simp
 cbv;refine a6 (λh=>?_) (λh=>?_)
 ·have h6:k<P.cF rows:=gM hP h;rw[a] at h6
  rcases rest with _|⟨n,rest⟩
  ·exfalso;simp at b;((try simp only[nc] at*);omega)
  have c:P.row rows (P.nat k) [qI n]:=gz hP hk (by rw[hrows,gf,aw,hd];simp);have k1:P.fK 0 k:=iJ hP qO;have s:P.i64 (P.add k 1):=by rw[add_eq hP];exact fm hP qO
  have u:P.add k 1=(((pre++[n]).length:Nat):Int):=by rw[add_eq hP,hk];simp
  have c1:=h1 n;have A:=sh pre;cbv;refine⟨k1,_,c,?_⟩;cbv;refine c1 _ _ ?_;cbv;refine a6 (λh=>?_) (λh=>?_)
  ·have g:=j n (iG hP h);unfold ml at hr;rw[aa (λx=>g (x n (by rw[hd];simp)))] at hr;cbv;exact m _ _ _ _ (by simpa using hr) (cd.refl _) rfl
  have g:=i n (iy hP h);have v:P.i64 (P.add (P.b5 o) (P.b5 (d n))):=by
   rw[add_eq hP,cA hP,cA hP,ho,g.2];have:=ko n.toNat;exact fm hP qO
  have w:P.iE o (d n)=jA (pre++[n]):=by rw[gv hP,EH,ho,g.2]
  have z:∀x∈pre++[n],nT x:=by
   intro x hx
   rcases bj.1 hx with hx|hx
   ·exact hin x hx
   ·rw[ag.1 hx];exact g.1
  cbv;refine⟨v,?_⟩;cbv;refine⟨s,?_⟩;exact⟨_,cd.refl _,⟨_,pre++[n],rest,_,by simp[hd],u,w,z⟩,⟨rfl,rfl,rfl,rfl,trivial⟩,trivial,by simp⟩
 ·have h6:¬k<P.cF rows:=gN hP h;rw[a] at h6
  rcases rest with _|⟨y,rest⟩
  rotate_left
  ·exfalso;simp at b;((try simp only[nc] at*);omega)
  rw[bg] at hd;subst hd;unfold ml at hr;rw[ab hin,<-ho] at hr;cbv;exact m _ _ _ _ (by simpa using hr) (cd.refl _) rfl
theorem P9{n:Int}(h:(pK n).2=0):nT n/\(pK n).1=ij n.toNat:=by
 unfold pK at h⊢
 by_cases hn:n<0\/2147483647<n
 ·rw[ab hn] at h;exact absurd h qD
 ·rw[aa hn];exact⟨by unfold nT;omega,rfl⟩
theorem MP{n:Int}(h:(pK n).2≠0):¬nT n:=by
 unfold pK at h
 by_cases hn:n<0\/2147483647<n
 ·unfold nT;omega
 ·rw[aa hn] at h;exact absurd rfl h
theorem CU(l:List Int)(hl:l.length<=1000):Spec Tryz.prog 77 [.sl true 1 (gf l)] Hp.emp (Is (.tup [.str (ml l).1,.bool (ml l).2])):=
 ed hW MN [.str (ml l).1,.bool (ml l).2] (.tup _ (by simp;exact⟨.str _,.bool _⟩)) λR a=>MO cp rfl _ _ l hl _ rfl (λn=>(pK n).1) (λn=>(pK n).2)
  (λn=>jP (Cv n) rfl rfl) (λn=>P9) (λn=>MP) _ _ rfl R λb s' x y h he hr=>by obtain⟨rfl,rfl⟩:=h;exact a b s' he hr
def CV:AC:=qr [qo 5 (.box 66 16 (.t 2)),qo 6 (.mov (.c (.slice none 0 0)))] (qr [qm 10 0,qm 11 1,qo 12 (.bslice 3 1 [.t 10,.t 11]),qm 7 12] (qq (qr [qd 13 16 5,qz 14 0] (.block 0 (.loop (qr [qc 15 .lss 14 8] (qq (qu 15 .skip (.exit 0)) (qq (.block 1 (qr [qo 16 (.ixa true 8 2 (.t 13) (.t 14)),qo 9 (.alloc 65 K1),qs 2 9 16] (qR [qm 17 7,qf 18 0 9,ql 19 18,qf 20 1 9,ql 21 20,qo 22 (.bslice 3 1 [.t 19,.t 21]),qo 23 (.append 3 1 8 (.t 17) (.t 22)),qm 7 23]))) (qR [qc 24 .add 14 1,qm 14 24]))))))) (qr [qm 25 7,qm 6 25] .ret)))
theorem MR:fF Tryz.prog 78 Tryz.f78 CV [.t 6] 3 dS:=⟨Tryz.func78,by decide+kernel,by kernel_rfl,by kernel_rfl,by decide+kernel⟩
structure Wv(L:List Int) where
 m:Nat
 k:Int
 b:Option Nat
 c:Nat
 rows:List (List V)
 hm:m<=8
 hk:k=(m:Int)
 hrows:rows=gf (L.take (2+2*m))
 hc:c=2+2*m
theorem MS(P:Prim)(hP:P=cp)(T j:cm)(g b:Int)(t:Nat->Int)
  (R:S->Prop)(i:qQ [.t 6] 1 (gf (jq g b t)) [] R):gE P T j CV (S0 [qI g,qI b,.agg [qI (t 0),qI (t 1),qI (t 2),qI (t 3),qI (t 4),qI (t 5),qI (t 6),qI (t 7),qI (t 8),qI (t 9),qI (t 10),qI (t 11),qI (t 12),qI (t 13),qI (t 14),qI (t 15)]] Hp.emp) R (λ_ _=>False) R:=by
 have hN:∀n:Nat,P.nat (n:Int)=n:=by intro n;subst hP;rfl
 cbv;intro β;cbv
 repeat' first|(refine qA ?_;cbv)|(intro l;cbv)
 refine⟨Wv (jq g b t),λy=>[(7,.own 1000012 y.b 1 y.c),(13,.agg [qI (t 0),qI (t 1),qI (t 2),qI (t 3),qI (t 4),qI (t 5),qI (t 6),qI (t 7),qI (t 8),qI (t 9),qI (t 10),qI (t 11),qI (t 12),qI (t 13),qI (t 14),qI (t 15)]),(14,qI y.k)],λy=>[(1000012,⟨y.b,3,1,y.rows⟩)],λy=>8-y.m,
  ⟨_,cd.refl _,⟨0,0,_,_,_,qW,rfl,rfl,rfl⟩,⟨rfl,rfl,rfl,trivial⟩,⟨rfl,trivial⟩⟩,?_⟩
 rintro⟨m,k,bb,c,rows,hm,hk,hrows,hc⟩;cbv;refine a6 (λh=>?_) (λh=>?_)
 ·have h5:k<8:=gM hP h
  replace hm:m<8:=by((try simp only[nc] at*);omega)
  have k0:P.fK 0 k:=iJ hP qO;have k1:P.iq k 8:=lk hP qO;have o:P.i64 (P.add k 1):=by rw[add_eq hP];exact fm hP qO
  have a:P.add k 1=((m+1:Nat):Int):=by rw[add_eq hP,hk];((try simp only[nc] at*);omega)
  have d:P.nat k=m:=by rw[hk];exact hN m
  have f4:P.rW rows c:=oC hP _ _ (by rw[hrows,hc];simp[gf,oK];omega);have f5:∀r:List (List V),r.length=2->P.bytes (P.add (P.int c) (P.cF r)) 8:=by intro r f;subst hP;show((c:Int)+(r.length:Int))*8<=_;rw[hc,f];((try simp only[nc] at*);omega)
  have f6:∀x y:List V,P.rW [x,y] 2:=λx y=>oC hP _ _ rfl;have f7:P.n4 rows [[qI (t (2*m))],[qI (t (2*m+1))]]=gf ((jq g b t).take (2+2*(m+1))):=by
   rw[hrows];subst hP;have hc:m=0\/m=1\/m=2\/m=3\/m=4\/m=5\/m=6\/m=7:=by omega
   rcases hc with rfl|rfl|rfl|rfl|rfl|rfl|rfl|rfl<;>rfl
  have f8:∀x y:List V,P.jg c (P.gH [x,y])=2+2*(m+1):=by intro x y;subst hP;show c+2=_;omega
  clear i h5 h;have hc:m=0\/m=1\/m=2\/m=3\/m=4\/m=5\/m=6\/m=7:=by omega
  rcases hc with rfl|rfl|rfl|rfl|rfl|rfl|rfl|rfl
  ·cbv;refine⟨k0,k1,0,d,?_⟩;cbv
   repeat' first|(refine And.intro (by first|assumption|decide|exact f6 _ _|exact f5 _ rfl) ?_;cbv)|(intro β;cbv)
   exact⟨_,cd.refl _,⟨0+1,_,_,_,_,qD,a,f7,f8 _ _⟩,⟨rfl,rfl,rfl,trivial⟩,⟨rfl,trivial⟩,by show 8-(0+1)<8-0;decide⟩
  ·cbv;refine⟨k0,k1,1,d,?_⟩;cbv
   repeat' first|(refine And.intro (by first|assumption|decide|exact f6 _ _|exact f5 _ rfl) ?_;cbv)|(intro β;cbv)
   exact⟨_,cd.refl _,⟨1+1,_,_,_,_,qD,a,f7,f8 _ _⟩,⟨rfl,rfl,rfl,trivial⟩,⟨rfl,trivial⟩,by show 8-(1+1)<8-1;decide⟩
  ·cbv;refine⟨k0,k1,2,d,?_⟩;cbv
   repeat' first|(refine And.intro (by first|assumption|decide|exact f6 _ _|exact f5 _ rfl) ?_;cbv)|(intro β;cbv)
   exact⟨_,cd.refl _,⟨2+1,_,_,_,_,qD,a,f7,f8 _ _⟩,⟨rfl,rfl,rfl,trivial⟩,⟨rfl,trivial⟩,by show 8-(2+1)<8-2;decide⟩
  ·cbv;refine⟨k0,k1,3,d,?_⟩;cbv
   repeat' first|(refine And.intro (by first|assumption|decide|exact f6 _ _|exact f5 _ rfl) ?_;cbv)|(intro β;cbv)
   exact⟨_,cd.refl _,⟨3+1,_,_,_,_,qD,a,f7,f8 _ _⟩,⟨rfl,rfl,rfl,trivial⟩,⟨rfl,trivial⟩,by show 8-(3+1)<8-3;decide⟩
  ·cbv;refine⟨k0,k1,4,d,?_⟩;cbv
   repeat' first|(refine And.intro (by first|assumption|decide|exact f6 _ _|exact f5 _ rfl) ?_;cbv)|(intro β;cbv)
   exact⟨_,cd.refl _,⟨4+1,_,_,_,_,qD,a,f7,f8 _ _⟩,⟨rfl,rfl,rfl,trivial⟩,⟨rfl,trivial⟩,by show 8-(4+1)<8-4;decide⟩
  ·cbv;refine⟨k0,k1,5,d,?_⟩;cbv
   repeat' first|(refine And.intro (by first|assumption|decide|exact f6 _ _|exact f5 _ rfl) ?_;cbv)|(intro β;cbv)
   exact⟨_,cd.refl _,⟨5+1,_,_,_,_,qD,a,f7,f8 _ _⟩,⟨rfl,rfl,rfl,trivial⟩,⟨rfl,trivial⟩,by show 8-(5+1)<8-5;decide⟩
  ·cbv;refine⟨k0,k1,6,d,?_⟩;cbv
   repeat' first|(refine And.intro (by first|assumption|decide|exact f6 _ _|exact f5 _ rfl) ?_;cbv)|(intro β;cbv)
   exact⟨_,cd.refl _,⟨6+1,_,_,_,_,qD,a,f7,f8 _ _⟩,⟨rfl,rfl,rfl,trivial⟩,⟨rfl,trivial⟩,by show 8-(6+1)<8-6;decide⟩
  ·cbv;refine⟨k0,k1,7,d,?_⟩;cbv
   repeat' first|(refine And.intro (by first|assumption|decide|exact f6 _ _|exact f5 _ rfl) ?_;cbv)|(intro β;cbv)
   exact⟨_,cd.refl _,⟨7+1,_,_,_,_,qD,a,f7,f8 _ _⟩,⟨rfl,rfl,rfl,trivial⟩,⟨rfl,trivial⟩,by show 8-(7+1)<8-7;decide⟩
 ·have h5:¬k<8:=gN hP h;have e:m=8:=by((try simp only[nc] at*);omega)
  have e1:rows=gf (jq g b t):=by rw[hrows,e];rfl
  cbv;exact i.2.1 _ _ _ _ _ _ _ (cd.refl _) rfl rfl ⟨by rw[hc,e];rfl,e1⟩
theorem MT(g b:Int)(t:Nat->Int):Spec Tryz.prog 78 [.int .i64 g,.int .i64 b,xq t] Hp.emp (Is (.sl false 1 (gf (jq g b t)))):=
 kX hW MR λR a=>MS cp rfl _ _ g b t R (lN (G6 _) (uv _) (by simp) a)
def zl:AC:=qr [qo 7 (.box 66 16 (.t 3)),qo 8 (.mov (.c qe)),qz 9 0] (qr [qm 13 0,qm 14 1,qd 15 16 7,qa 16 78 [.t 13,.t 14,.t 15],qa 17 77 [.t 16],qm 12 17,qx 18 0 12,qx 19 1 12,qm 10 18,qm 11 19] (qq (qr [qm 20 11,qo 21 (.not (.t 20))] (qu 21 (qr [qo 8 (.mov (.c qe)),qz 9 1] .ret) .skip)) (qq (qr [qm 22 2,qo 23 (.len true (.t 22)),qc 24 .gtr 23 500] (qu 24 (qr [qo 8 (.mov (.c qe)),qz 9 2] .ret) .skip)) (qr [qm 25 10,qm 26 2,qb 27 .add 25 26,qo 28 (.build FI [(0,1,qk 1),(1,1,(.t 27))]),qa 29 79 [.t 28],qx 30 0 29,qx 31 1 29,qm 8 30,qm 9 31] .ret))))
theorem Iv:fF Tryz.prog 41 Tryz.f41 zl [.t 8,.t 9] 4 dS:=⟨Tryz.func41,by decide+kernel,by kernel_rfl,by kernel_rfl,by decide+kernel⟩
theorem Iw(P:Prim)(hP:P=cp)(T j:cm)(g b:Int)(tx:BS)(k:tx.length<=maxLen)(t:Nat->Int)(fr:List (List V))(o:BS)(ok:Bool)(ho:o.length<=100)
  (h1:hJ T 78 [qI g,qI b,.agg [qI (t 0),qI (t 1),qI (t 2),qI (t 3),qI (t 4),qI (t 5),qI (t 6),qI (t 7),qI (t 8),qI (t 9),qI (t 10),qI (t 11),qI (t 12),qI (t 13),qI (t 14),qI (t 15)]] (.sl false 1 fr))(h2:hJ T 77 [.sl false 1 fr] (.tup [.str o,.bool ok]))
  (d:BS->BS)(f:BS->Int)(h3:∀s,hJ T 79 [.agg [qI 1,.str s]] (.tup [.str (d s),qI (f s)]))
  (r:BS)(e:Int)(hr:(if ok then(if 500<tx.length then([],2) else(d (o++tx),f (o++tx))) else([],1))=(r,e))
  (R:S->Prop)(c:∀i s' x y,x=r/\y=e->cd i s'->ia [.t 8,.t 9] [.str x,qI y] s'->R i):gE P T j zl (S0 [qI g,qI b,.str tx,.agg [qI (t 0),qI (t 1),qI (t 2),qI (t 3),qI (t 4),qI (t 5),qI (t 6),qI (t 7),qI (t 8),qI (t 9),qI (t 10),qI (t 11),qI (t 12),qI (t 13),qI (t 14),qI (t 15)]] Hp.emp) R (λ_ _=>False) R:=by
 have a:P.b5 tx=(tx.length:Int):=cA hP tx;cbv;intro β;cbv
 repeat' first|(refine qA ?_;cbv)|(intro l;cbv)
 refine h1 _ _ ?_;cbv;refine h2 _ _ ?_;cbv;refine a6 (λh=>?_) (λh=>?_)
 ·rw[ab h] at hr;cbv;refine a6 (λh=>?_) (λh=>?_)
  ·have h6:500<P.b5 tx:=gM hP h;rw[a] at h6;rw[ab qO] at hr;cbv;exact c _ _ _ _ (by simpa using hr) (cd.refl _) rfl
  ·have h6:¬500<P.b5 tx:=gN hP h;rw[a] at h6;rw[aa qO] at hr;have m:P.i64 (P.add (P.b5 o) (P.b5 tx)):=by rw[add_eq hP,cA hP,cA hP];exact fm hP qO
   have c3:=h3 (P.iE o tx);rw[<-gv hP o tx] at hr;cbv;refine⟨m,?_⟩;cbv;refine c3 _ _ ?_;cbv;exact c _ _ _ _ (by simpa using hr) (cd.refl _) rfl
 ·rw[aa (by rw[h];decide)] at hr;cbv;exact c _ _ _ _ (by simpa using hr) (cd.refl _) rfl
theorem Ix{g b:Int}{t:Nat->Int}:(ml (jq g b t)).1.length<=100:=by
 unfold ml
 split
 ·have:=sh (jq g b t);rw[oK] at this;simp only[];omega
 ·simp
theorem Iy(g b:Int)(tx:BS)(a:tx.length<=maxLen)(t:Nat->Int):Spec Tryz.prog 41 [.int .i64 g,.int .i64 b,.str tx,xq t] Hp.emp (Is (.tup [.str (lU g b tx t).1,.int .i64 (lU g b tx t).2])):=
 ed hW Iv [.str (lU g b tx t).1,.int .i64 (lU g b tx t).2] (.tup _ (by simp;exact⟨.str _,.int _ _⟩)) λR c=>Iw cp rfl _ _ g b tx a t (gf (jq g b t)) (ml (jq g b t)).1 (ml (jq g b t)).2 Ix
  (gK (MT g b t) (λh=>.cons (.same _) (.cons (.same _) (.cons (.same _) .nil))) rfl) (Rz (CU _ (by rw[oK];omega)) rfl rfl) (λs=>(jz 1 s).1) (λs=>(jz 1 s).2) (λs=>gK (xB ⟨1,s⟩) (λh=>.cons (.same _) .nil) rfl) (lU g b tx t).1 (lU g b tx t).2
  (by
   unfold lU ml
   by_cases h:∀n∈jq g b t,nT n
   ·rw[ab h,ab h];rfl
   ·rw[aa h,aa h];rfl) R λd s' x y h he hr=>by obtain⟨rfl,rfl⟩:=h;exact c d s' he hr
def CW:AC:=qr [qo 1 (.box 96 3 (.t 0)),qo 2 (.mov (.c qe)),qz 3 0] (qq (qr [qd 9 3 1,qa 10 127 [.t 9],qm 4 10] (qr [qm 11 4,qc 12 .neq 11 0] (qu 12 (qr [qm 13 4,qo 2 (.mov (.c qe)),qm 3 13] .ret) .skip))) (qr [qf 15 0 1,ql 16 15,qf 17 1 1,ql 18 17,qo 19 (.bslice 3 1 [.t 16,.t 18]),qa 20 77 [.t 19],qm 14 20,qx 21 0 14,qx 22 1 14,qm 5 21,qm 6 22] (qr [qf 24 2 1,ql 25 24,qa 26 129 [.t 25],qm 23 26,qx 27 0 23,qx 28 1 23,qm 7 27,qm 8 28] (qr [qm 29 5,qm 30 7,qb 31 .add 29 30,qo 32 (.build FI [(0,1,qk 2),(1,1,(.t 31))]),qa 33 79 [.t 32],qx 34 0 33,qx 35 1 33,qm 2 34,qm 3 35] .ret))))
theorem MU:fF Tryz.prog 68 Tryz.f68 CW [.t 2,.t 3] 1 dS:=⟨Tryz.func68,by decide+kernel,by kernel_rfl,by kernel_rfl,by decide+kernel⟩
theorem MV(P:Prim)(hP:P=cp)(T m:cm)(a:Bool)(w q:Int)(d:List (List V))(c:Int)(h1:hJ T 127 [.agg [qI w,qI q,.sl a 3 d]] (qI c))(o cs:BS)(ho:o.length<=100)(hcs:cs.length<=10000000)
  (h2:c=0->∀(h:Hp)(K:V->Hp->Prop)(k:Nat)(b:Option Nat)(rs:List (List V)),rs=gf [w,q]->h k=some ⟨b,3,1,rs⟩->K (.tup [.str o,.bool true]) h->T 77 [.own k b 1 2] h K)
  (h3:c=0->hJ T 129 [.sl a 3 d] (.tup [.str cs,qI 0]))
  (g:BS->BS)(i:BS->Int)(h4:∀s,hJ T 79 [.agg [qI 2,.str s]] (.tup [.str (g s),qI (i s)]))
  (r:BS)(e:Int)(hr:(if c≠0 then([],c) else(g (o++cs),i (o++cs)))=(r,e))
  (R:S->Prop)(j:∀l s' x y,x=r/\y=e->cd l s'->ia [.t 2,.t 3] [.str x,qI y] s'->R l):gE P T m CW (S0 [.agg [qI w,qI q,.sl a 3 d]] Hp.emp) R (λ_ _=>False) R:=by
 cbv;intro β;cbv
 repeat' first|(refine qA ?_;cbv)|(intro f;cbv)
 refine h1 _ _ ?_;cbv;refine a6 (λh=>?_) (λh=>?_)
 ·rw[ab (iG hP h)] at hr;cbv;exact j _ _ _ _ (by simpa using hr) (cd.refl _) rfl
 have h0:c=0:=iy hP h;rw[aa (λx=>x h0)] at hr;have f3:=h3 h0;have n:P.i64 (P.add (P.b5 o) (P.b5 cs)):=by rw[add_eq hP,cA hP,cA hP];exact fm hP qO
 have c4:=h4 (P.iE o cs);rw[<-gv hP o cs] at hr;cbv;intro β;cbv;refine h2 h0 _ _ _ _ _ ?_ rfl ?_
 ·rfl
 cbv
 repeat' first|(refine qA ?_;cbv)|(intro f;cbv)
 refine f3 _ _ ?_;cbv;refine⟨n,?_⟩;cbv;refine c4 _ _ ?_;cbv;exact j _ _ _ _ (by simpa using hr) (cd.refl _) rfl
theorem Iz(d:List Part)(h:cR d=0):(codeF d).length<=1000000:=by
 have hc:=gw h;have:=ko d.length;have key:∀l:List Part,(∀p∈l,nR p)->((l.map lR).flatten).length<=505*l.length:=by
  intro l
  induction l with
  |nil=>simp
  |cons p l ih=>
   intro hl;have:=ih λq hq=>hl q (by simp[hq]);have hp:=gU (hl p (by simp));have hn:=ko (4*(p.n+p.text.length)+p.kind).toNat;simp only[aI,c9,ae,ar,lR]
   ((try simp only[nc] at*);omega)
 have:=key d hc.2.1;have:=hc.1;unfold codeF;rw[ae];omega
theorem EI{w q:Int}(h1:nT w)(h2:nT q):ml [w,q]=(ij w.toNat++ij q.toNat,true):=by
 unfold ml;rw[ab (by intro n hn;simp at hn;rcases hn with rfl|rfl<;>assumption)]
 simp[jA]
theorem zm(r:er)(hr:fV r.delta):Spec Tryz.prog 68 [.agg (tl r)] Hp.emp (Is (.tup [.str (jV r).1,.int .i64 (jV r).2])):=
 ed hW MU [.str (jV r).1,.int .i64 (jV r).2] (.tup _ (by simp;exact⟨.str _,.int _ _⟩)) λR c=>MV cp rfl _ _ true r.who r.seq (r.delta.map a7) (ir r) (gK (LX r hr) (λh=>.cons (.same _) .nil) rfl) (ij r.who.toNat++ij r.seq.toNat) (if ir r=0 then codeF r.delta else[])
  (by have h1:=ko r.who.toNat;have h2:=ko r.seq.toNat;rw[ae];omega)
  (by split;(·rename_i h;have:=Iz r.delta (kR h).2.2.2.2;omega);(·simp))
  (λh0 h K k b rs a hk hK=>by
   obtain⟨g1,g2,g3,g4,g5⟩:=kR h0;have hs:=CU [r.who,r.seq] (by simp);rw[EI ⟨g1,qW⟩ ⟨g3,g4⟩] at hs;exact xk hs rfl h K k b 2 rs a (by rw[a];rfl) hk hK)
  (λh0=>by
   have g5:=(kR h0).2.2.2.2;have hs:=Bn r.delta hr.1;rw[ab g5,g5] at hs;rw[ab h0];exact jP hs rfl rfl)
  (λs=>(jz 2 s).1) (λs=>(jz 2 s).2) (λs=>gK (xB ⟨2,s⟩) (λh=>.cons (.same _) .nil) rfl) (jV r).1 (jV r).2
  (by
   unfold jV
   by_cases h:ir r≠0
   ·rw[ab h,ab h]
   ·rw[aa h,aa h,ab (aK h)]) R λd s' x y h he hr=>by obtain⟨rfl,rfl⟩:=h;exact c d s' he hr
def zn:AC:=qr [qo 0 (.mov (.c qe))] (qr [qo 4 (.build FI [(0,1,qk 3)]),qa 5 79 [.t 4],qm 3 5,qx 6 0 3,qx 7 1 3,qm 1 6,qm 2 7] (qr [qm 8 1,qm 0 8] .ret))
theorem IA:fF Tryz.prog 43 Tryz.f43 zn [.t 0] 0 dS:=⟨Tryz.func43,by decide+kernel,by kernel_rfl,by kernel_rfl,by decide+kernel⟩
theorem IB(P:Prim)(hP:P=cp)(T b:cm)(u:BS)(e:Int)(h1:hJ T 79 [.agg [qI 3,.str []]] (.tup [.str u,qI e]))
  (R:S->Prop)(c:∀a s' x,x=u->cd a s'->ia [.t 0] [.str x] s'->R a):gE P T b zn (S0 [] Hp.emp) R (λ_ _=>False) R:=by
 cbv;refine h1 _ _ ?_;cbv;exact c _ _ _ rfl (cd.refl _) rfl
theorem IC:Spec Tryz.prog 43 [] Hp.emp (Is (.str (jz 3 []).1)):=
 ed hW IA [.str (jz 3 []).1] (.str _) λR a=>IB cp rfl _ _ _ (jz 3 []).2 (gK (xB ⟨3,[]⟩) (λh=>.cons (.same _) .nil) rfl) R λb s' x h he hr=>by subst h;exact a b s' he hr
theorem py(f:Nat)(vs:List V)(h h':Hp)(K:V->Hp->Prop)(he:iY h h')(hc:dF Tryz.prog f vs h' K):dF Tryz.prog f vs h K:=by
 obtain⟨h0,h1,h2⟩:=hc;exact⟨h0,iY.trans he h1,h2⟩
theorem EJ(P:Prim)(hP:P=cp)(T o:cm)(bl:Nat)(ba:Option Nat)(d:SC)(mv:V)(p:V.one mv=true)(n:Nat)(rows:List (List V))(hn:n=rows.length)(s:n<=100)(w:Nat)(hw:w<8)(a q:Int)(k:a=(w:Int))(e:List (List V))(hb:0<=d.b/\d.b<=4294967295)
  (rows':List (List V))(f:rows'=rows++[[qI a,qI q,.sl false 3 e]])(n':Nat)(h:n'=n+1)(v:Int)(hv:v=d.b+(n:Int)+1)
  (R:S->Prop)(g:∀(m s':S)(l:Option Nat)(i:Nat->Int)(r2:List (List V))(n2:Nat),(∀j,i j=iQ d.tb w q v j)->r2=rows'->n2=n'->cd m s'->kH s' [] (λx=>kI x=.tup [])->
   eP (S2 bl {d with tb:=i} l n2 r2 mv) s'->R m):
  gE P T o xC (S0 [.ptr 0 (some bl) 47 0 5,.agg [qI a,qI q,.sl false 3 e]] (a8 (S2 bl d ba n rows mv))) R (λ_ _=>False) R:=by
 have f4:P.rW rows n:=oC hP _ _ hn.symm;have f5:∀r,P.bytes (P.add (P.int n) (P.cF [r])) 40:=by intro r;subst hP;show((n:Int)+1)*40<=_;((try simp only[nc] at*);omega)
 have f6:∀r,P.rW [r] 1:=by intro r;subst hP;rfl
 have f7:P.n4 rows [[qI a,qI q,.sl false 3 e]]=rows':=by rw[f];subst hP;rfl
 have f8:∀r:List V,P.jg n (P.gH [r])=n':=by intro r;rw[h];subst hP;rfl
 have f9:∀r:List V,P.int (P.jg n (P.gH [r]))=(n:Int)+1:=by intro r;rw[f8,h,int_eq hP];((try simp only[nc] at*);omega)
 have g1:∀r:List V,P.add d.b (P.int (P.jg n (P.gH [r])))=v:=by intro r;rw[add_eq hP,f9,hv];omega
 have g2:∀r:List V,P.i64 (P.add d.b (P.int (P.jg n (P.gH [r])))):=by intro r;rw[g1,hv];exact fm hP qO
 have q1:P.fK 0 a:=iJ hP qW;have q2:P.iq a 8:=lk hP qW;have c:P.nat a=w:=by rw[k];subst hP;rfl
 cbv
 repeat' first|(refine And.intro (by first|assumption|decide|exact f6 _|exact f5 _|exact g2 _) ?_;cbv)|(intro t;cbv)
 have hc:w=0\/w=1\/w=2\/w=3\/w=4\/w=5\/w=6\/w=7:=by omega
 have g3:=g1 [qI a,qI q,.sl false 3 e];have g4:=f8 [qI a,qI q,.sl false 3 e]
 rcases hc with rfl|rfl|rfl|rfl|rfl|rfl|rfl|rfl
 ·refine⟨0,c,?_⟩;cbv;exact g _ _ _ (λj=>if j=0 then q else if j=1 then P.add d.b (P.int (P.jg n (P.gH [[qI a,qI q,.sl false 3 e]]))) else d.tb j) _ _ (λj=>by rw[g3];rfl) f7 g4 (cd.refl _) rfl ⟨rfl,rfl,trivial⟩
 ·refine⟨1,c,?_⟩;cbv;exact g _ _ _ (λj=>if j=2 then q else if j=3 then P.add d.b (P.int (P.jg n (P.gH [[qI a,qI q,.sl false 3 e]]))) else d.tb j) _ _ (λj=>by rw[g3];rfl) f7 g4 (cd.refl _) rfl ⟨rfl,rfl,trivial⟩
 ·refine⟨2,c,?_⟩;cbv;exact g _ _ _ (λj=>if j=4 then q else if j=5 then P.add d.b (P.int (P.jg n (P.gH [[qI a,qI q,.sl false 3 e]]))) else d.tb j) _ _ (λj=>by rw[g3];rfl) f7 g4 (cd.refl _) rfl ⟨rfl,rfl,trivial⟩
 ·refine⟨3,c,?_⟩;cbv;exact g _ _ _ (λj=>if j=6 then q else if j=7 then P.add d.b (P.int (P.jg n (P.gH [[qI a,qI q,.sl false 3 e]]))) else d.tb j) _ _ (λj=>by rw[g3];rfl) f7 g4 (cd.refl _) rfl ⟨rfl,rfl,trivial⟩
 ·refine⟨4,c,?_⟩;cbv;exact g _ _ _ (λj=>if j=8 then q else if j=9 then P.add d.b (P.int (P.jg n (P.gH [[qI a,qI q,.sl false 3 e]]))) else d.tb j) _ _ (λj=>by rw[g3];rfl) f7 g4 (cd.refl _) rfl ⟨rfl,rfl,trivial⟩
 ·refine⟨5,c,?_⟩;cbv;exact g _ _ _ (λj=>if j=10 then q else if j=11 then P.add d.b (P.int (P.jg n (P.gH [[qI a,qI q,.sl false 3 e]]))) else d.tb j) _ _ (λj=>by rw[g3];rfl) f7 g4 (cd.refl _) rfl ⟨rfl,rfl,trivial⟩
 ·refine⟨6,c,?_⟩;cbv;exact g _ _ _ (λj=>if j=12 then q else if j=13 then P.add d.b (P.int (P.jg n (P.gH [[qI a,qI q,.sl false 3 e]]))) else d.tb j) _ _ (λj=>by rw[g3];rfl) f7 g4 (cd.refl _) rfl ⟨rfl,rfl,trivial⟩
 ·refine⟨7,c,?_⟩;cbv;exact g _ _ _ (λj=>if j=14 then q else if j=15 then P.add d.b (P.int (P.jg n (P.gH [[qI a,qI q,.sl false 3 e]]))) else d.tb j) _ _ (λj=>by rw[g3];rfl) f7 g4 (cd.refl _) rfl ⟨rfl,rfl,trivial⟩
def rk(d:SC)(l:List er)(r:er):SC:= {d with tb:=iQ d.tb r.who.toNat r.seq (d.b+(l.length:Int)+1)}
theorem EK(bl:Nat)(ba:Option Nat)(d:SC)(l:List er)(hl:l.length<=100)(r:er)(hw:0<=r.who/\r.who<=7)(hb:0<=d.b/\d.b<=4294967295)(mv:V)(hq:MQ mv):
  Spec Tryz.prog 70 [.ptr 0 (some bl) 47 0 5,.agg (bd r)] (a8 (S2 bl d ba l.length (l.map bd) mv)) λx h'=>∃L',(x=.tup []/\∃a,L'=S2 bl (rk d l r) a (l.length+1) ((l++[r]).map bd) mv)/\h'=a8 L':=
 dE hW CK (L:=S2 bl d ba l.length (l.map bd) mv) (λx L'=>x=.tup []/\∃a,L'=S2 bl (rk d l r) a (l.length+1) ((l++[r]).map bd) mv) λR i=>
  EJ cp rfl _ _ bl ba d mv hq.1.2 l.length (l.map bd) (by simp) hl r.who.toNat qW r.who r.seq qW (r.delta.map a7) hb ((l++[r]).map bd) (by simp[bd,gI]) (l.length+1) rfl (d.b+(l.length:Int)+1) rfl R
   λj s' a c r2 n2 f g h he hr ha=>by
    have e:c=iQ d.tb r.who.toNat r.seq (d.b+(l.length:Int)+1):=funext f;rw[e,g,h] at ha;exact i j s' (.tup []) (S2 bl (rk d l r) a (l.length+1) ((l++[r]).map bd) mv) he hr ha (.tup _ (λv hv=>by cases hv)) (Il hq.1.1) ⟨rfl,a,rfl⟩
def zo(T:cm):Prop:=∀(k ka bl:Nat)(d:SC)(ba:Option Nat)(n:Nat)(rows:List (List V))(l:List er)(mv:V)(w q:Int)(c:List (List V))(r:er)(h:Hp)(K:V->Hp->Prop),rows=l.map bd->n=l.length->l.length<=100->(w=r.who/\q=r.seq/\c=r.delta.map a7)->(0<=r.who/\r.who<=7)->(0<=d.b/\d.b<=4294967295)->MQ mv->Nat.beq k ka=false->zi k ka mv=true->
 h k=some (eO bl (eM d (.own ka ba 3 n) mv))->h ka=some (il ba rows)->(∀a d' n' rows',d'=rk d l r->n'=l.length+1->rows'=(l++[r]).map bd->K (.tup []) (Hp.put (Hp.put h k (eO bl (eM d' (.own ka a 3 n') mv))) ka (il a rows')))->T 70 [.ptr k (some bl) 47 0 5,.agg [qI w,qI q,.sl false 3 c]] h K
theorem CX:zo (dF Tryz.prog):=by
 rintro k ka bl d ba n rows l mv w q c r h K rfl rfl hl ⟨rfl,rfl,rfl⟩ hw hb hq hne hr hk a hK;exact Ip (off:=5) (Q:=MQ) (rest:=[.agg (bd r)]) (λg=>hq.rl g) (λmv hq=>EK bl ba d l hl r hw hb mv hq) (λh=>.cons (.same _) .nil) (λ_=>rfl) hq.1.1 hne hr hk a λb=>hK b _ _ _ rfl rfl rfl
def Z0:SC:=⟨[],0,[],0,0,0,0,[],λ_=>0,λ_=>0,false,0,[],0,false⟩
def OW(t:BS):SC:= {mJ (kL Z0 0 t) 0 with gn:=1,b:=0,tx:=[],fs:=λ_=>0,tb:=λ_=>0,wh:=true,gd:=0}
def CY:AC:=qr [qo 0 (.mov (.c (.pointer none)))] (qr [qo 4 (.build UO []),qo 5 (.box 103 47 (.t 4)),qm 1 5] (qr [qm 7 1,qn 8 7,qf 9 5 8,qf 10 19 9,qd 11 16 10,qa 12 41 [qk 1,qk 0,(.c qe),.t 11],qm 6 12,qx 13 0 6,qx 14 1 6,qm 2 13,qm 3 14] (qr [qm 15 1,qm 16 2,qa 17 43 [],qb 18 .add 16 17,qa 19 42 [.t 15,qk 0,.t 18]] (qr [qm 20 1,qa 21 44 [.t 20,qk 0]] (qr [qm 22 1,qo 23 (.build Lc [(0,1,qk 1),(36,1,(.c (.bool true)))]),qn 24 22,qf 25 5 24,qs 38 25 23] (qr [qm 26 1,qm 0 26] .ret))))))
theorem MW:fF Tryz.prog 17 Tryz.f17 CY [.t 0] 0 dS:=⟨Tryz.func17,by decide+kernel,by kernel_rfl,by kernel_rfl,by decide+kernel⟩
theorem MX(P:Prim)(hP:P=cp)(T i:cm)(a:wc T)(e:CS T)(t1 t2:BS)(e1:Int)(h1:hJ T 41 [qI 1,qI 0,.str [],xq λ_=>0] (.tup [.str t1,qI e1]))(h2:hJ T 43 [] (.str t2))(hl:t1.length+t2.length<=100000)
  (R:S->Prop)(j:∀(s s':S)(β:Nat)(d:SC),d=OW (t1++t2)->cd s s'->ia [.t 0] [.ptr 5 (some β) 47 0 0] s'->eP [(5,eO β (eM d (.own 6 none 3 0) .nil)),(6,il none [])] s'->R s):gE P T i CY (S0 [] Hp.emp) R (λ_ _=>False) R:=by
 have g1:P.i64 (P.add (P.b5 t1) (P.b5 t2)):=by rw[add_eq hP,cA hP,cA hP];exact fm hP qW
 have g2:P.iE t1 t2=t1++t2:=by subst hP;rfl
 cbv
 repeat' first|(refine qA ?_;cbv)|(intro f;cbv)|(refine h1 _ _ ?_;cbv)|(refine h2 _ _ ?_;cbv)|fail
 refine a 5 _ Z0 .nilsl .nil _ _ _ _ (by rw[g2,ae];omega) ⟨⟨.nilsl,rfl⟩,.nil,rfl⟩ rfl rfl rfl λd1 g=>?_;cbv
 repeat' first|(refine qA ?_;cbv)|(intro f;cbv)|(refine e 5 _ d1 .nilsl .nil _ _ _ ⟨⟨.nilsl,rfl⟩,.nil,rfl⟩ rfl rfl rfl λd2 h=>?_;cbv)|fail
 exact j _ _ _ {d2 with gn:=1,b:=0,tx:=[],fs:=λ_=>0,tb:=λ_=>0,wh:=true,gd:=0} (by rw[h,g,g2];rfl) (cd.kQ (k:=5) (k':=6) (ty:=96) (sz:=3) (r:=0) (c:=40) rfl rfl rfl rfl) rfl ⟨rfl,rfl,trivial⟩
def ik:SC:=OW ((lU 1 0 [] λ_=>0).1++(jz 3 []).1)
def rm:AC:=qr [qo 3 (.box 96 3 (.t 1)),qz 4 0,qz 5 0] (qq (qq (.region true [qm 9 0,qn 10 9,qf 11 5 10,qd 12 38 11,qm 13 0,qn 14 13,qf 15 43 14,ql 16 15,qo 17 (.len true (.t 16)),qd 18 3 3,qa 19 67 [.t 12,.t 17,.t 18],qm 6 19]) (qr [qm 20 6,qc 21 .neq 20 0] (qu 21 (qr [qm 22 6,qz 4 0,qm 5 22] .ret) .skip))) (qr [qf 23 2 3,ql 24 23,qo 25 (.append 41 3 32 (.c (.slice none 0 0)) (.t 24)),qf 26 2 3,qs 1 26 25] (qr [qd 28 3 3,qa 29 68 [.t 28],qm 27 29,qx 30 0 27,qx 31 1 27,qm 7 30,qm 8 31] (qq (qr [qm 32 8,qc 33 .neq 32 0] (qu 33 (qr [qm 34 8,qz 4 0,qm 5 34] .ret) .skip)) (qr [qm 35 0,qm 36 0,qn 37 36,qf 38 4 37,ql 39 38,qm 40 7,qa 41 42 [.t 35,.t 39,.t 40]] (qq (qr [qm 42 0,qn 43 42,qf 44 45 43,ql 45 44,qo 46 (.eqp true (.t 45) (.c (.pointer none))),qm 47 46,qg 48 47 true (.mov (.t 0)),qg 49 47 true (.nilchk (.t 48)),qg 50 47 true (.faddr 45 (.t 49)),qg 51 47 true (.load1 (.t 50)),qg 52 47 true (.nilchk (.t 51)),qg 53 47 true (.faddr 2 (.t 52)),qg 54 47 true (.load1 (.t 53)),qo 55 (.pick (.t 47) (.t 54) (.c (.bool false)))] (qu 55 (qR [qm 56 0,qm 57 0,qn 58 57,qf 59 4 58,ql 60 59,qo 61 (.bin .sub (qk 1) (.t 60)),qm 62 7,qa 63 42 [.t 56,.t 61,.t 62]]) .skip)) (qq (.region true [qm 65 0,qf 66 2 3,ql 67 66,qm 68 0,qn 69 68,qf 70 43 69,ql 71 70,qa 72 69 [.t 67,.t 71],qm 64 72,qx 73 0 64,qx 74 1 64,qn 75 65,qf 76 43 75,qs 1 76 73]) (qq (qq (.region true [qm 77 0,qn 78 77,qf 79 5 78,qd 80 3 3]) (qR [qa 81 70 [.t 79,.t 80]])) (qr [qm 82 0,qa 83 71 [.t 82],qm 4 83,qz 5 0] .ret)))))))))
theorem CZ:fF Tryz.prog 36 Tryz.f36 rm [.t 4,.t 5] 2 dS:=⟨Tryz.func36,by decide+kernel,by kernel_rfl,by kernel_rfl,by decide+kernel⟩
structure vD where
 d:SC
 l:List er
 v:Int
 e:Int
theorem ID(P:Prim)(hP:P=cp)(T F:cm)(y:∀f vs h h' K,iY h h'->T f vs h' K->T f vs h K)(z:wc T)(A:zo T)(G:nw T)(bl:Nat)(d:SC)(ba:Option Nat)(l:List er)(n:Nat)(hn:n=l.length)(rows:List (List V))(hrows:rows=l.map bd)
  (r:er)(w q:Int)(i:List (List V))(H:w=r.who/\q=r.seq/\i=r.delta.map a7)(I:∀x∈i,∀v∈x,Fz v)(Z:i.length<=1000000000)(hb:0<=d.b/\d.b<=2147483647)
  (e1:Int)(h1:∀(h:Hp)(K:V->Hp->Prop),h 1000001=some ⟨ba,96,3,rows⟩->K (qI e1) h->F 67 [.agg [qI d.gn,qI d.b,.str d.tx,qI (d.fs 0),qI (d.fs 1),qI (d.fs 2),qI (d.fs 3),qI (d.fs 4),qI (d.fs 5),qI (d.fs 6),qI (d.fs 7),qI (d.fs 8),qI (d.fs 9),qI (d.fs 10),qI (d.fs 11),qI (d.fs 12),qI (d.fs 13),qI (d.fs 14),qI (d.fs 15),qI (d.tb 0),qI (d.tb 1),qI (d.tb 2),qI (d.tb 3),qI (d.tb 4),qI (d.tb 5),qI (d.tb 6),qI (d.tb 7),qI (d.tb 8),qI (d.tb 9),qI (d.tb 10),qI (d.tb 11),qI (d.tb 12),qI (d.tb 13),qI (d.tb 14),qI (d.tb 15),.own 1000001 ba 3 n,.bool d.wh,qI d.gd],qI (P.b5 d.now),.agg [qI w,qI q,.sl false 3 i]] h K)
  (J:e1=0->(0<=r.who/\r.who<=7)/\l.length<64)(t:BS)(e:Int)(L:t.length<=140737488355328)
  (h2:e1=0->∀(k:Nat)(b:Option Nat)(n':Nat)(h:Hp)(K:V->Hp->Prop),n'=i.length->h k=some ⟨b,41,3,i⟩->K (.tup [.str t,qI e]) h->T 68 [.agg [qI w,qI q,.own k b 3 n']] h K)
  (u:BS)(f:Int)(h3:e1=0->hJ F 69 [.sl false 3 i,.str d.now] (.tup [.str u,qI f]))
  (Y:vD)(j:Y=(if e1≠0 then⟨d,l,0,e1⟩ else if e≠0 then⟨d,l,0,e⟩ else⟨rk {kL d d.at' t with now:=u} l r,l++[r],d.b+(l.length+1:Nat),0⟩))
  (R:S->Prop)(M:∀s s' N n' rows',n'=Y.l.length->rows'=Y.l.map bd->cd s s'->ia [.t 4,.t 5] [qI Y.v,qI Y.e] s'->eP (S2 bl Y.d N n' rows' .nil) s'->R s):
  gE P T F rm (S0 [.ptr 0 (some bl) 47 0 0,.agg [qI w,qI q,.sl false 3 i]] (a8 (S2 bl d ba n rows .nil))) R (λ_ _=>False) R:=by
 have f1:P.bytes (P.cF i) 32:=by subst hP;show(i.length:Int)*32<=_;((try simp only[nc] at*);omega)
 have f2:i.length=P.gH i:=by subst hP;rfl
 cbv
 repeat' first|(refine qA ?_;cbv)|(intro a;cbv)|(refine h1 _ _ rfl ?_;cbv)|fail
 refine a6 (λg=>?_) (λg=>?_)
 ·have g1:e1≠0:=iG hP g;rw[ab g1] at j;cbv
  repeat' first|(refine qA ?_;cbv)|(intro a;cbv)
  subst j;exact M _ _ ba n rows hn hrows (cd.refl _) rfl ⟨rfl,rfl,trivial⟩
 have g1:e1=0:=iy hP g;rw[aa (λhh=>hh g1)] at j;obtain⟨hw,X⟩:=J g1;cbv
 repeat' first|(refine qA ?_;cbv)|(intro a;cbv)|(refine h2 g1 1000025 _ _ _ _ f2.symm rfl ?_;cbv)|fail
 refine a6 (λg=>?_) (λg=>?_)
 ·have g2:e≠0:=iG hP g;rw[ab g2] at j;cbv
  repeat' first|(refine qA ?_;cbv)|(intro a;cbv)
  subst j;exact M _ _ ba n rows hn hrows (cd.refl _) rfl ⟨rfl,rfl,trivial⟩
 have g2:e=0:=iy hP g;rw[aa (λhh=>hh g2)] at j;cbv
 repeat' first|(refine qA ?_;cbv)|(intro a;cbv)
 refine y _ _ _ _ _ (iY.L4 (k:=1000025) (q:=3) (c:=2) rfl rfl rfl rfl rfl rfl f2 I) ?_;refine z 0 bl d (.own 1000001 ba 3 n) .nil _ _ _ _ L ⟨⟨.own _ _ _ _,rfl⟩,.nil,rfl⟩ rfl rfl rfl λd1 o=>?_;have hb1:d1.b=d.b:=by rw[o];rfl
 have p:d1.now=d.now:=by rw[o];rfl
 have O:hJ F 69 [.sl false 3 i,.str d1.now] (.tup [.str u,qI f]):=by rw[p];exact h3 g1
 cbv
 repeat' first|(refine qA ?_;cbv)|(intro a;cbv)|(refine O _ _ ?_;cbv)|fail
 refine A 0 1000001 bl {d1 with now:=u} ba n rows l .nil w q i r _ _ hrows hn qW H hw (by show 0<=d1.b/\d1.b<=_;rw[hb1];omega) ⟨⟨.nil,rfl⟩,rfl⟩ rfl rfl rfl rfl λB d2 n2 rows2 C D m=>?_
 have hb2:d2.b=d.b:=by rw[C];exact hb1
 cbv
 repeat' first|(refine qA ?_;cbv)|(intro a;cbv)
 refine G 0 bl d2 1000001 B n2 .nil _ _ (by rw[hb2];omega) qW ⟨.nil,rfl⟩ rfl rfl rfl λv hv=>?_;cbv
 repeat' first|(refine qA ?_;cbv)|(intro a;cbv)
 have Q:v=Y.v:=by rw[j,hv,hb2,D]
 have U:Y.d=d2:=by rw[j,C,o]
 have E:Y.l=l++[r]:=by rw[j]
 have W:Y.e=0:=by rw[j]
 subst Q;refine M _ _ B n2 rows2 (by rw[E,D];simp) (by rw[E,m]) (cd.refl _) (by rw[W];rfl) ?_;rw[U];exact⟨rfl,rfl,trivial⟩
def RW:BS:=(lU 1 0 [] λ_=>0).1
def OX:BS:=(jz 3 []).1
theorem Bz(k:Int)(b:BS):(sc k b).length=b.length+7:=by
 simp[sc,jb,kZ]
theorem sj(k:Int)(b:BS):(jz k b).1.length<=4007:=by
 unfold jz
 split
 ·simp
 ·split
  ·simp
  ·rename_i h;rw[Bz];omega
theorem EL(g b:Int)(tx:BS)(t:Nat->Int):(lU g b tx t).1.length<=4007:=by
 unfold lU
 split
 ·split
  ·simp
  ·exact sj _ _
 ·simp
theorem zp(r:er):(jV r).1.length<=4007:=by
 unfold jV
 split
 ·simp
 ·exact sj _ _
theorem IE:RW.length+OX.length<=100000:=by
 have h1:=EL 1 0 [] λ_=>0;have h2:=sj 3 [];show(lU 1 0 [] λ_=>0).1.length+(jz 3 []).1.length<=_;omega
theorem MY:Spec Tryz.prog 17 [] (a8 []) λx h'=>∃L',(∃β,x=.ptr 5 (some β) 47 0 0/\L'=[(5,eO β (eM ik (.own 6 none 3 0) .nil)),(6,il none [])])/\h'=a8 L':=
 dE hW MW (L:=[]) (λx L'=>∃β,x=.ptr 5 (some β) 47 0 0/\L'=[(5,eO β (eM ik (.own 6 none 3 0) .nil)),(6,il none [])]) λR a=>
  MX cp rfl _ _ zf H9 RW OX _ (gK (Iy 1 0 [] (by simp) λ_=>0) (λ_=>.cons (.same _) (.cons (.same _) (.cons (.same _) (.cons (.same _) .nil)))) rfl) (jP IC rfl rfl) IE R
   λs s' β d hd he hr ha=>by
    subst hd;refine a s s' (.ptr 5 (some β) 47 0 0) [(5,eO β (eM ik (.own 6 none 3 0) .nil)),(6,il none [])] he (da _ _ _ (λx hx=>by rw[hx];rfl) hr) ha (.ptr _ _ _ _ _) (λp hp=>?_) ⟨β,rfl,rfl⟩
    rcases ah.1 hp with rfl|hp
    ·exact iB (.own _ _ _ _) .nil β
    ·rw[ag.1 hp];exact gR []
def IF(T:cm):Prop:=∀(k ka:Nat)(h:Hp)(K:V->Hp->Prop),h k=none->h ka=none->Nat.beq k ka=false->Nat.beq ka 5=false->(∀β d,d=ik->K (.ptr k (some β) 47 0 0) (Hp.put (Hp.put h k (eO β (eM d (.own ka none 3 0) .nil))) ka (il none [])))->T 17 [] h K
theorem OY:IF (dF Tryz.prog):=by
 intro k ka h K hk d hne c hK;have b:k≠ka:=by intro e;subst e;rw[bY] at hne;cases hne
 have a:¬ka=k:=λe=>b e.symm;have h6:gD [(5,k),(6,ka)] 6=ka:=by simp[gD]
 have h5:gD [(5,k),(6,ka)] 5=k:=by simp[gD]
 refine oe MY (m:=[(5,k),(6,ka)]) .nil (λj o hj=>by cases hj) (λq hq=>?_) ?_
 ·simp only[ah,aq,aQ] at hq
  rcases hq with rfl|rfl
  ·exact⟨h5,by simp[gP],λo ho=>by cases ho⟩
  ·exact⟨h6,by simp[gP,a],λo ho=>by cases ho⟩
 ·rintro v L' ⟨β,rfl,rfl⟩;have e:h.jh [(5,k),(6,ka)] (a8 [(5,eO β (eM ik (.own 6 none 3 0) .nil)),(6,il none [])])=Hp.put (Hp.put h k (eO β (eM ik (.own ka none 3 0) .nil))) ka (il none []):=by
   funext i
   simp only[Hp.jh,Hp.put,bZ,cE,cw,bq,bM]
   by_cases h1:ka=i
   ·subst h1;have hb:gP [(5,k),(6,ka)] ka=6:=by simp[gP,a]
    rw[ab (.inr rfl),ab rfl,hb];rfl
   ·by_cases h2:k=i
    ·subst h2;have hb:gP [(5,k),(6,ka)] k=5:=by simp[gP]
     rw[ab (.inl rfl),aa (λe=>h1 e.symm),ab rfl,hb];show(some (eO β (eM ik (.own 6 none 3 0) .nil))).map (Ob.gy (gD [(5,k),(6,ka)]))=_;rw[aJ,iA];show some (eO β (eM ik (.own (gD [(5,k),(6,ka)] 6) none 3 0) .nil))=_;rw[h6]
    ·rw[aa (by rintro(h|h);exact h2 h;exact h1 h),aa (λe=>h1 e.symm),aa (λe=>h2 e.symm)]
  rw[e];have:(V.ptr 5 (some β) 47 0 0).gy (gD [(5,k),(6,ka)])=.ptr k (some β) 47 0 0:=by
   show V.ptr (gD [(5,k),(6,ka)] 5) (some β) 47 0 0=_;rw[h5]
  rw[this];exact hK β _ rfl
theorem C1{d:SC}{ba:Option Nat}{l:List er}{h:Hp}(h1:h 1000001=some ⟨ba,96,3,l.map bd⟩):Arg h [] (.agg [.int .i64 d.gn,.int .i64 d.b,.str d.tx,.int .i64 (d.fs 0),.int .i64 (d.fs 1),.int .i64 (d.fs 2),.int .i64 (d.fs 3),.int .i64 (d.fs 4),.int .i64 (d.fs 5),.int .i64 (d.fs 6),.int .i64 (d.fs 7),.int .i64 (d.fs 8),.int .i64 (d.fs 9),.int .i64 (d.fs 10),.int .i64 (d.fs 11),.int .i64 (d.fs 12),.int .i64 (d.fs 13),.int .i64 (d.fs 14),.int .i64 (d.fs 15),.int .i64 (d.tb 0),.int .i64 (d.tb 1),.int .i64 (d.tb 2),.int .i64 (d.tb 3),.int .i64 (d.tb 4),.int .i64 (d.tb 5),.int .i64 (d.tb 6),.int .i64 (d.tb 7),.int .i64 (d.tb 8),.int .i64 (d.tb 9),.int .i64 (d.tb 10),.int .i64 (d.tb 11),.int .i64 (d.tb 12),.int .i64 (d.tb 13),.int .i64 (d.tb 14),.int .i64 (d.tb 15),.own 1000001 ba 3 l.length,.bool d.wh,.int .i64 d.gd]) (PO d.gn d.b d.tx d.fs d.tb (l.map bd) d.wh d.gd):=by
 have hown:Arg h [] (.own 1000001 ba 3 l.length) (.sl true 3 (l.map bd)):=.own 1000001 ba 3 l.length _ (jU (by simp) h1) (by simp);obtain⟨a1,a2⟩:=rj (h:=h) (m:=[]) (l:=[.int .i64 d.gn,.int .i64 d.b,.str d.tx,.int .i64 (d.fs 0),.int .i64 (d.fs 1),.int .i64 (d.fs 2),.int .i64 (d.fs 3),.int .i64 (d.fs 4),.int .i64 (d.fs 5),.int .i64 (d.fs 6),.int .i64 (d.fs 7),.int .i64 (d.fs 8),.int .i64 (d.fs 9),.int .i64 (d.fs 10),.int .i64 (d.fs 11),.int .i64 (d.fs 12),.int .i64 (d.fs 13),.int .i64 (d.fs 14),.int .i64 (d.fs 15),.int .i64 (d.tb 0),.int .i64 (d.tb 1),.int .i64 (d.tb 2),.int .i64 (d.tb 3),.int .i64 (d.tb 4),.int .i64 (d.tb 5),.int .i64 (d.tb 6),.int .i64 (d.tb 7),.int .i64 (d.tb 8),.int .i64 (d.tb 9),.int .i64 (d.tb 10),.int .i64 (d.tb 11),.int .i64 (d.tb 12),.int .i64 (d.tb 13),.int .i64 (d.tb 14),.int .i64 (d.tb 15),.own 1000001 ba 3 l.length,.bool d.wh,.int .i64 d.gd]) (l':=[.int .i64 d.gn,.int .i64 d.b,.str d.tx,.int .i64 (d.fs 0),.int .i64 (d.fs 1),.int .i64 (d.fs 2),.int .i64 (d.fs 3),.int .i64 (d.fs 4),.int .i64 (d.fs 5),.int .i64 (d.fs 6),.int .i64 (d.fs 7),.int .i64 (d.fs 8),.int .i64 (d.fs 9),.int .i64 (d.fs 10),.int .i64 (d.fs 11),.int .i64 (d.fs 12),.int .i64 (d.fs 13),.int .i64 (d.fs 14),.int .i64 (d.fs 15),.int .i64 (d.tb 0),.int .i64 (d.tb 1),.int .i64 (d.tb 2),.int .i64 (d.tb 3),.int .i64 (d.tb 4),.int .i64 (d.tb 5),.int .i64 (d.tb 6),.int .i64 (d.tb 7),.int .i64 (d.tb 8),.int .i64 (d.tb 9),.int .i64 (d.tb 10),.int .i64 (d.tb 11),.int .i64 (d.tb 12),.int .i64 (d.tb 13),.int .i64 (d.tb 14),.int .i64 (d.tb 15),.sl true 3 (l.map bd),.bool d.wh,.int .i64 d.gd]) ((.cons (.same _) (.cons (.same _) (.cons (.same _) (.cons (.same _) (.cons (.same _) (.cons (.same _) (.cons (.same _) (.cons (.same _) (.cons (.same _) (.cons (.same _) (.cons (.same _) (.cons (.same _) (.cons (.same _) (.cons (.same _) (.cons (.same _) (.cons (.same _) (.cons (.same _) (.cons (.same _) (.cons (.same _) (.cons (.same _) (.cons (.same _) (.cons (.same _) (.cons (.same _) (.cons (.same _) (.cons (.same _) (.cons (.same _) (.cons (.same _) (.cons (.same _) (.cons (.same _) (.cons (.same _) (.cons (.same _) (.cons (.same _) (.cons (.same _) (.cons (.same _) (.cons (.same _) (.cons hown (.cons (.same _) (.cons (.same _) .nil)))))))))))))))))))))))))))))))))))))));exact .agg _ _ a1 a2
def jB(d:SC)(l:List er)(r:er):vD:=if gQ d.b d.tb l.length d.now.length r≠0 then⟨d,l,0,gQ d.b d.tb l.length d.now.length r⟩ else if(jV r).2≠0 then⟨d,l,0,(jV r).2⟩
 else⟨rk {kL d d.at' (jV r).1 with now:=(kB r.delta d.now).1} l r,l++[r],d.b+(l.length+1:Nat),0⟩
theorem IG(bl:Nat)(d:SC)(ba:Option Nat)(l:List er)(r:er)(hr:fV r.delta)(hb:0<=d.b/\d.b<=2147483647)(c:r.delta.length<=1000000000):Spec Tryz.prog 36 [.ptr 0 (some bl) 47 0 0,.agg (bd r)] (a8 (S2 bl d ba l.length (l.map bd) .nil))
  λx h'=>∃L',(x=.tup [qI (jB d l r).v,qI (jB d l r).e]/\∃a,L'=S2 bl (jB d l r).d a (jB d l r).l.length ((jB d l r).l.map bd) .nil)/\h'=a8 L':=
 dE hW CZ (L:=S2 bl d ba l.length (l.map bd) .nil) (λx L'=>x=.tup [qI (jB d l r).v,qI (jB d l r).e]/\∃a,L'=S2 bl (jB d l r).d a (jB d l r).l.length ((jB d l r).l.map bd) .nil) λR f=>
  ID cp rfl _ _ py zf CX oJ bl d ba l _ rfl _ rfl r r.who r.seq (r.delta.map a7) ⟨rfl,rfl,rfl⟩ (fL _) (by simpa using c) hb
   (gQ d.b d.tb l.length d.now.length r) (λh K h1 hK=>nr (r9 d.gn d.b d.tx d.fs d.tb l d.wh d.gd d.now.length r hb hr) (.cons (C1 h1) (.cons (.same _) (.cons (.same _) .nil))) hK)
   (λh=>⟨⟨(kR (k9 h).1).1,(kR (k9 h).1).2.1⟩,(k9 h).2⟩)
   (jV r).1 (jV r).2 (by have:=zp r;omega) (λ_ k b n' h K hn hk hK=>by
    subst hn;refine⟨h,iY.refl h,lA (zm r hr) (.cons ?_ .nil) hK⟩;obtain⟨a1,a2⟩:=rj (h:=h) (m:=[]) (l:=[qI r.who,qI r.seq,.own k b 3 (r.delta.map a7).length]) (l':=tl r) (.cons (.same _) (.cons (.same _) (.cons (.own k b 3 _ _ (jU rfl hk) (by simp)) .nil)));exact .agg _ _ a1 a2)
   (kB r.delta d.now).1 (kB r.delta d.now).2 (λ_=>G4 (Cq r.delta hr.1 d.now) rfl rfl) (jB d l r) rfl R
   λs s' a n' rows' hn hrows he hr ha=>by
    subst hn hrows;exact f s s' _ _ he (da _ _ _ (λx hx=>by rw[hx];rfl) hr) ha (.tup _ (by simp;exact⟨.int _ _,.int _ _⟩)) (Il .nil) ⟨rfl,a,rfl⟩
def IH(T:cm):Prop:=∀(k ka bl:Nat)(d:SC)(ba:Option Nat)(n:Nat)(rows:List (List V))(l:List er)(r:er)(w q:Int)(c:List (List V))(h:Hp)(K:V->Hp->Prop),rows=l.map bd->n=l.length->(w=r.who/\q=r.seq/\c=r.delta.map a7)->fV r.delta->r.delta.length<=1000000000->(0<=d.b/\d.b<=2147483647)->Nat.beq k ka=false->
 h k=some (eO bl (eM d (.own ka ba 3 n) .nil))->h ka=some (il ba rows)->(∀v e a d' n' rows',v=(jB d l r).v->e=(jB d l r).e->d'=(jB d l r).d->n'=(jB d l r).l.length->rows'=(jB d l r).l.map bd->K (.tup [qI v,qI e]) (Hp.put (Hp.put h k (eO bl (eM d' (.own ka a 3 n') .nil))) ka (il a rows')))->
 T 36 [.ptr k (some bl) 47 0 0,.agg [qI w,qI q,.sl false 3 c]] h K
theorem Qa:IH (dF Tryz.prog):=by
 rintro k ka bl d ba n rows l r w q e h K rfl rfl ⟨rfl,rfl,rfl⟩ hr a hb hne hk b hK;exact Ip (off:=0) (Q:=λv=>v=.nil) (rest:=[.agg (bd r)]) (λg=>rfl) (λmv hq=>by subst hq;exact IG bl d ba l r hr hb a) (λh=>.cons (.same _) .nil) (λ_=>rfl) .nil hne rfl hk b λc=>hK _ _ c _ _ _ rfl rfl rfl rfl rfl
structure L3 where
 a:Int
 b:Int
 e:Int
def jG(tb:Nat->Int)(w:Int):L3:=if w<0\/7<w then⟨0,0,1⟩ else⟨tb (2*w.toNat),tb (2*w.toNat+1),0⟩
def zq:AC:=qr [qo 4 (.alloc 65 K1),qz 5 0] (qq (qr [qm 6 1,qc 7 .lss 6 0,qm 8 7,qg 9 8 false (.mov (.t 1)),qg 10 8 false (.bin .gtr (.t 9) (qk 7)),qo 11 (.pick (.t 8) (.c (.bool true)) (.t 10))] (qu 11 (qr [qo 12 (.build K1 []),qs 2 4 12,qz 5 1] .ret) .skip)) (qr [qm 13 0,qm 14 1,qn 15 13,qf 16 5 15,qf 17 19 16,qo 18 (.iarr 8 2 (.t 17) (.t 14)),qd 19 2 18,qs 2 4 19,qz 5 0] .ret))
theorem II:fF Tryz.prog 200 Tryz.f200 zq [.cn 4 2,.t 5] 2 dS:=⟨Tryz.func200,by decide+kernel,by kernel_rfl,by kernel_rfl,by decide+kernel⟩
theorem IJ(P:Prim)(hP:P=cp)(T l:cm)(bl:Nat)(d:SC)(rv mv:V)(m:V.one rv=true)(n:V.one mv=true)(j:Int)(w:Nat)(hw:0<=j->j=(w:Int))(Y:L3)(i:Y=if j<0\/7<j then⟨0,0,1⟩ else⟨d.tb (2*w),d.tb (2*w+1),0⟩)
  (R:S->Prop)(k:∀s s' a b e,a=Y.a/\b=Y.b/\e=Y.e->cd s s'->ia [.cn 4 2,.t 5] [.agg [qI a,qI b],qI e] s'->eP (S1 bl d rv mv) s'->R s):gE P T l zq (S0 [.ptr 0 (some bl) 47 0 0,qI j] (a8 (S1 bl d rv mv))) R (λ_ _=>False) R:=by
 cbv
 repeat' first|(refine qA ?_;cbv)|(intro c;cbv)
 refine a6 (λg=>?_) (λg=>?_)
 ·have g1:j<0:=gM hP g;rw[ab (.inl g1)] at i;cbv
  repeat' first|(refine qA ?_;cbv)|(intro c;cbv)
  refine k _ _ _ _ _ ⟨?_,?_,?_⟩ (cd.refl _) ⟨rfl,rfl,ax 0,ak 2,rfl⟩ ⟨rfl,trivial⟩<;>rw[i]
 have g1:¬j<0:=gN hP g;cbv
 repeat' first|(refine qA ?_;cbv)|(intro c;cbv)
 refine a6 (λg=>?_) (λg=>?_)
 ·have g2:7<j:=gM hP g;rw[ab (.inr g2)] at i;cbv
  repeat' first|(refine qA ?_;cbv)|(intro c;cbv)
  refine k _ _ _ _ _ ⟨?_,?_,?_⟩ (cd.refl _) ⟨rfl,rfl,ax 0,ak 2,rfl⟩ ⟨rfl,trivial⟩<;>rw[i]
 have g2:¬7<j:=gN hP g;rw[aa (λh=>h.elim g1 g2)] at i;have hw0:=hw qW;have q1:P.fK 0 j:=iJ hP qW;have q2:P.iq j 8:=lk hP qW;have f:P.nat j=w:=by rw[hw0];subst hP;rfl
 have hc:w=0\/w=1\/w=2\/w=3\/w=4\/w=5\/w=6\/w=7:=by((try simp only[nc] at*);omega)
 cbv
 repeat' first|(refine qA ?_;cbv)|(intro c;cbv)
 rcases hc with rfl|rfl|rfl|rfl|rfl|rfl|rfl|rfl
 ·refine⟨0,f,?_⟩;cbv
  repeat' first|(refine qA ?_;cbv)|(intro c;cbv)
  refine k _ _ _ _ _ ⟨?_,?_,?_⟩ (cd.refl _) ⟨rfl,rfl,ax 0,ak 2,rfl⟩ ⟨rfl,trivial⟩<;>rw[i]
 ·refine⟨1,f,?_⟩;cbv
  repeat' first|(refine qA ?_;cbv)|(intro c;cbv)
  refine k _ _ _ _ _ ⟨?_,?_,?_⟩ (cd.refl _) ⟨rfl,rfl,ax 0,ak 2,rfl⟩ ⟨rfl,trivial⟩<;>rw[i]
 ·refine⟨2,f,?_⟩;cbv
  repeat' first|(refine qA ?_;cbv)|(intro c;cbv)
  refine k _ _ _ _ _ ⟨?_,?_,?_⟩ (cd.refl _) ⟨rfl,rfl,ax 0,ak 2,rfl⟩ ⟨rfl,trivial⟩<;>rw[i]
 ·refine⟨3,f,?_⟩;cbv
  repeat' first|(refine qA ?_;cbv)|(intro c;cbv)
  refine k _ _ _ _ _ ⟨?_,?_,?_⟩ (cd.refl _) ⟨rfl,rfl,ax 0,ak 2,rfl⟩ ⟨rfl,trivial⟩<;>rw[i]
 ·refine⟨4,f,?_⟩;cbv
  repeat' first|(refine qA ?_;cbv)|(intro c;cbv)
  refine k _ _ _ _ _ ⟨?_,?_,?_⟩ (cd.refl _) ⟨rfl,rfl,ax 0,ak 2,rfl⟩ ⟨rfl,trivial⟩<;>rw[i]
 ·refine⟨5,f,?_⟩;cbv
  repeat' first|(refine qA ?_;cbv)|(intro c;cbv)
  refine k _ _ _ _ _ ⟨?_,?_,?_⟩ (cd.refl _) ⟨rfl,rfl,ax 0,ak 2,rfl⟩ ⟨rfl,trivial⟩<;>rw[i]
 ·refine⟨6,f,?_⟩;cbv
  repeat' first|(refine qA ?_;cbv)|(intro c;cbv)
  refine k _ _ _ _ _ ⟨?_,?_,?_⟩ (cd.refl _) ⟨rfl,rfl,ax 0,ak 2,rfl⟩ ⟨rfl,trivial⟩<;>rw[i]
 ·refine⟨7,f,?_⟩;cbv
  repeat' first|(refine qA ?_;cbv)|(intro c;cbv)
  refine k _ _ _ _ _ ⟨?_,?_,?_⟩ (cd.refl _) ⟨rfl,rfl,ax 0,ak 2,rfl⟩ ⟨rfl,trivial⟩<;>rw[i]
theorem IK(bl:Nat)(d:SC)(w:Int)(rv mv:V)(hq:WQ rv mv):Spec Tryz.prog 200 [.ptr 0 (some bl) 47 0 0,qI w] (a8 (S1 bl d rv mv)) λx h'=>∃L',(x=.tup [.agg [qI (jG d.tb w).a,qI (jG d.tb w).b],qI (jG d.tb w).e]/\L'=S1 bl d rv mv)/\h'=a8 L':=
 tu II [.agg [qI (jG d.tb w).a,qI (jG d.tb w).b],qI (jG d.tb w).e] _ rfl (.tup _ (by simp;exact⟨.agg _ (by simp;exact⟨.int _ _,.int _ _⟩),.int _ _⟩)) bl d rv mv hq λR c=>IJ cp rfl _ _ bl d rv mv hq.1.2 hq.2.2 w w.toNat (λh=>by omega) (jG d.tb w) rfl R
  λs s' a b e h he hr ha=>by obtain⟨rfl,rfl,rfl⟩:=h;exact c s s' he hr ha
def IL(T:cm):Prop:=∀(k bl:Nat)(d:SC)(rv mv:V)(w:Int)(h:Hp)(K:V->Hp->Prop),WQ rv mv->sg k rv=true->sg k mv=true->h k=some (eO bl (eM d rv mv))->(∀a b e,a=(jG d.tb w).a->b=(jG d.tb w).b->e=(jG d.tb w).e->K (.tup [.agg [qI a,qI b],qI e]) h)->T 200 [.ptr k (some bl) 47 0 0,qI w] h K
theorem Qb:IL (dF Tryz.prog):=λk bl d rv mv w h K hq r1 r2 hk hK=>TY (Q:=WQ) (λg=>hq.rl g) (λrv mv hq=>IK bl d w rv mv hq) rfl (λ_=>rfl) hq.1.1 hq.2.1 r1 r2 hk (hK _ _ _ rfl rfl rfl)
def zr:AC:=qr [qo 2 (.alloc 71 Fw)] (qr [qm 3 0,qn 4 3,qf 5 0 4,qd 6 4 5,qs 4 2 6] .ret)
theorem IM:fF Tryz.prog 158 Tryz.f158 zr [.cn 2 4] 1 dS:=⟨Tryz.func158,by decide+kernel,by kernel_rfl,by kernel_rfl,by decide+kernel⟩
theorem IN(P:Prim)(hP:P=cp)(T a:cm)(bl:Nat)(d:SC)(rv mv:V)(b:V.one rv=true)(c:V.one mv=true)
  (R:S->Prop)(e:∀s s',cd s s'->ia [.cn 2 4] [.agg [.str d.x1,qI d.x2,.str d.x3,qI d.x4]] s'->eP (S1 bl d rv mv) s'->R s):gE P T a zr (S0 [.ptr 0 (some bl) 47 0 0] (a8 (S1 bl d rv mv))) R (λ_ _=>False) R:=by
 cbv
 repeat' first|(refine qA ?_;cbv)|(intro f;cbv)
 exact e _ _ (cd.refl _) ⟨rfl,rfl,ax 0,ak 4,rfl⟩ ⟨rfl,trivial⟩
theorem IP(bl:Nat)(d:SC)(rv mv:V)(hq:WQ rv mv):Spec Tryz.prog 158 [.ptr 0 (some bl) 47 0 0] (a8 (S1 bl d rv mv)) λx h'=>∃L',(x=.agg [.str d.x1,qI d.x2,.str d.x3,qI d.x4]/\L'=S1 bl d rv mv)/\h'=a8 L':=
 tu IM [.agg [.str d.x1,qI d.x2,.str d.x3,qI d.x4]] _ rfl (.agg _ (by simp;exact⟨.str _,.int _ _,.str _,.int _ _⟩)) bl d rv mv hq λR a=>IN cp rfl _ _ bl d rv mv hq.1.2 hq.2.2 R a
def IQ(T:cm):Prop:=∀(k bl:Nat)(d:SC)(rv mv:V)(h:Hp)(K:V->Hp->Prop),WQ rv mv->sg k rv=true->sg k mv=true->h k=some (eO bl (eM d rv mv))->K (.agg [.str d.x1,qI d.x2,.str d.x3,qI d.x4]) h->T 158 [.ptr k (some bl) 47 0 0] h K
theorem Qc:IQ (fk Tryz.prog):=λk bl d rv mv h K hq r1 r2 hk hK=>P8 (Q:=WQ) (λg=>hq.rl g) (λrv mv hq=>IP bl d rv mv hq) rfl (λ_=>rfl) hq.1.1 hq.2.1 hk hK
theorem cd.Qd{s:S}{k q n ty:Nat}{b:Option Nat}{c:List (List V)}{O p u:Ob}{pre:List (List V)}{x y:V}(hk:s.h k=some ⟨b,ty,3,c⟩)(hq:s.h q=some O)(w:O.rows=pre++[[x,y,.own k b 3 n]])(h0:s.h 0=some p)(h1:s.h 1000001=some u)(hn:c.length=n)(hz:∀r∈c,∀v∈r,Fz v)(z:q≠0)(A:q≠1000001)(d:k≠0)(f:k≠1000001)(g:k≠q):
  cd s ⟨s.t,a8 [(0,p),(1000001,u),(q,⟨O.b,O.ty,O.sz,pre++[[x,y,.sl false 3 c]]⟩)]⟩:=by
 have same:∀(j:Nat)(o:Ob),s.h j=some o->j≠k->j≠k/\∃q,s.h j=some q/\o.b=q.b/\o.ty=q.ty/\o.sz=q.sz/\o.rows.length=q.rows.length/\∀(i:Nat)(r r':List V),q.rows[i]? =some r->o.rows[i]? =some r'->r'.length=r.length/\∀(l:Nat)(v v':V),r[l]? =some v->r'[l]? =some v'->L2 k b 3 n c v v':=
  λj o ho hj=>⟨hj,o,ho,rfl,rfl,rfl,rfl,λi r r' h1 h2=>by rw[h1] at h2;cases h2;exact⟨rfl,λl v v' h3 h4=>by rw[h3] at h4;cases h4;exact .inl rfl⟩⟩
 refine cd.freeze (o:=⟨b,ty,3,c⟩) hk rfl rfl hn hz (λj=>.inl rfl) (λj B hj=>?_);simp only[a8] at hj
 split at hj
 ·rename_i e;cases hj;subst e;exact same _ _ h0 (λe=>d e.symm)
 ·split at hj
  ·rename_i e;cases hj;subst e;exact same _ _ h1 (λe=>f e.symm)
  ·split at hj
   ·rename_i e;cases hj;subst e;refine⟨λe=>g e.symm,O,hq,rfl,rfl,rfl,by rw[w];simp,λi r r' e1 a=>?_⟩;rw[w] at e1;simp only at a;rw[List.getElem?_append] at e1 a
    by_cases hi:i<pre.length
    ·rw[ab hi] at e1 a;rw[e1] at a;cases a;exact⟨rfl,λl v v' h4 h5=>by rw[h4] at h5;cases h5;exact .inl rfl⟩
    ·rw[aa hi] at e1 a;cases hp:i-pre.length with
     |zero=>
      rw[hp] at e1 a;simp only[bR,aC] at e1 a;subst e1 a;refine⟨rfl,λl v v' h4 h5=>?_⟩
      match l with
      |0=>simp at h4 h5;subst h4 h5;exact .inl rfl
      |1=>simp at h4 h5;subst h4 h5;exact .inl rfl
      |2=>simp at h4 h5;subst h4 h5;exact .inr ⟨rfl,rfl⟩
      |l+3=>simp at h4
     |succ m=>rw[hp] at e1;simp at e1
   ·cases hj
def hG(d:SC)(l:List er)(j:Int):List er×Int:=if iZ d.b l.length j≠0 then([],iZ d.b l.length j) else(l.drop (j-d.b).toNat,0)
def zs:AC:=qr [qo 4 (.mov (.c (.slice none 0 0))),qz 5 0] (qq (qr [qm 10 0,qm 11 1,qa 12 72 [.t 10,.t 11],qm 6 12] (qr [qm 13 6,qc 14 .neq 13 0] (qu 14 (qr [qm 15 6,qo 4 (.mov (.c (.slice none 0 0))),qm 5 15] .ret) .skip))) (qr [qo 7 (.mov (.c (.slice none 0 0)))] (qq (qq (.region true [qm 16 0,qn 17 16,qf 18 5 17,qf 19 35 18,ql 20 19,qm 21 1,qm 22 0,qn 23 22,qf 24 5 23,qf 25 1 24,ql 26 25,qb 27 .sub 21 26,qo 28 (.slsl 3 (.t 20) (some (.t 27)) none),qo 29 (.len false (.t 28)),qz 30 0]) (.block 0 (.loop (qr [qb 31 .lss 30 29] (qq (qu 31 .skip (.exit 0)) (qq (.block 1 (qr [qo 32 (.iaddr 3 (.t 28) (.t 30)),qd 33 3 32,qo 9 (.alloc 96 Lb),qs 3 9 33] (qr [qf 34 2 9,ql 35 34,qo 36 (.append 41 3 32 (.c (.slice none 0 0)) (.t 35)),qf 37 2 9,qs 1 37 36] (qR [qm 38 7,qd 39 3 9,qo 40 (.bslice 96 3 [.t 39]),qo 41 (.append 96 3 40 (.t 38) (.t 40)),qm 7 41])))) (qR [qc 42 .add 30 1,qm 30 42]))))))) (qr [qm 43 7,qm 4 43,qz 5 0] .ret))))
theorem IS:fF Tryz.prog 201 Tryz.f201 zs [.t 4,.t 5] 2 dS:=⟨Tryz.func201,by decide+kernel,by kernel_rfl,by kernel_rfl,by decide+kernel⟩
structure Ww(l:List er)(a:Nat) where
 i:Nat
 k:Int
 ba:Option Nat
 m:Nat
 rows:List (List V)
 hi:a+i<=l.length
 hk:k=(i:Int)
 hm:m=i
 hr:rows=((l.drop a).take i).map bd
theorem IT(P:Prim)(hP:P=cp)(T M:cm)(D:xF T)(bl:Nat)(d:SC)(ba:Option Nat)(l:List er)(n:Nat)(hn:n=l.length)(rows:List (List V))(hrows:rows=l.map bd)(E:∀r∈l,r.delta.length<=1000000000)(mv:V)(F:sg 0 mv=true)(hm:Fz mv/\V.one mv=true)(hw:MM mv=true)(hb:0<=d.b/\d.b<=4294967295)(G:n<=1000)(j:Int)(x:List er)(y:Int)(hr:hG d l j=(x,y))
  (R:S->Prop)(L:∀s s' B m ro,m=x.length->ro=x.map bd->cd s s'->ia [.t 4,.t 5] [.own 1000041 B 3 m,qI y] s'->eP [(0,eO bl (eM d (.own 1000001 ba 3 n) mv)),(1000001,il ba rows),(1000041,il B ro)] s'->R s):gE P T M zs (S0 [.ptr 0 (some bl) 47 0 0,qI j] (a8 (S2 bl d ba n rows mv))) R (λ_ _=>False) R:=by
 have N:=hm.2;unfold hG at hr;rw[<-hn] at hr;cbv
 repeat' first|(refine qA ?_;cbv)|(intro c;cbv)
 refine D 0 bl d 1000001 ba n mv j _ _ hb G hm hw rfl F rfl λq hq=>?_;rw[<-hq] at hr;cbv
 repeat' first|(refine qA ?_;cbv)|(intro c;cbv)
 refine a6 (λg=>?_) (λg=>?_)
 ·have g1:q≠0:=iG hP g;rw[ab g1] at hr;cases hr;cbv
  repeat' first|(refine qA ?_;cbv)|(intro c;cbv)
  exact L _ _ none 0 [] rfl rfl (cd.nil (i:=4) (k:=1000041) (ty:=96) (sz:=3) rfl rfl) rfl ⟨rfl,rfl,rfl,trivial⟩
 have g1:q=0:=iy hP g;rw[aa (λhh=>hh g1)] at hr;have hj:d.b<=j/\j<=d.b+(n:Int):=by
  rw[g1] at hq;unfold iZ at hq
  split at hq
  ·cases hq
  ·split at hq
   ·cases hq
   ·omega
 have m1:P.i64 (P.sub j d.b):=by rw[sub_eq hP];exact fm hP qW
 have m2:P.fK 0 (P.sub j d.b):=iJ hP (by rw[sub_eq hP];omega);have m3:P.fK (P.sub j d.b) (P.int n):=qy hP (by rw[sub_eq hP,int_eq hP];omega);have m4:P.fK (P.int n) (P.int n):=qy hP (bn _);obtain⟨a,ha⟩:∃a:Nat,P.sub j d.b=(a:Int):=⟨(j-d.b).toNat,by rw[sub_eq hP];omega⟩;have H:(j-d.b).toNat=a:=by rw[sub_eq hP] at ha;omega
 have O:a<=l.length:=by rw[sub_eq hP] at ha;omega
 rw[H] at hr;simp only[aX] at hr;obtain⟨hx,hy⟩:=hr;obtain⟨lo,v⟩:∃lo,lo=P.sub j d.b:=⟨_,rfl⟩;have I:lo=(a:Int):=by rw[v];exact ha
 cbv
 repeat' first|(refine qA ?_;cbv)|(intro c;cbv)
 rw[<-v];refine⟨Ww l a,λy=>[(0,.ptr 0 (some bl) 47 0 0),(7,.own 1000041 y.ba 3 y.m),(28,.win 1000001 ba 3 lo (P.int n)),(29,qI (P.sub (P.int n) lo)),(30,qI y.k)],
  λy=>[(0,eO bl (eM d (.own 1000001 ba 3 n) mv)),(1000001,il ba rows),(1000041,il y.ba y.rows)],λy=>l.length-y.i,
  ⟨_,cd.nil (i:=7) (k:=1000041) (ty:=96) (sz:=3) rfl rfl,⟨0,0,none,0,[],qW,rfl,rfl,by simp⟩,⟨rfl,rfl,rfl,rfl,rfl,trivial⟩,⟨rfl,rfl,rfl,trivial⟩⟩,?_⟩
 rintro⟨i,k,B,m,ro,hi,hk,h,o⟩;cbv;refine a6 (λg=>?_) (λg=>?_)
 ·have g2:k<P.sub (P.int n) lo:=gM hP g;have g3:k<(n:Int)-lo:=by rw[sub_eq hP,int_eq hP] at g2;exact g2
  have z:a+i<l.length:=by((try simp only[nc] at*);omega)
  obtain⟨r,p⟩:∃r,l[a+i]? =some r:=⟨_,af z⟩;have EM:P.add lo k=((a+i:Nat):Int):=by rw[add_eq hP,I,hk];simp
  have f:P.row rows (P.nat (P.add lo k)) [qI r.who,qI r.seq,.sl false 3 (r.delta.map a7)]:=gz hP EM (by rw[hrows,aw,p];rfl);have J:(r.delta.map a7).length<=1000000000:=by have:=E r (az p);simpa using this
  have A:=fL r.delta;have u:((l.drop a).take (i+1)).map bd=ro++[[qI r.who,qI r.seq,.sl false 3 (r.delta.map a7)]]:=by
   have e:(l.drop a)[i]? =some r:=by rw[bC];exact p
   rw[o,bJ,e];simp[bd,gI]
  generalize r.delta.map a7=C at f J A u
  obtain⟨w,hw⟩:∃w,r.who=w:=⟨_,rfl⟩;obtain⟨W,K⟩:∃w,r.seq=w:=⟨_,rfl⟩;rw[hw,K] at f u;have q1:P.fK 0 k:=iJ hP (by rw[hk];exact bK _);have q2:P.iq k (P.sub (P.int n) lo):=lk hP g2;have X:P.i64 (P.add k 1):=by rw[add_eq hP];exact fm hP qO
  have Q:P.add k 1=((i+1:Nat):Int):=by rw[add_eq hP,hk];simp
  have f1:P.bytes (P.cF C) 32:=by subst hP;show(C.length:Int)*32<=_;((try simp only[nc] at*);omega)
  have f2:C.length=P.gH C:=by subst hP;rfl
  have f4:P.rW ro m:=oC hP _ _ (by rw[o,h];simp;omega);have f5:∀r,P.bytes (P.add (P.int m) (P.cF [r])) 40:=by intro r;subst hP;show((m:Int)+1)*40<=_;((try simp only[nc] at*);omega)
  have f6:∀r,P.rW [r] 1:=by intro r;subst hP;rfl
  have f7:∀r,P.n4 ro [r]=ro++[r]:=by intro r;subst hP;rfl
  have f8:∀r:List V,P.jg m (P.gH [r])=i+1:=by intro r;rw[<-h];subst hP;rfl
  cbv
  repeat' first|(refine qA ?_;cbv)|(intro c;cbv)
  refine⟨_,f,?_⟩;cbv
  repeat' first|(refine And.intro (by first|assumption|decide|exact f6 _|exact f5 _) ?_;cbv)|(intro U;cbv)
  rw[f7,f8];refine⟨_,cd.Qd (k:=1000036) (q:=1000041) rfl rfl rfl rfl rfl f2 A qD qD qD qD qD,⟨i+1,_,_,i+1,_,qW,Q,rfl,u.symm⟩,⟨rfl,rfl,rfl,rfl,rfl,trivial⟩,⟨rfl,rfl,rfl,trivial⟩,?_⟩;show l.length-(i+1)<l.length-i;omega
 ·have g2:¬k<P.sub (P.int n) lo:=gN hP g;have g3:¬k<(n:Int)-lo:=by rw[sub_eq hP,int_eq hP] at g2;exact g2
  have z:a+i=l.length:=by((try simp only[nc] at*);omega)
  cbv
  repeat' first|(refine qA ?_;cbv)|(intro c;cbv)
  subst hy;refine L _ _ B m ro ?_ ?_ (cd.refl _) rfl ⟨rfl,rfl,rfl,trivial⟩
  ·rw[h,<-hx];simp;omega
  ·rw[o,<-hx,bT (by simp;omega)]
theorem IU(bl:Nat)(d:SC)(ba:Option Nat)(l:List er)(c:∀r∈l,r.delta.length<=1000000000)(hb:0<=d.b/\d.b<=4294967295)(e:l.length<=1000)(j:Int)(mv:V)(hq:MQ mv):Spec Tryz.prog 201 [.ptr 0 (some bl) 47 0 0,qI j] (a8 (S2 bl d ba l.length (l.map bd) mv))
  λx h'=>∃L',(∃a,x=.tup [.own 1000041 a 3 (hG d l j).1.length,qI (hG d l j).2]/\L'=[(0,eO bl (eM d (.own 1000001 ba 3 l.length) mv)),(1000001,il ba (l.map bd)),(1000041,il a ((hG d l j).1.map bd))])/\h'=a8 L':=
 dE hW IS (L:=S2 bl d ba l.length (l.map bd) mv) (λx L'=>∃a,x=.tup [.own 1000041 a 3 (hG d l j).1.length,qI (hG d l j).2]/\L'=[(0,eO bl (eM d (.own 1000001 ba 3 l.length) mv)),(1000001,il ba (l.map bd)),(1000041,il a ((hG d l j).1.map bd))]) λR g=>
  IT cp rfl _ _ Ik bl d ba l _ rfl _ rfl c mv (RS hq.2) hq.1 hq.2 hb e j _ _ rfl R λs s' a m ro hm f he hr ha=>by
   subst hm f;refine g s s' _ _ he (da _ _ _ (λx hx=>by rw[hx];rfl) hr) ha (.tup _ (by simp;exact⟨.own _ _ _ _,.int _ _⟩)) (λp hp=>?_) ⟨a,rfl,rfl⟩;simp only[ah,aq,aQ] at hp
   rcases hp with rfl|rfl|rfl
   ·exact iB (.own _ _ _ _) hq.1.1 bl
   ·exact gR _
   ·exact gR _
theorem we:∀(n:Nat)(s:BS),s.length<=n->∀f∈(fR s).1,f.body.length<=4000
 |0,s,h,f,hf=>by
  rw[mU] at hf;have:(gl s).2.2≠0:=by
   intro hg;have:=lT hg;omega
  rw[ab this] at hf;cases hf
 |n+1,s,h,f,hf=>by
  rw[mU] at hf
  by_cases he:(gl s).2.2≠0
  ·rw[ab he] at hf;cases hf
  ·have hg:=lT (aK he);rw[aa he] at hf;have hd:(s.drop (gl s).2.1.toNat).length=s.length-(gl s).2.1.toNat:=aP ..
   rcases ah.1 hf with rfl|hf
   ·exact hg.2.2.2.2.2
   ·exact we n _ qW f hf
theorem wg{n:Nat}(h:n<=4000):n<=maxLen:=by
 have:maxLen=9223372036854775807:=by decide
 omega
def zt(a:Nat)(l:hM)(e:Int)(x:V)(L':List (Nat×Ob)):Prop:=(e=0/\∃ba,x=.tup [.agg (nQ l.gen l.base l.text l.first l.table (.own a ba 3 l.gq.length) l.whole l.fW),.int .i64 e]/\L'=[(a,il ba (l.gq.map bd))])\/(e≠0/\x=.tup [.agg (nQ l.gen l.base l.text l.first l.table .nilsl l.whole l.fW),.int .i64 e]/\L'=[])\/(e≠0/\∃ba,x=.tup [.agg (nQ l.gen l.base l.text l.first l.table (.own a ba 3 l.gq.length) l.whole l.fW),.int .i64 e]/\L'=[])
theorem uF{gn b:Int}{tx:BS}{fs tb:Nat->Int}{v:V}{wh:Bool}{gd e:Int}(hv:V.Q0 v=true):Fz (.tup [.agg (nQ gn b tx fs tb v wh gd),.int .i64 e]):=by
 refine .tup _ (λx hx=>?_);simp only[ah,aq,aQ] at hx
 rcases hx with rfl|rfl
 ·refine .agg _ (xD ?_);have e:∀l1 l2:List V,l1.all V.Q0=true->l2.all V.Q0=true->(l1++v::l2).all V.Q0=true:=λl1 l2 a b=>by rw[List.all_append,eX,a,hv,b];rfl
  exact e ((nQ gn b tx fs tb v wh gd).take 35) [.bool wh,.int .i64 gd] rfl rfl
 ·exact .int _ _
theorem BA{rv:List RV}{d:Nat}{l:hM}{e:Int}{R:S->Prop}(f:∀(s s':S)(v:V)(L':List (Nat×Ob)),cd s s'->kH s' rv (λx=>kI x=v)->eP L' s'->Fz v->(∀p∈L',p.2.Fz)->zt d l e v L'->R s):H4 rv d l e R:=by
 intro s s' gn b gd tx fs tb wh v rows x he c hv h;obtain⟨rfl,rfl,rfl,rfl,h5,h6,rfl,rfl,rfl⟩:=h;have a:kH s' rv (λy=>kI y=.tup [.agg (nQ l.gen l.base l.text l.first l.table v l.whole l.fW),.int .i64 x]):=da _ _ _ (λy hy=>by
  subst hy;rw[h5 0 qD,h5 1 qD,h5 2 qD,h5 3 qD,h5 4 qD,h5 5 qD,h5 6 qD,h5 7 qD,h5 8 qD,h5 9 qD,h5 10 qD,h5 11 qD,h5 12 qD,h5 13 qD,h5 14 qD,h5 15 qD,h6 0 qD,h6 1 qD,h6 2 qD,h6 3 qD,h6 4 qD,h6 5 qD,h6 6 qD,h6 7 qD,h6 8 qD,h6 9 qD,h6 10 qD,h6 11 qD,h6 12 qD,h6 13 qD,h6 14 qD,h6 15 qD];rfl) c
 rcases hv with⟨rfl,h0,hx⟩|⟨β,n,rfl,h1,h2⟩
 ·exact f s s' _ [] he a trivial (uF rfl) (λp hp=>by cases hp) (.inr (.inl ⟨hx,rfl,rfl⟩))
 ·have hn:n=l.gq.length:=by rw[h2];simp
  subst hn
  by_cases hx:x=0
  ·exact f s s' _ [(d,il β (l.gq.map bd))] he a ⟨h1,trivial⟩ (uF rfl) (λp hp=>by rw[ag.1 hp];exact gR _) (.inl ⟨hx,β,rfl,rfl⟩)
  ·exact f s s' _ [] he a trivial (uF rfl) (λp hp=>by cases hp) (.inr (.inr ⟨hx,β,rfl,rfl⟩))
theorem EN(s:BS)(hs:s.length<=1048576):Spec Tryz.prog 207 [.str s] (a8 []) λx h'=>∃L',zt 1000999 (gS (fR s).1).1 (gS (fR s).1).2 x L'/\h'=a8 L':=
 dE hW H5 (L:=[]) _ λR a=>H6 cp rfl _ _ s (fR s).1 (we _ s (ak _)) (by have:=y6 _ s (ak _);omega) _ rfl (fR s).2 (jP (Mp s hs) rfl rfl)
  (λx=>iX x 0) (λx=>iX x 1) (λx=>(nK x 18).1) (λx j=>iX x (j+2)) mI (λx hx=>jP (MA x (wg hx)) rfl rfl) (λx=>HO x 1)
  (λx=>(lp x).who) (λx=>(lp x).seq) (λx=>(lp x).delta.map a7) sQ (λx hx=>jP (P6 x (wg hx)) rfl rfl) (λx=>⟨rfl,rfl,rfl,rfl⟩)
  gQ (P7 λgn b tx fs tb l wh gd size r hb hp=>r9 gn b tx fs tb l wh gd size r hb hp) (λ_ _ _ _ _=>rfl) (λx now=>(kB (lp x).delta now).1) (λx now=>(kB (lp x).delta now).2)
  (λx now=>yQ (Cq (lp x).delta (uB _).1 now) rfl rfl) (λ_ _=>rfl) TR (gS (fR s).1).1 (gS (fR s).1).2 rfl R (BA a)
end Go.Proofs.YtajdadcdcpnedaaGreatDoor.AM
