/-
  Part 9 of what the law ShopPlays reaches: the plain machine, contracts of the functions and plain laws; each lemma says its own condition.
-/
import Derived.Test.YtobngncjflogcaaGreatShopPlays8
import Derived.Test.YtobngncjflogcaaGreatShopPlays6
import Derived.Test.YtobngncjflogcaaGreatShopPlays7
import Derived.WalkKit
import Derived.Laws.BitsAllLaws
import Derived.Test.YtobngncjflogcaaGreatRows
import Derived.WalkSpells
import Derived.WalkLawsBesides
import Derived.Lib.Hide
import Derived.Laws.ResultCell
import Derived.Deep.LoopGhost
import Derived.Deep.WholeRow
set_option linter.unusedVariables false
set_option linter.unusedSimpArgs false
namespace Go.Proofs.YtobngncjflogcaaGreat.AM
open Go
set_option maxRecDepth 100000
set_option maxHeartbeats 2000000
def ll(p:Part):BS:=iE (4*(p.n+p.text.length)+p.kind).toNat++p.text
def codeF(d:List Part):BS:=iE d.length++(d.map ll).flatten
def wa:Nat->BS->List Part->Option (BS×List Part)
 |0,s,out=>some (s,out)
 |n+1,s,out=>if(gx s).2.2≠0 then none
  else if(gx s).1%4=2 then(if((s.drop (gx s).2.1.toNat).length:Int)<(gx s).1/4 then none else wa n ((s.drop (gx s).2.1.toNat).drop ((gx s).1/4).toNat) (out++[⟨2,0,(s.drop (gx s).2.1.toNat).take ((gx s).1/4).toNat⟩]))
  else wa n (s.drop (gx s).2.1.toNat) (out++[⟨(gx s).1%4,(gx s).1/4,[]⟩])
def kD(s:BS):Option (BS×List Part):=if(gx s).2.2≠0 then none else wa (gx s).1.toNat (s.drop (gx s).2.1.toNat) []
def jI(s:BS):List Part×Int:=match kD s with
 |none=>([],3)
 |some (r,d)=>if r=[]/\ed d=0 then(d,0) else([],3)
theorem vt:∀(n:Nat)(s:BS)(out:List Part)(r:BS)(d:List Part),wa n s out=some (r,d)->∃e,d=out++e/\e.length=n/\s=(e.map ll).flatten++r
 |0,s,out,r,d,h=>by
  simp only[wa,aH,aL] at h;exact⟨[],by simp[h.2],rfl,by simp[h.1]⟩
 |n+1,s,out,r,d,h=>by
  unfold wa at h
  split at h
  ·cases h
  ·rename_i h1;obtain⟨k,g1,g2,g3,_,g4,g5,g6⟩:=lv (az h1);have hk:(gx s).2.1.toNat=k:=by omega
   rw[hk] at h
   split at h
   ·rename_i h2
    split at h
    ·cases h
    ·rename_i h3;obtain⟨e,e1,a,b⟩:=vt n _ _ r d h;refine⟨⟨2,0,(s.drop k).take ((gx s).1/4).toNat⟩::e,by rw[e1];simp,by simp[a],?_⟩;have hl:((s.drop k).take ((gx s).1/4).toNat).length=((gx s).1/4).toNat:=by rw[aI];omega
     have hx:(4*(0+(((s.drop k).take ((gx s).1/4).toNat).length:Int))+2).toNat=(gx s).1.toNat:=by rw[hl];omega
     rw[aR,bE,ll];simp only[];rw[hx,g6,bh,bh,<-b,aZ,aZ]
   ·rename_i h2;obtain⟨e,e1,a,b⟩:=vt n _ _ r d h;refine⟨⟨(gx s).1%4,(gx s).1/4,[]⟩::e,by rw[e1];simp,by simp[a],?_⟩;have hx:(4*((gx s).1/4+(([]:BS).length:Int))+(gx s).1%4).toNat=(gx s).1.toNat:=by
     simp only[aT];omega
    rw[aR,bE,ll];simp only[];rw[hx,g6,aS,bh,<-b,aZ]
theorem Cf{s:BS}{r:BS}{d:List Part}(h:kD s=some (r,d)):s=codeF d++r:=by
 unfold kD at h
 split at h
 ·cases h
 ·rename_i h1;obtain⟨k,g1,g2,g3,_,g4,g5,g6⟩:=lv (az h1);rw[show(gx s).2.1.toNat=k by omega] at h;obtain⟨e,e1,a,b⟩:=vt _ _ _ r d h;rw[cE] at e1;subst e1;unfold codeF;rw[a,g6,bh,<-b,aZ]
theorem FI{s:BS}{r:BS}{d:List Part}(h:kD s=some (r,d)):r=[]↔codeF d=s:=by
 have:=Cf h
 constructor
 ·rintro rfl;rw[this];simp
 ·intro g;rw[g] at this;exact List.append_right_eq_self.1 this.symm
def DP:AC:=qr [qo 2 (.mov (.c qe))] (qr [qm 6 0,qa 7 108 [.t 6],qm 5 7,qx 8 0 5,qx 9 1 5,qm 3 8,qm 4 9] (qr [qm 10 3,qm 2 10] .ret))
theorem Na:fF Tryz.prog 145 Tryz.f145 DP [.t 2] 1 er:=⟨Tryz.func145,by decide+kernel,by kernel_rfl,by kernel_rfl,by decide+kernel⟩
theorem Nb(P:Prim)(hP:P=dn)(T b:c8)(n e:Int)(s:BS)(h1:gK T 108 [qI n] (.tup [.str s,qI e]))
  (R:S->Prop)(c:∀a s',c6 a s'->iH [.t 2] [.str s] s'->R a):gj P T b DP (S0 [qI n] Hp.emp) R (λ_ _=>False) R:=by
 cbv;refine h1 _ _ ?_;cbv;exact c _ _ (c6.refl _) rfl
theorem DQ(n:Int):Spec Tryz.prog 145 [.int .i64 n] Hp.emp (Is (.str (qS n).1)):=
 ep iD Na [.str (qS n).1] (.str _) λR a=>Nb dn rfl _ _ n _ _ (ia (DM n) (λ_=>fO rfl) rfl) R a
def xh:AC:=qr [qo 2 (.mov (.c qe)),qz 3 0] (qq (qr [qm 8 0,qa 9 106 [.t 8],qm 4 9] (qr [qm 10 4,qc 11 .neq 10 0] (qu 11 (qr [qm 12 4,qo 2 (.mov (.c qe)),qm 3 12] .ret) .skip))) (qr [qm 13 0,qo 14 (.len false (.t 13)),qa 15 145 [.t 14],qm 5 15] (qq (qr [qm 16 0,qo 17 (.len false (.t 16)),qz 18 0] (.block 0 (.loop (qr [qb 19 .lss 18 17] (qq (qu 19 .skip (.exit 0)) (qq (.block 1 (qr [qo 20 (.iaddr 3 (.t 16) (.t 18)),qd 21 3 20,qo 7 (.alloc 115 uk),qs 3 7 21] (qr [qf 22 0 7,ql 23 22,qc 24 .eql 23 2] (qu 24 (.region true [qm 25 5,qf 26 2 7,ql 27 26,qo 28 (.len true (.t 27)),qo 29 (.bin .mul (qk 4) (.t 28)),qc 30 .add 29 2,qa 31 145 [.t 30],qf 32 2 7,ql 33 32,qb 34 .add 31 33,qb 35 .add 25 34,qm 5 35]) (qR [qm 36 5,qf 37 1 7,ql 38 37,qo 39 (.bin .mul (qk 4) (.t 38)),qf 40 0 7,ql 41 40,qb 42 .add 39 41,qa 43 145 [.t 42],qb 44 .add 36 43,qm 5 44]))))) (qR [qc 45 .add 18 1,qm 18 45]))))))) (qr [qm 46 5,qm 2 46,qz 3 0] .ret))))
theorem FJ:fF Tryz.prog 115 Tryz.f115 xh [.t 2,.t 3] 1 er:=⟨Tryz.func115,by decide+kernel,by kernel_rfl,by kernel_rfl,by decide+kernel⟩
structure Xy(d:List Part)(a:BS) where
 k:Int
 pre:List Part
 rest:List Part
 o:BS
 hd:d=pre++rest
 hk:k=(pre.length:Int)
 ho:o=a++(pre.map ll).flatten
 Di:o.length<=5+505*pre.length
theorem FK(P:Prim)(hP:P=dn)(T L:c8)(B:Bool)(d:List Part)(rows:List (List V))(ds:rows=d.map bd)(c:Int)(b:Int->BS)
  (h1:gK T 106 [.sl B 3 rows] (qI c))(hc:c=0->d.length<=1600/\∀p∈d,rT p)
  (h2:∀n,0<=n->n<=100000->gK T 145 [qI n] (.str (b n)))(h3:∀n,0<=n->n<=100000->gK L 145 [qI n] (.str (b n)))
  (l:∀n,0<=n->n<=100000->b n=iE n.toNat)(r:BS)(C:Int)(g1:c≠0->[]=r/\c=C)(g2:c=0->codeF d=r/\0=C)
  (R:S->Prop)(M:∀N s' x y,x=r/\y=C->c6 N s'->iH [.t 2,.t 3] [.str x,qI y] s'->R N):gj P T L xh (S0 [.sl B 3 rows] Hp.emp) R (λ_ _=>False) R:=by
 have e:P.dv rows=(d.length:Int):=by rw[gE hP,ds];simp
 cbv;refine h1 _ _ ?_;clear h1;cbv;refine ab (λh=>?_) (λh=>?_)
 ·have hx:=g1 (hH hP h);cbv;exact M _ _ _ _ hx (c6.refl _) rfl
 have hz:=gZ hP h;obtain⟨O,q⟩:=hc hz;obtain⟨s,D⟩:=g2 hz;have f1:=h2 (P.dv rows) (by rw[e];exact aO _) (by rw[e];((try simp only[nc] at*);omega));have u:b (P.dv rows)=iE d.length:=by rw[l _ (by rw[e];exact aO _) (by rw[e];((try simp only[nc] at*);omega)),e];rfl
 clear g1 g2 h hc;cbv;refine f1 _ _ ?_;cbv;refine⟨Xy d (iE d.length),λy=>[(5,.str y.o),(16,.sl B 3 rows),(17,qI (P.dv rows)),(18,qI y.k)],λy=>[],λy=>y.rest.length,
  ⟨_,c6.refl _,⟨0,[],d,b (P.dv rows),rfl,rfl,by rw[u];simp,by rw[u];have:=jr d.length;simp;omega⟩,⟨rfl,rfl,rfl,rfl,trivial⟩,trivial⟩,?_⟩
 rintro⟨k,pre,rest,o,hd,hk,ho,Di⟩;have U:P.c9 o=(o.length:Int):=by subst hP;rfl
 replace hk:k=(pre.length:Int):=hk
 have m:pre.length+rest.length=d.length:=by rw[hd];simp
 cbv;refine ab (λh=>?_) (λh=>?_)
 ·have h6:k<P.dv rows:=fJ hP h;rw[e] at h6
  rcases rest with _|⟨⟨kd,a,tx⟩,rest⟩
  ·exfalso;simp at m;((try simp only[nc] at*);omega)
  have v:P.row rows (P.nat k) [qI kd,qI a,.str tx]:=ga hP hk (by rw[ds,av,hd];simp[bd]);have hp:=iU (q ⟨kd,a,tx⟩ (by rw[hd];simp));obtain⟨E,F,G,w⟩:=hp;simp only[] at E F G w;have k1:P.fC 0 k:=iu hP qO;have k2:P.i64 (P.add k 1):=by rw[add_eq hP];exact eR hP qO
  have Q:P.add k 1=(((pre++[(⟨kd,a,tx⟩:Part)]).length:Nat):Int):=by rw[add_eq hP,hk];simp
  have A:P.c9 tx=(tx.length:Int):=by subst hP;rfl
  cbv;refine⟨k1,_,v,?_⟩;cbv;intro β;cbv
  by_cases hk2:kd=2
  ·have e1:P.add (P.mul 4 (P.c9 tx)) 2=4*(tx.length:Int)+2:=by rw[add_eq hP,A];subst hP;rfl
   have i1:P.i64 (P.mul 4 (P.c9 tx)):=by rw[A];subst hP;show jx (4*(tx.length:Int));unfold jx;omega
   have i2:P.i64 (P.add (P.mul 4 (P.c9 tx)) 2):=by rw[e1];exact eR hP qW
   have f2:=h3 (P.add (P.mul 4 (P.c9 tx)) 2) (by rw[e1];omega) (by rw[e1];omega);have i:=l (P.add (P.mul 4 (P.c9 tx)) 2) (by rw[e1];omega) (by rw[e1];omega);have H:a=0:=by omega
   have hpl:(b (P.add (P.mul 4 (P.c9 tx)) 2)).length<=5:=by rw[i];exact jr _
   have f:∀x:BS,P.c9 x=(x.length:Int):=by intro x;subst hP;rfl
   have j:∀x y:BS,(P.h9 x y).length=x.length+y.length:=by intro x y;subst hP;exact ag
   have X:P.i64 (P.add (P.c9 (b (P.add (P.mul 4 (P.c9 tx)) 2))) (P.c9 tx)):=by have hq:=hpl;generalize b (P.add (P.mul 4 (P.c9 tx)) 2)=z at hq⊢;rw[add_eq hP,f z,f tx];exact eR hP qO
   have W:P.i64 (P.add (P.c9 o) (P.c9 (P.h9 (b (P.add (P.mul 4 (P.c9 tx)) 2)) tx))):=by have hq:=hpl;generalize b (P.add (P.mul 4 (P.c9 tx)) 2)=z at hq⊢;rw[add_eq hP,f o,f,j];exact eR hP qO
   have I:(P.h9 o (P.h9 (b (P.add (P.mul 4 (P.c9 tx)) 2)) tx)).length<=5+505*(pre++[(⟨kd,a,tx⟩:Part)]).length:=by rw[j,j];simp;omega
   have J:P.h9 o (P.h9 (b (P.add (P.mul 4 (P.c9 tx)) 2)) tx)=iE d.length++((pre++[(⟨kd,a,tx⟩:Part)]).map ll).flatten:=by
    rw[i,e1,ho];subst hP;show(_++_)++(_++tx)=_;simp[ll,H,hk2]
   refine iv (pC hP hk2) ?_;cbv
   repeat' first|(refine And.intro (by assumption) ?_;cbv)|(intro β;cbv)
   refine f2 _ _ ?_;cbv
   repeat' first|(refine And.intro (by assumption) ?_;cbv)|(intro β;cbv)
   exact⟨_,c6.refl _,⟨_,pre++[⟨kd,a,tx⟩],rest,_,by simp[hd],Q,J,I⟩,⟨rfl,rfl,rfl,rfl,trivial⟩,trivial,by simp⟩
  ·have K:tx=[]:=by rcases w with g|g;exact absurd g.1 hk2;exact g.2.2
   have e1:P.add (P.mul 4 a) kd=4*a+kd:=by rw[add_eq hP];subst hP;rfl
   have i1:P.i64 (P.mul 4 a):=by subst hP;show jx (4*a);unfold jx;omega
   have i2:P.i64 (P.add (P.mul 4 a) kd):=by rw[e1];exact eR hP qW
   have f2:=h2 (P.add (P.mul 4 a) kd) (by rw[e1];omega) (by rw[e1];omega);have i:=l (P.add (P.mul 4 a) kd) (by rw[e1];omega) (by rw[e1];omega);have hpl:(b (P.add (P.mul 4 a) kd)).length<=5:=by rw[i];exact jr _
   have f:∀x:BS,P.c9 x=(x.length:Int):=by intro x;subst hP;rfl
   have j:∀x y:BS,(P.h9 x y).length=x.length+y.length:=by intro x y;subst hP;exact ag
   have W:P.i64 (P.add (P.c9 o) (P.c9 (b (P.add (P.mul 4 a) kd)))):=by rw[add_eq hP,f,f];exact eR hP qO
   have I:(P.h9 o (b (P.add (P.mul 4 a) kd))).length<=5+505*(pre++[(⟨kd,a,tx⟩:Part)]).length:=by rw[j];simp;omega
   have J:P.h9 o (b (P.add (P.mul 4 a) kd))=iE d.length++((pre++[(⟨kd,a,tx⟩:Part)]).map ll).flatten:=by
    rw[i,e1,ho];subst hP;show(_++_)++_=_;simp[ll,K]
   refine hJ (wk hP hk2) ?_;cbv
   repeat' first|(refine And.intro (by assumption) ?_;cbv)|(intro β;cbv)
   refine f2 _ _ ?_;cbv
   repeat' first|(refine And.intro (by assumption) ?_;cbv)|(intro β;cbv)
   exact⟨_,c6.refl _,⟨_,pre++[⟨kd,a,tx⟩],rest,_,by simp[hd],Q,J,I⟩,⟨rfl,rfl,rfl,rfl,trivial⟩,trivial,by simp⟩
 ·have h6:¬k<P.dv rows:=fM hP h;rw[e] at h6
  rcases rest with _|⟨y,rest⟩
  rotate_left
  ·exfalso;simp at m;((try simp only[nc] at*);omega)
  have:o=r:=by rw[ho,<-s,hd];simp[codeF,m]
  cbv;exact M _ _ _ _ ⟨this,D⟩ (c6.refl _) rfl
theorem Cg(d:List Part)(hd:d.length<=maxLen):Spec Tryz.prog 115 [.sl true 3 (d.map bd)] Hp.emp (Is (.tup [.str (if ed d=0 then codeF d else[]),.int .i64 (ed d)])):=
 ep iD FJ [.str (if ed d=0 then codeF d else[]),.int .i64 (ed d)] (.tup _ (by simp;exact⟨.str _,.int _ _⟩)) λR a=>FK dn rfl _ _ true d _ rfl (ed d) (λn=>(qS n).1)
  (ia (oo d hd) (λ_=>.cons (.same _) .nil) rfl) (λh=>⟨(fP h).1,(fP h).2.1⟩) (λn _ _=>ia (DQ n) (λ_=>fO rfl) rfl) (λn _ _=>oh (DQ n) (λ_=>fO rfl) rfl)
  (λn h0 h1=>by unfold qS;rw[aa qW]) (if ed d=0 then codeF d else[]) (ed d) (λh=>by rw[aa h];exact⟨rfl,rfl⟩) (λh=>by rw[ae h];exact⟨rfl,h.symm⟩) R
  λb s' x y h he hr=>by obtain⟨rfl,rfl⟩:=h;exact a b s' he hr
def zW:AC:=qr [qo 2 (.mov (.c qe))] (qr [qm 6 0,qo 7 (.len false (.t 6)),qa 8 73 [.t 7],qm 3 8] (qq (qr [qm 9 0,qo 10 (.len false (.t 9)),qz 11 0] (.block 0 (.loop (qr [qb 12 .lss 11 10] (qq (qu 12 .skip (.exit 0)) (qq (.block 1 (qr [qo 13 (.iaddr 3 (.t 9) (.t 11)),qd 14 3 13,qo 5 (.alloc 115 uk),qs 3 5 14] (.region true [qm 15 3,qf 16 1 5,ql 17 16,qf 18 2 5,ql 19 18,qo 20 (.len true (.t 19)),qb 21 .add 17 20,qo 22 (.bin .mul (qk 4) (.t 21)),qf 23 0 5,ql 24 23,qb 25 .add 22 24,qa 26 73 [.t 25],qf 27 2 5,ql 28 27,qb 29 .add 26 28,qb 30 .add 15 29,qm 3 30]))) (qR [qc 31 .add 11 1,qm 11 31]))))))) (qr [qm 32 3,qm 2 32] .ret)))
theorem IX:fF Tryz.prog 119 Tryz.f119 zW [.t 2] 1 er:=⟨Tryz.func119,by decide+kernel,by kernel_rfl,by kernel_rfl,by decide+kernel⟩
theorem IY(P:Prim)(hP:P=dn)(T C:c8)(d:List Part)(rows:List (List V))(ds:rows=d.map bd)(e:Int->BS)(D:d.length<=1600)(i:∀p∈d,rT p)
  (h2:∀n,0<=n->n<=100000->gK T 73 [qI n] (.str (e n)))(h3:∀n,0<=n->n<=100000->gK C 73 [qI n] (.str (e n)))
  (j:∀n,0<=n->n<=100000->e n=iE n.toNat)(r:BS)(l:codeF d=r)
  (R:S->Prop)(G:∀E s' x,x=r->c6 E s'->iH [.t 2] [.str x] s'->R E):gj P T C zW (S0 [.sl true 3 rows] Hp.emp) R (λ_ _=>False) R:=by
 have b:P.dv rows=(d.length:Int):=by rw[gE hP,ds];simp
 have f1:=h2 (P.dv rows) (by rw[b];exact aO _) (by rw[b];((try simp only[nc] at*);omega));have m:e (P.dv rows)=iE d.length:=by rw[j _ (by rw[b];exact aO _) (by rw[b];((try simp only[nc] at*);omega)),b];rfl
 cbv;refine f1 _ _ ?_;cbv;refine⟨Xy d (iE d.length),λy=>[(3,.str y.o),(9,.sl true 3 rows),(10,qI (P.dv rows)),(11,qI y.k)],λy=>[],λy=>y.rest.length,
  ⟨_,c6.refl _,⟨0,[],d,e (P.dv rows),rfl,rfl,by rw[m];simp,by rw[m];have:=jr d.length;simp;omega⟩,⟨rfl,rfl,rfl,rfl,trivial⟩,trivial⟩,?_⟩
 rintro⟨k,pre,rest,o,hd,hk,ho,Di⟩;have c:∀x:BS,P.c9 x=(x.length:Int):=by intro x;subst hP;rfl
 have f:∀x y:BS,(P.h9 x y).length=x.length+y.length:=by intro x y;subst hP;exact ag
 replace hk:k=(pre.length:Int):=hk
 have g:pre.length+rest.length=d.length:=by rw[hd];simp
 cbv;refine ab (λh=>?_) (λh=>?_)
 ·have h6:k<P.dv rows:=fJ hP h;rw[b] at h6
  rcases rest with _|⟨⟨kd,a,tx⟩,rest⟩
  ·exfalso;simp at g;((try simp only[nc] at*);omega)
  have q:P.row rows (P.nat k) [qI kd,qI a,.str tx]:=ga hP hk (by rw[ds,av,hd];simp[bd]);have hp:=iU (i ⟨kd,a,tx⟩ (by rw[hd];simp));obtain⟨u,v,w,A⟩:=hp;simp only[] at u v w A;have k1:P.fC 0 k:=iu hP qO;have k2:P.i64 (P.add k 1):=by rw[add_eq hP];exact eR hP qO
  have H:P.add k 1=(((pre++[(⟨kd,a,tx⟩:Part)]).length:Nat):Int):=by rw[add_eq hP,hk];simp
  have B:=c tx;have a1:P.add a (P.c9 tx)=a+(tx.length:Int):=by rw[add_eq hP,B]
  have i1:P.i64 (P.add a (P.c9 tx)):=by rw[a1];exact eR hP qW
  have a2:P.mul 4 (P.add a (P.c9 tx))=4*(a+(tx.length:Int)):=by rw[a1];subst hP;rfl
  have i2:P.i64 (P.mul 4 (P.add a (P.c9 tx))):=by rw[a2];exact eR hP qW
  have a3:P.add (P.mul 4 (P.add a (P.c9 tx))) kd=4*(a+(tx.length:Int))+kd:=by rw[add_eq hP,a2]
  have i3:P.i64 (P.add (P.mul 4 (P.add a (P.c9 tx))) kd):=by rw[a3];exact eR hP qW
  have f2:=h3 (P.add (P.mul 4 (P.add a (P.c9 tx))) kd) (by rw[a3];omega) (by rw[a3];omega);have s:=j (P.add (P.mul 4 (P.add a (P.c9 tx))) kd) (by rw[a3];omega) (by rw[a3];omega);have hpl:(e (P.add (P.mul 4 (P.add a (P.c9 tx))) kd)).length<=5:=by rw[s];exact jr _
  have F:P.h9 o (P.h9 (e (P.add (P.mul 4 (P.add a (P.c9 tx))) kd)) tx)=iE d.length++((pre++[(⟨kd,a,tx⟩:Part)]).map ll).flatten:=by
   rw[s,a3,ho];subst hP;show(_++_)++(_++tx)=_;simp[ll]
  generalize e (P.add (P.mul 4 (P.add a (P.c9 tx))) kd)=z at f2 hpl F
  have J:P.i64 (P.add (P.c9 z) (P.c9 tx)):=by rw[add_eq hP,c z,c tx];exact eR hP qO
  have K:P.i64 (P.add (P.c9 o) (P.c9 (P.h9 z tx))):=by rw[add_eq hP,c o,c,f];exact eR hP qO
  have I:(P.h9 o (P.h9 z tx)).length<=5+505*(pre++[(⟨kd,a,tx⟩:Part)]).length:=by rw[f,f];simp;omega
  cbv;refine⟨k1,_,q,?_⟩;cbv;intro β;cbv
  repeat' first|(refine And.intro (by assumption) ?_;cbv)|(intro β;cbv)
  refine f2 _ _ ?_;cbv
  repeat' first|(refine And.intro (by assumption) ?_;cbv)|(intro β;cbv)
  exact⟨_,c6.refl _,⟨_,pre++[⟨kd,a,tx⟩],rest,_,by simp[hd],H,F,I⟩,⟨rfl,rfl,rfl,rfl,trivial⟩,trivial,by simp⟩
 ·have h6:¬k<P.dv rows:=fM hP h;rw[b] at h6
  rcases rest with _|⟨y,rest⟩
  rotate_left
  ·exfalso;simp at g;((try simp only[nc] at*);omega)
  have:o=r:=by rw[ho,<-l,hd];simp[codeF,g]
  cbv;exact G _ _ _ this (c6.refl _) rfl
theorem zX(d:List Part)(h:ed d=0):Spec Tryz.prog 119 [.sl true 3 (d.map bd)] Hp.emp (Is (.str (codeF d))):=
 ep iD IX [.str (codeF d)] (.str _) λR a=>IY dn rfl _ _ d _ rfl (λn=>iE n.toNat) (fP h).1 (fP h).2.1
  (λn h0 h1=>ia (sa n h0 qW) (λ_=>fO rfl) rfl) (λn h0 h1=>oh (sa n h0 qW) (λ_=>fO rfl) rfl) (λn _ _=>rfl) _ rfl R
  λb s' x h he hr=>by subst h;exact a b s' he hr
def FL(b:Nat)(s:BS)(bad:Bool):Ob:=⟨some b,225,2,[[.str s,.bool bad]]⟩
theorem ye(b:Nat)(s:BS)(bad:Bool):(FL b s bad).Fz:=by
 intro r hr v hv;simp only[FL,aq] at hr;subst hr;simp only[aw,aD,bw] at hv
 rcases hv with rfl|rfl
 ·exact .str _
 ·exact .bool _
def jJ(s:BS)(bad:Bool):BS×Bool×Int:=if(gx s).2.2≠0 then(s,true,0) else(s.drop (gx s).2.1.toNat,bad,(gx s).1)
def kE(s:BS)(bad:Bool)(n:Int):BS×Bool×BS:=if(s.length:Int)<n then(s,true,[]) else(s.drop n.toNat,bad,s.take n.toNat)
def IZ:AC:=qr [qz 2 0] (qr [qm 7 0,qn 8 7,qf 9 0 8,ql 10 9,qa 11 160 [.t 10],qm 6 11,qx 12 0 6,qx 13 1 6,qx 14 2 6,qm 3 12,qm 4 13,qm 5 14] (qq (qr [qm 15 5,qc 16 .neq 15 0] (qu 16 (qr [qm 17 0,qn 18 17,qf 19 1 18,⟨none,none,.store 1 (.t 19) (.c (.bool true))⟩] (qr [qz 2 0] .ret)) .skip)) (qr [qm 20 0,qm 21 0,qn 22 21,qf 23 0 22,ql 24 23,qm 25 4,qo 26 (.slstr (.t 24) (some (.t 25)) none),qn 27 20,qf 28 0 27,qs 1 28 26] (qr [qm 29 3,qm 2 29] .ret))))
theorem Q8:fF Tryz.prog 161 Tryz.f161 IZ [.t 2] 1 er:=⟨Tryz.func161,by decide+kernel,by kernel_rfl,by kernel_rfl,by decide+kernel⟩
theorem Q9(P:Prim)(hP:P=dn)(T g:c8)(b:Nat)(s:BS)(bad:Bool)(n k e:Int)(h1:gK T 160 [.str s] (.tup [qI n,qI k,qI e]))(hk:e=0->0<=k/\k<=s.length)
  (s2:BS)(a:Bool)(v:Int)(g1:e≠0->s=s2/\true=a/\0=v)(g2:e=0->s.drop k.toNat=s2/\bad=a/\n=v)
  (R:S->Prop)(d:∀f s' x y z,x=s2/\y=a/\z=v->c6 f s'->lM s' [.t 2] (λq=>l4 q=qI z)->fG [(0,⟨some b,225,2,[[.str x,.bool y]]⟩)] s'->R f):
  gj P T g IZ (S0 [.ptr 0 (some b) 2 0 0] (cp [(0,⟨some b,225,2,[[.str s,.bool bad]]⟩)])) R (λ_ _=>False) R:=by
 have c:P.c9 s=(s.length:Int):=by subst hP;rfl
 cbv;refine h1 _ _ ?_;cbv;refine ab (λh=>?_) (λh=>?_)
 ·have hx:=g1 (hH hP h);cbv
  repeat' first|(refine And.intro (by assumption) ?_;cbv)|(intro β;cbv)
  exact d _ _ _ _ _ hx (c6.refl _) rfl ⟨rfl,trivial⟩
 ·have he:=gZ hP h;obtain⟨x1,x2,x3⟩:=g2 he;obtain⟨y1,y2⟩:=hk he;have i:P.fC 0 k:=iu hP y1;have j:P.fC k (P.c9 s):=lE hP (by rw[c];exact y2);have l:P.fC (P.c9 s) (P.c9 s):=lE hP (aN _);have e1:P.jy s k (P.c9 s)=s2:=by
   rw[c,<-x1];subst hP;show(s.take ((s.length:Int)).toNat).drop k.toNat=_;rw[aA,aM]
  cbv
  repeat' first|(refine And.intro (by assumption) ?_;cbv)|(intro β;cbv)
  exact d _ _ _ _ _ ⟨e1,x2,x3⟩ (c6.refl _) rfl ⟨rfl,trivial⟩
def I0:AC:=qr [qo 4 (.mov (.c qe))] (qq (qr [qm 6 1,qm 7 0,qn 8 7,qf 9 0 8,ql 10 9,qo 11 (.len true (.t 10)),qb 12 .gtr 6 11] (qu 12 (qr [qm 13 0,qn 14 13,qf 15 1 14,⟨none,none,.store 1 (.t 15) (.c (.bool true))⟩] (qr [qo 4 (.mov (.c qe))] .ret)) .skip)) (qr [qm 16 0,qn 17 16,qf 18 0 17,ql 19 18,qm 20 1,qo 21 (.slstr (.t 19) none (some (.t 20))),qm 5 21] (qr [qm 22 0,qm 23 0,qn 24 23,qf 25 0 24,ql 26 25,qm 27 1,qo 28 (.slstr (.t 26) (some (.t 27)) none),qn 29 22,qf 30 0 29,qs 1 30 28] (qr [qm 31 5,qm 4 31] .ret))))
theorem Ra:fF Tryz.prog 162 Tryz.f162 I0 [.t 4] 2 er:=⟨Tryz.func162,by decide+kernel,by kernel_rfl,by kernel_rfl,by decide+kernel⟩
theorem Rb(P:Prim)(hP:P=dn)(T f:c8)(b:Nat)(s:BS)(bad:Bool)(n:Int)(hn:0<=n)
  (s2:BS)(a:Bool)(v:BS)(g1:(s.length:Int)<n->s=s2/\true=a/\[]=v)(g2:n<=s.length->s.drop n.toNat=s2/\bad=a/\s.take n.toNat=v)
  (R:S->Prop)(d:∀e s' x y z,x=s2/\y=a/\z=v->c6 e s'->lM s' [.t 4] (λq=>l4 q=.str z)->fG [(0,⟨some b,225,2,[[.str x,.bool y]]⟩)] s'->R e):
  gj P T f I0 (S0 [.ptr 0 (some b) 2 0 0,qI n] (cp [(0,⟨some b,225,2,[[.str s,.bool bad]]⟩)])) R (λ_ _=>False) R:=by
 have c:P.c9 s=(s.length:Int):=by subst hP;rfl
 cbv;refine ab (λh=>?_) (λh=>?_)
 ·have hq:P.c9 s<n:=fJ hP h;rw[c] at hq;have hx:=g1 hq;cbv
  repeat' first|(refine And.intro (by assumption) ?_;cbv)|(intro β;cbv)
  exact d _ _ _ _ _ hx (c6.refl _) rfl ⟨rfl,trivial⟩
 ·have hq:¬P.c9 s<n:=fM hP h;rw[c] at hq;obtain⟨x1,x2,x3⟩:=g2 qW;have i:P.fC 0 0:=iu hP (aN 0);have j:P.fC 0 n:=iu hP hn;have k:P.fC n (P.c9 s):=lE hP (by rw[c];omega);have l:P.fC (P.c9 s) (P.c9 s):=lE hP (aN _);have e1:P.jy s n (P.c9 s)=s2:=by
   rw[c,<-x1];subst hP;show(s.take ((s.length:Int)).toNat).drop n.toNat=_;rw[aA,aM]
  have g:P.jy s 0 n=v:=by
   rw[<-x3];subst hP;show(s.take n.toNat).drop (0:Int).toNat=_;simp
  cbv
  repeat' first|(refine And.intro (by assumption) ?_;cbv)|(intro β;cbv)
  exact d _ _ _ _ _ ⟨e1,x2,g⟩ (c6.refl _) rfl ⟨rfl,trivial⟩
theorem vu{s:BS}(h:(gx s).2.2=0):0<=(gx s).2.1/\(gx s).2.1<=s.length:=by
 obtain⟨k,g1,_,g3,_⟩:=lv h;omega
theorem Rc(b:Nat)(s:BS)(bad:Bool)(hs:s.length<=maxLen):Spec Tryz.prog 161 [.ptr 0 (some b) 2 0 0] (cp [(0,FL b s bad)]) (λv h'=>∃a,(v=qI (jJ s bad).2.2/\a=[(0,FL b (jJ s bad).1 (jJ s bad).2.1)])/\h'=cp a):=
 fu iD Q8 (L:=[(0,FL b s bad)]) (λv a=>v=qI (jJ s bad).2.2/\a=[(0,FL b (jJ s bad).1 (jJ s bad).2.1)]) λR c=>
  Q9 dn rfl _ _ b s bad (gx s).1 (gx s).2.1 (gx s).2.2 (ia (DO s hs) (λ_=>fO rfl) rfl) vu (jJ s bad).1 (jJ s bad).2.1 (jJ s bad).2.2
   (λh=>by unfold jJ;rw[ae h];exact⟨rfl,rfl,rfl⟩) (λh=>by unfold jJ;rw[aa (λg=>g h)];exact⟨rfl,rfl,rfl⟩) R
   λd s' x y z h he hr ha=>by
    obtain⟨rfl,rfl,rfl⟩:=h;exact c d s' _ [(0,_)] he hr ha (.int _ _) (by intro p hp;simp at hp;subst hp;exact ye _ _ _) ⟨rfl,rfl⟩
theorem Rd(b:Nat)(s:BS)(bad:Bool)(n:Int)(hn:0<=n):Spec Tryz.prog 162 [.ptr 0 (some b) 2 0 0,qI n] (cp [(0,FL b s bad)]) (λv h'=>∃a,(v=.str (kE s bad n).2.2/\a=[(0,FL b (kE s bad n).1 (kE s bad n).2.1)])/\h'=cp a):=
 fu iD Ra (L:=[(0,FL b s bad)]) (λv a=>v=.str (kE s bad n).2.2/\a=[(0,FL b (kE s bad n).1 (kE s bad n).2.1)]) λR c=>
  Rb dn rfl _ _ b s bad n hn (kE s bad n).1 (kE s bad n).2.1 (kE s bad n).2.2
   (λh=>by unfold kE;rw[ae h];exact⟨rfl,rfl,rfl⟩) (λh=>by unfold kE;rw[aa qW];exact⟨rfl,rfl,rfl⟩) R
   λd s' x y z h he hr ha=>by
    obtain⟨rfl,rfl,rfl⟩:=h;exact c d s' _ [(0,_)] he hr ha (.str _) (by intro p hp;simp at hp;subst hp;exact ye _ _ _) ⟨rfl,rfl⟩
def Xz(T:c8):Prop:=∀(k b:Nat)(s:BS)(bad:Bool)(h:Hp)(K:V->Hp->Prop),s.length<=maxLen->h k=some ⟨some b,225,2,[[.str s,.bool bad]]⟩->
 (∀(s2:BS)(a:Bool)(v:Int),s2=(jJ s bad).1/\a=(jJ s bad).2.1/\v=(jJ s bad).2.2->K (qI v) (Hp.put h k ⟨some b,225,2,[[.str s2,.bool a]]⟩))->T 161 [.ptr k (some b) 2 0 0] h K
def XA(T:c8):Prop:=∀(k b:Nat)(s:BS)(bad:Bool)(n:Int)(h:Hp)(K:V->Hp->Prop),0<=n->h k=some ⟨some b,225,2,[[.str s,.bool bad]]⟩->
 (∀(s2:BS)(a:Bool)(v:BS),s2=(kE s bad n).1/\a=(kE s bad n).2.1/\v=(kE s bad n).2.2->K (.str v) (Hp.put h k ⟨some b,225,2,[[.str s2,.bool a]]⟩))->T 162 [.ptr k (some b) 2 0 0,qI n] h K
theorem uC(b:Nat)(s:BS)(bad:Bool)(f:Nat->Nat):(FL b s bad).gM f=FL b s bad:=by simp[Ob.gM,FL,V.rl]
theorem Y7:Xz (fm Tryz.prog):=by
 intro k b s bad h K hs hk hK;refine Dq (Rc b s bad hs) (λv a h=>⟨_,h.2⟩) rfl (uC _ _ _) (ye _ _ _) hk ?_;rintro v o' ⟨rfl,h2⟩;simp only[cD,aL,eQ,eU] at h2;subst h2;rw[uC];exact hK _ _ _ ⟨rfl,rfl,rfl⟩
theorem Y8:XA (fm Tryz.prog):=by
 intro k b s bad n h K hn hk hK;refine Dq (Rd b s bad n hn) (λv a h=>⟨_,h.2⟩) rfl (uC _ _ _) (ye _ _ _) hk ?_;rintro v o' ⟨rfl,h2⟩;simp only[cD,aL,eQ,eU] at h2;subst h2;rw[uC];exact hK _ _ _ ⟨rfl,rfl,rfl⟩
def zY:AC:=qr [qo 2 (.mov (.c (.slice none 0 0))),qz 3 0] (qr [qm 9 0,qo 10 (.build [qe,(.bool false)] [(0,1,(.t 9))]),qo 11 (.box 225 2 (.t 10)),qm 4 11] (qr [qo 5 (.mov (.c (.slice none 0 0)))] (qq (qr [qm 12 4,qa 13 161 [.t 12],qm 6 13] (.block 0 (.loop (qq (qr [qm 14 6,qc 15 .gtr 14 0,qm 16 15,qg 17 16 true (.mov (.t 4)),qg 18 16 true (.nilchk (.t 17)),qg 19 16 true (.faddr 1 (.t 18)),qg 20 16 true (.load1 (.t 19)),qg 21 16 true (.not (.t 20)),qo 22 (.pick (.t 16) (.t 21) (.c (.bool false)))] (qu 22 .skip (.exit 0))) (qq (.block 1 (qr [qm 25 4,qa 26 161 [.t 25],qm 7 26] (qr [qm 27 7,qc 28 .rem 27 4,qo 29 (.build uk [(0,1,(.t 28))]),qo 8 (.alloc 115 uk),qs 3 8 29] (qq (qr [qf 30 0 8,ql 31 30,qc 32 .eql 31 2] (qu 32 (qR [qm 33 4,qm 34 7,qc 35 .quo 34 4,qa 36 162 [.t 33,.t 35],qf 37 2 8,qs 1 37 36]) (qR [qm 38 7,qc 39 .quo 38 4,qf 40 1 8,qs 1 40 39]))) (qR [qm 41 5,qd 42 3 8,qo 43 (.bslice 115 3 [.t 42]),qo 44 (.append 115 3 32 (.t 41) (.t 43)),qm 5 44]))))) (qR [qm 23 6,qc 24 .sub 23 1,qm 6 24])))))) (qq (qr [qm 45 4,qn 46 45,qf 47 1 46,ql 48 47,qm 49 48,qg 50 49 false (.mov (.t 4)),qg 51 49 false (.nilchk (.t 50)),qg 52 49 false (.faddr 0 (.t 51)),qg 53 49 false (.load1 (.t 52)),qg 54 49 false (.bin .neq (.t 53) (.c qe)),qo 55 (.pick (.t 49) (.c (.bool true)) (.t 54)),qm 56 55,qg 57 56 false (.mov (.t 5)),qg 58 56 false (.call 106 [.t 57]),qg 59 56 false (.bin .neq (.t 58) (qk 0)),qo 60 (.pick (.t 56) (.c (.bool true)) (.t 59))] (qu 60 (qr [qo 2 (.mov (.c (.slice none 0 0))),qz 3 3] .ret) .skip)) (qr [qm 61 5,qm 2 61,qz 3 0] .ret)))))
theorem I1:fF Tryz.prog 152 Tryz.f152 zY [.t 2,.t 3] 1 er:=⟨Tryz.func152,by decide+kernel,by kernel_rfl,by kernel_rfl,by decide+kernel⟩
structure Y9(Q:BS) where
 n:Nat
 nn:Int
 s:BS
 bad:Bool
 out:List Part
 b:Option Nat
 c:Nat
 rows:List (List V)
 B0:nn=(n:Int)
 hs:s.length<=maxLen
 eF:bad=false->kD Q=wa n s out
 TH:bad=true->kD Q=none
 yL:out.length+n<=2147483647
 ds:rows=out.map bd
 hc:c=out.length
theorem I2(P:Prim)(hP:P=dn)(T M:c8)(Q:BS)(H:Q.length<=maxLen)(q:Xz T)(D:XA T)
  (E:∀(d:List Part)(h:Hp)(K:V->Hp->Prop)(k:Nat)(b:Option Nat)(n:Nat)(rs:List (List V)),d.length<=maxLen->rs=d.map bd->n=rs.length->h k=some ⟨b,115,3,rs⟩->K (qI (ed d)) h->T 106 [.own k b 3 n] h K)
  (N:List Part->Int)(m:∀d,N d=ed d)
  (r:List Part)(e:Int)(hr:jI Q=(r,e))(rr:List (List V))(ku:rr=r.map bd)
  (R:S->Prop)(I:∀J,J=e->qZ [.t 2,.t 3] 3 rr [qI J] R):gj P T M zY (S0 [.str Q] Hp.emp) R (λ_ _=>False) R:=by
 have O:maxLen=9223372036854775807:=by decide
 have a:r=[]/\3=e->∀s s',c6 s s'->iH [.t 2,.t 3] [.nilsl,qI 3] s'->R s:=λhx s s' he u=>(I _ hx.2).1 _ _ he u (by rw[ku,hx.1];rfl);have z4:P.iO 0 4:=kN hP qD;cbv;intro β;cbv;refine q _ _ _ _ _ _ H rfl λs1 w v1 f=>?_;cbv;refine⟨Y9 Q,λy=>[(4,.ptr 11 (some β) 2 0 0),(5,.own 1000044 y.b 3 y.c),(6,qI y.nn)],λy=>[(11,⟨some β,225,2,[[.str y.s,.bool y.bad]]⟩),(1000044,⟨y.b,115,3,y.rows⟩)],λy=>y.n,
  ⟨_,c6.nil (i:=5) (k:=1000044) (ty:=115) (sz:=3) rfl rfl,⟨v1.toNat,v1,s1,w,[],_,_,_,?_,?_,?_,?_,?_,rfl,rfl⟩,⟨rfl,rfl,rfl,trivial⟩,⟨rfl,rfl,trivial⟩⟩,?_⟩
 ·obtain⟨_,_,h3⟩:=f;have:0<=v1:=by
   rw[h3];unfold jJ
   split
   ·exact aN 0
   ·rename_i hx;obtain⟨k,_,_,_,_,g4,_⟩:=lv (az hx);exact g4
  ((try simp only[nc] at*);omega)
 ·obtain⟨h1,_,_⟩:=f;rw[h1];unfold jJ
  split
  ·exact H
  ·simp only[aJ];omega
 ·intro hb;obtain⟨h1,h2,h3⟩:=f;unfold jJ at h1 h2 h3
  split at h2
  ·rw[h2] at hb;cases hb
  ·rename_i hx;rw[aa hx] at h1 h3
   dsimp only at h1 h3
   unfold kD;rw[aa hx,h1,h3]
 ·intro hb;obtain⟨h1,h2,h3⟩:=f;unfold jJ at h2
  split at h2
  ·rename_i hx;unfold kD;rw[ae hx]
  ·rw[h2] at hb;cases hb
 ·obtain⟨_,_,h3⟩:=f;have:v1<=2147483647:=by
   rw[h3];unfold jJ
   split
   ·exact(by decide:(0:Int)<=2147483647)
   ·rename_i hx;obtain⟨k,_,_,_,_,_,g5,_⟩:=lv (az hx);exact g5
  simp only[aT];omega
 clear f;rintro⟨n,nn,s,bad,out,b,c,rows,B0,hs,eF,TH,yL,ds,hc⟩
 replace B0:nn=(n:Int):=B0
 cases bad with
 |true=>
  have hx:=TH rfl;have z:r=[]/\3=e:=by unfold jI at hr;rw[hx] at hr;simp only[aL] at hr;exact⟨hr.1.symm,hr.2⟩
  cbv;refine ab (λh=>?_) (λh=>?_)
  ·cbv;exact a z _ _ (c6.refl _) rfl
  ·cbv;exact a z _ _ (c6.refl _) rfl
 |false=>
  have j:=eF rfl;cbv;refine ab (λh=>?_) (λh=>?_)
  ·have h6:0<nn:=fJ hP h;obtain⟨n,rfl⟩:∃n',n=n'+1:=⟨n-1,qO⟩;cbv;refine q _ _ _ _ _ _ hs rfl λs2 A x hx=>?_;obtain⟨x1,x2,x3⟩:=hx;have F:0<=x/\x<=2147483647:=by
    rw[x3];unfold jJ
    split
    ·exact⟨(by decide:(0:Int)<=0),(by decide:(0:Int)<=2147483647)⟩
    ·rename_i hx;obtain⟨k,_,_,_,_,g4,g5,_⟩:=lv (az hx);exact⟨g4,g5⟩
   have hs2:s2.length<=maxLen:=by
    rw[x1];unfold jJ
    split
    ·exact hs
    ·simp only[aJ];omega
   have a1:P.fC 0 x:=iu hP F.1;have a2:P.div x 4=x/4:=by subst hP;rfl
   have a3:P.mod x 4=x%4:=by subst hP;rfl
   have a4:P.i64 (P.div x 4):=by rw[a2];exact eR hP qW
   have a5:P.i64 (P.sub nn 1):=by rw[sub_eq hP];exact eR hP qO
   have L:P.sub nn 1=(n:Int):=by rw[sub_eq hP];((try simp only[nc] at*);omega)
   have f4:P.nL rows c:=by subst hP;show rows.length=c;rw[ds,hc];simp
   have f5:∀r,P.bytes (P.add (P.int c) (P.dv [r])) 32:=by intro r;subst hP;show((c:Int)+1)*32<=_;rw[hc];((try simp only[nc] at*);omega)
   have f6:∀r,P.nL [r] 1:=by intro r;subst hP;rfl
   have f7:∀p:Part,P.kB rows [bd p]=(out++[p]).map bd:=by intro p;rw[ds];subst hP;simp[dn]
   have f8:∀(r:List V)(p:Part),P.hU c (P.fQ [r])=(out++[p]).length:=by intro r p;rw[hc];subst hP;simp[dn]
   have f9:∀p:Part,(out++[p]).length+n<=2147483647:=by intro p;simp;omega
   cbv;refine⟨a1,z4,?_⟩;intro U;cbv;refine ab (λh=>?_) (λh=>?_)
   ·have hk2:P.mod x 4=2:=nG hP h;cbv;refine⟨a1,z4,a4,?_⟩;refine D _ _ _ _ _ _ _ (by show 0<=P.div x 4;rw[a2];omega) rfl λW o v hv=>?_;obtain⟨w1,w2,C⟩:=hv;cbv
    repeat' first|(refine And.intro (by assumption) ?_;cbv)|(refine And.intro (f6 _) ?_;cbv)|(refine And.intro (f5 _) ?_;cbv)|(intro β;cbv)
    refine⟨_,c6.refl _,⟨n,_,W,o,out++[⟨P.mod x 4,0,v⟩],_,_,_,L,?_,?_,?_,f9 _,f7 ⟨P.mod x 4,0,v⟩,f8 _ _⟩,⟨rfl,rfl,rfl,trivial⟩,⟨rfl,rfl,trivial⟩,di n⟩
    ·rw[w1];unfold kE
     split
     ·exact hs2
     ·simp only[aJ];omega
    ·intro hb;rw[j];unfold kE at w1 w2 C
     split at w2
     ·rw[w2] at hb;cases hb
     ·rename_i hl;rw[aa hl] at w1 C
      dsimp only at w1 C
      unfold jJ at x1 x2 x3
      split at x2
      ·rename_i he;rw[ae he] at x3;rw[a3,x3] at hk2;exact absurd hk2 (by show¬(0:Int)%4=2;decide)
      ·rename_i he;rw[aa he] at x1 x3
       dsimp only at x1 x3
       rw[wa,aa he,ae (by rw[<-x3,<-a3];exact hk2),aa (by rw[<-x1,<-x3,<-a2];exact hl),w1,C,hk2,a2,x1,x3]
    ·intro hb;rw[j];unfold kE at w2
     split at w2
     ·rename_i hl;unfold jJ at x1 x2 x3
      split at x2
      ·rename_i he;rw[wa,ae he]
      ·rename_i he;rw[aa he] at x1 x3
       dsimp only at x1 x3
       rw[wa,aa he,ae (by rw[<-x3,<-a3];exact hk2),ae (by rw[<-x1,<-x3,<-a2];exact hl)]
     ·unfold jJ at x2
      split at x2
      ·rename_i he;rw[wa,ae he]
      ·rw[w2,x2] at hb;cases hb
   ·have hk2:¬P.mod x 4=2:=nH hP h;cbv;refine⟨a1,z4,a4,?_⟩
    repeat' first|(refine And.intro (by assumption) ?_;cbv)|(refine And.intro (f6 _) ?_;cbv)|(refine And.intro (f5 _) ?_;cbv)|(intro β;cbv)
    refine⟨_,c6.refl _,⟨n,_,s2,A,out++[⟨P.mod x 4,P.div x 4,[]⟩],_,_,_,L,hs2,?_,?_,f9 _,f7 ⟨P.mod x 4,P.div x 4,[]⟩,f8 _ _⟩,⟨rfl,rfl,rfl,trivial⟩,⟨rfl,rfl,trivial⟩,di n⟩
    ·intro hb;rw[j];unfold jJ at x1 x2 x3
     split at x2
     ·rw[x2] at hb;cases hb
     ·rename_i he;rw[aa he] at x1 x3
      dsimp only at x1 x3
      rw[wa,aa he,aa (by rw[<-x3,<-a3];exact hk2),x1,a2,a3,x3]
    ·intro hb;rw[j];unfold jJ at x2
     split at x2
     ·rename_i he;rw[wa,ae he]
     ·rw[x2] at hb;cases hb
  ·have h6:¬0<nn:=fM hP h;have G:n=0:=by((try simp only[nc] at*);omega)
   subst G;have Fp:kD Q=some (s,out):=j;unfold jI at hr;rw[Fp] at hr;simp only[] at hr;have Di:out.length<=maxLen:=by omega
   have B:c=rows.length:=by rw[hc,ds];simp
   cbv;refine ab (λh=>?_) (λh=>?_)
   ·have hne:¬s=[]:=zC hP h;rw[aa (λg=>hne g.1)] at hr;simp only[aL] at hr;cbv;exact a ⟨hr.1.symm,hr.2⟩ _ _ (c6.refl _) rfl
   ·have hne:s=[]:=zD hP h;cbv;refine E out _ _ _ _ _ _ Di ds B rfl ?_;rw[<-m];cbv;refine ab (λh=>?_) (λh=>?_)
    ·have l:=hH hP h;rw[m] at l;rw[aa (λg=>l g.2)] at hr;simp only[aL] at hr;cbv;exact a ⟨hr.1.symm,hr.2⟩ _ _ (c6.refl _) rfl
    ·have l:=gZ hP h;rw[m] at l;rw[ae ⟨hne,l⟩] at hr;simp only[aL] at hr;cbv;exact(I _ hr.2).2.1 _ _ _ _ _ _ _ (c6.refl _) rfl rfl ⟨by rw[B,ku,ds,hr.1],by rw[ku,ds,hr.1]⟩
theorem I3(Q:BS)(c:Q.length<=maxLen):Spec Tryz.prog 152 [.str Q] Hp.emp (Is (.tup [gh (jI Q).1,.int .i64 (jI Q).2])):=
 jq iD I1 λR e=>I2 dn rfl _ _ Q c Y7 Y8 (λd h K k b n rs hd a hn hk hK=>ur (oo d hd) rfl h K k b n rs a hn hk hK) ed (λ_=>rfl) (jI Q).1 (jI Q).2 rfl _ rfl R
  λx hx=>by subst hx;exact ng (rY _) (gI _) (vo _) e
def DR:AC:=qr [qo 2 (.mov (.c (.slice none 0 0))),qz 3 0] (qr [qm 13 0,qa 14 154 [.t 13],qm 12 14,qx 15 0 12,qx 16 1 12,qx 17 2 12,qm 4 15,qm 5 16,qm 6 17] (qq (qr [qm 18 6,qc 19 .neq 18 0] (qu 19 (qr [qo 2 (.mov (.c (.slice none 0 0))),qz 3 3] .ret) .skip)) (qr [qo 7 (.mov (.c (.slice none 0 0)))] (qq (qr [qm 20 4,qz 21 0] (.block 0 (.loop (qr [qb 22 .lss 21 20] (qq (qu 22 .skip (.exit 0)) (qq (.block 1 (qr [qm 24 0,qm 25 5,qo 26 (.slstr (.t 24) (some (.t 25)) none),qa 27 154 [.t 26],qm 23 27,qx 28 0 23,qx 29 1 23,qx 30 2 23,qm 8 28,qm 9 29,qm 10 30] (qq (qr [qm 31 10,qc 32 .neq 31 0] (qu 32 (qr [qo 2 (.mov (.c (.slice none 0 0))),qz 3 3] .ret) .skip)) (qr [qm 33 5,qm 34 9,qb 35 .add 33 34,qm 5 35] (qr [qm 36 8,qc 37 .rem 36 4,qm 38 8,qc 39 .quo 38 4,qo 40 (.build uk [(0,1,(.t 37)),(1,1,(.t 39))]),qo 11 (.alloc 115 uk),qs 3 11 40] (qq (qr [qf 41 0 11,ql 42 41,qc 43 .eql 42 2] (qu 43 (qq (qr [qf 44 1 11,ql 45 44,qm 46 0,qo 47 (.len true (.t 46)),qm 48 5,qb 49 .sub 47 48,qb 50 .gtr 45 49] (qu 50 (qr [qo 2 (.mov (.c (.slice none 0 0))),qz 3 3] .ret) .skip)) (qr [qm 51 0,qm 52 5,qm 53 5,qf 54 1 11,ql 55 54,qb 56 .add 53 55,qo 57 (.slstr (.t 51) (some (.t 52)) (some (.t 56))),qf 58 2 11,qs 1 58 57,qf 59 1 11,⟨none,none,.store 1 (.t 59) (qk 0)⟩] (qR [qm 60 5,qf 61 2 11,ql 62 61,qo 63 (.len true (.t 62)),qb 64 .add 60 63,qm 5 64]))) .skip)) (qR [qm 65 7,qd 66 3 11,qo 67 (.bslice 115 3 [.t 66]),qo 68 (.append 115 3 32 (.t 65) (.t 67)),qm 7 68]))))))) (qR [qc 69 .add 21 1,qm 21 69]))))))) (qq (qr [qm 70 7,qa 71 89 [.t 70],qc 72 .neq 71 0,qm 73 72,qg 74 73 false (.mov (.t 7)),qg 75 73 false (.call 119 [.t 74]),qg 76 73 false (.mov (.t 0)),qg 77 73 false (.bin .neq (.t 75) (.t 76)),qo 78 (.pick (.t 73) (.c (.bool true)) (.t 77))] (qu 78 (qr [qo 2 (.mov (.c (.slice none 0 0))),qz 3 3] .ret) .skip)) (qr [qm 79 7,qm 2 79,qz 3 0] .ret))))))
theorem Nc:fF Tryz.prog 139 Tryz.f139 DR [.t 2,.t 3] 1 er:=⟨Tryz.func139,by decide+kernel,by kernel_rfl,by kernel_rfl,by decide+kernel⟩
structure Za(Q:BS)(N:Int) where
 n:Nat
 m:Nat
 j:Int
 k:Int
 s:BS
 out:List Part
 b:Option Nat
 c:Nat
 rows:List (List V)
 hj:j=(m:Int)
 hN:N=(m:Int)+(n:Int)
 hk:0<=k/\k<=(Q.length:Int)
 hs:s=Q.drop k.toNat
 hp:kD Q=wa n s out
 hm:out.length=m
 ds:rows=out.map bd
 hc:c=out.length
theorem Nd(P:Prim)(hP:P=dn)(T T1:c8)(Q:BS)(hQ:Q.length<=maxLen)(H I uE:BS->Int)(q:∀s,H s=(gx s).1)(v:∀s,I s=(gx s).2.1)(w:∀s,uE s=(gx s).2.2)
  (J:∀s,s.length<=maxLen->gK T 154 [.str s] (.tup [qI (H s),qI (I s),qI (uE s)]))
  (X:∀(d:List Part)(h:Hp)(K:V->Hp->Prop)(k:Nat)(b:Option Nat)(n:Nat)(rs:List (List V)),d.length<=maxLen->rs=d.map bd->n=rs.length->h k=some ⟨b,115,3,rs⟩->K (qI (ed d)) h->T 89 [.own k b 3 n] h K)
  (cF:List Part->Int)(D:∀d,cF d=ed d)(cd:List Part->BS)(L:∀d,cd d=codeF d)
  (E:∀(d:List Part)(h:Hp)(K:V->Hp->Prop)(k:Nat)(b:Option Nat)(n:Nat)(rs:List (List V)),ed d=0->rs=d.map bd->n=rs.length->h k=some ⟨b,115,3,rs⟩->K (.str (cd d)) h->T 119 [.own k b 3 n] h K)
  (r:List Part)(e:Int)(hr:jI Q=(r,e))(rr:List (List V))(ku:rr=r.map bd)
  (R:S->Prop)(Y:∀e2,e2=e->qZ [.t 2,.t 3] 3 rr [qI e2] R):gj P T T1 DR (S0 [.str Q] Hp.emp) R (λ_ _=>False) R:=by
 have YE:maxLen=9223372036854775807:=by decide
 have l:kD Q=none->∀s s',c6 s s'->iH [.t 2,.t 3] [.nilsl,qI 3] s'->R s:=λhx s s' he o=>by
  have M:r=[]/\3=e:=by unfold jI at hr;rw[hx] at hr;simp only[aL] at hr;exact⟨hr.1.symm,hr.2⟩
  exact(Y _ M.2).1 _ _ he o (by rw[ku,M.1];rfl)
 have z4:P.iO 0 4:=kN hP qD;have a:∀x:BS,P.c9 x=(x.length:Int):=by intro x;subst hP;rfl
 have c0:=J Q hQ;cbv;refine c0 _ _ ?_;cbv;refine ab (λh=>?_) (λh=>?_)
 ·have hx:=hH hP h;rw[w] at hx;cbv;exact l (by unfold kD;rw[ae hx]) _ _ (c6.refl _) rfl
 have z:=gZ hP h;rw[w] at z;obtain⟨k0,w1,w2,w3,w4,w5,w6,w7⟩:=lv z;have Z:=vu z;rw[<-v] at w1 Z;rw[<-q] at w5 w6 w7;have F:kD Q=wa (H Q).toNat (Q.drop (I Q).toNat) []:=by unfold kD;rw[aa (λg=>g z),q,v]
 generalize hNq:H Q=N at w5 w6 w7 F⊢
 generalize hKq:I Q=K0 at w1 Z F⊢
 clear h c0;cbv;refine⟨Za Q N,λy=>[(0,.str Q),(5,qI y.k),(7,.own 1000068 y.b 3 y.c),(20,qI N),(21,qI y.j)],λy=>[(1000068,⟨y.b,115,3,y.rows⟩)],λy=>y.n,
  ⟨_,c6.nil (i:=7) (k:=1000068) (ty:=115) (sz:=3) rfl rfl,⟨N.toNat,0,0,K0,_,[],_,_,_,rfl,qW,Z,rfl,F,rfl,rfl,rfl⟩,⟨rfl,rfl,rfl,rfl,rfl,trivial⟩,⟨rfl,trivial⟩⟩,?_⟩
 rintro⟨n,m,j,k,s,out,b,c,rows,hj,hN,hk,hs,hp,hm,ds,hc⟩
 replace hj:j=(m:Int):=hj
 replace hN:N=(m:Int)+(n:Int):=hN
 replace hk:0<=k/\k<=(Q.length:Int):=hk
 cbv;refine ab (λh=>?_) (λh=>?_)
 ·have h6:j<N:=fJ hP h;obtain⟨n,rfl⟩:∃n',n=n'+1:=⟨n-1,qO⟩;have Zb:s.length<=maxLen:=by rw[hs,aJ];omega
  have O:(s.length:Int)=(Q.length:Int)-k:=by rw[hs,aJ];((try simp only[nc] at*);omega)
  have l1:P.fC 0 k:=iu hP hk.1;have l2:P.fC k (P.c9 Q):=lE hP (by rw[a];exact hk.2);have l3:P.fC (P.c9 Q) (P.c9 Q):=lE hP (aN _);have e1:P.jy Q k (P.c9 Q)=s:=by
   rw[a,hs];subst hP;show(Q.take ((Q.length:Int)).toNat).drop k.toNat=_;rw[aA,aM]
  have c1:=J s Zb;rw[<-e1] at c1;have b1:P.i64 (P.add j 1):=by rw[add_eq hP];exact eR hP qO
  have b2:P.add j 1=((m+1:Nat):Int):=by rw[add_eq hP];((try simp only[nc] at*);omega)
  have f4:P.nL rows c:=by subst hP;show rows.length=c;rw[ds,hc];simp
  have f5:∀r,P.bytes (P.add (P.int c) (P.dv [r])) 32:=by intro r;subst hP;show((c:Int)+1)*32<=_;rw[hc];((try simp only[nc] at*);omega)
  have f6:∀r,P.nL [r] 1:=by intro r;subst hP;rfl
  have f7:∀p:Part,P.kB rows [bd p]=(out++[p]).map bd:=by intro p;rw[ds];subst hP;simp[dn]
  have f8:∀(r:List V)(p:Part),P.hU c (P.fQ [r])=(out++[p]).length:=by intro r p;rw[hc];subst hP;simp[dn]
  have f9:∀p:Part,(out++[p]).length=m+1:=by intro p;simp[hm]
  have f10:N=((m+1:Nat):Int)+(n:Int):=by((try simp only[nc] at*);omega)
  cbv;refine⟨l1,l2,l3,?_⟩;refine c1 _ _ ?_;rw[e1];cbv;refine ab (λh=>?_) (λh=>?_)
  ·have hx:=hH hP h;rw[w] at hx;cbv;exact l (by rw[hp,wa,ae hx]) _ _ (c6.refl _) rfl
  have B:=gZ hP h;rw[w] at B;obtain⟨k1,y1,y2,y3,y4,y5,y6,y7⟩:=lv B;have W:=vu B;rw[<-v] at y1 W;rw[<-q] at y5 y6 y7;rw[wa,aa (λg=>g B),<-q,<-v] at hp;clear c1
  generalize H s=x at y5 y6 y7 hp⊢
  generalize I s=u at y1 W hp⊢
  clear y1;have y9:u<=(Q.length:Int)-k:=by rw[<-O];exact W.2
  have y10:0<=u:=W.1;have a1:P.fC 0 x:=iu hP y5;have a2:P.div x 4=x/4:=by subst hP;rfl
  have a3:P.mod x 4=x%4:=by subst hP;rfl
  have a4:P.i64 (P.div x 4):=by rw[a2];exact eR hP qW
  have a5:P.add k u=k+u:=add_eq hP _ _;have a6:P.i64 (P.add k u):=by rw[a5];exact eR hP qW
  have a7:s.drop u.toNat=Q.drop (P.add k u).toNat:=by rw[hs,b7,a5];congr 1;omega
  have a8:0<=P.add k u/\P.add k u<=(Q.length:Int):=by rw[a5];omega
  have a9:(((s.drop u.toNat).length:Nat):Int)=(Q.length:Int)-P.add k u:=by rw[aJ,a5];((try simp only[nc] at*);omega)
  cbv;refine⟨a6,?_⟩;cbv;refine⟨a1,z4,a1,z4,a4,?_⟩;intro β;cbv;refine ab (λh=>?_) (λh=>?_)
  ·have hk2:P.mod x 4=2:=nG hP h;rw[ae (by rw[<-a3];exact hk2),a9] at hp;have s1:P.i64 (P.sub (P.c9 Q) (P.add k u)):=by rw[sub_eq hP,a];exact eR hP qO
   cbv;refine⟨s1,?_⟩;refine ab (λh=>?_) (λh=>?_)
   ·have hl:P.sub (P.c9 Q) (P.add k u)<P.div x 4:=fJ hP h;rw[sub_eq hP,a,a2] at hl;rw[ae hl] at hp;cbv;exact l hp _ _ (c6.refl _) rfl
   ·have hl:¬P.sub (P.c9 Q) (P.add k u)<P.div x 4:=fM hP h;rw[sub_eq hP,a,a2] at hl;rw[aa hl] at hp;have t1:P.add (P.add k u) (P.div x 4)=P.add k u+x/4:=by rw[add_eq hP (P.add k u),a2]
    have t2:P.i64 (P.add (P.add k u) (P.div x 4)):=by rw[t1];exact eR hP qO
    have t3:P.fC 0 (P.add k u):=iu hP a8.1;have t4:P.fC (P.add k u) (P.add (P.add k u) (P.div x 4)):=lE hP (by rw[t1];((try simp only[nc] at*);omega));have t5:P.fC (P.add (P.add k u) (P.div x 4)) (P.c9 Q):=lE hP (by rw[t1,a];((try simp only[nc] at*);omega));have t6:P.jy Q (P.add k u) (P.add (P.add k u) (P.div x 4))=(s.drop u.toNat).take (x/4).toNat:=by
     rw[t1,a7];have ha:=a8
     generalize P.add k u=A at ha⊢
     subst hP;show(Q.take (A+x/4).toNat).drop A.toNat=_;rw[dH];congr 1;((try simp only[nc] at*);omega)
    have t7:P.c9 ((s.drop u.toNat).take (x/4).toNat)=x/4:=by rw[a,aI];((try simp only[nc] at*);omega)
    have t8:P.add (P.add k u) (P.c9 (P.jy Q (P.add k u) (P.add (P.add k u) (P.div x 4))))=P.add k u+x/4:=by rw[t6,t7,add_eq hP (P.add k u)]
    have t9:P.i64 (P.add (P.add k u) (P.c9 (P.jy Q (P.add k u) (P.add (P.add k u) (P.div x 4))))):=by rw[t8];exact eR hP qO
    cbv
    repeat' first|(refine And.intro (by assumption) ?_;cbv)|(refine And.intro (f6 _) ?_;cbv)|(refine And.intro (f5 _) ?_;cbv)|(intro β;cbv)
    refine⟨_,c6.refl _,⟨n,m+1,_,_,(s.drop u.toNat).drop (x/4).toNat,out++[⟨P.mod x 4,0,P.jy Q (P.add k u) (P.add (P.add k u) (P.div x 4))⟩],_,_,_,b2,f10,?_,?_,?_,f9 _,f7 ⟨P.mod x 4,0,P.jy Q (P.add k u) (P.add (P.add k u) (P.div x 4))⟩,f8 _ _⟩,⟨rfl,rfl,rfl,rfl,rfl,trivial⟩,⟨rfl,trivial⟩,di n⟩
    ·show 0<=P.add (P.add k u) (P.c9 (P.jy Q (P.add k u) (P.add (P.add k u) (P.div x 4))))/\P.add (P.add k u) (P.c9 (P.jy Q (P.add k u) (P.add (P.add k u) (P.div x 4))))<=(Q.length:Int);rw[t8];((try simp only[nc] at*);omega)
    ·show _=Q.drop (P.add (P.add k u) (P.c9 (P.jy Q (P.add k u) (P.add (P.add k u) (P.div x 4))))).toNat;rw[t8,a7,b7];congr 1;((try simp only[nc] at*);omega)
    ·rw[hp,hk2,t6]
  ·have hk2:¬P.mod x 4=2:=nH hP h;rw[aa (by rw[<-a3];exact hk2)] at hp;cbv
   repeat' first|(refine And.intro (by assumption) ?_;cbv)|(refine And.intro (f6 _) ?_;cbv)|(refine And.intro (f5 _) ?_;cbv)|(intro β;cbv)
   exact⟨_,c6.refl _,⟨n,m+1,_,_,s.drop u.toNat,out++[⟨P.mod x 4,P.div x 4,[]⟩],_,_,_,b2,f10,a8,a7,by rw[hp,a2,a3],f9 _,f7 ⟨P.mod x 4,P.div x 4,[]⟩,f8 _ _⟩,⟨rfl,rfl,rfl,rfl,rfl,trivial⟩,⟨rfl,trivial⟩,di n⟩
 ·have h6:¬j<N:=fM hP h;have Mm:n=0:=by((try simp only[nc] at*);omega)
  subst Mm;have Fp:kD Q=some (s,out):=hp;have U:=FI Fp;unfold jI at hr;rw[Fp] at hr;simp only[] at hr;have Di:out.length<=maxLen:=by((try simp only[nc] at*);omega)
  have G:c=rows.length:=by rw[hc,ds];simp
  have C:¬(s=[]/\ed out=0)->∀s s',c6 s s'->iH [.t 2,.t 3] [.nilsl,qI 3] s'->R s:=λhx s s' he o=>by
   rw[aa hx] at hr;simp only[aL] at hr;exact(Y _ hr.2).1 _ _ he o (by rw[ku,<-hr.1];rfl)
  cbv;refine X out _ _ _ _ _ _ Di ds G rfl ?_;rw[<-D];cbv;refine ab (λh=>?_) (λh=>?_)
  ·have f:=hH hP h;rw[D] at f;cbv;exact C (λg=>f g.2) _ _ (c6.refl _) rfl
  ·have f:=gZ hP h;rw[D] at f;cbv;refine E out _ _ _ _ _ _ f ds G rfl ?_;cbv;refine ab (λh=>?_) (λh=>?_)
   ·have hne:=zC hP h;rw[L] at hne;cbv;exact C (λg=>hne (U.1 g.1)) _ _ (c6.refl _) rfl
   ·have hne:=zD hP h;rw[L] at hne;rw[ae ⟨U.2 hne,f⟩] at hr;simp only[aL] at hr;cbv;exact(Y _ hr.2).2.1 _ _ _ _ _ _ _ (c6.refl _) rfl rfl ⟨by rw[G,ku,ds,hr.1],by rw[ku,ds,hr.1]⟩
theorem Nf(Q:BS)(c:Q.length<=maxLen):Spec Tryz.prog 139 [.str Q] Hp.emp (Is (.tup [gh (jI Q).1,.int .i64 (jI Q).2])):=
 jq iD Nc λR e=>Nd dn rfl _ _ Q c (λs=>(gx s).1) (λs=>(gx s).2.1) (λs=>(gx s).2.2) (λ_=>rfl) (λ_=>rfl) (λ_=>rfl) (λs hs=>ia (xg s hs) (λ_=>fO rfl) rfl)
  (λd h K k b n rs hd a hn hk hK=>ur (jZ d hd) rfl h K k b n rs a hn hk hK) ed (λ_=>rfl) codeF (λ_=>rfl)
  (λd h K k b n rs hd a hn hk hK=>ur (zX d hd) rfl h K k b n rs a hn hk hK) (jI Q).1 (jI Q).2 rfl _ rfl R
  λx hx=>by subst hx;exact ng (rY _) (gI _) (vo _) e
end Go.Proofs.YtobngncjflogcaaGreat.AM
namespace Go.Proofs.YtobngncjflogcaaGreat
theorem Re(x y z:BitVec 32):x^^^(y^^^z)=y^^^(x^^^z):=by rw[<-bY,ff x y,bY]
def vv(x:BitVec 32):BitVec 32:=(x>>>1)^^^(bif x.getLsbD 0 then 0x82f63b78#32 else 0#32)
def ou:Nat->BitVec 32->BitVec 32
 |0,x=>x
 |n+1,x=>vv (ou n x)
theorem I4(x y:BitVec 32):vv (x^^^y)=vv x^^^vv y:=by
 unfold vv;rw[cM,BitVec.getLsbD_xor];cases x.getLsbD 0<;>cases y.getLsbD 0
 ·simp
 ·simp only[Bool.false_bne,cond_true,fo,ck,bY]
 ·simp only[Bool.true_bne,Bool.not_false,cond_true,fo,ck,bY];rw[ff (y>>>1)]
 ·simp only[Bool.true_bne,Bool.not_true,cond_true,fo,ck,bY];rw[Re _ (y>>>1),BitVec.xor_self,ck]
theorem I5(n:Nat)(x y:BitVec 32):ou n (x^^^y)=ou n x^^^ou n y:=by
 induction n with
 |zero=>rfl
 |succ n ih=>simp only[ou];rw[ih,I4]
theorem FM(n:Nat)(z:BitVec 32)(h:∀i,i<n->z.getLsbD i=false):ou n z=z>>>n:=by
 induction n with
 |zero=>simp[ou]
 |succ n ih=>
  simp only[ou];rw[ih (λi hi=>h i qW)];unfold vv;have h0:(z>>>n).getLsbD 0=false:=by
   rw[ez];exact h n qW
  rw[h0];simp only[fo,ck];rw[<-fg]
def lY(x:BitVec 32):BitVec 32:=x&&&255#32
theorem Ch(y:BitVec 32):ou 8 y=(y>>>8)^^^ou 8 (lY y):=by
 have e:y=(y&&& ~~~255#32)^^^lY y:=by
  unfold lY;apply eX;intro i hi;simp only[BitVec.getLsbD_xor,eC,eD,hi,decide_true,Bool.true_and];cases y.getLsbD i<;>cases(255#32).getLsbD i<;>rfl
 conv=>lhs;rw[e]
 rw[I5,FM]
 ·congr 1
  apply eX;intro i hi;simp only[ez,eC,eD];have:(255#32).getLsbD (8+i)=false:=by
   rw[BitVec.getLsbD_ofNat];simp only[Bool.and_eq_false_iff]
   right
   exact Nat.testBit_lt_two_pow (bF (show 255<2^8 by decide) (b9 qD qW))
  rw[this]
  by_cases h8:8+i<32
  ·simp[h8]
  ·rw[BitVec.getLsbD_of_ge y _ qW];simp
 ·intro i hi;have:(255#32).getLsbD i=true:=by
   match i,hi with
   |0,_|1,_|2,_|3,_|4,_|5,_|6,_|7,_=>decide
  rw[eC,eD,this];simp
def nR(b:BitVec 32)(k:Nat)(x:BitVec 32):BitVec 32:=(x>>>1)^^^(bif (x^^^(b>>>k)).getLsbD 0 then 0x82f63b78#32 else 0#32)
def FN(b:BitVec 32):Nat->BitVec 32->BitVec 32
 |0,x=>x
 |n+1,x=>nR b n (FN b n x)
theorem Ng(b x:BitVec 32)(n:Nat):FN b n x=ou n (x^^^b)^^^(b>>>n):=by
 induction n with
 |zero=>simp[FN,ou,bY]
 |succ n ih=>
  simp only[FN,ou];rw[ih];unfold nR vv;rw[bY (ou n (x^^^b)),BitVec.xor_self,ck,cM,<-fg];simp only[bY];rw[ff (b>>>(n+1))]
def jQ(c:UInt8):BitVec 32:=BitVec.ofNat 32 c.toNat
theorem sb(c:UInt8):jQ c>>>8=0#32:=by
 apply BitVec.eq_of_toNat_eq;have:=c.toNat_lt;simp[jQ,cC];omega
def oX(x:BitVec 32)(c:UInt8):BitVec 32:=ou 8 (x^^^jQ c)
theorem Nh(x:BitVec 32)(c:UInt8):FN (jQ c) 8 x=oX x c:=by
 rw[Ng,sb,ck];rfl
theorem Rf(x:BitVec 32)(c:UInt8):(x>>>8)^^^ou 8 (lY (x^^^jQ c))=oX x c:=by
 unfold oX;rw[Ch (x^^^jQ c),cM,sb,ck]
def FO(l:BS):BitVec 32:=l.foldl oX 0xffffffff#32
theorem xi(l:BS)(c:UInt8):FO (l++[c])=oX (FO l) c:=by simp[FO]
def kF(l:BS):Nat:=(~~~FO l).toNat
theorem s7(x y:BitVec 32):bits .xor .u32 (x.toNat:Int) (y.toNat:Int)=((x^^^y).toNat:Int):=by
 rw[u32_xor_nat _ _ x.isLt y.isLt,BitVec.toNat_xor]
theorem yf(x y:BitVec 32):bits .and .u32 (x.toNat:Int) (y.toNat:Int)=((x&&&y).toNat:Int):=by
 rw[u32_and_nat _ _ x.isLt y.isLt,dR]
theorem Ci(c:UInt8)(m:Nat):(c.toNat:Int)/2^m%4294967296=((jQ c>>>m).toNat:Int):=by
 have hc:=c.toNat_lt;have h1:c.toNat/2^m<=c.toNat:=Nat.div_le_self _ _;have e:(jQ c>>>m).toNat=c.toNat/2^m:=by
  simp only[jQ,dj,cR,cC];rw[cv qW]
 rw[e];have a:(c.toNat:Int)/2^m=((c.toNat/2^m:Nat):Int):=by
  rw[Int.natCast_ediv,du];rfl
 rw[a];omega
theorem I6(y:BitVec 32):(bits .and .u32 (y.toNat:Int) 1==1)=y.getLsbD 0:=by
 have h:=yf y 1#32;rw[show(((1#32).toNat:Nat):Int)=1 by rfl] at h;rw[h];have e:(y&&&1#32).toNat=y.toNat%2:=by
  rw[dR];exact Nat.and_one_is_mod _
 rw[e];have a:y.getLsbD 0=decide (y.toNat%2=1):=by
  simp[BitVec.getLsbD,Nat.testBit_zero]
 rw[a,cf,dy,bc];omega
theorem Cj(y:BitVec 32):(y.toNat:Int)/(2:Int)=((y>>>1).toNat:Int):=by
 rw[dj,cC];omega
theorem Rg(y:BitVec 32):bits .xor .u32 ((y.toNat:Int)/(2:Int)) 2197175160=(((y>>>1)^^^0x82f63b78#32).toNat:Int):=by
 rw[Cj];exact s7 (y>>>1) 0x82f63b78#32
theorem yg(b:BitVec 32)(k:Nat)(x:BitVec 32)(h:(x^^^(b>>>k)).getLsbD 0=true):nR b k x=(x>>>1)^^^0x82f63b78#32:=by
 unfold nR;rw[h];rfl
theorem wz(b:BitVec 32)(k:Nat)(x:BitVec 32)(h:(x^^^(b>>>k)).getLsbD 0=false):nR b k x=x>>>1:=by
 unfold nR;rw[h];simp
theorem Pt(x:BitVec 32):bits .xor .u32 IntKind.u32.max (x.toNat:Int)=((~~~x).toNat:Int):=by
 have h:=s7 (BitVec.allOnes 32) x;rw[BitVec.allOnes_xor] at h;exact h
def kC(j:Nat):Value:=.int .u32 ((ou 8 (BitVec.ofNat 32 j)).toNat:Int)
def gb(i:Nat):Array Value:=Array.ofFn (n:=256) (λj=>if j.val<i then kC j.val else .int .u32 0)
theorem j0(i:Nat):(gb i).size=256:=by simp[gb]
theorem sc:gb 0=Array.replicate 256 (.int .u32 0):=by
 apply Array.ext
 ·simp[gb]
 ·intro j h1 h2;simp[gb]
theorem yh(i:Nat)(v:Value)(hv:v=kC i):(gb i).setIfInBounds i v=gb (i+1):=by
 subst hv;apply Array.ext
 ·simp[gb]
 ·intro j h1 h2;rw[Array.getElem_setIfInBounds]
  ·simp only[gb,eE]
   by_cases e:i=j
   ·subst e;simp
   ·rw[aa e]
    by_cases hj:j<i
    ·rw[ae hj,ae qW]
    ·rw[aa hj,aa qW]
  ·simpa using h1
theorem wA(i:Nat)(h:i<256):(gb i)[i]? =some (.int .u32 0):=by
 rw[aU (by rw[j0];exact h)];simp[gb]
theorem sd(i:Nat):(gb i).all (·.oneCell')=true:=by
 rw[Array.all_eq_true];intro j hj;simp only[gb,eE]
 split<;>rfl
theorem tP(j:Nat)(h:j<256):(gb 256)[j]? =some (kC j):=by
 rw[aU (by rw[j0];exact h)];simp only[gb,eE];rw[ae h]
theorem FP(X:BitVec 32):bits .xor .u32 ((X.toNat:Int)/(2:Int)) (bits .and .u32 (-bits .and .u32 (X.toNat:Int) 1%4294967296) 2197175160)=((vv X).toNat:Int):=by
 have h1:=yf X 1#32;rw[show(((1#32).toNat:Nat):Int)=1 by rfl] at h1;have e:(X&&&1#32).toNat=X.toNat%2:=by
  rw[dR];exact Nat.and_one_is_mod _
 rw[e] at h1;rw[h1,Cj];unfold vv;have c:X.getLsbD 0=decide (X.toNat%2=1):=by simp[BitVec.getLsbD,Nat.testBit_zero]
 rw[c]
 rcases Nat.mod_two_eq_zero_or_one X.toNat with h|h
 ·rw[h];have a:=yf 0#32 0x82f63b78#32;have b:=s7 (X>>>1) (0#32&&&0x82f63b78#32);rw[<-a] at b;exact b
 ·rw[h];have a:=yf 0xffffffff#32 0x82f63b78#32;have b:=s7 (X>>>1) (0xffffffff#32&&&0x82f63b78#32);rw[<-a] at b;exact b
theorem I7(x:BitVec 32)(c:UInt8):bits .xor .u8 ((x.toNat:Int)%256) (c.toNat:Int)=(((lY (x^^^jQ c)).toNat:Nat):Int)/\(lY (x^^^jQ c)).toNat<256:=by
 have hc:=c.toNat_lt;have e:(lY (x^^^jQ c)).toNat=(x.toNat%256)^^^c.toNat:=by
  unfold lY jQ;rw[dR,BitVec.toNat_xor,cR,cv (show c.toNat<2^32 by omega)];have:(255#32).toNat=2^8-1:=by decide
  rw[this,Nat.and_two_pow_sub_one_eq_mod,Nat.xor_mod_two_pow];have h2:c.toNat%2^8=c.toNat:=cv qW;rw[h2]
 have hlt:(x.toNat%256)^^^c.toNat<256:=Nat.xor_lt_two_pow (n:=8) qW qW;refine⟨?_,by rw[e];exact hlt⟩;have h1:((x.toNat:Int)%256)=((x.toNat%256:Nat):Int):=by omega
 rw[h1,u8_xor_nat _ _ qW qW,e]
theorem I8(x:BitVec 32)(c:UInt8):bits .xor .u32 ((x.toNat:Int)/(256:Int)) ((ou 8 (BitVec.ofNat 32 (lY (x^^^jQ c)).toNat)).toNat:Int)=((oX x c).toNat:Int):=by
 rw[BitVec.ofNat_toNat,BitVec.setWidth_eq];have h:(x.toNat:Int)/(256:Int)=((x>>>8).toNat:Int):=by
  rw[dj,cC];omega
 rw[h,s7,Rf]
open Go.RowKit
set_option maxRecDepth 100000 in
set_option maxHeartbeats 400000 in
theorem Ck(s:ByteArray)(w:World)(hs:s.size<=maxLen):
  Calls Tryz.prog 112 #[.string s] w λe w'=>e=.returned (.int .u32 (kF s.data.toList))/\w=w':=by
 unfold maxLen at hs
 go_enter Tryz.func112,Tryz.ntmps112
 go_wp2
 go_loop [3,9] (λh i=>∃k:Nat,k<=s.size/\i=.int .i64 k/\∃x:BitVec 32,h=.int .u32 x.toNat/\Hid (x=FO (s.data.toList.take k))) (λ_ i=>s.size-(intOf i).toNat)
 case atStart=>exact⟨0,aP _,rfl,0xffffffff#32,rfl,rfl⟩
 case round=>
  obtain⟨k,hk,rfl,x,rfl,HX⟩:=hrel
  by_cases hlt:k<s.size
  ·have IW:s[k].toNat<256:=s[k].toNat_lt
   go_wp2
   go_loop [3,12] (λh i=>∃m:Nat,m<=8/\i=.int .i64 m/\∃y:BitVec 32,h=.int .u32 y.toNat/\Hid (y=FN (jQ s[k]) m x)) (λ_ i=>8-(intOf i).toNat)
   case atStart=>exact⟨0,aP _,rfl,x,rfl,rfl⟩
   case round=>
    obtain⟨m,hm,rfl,y,rfl,HY⟩:=hrel
    by_cases Zc:m<8
    ·have hb:=Ci s[k] m;have HT:=Lib.hid (I6 (y^^^jQ s[k]>>>m));have XB:=Lib.hid (s7 y (jQ s[k]>>>m));have HP:=Lib.hid (Rg y);have HH:=Lib.hid (Cj y);cases hc:(y^^^jQ s[k]>>>m).getLsbD 0
     ·have HS:=Lib.hid (wz _ _ _ hc);have ht:(bits .and .u32 (bits .xor .u32 (y.toNat:Int) ((s[k].toNat:Int)/2^m%4294967296)) 1==1)=false:=by
       rw[hb,XB.out,HT.out,hc]
      clear hb hc
      go_wp2
      go_round
      case rel=>exact⟨m+1,qW,by go_num,y>>>1,aB _ HH.out,by show _=nR _ _ _;rw[<-HY.out,HS.out]⟩
      case measure=>simp[intOf];omega
     ·have HS:=Lib.hid (yg _ _ _ hc);have ht:(bits .and .u32 (bits .xor .u32 (y.toNat:Int) ((s[k].toNat:Int)/2^m%4294967296)) 1==1)=true:=by
       rw[hb,XB.out,HT.out,hc]
      clear hb hc
      go_wp2
      go_round
      case rel=>exact⟨m+1,qW,by go_num,(y>>>1)^^^0x82f63b78#32,aB _ HP.out,by show _=nR _ _ _;rw[<-HY.out,HS.out]⟩
      case measure=>simp[intOf];omega
    ·have HM:Hid (m=8):=by show _=_;omega
     go_wp2
     go_round
     case rel=>exact⟨k+1,qW,by go_num,y,rfl,by show _=_;rw[HY.out,HM.out,Nh,lj s k hlt,xi,HX.out]⟩
     case measure=>simp[intOf];omega
  ·go_wp2
   go_ret
   exact⟨DJ (by rw[Pt,HX.out,aY (by simp;omega)];rfl),rfl⟩
theorem Tryz.vw:(Tryz.prog.info? 206).map (λi=>(i.zero,i.size))=some (some (.agg (Array.replicate 256 (.int .u32 0))),256):=by kernel_rfl
theorem ov{P:Program}{ops:Array Oper}{rest:List Oper}{op:Oper}{a:Act}{Q:Exit->Act->World->Prop}(b:op.guard=none)(ty:TypeId)(x y:Operand)(ho:op.op=.store ty x y)
  (w:World)(c c':Array Value)(hx:a.eval x=.pointer (some ⟨w.heap.size,0,none⟩))(hy:a.eval y=.agg c')(hi:(P.info? ty).map (·.size)=some c'.size)(hs:c.size=c'.size)(h1:c'.all (·.oneCell')=true)
  (h:wpList P ops Q rest (a.put op.dst undef) (w.alloc (.cells c' ty))):wpList P ops Q (op::rest) a (w.alloc (.cells c ty)):=
 wpList_plain b λK hK=>by
  unfold Oper.wp execOp;simp only[ho,hx,hy,run_storeAt_new w ty c c' hi hs h1,Sem.run_bind,Sem.run_pure,Result.andThen_ok];exact hK _ _ h
set_option maxRecDepth 1000000 in
set_option maxHeartbeats 2000000 in
theorem FQ(w:World):
  Calls Tryz.prog 144 #[] w λe w'=>e=.returned (.agg (gb 256))/\Below w.heap.size w w':=by
 obtain⟨hz,hi⟩:=zero_of_info Tryz.vw
 go_enter Tryz.func144,Tryz.ntmps144
 go_wp2
 rw[<-sc]
 go_loopg [3] 256 (λg s3 wx=>∃i:Nat,i+g=256/\s3=.int .i64 i/\wx=w.alloc (.cells (gb i) 206))
 case atStart=>exact⟨0,qW,rfl,rfl⟩
 case round=>
  obtain⟨i,Zd,rfl,rfl⟩:=hrel;cases gk with
  |zero=>
   have Ze:¬((i:Int)<256):=by omega
   obtain rfl:256=i:=by omega
   have hsz:(Tryz.prog.info? 206).map (·.size)=some (gb 256).size:=by rw[j0];exact hi
   go_wp2_with (first
    |(refine wpList_load_row rfl 206 (.tmp 0) rfl w.heap.size rfl 206 (gb 256) (0,0) _ (heap_alloc_last w _) Tryz.underlying206 rfl hsz ?_)
    |(refine ov rfl 206 (.tmp 0) (.tmp 22) rfl w (gb 256) (gb 256) rfl rfl hsz rfl (sd _) ?_))
   refine bodyPost_ret (v:=.agg (gb 256)) (results_cell_row rfl _ _ w.heap.size 206 (gb 256) (0,0) _ rfl (heap_alloc_last w _) Tryz.underlying206 rfl hsz) rfl ⟨rfl,(Below.refl _ _).alloc (ah _) _⟩
  |succ g=>
   have hi:i<256:=by omega
   have hi2:(i:Int)<256:=by omega
   have HI:Hid (i+1+g=256):=by show _=_;omega
   clear Zd
   go_wp2
   go_loopg [2,8] 8 (λg x k wx=>∃m:Nat,m+g=8/\k=.int .i64 m/\wx=w.alloc (.cells (gb i) 206)/\∃X:BitVec 32,x=.int .u32 (X.toNat:Int)/\Hid (X=ou m (BitVec.ofNat 32 i)))
   case atStart=>exact⟨0,qW,rfl,rfl,BitVec.ofNat 32 i,aB _ (by rw[cR,cv qW]),rfl⟩
   case round=>
    obtain⟨m,hm,rfl,rfl,X,rfl,HX⟩:=hrel;cases gk with
    |zero=>
     have H8:Hid (m=8):=by show _=_;omega
     have Zf:¬((m:Int)<8):=by omega
     clear hm;have hcell:(gb i)[i]? =some (.int .u32 0):=wA i hi;have HV:=Lib.hid (yh i (.int .u32 (X.toNat:Int)) (by show _=Value.int _ _;rw[HX.out,H8.out]))
     go_wp2
     go_roundg g
     case measure=>omega
     case rel=>exact⟨i+1,by have:=HI.out;omega,by go_num,by rw[HV.out]⟩
    |succ g2=>
     have Zf:m<8:=by omega
     have Zg:(m:Int)<8:=by omega
     have H8:Hid (m+1+g2=8):=by show _=_;omega
     clear hm;have HW:=Lib.hid (FP X)
     go_wp2
     go_roundg g2
     case measure=>omega
     case rel=>exact⟨m+1,by have:=H8.out;omega,by go_num,rfl,vv X,aB _ HW.out,by show _=vv _;rw[HX.out]⟩
set_option maxRecDepth 1000000 in
set_option maxHeartbeats 2000000 in
theorem FR(s:ByteArray)(w:World)(hs:s.size<=maxLen):
  Calls Tryz.prog 110 #[.string s] w λe w'=>e=.returned (.int .u32 (kF s.data.toList))/\Below w.heap.size w w':=by
 unfold maxLen at hs;obtain⟨hz,hi⟩:=zero_of_info Tryz.vw;have hsz:(Tryz.prog.info? 206).map (·.size)=some (gb 256).size:=by rw[j0];exact hi
 have hs0:(gb 0).size=(gb 256).size:=by rw[j0,j0]
 have HI:=Lib.hid hi;have Zh:=Lib.hid hsz;have Zi:=Lib.hid hs0;clear hi hsz hs0
 go_enter Tryz.func110,Tryz.ntmps110
 go_wp2_with fail
 refine(FQ _).mono ?_;rintro e w1 ⟨rfl,hb1⟩;rw[<-sc] at hz
 go_wp2_with (refine ov rfl 206 (.tmp 3) (.tmp 6) rfl w1 (gb 0) (gb 256) rfl rfl Zh.out Zi.out (sd _) ?_)
 have hcell:∀n,n<256->(w1.alloc (.cells (gb 256) 206)).cell? ⟨w1.heap.size,n,none⟩=some (kC n):=λn hn=>by
  rw[World.cell?_alloc_new];exact tP n hn
 have HC:=Lib.hid hcell;clear hcell
 go_loop [4,9] (λh i=>∃k:Nat,k<=s.size/\i=.int .i64 k/\∃x:BitVec 32,h=.int .u32 (x.toNat:Int)/\Hid (x=FO (s.data.toList.take k))) (λ_ i=>s.size-(intOf i).toNat)
 case atStart=>exact⟨0,aP _,rfl,0xffffffff#32,rfl,rfl⟩
 case round=>
  obtain⟨k,hk,rfl,x,rfl,HX⟩:=hrel
  by_cases hlt:k<s.size
  ·have IW:s[k].toNat<256:=s[k].toNat_lt;obtain⟨hw,hn⟩:=I7 x s[k];have HT:=Lib.hid (I8 x s[k]);have hc:=HC.out _ hn
   generalize(lY (x^^^jQ s[k])).toNat=n at hw hn hc HT
   have ht:=tP n hn;unfold kC at hc ht;clear HC
   generalize ou 8 (BitVec.ofNat 32 n)=T at hc ht HT
   go_wp2
   go_round
   case rel=>exact⟨k+1,qW,by go_num,oX x s[k],aB _ HT.out,by show _=_;rw[lj s k hlt,xi,HX.out]⟩
   case measure=>simp[intOf];omega
  ·go_wp2
   go_ret
   exact⟨DJ (by rw[Pt,HX.out,aY (by simp;omega)];rfl),(hb1.alloc hb1.size _)⟩
end Go.Proofs.YtobngncjflogcaaGreat
