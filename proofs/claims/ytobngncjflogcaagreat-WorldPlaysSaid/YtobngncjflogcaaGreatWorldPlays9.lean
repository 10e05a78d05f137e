/-
  Part 9 of what the law WorldPlays reaches: the plain machine, contracts of the functions and plain laws; each lemma says its own condition.
-/
import Derived.Test.YtobngncjflogcaaGreatWorldPlays8
import Derived.Test.YtobngncjflogcaaGreatWorldPlays6
import Derived.WalkKit
import Derived.Laws.BitsAllLaws
import Derived.Test.YtobngncjflogcaaGreatRows
import Derived.WalkSpells
import Derived.WalkLawsBesides
import Derived.Lib.Hide
import Derived.Laws.ResultCell
import Derived.Deep.LoopGhost
import Derived.Deep.WholeRow
import Derived.Test.YtobngncjflogcaaGreatWorldPlays4
import Derived.Test.YtobngncjflogcaaGreatWorldPlays7
set_option linter.unusedVariables false
set_option linter.unusedSimpArgs false
namespace Go.Proofs.YtobngncjflogcaaGreat.AM
open Go
set_option maxRecDepth 100000
set_option maxHeartbeats 2000000
def om(p:Part):BS:=jg (4*(p.n+p.text.length)+p.kind).toNat++p.text
def codeF(d:List Part):BS:=jg d.length++(d.map om).flatten
def C6:AC:=qr [qo 2 (.mov (.c qe))] (qr [qm 6 0,qa 7 108 [.t 6],qm 5 7,qx 8 0 5,qx 9 1 5,qm 3 8,qm 4 9] (qr [qm 10 3,qm 2 10] .ret))
theorem MG:fo Tryz.prog 145 Tryz.f145 C6 [.t 2] 1 eV:=⟨Tryz.func145,by decide+kernel,by kernel_rfl,by kernel_rfl,by decide+kernel⟩
theorem MH(P:Prim)(hP:P=ca)(T b:cp)(n e:Int)(s:BS)(h1:fZ T 108 [qI n] (.tup [.str s,qI e]))
  (R:S->Prop)(c:∀a s',a7 a s'->hX [.t 2] [.str s] s'->R a):fX P T b C6 (S0 [qI n] Hp.emp) R (λ_ _=>False) R:=by
 cbv;refine h1 _ _ ?_;cbv;exact c _ _ (a7.refl _) rfl
theorem C7(n:Int):Spec Tryz.prog 145 [.int .i64 n] Hp.emp (Is (.str (pR n).1)):=
 eW gY MG [.str (pR n).1] (.str _) λR a=>MH ca rfl _ _ n _ _ (fU (C5 n) (λ_=>gf rfl) rfl) R a
def xh:AC:=qr [qo 2 (.mov (.c qe)),qz 3 0] (qq (qr [qm 8 0,qa 9 106 [.t 8],qm 4 9] (qr [qm 10 4,qc 11 .neq 10 0] (qu 11 (qr [qm 12 4,qo 2 (.mov (.c qe)),qm 3 12] .ret) .skip))) (qr [qm 13 0,qo 14 (.len false (.t 13)),qa 15 145 [.t 14],qm 5 15] (qq (qr [qm 16 0,qo 17 (.len false (.t 16)),qz 18 0] (.block 0 (.loop (qr [qb 19 .lss 18 17] (qq (qu 19 .skip (.exit 0)) (qq (.block 1 (qr [qo 20 (.iaddr 3 (.t 16) (.t 18)),qd 21 3 20,qo 7 (.alloc 115 wj),qs 3 7 21] (qr [qf 22 0 7,ql 23 22,qc 24 .eql 23 2] (qu 24 (.region true [qm 25 5,qf 26 2 7,ql 27 26,qo 28 (.len true (.t 27)),qo 29 (.bin .mul (qk 4) (.t 28)),qc 30 .add 29 2,qa 31 145 [.t 30],qf 32 2 7,ql 33 32,qb 34 .add 31 33,qb 35 .add 25 34,qm 5 35]) (qR [qm 36 5,qf 37 1 7,ql 38 37,qo 39 (.bin .mul (qk 4) (.t 38)),qf 40 0 7,ql 41 40,qb 42 .add 39 41,qa 43 145 [.t 42],qb 44 .add 36 43,qm 5 44]))))) (qR [qc 45 .add 18 1,qm 18 45]))))))) (qr [qm 46 5,qm 2 46,qz 3 0] .ret))))
theorem EV:fo Tryz.prog 115 Tryz.f115 xh [.t 2,.t 3] 1 eV:=⟨Tryz.func115,by decide+kernel,by kernel_rfl,by kernel_rfl,by decide+kernel⟩
structure WA(d:List Part)(a:BS) where
 k:Int
 pre:List Part
 rest:List Part
 o:BS
 hd:d=pre++rest
 hk:k=(pre.length:Int)
 ho:o=a++(pre.map om).flatten
 OO:o.length<=5+505*pre.length
theorem EW(P:Prim)(hP:P=ca)(T K:cp)(B:Bool)(d:List Part)(rows:List (List V))(dS:rows=d.map a6)(c:Int)(b:Int->BS)
  (h1:fZ T 106 [.sl B 3 rows] (qI c))(hc:c=0->d.length<=1600/\∀p∈d,oq p)
  (h2:∀n,0<=n->n<=100000->fZ T 145 [qI n] (.str (b n)))(h3:∀n,0<=n->n<=100000->fZ K 145 [qI n] (.str (b n)))
  (l:∀n,0<=n->n<=100000->b n=jg n.toNat)(r:BS)(C:Int)(g1:c≠0->[]=r/\c=C)(g2:c=0->codeF d=r/\0=C)
  (R:S->Prop)(L:∀M s' x y,x=r/\y=C->a7 M s'->hX [.t 2,.t 3] [.str x,qI y] s'->R M):fX P T K xh (S0 [.sl B 3 rows] Hp.emp) R (λ_ _=>False) R:=by
 have e:P.da rows=(d.length:Int):=by rw[gi hP,dS];simp
 cbv;refine h1 _ _ ?_;clear h1;cbv;refine ab (λh=>?_) (λh=>?_)
 ·have hx:=g1 (fE hP h);cbv;exact L _ _ _ _ hx (a7.refl _) rfl
 have hz:=fD hP h;obtain⟨N,q⟩:=hc hz;obtain⟨s,D⟩:=g2 hz;have f1:=h2 (P.da rows) (by rw[e];exact aT _) (by rw[e];((try simp only[nc] at*);omega));have u:b (P.da rows)=jg d.length:=by rw[l _ (by rw[e];exact aT _) (by rw[e];((try simp only[nc] at*);omega)),e];rfl
 clear g1 g2 h hc;cbv;refine f1 _ _ ?_;cbv;refine⟨WA d (jg d.length),λy=>[(5,.str y.o),(16,.sl B 3 rows),(17,qI (P.da rows)),(18,qI y.k)],λy=>[],λy=>y.rest.length,
  ⟨_,a7.refl _,⟨0,[],d,b (P.da rows),rfl,rfl,by rw[u];simp,by rw[u];have:=iR d.length;simp;omega⟩,⟨rfl,rfl,rfl,rfl,trivial⟩,trivial⟩,?_⟩
 rintro⟨k,pre,rest,o,hd,hk,ho,OO⟩;have Q:P.eP o=(o.length:Int):=by subst hP;rfl
 replace hk:k=(pre.length:Int):=hk
 have m:pre.length+rest.length=d.length:=by rw[hd];simp
 cbv;refine ab (λh=>?_) (λh=>?_)
 ·have h6:k<P.da rows:=fA hP h;rw[e] at h6
  rcases rest with _|⟨⟨kd,a,tx⟩,rest⟩
  ·exfalso;simp at m;((try simp only[nc] at*);omega)
  have v:P.row rows (P.nat k) [qI kd,qI a,.str tx]:=fL hP hk (by rw[dS,av,hd];simp[a6]);have hp:=gu (q ⟨kd,a,tx⟩ (by rw[hd];simp));obtain⟨E,F,G,w⟩:=hp;simp only[] at E F G w;have k1:P.fQ 0 k:=iQ hP qO;have k2:P.i64 (P.add k 1):=by rw[add_eq hP];exact ft hP qO
  have O:P.add k 1=(((pre++[(⟨kd,a,tx⟩:Part)]).length:Nat):Int):=by rw[add_eq hP,hk];simp
  have A:P.eP tx=(tx.length:Int):=by subst hP;rfl
  cbv;refine⟨k1,_,v,?_⟩;cbv;intro β;cbv
  by_cases hk2:kd=2
  ·have e1:P.add (P.mul 4 (P.eP tx)) 2=4*(tx.length:Int)+2:=by rw[add_eq hP,A];subst hP;rfl
   have i1:P.i64 (P.mul 4 (P.eP tx)):=by rw[A];subst hP;show iU (4*(tx.length:Int));unfold iU;omega
   have i2:P.i64 (P.add (P.mul 4 (P.eP tx)) 2):=by rw[e1];exact ft hP qW
   have f2:=h3 (P.add (P.mul 4 (P.eP tx)) 2) (by rw[e1];omega) (by rw[e1];omega);have i:=l (P.add (P.mul 4 (P.eP tx)) 2) (by rw[e1];omega) (by rw[e1];omega);have H:a=0:=by omega
   have hpl:(b (P.add (P.mul 4 (P.eP tx)) 2)).length<=5:=by rw[i];exact iR _
   have f:∀x:BS,P.eP x=(x.length:Int):=by intro x;subst hP;rfl
   have j:∀x y:BS,(P.gV x y).length=x.length+y.length:=by intro x y;subst hP;exact an
   have W:P.i64 (P.add (P.eP (b (P.add (P.mul 4 (P.eP tx)) 2))) (P.eP tx)):=by have hq:=hpl;generalize b (P.add (P.mul 4 (P.eP tx)) 2)=z at hq⊢;rw[add_eq hP,f z,f tx];exact ft hP qO
   have U:P.i64 (P.add (P.eP o) (P.eP (P.gV (b (P.add (P.mul 4 (P.eP tx)) 2)) tx))):=by have hq:=hpl;generalize b (P.add (P.mul 4 (P.eP tx)) 2)=z at hq⊢;rw[add_eq hP,f o,f,j];exact ft hP qO
   have I:(P.gV o (P.gV (b (P.add (P.mul 4 (P.eP tx)) 2)) tx)).length<=5+505*(pre++[(⟨kd,a,tx⟩:Part)]).length:=by rw[j,j];simp;omega
   have e2:P.gV o (P.gV (b (P.add (P.mul 4 (P.eP tx)) 2)) tx)=jg d.length++((pre++[(⟨kd,a,tx⟩:Part)]).map om).flatten:=by
    rw[i,e1,ho];subst hP;show(_++_)++(_++tx)=_;simp[om,H,hk2]
   refine eY (my hP hk2) ?_;cbv
   repeat' first|(refine And.intro (by assumption) ?_;cbv)|(intro β;cbv)
   refine f2 _ _ ?_;cbv
   repeat' first|(refine And.intro (by assumption) ?_;cbv)|(intro β;cbv)
   exact⟨_,a7.refl _,⟨_,pre++[⟨kd,a,tx⟩],rest,_,by simp[hd],O,e2,I⟩,⟨rfl,rfl,rfl,rfl,trivial⟩,trivial,by simp⟩
  ·have J:tx=[]:=by rcases w with g|g;exact absurd g.1 hk2;exact g.2.2
   have e1:P.add (P.mul 4 a) kd=4*a+kd:=by rw[add_eq hP];subst hP;rfl
   have i1:P.i64 (P.mul 4 a):=by subst hP;show iU (4*a);unfold iU;omega
   have i2:P.i64 (P.add (P.mul 4 a) kd):=by rw[e1];exact ft hP qW
   have f2:=h2 (P.add (P.mul 4 a) kd) (by rw[e1];omega) (by rw[e1];omega);have i:=l (P.add (P.mul 4 a) kd) (by rw[e1];omega) (by rw[e1];omega);have hpl:(b (P.add (P.mul 4 a) kd)).length<=5:=by rw[i];exact iR _
   have f:∀x:BS,P.eP x=(x.length:Int):=by intro x;subst hP;rfl
   have j:∀x y:BS,(P.gV x y).length=x.length+y.length:=by intro x y;subst hP;exact an
   have U:P.i64 (P.add (P.eP o) (P.eP (b (P.add (P.mul 4 a) kd)))):=by rw[add_eq hP,f,f];exact ft hP qO
   have I:(P.gV o (b (P.add (P.mul 4 a) kd))).length<=5+505*(pre++[(⟨kd,a,tx⟩:Part)]).length:=by rw[j];simp;omega
   have e2:P.gV o (b (P.add (P.mul 4 a) kd))=jg d.length++((pre++[(⟨kd,a,tx⟩:Part)]).map om).flatten:=by
    rw[i,e1,ho];subst hP;show(_++_)++_=_;simp[om,J]
   refine fv (oR hP hk2) ?_;cbv
   repeat' first|(refine And.intro (by assumption) ?_;cbv)|(intro β;cbv)
   refine f2 _ _ ?_;cbv
   repeat' first|(refine And.intro (by assumption) ?_;cbv)|(intro β;cbv)
   exact⟨_,a7.refl _,⟨_,pre++[⟨kd,a,tx⟩],rest,_,by simp[hd],O,e2,I⟩,⟨rfl,rfl,rfl,rfl,trivial⟩,trivial,by simp⟩
 ·have h6:¬k<P.da rows:=fg hP h;rw[e] at h6
  rcases rest with _|⟨y,rest⟩
  rotate_left
  ·exfalso;simp at m;((try simp only[nc] at*);omega)
  have:o=r:=by rw[ho,<-s,hd];simp[codeF,m]
  cbv;exact L _ _ _ _ ⟨this,D⟩ (a7.refl _) rfl
theorem BT(d:List Part)(hd:d.length<=maxLen):Spec Tryz.prog 115 [.sl true 3 (d.map a6)] Hp.emp (Is (.tup [.str (if cF d=0 then codeF d else[]),.int .i64 (cF d)])):=
 eW gY EV [.str (if cF d=0 then codeF d else[]),.int .i64 (cF d)] (.tup _ (by simp;exact⟨.str _,.int _ _⟩)) λR a=>EW ca rfl _ _ true d _ rfl (cF d) (λn=>(pR n).1)
  (fU (nA d hd) (λ_=>.cons (.same _) .nil) rfl) (λh=>⟨(dv h).1,(dv h).2.1⟩) (λn _ _=>fU (C7 n) (λ_=>gf rfl) rfl) (λn _ _=>qi (C7 n) (λ_=>gf rfl) rfl)
  (λn h0 h1=>by unfold pR;rw[aa qW]) (if cF d=0 then codeF d else[]) (cF d) (λh=>by rw[aa h];exact⟨rfl,rfl⟩) (λh=>by rw[ae h];exact⟨rfl,h.symm⟩) R
  λb s' x y h he hr=>by obtain⟨rfl,rfl⟩:=h;exact a b s' he hr
def zK:AC:=qr [qo 2 (.mov (.c qe))] (qr [qm 6 0,qo 7 (.len false (.t 6)),qa 8 73 [.t 7],qm 3 8] (qq (qr [qm 9 0,qo 10 (.len false (.t 9)),qz 11 0] (.block 0 (.loop (qr [qb 12 .lss 11 10] (qq (qu 12 .skip (.exit 0)) (qq (.block 1 (qr [qo 13 (.iaddr 3 (.t 9) (.t 11)),qd 14 3 13,qo 5 (.alloc 115 wj),qs 3 5 14] (.region true [qm 15 3,qf 16 1 5,ql 17 16,qf 18 2 5,ql 19 18,qo 20 (.len true (.t 19)),qb 21 .add 17 20,qo 22 (.bin .mul (qk 4) (.t 21)),qf 23 0 5,ql 24 23,qb 25 .add 22 24,qa 26 73 [.t 25],qf 27 2 5,ql 28 27,qb 29 .add 26 28,qb 30 .add 15 29,qm 3 30]))) (qR [qc 31 .add 11 1,qm 11 31]))))))) (qr [qm 32 3,qm 2 32] .ret)))
theorem H7:fo Tryz.prog 119 Tryz.f119 zK [.t 2] 1 eV:=⟨Tryz.func119,by decide+kernel,by kernel_rfl,by kernel_rfl,by decide+kernel⟩
theorem H9(P:Prim)(hP:P=ca)(T C:cp)(d:List Part)(rows:List (List V))(dS:rows=d.map a6)(e:Int->BS)(D:d.length<=1600)(i:∀p∈d,oq p)
  (h2:∀n,0<=n->n<=100000->fZ T 73 [qI n] (.str (e n)))(h3:∀n,0<=n->n<=100000->fZ C 73 [qI n] (.str (e n)))
  (j:∀n,0<=n->n<=100000->e n=jg n.toNat)(r:BS)(l:codeF d=r)
  (R:S->Prop)(F:∀E s' x,x=r->a7 E s'->hX [.t 2] [.str x] s'->R E):fX P T C zK (S0 [.sl true 3 rows] Hp.emp) R (λ_ _=>False) R:=by
 have b:P.da rows=(d.length:Int):=by rw[gi hP,dS];simp
 have f1:=h2 (P.da rows) (by rw[b];exact aT _) (by rw[b];((try simp only[nc] at*);omega));have m:e (P.da rows)=jg d.length:=by rw[j _ (by rw[b];exact aT _) (by rw[b];((try simp only[nc] at*);omega)),b];rfl
 cbv;refine f1 _ _ ?_;cbv;refine⟨WA d (jg d.length),λy=>[(3,.str y.o),(9,.sl true 3 rows),(10,qI (P.da rows)),(11,qI y.k)],λy=>[],λy=>y.rest.length,
  ⟨_,a7.refl _,⟨0,[],d,e (P.da rows),rfl,rfl,by rw[m];simp,by rw[m];have:=iR d.length;simp;omega⟩,⟨rfl,rfl,rfl,rfl,trivial⟩,trivial⟩,?_⟩
 rintro⟨k,pre,rest,o,hd,hk,ho,OO⟩;have c:∀x:BS,P.eP x=(x.length:Int):=by intro x;subst hP;rfl
 have f:∀x y:BS,(P.gV x y).length=x.length+y.length:=by intro x y;subst hP;exact an
 replace hk:k=(pre.length:Int):=hk
 have g:pre.length+rest.length=d.length:=by rw[hd];simp
 cbv;refine ab (λh=>?_) (λh=>?_)
 ·have h6:k<P.da rows:=fA hP h;rw[b] at h6
  rcases rest with _|⟨⟨kd,a,tx⟩,rest⟩
  ·exfalso;simp at g;((try simp only[nc] at*);omega)
  have q:P.row rows (P.nat k) [qI kd,qI a,.str tx]:=fL hP hk (by rw[dS,av,hd];simp[a6]);have hp:=gu (i ⟨kd,a,tx⟩ (by rw[hd];simp));obtain⟨u,v,w,A⟩:=hp;simp only[] at u v w A;have k1:P.fQ 0 k:=iQ hP qO;have k2:P.i64 (P.add k 1):=by rw[add_eq hP];exact ft hP qO
  have G:P.add k 1=(((pre++[(⟨kd,a,tx⟩:Part)]).length:Nat):Int):=by rw[add_eq hP,hk];simp
  have B:=c tx;have a1:P.add a (P.eP tx)=a+(tx.length:Int):=by rw[add_eq hP,B]
  have i1:P.i64 (P.add a (P.eP tx)):=by rw[a1];exact ft hP qW
  have a2:P.mul 4 (P.add a (P.eP tx))=4*(a+(tx.length:Int)):=by rw[a1];subst hP;rfl
  have i2:P.i64 (P.mul 4 (P.add a (P.eP tx))):=by rw[a2];exact ft hP qW
  have a3:P.add (P.mul 4 (P.add a (P.eP tx))) kd=4*(a+(tx.length:Int))+kd:=by rw[add_eq hP,a2]
  have i3:P.i64 (P.add (P.mul 4 (P.add a (P.eP tx))) kd):=by rw[a3];exact ft hP qW
  have f2:=h3 (P.add (P.mul 4 (P.add a (P.eP tx))) kd) (by rw[a3];omega) (by rw[a3];omega);have s:=j (P.add (P.mul 4 (P.add a (P.eP tx))) kd) (by rw[a3];omega) (by rw[a3];omega);have hpl:(e (P.add (P.mul 4 (P.add a (P.eP tx))) kd)).length<=5:=by rw[s];exact iR _
  have e2:P.gV o (P.gV (e (P.add (P.mul 4 (P.add a (P.eP tx))) kd)) tx)=jg d.length++((pre++[(⟨kd,a,tx⟩:Part)]).map om).flatten:=by
   rw[s,a3,ho];subst hP;show(_++_)++(_++tx)=_;simp[om]
  generalize e (P.add (P.mul 4 (P.add a (P.eP tx))) kd)=z at f2 hpl e2
  have I:P.i64 (P.add (P.eP z) (P.eP tx)):=by rw[add_eq hP,c z,c tx];exact ft hP qO
  have J:P.i64 (P.add (P.eP o) (P.eP (P.gV z tx))):=by rw[add_eq hP,c o,c,f];exact ft hP qO
  have H:(P.gV o (P.gV z tx)).length<=5+505*(pre++[(⟨kd,a,tx⟩:Part)]).length:=by rw[f,f];simp;omega
  cbv;refine⟨k1,_,q,?_⟩;cbv;intro β;cbv
  repeat' first|(refine And.intro (by assumption) ?_;cbv)|(intro β;cbv)
  refine f2 _ _ ?_;cbv
  repeat' first|(refine And.intro (by assumption) ?_;cbv)|(intro β;cbv)
  exact⟨_,a7.refl _,⟨_,pre++[⟨kd,a,tx⟩],rest,_,by simp[hd],G,e2,H⟩,⟨rfl,rfl,rfl,rfl,trivial⟩,trivial,by simp⟩
 ·have h6:¬k<P.da rows:=fg hP h;rw[b] at h6
  rcases rest with _|⟨y,rest⟩
  rotate_left
  ·exfalso;simp at g;((try simp only[nc] at*);omega)
  have:o=r:=by rw[ho,<-l,hd];simp[codeF,g]
  cbv;exact F _ _ _ this (a7.refl _) rfl
theorem Ia(d:List Part)(h:cF d=0):Spec Tryz.prog 119 [.sl true 3 (d.map a6)] Hp.emp (Is (.str (codeF d))):=
 eW gY H7 [.str (codeF d)] (.str _) λR a=>H9 ca rfl _ _ d _ rfl (λn=>jg n.toNat) (dv h).1 (dv h).2.1
  (λn h0 h1=>fU (rR n h0 qW) (λ_=>gf rfl) rfl) (λn h0 h1=>qi (rR n h0 qW) (λ_=>gf rfl) rfl) (λn _ _=>rfl) _ rfl R
  λb s' x h he hr=>by subst h;exact a b s' he hr
end Go.Proofs.YtobngncjflogcaaGreat.AM
namespace Go.Proofs.YtobngncjflogcaaGreat
theorem Qz(x y z:BitVec 32):x^^^(y^^^z)=y^^^(x^^^z):=by rw[<-bZ,eE x y,bZ]
def vC(x:BitVec 32):BitVec 32:=(x>>>1)^^^(bif x.getLsbD 0 then 0x82f63b78#32 else 0#32)
def nC:Nat->BitVec 32->BitVec 32
 |0,x=>x
 |n+1,x=>vC (nC n x)
theorem Ib(x y:BitVec 32):vC (x^^^y)=vC x^^^vC y:=by
 unfold vC;rw[cH,BitVec.getLsbD_xor];cases x.getLsbD 0<;>cases y.getLsbD 0
 ·simp
 ·simp only[Bool.false_bne,cond_true,eM,cf,bZ]
 ·simp only[Bool.true_bne,Bool.not_false,cond_true,eM,cf,bZ];rw[eE (y>>>1)]
 ·simp only[Bool.true_bne,Bool.not_true,cond_true,eM,cf,bZ];rw[Qz _ (y>>>1),BitVec.xor_self,cf]
theorem Ic(n:Nat)(x y:BitVec 32):nC n (x^^^y)=nC n x^^^nC n y:=by
 induction n with
 |zero=>rfl
 |succ n ih=>simp only[nC];rw[ih,Ib]
theorem EX(n:Nat)(z:BitVec 32)(h:∀i,i<n->z.getLsbD i=false):nC n z=z>>>n:=by
 induction n with
 |zero=>simp[nC]
 |succ n ih=>
  simp only[nC];rw[ih (λi hi=>h i qW)];unfold vC;have h0:(z>>>n).getLsbD 0=false:=by
   rw[dZ];exact h n qW
  rw[h0];simp only[eM,cf];rw[<-eI]
def lj(x:BitVec 32):BitVec 32:=x&&&255#32
theorem BU(y:BitVec 32):nC 8 y=(y>>>8)^^^nC 8 (lj y):=by
 have e:y=(y&&& ~~~255#32)^^^lj y:=by
  unfold lj;apply ep;intro i hi;simp only[BitVec.getLsbD_xor,ea,eb,hi,decide_true,Bool.true_and];cases y.getLsbD i<;>cases(255#32).getLsbD i<;>rfl
 conv=>lhs;rw[e]
 rw[Ic,EX]
 ·congr 1
  apply ep;intro i hi;simp only[dZ,ea,eb];have:(255#32).getLsbD (8+i)=false:=by
   rw[BitVec.getLsbD_ofNat];simp only[Bool.and_eq_false_iff]
   right
   exact Nat.testBit_lt_two_pow (bE (show 255<2^8 by decide) (Nat.pow_le_pow_right qD qW))
  rw[this]
  by_cases h8:8+i<32
  ·simp[h8]
  ·rw[BitVec.getLsbD_of_ge y _ qW];simp
 ·intro i hi;have:(255#32).getLsbD i=true:=by
   match i,hi with
   |0,_|1,_|2,_|3,_|4,_|5,_|6,_|7,_=>decide
  rw[ea,eb,this];simp
def mV(b:BitVec 32)(k:Nat)(x:BitVec 32):BitVec 32:=(x>>>1)^^^(bif (x^^^(b>>>k)).getLsbD 0 then 0x82f63b78#32 else 0#32)
def EY(b:BitVec 32):Nat->BitVec 32->BitVec 32
 |0,x=>x
 |n+1,x=>mV b n (EY b n x)
theorem MI(b x:BitVec 32)(n:Nat):EY b n x=nC n (x^^^b)^^^(b>>>n):=by
 induction n with
 |zero=>simp[EY,nC,bZ]
 |succ n ih=>
  simp only[EY,nC];rw[ih];unfold mV vC;rw[bZ (nC n (x^^^b)),BitVec.xor_self,cf,cH,<-eI];simp only[bZ];rw[eE (b>>>(n+1))]
def jn(c:UInt8):BitVec 32:=BitVec.ofNat 32 c.toNat
theorem rS(c:UInt8):jn c>>>8=0#32:=by
 apply BitVec.eq_of_toNat_eq;have:=c.toNat_lt;simp[jn,cw];omega
def nV(x:BitVec 32)(c:UInt8):BitVec 32:=nC 8 (x^^^jn c)
theorem MJ(x:BitVec 32)(c:UInt8):EY (jn c) 8 x=nV x c:=by
 rw[MI,rS,cf];rfl
theorem QA(x:BitVec 32)(c:UInt8):(x>>>8)^^^nC 8 (lj (x^^^jn c))=nV x c:=by
 unfold nV;rw[BU (x^^^jn c),cH,rS,cf]
def EZ(l:BS):BitVec 32:=l.foldl nV 0xffffffff#32
theorem xi(l:BS)(c:UInt8):EZ (l++[c])=nV (EZ l) c:=by simp[EZ]
def nW(l:BS):Nat:=(~~~EZ l).toNat
theorem s9(x y:BitVec 32):bits .xor .u32 (x.toNat:Int) (y.toNat:Int)=((x^^^y).toNat:Int):=by
 rw[u32_xor_nat _ _ x.isLt y.isLt,BitVec.toNat_xor]
theorem x7(x y:BitVec 32):bits .and .u32 (x.toNat:Int) (y.toNat:Int)=((x&&&y).toNat:Int):=by
 rw[u32_and_nat _ _ x.isLt y.isLt,dI]
theorem BV(c:UInt8)(m:Nat):(c.toNat:Int)/2^m%4294967296=((jn c>>>m).toNat:Int):=by
 have hc:=c.toNat_lt;have h1:c.toNat/2^m<=c.toNat:=Nat.div_le_self _ _;have e:(jn c>>>m).toNat=c.toNat/2^m:=by
  simp only[jn,de,ec,cw];rw[cW qW]
 rw[e];have e2:(c.toNat:Int)/2^m=((c.toNat/2^m:Nat):Int):=by
  rw[Int.natCast_ediv,Int.natCast_pow];rfl
 rw[e2];omega
theorem Ie(y:BitVec 32):(bits .and .u32 (y.toNat:Int) 1==1)=y.getLsbD 0:=by
 have h:=x7 y 1#32;rw[show(((1#32).toNat:Nat):Int)=1 by rfl] at h;rw[h];have e:(y&&&1#32).toNat=y.toNat%2:=by
  rw[dI];exact Nat.and_one_is_mod _
 rw[e];have e2:y.getLsbD 0=decide (y.toNat%2=1):=by
  simp[BitVec.getLsbD,Nat.testBit_zero]
 rw[e2,cx,beq_iff_eq,bU];omega
theorem BX(y:BitVec 32):(y.toNat:Int)/(2:Int)=((y>>>1).toNat:Int):=by
 rw[de,cw];omega
theorem QB(y:BitVec 32):bits .xor .u32 ((y.toNat:Int)/(2:Int)) 2197175160=(((y>>>1)^^^0x82f63b78#32).toNat:Int):=by
 rw[BX];exact s9 (y>>>1) 0x82f63b78#32
theorem x8(b:BitVec 32)(k:Nat)(x:BitVec 32)(h:(x^^^(b>>>k)).getLsbD 0=true):mV b k x=(x>>>1)^^^0x82f63b78#32:=by
 unfold mV;rw[h];rfl
theorem wG(b:BitVec 32)(k:Nat)(x:BitVec 32)(h:(x^^^(b>>>k)).getLsbD 0=false):mV b k x=x>>>1:=by
 unfold mV;rw[h];simp
theorem OZ(x:BitVec 32):bits .xor .u32 IntKind.u32.max (x.toNat:Int)=((~~~x).toNat:Int):=by
 have h:=s9 (BitVec.allOnes 32) x;rw[BitVec.allOnes_xor] at h;exact h
def lY(j:Nat):Value:=.int .u32 ((nC 8 (BitVec.ofNat 32 j)).toNat:Int)
def fM(i:Nat):Array Value:=Array.ofFn (n:=256) (λj=>if j.val<i then lY j.val else .int .u32 0)
theorem ju(i:Nat):(fM i).size=256:=by simp[fM]
theorem rT:fM 0=Array.replicate 256 (.int .u32 0):=by
 apply Array.ext
 ·simp[fM]
 ·intro j h1 h2;simp[fM]
theorem x9(i:Nat)(v:Value)(hv:v=lY i):(fM i).setIfInBounds i v=fM (i+1):=by
 subst hv;apply Array.ext
 ·simp[fM]
 ·intro j h1 h2;rw[Array.getElem_setIfInBounds]
  ·simp only[fM,eg]
   by_cases e:i=j
   ·subst e;simp
   ·rw[aa e]
    by_cases hj:j<i
    ·rw[ae hj,ae qW]
    ·rw[aa hj,aa qW]
  ·simpa using h1
theorem wH(i:Nat)(h:i<256):(fM i)[i]? =some (.int .u32 0):=by
 rw[aQ (by rw[ju];exact h)];simp[fM]
theorem rV(i:Nat):(fM i).all (·.oneCell')=true:=by
 rw[Array.all_eq_true];intro j hj;simp only[fM,eg]
 split<;>rfl
theorem tO(j:Nat)(h:j<256):(fM 256)[j]? =some (lY j):=by
 rw[aQ (by rw[ju];exact h)];simp only[fM,eg];rw[ae h]
theorem E0(X:BitVec 32):bits .xor .u32 ((X.toNat:Int)/(2:Int)) (bits .and .u32 (-bits .and .u32 (X.toNat:Int) 1%4294967296) 2197175160)=((vC X).toNat:Int):=by
 have h1:=x7 X 1#32;rw[show(((1#32).toNat:Nat):Int)=1 by rfl] at h1;have e:(X&&&1#32).toNat=X.toNat%2:=by
  rw[dI];exact Nat.and_one_is_mod _
 rw[e] at h1;rw[h1,BX];unfold vC;have e2:X.getLsbD 0=decide (X.toNat%2=1):=by simp[BitVec.getLsbD,Nat.testBit_zero]
 rw[e2]
 rcases Nat.mod_two_eq_zero_or_one X.toNat with h|h
 ·rw[h];have a:=x7 0#32 0x82f63b78#32;have b:=s9 (X>>>1) (0#32&&&0x82f63b78#32);rw[<-a] at b;exact b
 ·rw[h];have a:=x7 0xffffffff#32 0x82f63b78#32;have b:=s9 (X>>>1) (0xffffffff#32&&&0x82f63b78#32);rw[<-a] at b;exact b
theorem Ig(x:BitVec 32)(c:UInt8):bits .xor .u8 ((x.toNat:Int)%256) (c.toNat:Int)=(((lj (x^^^jn c)).toNat:Nat):Int)/\(lj (x^^^jn c)).toNat<256:=by
 have hc:=c.toNat_lt;have e:(lj (x^^^jn c)).toNat=(x.toNat%256)^^^c.toNat:=by
  unfold lj jn;rw[dI,BitVec.toNat_xor,ec,cW (show c.toNat<2^32 by omega)];have:(255#32).toNat=2^8-1:=by decide
  rw[this,Nat.and_two_pow_sub_one_eq_mod,Nat.xor_mod_two_pow];have h2:c.toNat%2^8=c.toNat:=cW qW;rw[h2]
 have hlt:(x.toNat%256)^^^c.toNat<256:=Nat.xor_lt_two_pow (n:=8) qW qW;refine⟨?_,by rw[e];exact hlt⟩;have h1:((x.toNat:Int)%256)=((x.toNat%256:Nat):Int):=by omega
 rw[h1,u8_xor_nat _ _ qW qW,e]
theorem Ih(x:BitVec 32)(c:UInt8):bits .xor .u32 ((x.toNat:Int)/(256:Int)) ((nC 8 (BitVec.ofNat 32 (lj (x^^^jn c)).toNat)).toNat:Int)=((nV x c).toNat:Int):=by
 rw[BitVec.ofNat_toNat,BitVec.setWidth_eq];have h:(x.toNat:Int)/(256:Int)=((x>>>8).toNat:Int):=by
  rw[de,cw];omega
 rw[h,s9,QA]
open Go.RowKit
set_option maxRecDepth 100000 in
set_option maxHeartbeats 400000 in
theorem BY(s:ByteArray)(w:World)(hs:s.size<=maxLen):
  Calls Tryz.prog 112 #[.string s] w λe w'=>e=.returned (.int .u32 (nW s.data.toList))/\w=w':=by
 unfold maxLen at hs
 go_enter Tryz.func112,Tryz.ntmps112
 go_wp2
 go_loop [3,9] (λh i=>∃k:Nat,k<=s.size/\i=.int .i64 k/\∃x:BitVec 32,h=.int .u32 x.toNat/\Hid (x=EZ (s.data.toList.take k))) (λ_ i=>s.size-(intOf i).toNat)
 case atStart=>exact⟨0,bd _,rfl,0xffffffff#32,rfl,rfl⟩
 case round=>
  obtain⟨k,hk,rfl,x,rfl,HX⟩:=hrel
  by_cases hlt:k<s.size
  ·have SY:s[k].toNat<256:=s[k].toNat_lt
   go_wp2
   go_loop [3,12] (λh i=>∃m:Nat,m<=8/\i=.int .i64 m/\∃y:BitVec 32,h=.int .u32 y.toNat/\Hid (y=EY (jn s[k]) m x)) (λ_ i=>8-(intOf i).toNat)
   case atStart=>exact⟨0,bd _,rfl,x,rfl,rfl⟩
   case round=>
    obtain⟨m,hm,rfl,y,rfl,HY⟩:=hrel
    by_cases XU:m<8
    ·have hb:=BV s[k] m;have HT:=Lib.hid (Ie (y^^^jn s[k]>>>m));have WB:=Lib.hid (s9 y (jn s[k]>>>m));have HP:=Lib.hid (QB y);have HH:=Lib.hid (BX y);cases hc:(y^^^jn s[k]>>>m).getLsbD 0
     ·have HS:=Lib.hid (wG _ _ _ hc);have ht:(bits .and .u32 (bits .xor .u32 (y.toNat:Int) ((s[k].toNat:Int)/2^m%4294967296)) 1==1)=false:=by
       rw[hb,WB.out,HT.out,hc]
      clear hb hc
      go_wp2
      go_round
      case rel=>exact⟨m+1,qW,by go_num,y>>>1,aR _ HH.out,by show _=mV _ _ _;rw[<-HY.out,HS.out]⟩
      case measure=>simp[intOf];omega
     ·have HS:=Lib.hid (x8 _ _ _ hc);have ht:(bits .and .u32 (bits .xor .u32 (y.toNat:Int) ((s[k].toNat:Int)/2^m%4294967296)) 1==1)=true:=by
       rw[hb,WB.out,HT.out,hc]
      clear hb hc
      go_wp2
      go_round
      case rel=>exact⟨m+1,qW,by go_num,(y>>>1)^^^0x82f63b78#32,aR _ HP.out,by show _=mV _ _ _;rw[<-HY.out,HS.out]⟩
      case measure=>simp[intOf];omega
    ·have HM:Hid (m=8):=by show _=_;omega
     go_wp2
     go_round
     case rel=>exact⟨k+1,qW,by go_num,y,rfl,by show _=_;rw[HY.out,HM.out,MJ,kF s k hlt,xi,HX.out]⟩
     case measure=>simp[intOf];omega
  ·go_wp2
   go_ret
   exact⟨C2 (by rw[OZ,HX.out,bD (by simp;omega)];rfl),rfl⟩
theorem Tryz.vD:(Tryz.prog.info? 206).map (λi=>(i.zero,i.size))=some (some (.agg (Array.replicate 256 (.int .u32 0))),256):=by kernel_rfl
theorem nD{P:Program}{ops:Array Oper}{rest:List Oper}{op:Oper}{a:Act}{Q:Exit->Act->World->Prop}(b:op.guard=none)(ty:TypeId)(x y:Operand)(ho:op.op=.store ty x y)
  (w:World)(c c':Array Value)(hx:a.eval x=.pointer (some ⟨w.heap.size,0,none⟩))(hy:a.eval y=.agg c')(hi:(P.info? ty).map (·.size)=some c'.size)(hs:c.size=c'.size)(h1:c'.all (·.oneCell')=true)
  (h:wpList P ops Q rest (a.put op.dst undef) (w.alloc (.cells c' ty))):wpList P ops Q (op::rest) a (w.alloc (.cells c ty)):=
 wpList_plain b λK hK=>by
  unfold Oper.wp execOp;simp only[ho,hx,hy,run_storeAt_new w ty c c' hi hs h1,Sem.run_bind,Sem.run_pure,Result.andThen_ok];exact hK _ _ h
set_option maxRecDepth 1000000 in
set_option maxHeartbeats 2000000 in
theorem E1(w:World):
  Calls Tryz.prog 144 #[] w λe w'=>e=.returned (.agg (fM 256))/\Below w.heap.size w w':=by
 obtain⟨hz,hi⟩:=zero_of_info Tryz.vD
 go_enter Tryz.func144,Tryz.ntmps144
 go_wp2
 rw[<-rT]
 go_loopg [3] 256 (λg s3 wx=>∃i:Nat,i+g=256/\s3=.int .i64 i/\wx=w.alloc (.cells (fM i) 206))
 case atStart=>exact⟨0,qW,rfl,rfl⟩
 case round=>
  obtain⟨i,XV,rfl,rfl⟩:=hrel;cases gk with
  |zero=>
   have XW:¬((i:Int)<256):=by omega
   obtain rfl:256=i:=by omega
   have hsz:(Tryz.prog.info? 206).map (·.size)=some (fM 256).size:=by rw[ju];exact hi
   go_wp2_with (first
    |(refine wpList_load_row rfl 206 (.tmp 0) rfl w.heap.size rfl 206 (fM 256) (0,0) _ (heap_alloc_last w _) Tryz.underlying206 rfl hsz ?_)
    |(refine nD rfl 206 (.tmp 0) (.tmp 22) rfl w (fM 256) (fM 256) rfl rfl hsz rfl (rV _) ?_))
   refine bodyPost_ret (v:=.agg (fM 256)) (results_cell_row rfl _ _ w.heap.size 206 (fM 256) (0,0) _ rfl (heap_alloc_last w _) Tryz.underlying206 rfl hsz) rfl ⟨rfl,(Below.refl _ _).alloc (ag _) _⟩
  |succ g=>
   have hi:i<256:=by omega
   have hi2:(i:Int)<256:=by omega
   have HI:Hid (i+1+g=256):=by show _=_;omega
   clear XV
   go_wp2
   go_loopg [2,8] 8 (λg x k wx=>∃m:Nat,m+g=8/\k=.int .i64 m/\wx=w.alloc (.cells (fM i) 206)/\∃X:BitVec 32,x=.int .u32 (X.toNat:Int)/\Hid (X=nC m (BitVec.ofNat 32 i)))
   case atStart=>exact⟨0,qW,rfl,rfl,BitVec.ofNat 32 i,aR _ (by rw[ec,cW qW]),rfl⟩
   case round=>
    obtain⟨m,hm,rfl,rfl,X,rfl,HX⟩:=hrel;cases gk with
    |zero=>
     have H8:Hid (m=8):=by show _=_;omega
     have XX:¬((m:Int)<8):=by omega
     clear hm;have hcell:(fM i)[i]? =some (.int .u32 0):=wH i hi;have HV:=Lib.hid (x9 i (.int .u32 (X.toNat:Int)) (by show _=Value.int _ _;rw[HX.out,H8.out]))
     go_wp2
     go_roundg g
     case measure=>omega
     case rel=>exact⟨i+1,by have:=HI.out;omega,by go_num,by rw[HV.out]⟩
    |succ g2=>
     have XX:m<8:=by omega
     have XY:(m:Int)<8:=by omega
     have H8:Hid (m+1+g2=8):=by show _=_;omega
     clear hm;have HW:=Lib.hid (E0 X)
     go_wp2
     go_roundg g2
     case measure=>omega
     case rel=>exact⟨m+1,by have:=H8.out;omega,by go_num,rfl,vC X,aR _ HW.out,by show _=vC _;rw[HX.out]⟩
set_option maxRecDepth 1000000 in
set_option maxHeartbeats 2000000 in
theorem E2(s:ByteArray)(w:World)(hs:s.size<=maxLen):
  Calls Tryz.prog 110 #[.string s] w λe w'=>e=.returned (.int .u32 (nW s.data.toList))/\Below w.heap.size w w':=by
 unfold maxLen at hs;obtain⟨hz,hi⟩:=zero_of_info Tryz.vD;have hsz:(Tryz.prog.info? 206).map (·.size)=some (fM 256).size:=by rw[ju];exact hi
 have hs0:(fM 0).size=(fM 256).size:=by rw[ju,ju]
 have HI:=Lib.hid hi;have XZ:=Lib.hid hsz;have X0:=Lib.hid hs0;clear hi hsz hs0
 go_enter Tryz.func110,Tryz.ntmps110
 go_wp2_with fail
 refine(E1 _).mono ?_;rintro e w1 ⟨rfl,hb1⟩;rw[<-rT] at hz
 go_wp2_with (refine nD rfl 206 (.tmp 3) (.tmp 6) rfl w1 (fM 0) (fM 256) rfl rfl XZ.out X0.out (rV _) ?_)
 have hcell:∀n,n<256->(w1.alloc (.cells (fM 256) 206)).cell? ⟨w1.heap.size,n,none⟩=some (lY n):=λn hn=>by
  rw[World.cell?_alloc_new];exact tO n hn
 have HC:=Lib.hid hcell;clear hcell
 go_loop [4,9] (λh i=>∃k:Nat,k<=s.size/\i=.int .i64 k/\∃x:BitVec 32,h=.int .u32 (x.toNat:Int)/\Hid (x=EZ (s.data.toList.take k))) (λ_ i=>s.size-(intOf i).toNat)
 case atStart=>exact⟨0,bd _,rfl,0xffffffff#32,rfl,rfl⟩
 case round=>
  obtain⟨k,hk,rfl,x,rfl,HX⟩:=hrel
  by_cases hlt:k<s.size
  ·have SY:s[k].toNat<256:=s[k].toNat_lt;obtain⟨hw,hn⟩:=Ig x s[k];have HT:=Lib.hid (Ih x s[k]);have hc:=HC.out _ hn
   generalize(lj (x^^^jn s[k])).toNat=n at hw hn hc HT
   have ht:=tO n hn;unfold lY at hc ht;clear HC
   generalize nC 8 (BitVec.ofNat 32 n)=T at hc ht HT
   go_wp2
   go_round
   case rel=>exact⟨k+1,qW,by go_num,nV x s[k],aR _ HT.out,by show _=_;rw[kF s k hlt,xi,HX.out]⟩
   case measure=>simp[intOf];omega
  ·go_wp2
   go_ret
   exact⟨C2 (by rw[OZ,HX.out,bD (by simp;omega)];rfl),(hb1.alloc hb1.size _)⟩
end Go.Proofs.YtobngncjflogcaaGreat
namespace Go.Proofs.YtobngncjflogcaaGreat.AM
open Go Go.RowKit
set_option maxRecDepth 100000
set_option maxHeartbeats 2000000
def nE(n:Int):UInt8:=UInt8.ofNat (n%256).toNat
theorem zL(n:Int):IntKind.u8.wrap n=((nE n).toNat:Int):=by
 have h1:IntKind.u8.wrap n=n%256:=rfl;rw[h1,nE,UInt8.toNat_ofNat'];omega
theorem MK(n:Int):nE (n%256)=nE n:=by unfold nE;rw[Int.emod_emod_of_dvd n (Int.dvd_refl 256)]
def lP(c:Int):BS:=[nE c,nE (c/256),nE (c/65536),nE (c/16777216)]
section
variable {P:Prim} (hP:P=ca)
include hP
theorem O0(a b c:Int):P.yX [[.int .u8 (P.wrap .u8 a)],[.int .u8 (P.wrap .u8 b)],[.int .u8 (P.wrap .u8 c)]] [nE a,nE b,nE c]:=by
 subst hP;simp[ca,zL]
theorem SZ(a b c d:Int):P.yX [[.int .u8 (P.wrap .u8 a)],[.int .u8 (P.wrap .u8 b)],[.int .u8 (P.wrap .u8 c)],[.int .u8 (P.wrap .u8 d)]] [nE a,nE b,nE c,nE d]:=by
 subst hP;simp[ca,zL]
theorem mB(rows:List (List V))(n:Nat)(h:rows.length=n):P.oc rows n:=by subst hP;exact h
theorem S4(c:Int):P.shr c 8=c/256:=by subst hP;rfl
theorem S5(c:Int):P.shr c 16=c/65536:=by subst hP;rfl
theorem S6(c:Int):P.shr c 24=c/16777216:=by subst hP;rfl
theorem ta:P.bits .u32=32:=by subst hP;rfl
theorem QC:P.bits .i64=64:=by subst hP;rfl
theorem kt(a b:BS):P.gV a b=a++b:=by subst hP;rfl
theorem Ii(c:Int):P.yX [[.int .u8 (P.wrap .u8 c)],[.int .u8 (P.wrap .u8 (P.shr c 8))],[.int .u8 (P.wrap .u8 (P.shr c 16))],[.int .u8 (P.wrap .u8 (P.shr c 24))]] (lP c):=by
 have h:=SZ hP c (P.shr c 8) (P.shr c 16) (P.shr c 24);have e:[nE c,nE (P.shr c 8),nE (P.shr c 16),nE (P.shr c 24)]=lP c:=by rw[S4 hP,S5 hP,S6 hP];rfl
 rwa[e] at h
end
theorem QD(s:BS)(hs:s.length<=maxLen):Spec Tryz.prog 110 [.str s] Hp.emp (Is (.int .u32 (nW s))):=
 kf (us0:= #[.string ⟨s.toArray⟩]) ⟨Tryz.f110,Tryz.func110,by decide+kernel,bF.1 (by decide+kernel)⟩
  (λF B w us hl hr=>x6 (f:=λ_=>True) hl hr λu h=>C4 h) (u0:=.int .u32 (nW s)) (λF B w=>.int _ _)
  (λw=>by simpa using E2 ⟨s.toArray⟩ w (by simpa[ByteArray.size] using hs))
theorem ML(s:BS)(hs:s.length<=maxLen):Spec Tryz.prog 112 [.str s] Hp.emp (Is (.int .u32 (nW s))):=
 kf (us0:= #[.string ⟨s.toArray⟩]) ⟨Tryz.f112,Tryz.func112,by decide+kernel,bF.1 (by decide+kernel)⟩
  (λF B w us hl hr=>x6 (f:=λ_=>True) hl hr λu h=>C4 h) (u0:=.int .u32 (nW s)) (λF B w=>.int _ _)
  (λw=>by
   refine(BY ⟨s.toArray⟩ w (by simpa[ByteArray.size] using hs)).mono ?_;rintro e w' ⟨rfl,rfl⟩;exact⟨by simp,xg _⟩)
def kh(k:Int)(b:BS):BS:=[nE k,nE ((b.length:Int)/256),nE (b.length:Int)]++b
def vE(k:Int)(b:BS):BS:=kh k b++lP (nW (kh k b))
def gC(k:Int)(b:BS):BS×Int:=if k<1\/255<k then([],1) else if 4000<b.length then([],2) else(vE k b,0)
def C8:AC:=qr [qo 2 (.mov (.c qe))] (qr [qm 3 0,qo 4 (.conv .u8 (.t 3)),qm 5 0,qo 6 (.bin .shr (.t 5) (.c (.int .u64 8))),qo 7 (.conv .u8 (.t 6)),qm 8 0,qo 9 (.bin .shr (.t 8) (.c (.int .u64 16))),qo 10 (.conv .u8 (.t 9)),qm 11 0,qo 12 (.bin .shr (.t 11) (.c (.int .u64 24))),qo 13 (.conv .u8 (.t 12)),qo 14 (.bslice 5 1 [.t 4,.t 7,.t 10,.t 13]),qo 15 (.convbs (.t 14)),qm 2 15] .ret)
theorem MM:fo Tryz.prog 109 Tryz.f109 C8 [.t 2] 1 eV:=⟨Tryz.func109,by decide+kernel,by kernel_rfl,by kernel_rfl,by decide+kernel⟩
theorem MN(P:Prim)(hP:P=ca)(T d:cp)(c:Int)
  (R:S->Prop)(a:∀b s' x,x=lP c->a7 b s'->hX [.t 2] [.str x] s'->R b):fX P T d C8 (S0 [.int .u32 c] Hp.emp) R (λ_ _=>False) R:=by
 have a1:P.fQ 0 8:=iQ hP qD;have a2:P.fQ 0 16:=iQ hP qD;have a3:P.fQ 0 24:=iQ hP qD;have b1:P.iw 8 (P.bits .u32):=kZ hP (by rw[ta hP];decide);have b2:P.iw 16 (P.bits .u32):=kZ hP (by rw[ta hP];decide);have b3:P.iw 24 (P.bits .u32):=kZ hP (by rw[ta hP];decide);have f1:=Ii hP c
 generalize lP c=L at f1 a
 cbv
 repeat' first|(refine And.intro (by assumption) ?_;cbv)|(intro β;cbv)
 refine⟨mB hP _ _ rfl,_,f1,?_⟩;cbv;exact a _ _ _ rfl (a7.refl _) rfl
theorem MO(c:Int):Spec Tryz.prog 109 [.int .u32 c] Hp.emp (Is (.str (lP c))):=
 eW gY MM [.str (lP c)] (.str _) λR a=>MN ca rfl _ _ c R λs s' x h he hr=>by subst h;exact a s s' he hr
def C9:AC:=qr [qo 1 (.box 126 2 (.t 0)),qo 2 (.mov (.c qe)),qz 3 0] (qq (qr [qf 6 0 1,ql 7 6,qc 8 .lss 7 1,qm 9 8,qg 10 9 false (.faddr 0 (.t 1)),qg 11 9 false (.load1 (.t 10)),qg 12 9 false (.bin .gtr (.t 11) (qk 255)),qo 13 (.pick (.t 9) (.c (.bool true)) (.t 12))] (qu 13 (qr [qo 2 (.mov (.c qe)),qz 3 1] .ret) .skip)) (qq (qr [qf 14 1 1,ql 15 14,qo 16 (.len true (.t 15)),qc 17 .gtr 16 4000] (qu 17 (qr [qo 2 (.mov (.c qe)),qz 3 2] .ret) .skip)) (qr [qf 18 1 1,ql 19 18,qo 20 (.len true (.t 19)),qm 4 20] (qr [qf 21 0 1,ql 22 21,qo 23 (.conv .u8 (.t 22)),qm 24 4,qo 25 (.bin .shr (.t 24) (.c (.int .u64 8))),qo 26 (.conv .u8 (.t 25)),qm 27 4,qo 28 (.conv .u8 (.t 27)),qo 29 (.bslice 5 1 [.t 23,.t 26,.t 28]),qo 30 (.convbs (.t 29)),qf 31 1 1,ql 32 31,qb 33 .add 30 32,qm 5 33] (qr [qm 34 5,qm 35 5,qa 36 110 [.t 35],qa 37 109 [.t 36],qb 38 .add 34 37,qm 2 38,qz 3 0] .ret)))))
theorem MR:fo Tryz.prog 70 Tryz.f70 C9 [.t 2,.t 3] 1 eV:=⟨Tryz.func70,by decide+kernel,by kernel_rfl,by kernel_rfl,by decide+kernel⟩
theorem MS(P:Prim)(hP:P=ca)(T m:cp)(k:Int)(b:BS)(d:BS->Int)(h1:∀s,s.length<=5000->fZ T 110 [.str s] (.int .u32 (d s)))
  (f:Int->BS)(i:∀c,(f c).length=4)(h2:∀c,fZ T 109 [.int .u32 c] (.str (f c)))(r:BS)(e:Int)
  (hr:(if k<1\/255<k then([],1) else if 4000<b.length then([],2) else(kh k b++f (d (kh k b)),0))=(r,e))
  (R:S->Prop)(g:∀j s' x y,x=r/\y=e->a7 j s'->hX [.t 2,.t 3] [.str x,qI y] s'->R j):fX P T m C9 (S0 [.agg [qI k,.str b]] Hp.emp) R (λ_ _=>False) R:=by
 have a:P.eP b=(b.length:Int):=eF hP b;have bad:k<1\/255<k->[]=r/\1=e:=λh=>by rw[ae h] at hr;simpa using hr
 cbv;intro β;cbv;refine ab (λh=>?_) (λh=>?_)
 ·have h6:k<1:=fA hP h;cbv;exact g _ _ _ _ (bad (.inl h6)) (a7.refl _) rfl
 have h6:¬k<1:=fg hP h;cbv;refine ab (λh=>?_) (λh=>?_)
 ·have h7:255<k:=fA hP h;cbv;exact g _ _ _ _ (bad (.inr h7)) (a7.refl _) rfl
 have h7:¬255<k:=fg hP h;rw[aa qO] at hr;cbv;refine ab (λh=>?_) (λh=>?_)
 ·have h8:4000<P.eP b:=fA hP h;rw[a] at h8;rw[ae qO] at hr;cbv;exact g _ _ _ _ (by simpa using hr) (a7.refl _) rfl
 have h8:¬4000<P.eP b:=fg hP h;rw[a] at h8;rw[aa qO] at hr;simp only[aX] at hr;have a1:P.fQ 0 8:=iQ hP qD;have b1:P.iw 8 (P.bits .i64):=kZ hP (by rw[QC hP];decide);have f1:=O0 hP k (P.shr (P.eP b) 8) (P.eP b);have hd:P.gV [nE k,nE (P.shr (P.eP b) 8),nE (P.eP b)] b=kh k b:=by rw[S4 hP,a,kt hP];rfl
 have i1:P.i64 (P.add (P.eP [nE k,nE (P.shr (P.eP b) 8),nE (P.eP b)]) (P.eP b)):=by
  rw[add_eq hP,a,eF hP];exact ft hP (by simp only[ar,aK];((try simp only[nc] at*);omega))
 generalize[nE k,nE (P.shr (P.eP b) 8),nE (P.eP b)]=L at f1 hd i1
 have hl:(kh k b).length=b.length+3:=by simp[kh]
 have c1:=h1 (kh k b) qO;have l:=h2 (d (kh k b));have i2:P.i64 (P.add (P.eP (kh k b)) (P.eP (f (d (kh k b))))):=by rw[add_eq hP,eF hP,eF hP,hl,i];exact ft hP qO
 have e1:=kt hP (kh k b) (f (d (kh k b)));rw[<-hd] at c1 l i2 e1 hr;clear h1 h2;cbv
 repeat' first|(refine And.intro (by assumption) ?_;cbv)|(intro β;cbv)
 refine⟨mB hP _ _ rfl,_,f1,?_⟩;cbv;refine⟨i1,?_⟩;cbv;refine c1 _ _ ?_;cbv;refine l _ _ ?_;cbv;refine⟨i2,?_⟩;cbv;exact g _ _ _ _ ⟨by rw[e1];exact hr.1,hr.2⟩ (a7.refl _) rfl
theorem ya(f:Frame):Spec Tryz.prog 70 [.agg (ze f)] Hp.emp (Is (.tup [.str (gC f.kind f.body).1,.int .i64 (gC f.kind f.body).2])):=
 eW gY MR [.str (gC f.kind f.body).1,.int .i64 (gC f.kind f.body).2] (.tup _ (by simp;exact⟨.str _,.int _ _⟩)) λR a=>MS ca rfl _ _ f.kind f.body (λs=>nW s)
  (λs hs=>lU (QD s (by(have:maxLen=9223372036854775807:=by decide);((try simp only[nc] at*);omega))) rfl rfl) lP (λ_=>rfl) (λc=>lU (MO c) rfl rfl) _ _ rfl R λb s' x y h he hr=>by obtain⟨rfl,rfl⟩:=h;exact a b s' he hr
def xj:AC:=qr [qo 1 (.box 126 2 (.t 0)),qo 2 (.mov (.c qe)),qz 3 0] (qq (qr [qf 7 0 1,ql 8 7,qc 9 .lss 8 1,qm 10 9,qg 11 10 false (.faddr 0 (.t 1)),qg 12 10 false (.load1 (.t 11)),qg 13 10 false (.bin .gtr (.t 12) (qk 255)),qo 14 (.pick (.t 10) (.c (.bool true)) (.t 13))] (qu 14 (qr [qo 2 (.mov (.c qe)),qz 3 1] .ret) .skip)) (qq (qr [qf 15 1 1,ql 16 15,qo 17 (.len true (.t 16)),qc 18 .gtr 17 4000] (qu 18 (qr [qo 2 (.mov (.c qe)),qz 3 2] .ret) .skip)) (qr [qf 19 1 1,ql 20 19,qo 21 (.len true (.t 20)),qm 4 21] (qr [qf 22 0 1,ql 23 22,qo 24 (.conv .u8 (.t 23)),qm 25 4,qc 26 .quo 25 256,qo 27 (.conv .u8 (.t 26)),qm 28 4,qc 29 .rem 28 256,qo 30 (.conv .u8 (.t 29)),qo 31 (.bslice 5 1 [.t 24,.t 27,.t 30]),qo 32 (.convbs (.t 31)),qf 33 1 1,ql 34 33,qb 35 .add 32 34,qm 5 35] (qr [qm 36 5,qa 37 112 [.t 36],qm 6 37] (qr [qm 38 5,qm 39 6,qo 40 (.conv .u8 (.t 39)),qm 41 6,qo 42 (.bin .shr (.t 41) (.c (.int .u64 8))),qo 43 (.conv .u8 (.t 42)),qm 44 6,qo 45 (.bin .shr (.t 44) (.c (.int .u64 16))),qo 46 (.conv .u8 (.t 45)),qm 47 6,qo 48 (.bin .shr (.t 47) (.c (.int .u64 24))),qo 49 (.conv .u8 (.t 48)),qo 50 (.bslice 5 1 [.t 40,.t 43,.t 46,.t 49]),qo 51 (.convbs (.t 50)),qb 52 .add 38 51,qm 2 52,qz 3 0] .ret))))))
theorem E3:fo Tryz.prog 74 Tryz.f74 xj [.t 2,.t 3] 1 eV:=⟨Tryz.func74,by decide+kernel,by kernel_rfl,by kernel_rfl,by decide+kernel⟩
theorem E4(P:Prim)(hP:P=ca)(T i:cp)(k:Int)(b:BS)(f:BS->Int)(h1:∀s,s.length<=5000->fZ T 112 [.str s] (.int .u32 (f s)))
  (r:BS)(e:Int)
  (hr:(if k<1\/255<k then([],1) else if 4000<b.length then([],2) else(kh k b++lP (f (kh k b)),0))=(r,e))
  (R:S->Prop)(d:∀g s' x y,x=r/\y=e->a7 g s'->hX [.t 2,.t 3] [.str x,qI y] s'->R g):fX P T i xj (S0 [.agg [qI k,.str b]] Hp.emp) R (λ_ _=>False) R:=by
 have a:P.eP b=(b.length:Int):=eF hP b;have bad:k<1\/255<k->[]=r/\1=e:=λh=>by rw[ae h] at hr;simpa using hr
 cbv;intro β;cbv;refine ab (λh=>?_) (λh=>?_)
 ·have h6:k<1:=fA hP h;cbv;exact d _ _ _ _ (bad (.inl h6)) (a7.refl _) rfl
 have h6:¬k<1:=fg hP h;cbv;refine ab (λh=>?_) (λh=>?_)
 ·have h7:255<k:=fA hP h;cbv;exact d _ _ _ _ (bad (.inr h7)) (a7.refl _) rfl
 have h7:¬255<k:=fg hP h;rw[aa qO] at hr;cbv;refine ab (λh=>?_) (λh=>?_)
 ·have h8:4000<P.eP b:=fA hP h;rw[a] at h8;rw[ae qO] at hr;cbv;exact d _ _ _ _ (by simpa using hr) (a7.refl _) rfl
 have h8:¬4000<P.eP b:=fg hP h;rw[a] at h8;rw[aa qO] at hr;simp only[aX] at hr;have z0:P.fQ 0 (P.eP b):=iQ hP (by rw[a];((try simp only[nc] at*);omega));have j:P.iw 0 256:=kZ hP qD;have z2:P.div (P.eP b) 256=(b.length:Int)/256:=by rw[a];subst hP;rfl
 have z3:P.mod (P.eP b) 256=(b.length:Int)%256:=by rw[a];subst hP;rfl
 have z4:P.i64 (P.div (P.eP b) 256):=by rw[z2];exact ft hP qO
 have f1:=O0 hP k (P.div (P.eP b) 256) (P.mod (P.eP b) 256);have hd:P.gV [nE k,nE (P.div (P.eP b) 256),nE (P.mod (P.eP b) 256)] b=kh k b:=by rw[z2,z3,MK,kt hP];rfl
 have i1:P.i64 (P.add (P.eP [nE k,nE (P.div (P.eP b) 256),nE (P.mod (P.eP b) 256)]) (P.eP b)):=by
  rw[add_eq hP,a,eF hP];exact ft hP (by simp only[ar,aK];((try simp only[nc] at*);omega))
 generalize[nE k,nE (P.div (P.eP b) 256),nE (P.mod (P.eP b) 256)]=L at f1 hd i1
 have hl:(kh k b).length=b.length+3:=by simp[kh]
 have c1:=h1 (kh k b) qO;rw[<-hd] at c1 hr hl;clear h1
 generalize f (P.gV L b)=c at c1 hr
 have a1:P.fQ 0 8:=iQ hP qD;have a2:P.fQ 0 16:=iQ hP qD;have a3:P.fQ 0 24:=iQ hP qD;have b1:P.iw 8 (P.bits .u32):=kZ hP (by rw[ta hP];decide);have b2:P.iw 16 (P.bits .u32):=kZ hP (by rw[ta hP];decide);have b3:P.iw 24 (P.bits .u32):=kZ hP (by rw[ta hP];decide);have f2:=Ii hP c;have i2:P.i64 (P.add (P.eP (P.gV L b)) (P.eP (lP c))):=by
  rw[add_eq hP,eF hP,eF hP,hl];exact ft hP (by simp only[lP,ar,aK];((try simp only[nc] at*);omega))
 have e1:P.gV (P.gV L b) (lP c)=P.gV L b++lP c:=kt hP _ _;rw[<-e1] at hr
 generalize lP c=M at f2 i2 hr
 clear e1;cbv
 repeat' first|(refine And.intro (by assumption) ?_;cbv)|(intro β;cbv)
 refine⟨mB hP _ _ rfl,_,f1,?_⟩;cbv;refine⟨i1,?_⟩;cbv;refine c1 _ _ ?_;cbv
 repeat' first|(refine And.intro (by assumption) ?_;cbv)|(intro β;cbv)
 refine⟨mB hP _ _ rfl,_,f2,?_⟩;cbv;refine⟨i2,?_⟩;cbv;exact d _ _ _ _ hr (a7.refl _) rfl
theorem tc(f:Frame):Spec Tryz.prog 74 [.agg (ze f)] Hp.emp (Is (.tup [.str (gC f.kind f.body).1,.int .i64 (gC f.kind f.body).2])):=
 eW gY E3 [.str (gC f.kind f.body).1,.int .i64 (gC f.kind f.body).2] (.tup _ (by simp;exact⟨.str _,.int _ _⟩)) λR a=>E4 ca rfl _ _ f.kind f.body (λs=>nW s)
  (λs hs=>lU (ML s (by(have:maxLen=9223372036854775807:=by decide);((try simp only[nc] at*);omega))) rfl rfl) _ _ rfl R λb s' x y h he hr=>by obtain⟨rfl,rfl⟩:=h;exact a b s' he hr
def dn(p:Part):Int:=if p.kind=2 then p.text.length else p.n
def lA(l:List Part)(u:Int):Prop:=(∀p∈l,oq p)/\match l with
 |[]=>u=0
 |p::_=>0<=u/\u<dn p
def eU(l:List Part)(u:Int):List fP:=(cm l).drop u.toNat
def eR(l:List Part)(u k:Int):List Part×Int:=match l with
 |[]=>([],u)
 |p::r=>if u+k=dn p then(r,0) else(p::r,u+k)
def chunk(p:Part)(u k:Int):List fP:=if p.kind=2 then((p.text.drop u.toNat).take k.toNat).map .put else List.replicate k.toNat (if p.kind=1 then .keep else .cut)
theorem BZ(p:Part)(h:oq p):((gK p).length:Int)=dn p:=by
 have h1:=gu h;unfold gK dn
 split
 ·simp
 ·split<;>simp<;>omega
theorem size_pos{p:Part}(h:oq p):0<dn p:=by
 have h1:=gu h;unfold dn
 split
 ·have:p.text≠[]:=by rcases h1.2.2.2 with h|h;exact h.2.2;omega
  have:=dQ.2 this;omega
 ·omega
theorem size_le{p:Part}(h:oq p):dn p<=500:=by
 have h1:=gu h;unfold dn
 split<;>omega
theorem gy{p:Part}{r:List Part}{u k:Int}(h:lA (p::r) u)(hk:0<=k/\u+k<=dn p):lA (eR (p::r) u k).1 (eR (p::r) u k).2:=by
 obtain⟨h1,h2⟩:=h;simp only[eR]
 split
 ·refine⟨λq hq=>h1 q (by simp[hq]),?_⟩;cases r with
  |nil=>rfl
  |cons q r=>exact⟨bf _,size_pos (h1 q (by simp))⟩
 ·exact⟨h1,by simp only at h2⊢;omega⟩
theorem ie{p:Part}{r:List Part}{u k:Int}(h:lA (p::r) u)(hk:0<=k/\u+k<=dn p):eU (p::r) u=chunk p u k++eU (eR (p::r) u k).1 (eR (p::r) u k).2:=by
 obtain⟨h1,h2⟩:=h;simp only at h2;have hp:=h1 p (by simp);have hs:=BZ p hp;have e1:eU (p::r) u=(gK p).drop u.toNat++cm r:=by
  unfold eU;simp only[cm];rw[bu qW]
 have e2:(gK p).drop u.toNat=chunk p u k++(gK p).drop (u+k).toNat:=by
  have e3:(gK p).drop (u+k).toNat=((gK p).drop u.toNat).drop k.toNat:=by rw[cU];congr 1;omega
  have e4:chunk p u k=((gK p).drop u.toNat).take k.toNat:=by
   unfold chunk gK
   split
   ·rw[<-eL,<-List.map_take]
   ·rename_i hk2;have hsz:dn p=p.n:=by simp[dn,hk2]
    split
    ·rw[List.drop_replicate,List.take_replicate];congr 1;omega
    ·rw[List.drop_replicate,List.take_replicate];congr 1;omega
  rw[e3,e4,bL]
 have e5:eU (eR (p::r) u k).1 (eR (p::r) u k).2=(gK p).drop (u+k).toNat++cm r:=by
  simp only[eR]
  split
  ·rename_i hh;rw[List.drop_of_length_le qW];simp[eU]
  ·unfold eU;simp only[cm];rw[bu qW]
 rw[e1,e2,e5,aP]
theorem jV{p:Part}{r:List Part}{u k:Int}(h:lA (p::r) u)(hk:0<=k/\u+k<=dn p):(chunk p u k).length=k.toNat:=by
 obtain⟨h1,h2⟩:=h;simp only at h2;unfold chunk
 split
 ·rename_i h3;have:dn p=p.text.length:=by simp[dn,h3]
  simp;omega
 ·simp
def uz(b:Nat)(rows:List (List V))(u:Int):Ob:=⟨some b,210,2,[[.sl false 3 rows,.int .i64 u]]⟩
theorem oT{b:Nat}{l:List Part}{u:Int}:(uz b (l.map a6) u).Fz:=by
 intro r hr v hv;simp only[uz,aw] at hr;subst hr;simp only[ax,aF,bj] at hv
 rcases hv with rfl|rfl
 ·exact .sl _ _ (ff l)
 ·exact .int _ _
theorem rW(b:Nat)(rows:List (List V))(u:Int)(g:Nat->Nat):(uz b rows u).gA g=uz b rows u:=by simp[Ob.gA,uz,V.rl]
theorem QE{P:Program}{f k sz:Nat}{b:Option Nat}{rest:List V}{o:Ob}{v:V}(hs:Spec P f (.ptr 0 b sz 0 0::rest) (b7 [(0,o)]) λx h'=>x=v/\h'=b7 [(0,o)])
  (a:rest.all V.pl=true)(ho:∀g,o.gA g=o)(hz:o.Fz)(hv:∀g,v.gA g=v){h:Hp}{K:V->Hp->Prop}(hk:h k=some o)(hK:K v h):fj P f (.ptr k b sz 0 0::rest) h K:=by
 refine⟨[(0,k)],_,_,v,hs,.cons ?_ (gf a),λj q hj=>?_,λp hp=>?_,by rw[hv];exact hK⟩
 ·have:=Arg.same (h:=h) (m:=[(0,k)]) (.ptr k b sz 0 0);simpa[V.gA,V.rl,gT] using this
 ·simp only[b7] at hj
  split at hj
  ·rename_i h0;exact⟨(0,k),by simp,h0.symm⟩
  ·cases hj
 ·simp only[aw] at hp;subst hp;exact⟨by simp[gI],by simp[gT],o,by simp[b7],by rw[hk,aN,ho],hz⟩
theorem QF{P:Program}{f k sz:Nat}{b:Option Nat}{rest:List V}{o:Ob}{v:V}(hs:Spec P f (.ptr 0 b sz 0 0::rest) (b7 [(0,o)]) λx h'=>x=v/\h'=b7 [(0,o)])
  (a:rest.all V.pl=true)(ho:∀g,o.gA g=o)(hz:o.Fz)(hv:∀g,v.gA g=v){h:Hp}{K:V->Hp->Prop}(hk:h k=some o)(hK:K v (Hp.put h k o)):fa P f (.ptr k b sz 0 0::rest) h K:=by
 refine OP (post:=λx d=>x=v/\d=[(0,o)]) ⟨hs.fn,λC us a1 a2 a3 a4=>(hs.run C us a1 a2 a3 a4).mono ?_⟩ (λx d h=>⟨o,h.2⟩) a ho hz hk ?_
 ·rintro e w' ⟨u,x,h',F',e1,e2,e3,rfl,rfl⟩;exact⟨u,_,_,F',e1,e2,e3,[(0,o)],⟨rfl,rfl⟩,rfl⟩
 ·rintro x o' ⟨rfl,c⟩;simp only[bB,aX,eO,eQ] at c;subst c;rw[hv,ho];exact hK
theorem td{P:Program}{f:Nat}{fn:Func}{ac:AC}{rv:List RV}{args:List V}{o:Ob}{D:Array Oper->List AO->Bool}(b:lH P D)(ok:fo P f fn ac rv args.length D)(v:V)(hv:Fz v)(ho:o.Fz)
  (h:∀R:S->Prop,(∀(s s':S),a7 s s'->m6 s' rv (λx=>nx x=v)->s'.h 0=some o->R s)->fX ca (fa P) (fj P) ac (S0 args (b7 [(0,o)])) R (λ_ _=>False) R):
  Spec P f args (b7 [(0,o)]) (λx h'=>x=v/\h'=b7 [(0,o)]):=by
 have:=fe b ok (L:=[(0,o)]) (λx a=>x=v/\a=[(0,o)]) λR c=>h R λs s' he hr h0=>c s s' v [(0,o)] he hr ⟨h0,trivial⟩ hv (by intro p hp;simp at hp;subst hp;exact ho) ⟨rfl,rfl⟩;refine⟨this.fn,λC us a1 a2 a3 a4=>(this.run C us a1 a2 a3 a4).mono ?_⟩;rintro e w' ⟨u,x,h',F',e1,e2,e3,a,⟨rfl,rfl⟩,rfl⟩;exact⟨u,_,_,F',e1,e2,e3,rfl,rfl⟩
def zM(l:List Part):Int:=match l with
 |[]=>0
 |p::_=>p.kind
def zN:AC:=qr [qz 2 0] (qq (qr [qm 3 0,qn 4 3,qf 5 0 4,ql 6 5,qo 7 (.len false (.t 6)),qc 8 .eql 7 0] (qu 8 (qr [qz 2 0] .ret) .skip)) (qr [qm 9 0,qn 10 9,qf 11 0 10,ql 12 11,qo 13 (.iaddr 3 (.t 12) (qk 0)),qf 14 0 13,ql 15 14,qm 2 15] .ret))
theorem Ij:fo Tryz.prog 122 Tryz.f122 zN [.t 2] 1 eV:=⟨Tryz.func122,by decide+kernel,by kernel_rfl,by kernel_rfl,by decide+kernel⟩
theorem Ik(P:Prim)(hP:P=ca)(T d:cp)(b:Nat)(l:List Part)(u:Int)(rows:List (List V))(dS:rows=l.map a6)(r:Int)(hr:zM l=r)
  (R:S->Prop)(c:∀(s s':S)(q:Int),q=r->a7 s s'->hX [.t 2] [qI q] s'->s'.h 0=some (⟨some b,210,2,[[.sl false 3 rows,qI u]]⟩)->R s):fX P T d zN (S0 [.ptr 0 (some b) 2 0 0] (b7 [(0,⟨some b,210,2,[[.sl false 3 rows,qI u]]⟩)])) R (λ_ _=>False) R:=by
 have hl:P.da rows=(l.length:Int):=by rw[gi hP,dS];simp
 cbv;refine ab (λh=>?_) (λh=>?_)
 ·have h2:P.da rows=0:=na hP h;rw[hl] at h2;have:l=[]:=aq qO;subst this;cbv;exact c _ _ _ hr (a7.refl _) rfl rfl
 ·have h2:¬P.da rows=0:=nd hP h;rw[hl] at h2
  rcases l with _|⟨⟨kd,n,t⟩,l⟩
  ·exact absurd rfl h2
  have a:P.row rows (P.nat 0) [qI kd,qI n,.str t]:=fL hP (i:=0) rfl (by rw[dS];rfl);have ho:P.fQ 0 0:=iQ hP qW;cbv;refine⟨ho,_,a,?_⟩;cbv;exact c _ _ _ hr (a7.refl _) rfl rfl
theorem Il(b:Nat)(l:List Part)(u:Int):Spec Tryz.prog 122 [.ptr 0 (some b) 2 0 0] (b7 [(0,uz b (l.map a6) u)]) (λx h'=>x=qI (zM l)/\h'=b7 [(0,uz b (l.map a6) u)]):=
 td gY Ij _ (.int _ _) oT λR a=>Ik ca rfl _ _ b l u _ rfl _ rfl R λs s' q hq he hr h0=>by subst hq;exact a s s' he (eS _ _ _ (λx hx=>by subst hx;rfl) hr) h0
def zO:AC:=qr [qz 2 0] (qq (qr [qm 3 0,qn 4 3,qf 5 0 4,ql 6 5,qo 7 (.iaddr 3 (.t 6) (qk 0)),qf 8 0 7,ql 9 8,qc 10 .eql 9 2] (qu 10 (qr [qm 11 0,qn 12 11,qf 13 0 12,ql 14 13,qo 15 (.iaddr 3 (.t 14) (qk 0)),qf 16 2 15,ql 17 16,qo 18 (.len true (.t 17)),qm 2 18] .ret) .skip)) (qr [qm 19 0,qn 20 19,qf 21 0 20,ql 22 21,qo 23 (.iaddr 3 (.t 22) (qk 0)),qf 24 1 23,ql 25 24,qm 2 25] .ret))
theorem Im:fo Tryz.prog 147 Tryz.f147 zO [.t 2] 1 eV:=⟨Tryz.func147,by decide+kernel,by kernel_rfl,by kernel_rfl,by decide+kernel⟩
theorem Io(P:Prim)(hP:P=ca)(T d:cp)(b:Nat)(kd n:Int)(t:BS)(l:List Part)(u:Int)(rows:List (List V))(dS:rows=(⟨kd,n,t⟩::l).map a6)(r:Int)(hr:dn ⟨kd,n,t⟩=r)
  (R:S->Prop)(c:∀(s s':S)(q:Int),q=r->a7 s s'->hX [.t 2] [qI q] s'->s'.h 0=some (⟨some b,210,2,[[.sl false 3 rows,qI u]]⟩)->R s):fX P T d zO (S0 [.ptr 0 (some b) 2 0 0] (b7 [(0,⟨some b,210,2,[[.sl false 3 rows,qI u]]⟩)])) R (λ_ _=>False) R:=by
 have a:P.row rows (P.nat 0) [qI kd,qI n,.str t]:=fL hP (i:=0) rfl (by rw[dS];rfl);have ho:P.fQ 0 0:=iQ hP qW;cbv;refine⟨ho,_,a,?_⟩;cbv;refine ab (λh=>?_) (λh=>?_)
 ·have hk:kd=2:=na hP h;cbv;refine⟨ho,_,a,?_⟩;cbv;refine c _ _ _ ?_ (a7.refl _) rfl rfl;show P.eP t=r;rw[eF hP,<-hr,dn,ae hk]
 ·have hk:¬kd=2:=nd hP h;cbv;refine⟨ho,_,a,?_⟩;cbv;refine c _ _ _ ?_ (a7.refl _) rfl rfl;rw[<-hr,dn,aa hk]
theorem Ip(b:Nat)(p:Part)(l:List Part)(u:Int):Spec Tryz.prog 147 [.ptr 0 (some b) 2 0 0] (b7 [(0,uz b ((p::l).map a6) u)]) (λx h'=>x=qI (dn p)/\h'=b7 [(0,uz b ((p::l).map a6) u)]):=
 td gY Im _ (.int _ _) oT λR a=>Io ca rfl _ _ b p.kind p.n p.text l u _ rfl _ rfl R λs s' q hq he hr h0=>by subst hq;exact a s s' he (eS _ _ _ (λx hx=>by subst hx;rfl) hr) h0
def Iq(T:cp)(f:Nat)(pre:List Part->Int->Prop)(r:List Part->Int->Int)(back:Bool):Prop:=∀(k b:Nat)(l:List Part)(u:Int)(rows:List (List V))(h:Hp)(K:V->Hp->Prop),rows=l.map a6->pre l u->h k=some ⟨some b,210,2,[[.sl false 3 rows,qI u]]⟩->
 (∀q:Int,q=r l u->K (qI q) (match back with
  |true=>Hp.put h k ⟨some b,210,2,[[.sl false 3 rows,.int .i64 u]]⟩
  |false=>h))->T f [.ptr k (some b) 2 0 0] h K
theorem WC{f:Nat}{pre:List Part->Int->Prop}{r:List Part->Int->Int}(hs:∀b l u,pre l u->Spec Tryz.prog f [.ptr 0 (some b) 2 0 0] (b7 [(0,uz b (l.map a6) u)]) (λx h'=>x=qI (r l u)/\h'=b7 [(0,uz b (l.map a6) u)])):Iq (fa Tryz.prog) f pre r true:=by
 rintro k b l u rows h K rfl hp hk hK;exact QF (hs b l u hp) rfl (rW _ _ _) oT (λ_=>rfl) hk (hK _ rfl)
theorem X1{f:Nat}{pre:List Part->Int->Prop}{r:List Part->Int->Int}(hs:∀b l u,pre l u->Spec Tryz.prog f [.ptr 0 (some b) 2 0 0] (b7 [(0,uz b (l.map a6) u)]) (λx h'=>x=qI (r l u)/\h'=b7 [(0,uz b (l.map a6) u)])):Iq (fj Tryz.prog) f pre r false:=by
 rintro k b l u rows h K rfl hp hk hK;exact QE (hs b l u hp) rfl (rW _ _ _) oT (λ_=>rfl) hk (hK _ rfl)
def rX(l:List Part):Int:=match l with
 |[]=>0
 |p::_=>dn p
theorem vF:Iq (fj Tryz.prog) 147 (λl _=>l≠[]) (λl _=>rX l) false:=X1 λb l u h=>by
 cases l with
 |nil=>exact absurd rfl h
 |cons p l=>exact Ip b p l u
theorem vG:Iq (fa Tryz.prog) 122 (λ_ _=>True) (λl _=>zM l) true:=WC λb l u _=>Il b l u
def zP:AC:=qr [qz 2 0] (qq (.region true [qm 3 0,qa 4 147 [.t 3],qm 5 0,qn 6 5,qf 7 1 6,ql 8 7,qb 9 .sub 4 8,qm 2 9]) .ret)
theorem Ir:fo Tryz.prog 124 Tryz.f124 zP [.t 2] 1 eV:=⟨Tryz.func124,by decide+kernel,by kernel_rfl,by kernel_rfl,by decide+kernel⟩
theorem It(P:Prim)(hP:P=ca)(T a:cp)(hsz:Iq a 147 (λl _=>l≠[]) (λl _=>rX l) false)(b:Nat)(l:List Part)(u:Int)(hne:l≠[])(hi:iU (rX l-u))(rows:List (List V))(dS:rows=l.map a6)(r:Int)(hr:rX l-u=r)
  (R:S->Prop)(c:∀(s s':S)(q:Int),q=r->a7 s s'->hX [.t 2] [qI q] s'->s'.h 0=some (⟨some b,210,2,[[.sl false 3 rows,qI u]]⟩)->R s):fX P T a zP (S0 [.ptr 0 (some b) 2 0 0] (b7 [(0,⟨some b,210,2,[[.sl false 3 rows,qI u]]⟩)])) R (λ_ _=>False) R:=by
 cbv;refine hsz _ _ _ _ _ _ _ dS hne rfl λq hq=>?_;have ho:P.i64 (P.sub q u):=by rw[sub_eq hP,hq];exact ft hP hi
 cbv;refine⟨ho,?_⟩;refine c _ _ _ ?_ (a7.refl _) rfl rfl;show P.sub q u=r;rw[sub_eq hP,hq,hr]
theorem vH:Iq (fa Tryz.prog) 124 (λl u=>l≠[]/\lA l u) (λl u=>rX l-u) true:=WC λb l u h=>
 td gY Ir _ (.int _ _) oT λR a=>It ca rfl _ _ vF b l u h.1 (by
  obtain⟨h1,h2,h3⟩:=h;cases l with
  |nil=>exact absurd rfl h1
  |cons p l=>
   simp only at h3;have:=size_le (h2 p (by simp));simp only[rX];unfold iU;omega) _ rfl _ rfl R λs s' q hq he hr h0=>by subst hq;exact a s s' he (eS _ _ _ (λx hx=>by subst hx;rfl) hr) h0
def js(l:List Part)(u k:Int):BS:=match l with
 |[]=>[]
 |p::_=>if p.kind=2 then(p.text.drop u.toNat).take k.toNat else[]
def zQ:AC:=qr [qo 4 (.mov (.c qe))] (qr [qo 5 (.mov (.c qe))] (qq (qr [qm 6 0,qn 7 6,qf 8 0 7,ql 9 8,qo 10 (.iaddr 3 (.t 9) (qk 0)),qf 11 0 10,ql 12 11,qc 13 .eql 12 2] (qu 13 (.region true [qm 14 0,qn 15 14,qf 16 0 15,ql 17 16,qo 18 (.iaddr 3 (.t 17) (qk 0)),qf 19 2 18,ql 20 19,qm 21 0,qn 22 21,qf 23 1 22,ql 24 23,qm 25 0,qn 26 25,qf 27 1 26,ql 28 27,qm 29 1,qb 30 .add 28 29,qo 31 (.slstr (.t 20) (some (.t 24)) (some (.t 30))),qm 5 31]) .skip)) (qq (qr [qm 32 0,qn 33 32,qf 34 1 33,ql 35 34,qm 36 1,qb 37 .add 35 36,qn 38 32,qf 39 1 38,qs 1 39 37] (qq (.region true [qm 40 0,qn 41 40,qf 42 1 41,ql 43 42,qm 44 0,qa 45 147 [.t 44],qb 46 .eql 43 45]) (qu 46 (qR [qm 47 0,qm 48 0,qm 49 0,qn 50 49,qf 51 0 50,ql 52 51,qo 53 (.slsl 3 (.t 52) (some (qk 1)) none),qn 54 47,qf 55 0 54,qs 1 55 53,qn 56 48,qf 57 1 56,⟨none,none,.store 1 (.t 57) (qk 0)⟩]) .skip))) (qr [qm 58 5,qm 4 58] .ret))))
theorem Iu:fo Tryz.prog 123 Tryz.f123 zQ [.t 4] 2 eV:=⟨Tryz.func123,by decide+kernel,by kernel_rfl,by kernel_rfl,by decide+kernel⟩
theorem Iv(P:Prim)(hP:P=ca)(T A:cp)(hsz:Iq A 147 (λl _=>l≠[]) (λl _=>rX l) false)(b:Nat)(kd n:Int)(t:BS)(l:List Part)(u k:Int)(iB:lA (⟨kd,n,t⟩::l) u)(hk:0<=k/\u+k<=dn ⟨kd,n,t⟩)(rows:List (List V))(dS:rows=(⟨kd,n,t⟩::l).map a6)
  (s':BS)(hs':s'=js (⟨kd,n,t⟩::l) u k)(rows':List (List V))(p:Int)(a:rows'=(eR (⟨kd,n,t⟩::l) u k).1.map a6)(e:p=(eR (⟨kd,n,t⟩::l) u k).2)
  (R:S->Prop)(r:∀(s s2:S)(q:BS)(gB:List (List V))(B:Int),q=s'->gB=rows'->B=p->a7 s s2->hX [.t 4] [.str q] s2->s2.h 0=some (⟨some b,210,2,[[.sl false 3 gB,qI B]]⟩)->R s):
  fX P T A zQ (S0 [.ptr 0 (some b) 2 0 0,qI k] (b7 [(0,⟨some b,210,2,[[.sl false 3 rows,qI u]]⟩)])) R (λ_ _=>False) R:=by
 have hp:=iB.1 ⟨kd,n,t⟩ (by simp);have v:=iB.2;simp only at v;have D:=size_le hp;have f:P.row rows (P.nat 0) [qI kd,qI n,.str t]:=fL hP (i:=0) rfl (by rw[dS];rfl);have ho:P.fQ 0 0:=iQ hP qW;have g:P.i64 (P.add u k):=by rw[add_eq hP];exact ft hP qW
 have w:P.fQ 0 u:=iQ hP qW;have x:P.fQ u (P.add u k):=yK hP (by rw[add_eq hP];omega);have y:kd=2->P.fQ (P.add u k) (P.eP t):=λh2=>yK hP (by rw[add_eq hP,eF hP];simp[dn,h2] at hk;omega);have j:P.fQ 0 1:=iQ hP qW;have m:P.fQ 1 (P.da rows):=yK hP (by rw[gi hP,dS];simp;omega);have o:P.fQ (P.da rows) (P.da rows):=yK hP (bf _);have es:kd=2->P.sZ t u (P.add u k)=(t.drop u.toNat).take k.toNat:=λh2=>by
  rw[add_eq hP];subst hP;show(t.take (u+k).toNat).drop u.toNat=_;rw[dw,show(u+k).toNat-u.toNat=k.toNat by omega]
 have C:P.pN rows 1 (P.da rows)=l.map a6:=by
  rw[gi hP,dS];subst hP;show(List.take ((_:Nat):Int).toNat _).drop (1:Int).toNat=_;simp[bD]
 cbv;refine⟨ho,_,f,?_⟩;cbv;refine ab (λh=>?_) (λh=>?_)
 ·have hk2:kd=2:=na hP h;have c:s'=P.sZ t u (P.add u k):=by rw[hs',es hk2];simp[js,hk2]
  have z:=y hk2;cbv;refine⟨ho,_,f,?_⟩;cbv;refine⟨g,w,x,z,g,?_⟩;refine hsz _ _ _ _ _ _ _ dS (by simp) rfl λq hq=>?_;have d:q=dn ⟨kd,n,t⟩:=hq;cbv;refine ab (λh=>?_) (λh=>?_)
  ·have h2:P.add u k=q:=na hP h;rw[add_eq hP,d] at h2;cbv;refine⟨j,m,o,?_⟩;refine r _ _ _ _ _ c.symm ?_ ?_ (a7.refl _) rfl rfl
   ·show P.pN rows 1 (P.da rows)=rows';rw[C,a];simp[eR,h2]
   ·rw[e];simp[eR,h2]
  ·have h2:¬P.add u k=q:=nd hP h;rw[add_eq hP,d] at h2;cbv;refine r _ _ _ _ _ c.symm ?_ ?_ (a7.refl _) rfl rfl
   ·rw[a,dS];simp[eR,h2]
   ·show P.add u k=p;rw[add_eq hP,e];simp[eR,h2]
 ·have hk2:¬kd=2:=nd hP h;have c:s'=[]:=by rw[hs'];simp[js,hk2]
  cbv;refine⟨g,?_⟩;refine hsz _ _ _ _ _ _ _ dS (by simp) rfl λq hq=>?_;have d:q=dn ⟨kd,n,t⟩:=hq;cbv;refine ab (λh=>?_) (λh=>?_)
  ·have h2:P.add u k=q:=na hP h;rw[add_eq hP,d] at h2;cbv;refine⟨j,m,o,?_⟩;refine r _ _ _ _ _ c.symm ?_ ?_ (a7.refl _) rfl rfl
   ·show P.pN rows 1 (P.da rows)=rows';rw[C,a];simp[eR,h2]
   ·rw[e];simp[eR,h2]
  ·have h2:¬P.add u k=q:=nd hP h;rw[add_eq hP,d] at h2;cbv;refine r _ _ _ _ _ c.symm ?_ ?_ (a7.refl _) rfl rfl
   ·rw[a,dS];simp[eR,h2]
   ·show P.add u k=p;rw[add_eq hP,e];simp[eR,h2]
theorem Iw(b:Nat)(p:Part)(l:List Part)(u k:Int)(iB:lA (p::l) u)(hk:0<=k/\u+k<=dn p):Spec Tryz.prog 123 [.ptr 0 (some b) 2 0 0,qI k] (b7 [(0,uz b ((p::l).map a6) u)])
  (λv h'=>∃a,(v=.str (js (p::l) u k)/\a=[(0,uz b ((eR (p::l) u k).1.map a6) (eR (p::l) u k).2)])/\h'=b7 a):=
 fe gY Iu (L:=[(0,uz b ((p::l).map a6) u)]) (λv a=>v=.str (js (p::l) u k)/\a=[(0,uz b ((eR (p::l) u k).1.map a6) (eR (p::l) u k).2)]) λR c=>
  Iv ca rfl _ _ vF b p.kind p.n p.text l u k iB hk _ rfl _ rfl _ _ rfl rfl R λs s2 q gB d h1 h2 h3 he hr h0=>by
   subst h1 h2 h3;exact c s s2 (.str (js (p::l) u k)) [(0,uz b ((eR (p::l) u k).1.map a6) (eR (p::l) u k).2)] he (eS _ _ _ (λx hx=>by subst hx;rfl) hr) ⟨h0,trivial⟩ (.str _) (by intro p hp;simp at hp;subst hp;exact oT) ⟨rfl,rfl⟩
def Ix(T:cp):Prop:=∀(k b:Nat)(p:Part)(l:List Part)(u n:Int)(rows:List (List V))(h:Hp)(K:V->Hp->Prop),rows=(p::l).map a6->lA (p::l) u->0<=n/\u+n<=dn p->h k=some ⟨some b,210,2,[[.sl false 3 rows,qI u]]⟩->
 (∀(q:BS)(rows':List (List V))(a:Int),q=js (p::l) u n->rows'=(eR (p::l) u n).1.map a6->a=(eR (p::l) u n).2->K (.str q) (Hp.put h k ⟨some b,210,2,[[.sl false 3 rows',qI a]]⟩))->T 123 [.ptr k (some b) 2 0 0,qI n] h K
theorem O1:Ix (fa Tryz.prog):=by
 rintro k b p l u n rows h K rfl iB hn hk hK;refine OP (Iw b p l u n iB hn) (λv c h=>⟨_,h.2⟩) rfl (rW _ _ _) oT hk ?_;rintro v o' ⟨rfl,a⟩;simp only[bB,aX,eO,eQ] at a;subst a;rw[rW];exact hK _ _ _ rfl rfl rfl
def MT:AC:=qr [qo 2 (.mov (.c (.pointer none)))] (qr [qm 3 0,qo 4 (.build [(.slice none 0 0),q0] [(0,1,(.t 3))]),qo 5 (.box 210 2 (.t 4)),qm 2 5] .ret)
theorem MU:fo Tryz.prog 121 Tryz.f121 MT [.t 2] 1 eV:=⟨Tryz.func121,by decide+kernel,by kernel_rfl,by kernel_rfl,by decide+kernel⟩
theorem MV(d:List Part):Spec Tryz.prog 121 [.sl false 3 (d.map a6)] (b7 []) (λv h'=>∃c,(∃b,v=.ptr 5 (some b) 2 0 0/\c=[(5,uz b (d.map a6) 0)])/\h'=b7 c):=
 fe gY MU (L:=[]) (λv c=>∃b,v=.ptr 5 (some b) 2 0 0/\c=[(5,uz b (d.map a6) 0)]) λR e=>by
  have a:∀b,(uz b (d.map a6) 0).Fz:=λb=>oT;unfold uz at e a
  generalize d.map a6=rows at e a⊢
  cbv;intro β;exact e _ _ (.ptr 5 (some β) 2 0 0) [(5,_)] (a7.refl _) rfl ⟨rfl,trivial⟩ (.ptr _ _ _ _ _) (by intro p hp;simp at hp;subst hp;exact a β) ⟨β,rfl,rfl⟩
def Iy(T:cp):Prop:=∀(k:Nat)(d:List Part)(rows:List (List V))(h:Hp)(K:V->Hp->Prop),rows=d.map a6->Nat.beq k 5=false->h k=none->(∀b:Nat,K (.ptr k (some b) 2 0 0) (Hp.put h k ⟨some b,210,2,[[.sl false 3 rows,qI 0]]⟩))->T 121 [.sl false 3 rows] h K
theorem O2:Iy (fa Tryz.prog):=by
 rintro k d rows h K rfl hne hk hK;refine oe (MV d) (m:=[(5,k)]) (.cons (.same _) .nil) (λj o hj=>by cases hj) (λq hq=>?_) ?_
 ·simp only[aw] at hq;subst hq;exact⟨by simp[gI],by simp[gT],λo ho=>by cases ho⟩
 ·rintro v a ⟨b,rfl,rfl⟩;have e:h.iX [(5,k)] (b7 [(5,uz b (d.map a6) 0)])=Hp.put h k (uz b (d.map a6) 0):=by
   funext i
   by_cases h1:i=k
   ·subst h1;simp[Hp.iX,Hp.put,gT,b7,rW]
   ·have h2:¬k=i:=λe=>h1 e.symm;simp[Hp.iX,Hp.put,h1,h2]
  rw[e];have:(V.ptr 5 (some b) 2 0 0).gA (gI [(5,k)])=.ptr k (some b) 2 0 0:=by simp[V.gA,V.rl,gI]
  rw[this];exact hK b
def kG(tb:Nat->Int)(w:Nat)(q n:Int):Nat->Int:=λj=>if j=2*w then q else if j=2*w+1 then n else tb j
def jv(ba:Option Nat)(rows:List (List V)):Ob:=⟨ba,91,3,rows⟩
def Da:AC:=qr [qo 3 (.box 91 3 (.t 1))] (qq (.region true [qm 4 0,qm 5 0,qn 6 5,qf 7 35 6,ql 8 7,qd 9 3 3,qo 10 (.bslice 91 3 [.t 9]),qo 11 (.append 91 3 40 (.t 8) (.t 10)),qn 12 4,qf 13 35 12,qs 1 13 11]) (.region true [qm 14 0,qf 15 0 3,ql 16 15,qf 17 1 3,ql 18 17,qm 19 0,qn 20 19,qf 21 1 20,ql 22 21,qm 23 0,qn 24 23,qf 25 35 24,ql 26 25,qo 27 (.len false (.t 26)),qb 28 .add 22 27,qo 29 (.build D7 [(0,1,(.t 18)),(1,1,(.t 28))]),qn 30 14,qf 31 19 30,qo 32 (.iarr 8 2 (.t 31) (.t 16)),qs 2 32 29]))
theorem MW:fo Tryz.prog 80 Tryz.f80 Da [] 2 eV:=⟨Tryz.func80,by decide+kernel,by kernel_rfl,by kernel_rfl,by decide+kernel⟩
theorem fW(l:List eX):∀r∈l.map a8,∀v∈r,Fz v:=by
 intro r hr v hv;obtain⟨x,_,rfl⟩:=aC.1 hr;simp[a8] at hv
 rcases hv with rfl|rfl|rfl
 ·exact .int _ _
 ·exact .int _ _
 ·exact .sl _ _ (ff _)
theorem B0(l:List eX):∀r∈l.map a8,r.length=3:=by
 intro r hr;obtain⟨p,_,rfl⟩:=aC.1 hr;rfl
theorem mW(ba:Option Nat)(l:List eX)(f:Nat->Nat):(jv ba (l.map a8)).gA f=jv ba (l.map a8):=by
 simp[Ob.gA,jv,ew,Function.comp_def,a8,fc,V.rl]
def Iz:AC:=qr [qo 2 (.box 91 3 (.t 0)),qo 3 (.box 91 3 (.t 1)),qo 4 (.mov (.c (.bool false)))] (qr [qf 5 0 2,ql 6 5,qf 7 0 3,ql 8 7,qb 9 .eql 6 8,qm 10 9,qg 11 10 true (.faddr 1 (.t 2)),qg 12 10 true (.load1 (.t 11)),qg 13 10 true (.faddr 1 (.t 3)),qg 14 10 true (.load1 (.t 13)),qg 15 10 true (.bin .eql (.t 12) (.t 14)),qo 16 (.pick (.t 10) (.t 15) (.c (.bool false))),qm 17 16,qg 18 17 true (.faddr 2 (.t 2)),qg 19 17 true (.load1 (.t 18)),qg 20 17 true (.faddr 2 (.t 3)),qg 21 17 true (.load1 (.t 20)),qg 22 17 true (.call 67 [.t 19,.t 21]),qo 23 (.pick (.t 17) (.t 22) (.c (.bool false))),qm 4 23] .ret)
theorem QG:fo Tryz.prog 66 Tryz.f66 Iz [.t 4] 2 eV:=⟨Tryz.func66,by decide+kernel,by kernel_rfl,by kernel_rfl,by decide+kernel⟩
theorem QH(P:Prim)(hP:P=ca)(T b:cp)(w q:Int)(dr:List (List V))(h1:fZ T 67 [.sl false 3 dr,.sl false 3 dr] (.bool true))
  (R:S->Prop)(c:∀s s',a7 s s'->hX [.t 4] [.bool true] s'->R s):fX P T b Iz (S0 [.agg [qI w,qI q,.sl false 3 dr],.agg [qI w,qI q,.sl false 3 dr]] Hp.emp) R (λ_ _=>False) R:=by
 cbv;intro β;cbv
 repeat' first|(refine qA ?_;cbv)|(intro a;cbv)
 refine eY (my hP rfl) ?_;cbv
 repeat' first|(refine qA ?_;cbv)|(intro a;cbv)
 refine eY (my hP rfl) ?_;cbv
 repeat' first|(refine qA ?_;cbv)|(intro a;cbv)|(refine h1 _ _ ?_;cbv)|fail
 exact c _ _ (a7.refl _) rfl
theorem QI(r:eX)(hr:r.delta.length<=10000000):Spec Tryz.prog 66 [.agg (a8 r),.agg (a8 r)] Hp.emp (Is (.bool true)):=
 eW gY QG [.bool true] (.bool _) λR a=>QH ca rfl _ _ r.who r.seq (r.delta.map a6) (s8 r.delta hr) R a
def IA:AC:=qr [qo 6 (.mov (.c (.bool false)))] (qq (qr [qm 10 0,qo 11 (.len false (.t 10)),qm 12 1,qo 13 (.len false (.t 12)),qb 14 .neq 11 13] (qu 14 (qr [qo 6 (.mov (.c (.bool false)))] .ret) .skip)) (qq (qr [qm 15 0,qo 16 (.len false (.t 15)),qz 17 0] (.block 0 (.loop (qr [qb 18 .lss 17 16] (qq (qu 18 .skip (.exit 0)) (qq (.block 1 (qr [qm 19 17,qo 20 (.iaddr 3 (.t 15) (.t 17)),qd 21 3 20,qo 8 (.alloc 91 F4),qm 7 19,qs 3 8 21] (qr [qm 22 1,qm 23 7,qo 24 (.iaddr 3 (.t 22) (.t 23)),qd 25 3 24,qo 9 (.alloc 91 F4),qs 3 9 25] (qr [qm 26 2,qd 27 3 8,qd 28 3 9,qo 29 (.callv (.t 26) [.t 27,.t 28]),qo 30 (.not (.t 29))] (qu 30 (qr [qo 6 (.mov (.c (.bool false)))] .ret) .skip))))) (qR [qc 31 .add 17 1,qm 17 31]))))))) (qr [qo 6 (.mov (.c (.bool true)))] .ret)))
theorem QJ:fo Tryz.prog 65 Tryz.f65 IA [.t 6] 3 eV:=⟨Tryz.func65,by decide+kernel,by kernel_rfl,by kernel_rfl,by decide+kernel⟩
structure X2(rows:List (List V)) where
 k:Int
 m:Nat
 hk:k=(m:Int)
 hm:m<=rows.length
theorem QK(P:Prim)(hP:P=ca)(T g:cp)(f:Nat)(rows:List (List V))(hl:rows.length<=10000000)(hf:∀r∈rows,∃a b dr,r=[qI a,qI b,.sl false 3 dr]/\fZ T f [.agg [qI a,qI b,.sl false 3 dr],.agg [qI a,qI b,.sl false 3 dr]] (.bool true))
  (R:S->Prop)(i:∀s s',a7 s s'->hX [.t 6] [.bool true] s'->R s):fX P T g IA (S0 [.sl true 3 rows,.sl true 3 rows,.fn f []] Hp.emp) R (λ_ _=>False) R:=by
 have h1:P.da rows=(rows.length:Int):=gi hP rows;cbv;refine fv (EG hP rfl) ?_;cbv;refine⟨X2 rows,λy=>[(1,.sl true 3 rows),(2,.fn f []),(15,.sl true 3 rows),(16,qI (P.da rows)),(17,qI y.k)],λ_=>[],λy=>rows.length-y.m,
  ⟨_,a7.refl _,⟨0,0,rfl,bd _⟩,⟨rfl,rfl,rfl,rfl,rfl,trivial⟩,trivial⟩,?_⟩
 rintro⟨k,m,hk,hm⟩;cbv;refine ab (λh=>?_) (λh=>?_)
 ·have h5:k<P.da rows:=fA hP h;rw[h1] at h5;have d:m<rows.length:=by((try simp only[nc] at*);omega)
  obtain⟨r,hr⟩:∃r,rows[m]? =some r:=⟨_,af d⟩;obtain⟨a,b,dr,rfl,hx⟩:=hf r (az hr);have c:P.row rows (P.nat k) [qI a,qI b,.sl false 3 dr]:=fL hP hk hr;have q1:P.fQ 0 k:=iQ hP qO;have q2:P.i64 (P.add k 1):=by rw[add_eq hP];exact ft hP qO
  have j:P.add k 1=((m+1:Nat):Int):=by rw[add_eq hP,hk];simp
  cbv
  repeat' first|(refine qA ?_;cbv)|(intro e;cbv)
  refine⟨_,c,?_⟩;cbv
  repeat' first|(refine qA ?_;cbv)|(intro e;cbv)
  refine⟨_,c,?_⟩;cbv
  repeat' first|(refine qA ?_;cbv)|(intro e;cbv)|(refine hx _ _ ?_;cbv)|fail
  refine⟨_,a7.refl _,⟨_,m+1,j,d⟩,⟨rfl,rfl,rfl,rfl,rfl,trivial⟩,trivial,?_⟩;show rows.length-(m+1)<rows.length-m;omega
 ·cbv;exact i _ _ (a7.refl _) rfl
theorem QL(l:List eX)(hl:l.length<=10000000)(hd:∀r∈l,r.delta.length<=10000000):Spec Tryz.prog 65 [.sl true 3 (l.map a8),.sl true 3 (l.map a8),.fn 66 []] Hp.emp (Is (.bool true)):=
 eW gY QJ [.bool true] (.bool _) λR a=>QK ca rfl _ _ 66 (l.map a8) (by simpa using hl) (λx hx=>by
  obtain⟨r,h1,rfl⟩:=aC.1 hx;exact⟨_,_,_,rfl,fU (QI r (hd r h1)) (λ_=>.cons (.same _) (.cons (.same _) .nil)) rfl⟩) R a
def IB:AC:=qr [qo 4 (.mov (.c (.bool false)))] (qr [qm 5 0,qm 6 1,qa 7 65 [.t 5,.t 6,(.c (.func (.func 66) #[] #[]))],qm 4 7] .ret)
theorem QM:fo Tryz.prog 20 Tryz.f20 IB [.t 4] 2 eV:=⟨Tryz.func20,by decide+kernel,by kernel_rfl,by kernel_rfl,by decide+kernel⟩
theorem QN(P:Prim)(hP:P=ca)(T a:cp)(rows:List (List V))(h1:fZ T 65 [.sl true 3 rows,.sl true 3 rows,.fn 66 []] (.bool true))
  (R:S->Prop)(b:∀s s',a7 s s'->hX [.t 4] [.bool true] s'->R s):fX P T a IB (S0 [.sl true 3 rows,.sl true 3 rows] Hp.emp) R (λ_ _=>False) R:=by
 cbv;refine h1 _ _ ?_;cbv;exact b _ _ (a7.refl _) rfl
theorem IC{h:Hp}(f:Nat):Arg h [] (.fn f []) (.fn f []):=.same (.fn f [])
theorem QO(l:List eX)(hl:l.length<=10000000)(hd:∀r∈l,r.delta.length<=10000000):Spec Tryz.prog 20 [.sl true 3 (l.map a8),.sl true 3 (l.map a8)] Hp.emp (Is (.bool true)):=
 eW gY QM [.bool true] (.bool _) λR a=>QN ca rfl _ _ (l.map a8) (fU (QL l hl hd) (λ_=>.cons (.same _) (.cons (.same _) (.cons (IC _) .nil))) rfl) R a
structure ID where
 gen:Int
 base:Int
 text:BS
 first:Nat->Int
 table:Nat->Int
 IE:List eX
 whole:Bool
 wI:Int
def WD(a:Nat)(h:Hp)(rows:List (List V))(v:V)(x:Int):Prop:=(v=.nilsl/\rows=[]/\x≠0)\/∃β n,v=.own a β 3 n/\h a=some ⟨β,91,3,rows⟩/\n=rows.length
theorem WD.fr{a:Nat}{h:Hp}{l:List eX}{v:V}{x:Int}(hv:WD a h (l.map a8) v x):Fr h v (.sl false 3 (l.map a8)):=by
 rcases hv with⟨rfl,h0,_⟩|⟨β,n,rfl,h1,h2⟩
 ·rw[h0];exact .nilsl 3
 ·exact .rows h1 rfl rfl h2.symm (B0 _) (fW _)
theorem yb{h:Hp}{m:List (Nat×Nat)}:∀{l l':List V},k6 h m l l'->l.length=l'.length/\∀(i:Nat)(v v':V),l[i]? =some v->l'[i]? =some v'->Arg h m v v'
 |_,_,.nil=>⟨rfl,λi v v' h1=>by cases h1⟩
 |_,_,.cons a b=>by
  obtain⟨h1,h2⟩:=yb b;refine⟨by simp[h1],λi v v' g1 g2=>?_⟩;cases i with
  |zero=>
   simp only[bq,aH] at g1 g2;subst g1 g2;exact a
  |succ i=>simp only[dp] at g1 g2;exact h2 i v v' g1 g2
theorem rY{b:Int}{tb:Nat->Int}{n:Nat}{sz:Int}{r:eX}(h:gL b tb n sz r=0):iH r=0/\n<64:=by
 unfold gL at h
 by_cases h1:iH r≠0
 ·rw[ae h1] at h;exact absurd h h1
 ·rw[aa h1] at h;refine⟨aG h1,?_⟩
  split at h
  ·exact absurd h qD
  ·split at h
   ·exact absurd h qD
   ·omega
end Go.Proofs.YtobngncjflogcaaGreat.AM
