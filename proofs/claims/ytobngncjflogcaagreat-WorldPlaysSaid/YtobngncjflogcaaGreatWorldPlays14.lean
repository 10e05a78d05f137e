/-
  Part 15 of what the law WorldPlays reaches: the plain machine, contracts of the functions and plain laws; each lemma says its own condition.
-/
import Derived.Test.YtobngncjflogcaaGreatWorldPlays13
import Derived.Test.YtobngncjflogcaaGreatWorldPlays7
import Derived.Test.YtobngncjflogcaaGreatWorldPlays8
import Derived.Test.YtobngncjflogcaaGreatWorldPlays11
import Derived.Test.YtobngncjflogcaaGreatWorldPlays5
import Derived.Test.YtobngncjflogcaaGreatWorldPlays12
set_option linter.unusedVariables false
set_option linter.unusedSimpArgs false
namespace Go.Proofs.YtobngncjflogcaaGreat.AM
open Go
set_option maxRecDepth 100000
set_option maxHeartbeats 2000000
def Sr(d:List Part):Prop:=d.length<=1600/\∀p∈d,0<=p.n/\p.n<=500/\p.text.length<=500
theorem vT(p q:BS):cm [⟨2,0,p⟩,⟨1,(q.length:Int),[]⟩]=p.map .put++List.replicate q.length .keep:=by simp[cm,gK]
theorem tT(p q:BS):cm [⟨1,(p.length:Int),[]⟩,⟨2,0,q⟩]=List.replicate p.length .keep++q.map .put:=by simp[cm,gK]
def ov(l:List Part)(p q:BS):List Part:=l++[⟨2,0,p⟩,⟨1,(q.length:Int),[]⟩]
def ow(l:List Part)(p q:BS):List Part:=l++[⟨1,(p.length:Int),[]⟩,⟨2,0,q⟩]
def ox(l:List Part)(m k:Bool):List Part:=if m then l++[⟨if k then 1 else 3,1,[]⟩] else l
theorem Aq(ts:List fP):∀p∈e9 ts,p.length<=fi ts:=by
 have key:(e9 ts).flatten.length<=fi ts:=by
  induction ts with
  |nil=>simp[e9,fi]
  |cons t ts ih=>
   cases t
   ·simp[e9,fi] at*;omega
   ·obtain⟨p,r,h⟩:=nS ts;rw[h] at ih;simp[e9,h,gx,fi] at*;omega
   ·simp[e9,fi] at*;omega
 intro p hp;have:p.length<=(e9 ts).flatten.length:=by
  obtain⟨a,b,c⟩:=di hp;rw[c];simp;omega
 omega
def Ar:AC:=qr [qo 4 (.mov (.c (.slice none 0 0))),qo 5 (.mov (.c (.slice none 0 0))),qz 6 0] (qq (qr [qm 20 0,qm 21 1,qo 22 (.bslice 30 1 [.t 20,.t 21]),qo 23 (.len false (.t 22)),qz 24 0] (.block 0 (.loop (qr [qb 25 .lss 24 23] (qq (qu 25 .skip (.exit 0)) (qq (.block 1 (qr [qo 26 (.iaddr 1 (.t 22) (.t 24)),ql 27 26,qm 8 27] (qr [qm 28 8,qa 29 89 [.t 28],qm 9 29] (qr [qm 30 9,qc 31 .neq 30 0] (qu 31 (qr [qm 32 9,qo 4 (.mov (.c (.slice none 0 0))),qo 5 (.mov (.c (.slice none 0 0))),qm 6 32] .ret) .skip))))) (qR [qc 33 .add 24 1,qm 24 33]))))))) (qq (qr [qm 34 0,qa 35 90 [.t 34],qm 36 1,qa 37 90 [.t 36],qb 38 .neq 35 37] (qu 38 (qr [qo 4 (.mov (.c (.slice none 0 0))),qo 5 (.mov (.c (.slice none 0 0))),qz 6 4] .ret) .skip)) (qr [qm 39 0,qa 40 83 [.t 39],qm 41 1,qa 42 83 [.t 41],qo 10 (.alloc 139 PI),qo 11 (.alloc 139 PI),qs 2 10 40,qs 2 11 42] (qr [qo 12 (.mov (.c (.slice none 0 0))),qo 13 (.mov (.c (.slice none 0 0)))] (qq (qr [qf 43 0 10,ql 44 43,qo 45 (.len false (.t 44)),qz 46 0] (.block 2 (.loop (qr [qb 47 .lss 46 45] (qq (qu 47 .skip (.exit 2)) (qq (.block 3 (qr [qm 48 46,qm 14 48] (qq (.region true [qm 49 12,qf 50 0 10,ql 51 50,qm 52 14,qo 53 (.iaddr 1 (.t 51) (.t 52)),ql 54 53,qo 55 (.build wj [(0,1,qk 2),(2,1,(.t 54))]),qf 56 0 11,ql 57 56,qm 58 14,qo 59 (.iaddr 1 (.t 57) (.t 58)),ql 60 59,qo 61 (.len true (.t 60)),qo 62 (.build wj [(0,1,qk 1),(1,1,(.t 61))]),qo 63 (.bslice 115 3 [.t 55,.t 62]),qo 64 (.append 115 3 32 (.t 49) (.t 63)),qm 12 64]) (qq (.region true [qm 65 13,qf 66 0 10,ql 67 66,qm 68 14,qo 69 (.iaddr 1 (.t 67) (.t 68)),ql 70 69,qo 71 (.len true (.t 70)),qo 72 (.build wj [(0,1,qk 1),(1,1,(.t 71))]),qf 73 0 11,ql 74 73,qm 75 14,qo 76 (.iaddr 1 (.t 74) (.t 75)),ql 77 76,qo 78 (.build wj [(0,1,qk 2),(2,1,(.t 77))]),qo 79 (.bslice 115 3 [.t 72,.t 78]),qo 80 (.append 115 3 32 (.t 65) (.t 79)),qm 13 80]) (qq (qr [qm 81 14,qf 82 1 10,ql 83 82,qo 84 (.len false (.t 83)),qb 85 .eql 81 84] (qu 85 (.exit 2) .skip)) (qq (qr [qf 86 1 11,ql 87 86,qm 88 14,qo 89 (.iaddr 1 (.t 87) (.t 88)),ql 90 89] (qu 90 (qR [qm 91 12,qf 92 1 10,ql 93 92,qm 94 14,qo 95 (.iaddr 1 (.t 93) (.t 94)),ql 96 95,qa 97 131 [.t 96],qo 98 (.bin .mul (qk 2) (.t 97)),qo 99 (.bin .sub (qk 3) (.t 98)),qo 100 (.build wj [(0,1,(.t 99)),(1,1,qk 1)]),qo 101 (.bslice 115 3 [.t 100]),qo 102 (.append 115 3 32 (.t 91) (.t 101)),qm 12 102]) .skip)) (qr [qf 103 1 10,ql 104 103,qm 105 14,qo 106 (.iaddr 1 (.t 104) (.t 105)),ql 107 106] (qu 107 (qR [qm 108 13,qf 109 1 11,ql 110 109,qm 111 14,qo 112 (.iaddr 1 (.t 110) (.t 111)),ql 113 112,qa 114 131 [.t 113],qo 115 (.bin .mul (qk 2) (.t 114)),qo 116 (.bin .sub (qk 3) (.t 115)),qo 117 (.build wj [(0,1,(.t 116)),(1,1,qk 1)]),qo 118 (.bslice 115 3 [.t 117]),qo 119 (.append 115 3 32 (.t 108) (.t 118)),qm 13 119]) .skip)))))))) (qR [qc 120 .add 46 1,qm 46 120]))))))) (qr [qm 121 12,qa 122 83 [.t 121],qa 123 132 [.t 122],qm 124 13,qa 125 83 [.t 124],qa 126 132 [.t 125],qm 15 123,qm 16 126] (qq (qr [qm 127 15,qm 128 16,qo 129 (.bslice 30 1 [.t 127,.t 128]),qo 130 (.len false (.t 129)),qz 131 0] (.block 4 (.loop (qr [qb 132 .lss 131 130] (qq (qu 132 .skip (.exit 4)) (qq (.block 5 (qr [qo 133 (.iaddr 1 (.t 129) (.t 131)),ql 134 133,qm 18 134] (qr [qm 135 18,qa 136 89 [.t 135],qm 19 136] (qr [qm 137 19,qc 138 .neq 137 0] (qu 138 (qr [qm 139 19,qo 4 (.mov (.c (.slice none 0 0))),qo 5 (.mov (.c (.slice none 0 0))),qm 6 139] .ret) .skip))))) (qR [qc 140 .add 131 1,qm 131 140]))))))) (qr [qm 141 15,qm 142 16,qm 4 141,qm 5 142,qz 6 0] .ret))))))))
theorem As:fo Tryz.prog 91 Tryz.f91 Ar [.t 4,.t 5,.t 6] 2 eV:=⟨Tryz.func91,by decide+kernel,by kernel_rfl,by kernel_rfl,by decide+kernel⟩
structure WL where
 k:Int
 h0:k=0\/k=1\/k=2
structure Ym(ps qs:List BS)(ks ms:List Bool) where
 i:Nat
 k:Int
 p1:List BS
 r1:List BS
 p2:List BS
 r2:List BS
 k1:List Bool
 s1:List Bool
 k2:List Bool
 s2:List Bool
 l:List Part
 r:List Part
 nl:Nat
 nr:Nat
 rl:List (List V)
 rr:List (List V)
 bl:Option Nat
 br:Option Nat
 h1:ps=p1++r1/\p1.length=i
 h2:qs=p2++r2/\p2.length=i
 h3:ks=k1++s1/\k1.length=i
 h4:ms=k2++s2/\k2.length=i
 hk:k=(i:Int)
 yJ:rl=l.map a6/\nl=l.length
 ko:rr=r.map a6/\nr=r.length
 hl:l.length<=3*i/\∀p∈l,0<=p.n/\p.n<=500/\p.text.length<=500
 hr:r.length<=3*i/\∀p∈r,0<=p.n/\p.n<=500/\p.text.length<=500
 zw:(ib ps ks qs ms).1=cm l++(ib r1 s1 r2 s2).1
 q7:(ib ps ks qs ms).2=cm r++(ib r1 s1 r2 s2).2
theorem Au(P:Prim)(hP:P=ca)(T T1:cp)(ra rb:List (List V))(c1 v i1 i2 e3 e4:Int)(ps qs:List BS)(ks ms:List Bool)(FP:ps.length=ks.length+1)(WM:qs.length=ks.length+1)(WN:ms.length=ks.length)(BB:ks.length<=500)(PN:∀p∈ps,p.length<=500)(Ty:∀p∈qs,p.length<=500)
  (xp xk yp yk:List (List V))(Pg:xp=ds ps)(UX:xk=fp ks)(hyp:yp=ds qs)(VH:yk=fp ms)(pv:List Part->V)(rc rd:List (List V))
  (WO:fZ T 89 [.sl false 3 ra] (qI c1))(WR:fZ T 89 [.sl false 3 rb] (qI v))
  (VQ:c1=0->fZ T 90 [.sl false 3 ra] (qI i1))(hi2:v=0->fZ T 90 [.sl false 3 rb] (qI i2))
  (Q:c1=0->v=0->i1=i2->fZ T 83 [.sl false 3 ra] (.agg [.sl false 1 xp,.sl false 1 xk]))(U:c1=0->v=0->i1=i2->fZ T 83 [.sl false 3 rb] (.agg [.sl false 1 yp,.sl false 1 yk]))
  (fB:Bool->Int)(WT:∀k,fB k=Fh k)(w:∀k:Bool,fZ T 131 [.bool k] (qI (fB k)))
  (W:∀(d:List Part)(h:Hp)(K:V->Hp->Prop)(k:Nat)(b:Option Nat)(n:Nat)(rs:List (List V)),Sr d->rs=d.map a6->n=rs.length->h k=some ⟨b,115,3,rs⟩->K (pv d) h->T 83 [.own k b 3 n] h K)
  (U6:∀(d:List Part),Sr d->∀r,(c1=0->v=0->i1=i2->(cm d=(ib ps ks qs ms).1/\r=rc)\/(cm d=(ib ps ks qs ms).2/\r=rd))->c1=0->v=0->i1=i2->fZ T 132 [pv d] (.sl false 3 r))
  (VR:c1=0->v=0->i1=i2->fZ T 89 [.sl false 3 rc] (qI e3))(VS:c1=0->v=0->i1=i2->fZ T 89 [.sl false 3 rd] (qI e4))
  (H I:List (List V))(e:Int)(b1:c1≠0->H=[]/\I=[]/\c1=e)(b2:c1=0->v≠0->H=[]/\I=[]/\v=e)(b3:c1=0->v=0->i1≠i2->H=[]/\I=[]/\4=e)
  (b4:c1=0->v=0->i1=i2->e3≠0->H=[]/\I=[]/\e3=e)(b5:c1=0->v=0->i1=i2->e3=0->e4≠0->H=[]/\I=[]/\e4=e)(b6:c1=0->v=0->i1=i2->e3=0->e4=0->rc=H/\rd=I/\0=e)
  (R:S->Prop)(hR:Ca [.t 4,.t 5,.t 6] H I e R):fX P T T1 Ar (S0 [.sl false 3 ra,.sl false 3 rb] Hp.emp) R (λ_ _=>False) R:=by
 have Yn:P.da xp=(ps.length:Int):=by rw[gi hP,Pg];simp[ds]
 have WU:P.da xk=(ks.length:Int):=by rw[gi hP,UX];simp[fp]
 have j:P.int 2=2:=by rw[int_eq hP];rfl
 cbv;intro TL;cbv;refine⟨{y:WL//(y.k≠0->c1=0)/\(y.k=2->v=0)},λy=>[(0,.sl false 3 ra),(1,.sl false 3 rb),(22,.own 1000022 (some TL) 1 2),(23,qI (P.int 2)),(24,qI y.1.k)],
  λy=>[(1000022,⟨some TL,30,1,[[.sl false 3 ra],[.sl false 3 rb]]⟩)],λy=>(2-y.1.k).toNat,
  ⟨_,a7.refl _,⟨⟨0,.inl rfl⟩,λh=>absurd rfl h,λh=>by cases h⟩,⟨rfl,rfl,rfl,rfl,rfl,trivial⟩,⟨rfl,trivial⟩⟩,?_⟩
 rintro⟨⟨k,hk⟩,J,hk2⟩;simp only[] at J hk2;have f:P.fQ 0 k:=iQ hP qW;cbv;refine ab (λh=>?_) (λh=>?_)
 ·have h2:k<P.int 2:=fA hP h;rw[j] at h2;have A:P.iw k (P.int 2):=kZ hP (by rw[j];exact h2);have X:P.i64 (P.add k 1):=by rw[add_eq hP];exact ft hP qW
  clear VQ hi2 Q U W U6 VR VS w
  by_cases L:k=0
  ·have g:P.row [[.sl false 3 ra],[.sl false 3 rb]] (P.nat k) [.sl false 3 ra]:=fL hP (i:=0) L rfl;cbv;refine⟨f,A,_,g,?_⟩;cbv;refine WO _ _ ?_;cbv;refine ab (λh=>?_) (λh=>?_)
   ·have hc:c1≠0:=fE hP h;cbv;exact hR.1 _ _ _ (a7.refl _) rfl (b1 hc)
   ·have hc:c1=0:=fD hP h;cbv;refine⟨X,?_⟩;have e1:P.add k 1=1:=by rw[add_eq hP,L];rfl
    refine⟨_,a7.refl _,⟨⟨_,.inr (.inl e1)⟩,λ_=>hc,λh=>?_⟩,⟨rfl,rfl,rfl,rfl,rfl,trivial⟩,⟨rfl,trivial⟩,?_⟩
    ·have h:P.add k 1=2:=h;omega
    ·show(2-P.add k 1).toNat<(2-k).toNat;omega
  ·have B:k=1:=by omega
   have hc1:=J L;have g:P.row [[.sl false 3 ra],[.sl false 3 rb]] (P.nat k) [.sl false 3 rb]:=fL hP (i:=1) B rfl;cbv;refine⟨f,A,_,g,?_⟩;cbv;refine WR _ _ ?_;cbv;refine ab (λh=>?_) (λh=>?_)
   ·have hc:v≠0:=fE hP h;cbv;exact hR.1 _ _ _ (a7.refl _) rfl (b2 hc1 hc)
   ·have hc:v=0:=fD hP h;cbv;refine⟨X,?_⟩;have e1:P.add k 1=2:=by rw[add_eq hP,B];rfl
    refine⟨_,a7.refl _,⟨⟨_,.inr (.inr e1)⟩,λ_=>hc1,λ_=>hc⟩,⟨rfl,rfl,rfl,rfl,rfl,trivial⟩,⟨rfl,trivial⟩,?_⟩;show(2-P.add k 1).toNat<(2-k).toNat;omega
 have h2:¬k<P.int 2:=fg hP h;rw[j] at h2;have Y:k=2:=by omega
 have hc1:=J qW;have a:=hk2 Y;have f1:=VQ hc1;have f2:=hi2 a
 replace b3:=b3 hc1 a
 replace b4:=b4 hc1 a
 replace b5:=b5 hc1 a
 replace b6:=b6 hc1 a
 clear VQ hi2 WO WR b1 b2 f h;cbv;refine f1 _ _ ?_;cbv;refine f2 _ _ ?_;clear f1 f2;cbv;refine ab (λh=>?_) (λh=>?_)
 ·have hc:i1≠i2:=fE hP h;cbv;exact hR.1 _ _ _ (a7.refl _) rfl (b3 hc)
 have s:i1=i2:=fD hP h;clear b3 h
 replace b4:=b4 s
 replace b5:=b5 s
 replace b6:=b6 s
 have f1:=Q hc1 a s;have f2:=U hc1 a s;have f3:=VR hc1 a s;have f4:=VS hc1 a s;have Z:∀(d:List Part),Sr d->cm d=(ib ps ks qs ms).1->fZ T 132 [pv d] (.sl false 3 rc):=λd hd ht=>U6 d hd rc (λ_ _ _=>.inl ⟨ht,rfl⟩) hc1 a s;have Rw:∀(d:List Part),Sr d->cm d=(ib ps ks qs ms).2->fZ T 132 [pv d] (.sl false 3 rd):=λd hd ht=>U6 d hd rd (λ_ _ _=>.inr ⟨ht,rfl⟩) hc1 a s;clear Q U VR VS U6;cbv;refine f1 _ _ ?_;cbv;refine f2 _ _ ?_;clear f1 f2;cbv;intro TM;cbv;intro TN;cbv;refine⟨Ym ps qs ks ms,λy=>[(10,.ptr 10 (some TM) 2 0 0),(11,.ptr 11 (some TN) 2 0 0),(12,.own 1000064 y.bl 3 y.nl),(13,.own 1000080 y.br 3 y.nr),(45,qI (P.da xp)),(46,qI y.k)],
  λy=>[(10,⟨some TM,139,2,[[.sl false 1 xp,.sl false 1 xk]]⟩),(11,⟨some TN,139,2,[[.sl false 1 yp,.sl false 1 yk]]⟩),(1000064,⟨y.bl,115,3,y.rl⟩),(1000080,⟨y.br,115,3,y.rr⟩)],λy=>y.r1.length,
  ⟨_,a7.trans (a7.nil (i:=12) (k:=1000064) (ty:=115) (sz:=3) rfl rfl) (a7.nil (i:=13) (k:=1000080) (ty:=115) (sz:=3) rfl rfl),
   ⟨0,0,[],ps,[],qs,[],ks,[],ms,[],[],_,_,_,_,_,_,⟨rfl,rfl⟩,⟨rfl,rfl⟩,⟨rfl,rfl⟩,⟨rfl,rfl⟩,rfl,⟨rfl,rfl⟩,⟨rfl,rfl⟩,⟨by simp,by simp⟩,⟨by simp,by simp⟩,rfl,rfl⟩,⟨rfl,rfl,rfl,rfl,rfl,rfl,trivial⟩,⟨rfl,rfl,rfl,rfl,trivial⟩⟩,?_⟩
 rintro⟨i,k,p1,r1,p2,r2,k1,s1,U7,s2,l,r,nl,nr,rl,rr,bl,Zs,⟨h1,TO⟩,⟨M,TP⟩,⟨h3,TR⟩,⟨h4,TS⟩,TT,⟨yJ,VT⟩,⟨ko,VU⟩,⟨OM,Re⟩,⟨hr1,Ph⟩,zw,q7⟩;have Yo:r1.length=s1.length+1:=by rw[h1,h3] at FP;simp at FP;omega
 have Yp:r2.length=s1.length+1:=by rw[M,h3] at WM;simp at WM;omega
 have Yq:s2.length=s1.length:=by rw[h3,h4] at WN;simp at WN;omega
 have Yr:i+s1.length=ks.length:=by rw[h3];simp;omega
 rcases r1 with _|⟨p,r1⟩
 ·simp at Yo
 rcases r2 with _|⟨q,r2⟩
 ·simp at Yp
 have hpl:p.length<=500:=PN p (by rw[h1];simp);have G6:q.length<=500:=Ty q (by rw[M];simp);have WV:P.row xp (P.nat k) [.str p]:=fL hP TT (by rw[Pg,ds,av,h1,<-TO];simp);have WW:P.row yp (P.nat k) [.str q]:=fL hP TT (by rw[hyp,ds,av,M,<-TP];simp);have f:P.fQ 0 k:=iQ hP qW;have A:P.i64 (P.add k 1):=by rw[add_eq hP];exact ft hP qW
 have a1:P.oc rl nl:=by subst hP;show rl.length=nl;rw[yJ,VT];simp
 have a2:P.oc rr nr:=by subst hP;show rr.length=nr;rw[ko,VU];simp
 have a3:∀x y,P.bytes (P.add (P.int nl) (P.da [x,y])) 32:=by intro x y;subst hP;show((nl:Int)+2)*32<=_;omega
 have a4:∀x y,P.bytes (P.add (P.int nr) (P.da [x,y])) 32:=by intro x y;subst hP;show((nr:Int)+2)*32<=_;omega
 have a5:∀x y,P.oc [x,y] 2:=by intro x y;subst hP;rfl
 have Rx:Sr (ov l p q):=by
  refine⟨by simp[ov];omega,λx hx=>?_⟩;simp only[ov,aU,ax,aF,bj] at hx
  rcases hx with hx|rfl|rfl
  ·exact Re x hx
  ·simp;omega
  ·simp;omega
 have Ry:Sr (ow r p q):=by
  refine⟨by simp[ow];omega,λx hx=>?_⟩;simp only[ow,aU,ax,aF,bj] at hx
  rcases hx with hx|rfl|rfl
  ·exact Ph x hx
  ·simp;omega
  ·simp;omega
 have O:P.je rl [[qI 2,qI 0,.str p],[qI 1,qI (P.eP q),.str []]]=(ov l p q).map a6:=by
  rw[yJ];subst hP;simp[ca,ov,a6]
 have o:P.je rr [[qI 1,qI (P.eP p),.str []],[qI 2,qI 0,.str q]]=(ow r p q).map a6:=by
  rw[ko];subst hP;simp[ca,ow,a6]
 have TU:∀x y,P.jf nl (P.gp [x,y])=(ov l p q).length:=by intro x y;subst hP;simp[ca,ov,VT]
 have TV:∀x y,P.jf nr (P.gp [x,y])=(ow r p q).length:=by intro x y;subst hP;simp[ca,ow,VU]
 cbv;refine ab (λh=>?_) (λh=>?_)
 rotate_left
 ·exfalso
  have h5:¬k<P.da xp:=fg hP h;rw[Yn] at h5;rw[h1] at h5;simp at h5
  ((try simp only[nc] at*);omega)
 cbv
 repeat' first|(refine And.intro (by assumption) ?_;cbv)|(refine And.intro (a5 _ _) ?_;cbv)|(refine And.intro (a3 _ _) ?_;cbv)|(refine And.intro (a4 _ _) ?_;cbv)|(intro β;cbv)|(refine Exists.intro _ (And.intro (by assumption) ?_);cbv)
 refine ab (λh=>?_) (λh=>?_)
 ·have h5:k=P.da xk:=na hP h;rw[WU] at h5;have hs1:s1=[]:=aq qO;have hs2:s2=[]:=aq qO;subst hs1 hs2;have t1:cm (ov l p q)=(ib ps ks qs ms).1:=by rw[zw,ov,iO,vT];simp[ib]
  have t2:cm (ow r p q)=(ib ps ks qs ms).2:=by rw[q7,ow,iO,tT];simp[ib]
  have g1:=Z _ Rx t1;have g2:=Rw _ Ry t2;clear Z Rw w;cbv;refine W (ov l p q) _ _ _ _ _ _ Rx O ((TU _ _).trans (by rw[O];simp)) rfl ?_;cbv;refine g1 _ _ ?_;cbv;refine W (ow r p q) _ _ _ _ _ _ Ry o ((TV _ _).trans (by rw[o];simp)) rfl ?_;cbv;refine g2 _ _ ?_;clear g1 g2 W O o TU TV a1 a2 a3 a4 a5;cbv;intro Pj;cbv;refine⟨{y:WL//(y.k≠0->e3=0)/\(y.k=2->e4=0)},λy=>[(15,.sl false 3 rc),(16,.sl false 3 rd),(129,.own 1000129 (some Pj) 1 2),(130,qI (P.int 2)),(131,qI y.1.k)],
   λy=>[(1000129,⟨some Pj,30,1,[[.sl false 3 rc],[.sl false 3 rd]]⟩)],λy=>(2-y.1.k).toNat,
   ⟨_,a7.refl _,⟨⟨0,.inl rfl⟩,λh=>absurd rfl h,λh=>by cases h⟩,⟨rfl,rfl,rfl,rfl,rfl,trivial⟩,⟨rfl,trivial⟩⟩,?_⟩
  rintro⟨⟨k,hk⟩,J,hk2⟩;simp only[] at J hk2;have f:P.fQ 0 k:=iQ hP qW;cbv;refine ab (λh=>?_) (λh=>?_)
  ·have h2:k<P.int 2:=fA hP h;rw[j] at h2;have A:P.iw k (P.int 2):=kZ hP (by rw[j];exact h2);have X:P.i64 (P.add k 1):=by rw[add_eq hP];exact ft hP qW
   by_cases L:k=0
   ·have g:P.row [[.sl false 3 rc],[.sl false 3 rd]] (P.nat k) [.sl false 3 rc]:=fL hP (i:=0) L rfl;cbv;refine⟨f,A,_,g,?_⟩;cbv;refine f3 _ _ ?_;cbv;refine ab (λh=>?_) (λh=>?_)
    ·have hc:e3≠0:=fE hP h;cbv;exact hR.1 _ _ _ (a7.refl _) rfl (b4 hc)
    ·have hc:e3=0:=fD hP h;cbv;refine⟨X,?_⟩;have e1:P.add k 1=1:=by rw[add_eq hP,L];rfl
     refine⟨_,a7.refl _,⟨⟨_,.inr (.inl e1)⟩,λ_=>hc,λh=>?_⟩,⟨rfl,rfl,rfl,rfl,rfl,trivial⟩,⟨rfl,trivial⟩,?_⟩
     ·have h:P.add k 1=2:=h;omega
     ·show(2-P.add k 1).toNat<(2-k).toNat;omega
   ·have B:k=1:=by omega
    have hc1:=J L;have g:P.row [[.sl false 3 rc],[.sl false 3 rd]] (P.nat k) [.sl false 3 rd]:=fL hP (i:=1) B rfl;cbv;refine⟨f,A,_,g,?_⟩;cbv;refine f4 _ _ ?_;cbv;refine ab (λh=>?_) (λh=>?_)
    ·have hc:e4≠0:=fE hP h;cbv;exact hR.1 _ _ _ (a7.refl _) rfl (b5 hc1 hc)
    ·have hc:e4=0:=fD hP h;cbv;refine⟨X,?_⟩;have e1:P.add k 1=2:=by rw[add_eq hP,B];rfl
     refine⟨_,a7.refl _,⟨⟨_,.inr (.inr e1)⟩,λ_=>hc1,λ_=>hc⟩,⟨rfl,rfl,rfl,rfl,rfl,trivial⟩,⟨rfl,trivial⟩,?_⟩;show(2-P.add k 1).toNat<(2-k).toNat;omega
  have h2:¬k<P.int 2:=fg hP h;rw[j] at h2;have Y:k=2:=by omega
  have hc1:=J qW;have a:=hk2 Y;cbv;exact hR.2.2 _ _ _ _ _ (a7.refl _) rfl (b6 hc1 a)
 ·have h5:¬k=P.da xk:=nd hP h;rw[WU] at h5
  rcases s1 with _|⟨x1,s1⟩
  ·exfalso;simp at Yr;((try simp only[nc] at*);omega)
  rcases s2 with _|⟨u,s2⟩
  ·simp at Yq
  have Pk:P.row xk (P.nat k) [.bool x1]:=fL hP TT (by rw[UX,fp,av,h3,<-TR];simp);have N:P.row yk (P.nat k) [.bool u]:=fL hP TT (by rw[VH,fp,av,h4,<-TS];simp);have C:(ib ps ks qs ms).1=cm (ox (ov l p q) u x1)++(ib r1 s1 r2 s2).1:=by
   rw[zw];cases x1<;>cases u<;>simp[ox,ov,iO,vT,ib,tL,cm,gK]
  have D:(ib ps ks qs ms).2=cm (ox (ow r p q) x1 u)++(ib r1 s1 r2 s2).2:=by
   rw[q7];cases x1<;>cases u<;>simp[ox,ow,iO,tT,ib,tL,cm,gK]
  have WX:∀(l:List Part)(m k:Bool),(∀p∈l,0<=p.n/\p.n<=500/\p.text.length<=500)->∀p∈ox l m k,0<=p.n/\p.n<=500/\p.text.length<=500:=by
   intro l m k hl x hx;unfold ox at hx
   split at hx
   ·simp only[aU,ax,aF,bj] at hx
    rcases hx with hx|rfl
    ·exact hl x hx
    ·simp
   ·exact hl x hx
  have TW:∀(l:List Part)(m k:Bool),(ox l m k).length<=l.length+1:=by
   intro l m k;unfold ox;split<;>simp
  have Zt:=TW (ov l p q) u x1;have Zu:=TW (ow r p q) x1 u;have E:=WX _ u x1 Rx.2;have F:=WX _ x1 u Ry.2;have Zv:(ov l p q).length=l.length+2:=by simp[ov]
  have Zw:(ow r p q).length=r.length+2:=by simp[ow]
  have g1:∀x y,P.oc (P.je rl [x,y]) (P.jf nl (P.gp [x,y])):=by intro x y;subst hP;show(rl++[x,y]).length=nl+2;rw[yJ,VT];simp
  have g2:∀x y,P.oc (P.je rr [x,y]) (P.jf nr (P.gp [x,y])):=by intro x y;subst hP;show(rr++[x,y]).length=nr+2;rw[ko,VU];simp
  have g3:∀x y z,P.bytes (P.add (P.int (P.jf nl (P.gp [x,y]))) (P.da [z])) 32:=by intro x y z;subst hP;show(((nl+2:Nat):Int)+1)*32<=_;omega
  have g4:∀x y z,P.bytes (P.add (P.int (P.jf nr (P.gp [x,y]))) (P.da [z])) 32:=by intro x y z;subst hP;show(((nr+2:Nat):Int)+1)*32<=_;omega
  have g5:∀z,P.oc [z] 1:=by intro z;subst hP;rfl
  have kv:∀x:Bool,P.sub 3 (P.mul 2 (fB x))=if x then 1 else 3:=by intro x;rw[WT];subst hP;cases x<;>rfl
  have j1:∀x:Bool,P.i64 (P.mul 2 (fB x)):=by intro x;rw[WT];subst hP;cases x<;>exact⟨qD,qD⟩
  have j2:∀x:Bool,P.i64 (P.sub 3 (P.mul 2 (fB x))):=by intro x;rw[kv];exact ft hP (by split<;>omega)
  have WY:P.je (P.je rl [[qI 2,qI 0,.str p],[qI 1,qI (P.eP q),.str []]]) [[qI (P.sub 3 (P.mul 2 (fB x1))),qI 1,.str []]]=(ox (ov l p q) true x1).map a6:=by
   rw[O,kv];subst hP;simp[ca,ox,a6]
  have WZ:P.je (P.je rr [[qI 1,qI (P.eP p),.str []],[qI 2,qI 0,.str q]]) [[qI (P.sub 3 (P.mul 2 (fB u))),qI 1,.str []]]=(ox (ow r p q) true u).map a6:=by
   rw[o,kv];subst hP;simp[ca,ox,a6]
  have W0:∀x y z,P.jf (P.jf nl (P.gp [x,y])) (P.gp [z])=(ox (ov l p q) true x1).length:=by intro x y z;rw[TU];subst hP;simp[ca,ox]
  have W1:∀x y z,P.jf (P.jf nr (P.gp [x,y])) (P.gp [z])=(ox (ow r p q) true u).length:=by intro x y z;rw[TV];subst hP;simp[ca,ox]
  have Ys:=w x1;have W2:=w u;have U8:P.add k 1=((i+1:Nat):Int):=by rw[add_eq hP,TT];((try simp only[nc] at*);omega)
  have G:(ox (ov l p q) u x1).length<=3*(i+1):=by omega
  have c:(ox (ow r p q) x1 u).length<=3*(i+1):=by omega
  clear Z Rw w W hR f3 f4 b4 b5 b6;cbv;refine⟨f,_,N,?_⟩;cbv;refine ab (λhy=>?_) (λhy=>?_)
  ·cbv;refine⟨f,_,Pk,?_⟩;cbv;refine Ys _ _ ?_;cbv;refine⟨j1 _,j2 _,?_⟩
   try cbv
   repeat' first|(refine And.intro (by assumption) ?_;cbv)|(refine And.intro (g5 _) ?_;cbv)|(refine And.intro (g1 _ _) ?_;cbv)|(refine And.intro (g3 _ _ _) ?_;cbv)|(intro β;cbv)|(refine Exists.intro _ (And.intro (by assumption) ?_);cbv)
   refine ab (λhx=>?_) (λhx=>?_)
   ·cbv;refine⟨f,_,N,?_⟩;cbv;refine W2 _ _ ?_;cbv;refine⟨j1 _,j2 _,?_⟩
    try cbv
    repeat' first|(refine And.intro (by assumption) ?_;cbv)|(refine And.intro (g5 _) ?_;cbv)|(refine And.intro (g2 _ _) ?_;cbv)|(refine And.intro (g4 _ _ _) ?_;cbv)|(intro β;cbv)|(refine Exists.intro _ (And.intro (by assumption) ?_);cbv)
    rw[hy] at C G E;rw[hx] at D c F;refine⟨_,a7.refl _,⟨i+1,_,p1++[p],r1,p2++[q],r2,k1++[x1],s1,U7++[u],s2,_,_,_,_,_,_,_,_,⟨by simp[h1],by simp[TO]⟩,⟨by simp[M],by simp[TP]⟩,⟨by simp[h3],by simp[TR]⟩,⟨by simp[h4],by simp[TS]⟩,U8,⟨WY,W0 _ _ _⟩,⟨WZ,W1 _ _ _⟩,⟨G,E⟩,⟨c,F⟩,C,D⟩,⟨rfl,rfl,rfl,rfl,rfl,rfl,trivial⟩,⟨rfl,rfl,rfl,rfl,trivial⟩,by simp⟩
   ·cbv
    try refine⟨A,?_⟩
    rw[hy] at C G E;rw[hx] at D c F;refine⟨_,a7.refl _,⟨i+1,_,p1++[p],r1,p2++[q],r2,k1++[x1],s1,U7++[u],s2,_,_,_,_,_,_,_,_,⟨by simp[h1],by simp[TO]⟩,⟨by simp[M],by simp[TP]⟩,⟨by simp[h3],by simp[TR]⟩,⟨by simp[h4],by simp[TS]⟩,U8,⟨WY,W0 _ _ _⟩,⟨o,TV _ _⟩,⟨G,E⟩,⟨c,F⟩,C,D⟩,⟨rfl,rfl,rfl,rfl,rfl,rfl,trivial⟩,⟨rfl,rfl,rfl,rfl,trivial⟩,by simp⟩
  ·cbv;refine⟨f,_,Pk,?_⟩;cbv;refine ab (λhx=>?_) (λhx=>?_)
   ·cbv;refine⟨f,_,N,?_⟩;cbv;refine W2 _ _ ?_;cbv;refine⟨j1 _,j2 _,?_⟩
    try cbv
    repeat' first|(refine And.intro (by assumption) ?_;cbv)|(refine And.intro (g5 _) ?_;cbv)|(refine And.intro (g2 _ _) ?_;cbv)|(refine And.intro (g4 _ _ _) ?_;cbv)|(intro β;cbv)|(refine Exists.intro _ (And.intro (by assumption) ?_);cbv)
    rw[hy] at C G E;rw[hx] at D c F;refine⟨_,a7.refl _,⟨i+1,_,p1++[p],r1,p2++[q],r2,k1++[x1],s1,U7++[u],s2,_,_,_,_,_,_,_,_,⟨by simp[h1],by simp[TO]⟩,⟨by simp[M],by simp[TP]⟩,⟨by simp[h3],by simp[TR]⟩,⟨by simp[h4],by simp[TS]⟩,U8,⟨O,TU _ _⟩,⟨WZ,W1 _ _ _⟩,⟨G,E⟩,⟨c,F⟩,C,D⟩,⟨rfl,rfl,rfl,rfl,rfl,rfl,trivial⟩,⟨rfl,rfl,rfl,rfl,trivial⟩,by simp⟩
   ·cbv
    try refine⟨A,?_⟩
    rw[hy] at C G E;rw[hx] at D c F;refine⟨_,a7.refl _,⟨i+1,_,p1++[p],r1,p2++[q],r2,k1++[x1],s1,U7++[u],s2,_,_,_,_,_,_,_,_,⟨by simp[h1],by simp[TO]⟩,⟨by simp[M],by simp[TP]⟩,⟨by simp[h3],by simp[TR]⟩,⟨by simp[h4],by simp[TS]⟩,U8,⟨O,TU _ _⟩,⟨o,TV _ _⟩,⟨G,E⟩,⟨c,F⟩,C,D⟩,⟨rfl,rfl,rfl,rfl,rfl,rfl,trivial⟩,⟨rfl,rfl,rfl,rfl,trivial⟩,by simp⟩
theorem Av(d:List Part)(h:cF d=0):(cm d).length<=1000:=by
 obtain⟨h1,h2,h3,h4,h5,h6⟩:=dv h;have e1:=hZ d h2;have e2:=ja d h2;have:∀ts:List fP,ts.length<=fH ts+fi ts:=by
  intro ts
  induction ts with
  |nil=>simp
  |cons t ts ih=>cases t<;>simp[fH,dE,fi] at* <;>omega
 have:=this (cm d);omega
theorem xr(a b:List Part)(ha:cF a=0)(hb:cF b=0):(mH a b).length<=10000000/\(mY a b).length<=10000000:=by
 have h1:=Av a ha;have h2:=Av b hb;have h3:=Fg ((cm a).length+(cm b).length) (cm a) (cm b);exact⟨CP _ (by show(fI _ _ _).1.length<=_;omega),CP _ (by show(fI _ _ _).2.length<=_;omega)⟩
theorem Fi(a b:List Part):(er a b).1.length<=10000000/\(er a b).2.1.length<=10000000:=by
 unfold er
 split
 ·rename_i h;unfold lR at h
  by_cases c:cF a=0
  ·by_cases d:cF b=0
   ·exact xr a b c d
   ·rw[aa (λh=>h c),ae d] at h;exact absurd h d
  ·rw[ae c] at h;exact absurd h c
 ·simp
theorem oW{a b:List Part}{e:Int}(h:lR a b=e)(h0:e≠0):er a b=([],[],e):=by unfold er;rw[h,aa h0]
theorem NU{a b:List Part}(h:lR a b=0):er a b=(mH a b,mY a b,0):=by unfold er;rw[ae h]
theorem yu(a b:List Part)(ha:a.length<=maxLen)(hb:b.length<=maxLen):Spec Tryz.prog 88 [fc a,fc b] Hp.emp (Is (.tup [fc (er a b).1,fc (er a b).2.1,.int .i64 (er a b).2.2])):=
 hH gY NS λR e=>NT ca rfl _ _ a b _ _ rfl rfl (λk hk=>OU k hk) (λs hs=>SN s hs) (λk hk=>SO k hk) OV O2 vG vH O1
  (λd h K k b n rs q hd c hn hq hk hK=>⟨h,jj.refl h,kD (nA d (by(have:maxLen=9223372036854775807:=by decide);omega)) (.cons (.own k b 3 n _ (by rw[jm hn hk,c]) (by simp)) .nil) (by rw[hq] at hK;exact hK)⟩)
  _ _ _ _ _ _ rfl rfl (iV (oM a ha) rfl) (iV (oM b hb) rfl) _ _ _ rfl _ _ rfl rfl R (tl e)
theorem J2(a b:List Part)(h:fH (cm a)=fH (cm b)):ib (e9 (cm a)) (dE (cm a)) (e9 (cm b)) (dE (cm b))=mt (cm a) (cm b):=lW _ _ _ (ag _) h
theorem vU(a b:List Part)(ha:a.length<=maxLen)(hb:b.length<=maxLen):Spec Tryz.prog 91 [fc a,fc b] Hp.emp (Is (.tup [fc (er a b).1,fc (er a b).2.1,.int .i64 (er a b).2.2])):=by
 have u:maxLen=9223372036854775807:=by decide
 by_cases iB:cF a=0/\cF b=0/\jy a=jy b
 ·obtain⟨q,s,l⟩:=iB;obtain⟨m,e,v,w,_,_⟩:=dv q;obtain⟨o,f,hb1,hb2,_,_⟩:=dv s;have e1:=hZ a e;have e2:=hZ b f;have e3:=ja a e;have e4:=ja b f;have lG:fH (cm a)=fH (cm b):=by omega
  obtain⟨x,y⟩:=xr a b q s;have hm:=J2 a b lG;have k1:(dE (cm b)).length=(dE (cm a)).length:=lG.symm;have i:lR a b=if cF (mH a b)≠0 then cF (mH a b) else cF (mY a b):=by
   unfold lR;rw[aa (λh=>h q),aa (λh=>h s),aa (λh=>h l)]
  exact hH gY As λR t=>Au ca rfl _ _ (a.map a6) (b.map a6) (cF a) (cF b) (jy a) (jy b) (cF (mH a b)) (cF (mY a b)) (e9 (cm a)) (e9 (cm b)) (dE (cm a)) (dE (cm b)) (kR _) (by rw[kR,k1]) k1 (by show fH (cm a)<=500;omega)
   (λp hp=>by have:=Aq _ p hp;omega) (λp hp=>by have:=Aq _ p hp;omega) _ _ _ _ rfl rfl rfl rfl (λd=>og (e9 (cm d)) (dE (cm d))) ((mH a b).map a6) ((mY a b).map a6)
   (iV (gU a ha) rfl) (iV (gU b hb) rfl) (λ_=>iV (lI a m e) rfl) (λ_=>iV (lI b o f) rfl) (λ_ _ _=>iV (m8 a m (rC e)) rfl) (λ_ _ _=>iV (m8 b o (rC f)) rfl)
   Fh (λ_=>rfl) (λk=>fU (J1 k) (λh=>.cons (.same _) .nil) rfl)
   (λd h K k b n rs hd j hn hk hK=>⟨h,jj.refl h,kD (m8 d hd.1 hd.2) (.cons (.own k b 3 n _ (by rw[jm hn hk,j]) (by simp)) .nil) hK⟩)
   (λd hd r hr c z2 z3=>by
    have hl:=CO d hd.1 hd.2;have h1:=fU (OT (e9 (cm d)) (dE (cm d)) (kR _) (by have:=oQ (cm d);omega) (by have:=pq (cm d);omega)) (args':=_) (args:=[og (e9 (cm d)) (dE (cm d))]) (λh=>.cons (m9 h _ _) .nil) rfl;have h2:UP (e9 (cm d)) (dE (cm d))=nT (cm d):=by unfold UP nT;rw[zr]
    rcases hr c z2 z3 with⟨h3,rfl⟩|⟨h3,rfl⟩
    ·rw[h2,show nT (cm d)=mH a b by rw[h3,hm];rfl] at h1;exact h1
    ·rw[h2,show nT (cm d)=mY a b by rw[h3,hm];rfl] at h1;exact h1)
   (λ_ _ _=>iV (gU (mH a b) qW) rfl) (λ_ _ _=>iV (gU (mY a b) qW) rfl)
   ((er a b).1.map a6) ((er a b).2.1.map a6) (er a b).2.2 (λh=>absurd q h) (λ_ h=>absurd s h) (λ_ _ h=>absurd l h)
   (λ_ _ _ h=>by rw[oW (i.trans (ae h)) h];exact⟨rfl,rfl,rfl⟩)
   (λ_ _ _ h h'=>by rw[oW (i.trans (aa (λg=>g h))) h'];exact⟨rfl,rfl,rfl⟩)
   (λ_ _ _ h h'=>by rw[NU ((i.trans (aa (λg=>g h))).trans h')];exact⟨rfl,rfl,rfl⟩) R (tl t)
 ·have i:lR a b=if cF a≠0 then cF a else if cF b≠0 then cF b else 4:=by
   unfold lR
   split
   ·rfl
   ·split
    ·rfl
    ·rw[ae (λh=>iB ⟨aG (by assumption),aG (by assumption),h⟩)]
  exact hH gY As λR t=>Au ca rfl _ _ (a.map a6) (b.map a6) (cF a) (cF b) (jy a) (jy b) 0 0 [[]] [[]] [] [] rfl rfl rfl (by simp) (by simp) (by simp) _ _ _ _ rfl rfl rfl rfl (λd=>og (e9 (cm d)) (dE (cm d))) [] []
   (iV (gU a ha) rfl) (iV (gU b hb) rfl) (λz=>iV (lI a (dv z).1 (dv z).2.1) rfl) (λz=>iV (lI b (dv z).1 (dv z).2.1) rfl) (λc z2 z3=>absurd ⟨c,z2,z3⟩ iB) (λc z2 z3=>absurd ⟨c,z2,z3⟩ iB)
   Fh (λ_=>rfl) (λk=>fU (J1 k) (λh=>.cons (.same _) .nil) rfl)
   (λd h K k b n rs hd j hn hk hK=>⟨h,jj.refl h,kD (m8 d hd.1 hd.2) (.cons (.own k b 3 n _ (by rw[jm hn hk,j]) (by simp)) .nil) hK⟩)
   (λd hd r hr c z2 z3=>absurd ⟨c,z2,z3⟩ iB) (λc z2 z3=>absurd ⟨c,z2,z3⟩ iB) (λc z2 z3=>absurd ⟨c,z2,z3⟩ iB)
   ((er a b).1.map a6) ((er a b).2.1.map a6) (er a b).2.2
   (λh=>by rw[oW (i.trans (ae h)) h];exact⟨rfl,rfl,rfl⟩) (λz h=>by rw[oW (i.trans ((aa (λg=>g z)).trans (ae h))) h];exact⟨rfl,rfl,rfl⟩)
   (λc z2 _=>by rw[oW (i.trans ((aa (λg=>g c)).trans (aa (λg=>g z2)))) qD];exact⟨rfl,rfl,rfl⟩)
   (λc z2 z3 _=>absurd ⟨c,z2,z3⟩ iB) (λc z2 z3 _ _=>absurd ⟨c,z2,z3⟩ iB) (λc z2 z3 _ _=>absurd ⟨c,z2,z3⟩ iB) R (tl t)
def fS(x:List Part):List eX->List Part×Int
 |[]=>(x,0)
 |r::l=>if(er r.delta x).2.2≠0 then([],(er r.delta x).2.2) else fS (er r.delta x).2.1 l
def xt:List (BS×Nat)->List (BS×Nat)->List (BS×Nat)
 |[],a=>a
 |[(p,c)],(q,d)::a=>(p++q,c+d)::a
 |[g],[]=>[g]
 |g::g2::r,a=>g::xt (g2::r) a
theorem su(a b:List fP):gz (a++b)=xt (gz a) (gz b):=by
 induction a with
 |nil=>
  obtain⟨⟨q,d⟩,e,h⟩:=lT b;simp[gz,h,xt]
 |cons t a ih=>
  obtain⟨⟨p,c⟩,r,h⟩:=lT a;obtain⟨⟨q,d⟩,e,h'⟩:=lT b;rw[h,h'] at ih;cases t
  ·simp only[ay,gz,ih,h,h'];cases r<;>simp[xt]
  ·simp only[ay,gz,ih,h,h'];cases r<;>simp[xt]
  ·simp only[ay,gz,ih,h,h'];cases r<;>simp[xt]<;>omega
theorem Cb{a c:List fP}(h:gz a=gz c)(b:List fP):gz (a++b)=gz (c++b):=by rw[su,su,h]
theorem vV{b b':List fP}(h:gz b=gz b')(a:List fP):gz (a++b)=gz (a++b'):=by rw[su,su,h]
theorem Fj(n:Nat)(b:UInt8):gz (List.replicate n .cut++[.put b])=gz (.put b::List.replicate n .cut):=by
 have h1:=lV n [.put b] [b] 0 [] rfl;have h2:=lV n [] [] 0 [] rfl;rw[aJ] at h2;rw[h1];simp[gz,h2]
def yv(m:Mk):List fP:=cm m.out++(m.put.map .put++List.replicate m.cut.toNat .cut)
theorem vW(m:Mk):cm m.flush=yv m:=by
 unfold Mk.flush yv;rw[iO,iO,aP]
 congr 1
 congr 1
 ·split
  ·rename_i h;rw[h];rfl
  ·simp[cm,gK]
 ·split
  ·simp[cm,gK]
  ·rename_i h;rw[show m.cut.toNat=0 by omega];rfl
theorem yw:∀{k:Int}{l:List Part},k9 k l->∀p∈l,oO p
 |_,[],_=>by simp
 |_,q::l,h=>by
  intro p hp
  rcases ax.1 hp with rfl|hp
  ·exact h.1
  ·exact yw h.2.2.2 p hp
theorem yx(o:List Part)(ho:∀p∈o,oO p):cm (iP o 1)=cm o++[.keep]:=by
 unfold iP;cases h:o.getLast? with
 |none=>
  rw[List.getLast?_eq_none_iff] at h;subst h;rfl
 |some p=>
  obtain⟨a,rfl⟩:=List.getLast?_eq_some_iff.1 h;simp only
  split
  ·rename_i hk;rw[dM,iO,iO,aP]
   congr 1
   have hp:=ho p (by simp);have hn:0<p.n:=by unfold oO at hp;omega
   simp only[cm,gK,hk,aJ];rw[aa qD,ae trivial,show(p.n+1).toNat=p.n.toNat+1 by omega,cA];rfl
  ·rw[iO];rfl
theorem Fk{m:Mk}(hm:m.Ok)(t:fP):gz (yv (m.tok t))=gz (yv m++[t]):=by
 cases t with
 |keep=>
  have:yv (m.tok .keep)=cm (iP m.flush 1):=by
   simp[Mk.tok,Mk.fF,yv]
  rw[this,yx _ (yw hm.flush),vW]
 |put b=>
  show gz (cm m.out++((m.put++[b]).map .put++List.replicate m.cut.toNat .cut))=gz (cm m.out++(m.put.map .put++List.replicate m.cut.toNat .cut)++[.put b]);rw[aP,aP,bW,aP];refine vV (vV ?_ _) _;exact(Fj _ _).symm
 |cut=>
  have hc:=hm.cut;show gz (cm m.out++(m.put.map .put++List.replicate (m.cut+1).toNat .cut))=gz (cm m.out++(m.put.map .put++List.replicate m.cut.toNat .cut)++[.cut]);rw[show(m.cut+1).toNat=m.cut.toNat+1 by omega,cA,aP,aP]
theorem Aw:∀(ts:List fP){m:Mk},m.Ok->gz (yv (m.run ts))=gz (yv m++ts)
 |[],m,_=>by rw[Mk.L2,aJ]
 |t::ts,m,h=>by
  have h1:=Aw ts (h.tok t);show gz (yv ((m.tok t).run ts))=_;rw[h1,Cb (Fk h t) ts,aP];rfl
theorem vX(ts:List fP):gz (cm (nT ts))=gz ts:=by
 unfold nT;rw[vW,Aw ts Mk.G4];rfl
def TX:List (BS×Nat)->Nat
 |[]=>0
 |[g]=>g.2
 |g::g2::r=>g.2+1+TX (g2::r)
def J3:List (BS×Nat)->Nat
 |[]=>0
 |[g]=>g.1.length
 |g::g2::r=>g.1.length+1+J3 (g2::r)
theorem Ax(ts:List fP):fH ts=TX (gz ts):=by
 induction ts with
 |nil=>rfl
 |cons t ts ih=>
  obtain⟨⟨p,c⟩,r,h⟩:=lT ts;rw[h] at ih;cases t
  ·simp only[gz,h,TX];rw[<-ih];simp[fH,dE];omega
  ·simp only[gz,h];cases r<;>simp only[TX] at* <;>rw[<-ih]<;>rfl
  ·simp only[gz,h];cases r<;>simp only[TX] at* <;>simp only[fH,dE,ar] at* <;>omega
theorem xu(ts:List fP):fi ts=J3 (gz ts):=by
 induction ts with
 |nil=>rfl
 |cons t ts ih=>
  obtain⟨⟨p,c⟩,r,h⟩:=lT ts;rw[h] at ih;cases t
  ·simp only[gz,h,J3,fi];rw[<-ih];simp;omega
  ·simp only[gz,h,fi];cases r<;>simp only[J3,ar] at* <;>omega
  ·simp only[gz,h,fi];cases r<;>simp only[J3] at* <;>omega
theorem sw(ts:List fP):fH (cm (nT ts))=fH ts:=by rw[Ax,vX,<-Ax]
theorem oX(ts:List fP):fi (cm (nT ts))=fi ts:=by rw[xu,vX,<-xu]
theorem J4{d:List Part}{p:Part}(h:p∈d):fH (gK p)<=fH (cm d)/\fi (gK p)<=fi (cm d):=by
 obtain⟨a,b,rfl⟩:=di h;rw[iO];simp only[cm,kq,nB];omega
theorem Ay{p:Part}(h:oO p):(p.kind=2->fi (gK p)=p.text.length/\p.text.length≠0)/\(p.kind≠2->fH (gK p)=p.n.toNat/\0<p.n/\p.text=[])/\(p.kind=2->p.n=0):=by
 unfold oO at h;refine⟨λk=>?_,λk=>?_,λk=>by omega⟩
 ·unfold gK;rw[ae k,vu];refine⟨rfl,λg=>?_⟩
  rcases h with h|h
  ·exact h.2.2 (aq g)
  ·omega
 ·unfold gK;rw[aa k];have hr:∀(n:Nat)(x:fP),x=.keep\/x=.cut->fH (List.replicate n x)=n:=by
   intro n x hx;have:=jK [] x hx n;simp only[bO,dE] at this;simp[fH,this]
  refine⟨?_,qW,(h.resolve_left λg=>k g.1).2.2⟩
  split
  ·exact hr _ _ (.inl rfl)
  ·exact hr _ _ (.inr rfl)
theorem Az:∀(d:List Part),(∀p∈d,oO p)->d.length<=fH (cm d)+fi (cm d)
 |[],_=>by simp
 |p::d,h=>by
  have h1:=Az d λq hq=>h q (by simp[hq]);obtain⟨h2,h3,_⟩:=Ay (h p (by simp));simp only[cm,kq,nB,ar]
  by_cases k:p.kind=2
  ·have:=h2 k;omega
  ·have:=h3 k;omega
theorem qK(ts:List fP)(h1:fH ts<=500)(h2:fi ts<=500):cF (nT ts)=0:=by
 have hf:=yw (zq ts);have ho:∀p∈nT ts,oq p:=by
  intro p hp;obtain⟨g1,g2,g3⟩:=Ay (hf p hp);obtain⟨a,b⟩:=J4 hp;rw[sw] at a;rw[oX] at b;have hk:=hf p hp;unfold oO at hk;unfold oq mi
  by_cases k:p.kind=2
  ·have a1:=g1 k;have a2:=g3 k;rw[aa qW,ae k,aa (by rintro(h|h);exact h a2;exact a1.2 (by rw[h];rfl)),aa qW]
  ·have a1:=g2 k;rw[ae qW,aa (by rintro(h|h);omega;exact h a1.2.2),aa (by rw[a1.2.2];simp only[aK];omega)]
 have hn:=Az _ hf;have hi:=hZ _ ho;have hu:=ja _ ho;rw[sw] at hn hi;rw[oX] at hn hu;have hc:oI 0 (nT ts)=0:=by
  have:∀(k:Int)(l:List Part),k9 k l->(∀p∈l,oq p)->oI k l=0:=by
   intro k l
   induction l generalizing k with
   |nil=>intro _ _;rfl
   |cons p l ih=>
    intro h hp;obtain⟨h1,h2,h3,h4⟩:=h;unfold oI;rw[aa (by rintro(h|h);exact h2 h;exact h3 h),aa (λg=>g (hp p (by simp))),ih _ h4 λq hq=>hp q (by simp[hq])]
  exact this 0 _ (zq ts) ho
 unfold cF;rw[aa qW,aa (λg=>g hc),aa qW]
theorem oY{a b:List Part}(h:(er a b).2.2=0):cF a=0/\cF b=0/\jy a=jy b/\cF (mY a b)=0/\(er a b).2.1=mY a b:=by
 unfold er at h⊢
 by_cases he:lR a b=0
 ·rw[ae he];unfold lR at he
  by_cases h1:cF a≠0
  ·rw[ae h1] at he;exact absurd he h1
  rw[aa h1] at he
  by_cases h2:cF b≠0
  ·rw[ae h2] at he;exact absurd he h2
  rw[aa h2] at he
  by_cases h3:jy a≠jy b
  ·rw[ae h3] at he;exact absurd he qD
  rw[aa h3] at he
  by_cases h4:cF (mH a b)≠0
  ·rw[ae h4] at he;exact absurd he h4
  rw[aa h4] at he;exact⟨aG h1,aG h2,aG h3,he,rfl⟩
 ·rw[aa he] at h;exact absurd h he
theorem kX:∀(f:Nat)(xs a:List fP),xs.length+a.length<=f->fH xs=fH a->fH (fI f xs a).2=fi xs
 |0,xs,a,hf,_=>by
  have:xs=[]:=aq qW;subst this;rfl
 |f+1,.put b::xs,a,hf,hi=>by
  simp only[fI];rw[iy,pB,kX f xs a (by simp at hf⊢;omega) hi]
 |f+1,[],.put b::a,hf,hi=>by
  simp only[fI];exact kX f [] a (by simp at hf⊢;omega) hi
 |f+1,.keep::xs,.put b::a,hf,hi=>by
  simp only[fI];exact kX f (.keep::xs) a (by simp at hf⊢;omega) hi
 |f+1,.cut::xs,.put b::a,hf,hi=>by
  simp only[fI];exact kX f (.cut::xs) a (by simp at hf⊢;omega) hi
 |f+1,.keep::xs,.keep::a,hf,hi=>by
  rw[iy,iy] at hi;simp only[fI];rw[iy,kU,kX f xs a (by simp at hf⊢;omega) qW]
 |f+1,.cut::xs,.keep::a,hf,hi=>by
  rw[iy,kB] at hi;simp only[fI];rw[pA,kX f xs a (by simp at hf⊢;omega) qW]
 |f+1,.keep::xs,.cut::a,hf,hi=>by
  rw[iy,kB] at hi;simp only[fI];rw[kB,kU,kX f xs a (by simp at hf⊢;omega) qW]
 |f+1,.cut::xs,.cut::a,hf,hi=>by
  rw[kB,kB] at hi;simp only[fI];rw[pA,kX f xs a (by simp at hf⊢;omega) qW]
 |f+1,[],[],hf,hi=>rfl
 |f+1,[],.keep::a,hf,hi=>by rw[iy] at hi;exact absurd hi (by simp[fH,dE])
 |f+1,[],.cut::a,hf,hi=>by rw[kB] at hi;exact absurd hi (by simp[fH,dE])
 |f+1,.keep::xs,[],hf,hi=>by rw[iy] at hi;exact absurd hi (by simp[fH,dE])
 |f+1,.cut::xs,[],hf,hi=>by rw[kB] at hi;exact absurd hi (by simp[fH,dE])
open Go.RowKit
def AA:AC:=qr [qo 2 (.mov (.c (.slice none 0 0)))] (qq (qr [qm 3 0,qo 4 (.eqn false (.t 3))] (qu 4 (qr [qo 2 (.mov (.c (.slice none 0 0)))] .ret) .skip)) (qr [qo 5 (.bslice 91 3 []),qm 6 0,qo 7 (.append 91 3 40 (.t 5) (.t 6)),qm 2 7] .ret))
theorem J5:fo Tryz.prog 86 Tryz.f86 AA [.t 2] 1 eV:=⟨Tryz.func86,by decide+kernel,by kernel_rfl,by kernel_rfl,by decide+kernel⟩
theorem J6(P:Prim)(hP:P=ca)(T b:cp)(rows:List (List V))(hl:rows.length<=1000000)(R:S->Prop)
  (a:∀s s' ba n rows',n=rows.length->rows'=rows->a7 s s'->hX [.t 2] [.own 1000005 ba 3 n] s'->fh [(1000005,jv ba rows')] s'->R s):fX P T b AA (S0 [.sl true 3 rows] Hp.emp) R (λ_ _=>False) R:=by
 have f1:P.bytes (P.add (P.int 0) (P.da rows)) 40:=by subst hP;show(((0:Nat):Int)+(rows.length:Int))*40<=_;omega
 have f2:P.oc [] 0:=by subst hP;rfl
 have f3:P.jf 0 (P.gp rows)=rows.length:=by subst hP;exact aS _
 have f4:P.je [] rows=rows:=by subst hP;rfl
 cbv;refine⟨?_,λh0=>?_⟩
 ·cbv
  repeat' first|(refine qA ?_;cbv)|(intro c;cbv)
  exact a _ _ _ _ _ f3 f4 (a7.refl _) rfl ⟨rfl,trivial⟩
 ·have d:rows=[]:=aq (by rw[gi hP] at h0;omega);subst d;cbv;exact a _ _ none 0 [] rfl rfl (a7.nil (i:=2) (k:=1000005) (ty:=91) (sz:=3) rfl rfl) rfl ⟨rfl,trivial⟩
theorem J7(l:List eX)(hl:l.length<=1000000):Spec Tryz.prog 86 [.sl true 3 (l.map a8)] (b7 []) λx h'=>∃a,(∃ba,x=.own 1000005 ba 3 l.length/\a=[(1000005,jv ba (l.map a8))])/\h'=b7 a:=
 fe gY J5 (L:=[]) (λx a=>∃ba,x=.own 1000005 ba 3 l.length/\a=[(1000005,jv ba (l.map a8))]) λR c=>
  J6 ca rfl _ _ (l.map a8) (by simpa using hl) R λs s' ba n rows' hn dS he hr ha=>by
   subst dS;have b:n=l.length:=by rw[hn];simp
   subst b;exact c s s' _ _ he (eS _ _ _ (λx hx=>by rw[hx];rfl) hr) ha (.own _ _ _ _) (λp hp=>by rw[aw.1 hp];exact fW _) ⟨ba,rfl,rfl⟩
def J8(T:cp):Prop:=∀(k:Nat)(rows:List (List V))(l:List eX)(h:Hp)(K:V->Hp->Prop),rows=l.map a8->l.length<=1000000->h k=none->(∀ba n,n=l.length->K (.own k ba 3 n) (Hp.put h k (jv ba rows)))->T 86 [.sl false 3 rows] h K
theorem Rz:J8 (fa Tryz.prog):=by
 rintro k rows l h K rfl hl hk hK;refine oe (J7 l hl) (m:=[(1000005,k)]) (.cons (.j8 _ _) .nil) (λj o hj=>by cases hj) (λq hq=>?_) ?_
 ·simp only[aw] at hq;subst hq;exact⟨by simp[gI],by simp[gT],λo ho=>by cases ho⟩
 ·rintro v a ⟨ba,rfl,rfl⟩;have e:h.iX [(1000005,k)] (b7 [(1000005,jv ba (l.map a8))])=Hp.put h k (jv ba (l.map a8)):=by
   funext i
   by_cases h1:i=k
   ·subst h1;have hb:gT [(1000005,i)] i=1000005:=by simp[gT]
    simp only[Hp.iX,Hp.put,cC,cY,cN,decide_true,↓reduceIte,hb];show(some (jv ba (l.map a8))).map (Ob.gA (gI [(1000005,i)]))=_;rw[aN,mW]
   ·have h2:¬k=i:=λe=>h1 e.symm;simp[Hp.iX,Hp.put,h1,h2]
  rw[e];have:(V.own 1000005 ba 3 l.length).gA (gI [(1000005,k)])=.own k ba 3 l.length:=by
   show V.own (gI [(1000005,k)] 1000005) ba 3 l.length=_;simp[gI]
  rw[this];exact hK ba _ rfl
section
variable {P:Prim} {T:cp} {s:S} {d x y:Nat} {K:S->Prop}
theorem vY{f:Nat}{v:V}(hx:s.t x=v)(hK:T f [v] s.h λv h=>K ⟨iX s.t d v,h⟩):fm P T ⟨some d,none,.call f [.t x]⟩ s K:=by
 show T f [s.t x] s.h _;rw[hx];exact hK
theorem yy{ty sz:Nat}{row:List V}(hx:s.t x=.agg row)(hl:row.length=sz)(ho:row.all V.one=true)(hn:s.h (1000000+d)=none)(hK:∀β:Nat,K ⟨iX s.t d (.own (1000000+d) (some β) sz 1),Hp.put s.h (1000000+d) ⟨some β,ty,sz,[row]⟩⟩):fm P T ⟨some d,none,.bslice ty sz [.t x]⟩ s K:=by
 show s.h (1000000+d)=none/\(([hJ.t x]:List hJ).all λq=>mP sz (hJ.ev s q))=true/\∀β:Nat,K ⟨iX s.t d (.own (1000000+d) (some β) sz 1),Hp.put s.h (1000000+d) ⟨some β,ty,sz,[(s.t x).cells]⟩⟩;rw[hx];refine⟨hn,?_,hK⟩;show(mP sz (s.t x)&&true)=true;rw[hx];show((row.length==sz&&row.all V.one)&&true)=true;rw[hl,ho];simp
theorem AB{k k2 ty ty2 sz gv n n2:Nat}{b b2:Option Nat}{rows news:List (List V)}(hx:s.t x=.own k b sz n)(hk:s.h k=some ⟨b,ty,sz,rows⟩)(hy:s.t y=.own k2 b2 sz n2)(hk2:s.h k2=some ⟨b2,ty2,sz,news⟩)(h1:P.oc news n2)(h2:P.oc rows n)(h3:P.bytes (P.add (P.int n) (P.da news)) gv)
  (hK:∀β:Option Nat,K ⟨iX s.t d (.own k β sz (P.jf n (P.gp news))),Hp.put s.h k ⟨β,ty,sz,P.je rows news⟩⟩):fm P T ⟨some d,none,.append ty sz gv (.t x) (.t y)⟩ s K:=by
 simp only[fm,iz,fC,hJ.ev,hx,hy,kQ,mg,hk2,hk];exact⟨trivial,trivial,trivial,h1,trivial,trivial,trivial,trivial,h2,h3,hK⟩
end
def jG(bl:Nat)(lr:List (List V))(n:Nat)(row:List V)(ba:Option Nat)(β:Nat)(a:Option Nat)(n8:Nat):List (Nat×Nat×V):=[(0,112,.ptr 0 (some bl) 31 0 0),(1,113,.ptr 0 (some bl) 31 0 0),(2,114,.ptr 0 (some bl) 31 0 0),(3,115,.ptr 0 (some bl) 31 0 24),(4,116,.sl false 3 lr),(5,117,.own 1000300 ba 3 n),(6,118,.agg row),(7,119,.own 1000119 (some β) 3 1),(8,120,.own 1000300 a 3 n8),(9,121,.ptr 0 (some bl) 31 0 0),(10,122,.ptr 0 (some bl) 31 0 24)]
def AD(lr rows8:List (List V))(ba a:Option Nat)(done:List Nat):Option Ob:=if fG done 8=true then some (jv a rows8) else if fG done 5=true then some (jv ba lr) else none
def Cc(row:List V)(β:Nat)(done:List Nat):Option Ob:=if fG done 7=true then some ⟨some β,91,3,[row]⟩ else none
def AE(bl:Nat)(d:im)(tv:V)(lr:List (List V))(n8:Nat)(a:Option Nat)(done:List Nat):Option Ob:=if fG done 11=true then some (fV bl d tv (.own 1000300 a 3 n8)) else some (fV bl d tv (.sl false 3 lr))
def l3(bl:Nat)(d:im)(tv:V)(lr rows8:List (List V))(row:List V)(n8:Nat)(ba:Option Nat)(β:Nat)(a:Option Nat)(done:List Nat)(h0:Hp)(k:Nat):Option Ob:=if k=1000300 then AD lr rows8 ba a done else if k=1000119 then Cc row β done else if k=0 then AE bl d tv lr n8 a done else h0 k
def Pl:List (AO×List Nat):=[
 (⟨some 112,none,.mov (.t 0)⟩,[]),
 (⟨some 113,none,.mov (.t 0)⟩,[]),
 (⟨some 114,none,.nilchk (.t 113)⟩,[1]),
 (⟨some 115,none,.faddr 24 (.t 114)⟩,[2]),
 (⟨some 116,none,.load1 (.t 115)⟩,[3]),
 (⟨some 117,none,.call 86 [(.t 116)]⟩,[4]),
 (⟨some 118,none,.loadn 3 (.t 3)⟩,[]),
 (⟨some 119,none,.bslice 91 3 [(.t 118)]⟩,[6]),
 (⟨some 120,none,.append 91 3 40 (.t 117) (.t 119)⟩,[5,7,5]),
 (⟨some 121,none,.nilchk (.t 112)⟩,[0,0,1,2,3,4,5,6,7,8]),
 (⟨some 122,none,.faddr 24 (.t 121)⟩,[9,0,1,2,3,4,5,6,7,8]),
 (⟨none,none,.store 1 (.t 122) (.t 120)⟩,[10,8,8,0,1,2,3,4,5,6,7,8])]
section
variable {bl n n8:Nat} {lr rows8:List (List V)} {row:List V} {ba b8:Option Nat} {β:Nat}
theorem J9:((jG bl lr n row ba β b8 n8).map (·.1)).Nodup:=by show([0,1,2,3,4,5,6,7,8,9,10]:List Nat).Nodup;decide
theorem wo:((jG bl lr n row ba β b8 n8).map (·.2.1)).Nodup:=by show([112,113,114,115,116,117,118,119,120,121,122]:List Nat).Nodup;decide
end
theorem RA{P:Prim}(hP:P=ca){T:cp}{K:S->Prop}{t0:Nat->V}{h0:Hp}{bl b3 n n8:Nat}{d:im}{tv:V}{lr rows8:List (List V)}{row:List V}(yJ:row.length=3/\row.all V.one=true)(y:n=lr.length)(B:n8=P.jf n (P.gp [row]))(C:rows8=P.je lr [row])(D:P.bytes (P.add (P.int n) (P.da [row])) 40)
  (g0:t0 0=.ptr 0 (some bl) 31 0 0)(g3:t0 3=.ptr 3 (some b3) 3 0 0)(E:h0 0=some (fV bl d tv (.sl false 3 lr)))(h3:h0 3=some ⟨some b3,91,3,[row]⟩)(hz1:h0 1000300=none)(hz2:h0 1000119=none)
  (m:∀(h:Hp)(K:V->Hp->Prop),h 1000300=none->(∀ba n,n=lr.length->K (.own 1000300 ba 3 n) (Hp.put h 1000300 (jv ba lr)))->T 86 [.sl false 3 lr] h K)
  (hK:∀ba β c,K ⟨Ti (jG bl lr n row ba β c n8) t0,JK [(0,some (fV bl d tv (.own 1000300 c 3 n8))),(1000300,some (jv c rows8)),(1000119,some ⟨some β,91,3,[row]⟩)] h0⟩):lF P T Pl 12 [] ⟨t0,h0⟩ K:=by
 refine Ak rfl (λdone s=>∃ba β c,s=⟨iJ done (jG bl lr n row ba β c n8) t0,l3 bl d tv lr rows8 row n8 ba β c done h0⟩) (λdone i o ps s hj hf hq q F K' f=>?_) (λdone s hd F=>?_) ?_
 ·obtain⟨ba,β,c,rfl⟩:=F
  match i,hj with
  |0,hj=>
   cases hj;show fm P T _ ⟨iJ done (jG bl lr n row ba β c n8) t0,l3 bl d tv lr rows8 row n8 ba β c done h0⟩ K';refine sj (v:=.ptr 0 (some bl) 31 0 0) ((n3 (done:=done) (jG bl lr n row ba β c n8) t0 rfl).trans g0) ?_;refine f _ ⟨ba,β,c,?_⟩;show(⟨iX (iJ done (jG bl lr n row ba β c n8) t0) 112 _,l3 bl d tv lr rows8 row n8 ba β c done h0⟩:S)=⟨iJ (0::done) (jG bl lr n row ba β c n8) t0,l3 bl d tv lr rows8 row n8 ba β c (0::done) h0⟩;rw[ij (k:=0) (jG bl lr n row ba β c n8) t0 J9 wo (.head _)];rfl
  |1,hj=>
   cases hj;show fm P T _ ⟨iJ done (jG bl lr n row ba β c n8) t0,l3 bl d tv lr rows8 row n8 ba β c done h0⟩ K';refine sj (v:=.ptr 0 (some bl) 31 0 0) ((n3 (done:=done) (jG bl lr n row ba β c n8) t0 rfl).trans g0) ?_;refine f _ ⟨ba,β,c,?_⟩;show(⟨iX (iJ done (jG bl lr n row ba β c n8) t0) 113 _,l3 bl d tv lr rows8 row n8 ba β c done h0⟩:S)=⟨iJ (1::done) (jG bl lr n row ba β c n8) t0,l3 bl d tv lr rows8 row n8 ba β c (1::done) h0⟩;rw[ij (k:=1) (jG bl lr n row ba β c n8) t0 J9 wo (qM 1 rfl)];rfl
  |2,hj=>
   cases hj;show fm P T _ ⟨iJ done (jG bl lr n row ba β c n8) t0,l3 bl d tv lr rows8 row n8 ba β c done h0⟩ K';refine tS (ik (done:=done) (hq 1 qD) (jG bl lr n row ba β c n8) t0 wo (qM 1 rfl)) ?_;refine f _ ⟨ba,β,c,?_⟩;show(⟨iX (iJ done (jG bl lr n row ba β c n8) t0) 114 _,l3 bl d tv lr rows8 row n8 ba β c done h0⟩:S)=⟨iJ (2::done) (jG bl lr n row ba β c n8) t0,l3 bl d tv lr rows8 row n8 ba β c (2::done) h0⟩;rw[ij (k:=2) (jG bl lr n row ba β c n8) t0 J9 wo (qM 2 rfl)];rfl
  |3,hj=>
   cases hj;show fm P T _ ⟨iJ done (jG bl lr n row ba β c n8) t0,l3 bl d tv lr rows8 row n8 ba β c done h0⟩ K';refine qG (ik (done:=done) (hq 2 qD) (jG bl lr n row ba β c n8) t0 wo (qM 2 rfl)) ?_;refine f _ ⟨ba,β,c,?_⟩;show(⟨iX (iJ done (jG bl lr n row ba β c n8) t0) 115 _,l3 bl d tv lr rows8 row n8 ba β c done h0⟩:S)=⟨iJ (3::done) (jG bl lr n row ba β c n8) t0,l3 bl d tv lr rows8 row n8 ba β c (3::done) h0⟩;rw[ij (k:=3) (jG bl lr n row ba β c n8) t0 J9 wo (qM 3 rfl)];rfl
  |4,hj=>
   cases hj;show fm P T _ ⟨iJ done (jG bl lr n row ba β c n8) t0,l3 bl d tv lr rows8 row n8 ba β c done h0⟩ K';have t:fG done 11=false:=by
    cases hh:fG done 11
    ·rfl
    ·exact absurd (q 11 _ _ rfl hh 4 qD) (by rw[hf];decide)
   refine vP (v:=.sl false 3 lr) (r:=Am d tv (.sl false 3 lr)) (b:=some bl) (ty:=58) (ik (done:=done) (hq 3 qD) (jG bl lr n row ba β c n8) t0 wo (qM 3 rfl)) (by show AE bl d tv lr n8 c done=_;unfold AE;rw[t];rfl) qD ⟨by show(24:Nat)<31;decide,rfl⟩ ?_;refine f _ ⟨ba,β,c,?_⟩;show(⟨iX (iJ done (jG bl lr n row ba β c n8) t0) 116 _,l3 bl d tv lr rows8 row n8 ba β c done h0⟩:S)=⟨iJ (4::done) (jG bl lr n row ba β c n8) t0,l3 bl d tv lr rows8 row n8 ba β c (4::done) h0⟩;rw[ij (k:=4) (jG bl lr n row ba β c n8) t0 J9 wo (qM 4 rfl)];rfl
  |5,hj=>
   cases hj;show fm P T _ ⟨iJ done (jG bl lr n row ba β c n8) t0,l3 bl d tv lr rows8 row n8 ba β c done h0⟩ K';have G:fG done 8=false:=by
    cases hh:fG done 8
    ·rfl
    ·exact absurd (q 8 _ _ rfl hh 5 qD) (by rw[hf];decide)
   refine vY (ik (done:=done) (hq 4 qD) (jG bl lr n row ba β c n8) t0 wo (qM 4 rfl)) ?_;refine m _ _ (by show AD lr rows8 ba c done=none;unfold AD;rw[G,hf];rfl) λl n' u=>?_;have u:n=n':=(u.trans y.symm).symm;subst u;refine f _ ⟨l,β,c,?_⟩;have e1:iJ done (jG bl lr n row ba β c n8) t0=iJ done (jG bl lr n row l β c n8) t0:=by
    funext z
    simp only[iJ,jG,hf];rfl
   have e2:Hp.put (l3 bl d tv lr rows8 row n8 ba β c done h0) 1000300 (jv l lr)=l3 bl d tv lr rows8 row n8 l β c (5::done) h0:=by
    funext z
    unfold Hp.put l3 AD
    by_cases hz:z=1000300
    ·rw[ae hz,ae hz,hM (i:=5) (j:=8) qD,G,kH];rfl
    ·rw[aa hz,aa hz,aa hz];rfl
   show(⟨iX (iJ done (jG bl lr n row ba β c n8) t0) 117 _,Hp.put (l3 bl d tv lr rows8 row n8 ba β c done h0) 1000300 (jv l lr)⟩:S)=_;rw[e1,e2,ij (k:=5) (jG bl lr n row l β c n8) t0 J9 wo (qM 5 rfl)]
  |6,hj=>
   cases hj;show fm P T _ ⟨iJ done (jG bl lr n row ba β c n8) t0,l3 bl d tv lr rows8 row n8 ba β c done h0⟩ K';refine B7 (cs:=row) (r:=row) (b:=some b3) (ty:=91) ((n3 (done:=done) (jG bl lr n row ba β c n8) t0 rfl).trans g3) h3 qD ⟨by rw[yJ.1];decide,by rw[cV];exact bD (by rw[yJ.1];decide)⟩ ?_;refine f _ ⟨ba,β,c,?_⟩;show(⟨iX (iJ done (jG bl lr n row ba β c n8) t0) 118 _,l3 bl d tv lr rows8 row n8 ba β c done h0⟩:S)=⟨iJ (6::done) (jG bl lr n row ba β c n8) t0,l3 bl d tv lr rows8 row n8 ba β c (6::done) h0⟩;rw[ij (k:=6) (jG bl lr n row ba β c n8) t0 J9 wo (qM 6 rfl)];rfl
  |7,hj=>
   cases hj;show fm P T _ ⟨iJ done (jG bl lr n row ba β c n8) t0,l3 bl d tv lr rows8 row n8 ba β c done h0⟩ K';have G:fG done 8=false:=by
    cases hh:fG done 8
    ·rfl
    ·exact absurd (q 8 _ _ rfl hh 7 qD) (by rw[hf];decide)
   refine yy (ik (done:=done) (hq 6 qD) (jG bl lr n row ba β c n8) t0 wo (qM 6 rfl)) yJ.1 yJ.2 (by show Cc row β done=none;unfold Cc;rw[hf];rfl) λg=>?_;refine f _ ⟨ba,g,c,?_⟩;have e1:iJ done (jG bl lr n row ba β c n8) t0=iJ done (jG bl lr n row ba g c n8) t0:=by
    funext z
    simp only[iJ,jG,hf];rfl
   have e2:Hp.put (l3 bl d tv lr rows8 row n8 ba β c done h0) 1000119 ⟨some g,91,3,[row]⟩=l3 bl d tv lr rows8 row n8 ba g c (7::done) h0:=by
    funext z
    unfold Hp.put l3 Cc
    by_cases hz:z=1000119
    ·subst hz;rw[ae rfl,aa qD,ae rfl,kH];rfl
    ·rw[aa hz]
     by_cases hz2:z=1000300
     ·rw[ae hz2,ae hz2];rfl
     ·rw[aa hz2,aa hz2,aa hz,aa hz];rfl
   show(⟨iX (iJ done (jG bl lr n row ba β c n8) t0) 119 _,Hp.put (l3 bl d tv lr rows8 row n8 ba β c done h0) 1000119 _⟩:S)=_;rw[e1,e2,<-ij (k:=7) (jG bl lr n row ba g c n8) t0 J9 wo (qM 7 rfl)]
  |8,hj=>
   cases hj;show fm P T _ ⟨iJ done (jG bl lr n row ba β c n8) t0,l3 bl d tv lr rows8 row n8 ba β c done h0⟩ K';have t:fG done 11=false:=by
    cases hh:fG done 11
    ·rfl
    ·exact absurd (q 11 _ _ rfl hh 8 qD) (by rw[hf];decide)
   have H:=hq 5 qD;have I:=hq 7 qD;refine AB (ty:=91) (rows:=lr) (b:=ba) (ty2:=91) (b2:=some β) (news:=[row]) (ik (done:=done) (hq 5 qD) (jG bl lr n row ba β c n8) t0 wo (qM 5 rfl)) (by show AD lr rows8 ba c done=_;unfold AD;rw[hf,H];rfl) (ik (done:=done) (hq 7 qD) (jG bl lr n row ba β c n8) t0 wo (qM 7 rfl)) (by show Cc row β done=_;unfold Cc;rw[I];rfl) (by subst hP;rfl) (by subst hP;exact y.symm) D λg=>?_;rw[<-B,<-C];refine f _ ⟨ba,β,g,?_⟩;have e1:iJ done (jG bl lr n row ba β c n8) t0=iJ done (jG bl lr n row ba β g n8) t0:=by
    funext z
    simp only[iJ,jG,hf];rfl
   have e2:Hp.put (l3 bl d tv lr rows8 row n8 ba β c done h0) 1000300 ⟨g,91,3,rows8⟩=l3 bl d tv lr rows8 row n8 ba β g (8::done) h0:=by
    funext z
    unfold Hp.put l3 AD AE
    by_cases hz:z=1000300
    ·rw[ae hz,ae hz,kH];rfl
    ·rw[aa hz,aa hz,aa hz];rw[hM (i:=8) (j:=11) qD,t];rfl
   show(⟨iX (iJ done (jG bl lr n row ba β c n8) t0) 120 _,Hp.put (l3 bl d tv lr rows8 row n8 ba β c done h0) 1000300 _⟩:S)=_;rw[e1,e2,<-ij (k:=8) (jG bl lr n row ba β g n8) t0 J9 wo (qM 8 rfl)]
  |9,hj=>
   cases hj;show fm P T _ ⟨iJ done (jG bl lr n row ba β c n8) t0,l3 bl d tv lr rows8 row n8 ba β c done h0⟩ K';refine tS (ik (done:=done) (hq 0 qD) (jG bl lr n row ba β c n8) t0 wo (.head _)) ?_;refine f _ ⟨ba,β,c,?_⟩;show(⟨iX (iJ done (jG bl lr n row ba β c n8) t0) 121 _,l3 bl d tv lr rows8 row n8 ba β c done h0⟩:S)=⟨iJ (9::done) (jG bl lr n row ba β c n8) t0,l3 bl d tv lr rows8 row n8 ba β c (9::done) h0⟩;rw[ij (k:=9) (jG bl lr n row ba β c n8) t0 J9 wo (qM 9 rfl)];rfl
  |10,hj=>
   cases hj;show fm P T _ ⟨iJ done (jG bl lr n row ba β c n8) t0,l3 bl d tv lr rows8 row n8 ba β c done h0⟩ K';refine qG (ik (done:=done) (hq 9 qD) (jG bl lr n row ba β c n8) t0 wo (qM 9 rfl)) ?_;refine f _ ⟨ba,β,c,?_⟩;show(⟨iX (iJ done (jG bl lr n row ba β c n8) t0) 122 _,l3 bl d tv lr rows8 row n8 ba β c done h0⟩:S)=⟨iJ (10::done) (jG bl lr n row ba β c n8) t0,l3 bl d tv lr rows8 row n8 ba β c (10::done) h0⟩;rw[ij (k:=10) (jG bl lr n row ba β c n8) t0 J9 wo (qM 10 rfl)];rfl
  |11,hj=>
   cases hj;show fm P T _ ⟨iJ done (jG bl lr n row ba β c n8) t0,l3 bl d tv lr rows8 row n8 ba β c done h0⟩ K';refine vQ (v:=.own 1000300 c 3 n8) (r:=Am d tv (.sl false 3 lr)) (b:=some bl) (ty:=58) (ik (done:=done) (hq 10 qD) (jG bl lr n row ba β c n8) t0 wo (qM 10 rfl)) (ik (done:=done) (hq 8 qD) (jG bl lr n row ba β c n8) t0 wo (qM 8 rfl)) ⟨rfl,rfl⟩ (by show AE bl d tv lr n8 c done=_;unfold AE;rw[hf];rfl) qD (by show(24:Nat)+1<=31;decide) ?_;refine f _ ⟨ba,β,c,?_⟩;have e2:Hp.put (l3 bl d tv lr rows8 row n8 ba β c done h0) 0 ⟨some bl,58,31,[kP (Am d tv (.sl false 3 lr)) 24 (V.cells (.own 1000300 c 3 n8))]⟩=l3 bl d tv lr rows8 row n8 ba β c (11::done) h0:=by
    funext z
    unfold Hp.put l3 AE
    by_cases hz:z=0
    ·subst hz;rw[ae rfl,aa qD,aa qD,ae rfl,kH];rfl
    ·rw[aa hz,aa hz,aa hz];rfl
   show(⟨iJ done (jG bl lr n row ba β c n8) t0,Hp.put (l3 bl d tv lr rows8 row n8 ba β c done h0) 0 _⟩:S)=_;rw[e2,<-sh (k:=11) (jG bl lr n row ba β c n8) t0 rfl]
  |i+12,hj=>exact absurd (ah.1 hj).1 (by show¬i+12<12;omega)
 ·obtain⟨ba,β,c,rfl⟩:=F;rw[yt _ _ (λp hp=>hd p.1 ?_)]
  ·have e:l3 bl d tv lr rows8 row n8 ba β c done h0=JK [(0,some (fV bl d tv (.own 1000300 c 3 n8))),(1000300,some (jv c rows8)),(1000119,some ⟨some β,91,3,[row]⟩)] h0:=by
    funext k
    unfold l3 AD Cc AE;rw[ae (hd 8 qD),ae (hd 7 qD),ae (hd 11 qD)];simp only[JK];have nb:∀a b:Nat,a≠b->Nat.beq a b=false:=λa b h=>by
     cases hb:Nat.beq a b
     ·rfl
     ·exact absurd (aY hb) h
    by_cases k1:k=1000300
    ·subst k1;rfl
    ·by_cases k2:k=1000119
     ·subst k2;rfl
     ·by_cases w:k=0
      ·subst w;rfl
      ·rw[aa k1,aa k2,aa w,nb _ _ w,nb _ _ k1,nb _ _ k2]
   rw[e];exact hK ba β c
  ·have hm:p.1∈(jG bl lr n row ba β c n8).map (·.1):=aC.2 ⟨p,hp,rfl⟩;have A:∀x∈([0,1,2,3,4,5,6,7,8,9,10]:List Nat),x<12:=by decide
   exact A _ hm
 ·refine⟨none,0,none,?_⟩;rw[ys];have e:l3 bl d tv lr rows8 row n8 none 0 none [] h0=h0:=by
   funext k
   unfold l3
   by_cases k1:k=1000300
   ·rw[ae k1,k1,hz1];rfl
   ·rw[aa k1]
    by_cases k2:k=1000119
    ·rw[ae k2,k2,hz2];rfl
    ·rw[aa k2]
     by_cases w:k=0
     ·rw[ae w,w,E];rfl
     ·rw[aa w]
  rw[e]
end Go.Proofs.YtobngncjflogcaaGreat.AM
