/-
  Part 14 of what the law ShopPlays reaches: the plain machine, contracts of the functions and plain laws; each lemma says its own condition.
-/
import Derived.Test.YtobngncjflogcaaGreatShopPlays12
import Derived.Test.YtobngncjflogcaaGreatShopPlays13
import Derived.Test.YtobngncjflogcaaGreatShopPlays7
import Derived.Test.YtobngncjflogcaaGreatShopPlays6
import Derived.Test.YtobngncjflogcaaGreatShopPlays5
set_option linter.unusedVariables false
set_option linter.unusedSimpArgs false
namespace Go.Proofs.YtobngncjflogcaaGreat.AM
open Go Go.RowKit
set_option maxRecDepth 100000
set_option maxHeartbeats 2000000
def Em:AC:=qr [qo 2 (.alloc 72 xJ),qz 3 0] (qr [qm 21 0,qa 22 137 [.t 21],qm 20 22,qx 23 0 20,qx 24 1 20,qm 4 23,qm 5 24] (qq (qr [qm 25 4,qo 26 (.len false (.t 25)),qc 27 .eql 26 0] (qu 27 (qr [qo 28 (.build xJ []),qs 38 2 28,qz 3 7] .ret) .skip)) (qr [qm 30 4,qo 31 (.iaddr 2 (.t 30) (qk 0)),qf 32 1 31,ql 33 32,qa 34 138 [.t 33,qk 18],qm 29 34,qx 35 0 29,qx 36 1 29,qx 37 2 29,qm 6 35,qm 7 36,qm 8 37] (qq (qr [qm 38 4,qo 39 (.iaddr 2 (.t 38) (qk 0)),qf 40 0 39,ql 41 40,qc 42 .neq 41 1,qm 43 42,qg 44 43 false (.mov (.t 8)),qg 45 43 false (.not (.t 44)),qo 46 (.pick (.t 43) (.c (.bool true)) (.t 45)),qm 47 46,qg 48 47 false (.mov (.t 7)),qg 49 47 false (.len true (.t 48)),qg 50 47 false (.bin .gtr (.t 49) (qk 500)),qo 51 (.pick (.t 47) (.c (.bool true)) (.t 50))] (qu 51 (qr [qo 52 (.build xJ []),qs 38 2 52,qz 3 3] .ret) .skip)) (qq (.region true [qm 53 6,qo 54 (.iaddr 1 (.t 53) (qk 0)),ql 55 54,qm 56 6,qo 57 (.iaddr 1 (.t 56) (qk 1)),ql 58 57,qm 59 7,qm 60 4,qo 61 (.iaddr 2 (.t 60) (qk 0)),qf 62 1 61,ql 63 62,qo 64 (.len true (.t 63)),qo 65 (.bin .add (qk 7) (.t 64)),qo 66 (.build xJ [(0,1,(.t 55)),(1,1,(.t 58)),(2,1,(.t 59)),(37,1,(.t 65))]),qo 9 (.alloc 72 xJ),qs 38 9 66]) (qq (qr [qz 67 0] (.block 0 (.loop (qr [qc 68 .lss 67 8] (qq (qu 68 .skip (.exit 0)) (qq (.block 1 (qr [qm 69 67,qm 10 69] (.region true [qm 70 10,qm 71 6,qm 72 10,qo 73 (.bin .mul (qk 2) (.t 72)),qo 74 (.bin .add (qk 2) (.t 73)),qo 75 (.iaddr 1 (.t 71) (.t 74)),ql 76 75,qm 77 6,qm 78 10,qo 79 (.bin .mul (qk 2) (.t 78)),qo 80 (.bin .add (qk 3) (.t 79)),qo 81 (.iaddr 1 (.t 77) (.t 80)),ql 82 81,qo 83 (.build Bo [(0,1,(.t 76)),(1,1,(.t 82))]),qf 84 3 9,qo 85 (.iarr 8 2 (.t 84) (.t 70)),qs 2 85 83]))) (qR [qc 86 .add 67 1,qm 67 86]))))))) (qr [qf 87 3 9,qd 88 16 87,qf 89 19 9,qs 16 89 88] (qr [qm 90 7,qm 11 90] (qq (qr [qm 91 4,qo 92 (.slsl 2 (.t 91) (some (qk 1)) none),qo 93 (.len false (.t 92)),qz 94 0] (.block 2 (.loop (qr [qb 95 .lss 94 93] (qq (qu 95 .skip (.exit 2)) (qq (.block 3 (qr [qo 96 (.iaddr 2 (.t 92) (.t 94)),qd 97 2 96,qo 13 (.alloc 126 uN),qs 2 13 97] (qq (qr [qf 98 0 13,ql 99 98,qc 100 .eql 99 3,qm 101 100,qg 102 101 true (.faddr 1 (.t 13)),qg 103 101 true (.load1 (.t 102)),qg 104 101 true (.bin .eql (.t 103) (.c qe)),qo 105 (.pick (.t 101) (.t 104) (.c (.bool false))),qm 106 105,qg 107 106 true (.faddr 36 (.t 9)),qg 108 106 true (.load1 (.t 107)),qg 109 106 true (.not (.t 108)),qo 110 (.pick (.t 106) (.t 109) (.c (.bool false)))] (qu 110 (qr [qf 111 36 9,⟨none,none,.store 1 (.t 111) (.c (.bool true))⟩] (qr [qf 112 37 9,ql 113 112,qc 114 .add 113 7,qf 115 37 9,qs 1 115 114] (.exit 3))) .skip)) (qr [qf 117 1 13,ql 118 117,qa 119 138 [.t 118,qk 2],qm 116 119,qx 120 0 116,qx 121 1 116,qx 122 2 116,qm 14 120,qm 15 121,qm 16 122] (qq (qr [qf 123 0 13,ql 124 123,qc 125 .neq 124 2,qm 126 125,qg 127 126 false (.mov (.t 16)),qg 128 126 false (.not (.t 127)),qo 129 (.pick (.t 126) (.c (.bool true)) (.t 128))] (qu 129 (.exit 2) .skip)) (qr [qm 131 15,qa 132 139 [.t 131],qm 130 132,qx 133 0 130,qx 134 1 130,qm 17 133,qm 18 134] (qq (.region true [qm 135 14,qo 136 (.iaddr 1 (.t 135) (qk 0)),ql 137 136,qm 138 14,qo 139 (.iaddr 1 (.t 138) (qk 1)),ql 140 139,qm 141 17,qo 142 (.build xI [(0,1,(.t 137)),(1,1,(.t 140)),(2,1,(.t 141))]),qo 19 (.alloc 91 xI),qs 3 19 142]) (qq (qr [qm 143 18,qc 144 .neq 143 0,qm 145 144,qg 146 145 false (.loadn 38 (.t 9)),qg 147 145 false (.mov (.t 11)),qg 148 145 false (.len true (.t 147)),qg 149 145 false (.loadn 3 (.t 19)),qg 150 145 false (.call 81 [.t 146,.t 148,.t 149]),qg 151 145 false (.bin .neq (.t 150) (qk 0)),qo 152 (.pick (.t 145) (.c (.bool true)) (.t 151))] (qu 152 (.exit 2) .skip)) (qr [qm 154 17,qm 155 11,qa 156 104 [.t 154,.t 155],qm 153 156,qx 157 0 153,qx 158 1 153,qm 11 157] (qr [qf 159 35 9,ql 160 159,qd 161 3 19,qo 162 (.bslice 91 3 [.t 161]),qo 163 (.append 91 3 40 (.t 160) (.t 162)),qf 164 35 9,qs 1 164 163] (qr [qf 165 0 19,ql 166 165,qf 167 1 19,ql 168 167,qf 169 1 9,ql 170 169,qf 171 35 9,ql 172 171,qo 173 (.len false (.t 172)),qb 174 .add 170 173,qo 175 (.build Bo [(0,1,(.t 168)),(1,1,(.t 174))]),qf 176 19 9,qo 177 (.iarr 8 2 (.t 176) (.t 166)),qs 2 177 175] (qR [qf 178 37 9,ql 179 178,qf 180 1 13,ql 181 180,qo 182 (.len true (.t 181)),qo 183 (.bin .add (qk 7) (.t 182)),qb 184 .add 179 183,qf 185 37 9,qs 1 185 184])))))))))))) (qR [qc 186 .add 94 1,qm 94 186]))))))) (qr [qd 187 38 9,qs 38 2 187,qz 3 0] .ret))))))))))
theorem Oe:fF Tryz.prog 97 Tryz.f97 Em [.cn 2 38,.t 3] 1 er:=⟨Tryz.func97,by decide+kernel,by kernel_rfl,by kernel_rfl,by decide+kernel⟩
structure Zr(F:Nat->Int) where
 i:Nat
 k:Int
 f:Nat->Int
 hi:i<=8
 hk:k=(i:Int)
 hf:∀j,j<16->f j=if j<2*i then F j else 0
theorem Of(P:Prim)(hP:P=dn)(T T1:c8)(s:BS)(FrS:List Frame)(XI:∀f∈FrS,f.body.length<=4000)(Pn:FrS.length<=1048576)(m:List (List V))(H:m=iN FrS)(fn:Int)
  (h1:gK T 137 [.str s] (.tup [.sl false 2 m,qI fn]))(hg hb:BS->Int)(ht:BS->BS)(hf:BS->Nat->Int)(ho:BS->Bool)
  (nr:BS->List (List V))(no:BS->Bool)(nt:BS->BS)(h2:∀x,x.length<=4000->gK T 138 [.str x,qI 18] (.tup [.sl false 1 (nr x),.str (nt x),.bool (no x)]))
  (PC:∀x,no x=true->nr x=gL (hg x::hb x::(List.range 16).map (hf x))/\nt x=ht x)(XJ:∀x,ho x=(no x&&decide ((nt x).length<=500)))(Px:∀x,0<=hb x/\hb x<=2147483647)
  (Wj:BS->List (List V))(I:BS->Bool)(Wk:BS->BS)(h3:∀x,x.length<=4000->gK T 138 [.str x,qI 2] (.tup [.sl false 1 (Wj x),.str (Wk x),.bool (I x)]))
  (rw rq:BS->Int)(rd:BS->List (List V))(ro:BS->Bool)(e2:BS->Int)(TZ:∀x,I x=true->Wj x=gL [rw x,rq x])
  (XK:∀x,x.length<=4000->I x=true->gK T 139 [.str (Wk x)] (.tup [.sl false 3 (rd x),qI (e2 x)]))
  (XL:∀x,rw x=(jH x).who/\rq x=(jH x).seq/\rd x=(jH x).delta.map bd/\ro x=pa x)(XM:∀x,ro x=true↔(I x=true/\e2 x=0/\iL (jH x)=0))
  (nx:Int->(Nat->Int)->Nat->Int->eP->Int)(h4:V7 T 81 nx)(V9:∀b tb n sz r,nx b tb n sz r=gw b tb n sz r)
  (dt:BS->BS->BS)(de:BS->BS->Int)(h5:∀x now,gK T 104 [.sl false 3 (rd x),.str now] (.tup [.str (dt x now),qI (de x now)]))(XN:∀x now,dt x now=(kl (jH x).delta now).1)
  (rl:hI)(re:Int)(hr:ly hg hb ht hf ho FrS=(rl,re))
  (R:S->Prop)(G:yo [.cn 2 38,.t 3] 1000163 rl re R):gj P T T1 Em (S0 [.str s] Hp.emp) R (λ_ _=>False) R:=by
 have O:P.dv m=(FrS.length:Int):=by rw[gE hP,H];simp[iN]
 have z0:P.fC 0 0:=iu hP qD;have z1:P.fC 0 1:=iu hP qD;have T0:∀i:Nat,i<8->P.fC 0 (i:Int)/\P.iO (i:Int) 8:=λi hi=>⟨iu hP qW,kN hP qW⟩;have hN:∀i:Nat,P.nat (i:Int)=i:=λi=>by subst hP;rfl
 cbv;intro U;cbv;refine h1 _ _ ?_;cbv
 rcases FrS with _|⟨⟨k0,b0⟩,fs⟩
 ·have e0:P.dv m=0:=by rw[O];rfl
  simp only[ly,aL] at hr;refine iv (pC hP e0) ?_;cbv
  repeat' first|(refine qA ?_;cbv)|(intro d;cbv)
  exact G _ _ _ _ _ _ (λ_=>0) (λ_=>0) _ _ [] _ (c6.refl _) ⟨rfl,rfl,an 0,ah 38,rfl⟩ (.inl ⟨rfl,rfl,qD⟩) ⟨by rw[<-hr.1];rfl,by rw[<-hr.1];rfl,by rw[<-hr.1];rfl,by rw[<-hr.1];rfl,λ_ _=>by rw[<-hr.1];rfl,λ_ _=>by rw[<-hr.1];rfl,by rw[<-hr.1];rfl,by rw[<-hr.1];rfl,hr.2⟩
 have e0:¬P.dv m=0:=by rw[O];simp only[au];((try simp only[nc] at*);omega)
 have J:P.row m (P.nat 0) [qI k0,.str b0]:=ga hP (i:=0) rfl (by rw[H];rfl);have RC:b0.length<=4000:=XI ⟨k0,b0⟩ (by simp);have c2:=h2 b0 RC;have T2:=PC b0;have B:=XJ b0;have Wl:=Px b0;simp only[ly] at hr;have bad:(k0≠1\/ho b0=false)->xo=rl/\3=re:=λh=>by
  rw[ae h] at hr;simpa using hr
 clear h2 PC XJ Px;refine hJ (wk hP e0) ?_;cbv
 repeat' first|(refine qA ?_;cbv)|(intro d;cbv)
 refine⟨_,J,?_⟩;cbv
 repeat' first|(refine qA ?_;cbv)|(intro d;cbv)|(refine c2 _ _ ?_;cbv)|fail
 refine⟨_,J,?_⟩;cbv;clear c2;refine ab (λg=>?_) (λg=>?_)
 ·obtain⟨r1,r2⟩:=bad (.inl (hH hP g));cbv
  repeat' first|(refine qA ?_;cbv)|(intro d;cbv)
  exact G _ _ _ _ _ _ (λ_=>0) (λ_=>0) _ _ [] _ (c6.refl _) ⟨rfl,rfl,an 0,ah 38,rfl⟩ (.inl ⟨rfl,rfl,qD⟩) ⟨by rw[<-r1];rfl,by rw[<-r1];rfl,by rw[<-r1];rfl,by rw[<-r1];rfl,λ_ _=>by rw[<-r1];rfl,λ_ _=>by rw[<-r1];rfl,by rw[<-r1];rfl,by rw[<-r1];rfl,r2⟩
 have SZ:k0=1:=gZ hP g;cbv;refine ab (λg=>?_) (λg=>?_)
 rotate_left
 ·obtain⟨r1,r2⟩:=bad (.inr (by rw[B,g];rfl));cbv
  repeat' first|(refine qA ?_;cbv)|(intro d;cbv)
  exact G _ _ _ _ _ _ (λ_=>0) (λ_=>0) _ _ [] _ (c6.refl _) ⟨rfl,rfl,an 0,ah 38,rfl⟩ (.inl ⟨rfl,rfl,qD⟩) ⟨by rw[<-r1];rfl,by rw[<-r1];rfl,by rw[<-r1];rfl,by rw[<-r1];rfl,λ_ _=>by rw[<-r1];rfl,λ_ _=>by rw[<-r1];rfl,by rw[<-r1];rfl,by rw[<-r1];rfl,r2⟩
 have Wm:=g;obtain⟨W,BD⟩:=T2 Wm;rw[Wm] at B;cbv;refine ab (λg=>?_) (λg=>?_)
 ·have g5:500<P.c9 (nt b0):=fJ hP g;rw[da hP] at g5;obtain⟨r1,r2⟩:=bad (.inr (by rw[B,cU qO];rfl));cbv
  repeat' first|(refine qA ?_;cbv)|(intro d;cbv)
  exact G _ _ _ _ _ _ (λ_=>0) (λ_=>0) _ _ [] _ (c6.refl _) ⟨rfl,rfl,an 0,ah 38,rfl⟩ (.inl ⟨rfl,rfl,qD⟩) ⟨by rw[<-r1];rfl,by rw[<-r1];rfl,by rw[<-r1];rfl,by rw[<-r1];rfl,λ_ _=>by rw[<-r1];rfl,λ_ _=>by rw[<-r1];rfl,by rw[<-r1];rfl,by rw[<-r1];rfl,r2⟩
 have g5:¬500<P.c9 (nt b0):=fM hP g;rw[da hP] at g5;have L2:ho b0=true:=by rw[B,cA qO];rfl
 rw[aa (by rw[L2];simp[SZ])] at hr;simp only[aL] at hr;obtain⟨mU,MJ⟩:=hr;obtain⟨L0,u⟩:∃L,L=pL (hg b0) (hb b0) (ht b0) (hf b0) ((b0.length:Int)+7):=⟨_,rfl⟩;have Wa:hg b0=L0.gen:=by rw[u];rfl
 have Wb:hb b0=L0.base:=by rw[u];rfl
 have Wc:ht b0=L0.text:=by rw[u];rfl
 have Wd:∀j,hf b0 j=L0.first j:=λj=>by rw[u];rfl
 have We:hf b0=L0.table:=by rw[u];rfl
 have Wn:L0.e8=[]:=by rw[u];rfl
 have Wf:false=L0.whole:=by rw[u];rfl
 have Wo:L0.eF=(b0.length:Int)+7:=by rw[u];rfl
 have Wg:0<=L0.base/\L0.base<=2147483647:=by rw[u];exact Wl
 rw[<-u] at mU;clear u;have n0:P.row (nr b0) (P.nat 0) [qI (hg b0)]:=ga hP (i:=0) rfl (by rw[W];rfl);have n1:P.row (nr b0) (P.nat 1) [qI (hb b0)]:=ga hP (i:=1) rfl (by rw[W];rfl);have nj:∀(j:Nat)(k:Int),k=((j+2:Nat):Int)->j<16->P.row (nr b0) (P.nat k) [qI (hf b0 j)]:=λj k hk hj=>ga hP hk (by
  rw[W,gL,av];show((List.map (hf b0) (List.range 16))[j]?).map _=_;rw[av,List.getElem?_range hj];rfl)
 rw[BD]
 generalize nr b0=Zs at n0 n1 nj⊢
 have g1:P.add 7 (P.c9 b0)=(b0.length:Int)+7:=by rw[add_eq hP,da hP];omega
 have g2:P.i64 (P.add 7 (P.c9 b0)):=by rw[g1];exact eR hP qO
 have z2:P.fC 1 (P.dv m):=lE hP (by rw[O];simp only[au];((try simp only[nc] at*);omega));have z3:P.fC (P.dv m) (P.dv m):=lE hP (aN _);have T3:P.jn m 1 (P.dv m)=iN fs:=by
  rw[O,H];subst hP;show((iN (⟨k0,b0⟩::fs)).take ((((⟨k0,b0⟩:Frame)::fs).length:Int)).toNat).drop 1=_;rw[aA,aY (by simp[iN])];rfl
 obtain⟨C,K⟩:∃C,C=P.jn m 1 (P.dv m):=⟨_,rfl⟩;have GK:P.dv C=(fs.length:Int):=by rw[gE hP,K,T3];simp[iN]
 clear bad g T2 W BD Wm L2 B;cbv
 repeat' first|(refine qA ?_;cbv)|(intro d;cbv)
 refine⟨_,n0,?_⟩;cbv
 repeat' first|(refine qA ?_;cbv)|(intro d;cbv)
 refine⟨_,n1,?_⟩;cbv
 repeat' first|(refine qA ?_;cbv)|(intro d;cbv)
 refine⟨_,J,?_⟩;cbv
 repeat' first|(refine qA ?_;cbv)|(intro X;cbv)
 refine⟨Zr (hf b0),λy=>[(2,.ptr 2 (some U) 38 0 0),(4,.sl false 2 m),(6,.sl false 1 Zs),(7,.str (ht b0)),(9,.ptr 9 (some X) 38 0 0),(67,qI y.k)],
  λy=>[(2,⟨some U,72,38,[[qI 0,qI 0,.str [],qI 0,qI 0,qI 0,qI 0,qI 0,qI 0,qI 0,qI 0,qI 0,qI 0,qI 0,qI 0,qI 0,qI 0,qI 0,qI 0,qI 0,qI 0,qI 0,qI 0,qI 0,qI 0,qI 0,qI 0,qI 0,qI 0,qI 0,qI 0,qI 0,qI 0,qI 0,qI 0,.nilsl,.bool false,qI 0]]⟩),(9,⟨some X,72,38,[[qI (hg b0),qI (hb b0),.str (ht b0),qI (y.f 0),qI (y.f 1),qI (y.f 2),qI (y.f 3),qI (y.f 4),qI (y.f 5),qI (y.f 6),qI (y.f 7),qI (y.f 8),qI (y.f 9),qI (y.f 10),qI (y.f 11),qI (y.f 12),qI (y.f 13),qI (y.f 14),qI (y.f 15),qI 0,qI 0,qI 0,qI 0,qI 0,qI 0,qI 0,qI 0,qI 0,qI 0,qI 0,qI 0,qI 0,qI 0,qI 0,qI 0,.nilsl,.bool false,qI (P.add 7 (P.c9 b0))]]⟩)],λy=>8-y.i,
  ⟨_,c6.refl _,⟨0,0,λ_=>0,qW,rfl,λj _=>by simp⟩,⟨rfl,rfl,rfl,rfl,rfl,rfl,trivial⟩,⟨rfl,rfl,trivial⟩⟩,?_⟩
 rintro⟨i,k,f,hi,hk,Wp⟩;cbv;refine ab (λg=>?_) (λg=>?_)
 ·have Wq:k<8:=fJ hP g;have Y:i<8:=by((try simp only[nc] at*);omega)
  have q1:P.fC 0 k:=(by have:=(T0 i Y).1;rw[<-hk] at this;exact this);have q2:P.iO k 8:=(by have:=(T0 i Y).2;rw[<-hk] at this;exact this);have m3:P.i64 (P.add k 1):=by rw[add_eq hP];exact eR hP qO
  have e1:P.add k 1=((i+1:Nat):Int):=by rw[add_eq hP,hk];((try simp only[nc] at*);omega)
  have D:P.nat k=i:=by rw[hk];exact hN i
  have em:P.mul 2 k=((2*i:Nat):Int):=by subst hP;show 2*k=_;((try simp only[nc] at*);omega)
  have m4:P.i64 (P.mul 2 k):=by rw[em];exact eR hP qW
  have ea:P.add 2 (P.mul 2 k)=((2*i+2:Nat):Int):=by rw[add_eq hP,em];((try simp only[nc] at*);omega)
  have eb:P.add 3 (P.mul 2 k)=(((2*i+1)+2:Nat):Int):=by rw[add_eq hP,em];((try simp only[nc] at*);omega)
  have m5:P.i64 (P.add 2 (P.mul 2 k)):=by rw[ea];exact eR hP qW
  have m6:P.i64 (P.add 3 (P.mul 2 k)):=by rw[eb];exact eR hP qW
  have m7:P.fC 0 (P.add 2 (P.mul 2 k)):=iu hP (by rw[ea];omega);have m8:P.fC 0 (P.add 3 (P.mul 2 k)):=iu hP (by rw[eb];omega);have r1:=nj (2*i) _ ea qW;have r2:=nj (2*i+1) _ eb qW;have fin:∀f':Nat->Int,f' (2*i)=hf b0 (2*i)->f' (2*i+1)=hf b0 (2*i+1)->(∀j,j≠2*i->j≠2*i+1->f' j=f j)->∀j,j<16->f' j=if j<2*(i+1) then hf b0 j else 0:=by
   intro f' a b c j hj
   by_cases j1:j=2*i
   ·subst j1;rw[a,ae qW]
   ·by_cases j2:j=2*i+1
    ·subst j2;rw[b,ae qW]
    ·rw[c j j1 j2,Wp j hj]
     by_cases j3:j<2*i
     ·rw[ae j3,ae qW]
     ·rw[aa j3,aa qW]
  generalize hf b0 (2*i)=v3 at r1 fin
  generalize hf b0 (2*i+1)=v4 at r2 fin
  have hc:i=0\/i=1\/i=2\/i=3\/i=4\/i=5\/i=6\/i=7:=by omega
  clear G Wq g nj n0 n1 em ea eb;cbv
  repeat' first|(refine qA ?_;cbv)|(intro d;cbv)
  refine⟨_,r1,?_⟩;cbv
  repeat' first|(refine qA ?_;cbv)|(intro d;cbv)
  refine⟨_,r2,?_⟩;cbv
  repeat' first|(refine qA ?_;cbv)|(intro d;cbv)
  rcases hc with rfl|rfl|rfl|rfl|rfl|rfl|rfl|rfl
  ·refine⟨0,D,?_⟩;cbv;refine⟨m3,?_⟩;exact⟨_,c6.refl _,⟨0+1,_,λj=>if j=0 then v3 else if j=1 then v4 else f j,qD,e1,fin _ rfl rfl (λj h1 h2=>(aa h1).trans (aa h2))⟩,⟨rfl,rfl,rfl,rfl,rfl,rfl,trivial⟩,⟨rfl,rfl,trivial⟩,by show 8-(0+1)<8-0;decide⟩
  ·refine⟨1,D,?_⟩;cbv;refine⟨m3,?_⟩;exact⟨_,c6.refl _,⟨1+1,_,λj=>if j=2 then v3 else if j=3 then v4 else f j,qD,e1,fin _ rfl rfl (λj h1 h2=>(aa h1).trans (aa h2))⟩,⟨rfl,rfl,rfl,rfl,rfl,rfl,trivial⟩,⟨rfl,rfl,trivial⟩,by show 8-(1+1)<8-1;decide⟩
  ·refine⟨2,D,?_⟩;cbv;refine⟨m3,?_⟩;exact⟨_,c6.refl _,⟨2+1,_,λj=>if j=4 then v3 else if j=5 then v4 else f j,qD,e1,fin _ rfl rfl (λj h1 h2=>(aa h1).trans (aa h2))⟩,⟨rfl,rfl,rfl,rfl,rfl,rfl,trivial⟩,⟨rfl,rfl,trivial⟩,by show 8-(2+1)<8-2;decide⟩
  ·refine⟨3,D,?_⟩;cbv;refine⟨m3,?_⟩;exact⟨_,c6.refl _,⟨3+1,_,λj=>if j=6 then v3 else if j=7 then v4 else f j,qD,e1,fin _ rfl rfl (λj h1 h2=>(aa h1).trans (aa h2))⟩,⟨rfl,rfl,rfl,rfl,rfl,rfl,trivial⟩,⟨rfl,rfl,trivial⟩,by show 8-(3+1)<8-3;decide⟩
  ·refine⟨4,D,?_⟩;cbv;refine⟨m3,?_⟩;exact⟨_,c6.refl _,⟨4+1,_,λj=>if j=8 then v3 else if j=9 then v4 else f j,qD,e1,fin _ rfl rfl (λj h1 h2=>(aa h1).trans (aa h2))⟩,⟨rfl,rfl,rfl,rfl,rfl,rfl,trivial⟩,⟨rfl,rfl,trivial⟩,by show 8-(4+1)<8-4;decide⟩
  ·refine⟨5,D,?_⟩;cbv;refine⟨m3,?_⟩;exact⟨_,c6.refl _,⟨5+1,_,λj=>if j=10 then v3 else if j=11 then v4 else f j,qD,e1,fin _ rfl rfl (λj h1 h2=>(aa h1).trans (aa h2))⟩,⟨rfl,rfl,rfl,rfl,rfl,rfl,trivial⟩,⟨rfl,rfl,trivial⟩,by show 8-(5+1)<8-5;decide⟩
  ·refine⟨6,D,?_⟩;cbv;refine⟨m3,?_⟩;exact⟨_,c6.refl _,⟨6+1,_,λj=>if j=12 then v3 else if j=13 then v4 else f j,qD,e1,fin _ rfl rfl (λj h1 h2=>(aa h1).trans (aa h2))⟩,⟨rfl,rfl,rfl,rfl,rfl,rfl,trivial⟩,⟨rfl,rfl,trivial⟩,by show 8-(6+1)<8-6;decide⟩
  ·refine⟨7,D,?_⟩;cbv;refine⟨m3,?_⟩;exact⟨_,c6.refl _,⟨7+1,_,λj=>if j=14 then v3 else if j=15 then v4 else f j,qD,e1,fin _ rfl rfl (λj h1 h2=>(aa h1).trans (aa h2))⟩,⟨rfl,rfl,rfl,rfl,rfl,rfl,trivial⟩,⟨rfl,rfl,trivial⟩,by show 8-(7+1)<8-7;decide⟩
 have Wq:¬k<8:=fM hP g;have Y:i=8:=by((try simp only[nc] at*);omega)
 subst Y;have l:∀j,j<16->f j=hf b0 j:=λj hj=>by rw[Wp j hj,ae qW]
 clear nj n0 n1 Wq g e0;cbv
 repeat' first|(refine qA ?_;cbv)|(intro d;cbv)
 rw[<-K,l 0 qD,l 1 qD,l 2 qD,l 3 qD,l 4 qD,l 5 qD,l 6 qD,l 7 qD,l 8 qD,l 9 qD,l 10 qD,l 11 qD,l 12 qD,l 13 qD,l 14 qD,l 15 qD];clear Wp l;clear f;refine⟨XE fs L0 (ht b0),λy=>[(2,.ptr 2 (some U) 38 0 0),(9,.ptr 9 (some X) 38 0 0),(11,.str y.now),(92,.sl false 2 C),(93,qI (P.dv C)),(94,qI y.k)],
  λy=>[(2,⟨some U,72,38,[[qI 0,qI 0,.str [],qI 0,qI 0,qI 0,qI 0,qI 0,qI 0,qI 0,qI 0,qI 0,qI 0,qI 0,qI 0,qI 0,qI 0,qI 0,qI 0,qI 0,qI 0,qI 0,qI 0,qI 0,qI 0,qI 0,qI 0,qI 0,qI 0,qI 0,qI 0,qI 0,qI 0,qI 0,qI 0,.nilsl,.bool false,qI 0]]⟩),(9,⟨some X,72,38,[[qI y.gn,qI y.b,.str y.tx,qI (y.mr 0),qI (y.mr 1),qI (y.mr 2),qI (y.mr 3),qI (y.mr 4),qI (y.mr 5),qI (y.mr 6),qI (y.mr 7),qI (y.mr 8),qI (y.mr 9),qI (y.mr 10),qI (y.mr 11),qI (y.mr 12),qI (y.mr 13),qI (y.mr 14),qI (y.mr 15),qI (y.tb 0),qI (y.tb 1),qI (y.tb 2),qI (y.tb 3),qI (y.tb 4),qI (y.tb 5),qI (y.tb 6),qI (y.tb 7),qI (y.tb 8),qI (y.tb 9),qI (y.tb 10),qI (y.tb 11),qI (y.tb 12),qI (y.tb 13),qI (y.tb 14),qI (y.tb 15),.own 1000163 y.ba 3 y.n,.bool y.wh,qI y.gd]]⟩),(1000163,⟨y.ba,91,3,y.rows⟩)],λy=>y.rest.length,
  ⟨_,c6.mK (k:=9) (k':=1000163) (ty:=91) (sz:=3) (r:=0) (c:=35) rfl rfl rfl rfl,⟨0,[],fs,L0,ht b0,none,0,[],hg b0,hb b0,P.add 7 (P.c9 b0),ht b0,hf b0,hf b0,false,rfl,rfl,rfl,by rw[Wn];rfl,by rw[Wn];rfl,rfl,by rw[Wn];exact aP _,⟨by rw[Wo];exact Int.add_nonneg (aO _) qD,by rw[Wo];show(b0.length:Int)+7<=4007*(0+1);((try simp only[nc] at*);omega)⟩,⟨Wa,Wb,by rw[g1,Wo],Wc,λj _=>Wd j,We,Wf⟩⟩,⟨rfl,rfl,rfl,rfl,rfl,rfl,trivial⟩,⟨rfl,rfl,rfl,trivial⟩⟩,?_⟩
 rintro⟨k,pre,rest,L,now,ba,n,rows,gn,b,gd,tx,mr,tb,wh,hd,hk,gf,hn,ds,wv,hlen,Zp,he⟩;rw[mU] at gf
 replace hk:k=(pre.length:Int):=hk
 have TT:pre.length+rest.length=fs.length:=by rw[hd];simp
 simp only[au] at Pn;obtain⟨w,o,Z,z,A,Vm,v⟩:=he;have E:n=rows.length:=by rw[hn,ds];simp
 have M:0<=b/\b<=2147483647:=by rw[o,wv];exact Wg
 have fin:rl=L->gn=rl.gen/\b=rl.base/\gd=rl.eF/\tx=rl.text/\(∀j,j<16->mr j=rl.first j)/\(∀j,j<16->tb j=rl.table j)/\wh=rl.whole/\rows=rl.e8.map ca/\(0:Int)=re:=λh=>by
  rw[h];exact⟨w,o,Z,z,A,λj _=>by rw[Vm],v,ds,MJ⟩
 cbv;refine ab (λg=>?_) (λg=>?_)
 rotate_left
 ·have Wr:¬k<P.dv C:=fM hP g;rw[GK] at Wr
  rcases rest with _|⟨y,rest⟩
  rotate_left
  ·exfalso;simp at TT;((try simp only[nc] at*);omega)
  cbv
  repeat' first|(refine qA ?_;cbv)|(intro d;cbv)
  exact G _ _ _ _ _ _ _ _ _ _ _ _ (c6.refl _) ⟨rfl,rfl,an 0,ah 38,rfl⟩ (.inr ⟨ba,n,rfl,rfl,E⟩) (fin (gf))
 have Wr:k<P.dv C:=fJ hP g;rw[GK] at Wr
 rcases rest with _|⟨⟨kd,e⟩,rest⟩
 ·exfalso;simp at TT;((try simp only[nc] at*);omega)
 have rB:e.length<=4000:=XI ⟨kd,e⟩ (by rw[hd];simp);have T4:P.row C (P.nat k) [qI kd,.str e]:=ga hP hk (by rw[K,T3,iN,av,hd];simp[jD]);have q1:P.fC 0 k:=iu hP qO;have q2:P.i64 (P.add k 1):=by rw[add_eq hP];exact eR hP qO
 have q3:P.add k 1=(((pre++[(⟨kd,e⟩:Frame)]).length:Nat):Int):=by rw[add_eq hP,hk];simp
 have d1:P.add 7 (P.c9 e)=(e.length:Int)+7:=by rw[add_eq hP,da hP];omega
 have d2:P.i64 (P.add 7 (P.c9 e)):=by rw[d1];exact eR hP qO
 have d3:P.add gd (P.add 7 (P.c9 e))=L.eF+((e.length:Int)+7):=by rw[add_eq hP gd,d1,Z]
 have d4:P.i64 (P.add gd (P.add 7 (P.c9 e))):=by rw[d3];exact eR hP qO
 have d5:0<=L.eF+((e.length:Int)+7)/\L.eF+((e.length:Int)+7)<=4007*(((pre++[(⟨kd,e⟩:Frame)]).length:Int)+1):=by rw[ag];simp only[au,aT];((try simp only[nc] at*);omega)
 have d6:P.i64 (P.add gd 7):=by rw[add_eq hP,Z];exact eR hP qO
 rw[kI] at gf;unfold nv at gf;simp only[] at gf;have c3:=h3 e rB;have other:∀(Q:Prop),Q->Q:=λ_ h=>h;clear g;cbv
 repeat' first|(refine qA ?_;cbv)|(intro d;cbv)
 refine⟨_,T4,?_⟩;cbv;intro NM;cbv
 repeat' first|(refine qA ?_;cbv)|(intro d;cbv)
 clear T4;refine ab (λg=>?_) (λg=>?_)
 ·have hk3:kd=3:=nG hP g;rw[ae hk3] at gf;cbv
  repeat' first|(refine qA ?_;cbv)|(intro d;cbv)
  refine ab (λg=>?_) (λg=>?_)
  ·have XO:e=[]:=Ty hP g;cbv
   repeat' first|(refine qA ?_;cbv)|(intro d;cbv)
   rcases wh with _|_
   ·rw[aa (by rintro(h|h);rw[<-v] at h;cases h;exact h XO)] at gf
    have d7:P.add gd 7=L.eF+((e.length:Int)+7):=by rw[add_eq hP,Z,XO];rfl
    cbv
    repeat' first|(refine qA ?_;cbv)|(intro d;cbv)
    exact⟨_,c6.refl _,⟨_,pre++[⟨kd,e⟩],rest,⟨L.gen,L.base,L.text,L.first,L.table,L.e8,true,L.eF+((e.length:Int)+7)⟩,now,ba,n,rows,gn,b,P.add gd 7,tx,mr,tb,true,by simp[hd],q3,mU.trans gf,hn,ds,wv,hlen,d5,⟨w,o,d7,z,A,Vm,rfl⟩⟩,⟨rfl,rfl,rfl,rfl,rfl,rfl,trivial⟩,⟨rfl,rfl,rfl,trivial⟩,by simp⟩
   ·rw[ae (.inl v.symm)] at gf;cbv
    repeat' first|(refine qA ?_;cbv)|(intro d;cbv)|(refine c3 _ _ ?_;cbv)|fail
    refine iv (wm hP (by rw[hk3];decide)) ?_;cbv
    repeat' first|(refine qA ?_;cbv)|(intro d;cbv)
    exact G _ _ _ _ _ _ _ _ _ _ _ _ (c6.refl _) ⟨rfl,rfl,an 0,ah 38,rfl⟩ (.inr ⟨ba,n,rfl,rfl,E⟩) (fin (gf))
  ·rw[ae (.inr (Tz hP g))] at gf;cbv
   repeat' first|(refine qA ?_;cbv)|(intro d;cbv)|(refine c3 _ _ ?_;cbv)|fail
   refine iv (wm hP (by rw[hk3];decide)) ?_;cbv
   repeat' first|(refine qA ?_;cbv)|(intro d;cbv)
   exact G _ _ _ _ _ _ _ _ _ _ _ _ (c6.refl _) ⟨rfl,rfl,an 0,ah 38,rfl⟩ (.inr ⟨ba,n,rfl,rfl,E⟩) (fin (gf))
 have hk3:¬kd=3:=nH hP g;rw[aa hk3] at gf;clear other;cbv
 repeat' first|(refine qA ?_;cbv)|(intro d;cbv)|(refine c3 _ _ ?_;cbv)|fail
 refine ab (λg=>?_) (λg=>?_)
 ·have hk2:¬kd=2:=hH hP g;rw[aa hk2] at gf;cbv
  repeat' first|(refine qA ?_;cbv)|(intro d;cbv)
  exact G _ _ _ _ _ _ _ _ _ _ _ _ (c6.refl _) ⟨rfl,rfl,an 0,ah 38,rfl⟩ (.inr ⟨ba,n,rfl,rfl,E⟩) (fin (gf))
 have hk2:kd=2:=gZ hP g;rw[ae hk2] at gf;obtain⟨rv,T5⟩:∃rv,rv=jH e:=⟨_,rfl⟩;obtain⟨w1,w2,w3,w4⟩:=XL e;have w5:=XN e now;have w6:=h5 e now;have w7:=XM e;have w8:=TZ e;have w9:=XK e rB;rw[<-T5] at w1 w2 w3 w5 gf w7;rw[<-w4] at gf;rw[<-w5] at gf;have Wh:fH rv.delta:=by rw[T5];exact pJ _
 have RD:iL rv=0->0<=rv.who/\rv.who<=7:=λh=>⟨(jg h).1,(jg h).2.1⟩;clear h3 XL XN h5 g XM TZ XK c3
 generalize ro e=qw at w4 w7 gf
 generalize I e=Zt at w7 w8 w9⊢
 generalize Wj e=XP at w8⊢
 generalize Wk e=nt9 at w9⊢
 generalize rd e=dr at w3 w6 w9
 generalize rw e=wd at w1 w8
 generalize rq e=qd at w2 w8
 generalize dt e now=p at w6 gf
 generalize de e now=e6 at w6
 generalize e2 e=e9 at w7 w9
 cbv
 repeat' first|(refine qA ?_;cbv)|(intro d;cbv)
 rcases Zt with _|_
 ·rw[aa (by rintro⟨h,_⟩;have:=(w7.1 h).1;cases this)] at gf;cbv
  repeat' first|(refine qA ?_;cbv)|(intro d;cbv)
  exact G _ _ _ _ _ _ _ _ _ _ _ _ (c6.refl _) ⟨rfl,rfl,an 0,ah 38,rfl⟩ (.inr ⟨ba,n,rfl,rfl,E⟩) (fin (gf))
 have x8:=w8 rfl;have n0:P.row XP (P.nat 0) [qI wd]:=ga hP (i:=0) rfl (by rw[x8];rfl);have n1:P.row XP (P.nat 1) [qI qd]:=ga hP (i:=1) rfl (by rw[x8];rfl);have N:nx b tb L.e8.length (P.c9 now) rv=gw L.base L.table L.e8.length now.length rv:=by rw[V9,o,Vm,da hP]
 cbv
 repeat' first|(refine qA ?_;cbv)|(intro d;cbv)|(refine w9 rfl _ _ ?_;cbv)|fail
 refine⟨_,n0,?_⟩;cbv
 repeat' first|(refine qA ?_;cbv)|(intro d;cbv)
 refine⟨_,n1,?_⟩;cbv
 repeat' first|(refine qA ?_;cbv)|(intro d;cbv)
 clear n0 n1 w8 w9 x8;refine ab (λg=>?_) (λg=>?_)
 ·have hx:=hH hP g;rw[aa (by rintro⟨h,_⟩;exact hx (w7.1 h).2.1)] at gf;cbv
  repeat' first|(refine qA ?_;cbv)|(intro d;cbv)
  exact G _ _ _ _ _ _ _ _ _ _ _ _ (c6.refl _) ⟨rfl,rfl,an 0,ah 38,rfl⟩ (.inr ⟨ba,n,rfl,rfl,E⟩) (fin (gf))
 have Zu:=gZ hP g;cbv
 repeat' first|(refine qA ?_;cbv)|(intro d;cbv)
 refine h4 1000163 ba n rows gn b gd (P.c9 now) wd qd tx mr tb wh L.e8 dr rv _ _ ds hn ⟨w1,w2,w3⟩ Wh M rfl ?_
 generalize nx b tb L.e8.length (P.c9 now) rv=e0 at N⊢
 cbv
 repeat' first|(refine qA ?_;cbv)|(intro d;cbv)
 refine ab (λg=>?_) (λg=>?_)
 ·have hx:=hH hP g;rw[N] at hx;rw[aa (by rintro⟨_,h⟩;exact hx h)] at gf;cbv
  repeat' first|(refine qA ?_;cbv)|(intro d;cbv)
  exact G _ _ _ _ _ _ _ _ _ _ _ _ (c6.refl _) ⟨rfl,rfl,an 0,ah 38,rfl⟩ (.inr ⟨ba,n,rfl,rfl,E⟩) (fin (gf))
 have hx:=gZ hP g;rw[N] at hx;obtain⟨x1,x2⟩:=ow hx;rw[ae ⟨w7.2 ⟨rfl,Zu,x1⟩,hx⟩] at gf;have hw:=RD x1;have f4:P.nL rows n:=lx hP _ _ E.symm;have f5:∀r,P.bytes (P.add (P.int n) (P.dv [r])) 40:=by intro r;subst hP;show((n:Int)+1)*40<=_;((try simp only[nc] at*);omega)
 have f6:∀r,P.nL [r] 1:=by intro r;subst hP;rfl
 have f7:P.kB rows [[qI wd,qI qd,.sl false 3 dr]]=(L.e8++[rv]).map ca:=by rw[ds,w1,w2,w3];subst hP;simp[dn,ca,gh]
 have f8:P.hU n (P.fQ [[qI wd,qI qd,.sl false 3 dr]])=(L.e8++[rv]).length:=by rw[hn];subst hP;simp[dn]
 have f9:P.int (P.hU n (P.fQ [[qI wd,qI qd,.sl false 3 dr]]))=(L.e8.length:Int)+1:=by rw[f8,int_eq hP];simp
 have v1:P.add b (P.int (P.hU n (P.fQ [[qI wd,qI qd,.sl false 3 dr]])))=L.base+(L.e8.length:Int)+1:=by rw[add_eq hP,f9,o];omega
 have v2:P.i64 (P.add b (P.int (P.hU n (P.fQ [[qI wd,qI qd,.sl false 3 dr]])))):=by rw[v1];rw[o] at M;exact eR hP qO
 obtain⟨wn,XQ⟩:∃wn:Nat,wn=rv.who.toNat:=⟨_,rfl⟩;have Zv:wd=(wn:Int):=by rw[w1,XQ];omega
 have hw8:wn<8:=by omega
 have u1:P.fC 0 wd:=iu hP qW;have u2:P.iO wd 8:=kN hP qW;have F:P.nat wd=wn:=by rw[Zv];exact hN wn
 cbv
 repeat' first|(refine And.intro (by first|assumption|decide|exact f6 _|exact f5 _) ?_;cbv)|(intro d;cbv)
 refine w6 _ _ ?_;cbv
 repeat' first|(refine And.intro (by first|assumption|decide|exact f6 _|exact f5 _) ?_;cbv)|(intro d;cbv)
 have q:∀TU:Nat->Int,TU=gJ tb wn qd (P.add b (P.int (P.hU n (P.fQ [[qI wd,qI qd,.sl false 3 dr]]))))->TU=gJ L.table rv.who.toNat rv.seq (L.base+(L.e8.length:Int)+1):=λTU h=>by rw[h,v1,w2,XQ,Vm]
 have hc:wn=0\/wn=1\/wn=2\/wn=3\/wn=4\/wn=5\/wn=6\/wn=7:=by omega
 rcases hc with rfl|rfl|rfl|rfl|rfl|rfl|rfl|rfl
 ·refine⟨0,F,?_⟩;cbv
  repeat' first|(refine qA ?_;cbv)|(intro d;cbv)
  exact⟨_,c6.refl _,⟨_,pre++[⟨kd,e⟩],rest,⟨L.gen,L.base,L.text,L.first,gJ L.table rv.who.toNat rv.seq (L.base+(L.e8.length:Int)+1),L.e8++[rv],L.whole,L.eF+((e.length:Int)+7)⟩,p,_,_,_,gn,b,P.add gd (P.add 7 (P.c9 e)),tx,mr,(λj=>if j=0 then qd else if j=1 then P.add b (P.int (P.hU n (P.fQ [[qI wd,qI qd,.sl false 3 dr]]))) else tb j),wh,by simp[hd],q3,mU.trans gf,f8,f7,wv,by show(L.e8++[rv]).length<=64;simp;omega,d5,⟨w,o,d3,z,A,q _ rfl,v⟩⟩,⟨rfl,rfl,rfl,rfl,rfl,rfl,trivial⟩,⟨rfl,rfl,rfl,trivial⟩,by simp⟩
 ·refine⟨1,F,?_⟩;cbv
  repeat' first|(refine qA ?_;cbv)|(intro d;cbv)
  exact⟨_,c6.refl _,⟨_,pre++[⟨kd,e⟩],rest,⟨L.gen,L.base,L.text,L.first,gJ L.table rv.who.toNat rv.seq (L.base+(L.e8.length:Int)+1),L.e8++[rv],L.whole,L.eF+((e.length:Int)+7)⟩,p,_,_,_,gn,b,P.add gd (P.add 7 (P.c9 e)),tx,mr,(λj=>if j=2 then qd else if j=3 then P.add b (P.int (P.hU n (P.fQ [[qI wd,qI qd,.sl false 3 dr]]))) else tb j),wh,by simp[hd],q3,mU.trans gf,f8,f7,wv,by show(L.e8++[rv]).length<=64;simp;omega,d5,⟨w,o,d3,z,A,q _ rfl,v⟩⟩,⟨rfl,rfl,rfl,rfl,rfl,rfl,trivial⟩,⟨rfl,rfl,rfl,trivial⟩,by simp⟩
 ·refine⟨2,F,?_⟩;cbv
  repeat' first|(refine qA ?_;cbv)|(intro d;cbv)
  exact⟨_,c6.refl _,⟨_,pre++[⟨kd,e⟩],rest,⟨L.gen,L.base,L.text,L.first,gJ L.table rv.who.toNat rv.seq (L.base+(L.e8.length:Int)+1),L.e8++[rv],L.whole,L.eF+((e.length:Int)+7)⟩,p,_,_,_,gn,b,P.add gd (P.add 7 (P.c9 e)),tx,mr,(λj=>if j=4 then qd else if j=5 then P.add b (P.int (P.hU n (P.fQ [[qI wd,qI qd,.sl false 3 dr]]))) else tb j),wh,by simp[hd],q3,mU.trans gf,f8,f7,wv,by show(L.e8++[rv]).length<=64;simp;omega,d5,⟨w,o,d3,z,A,q _ rfl,v⟩⟩,⟨rfl,rfl,rfl,rfl,rfl,rfl,trivial⟩,⟨rfl,rfl,rfl,trivial⟩,by simp⟩
 ·refine⟨3,F,?_⟩;cbv
  repeat' first|(refine qA ?_;cbv)|(intro d;cbv)
  exact⟨_,c6.refl _,⟨_,pre++[⟨kd,e⟩],rest,⟨L.gen,L.base,L.text,L.first,gJ L.table rv.who.toNat rv.seq (L.base+(L.e8.length:Int)+1),L.e8++[rv],L.whole,L.eF+((e.length:Int)+7)⟩,p,_,_,_,gn,b,P.add gd (P.add 7 (P.c9 e)),tx,mr,(λj=>if j=6 then qd else if j=7 then P.add b (P.int (P.hU n (P.fQ [[qI wd,qI qd,.sl false 3 dr]]))) else tb j),wh,by simp[hd],q3,mU.trans gf,f8,f7,wv,by show(L.e8++[rv]).length<=64;simp;omega,d5,⟨w,o,d3,z,A,q _ rfl,v⟩⟩,⟨rfl,rfl,rfl,rfl,rfl,rfl,trivial⟩,⟨rfl,rfl,rfl,trivial⟩,by simp⟩
 ·refine⟨4,F,?_⟩;cbv
  repeat' first|(refine qA ?_;cbv)|(intro d;cbv)
  exact⟨_,c6.refl _,⟨_,pre++[⟨kd,e⟩],rest,⟨L.gen,L.base,L.text,L.first,gJ L.table rv.who.toNat rv.seq (L.base+(L.e8.length:Int)+1),L.e8++[rv],L.whole,L.eF+((e.length:Int)+7)⟩,p,_,_,_,gn,b,P.add gd (P.add 7 (P.c9 e)),tx,mr,(λj=>if j=8 then qd else if j=9 then P.add b (P.int (P.hU n (P.fQ [[qI wd,qI qd,.sl false 3 dr]]))) else tb j),wh,by simp[hd],q3,mU.trans gf,f8,f7,wv,by show(L.e8++[rv]).length<=64;simp;omega,d5,⟨w,o,d3,z,A,q _ rfl,v⟩⟩,⟨rfl,rfl,rfl,rfl,rfl,rfl,trivial⟩,⟨rfl,rfl,rfl,trivial⟩,by simp⟩
 ·refine⟨5,F,?_⟩;cbv
  repeat' first|(refine qA ?_;cbv)|(intro d;cbv)
  exact⟨_,c6.refl _,⟨_,pre++[⟨kd,e⟩],rest,⟨L.gen,L.base,L.text,L.first,gJ L.table rv.who.toNat rv.seq (L.base+(L.e8.length:Int)+1),L.e8++[rv],L.whole,L.eF+((e.length:Int)+7)⟩,p,_,_,_,gn,b,P.add gd (P.add 7 (P.c9 e)),tx,mr,(λj=>if j=10 then qd else if j=11 then P.add b (P.int (P.hU n (P.fQ [[qI wd,qI qd,.sl false 3 dr]]))) else tb j),wh,by simp[hd],q3,mU.trans gf,f8,f7,wv,by show(L.e8++[rv]).length<=64;simp;omega,d5,⟨w,o,d3,z,A,q _ rfl,v⟩⟩,⟨rfl,rfl,rfl,rfl,rfl,rfl,trivial⟩,⟨rfl,rfl,rfl,trivial⟩,by simp⟩
 ·refine⟨6,F,?_⟩;cbv
  repeat' first|(refine qA ?_;cbv)|(intro d;cbv)
  exact⟨_,c6.refl _,⟨_,pre++[⟨kd,e⟩],rest,⟨L.gen,L.base,L.text,L.first,gJ L.table rv.who.toNat rv.seq (L.base+(L.e8.length:Int)+1),L.e8++[rv],L.whole,L.eF+((e.length:Int)+7)⟩,p,_,_,_,gn,b,P.add gd (P.add 7 (P.c9 e)),tx,mr,(λj=>if j=12 then qd else if j=13 then P.add b (P.int (P.hU n (P.fQ [[qI wd,qI qd,.sl false 3 dr]]))) else tb j),wh,by simp[hd],q3,mU.trans gf,f8,f7,wv,by show(L.e8++[rv]).length<=64;simp;omega,d5,⟨w,o,d3,z,A,q _ rfl,v⟩⟩,⟨rfl,rfl,rfl,rfl,rfl,rfl,trivial⟩,⟨rfl,rfl,rfl,trivial⟩,by simp⟩
 ·refine⟨7,F,?_⟩;cbv
  repeat' first|(refine qA ?_;cbv)|(intro d;cbv)
  exact⟨_,c6.refl _,⟨_,pre++[⟨kd,e⟩],rest,⟨L.gen,L.base,L.text,L.first,gJ L.table rv.who.toNat rv.seq (L.base+(L.e8.length:Int)+1),L.e8++[rv],L.whole,L.eF+((e.length:Int)+7)⟩,p,_,_,_,gn,b,P.add gd (P.add 7 (P.c9 e)),tx,mr,(λj=>if j=14 then qd else if j=15 then P.add b (P.int (P.hU n (P.fQ [[qI wd,qI qd,.sl false 3 dr]]))) else tb j),wh,by simp[hd],q3,mU.trans gf,f8,f7,wv,by show(L.e8++[rv]).length<=64;simp;omega,d5,⟨w,o,d3,z,A,q _ rfl,v⟩⟩,⟨rfl,rfl,rfl,rfl,rfl,rfl,trivial⟩,⟨rfl,rfl,rfl,trivial⟩,by simp⟩
theorem ta:∀(n:Nat)(s:BS),s.length<=n->∀f∈(fk s).1,f.body.length<=4000
 |0,s,h,f,hf=>by
  rw[lQ] at hf;have:(fR s).2.2≠0:=by
   intro hg;have:=kX hg;omega
  rw[ae this] at hf;cases hf
 |n+1,s,h,f,hf=>by
  rw[lQ] at hf
  by_cases he:(fR s).2.2≠0
  ·rw[ae he] at hf;cases hf
  ·have hg:=kX (az he);rw[aa he] at hf;have hd:(s.drop (fR s).2.1.toNat).length=s.length-(fR s).2.1.toNat:=aJ ..
   rcases aw.1 hf with rfl|hf
   ·exact hg.2.2.2.2.2
   ·exact ta n _ qW f hf
theorem oy{n:Nat}(h:n<=4000):n<=maxLen:=by
 have:maxLen=9223372036854775807:=by decide
 omega
theorem Og:List.range 18=0::1::(List.range 16).map (λj=>j+2):=by decide
theorem T6(g:Nat->Int):(List.range 18).map g=g 0::g 1::(List.range 16).map (λj=>g (j+2)):=by
 rw[Og,aR,aR,fp];rfl
theorem RP{x:BS}(h:(kp x 18).2=true):gL (q7 x 18)=gL (jt x 0::jt x 1::(List.range 16).map (λj=>jt x (j+2)))/\pK x 18=(kp x 18).1:=by
 have e1:q7 x 18=(List.range 18).map (jt x):=ae h;have a:pK x 18=(kp x 18).1:=ae h;rw[e1,a,T6];exact⟨Eq.refl _,Eq.refl _⟩
theorem PD{x:BS}(h:(kp x 2).2=true):gL (q7 x 2)=gL [(jH x).who,(jH x).seq]/\pK x 2=(kp x 2).1:=by
 unfold q7 pK;rw[ae h,ae h];exact⟨rfl,rfl⟩
theorem CB(st:BS×Bool):(st.2&&decide (st.1.length<=500))=(st.2&&decide ((if st.2=true then st.1 else[]).length<=500)):=by
 obtain⟨a,b⟩:=st;cases b<;>rfl
theorem F2(x:BS):mq x=((kp x 18).2&&decide ((pK x 18).length<=500)):=CB (kp x 18)
theorem F3(x:BS):pa x=true↔((kp x 2).2=true/\(jI (kp x 2).1).2=0/\iL (jH x)=0):=by
 unfold pa;rw[aW,aW,bc,bc]
theorem En(s:BS)(hs:s.length<=1048576):Spec Tryz.prog 97 [.str s] Hp.emp (Is (.tup [TS (fW (fk s).1).1,.int .i64 (fW (fk s).1).2])):=
 jq iD Oe λR a=>Of dn rfl _ _ s (fk s).1 (ta _ s (ah _)) (by have:=sg _ s (ah _);omega) _ rfl (fk s).2 (im (Jo (s.length+1) s (di _) hs) rfl rfl)
  (λx=>jt x 0) (λx=>jt x 1) (λx=>(kp x 18).1) (λx j=>jt x (j+2)) mq
  (λx=>gL (q7 x 18)) (λx=>(kp x 18).2) (λx=>pK x 18) (λx hx=>im (D6 x (oy hx) 18 qD) rfl rfl) (λx h=>RP h) F2 (λx=>Cq x 1)
  (λx=>gL (q7 x 2)) (λx=>(kp x 2).2) (λx=>pK x 2) (λx hx=>im (D6 x (oy hx) 2 qD) rfl rfl)
  (λx=>(jH x).who) (λx=>(jH x).seq) (λx=>(jH x).delta.map bd) pa (λx=>(jI (kp x 2).1).2) (λx h=>(PD h).1)
  (λx hx h=>by
   have hl:=nS x 2;rw[(PD h).2];exact im (Nf (kp x 2).1 (aV hl (oy hx))) rfl rfl)
  (λx=>⟨rfl,rfl,rfl,rfl⟩) F3
  gw (JA λgn b tx fs tb l wh gd size r hb hp=>Fy gn b tx fs tb l wh gd size r hb hp) (λ_ _ _ _ _=>rfl) (λx now=>(kl (jH x).delta now).1) (λx now=>(kl (jH x).delta now).2)
  (λx now=>zE (IA (jH x).delta (pJ _).1 now) rfl rfl) (λ_ _=>rfl) (fW (fk s).1).1 (fW (fk s).1).2 rfl R (FX a)
def Ay(a:Nat)(l:hI)(e:Int)(x:V)(b:List (Nat×Ob)):Prop:=(e=0/\∃ba,x=.tup [.agg (lF l.gen l.base l.text l.first l.table (.own a ba 3 l.e8.length) l.whole l.eF),.int .i64 e]/\b=[(a,iw ba (l.e8.map ca))])\/(e≠0/\x=.tup [.agg (lF l.gen l.base l.text l.first l.table .nilsl l.whole l.eF),.int .i64 e]/\b=[])\/(e≠0/\∃ba,x=.tup [.agg (lF l.gen l.base l.text l.first l.table (.own a ba 3 l.e8.length) l.whole l.eF),.int .i64 e]/\b=[])
theorem vC{gn b:Int}{tx:BS}{fs tb:Nat->Int}{v:V}{wh:Bool}{gd e:Int}(hv:V.S9 v=true):Fz (.tup [.agg (lF gn b tx fs tb v wh gd),.int .i64 e]):=by
 refine .tup _ (λx hx=>?_);simp only[aw,aD,bw] at hx
 rcases hx with rfl|rfl
 ·refine .agg _ (yn ?_);have e:∀c d:List V,c.all V.S9=true->d.all V.S9=true->(c++v::d).all V.S9=true:=λc d a b=>by rw[List.all_append,eL,a,hv,b];rfl
  exact e ((lF gn b tx fs tb v wh gd).take 35) [.bool wh,.int .i64 gd] rfl rfl
 ·exact .int _ _
theorem CC{rv:List RV}{d:Nat}{l:hI}{e:Int}{R:S->Prop}(f:∀(s s':S)(v:V)(g:List (Nat×Ob)),c6 s s'->lM s' rv (λx=>l4 x=v)->fG g s'->Fz v->(∀p∈g,p.2.Fz)->Ay d l e v g->R s):yo rv d l e R:=by
 intro s s' gn b gd tx fs tb wh v rows x he c hv h;obtain⟨rfl,rfl,rfl,rfl,h5,h6,rfl,rfl,rfl⟩:=h;have a:lM s' rv (λy=>l4 y=.tup [.agg (lF l.gen l.base l.text l.first l.table v l.whole l.eF),.int .i64 x]):=eM _ _ _ (λy hy=>by
  subst hy;rw[h5 0 qD,h5 1 qD,h5 2 qD,h5 3 qD,h5 4 qD,h5 5 qD,h5 6 qD,h5 7 qD,h5 8 qD,h5 9 qD,h5 10 qD,h5 11 qD,h5 12 qD,h5 13 qD,h5 14 qD,h5 15 qD,h6 0 qD,h6 1 qD,h6 2 qD,h6 3 qD,h6 4 qD,h6 5 qD,h6 6 qD,h6 7 qD,h6 8 qD,h6 9 qD,h6 10 qD,h6 11 qD,h6 12 qD,h6 13 qD,h6 14 qD,h6 15 qD];rfl) c
 rcases hv with⟨rfl,h0,hx⟩|⟨β,n,rfl,h1,h2⟩
 ·exact f s s' _ [] he a trivial (vC rfl) (λp hp=>by cases hp) (.inr (.inl ⟨hx,rfl,rfl⟩))
 ·have hn:n=l.e8.length:=by rw[h2];simp
  subst hn
  by_cases hx:x=0
  ·exact f s s' _ [(d,iw β (l.e8.map ca))] he a ⟨h1,trivial⟩ (vC rfl) (λp hp=>by rw[aq.1 hp];exact fL _) (.inl ⟨hx,β,rfl,rfl⟩)
  ·exact f s s' _ [] he a trivial (vC rfl) (λp hp=>by cases hp) (.inr (.inr ⟨hx,β,rfl,rfl⟩))
theorem F4(s:BS)(hs:s.length<=1048576):Spec Tryz.prog 94 [.str s] (cp []) λx h'=>∃a,Ay 1000999 (fW (fk s).1).1 (fW (fk s).1).2 x a/\h'=cp a:=
 fu iD JB (L:=[]) _ λR c=>JC dn rfl _ _ s (fk s).1 (ta _ s (ah _)) (by have:=sg _ s (ah _);omega) _ rfl (fk s).2 (im (Nw s hs) rfl rfl)
  (λx=>jt x 0) (λx=>jt x 1) (λx=>(kp x 18).1) (λx j=>jt x (j+2)) mq (λx hx=>im (NH x (oy hx)) rfl rfl) (λx=>Cq x 1)
  (λx=>(jH x).who) (λx=>(jH x).seq) (λx=>(jH x).delta.map bd) pa (λx hx=>im (Rs x (oy hx)) rfl rfl) (λx=>⟨rfl,rfl,rfl,rfl⟩)
  gw (JA λgn b tx fs tb l wh gd size r hb hp=>xd gn b tx fs tb l wh gd size r hb hp) (λ_ _ _ _ _=>rfl) (λx now=>(kl (jH x).delta now).1) (λx now=>(kl (jH x).delta now).2)
  (λx now=>zE (Iy (jH x).delta (pJ _).1 now) rfl rfl) (λ_ _=>rfl) V5 (fW (fk s).1).1 (fW (fk s).1).2 rfl R (CC c)
inductive Rk(k k':Nat):V->V->Prop
 |same (v):Rk k k' v v
 |own (b sz n):Rk k k' (.own k b sz n) (.own k' b sz n)
theorem Rk.rel{k k':Nat}{F B:Nat->Prop}{w:World}{v v':V}{u:Value}(h:Rk k k' v v')(hr:Rel F B w v u):Rel F B w v' u:=by
 cases h with
 |same=>exact hr
 |own b sz n=>
  cases hr with
  |ownnil=>exact .ownnil _ _
  |own _ b _ _ cap c e fr h hs hm hn=>exact .own _ b _ _ cap c e fr h hs hm hn
theorem c6.move{s:S}{k k' q:Nat}{o O:Ob}{d:List (List V)}(hk:s.h k=some o)(y:s.h k'=none)(hq:s.h q=some O)(z:q≠k)
  (hl:d.length=O.rows.length)(hr:∀(i:Nat)(r r':List V),O.rows[i]? =some r->d[i]? =some r'->r'.length=r.length/\∀(l:Nat)(v v':V),r[l]? =some v->r'[l]? =some v'->Rk k k' v v'):
  c6 s ⟨s.t,Hp.put (Hp.put (Hp.del s.h k) k' o) q ⟨O.b,O.ty,O.sz,d⟩⟩:=by
 intro C U a w W hs0;obtain⟨F,hs,h2⟩:=hs0.ex;have f:q≠k':=λe=>by rw[e,y] at hq;cases hq
 have M:k≠k':=λe=>by rw[e,y] at hk;cases hk
 have look:∀j p,Hp.put (Hp.put (Hp.del s.h k) k' o) q ⟨O.b,O.ty,O.sz,d⟩ j=some p->
   (j=q/\p=⟨O.b,O.ty,O.sz,d⟩)\/(j=k'/\p=o)\/(j≠q/\j≠k'/\j≠k/\s.h j=some p):=by
  intro j p hj;simp only[Hp.put,Hp.del] at hj
  by_cases h1:j=q
  ·rw[ae h1] at hj;cases hj;exact .inl ⟨h1,rfl⟩
  ·rw[aa h1] at hj
   by_cases h3:j=k'
   ·rw[ae h3] at hj;cases hj;exact .inr (.inl ⟨h3,rfl⟩)
   ·rw[aa h3] at hj
    by_cases h4:j=k
    ·rw[ae h4] at hj;cases hj
    ·rw[aa h4] at hj;exact .inr (.inr ⟨h1,h3,h4,hj⟩)
 have gH:∀j p,Hp.put (Hp.put (Hp.del s.h k) k' o) q ⟨O.b,O.ty,O.sz,d⟩ j=some p->∃n,s.h (if j=k' then k else j)=some n/\n.b=p.b:=by
  intro j p hj
  rcases look j p hj with⟨rfl,rfl⟩|⟨rfl,rfl⟩|⟨_,h3,_,h4⟩
  ·rw[aa f];exact⟨O,hq,rfl⟩
  ·rw[ae rfl];exact⟨_,hk,rfl⟩
  ·rw[aa h3];exact⟨p,h4,rfl⟩
 refine⟨⟨F,⟨λj p hj=>?_,λj N p P b1 hj A hb1 hb2=>?_,λj p b1 hj hb1=>?_,hs.gH,hs.new,hs.lt,hs.ev⟩,h2⟩,hs0.df,hs0.sz⟩
 ·rcases look j p hj with⟨rfl,rfl⟩|⟨rfl,rfl⟩|⟨_,_,_,h4⟩
  ·have x:=hs.ob j O hq;unfold fU at x⊢;simp only;cases hb:O.b with
   |none=>
    rw[hb] at x;simp only at x⊢;rw[x] at hl;exact ay hl
   |some b1=>
    rw[hb] at x;obtain⟨c,cap,g1,g2,g3,g4,g5,g6⟩:=x;refine⟨c,cap,g1,g2,g3,qW,λr' D=>?_,λi l r' v' hi B=>?_⟩
    ·obtain⟨i,hi⟩:=dO.1 D;have E:=(aj.1 hi).1;have g:O.rows[i]? =some (O.rows[i]'qW):=af qW;rw[(hr i _ r' g hi).1];exact g5 _ (ax g)
    ·have E:=(aj.1 hi).1;have g:O.rows[i]? =some (O.rows[i]'qW):=af qW;obtain⟨f1,f2⟩:=hr i _ r' g hi;have Q:=(aj.1 B).1;have jW:(O.rows[i]'qW)[l]? =some ((O.rows[i]'qW)[l]'qW):=af qW;obtain⟨u,k1,k2,R⟩:=g6 i l _ _ g jW;exact⟨u,k1,k2,(f2 l _ v' jW B).rel R⟩
  ·exact hs.ob k _ hk
  ·exact hs.ob j p h4
 ·obtain⟨n,e1,G⟩:=gH j p hj;obtain⟨H,I,J⟩:=gH N P A;have:=hs.inj _ _ n H b1 e1 I (by rw[G];exact hb1) (by rw[J];exact hb2)
  rcases look j p hj with⟨rfl,rfl⟩|⟨rfl,rfl⟩|⟨h5,h6,h7,h4⟩<;>rcases look N P A with⟨rfl,rfl⟩|⟨rfl,rfl⟩|⟨K,m,L,T⟩
  ·rfl
  ·rw[aa f,ae rfl] at this;exact absurd this z
  ·rw[aa f,aa m] at this;exact absurd this.symm K
  ·rw[ae rfl,aa f] at this;exact absurd this.symm z
  ·rfl
  ·rw[ae rfl,aa m] at this;exact absurd this.symm L
  ·rw[aa h6,aa f] at this;exact absurd this h5
  ·rw[aa h6,ae rfl] at this;exact absurd this h7
  ·rw[aa h6,aa m] at this;exact this
 ·obtain⟨n,e1,G⟩:=gH j p hj;exact hs.live _ n b1 e1 (by rw[G];exact hb1)
def z0(_:Nat):Nat:=0
theorem c6.names{s s':S}(g:Nat->Nat)(ht:∀i,s'.t i=s.t i\/s'.t i=.iC)(d:∀k o,s'.h k=some o->∃q,s.h (g k)=some q/\o.b=q.b/\o.gM z0=q.gM z0)(hg:∀k k' o o',s'.h k=some o->s'.h k'=some o'->g k=g k'->k=k'):c6 s s':=by
 intro C n a w p hs;obtain⟨F,h1,h2⟩:=hs.ex;refine⟨⟨F,⟨λk o hk=>?_,λk k' o o' b hk c hb hb'=>?_,λk o b hk hb=>?_,h1.gH,h1.new,h1.lt,h1.ev⟩,λi=>?_⟩,hs.df,hs.sz⟩
 ·obtain⟨q,q1,q2,e⟩:=d k o hk;have:=(h1.ob (g k) q q1).gM z0;rw[<-e] at this;exact this.Db z0
 ·obtain⟨q,q1,q2,e⟩:=d k o hk;obtain⟨l,f,j,m⟩:=d k' o' c;exact hg k k' o o' hk c (h1.inj _ _ q l b q1 f (q2.symm.trans hb) (j.symm.trans hb'))
 ·obtain⟨q,q1,q2,e⟩:=d k o hk;exact h1.live (g k) q b q1 (q2.symm.trans hb)
 ·rcases ht i with h|h
  ·rw[h];exact h2 i
  ·rw[h];exact .iC _
def yv:List (Nat×Nat×Ob)->S->Prop
 |[],_=>True
 |(_,j,o)::l,s=>(∃q,s.h j=some q/\o.b=q.b/\o.gM z0=q.gM z0)/\yv l s
def Oh(l:List (Nat×Nat×Ob)):List (Nat×Ob):=l.map λp=>(p.1,p.2.2)
def wB(l:List (Nat×Nat×Ob))(k:Nat):Nat:=match l with
 |[]=>k
 |p::l=>if k=p.1 then p.2.1 else wB l k
theorem ny:∀(l:List (Nat×Nat×Ob))(s:S)(k:Nat)(o:Ob),yv l s->cp (Oh l) k=some o->(∃q,s.h (wB l k)=some q/\o.b=q.b/\o.gM z0=q.gM z0)/\∃p∈l,p.1=k/\p.2.1=wB l k
 |[],_,_,_,_,h=>by cases h
 |(k',j,o')::l,s,k,o,ha,h=>by
  simp only[Oh,aR,cp] at h
  by_cases hk:k=k'
  ·rw[ae hk] at h;cases h;have e:wB ((k',j,o')::l) k=j:=by simp[wB,hk]
   rw[e];exact⟨ha.1,_,bQ,hk.symm,rfl⟩
  ·rw[aa hk] at h;have e:wB ((k',j,o')::l) k=wB l k:=by simp[wB,hk]
   rw[e];obtain⟨h1,p,hp,h2⟩:=ny l s k o ha.2 h;exact⟨h1,p,bM _ hp,h2⟩
theorem tc:∀{l:List (Nat×Nat×Ob)},(l.map (·.2.1)).Nodup->∀p∈l,∀q∈l,p.2.1=q.2.1->p=q
 |[],_,p,hp,_,_,_=>by cases hp
 |x::l,h,p,hp,q,hq,e=>by
  rw[aR,cV] at h
  rcases aw.1 hp with h1|h1<;>rcases aw.1 hq with h2|h2
  ·rw[h1,h2]
  ·rw[h1] at e;exact absurd (aC.2 ⟨q,h2,e.symm⟩) h.1
  ·rw[h2] at e;exact absurd (aC.2 ⟨p,h1,e⟩) h.1
  ·exact tc h.2 p h1 q h2 e
theorem rG:∀{L:List (Nat×Ob)}{k:Nat},k∈L.map (·.1)->∃o,cp L k=some o
 |[],_,h=>by cases h
 |(j,o)::L,k,h=>by
  simp only[cp]
  by_cases he:k=j
  ·rw[ae he];exact⟨_,rfl⟩
  ·rw[aa he];rw[aR] at h
   rcases aw.1 h with h|h
   ·exact absurd h he
   ·exact rG h
theorem c6.CD{s:S}(l:List (Nat×Nat×Ob))(hn:(l.map (·.2.1)).Nodup)(ha:yv l s):c6 s ⟨s.t,cp (Oh l)⟩:=by
 refine c6.names (wB l) (λi=>.inl rfl) (λk o hk=>(ny l s k o ha hk).1) (λk k' o o' hk a e=>?_);obtain⟨_,p,hp,p1,p2⟩:=ny l s k o ha hk;obtain⟨_,f,b,c,d⟩:=ny l s k' o' ha a;have:=tc hn p hp f b (by rw[p2,d,e]);rw[<-p1,<-c,this]
theorem fU.take{F B:Nat->Prop}{w:World}{b:Option Nat}{ty sz:Nat}{rows:List (List V)}(h:fU F B w ⟨b,ty,sz,rows⟩)(n:Nat):fU F B w ⟨b,ty,sz,rows.take n⟩:=by
 unfold fU at h⊢;cases b with
 |none=>simp only at h⊢;rw[h];simp
 |some b=>
  obtain⟨c,cap,hc,h1,h2,h3,h4,h5⟩:=h;have h3:rows.length<=cap:=h3;refine⟨c,cap,hc,h1,h2,by show(rows.take n).length<=cap;rw[aI];omega,λr hr=>h4 r (cG hr),λi j r v hi hj=>?_⟩;refine h5 i j r v ?_ hj;have hi:(rows.take n)[i]? =some r:=hi;rw[bq] at hi
  split at hi
  ·exact hi
  ·cases hi
theorem nU:∀{m:List (Nat×Nat)},(m.map (·.1)).Nodup->∀p∈m,gD m p.1=p.2
 |[],_,_,h=>by cases h
 |(a,b)::m,hn,p,hp=>by
  rw[aR,cV] at hn
  rcases aw.1 hp with rfl|hp
  ·simp[gD]
  ·have:p.1≠a:=λe=>hn.1 (aC.2 ⟨p,hp,e⟩);simp only[gD];rw[aa this];exact nU hn.2 p hp
theorem nV:∀{m:List (Nat×Nat)},(m.map (·.2)).Nodup->∀p∈m,gW m p.2=p.1
 |[],_,_,h=>by cases h
 |(a,b)::m,hn,p,hp=>by
  rw[aR,cV] at hn
  rcases aw.1 hp with rfl|hp
  ·simp[gW]
  ·have:p.2≠b:=λe=>hn.1 (aC.2 ⟨p,hp,e⟩);simp only[gW];rw[aa this];exact nV hn.2 p hp
def Hp.fK(h:Hp)(l:List (Nat×Ob))(i:Nat):Option Ob:=match cp l i with
 |some o=>some o
 |none=>h i
def mb(m:List (Nat×Nat))(F:Ob->Ob)(L:List (Nat×Ob)):List (Nat×Ob):=List.zipWith (λp q=>(p.2,F q.2)) m L
theorem xu(F:Ob->Ob):∀(m:List (Nat×Nat))(L:List (Nat×Ob)),L.map (·.1)=m.map (·.1)->(m.map (·.1)).Nodup->(m.map (·.2)).Nodup->∀i,cp (mb m F L) i=if m.any (λp=>decide (p.2=i)) then(cp L (gW m i)).map F else none
 |[],[],_,_,_,i=>rfl
 |[],_::_,h,_,_,_=>by cases h
 |_::_,[],h,_,_,_=>by cases h
 |(a,b)::m,(c,o)::L,h,n1,n2,i=>by
  simp only[aR,cD] at h;obtain⟨h1,h2⟩:=h;subst h1;rw[aR,cV] at n1 n2;have ih:=xu F m L h2 n1.2 n2.2 i;show(if i=b then some (F o) else cp (mb m F L) i)=_
  by_cases hi:i=b
  ·subst hi;simp[gW,cp]
  ·have hi2:¬b=i:=λe=>hi e.symm;rw[aa hi,ih];simp only[bK,hi2,decide_false,Bool.false_or,gW,aa hi]
   by_cases hm:(m.any λp=>decide (p.2=i))=true
   ·rw[ae hm,ae hm];obtain⟨p,hp,d⟩:=dh.1 hm;have d:p.2=i:=by simpa using d
    have hb:=nV n2.2 p hp;rw[d] at hb;rw[hb];have:p.1≠c:=λe=>n1.1 (aC.2 ⟨p,hp,e⟩);simp only[cp];rw[aa this]
   ·rw[aa hm,aa hm]
theorem sr(h:Hp)(m:List (Nat×Nat))(L:List (Nat×Ob))(h1:L.map (·.1)=m.map (·.1))(n1:(m.map (·.1)).Nodup)(n2:(m.map (·.2)).Nodup)(b:m≠[]):h.gy m (cp L)=h.fK (mb m (Ob.gM (gD m)) L):=by
 have key:=xu (Ob.gM (gD m)) m L h1 n1 n2;cases m with
 |nil=>exact absurd rfl b
 |cons q m=>
  funext i
  show(if((q::m).any λp=>decide (p.2=i))=true then(cp L (gW (q::m) i)).map (Ob.gM (gD (q::m))) else h i)=_;unfold Hp.fK;rw[key i]
  by_cases hm:((q::m).any λp=>decide (p.2=i))=true
  ·rw[ae hm,ae hm];obtain⟨p,hp,a⟩:=dh.1 hm;have a:p.2=i:=by simpa using a
   have hb:=nV n2 p hp;rw[a] at hb;rw[hb];have:∃o,cp L p.1=some o:=rG (by rw[h1];exact aC.2 ⟨p,hp,rfl⟩);obtain⟨o,ho⟩:=this;rw[ho];rfl
  ·rw[aa hm,aa hm]
theorem xv{P:Program}{f:Nat}{args args':List V}{L:List (Nat×Ob)}(m:List (Nat×Nat)){post:V->List (Nat×Ob)->Prop}(hs:Spec P f args' (cp L) λv' h'=>∃a,post v' a/\h'=cp a){h:Hp}{K:V->Hp->Prop}(ha:mH h m args args')
  (n1:(m.map (·.1)).Nodup)(n2:(m.map (·.2)).Nodup)(hne:m≠[])(b:∀p∈L,∃q∈m,q.1=p.1)(c:∀p∈L,((h (gD m p.1)).map (Ob.gM (gW m))=some p.2)/\p.2.Fz)
  (d:∀v a,post v a->a.map (·.1)=m.map (·.1))(hK:∀v a,post v a->K (v.gM (gD m)) (h.fK (mb m (Ob.gM (gD m)) a))):fm P f args h K:=by
 refine mA hs (m:=m) ha (λk o hk=>?_) (λq hq=>?_) (λv a hp=>?_)
 ·obtain⟨q,hq,e⟩:=b _ (kM hk);exact⟨q,hq,e⟩
 ·refine⟨nU n1 q hq,nV n2 q hq,λo ho=>?_⟩;have:=c _ (kM ho);simp only[nU n1 q hq] at this;exact this
 ·rw[sr h m a (d v a hp) n1 n2 hne];exact hK v a hp
theorem RQ{P:Program}{f:Nat}{args args':List V}{L:List (Nat×Ob)}(m:List (Nat×Nat)){v:V}(hs:Spec P f args' (cp L) λv' h'=>∃b,(v'=v/\b=L)/\h'=cp b){h:Hp}{K:V->Hp->Prop}(ha:mH h m args args')
  (n1:(m.map (·.1)).Nodup)(n2:(m.map (·.2)).Nodup)(a:L.map (·.1)=m.map (·.1))(c:∀p∈L,((h (gD m p.1)).map (Ob.gM (gW m))=some p.2)/\p.2.Fz)
  (hK:K (v.gM (gD m)) h):fX P f args h K:=by
 refine⟨m,args',cp L,v,⟨hs.fn,λC us a1 a2 a3 a4=>(hs.run C us a1 a2 a3 a4).mono ?_⟩,ha,λk o hk=>?_,λq hq=>?_,hK⟩
 ·rintro e w' ⟨u,x,h',F',e1,g,i,b,⟨rfl,rfl⟩,rfl⟩;exact⟨u,_,_,F',e1,g,i,rfl,rfl⟩
 ·have h1:k∈L.map (·.1):=aC.2 ⟨(k,o),kM hk,rfl⟩;rw[a] at h1;obtain⟨q,hq,e⟩:=aC.1 h1;exact⟨q,hq,e⟩
 ·have d:q.1∈L.map (·.1):=by rw[a];exact aC.2 ⟨q,hq,rfl⟩
  obtain⟨o,ho⟩:=rG d;have:=c _ (kM ho);simp only[nU n1 q hq] at this;exact⟨nU n1 q hq,nV n2 q hq,o,ho,this.1,this.2⟩
theorem xw:∀(f n:Nat),n<128^(f+1)->vq (nm (f+1) n)/\val (nm (f+1) n)=n/\(0<n->(nm (f+1) n).getLast? ≠some 0)
 |0,n,h=>by
  have h1:n<128:=by simpa using h
  rw[ju 0 n h1];have h2:=ni n qW;refine⟨.one _ qW,by simp[val];omega,λh0 h3=>?_⟩;simp only[dB,aH] at h3;rw[h3] at h2;simp at h2;omega
 |f+1,n,h=>by
  by_cases hn:n<128
  ·rw[ju _ n hn];have h2:=ni n qW;refine⟨.one _ qW,by simp[val];omega,λh0 h3=>?_⟩;simp only[dB,aH] at h3;rw[h3] at h2;simp at h2;omega
  ·rw[lP _ n hn];have hd:n/128<128^(f+1):=by
    rw[e7] at h;exact dX (by rw[dJ];exact h)
   obtain⟨h1,h2,h3⟩:=xw f (n/128) hd;have hb:=ni (128+n%128) qW;refine⟨.more _ _ qW h1,by simp only[val,h2,hb];omega,λ_=>?_⟩;have hne:nm (f+1) (n/128)≠[]:=by intro e;rw[e] at h1;cases h1
   rw[cj hne];exact h3 qW
theorem xx:∀{l:BS}(s:BS),vq l->lead (l++s)+1=l.length
 |_,s,.one b h=>by rw[dP,mN b s h];rfl
 |_,s,.more b r h hr=>by
  rw[aK,lu b _ h,au,<-xx s hr]
theorem xy:∀{l:BS}(s:BS),vq l->(l++s)[lead (l++s)]? =l.getLast?
 |_,s,.one b h=>by rw[dP,mN b s h];rfl
 |_,s,.more b r h hr=>by
  have hne:r≠[]:=by cases hr<;>simp
  rw[aK,lu b _ h,cK,cj hne];exact xy s hr
theorem td(n:Nat)(h:n<=2147483647)(s:BS):gx (iE n++s)=((n:Int),((iE n).length:Int),0):=by
 obtain⟨h1,h2,h3⟩:=xw 4 n (by(have:(128:Nat)^(4+1)=34359738368:=by decide);omega);have hw:vq (iE n):=h1;have h5:=pE 5 n;have hl:=xx s hw;have h6:(iE n).length<=5:=h5;have ht:(iE n++s).take (lead (iE n++s)+1)=iE n:=by rw[hl];simp
 have hv:val (iE n)=n:=h2;unfold gx;rw[aa qW,aa (by rw[ag];omega),ht,hv,aa]
 ·rw[<-hl];simp
 ·rintro(h7|⟨h7,h8⟩)
  ·omega
  ·rw[xy s hw] at h8;refine h3 ?_ h8
   by_cases hn:n<128
   ·have:iE n=[bt n]:=ju 4 n hn;have a:(iE n).length=1:=by rw[this];rfl
    omega
   ·omega
theorem Az(n:Nat)(h:n<16384):(iE n).length<=2:=by
 unfold iE
 by_cases hn:n<128
 ·rw[ju _ n hn];simp
 ·rw[lP _ n hn,ju _ (n/128) qW];simp
theorem Oi{p:Part}(hp:rT p)(s:BS)(n:Nat)(out:List Part):wa (n+1) (ll p++s) out=wa n s (out++[p]):=by
 obtain⟨h1,h2,h3,h4⟩:=iU hp;have hk:1<=p.kind/\p.kind<=3:=by rcases h4 with⟨h,_⟩|⟨h|h,_⟩<;>omega
 have hv:((4*(p.n+p.text.length)+p.kind).toNat:Int)=4*(p.n+p.text.length)+p.kind:=by omega
 have hg:=td (4*(p.n+p.text.length)+p.kind).toNat qW (p.text++s);rw[hv] at hg;have hd:(iE (4*(p.n+p.text.length)+p.kind).toNat++(p.text++s)).drop (iE (4*(p.n+p.text.length)+p.kind).toNat).length=p.text++s:=by simp
 have e:ll p++s=iE (4*(p.n+p.text.length)+p.kind).toNat++(p.text++s):=by simp[ll]
 rw[e,wa,hg];simp only[aA,hd];rw[aa (λh=>h rfl)]
 rcases h4 with⟨g1,g2,g3⟩|⟨g1,g2,g3⟩
 ·rw[ae qW,aa (by rw[ag];omega)];have ht:((4*(p.n+(p.text.length:Int))+p.kind)/4).toNat=p.text.length:=by omega
  rw[ht,db,eG];have:p=⟨2,0,p.text⟩:=by cases p;simp only at g1 g2;subst g1 g2;rfl
  rw[<-this]
 ·have h0:p.text.length=0:=by rw[g3];rfl
  rw[aa qW,g3,cE];have a1:(4*(p.n+(([]:BS).length:Int))+p.kind)%4=p.kind:=by simp only[aT];omega
  have a2:(4*(p.n+(([]:BS).length:Int))+p.kind)/4=p.n:=by simp only[aT];omega
  rw[a1,a2];have:p=⟨p.kind,p.n,[]⟩:=by cases p;simp only at g3;subst g3;rfl
  rw[<-this]
theorem Eo:∀(d:List Part)(s:BS)(out:List Part),(∀p∈d,rT p)->wa d.length ((d.map ll).flatten++s) out=some (s,out++d)
 |[],s,out,_=>by simp[wa]
 |p::d,s,out,h=>by
  rw[aR,bE,bh,au,Oi (h p (by simp)),Eo d s _ λq hq=>h q (by simp[hq])];simp
theorem vD{d:List Part}(h:ed d=0):jI (codeF d)=(d,0):=by
 have h1:=fP h;have hg:=td d.length qW ((d.map ll).flatten);have hp:kD (codeF d)=some ([],d):=by
  unfold kD codeF;rw[hg];simp only[aA,db];rw[aa (λh=>h rfl)];have:=Eo d [] [] h1.2.1;simpa using this
 unfold jI;rw[hp];simp only;rw[ae ⟨trivial,h⟩]
theorem xz:∀(d:List Part),(∀p∈d,rT p)->(((d.map ll).flatten).length:Int)<=2*d.length+iV d/\(d.length:Int)<=kU d+iV d
 |[],_=>by simp[kU,iV]
 |p::d,h=>by
  obtain⟨h1,h2,h3,h4⟩:=iU (h p (by simp));obtain⟨i1,i2⟩:=xz d λq hq=>h q (by simp[hq]);have hk:1<=p.kind/\p.kind<=3:=by rcases h4 with⟨h,_⟩|⟨h|h,_⟩<;>omega
  have hl:(iE (4*(p.n+p.text.length)+p.kind).toNat).length<=2:=Az _ qW;simp only[aR,bE,ag,au,kU,iV,ll]
  rcases h4 with⟨g1,g2,g3⟩|⟨g1,g2,g3⟩
  ·have:0<p.text.length:=eh.2 g3;rw[aa qW,aa qW,aa qW];omega
  ·have h0:p.text.length=0:=by rw[g3];rfl
   rw[ae g1]
   split<;>(try split)<;>omega
theorem F5{d:List Part}(h:ed d=0):(codeF d).length<=2600:=by
 have h1:=fP h;obtain⟨i1,i2⟩:=xz d h1.2.1;have:=Az d.length qW;unfold codeF;rw[ag];omega
theorem Ep{n:Int}(h:mO n)(s:BS)(b:Bool):sO (iE n.toNat++s,b)=((s,b),n):=by
 obtain⟨h1,h2⟩:=h;have hg:=td n.toNat qW s;unfold sO;simp only;rw[hg,aa (λh=>h rfl)];simp only[aA,db];rw[show((n.toNat:Nat):Int)=n by omega]
theorem vE(a:Int)(l:List Int)(s:BS):jX (a::l)++s=iE a.toNat++(jX l++s):=by simp[jX]
theorem su(l:List Int)(hl:∀n∈l,mO n)(s:BS):∀i,i<=l.length->kp (jX l++s) i=(jX (l.drop i)++s,true)
 |0,_=>rfl
 |i+1,h=>by
  rw[sj,su l hl s i qW];have hi:i<l.length:=h;have e:l.drop i=l[i]::l.drop (i+1):=bH hi;rw[e];rw[vE,Ep (hl _ (dg hi))]
theorem pM{l:List Int}(hl:∀n∈l,mO n)(s:BS){i:Nat}{n:Int}(h:l[i]? =some n):jt (jX l++s) i=n:=by
 obtain⟨hi,rfl⟩:=aj.1 h;unfold jt;rw[su l hl s i qW];have e:l.drop i=l[i]::l.drop (i+1):=bH hi;rw[e];rw[vE,Ep (hl _ (dg hi))]
def kq(r:eP):BS:=iE r.who.toNat++iE r.seq.toNat++codeF r.delta
theorem nz{r:eP}(h:iL r=0):(0<=r.who/\r.who<=7)/\(0<=r.seq/\r.seq<=2147483647)/\ed r.delta=0:=by
 unfold iL at h
 split at h
 ·exact absurd h qD
 ·exact⟨qW,qW,h⟩
theorem tR{r:eP}(h:iL r=0):(kq r).length<=4000:=by
 obtain⟨_,_,h3⟩:=nz h;have:=F5 h3;have:=pE 5 r.who.toNat;have:=pE 5 r.seq.toNat;unfold kq iE;simp only[ag];omega
theorem F6{r:eP}(h:iL r=0):jH (kq r)=r/\pa (kq r)=true:=by
 obtain⟨h1,h2,h3⟩:=nz h;have hl:∀n∈[r.who,r.seq],mO n:=by
  intro n hn;simp only[aw,aD,bw] at hn
  rcases hn with rfl|rfl
  ·exact⟨h1.1,qW⟩
  ·exact h2
 have e:kq r=jX [r.who,r.seq]++codeF r.delta:=by simp[kq,jX]
 have a0:jt (kq r) 0=r.who:=by rw[e];exact pM hl _ rfl
 have a1:jt (kq r) 1=r.seq:=by rw[e];exact pM hl _ rfl
 have a2:kp (kq r) 2=(codeF r.delta,true):=by rw[e,su _ hl _ 2 (by simp)];simp[jX]
 have hr:jH (kq r)=r:=by
  unfold jH;rw[a0,a1,a2,vD h3]
 refine⟨hr,?_⟩;unfold pa;rw[hr,a2,vD h3,h];rfl
def gT(g b:Int)(tx:BS)(t:Nat->Int):BS:=jX (je g b t)++tx
theorem sw{g b:Int}{tx:BS}{t:Nat->Int}(h:tx.length<=500):(gT g b tx t).length<=4000:=by
 have:=ox (je g b t);rw[nw] at this;unfold gT;rw[ag];omega
structure oz(g b:Int)(tx:BS)(t:Nat->Int):Prop where
 g:mO g
 b:mO b
 tx:tx.length<=500
 t:∀j,j<16->mO (t j)
theorem oz.flat{g b:Int}{tx:BS}{t:Nat->Int}(h:oz g b tx t):∀n∈je g b t,mO n:=by
 intro n hn;simp only[je,aw,aD,bw] at hn
 rcases hn with rfl|rfl|rfl|rfl|rfl|rfl|rfl|rfl|rfl|rfl|rfl|rfl|rfl|rfl|rfl|rfl|rfl|rfl
 ·exact h.g
 ·exact h.b
 all_goals exact h.t _ qD
theorem F7{g b:Int}{tx:BS}{t:Nat->Int}(h:oz g b tx t):mq (gT g b tx t)=true/\jt (gT g b tx t) 0=g/\jt (gT g b tx t) 1=b/\(kp (gT g b tx t) 18).1=tx/\∀j,j<16->jt (gT g b tx t) (j+2)=t j:=by
 have hs:kp (gT g b tx t) 18=(tx,true):=by
  unfold gT;rw[su _ h.flat tx 18 (by rw[nw];exact ah _)];have:(je g b t).drop 18=[]:=rfl;rw[this];rfl
 refine⟨?_,pM h.flat _ rfl,pM h.flat _ rfl,by rw[hs],λj hj=>pM h.flat _ ?_⟩
 ·unfold mq
  generalize kp (gT g b tx t) 18=q at hs
  subst hs;have:=h.tx;simpa using this
 ·match j,hj with
  |0,_=>rfl
  |1,_=>rfl
  |2,_=>rfl
  |3,_=>rfl
  |4,_=>rfl
  |5,_=>rfl
  |6,_=>rfl
  |7,_=>rfl
  |8,_=>rfl
  |9,_=>rfl
  |10,_=>rfl
  |11,_=>rfl
  |12,_=>rfl
  |13,_=>rfl
  |14,_=>rfl
  |15,_=>rfl
  |j+16,hj=>omega
def vF(f:Frame):Prop:=1<=f.kind/\f.kind<=255/\f.body.length<=4000
def jK(f:Frame):BS:=oc f.kind f.body
theorem iz(f:Frame):(jK f).length=f.body.length+7:=by simp[jK,oc,iZ,ko]
theorem te{n:Int}(h:0<=n/\n<=255):((ml n).toNat:Int)=n:=by
 rw[ml,dz];omega
theorem Kn{f:Frame}(h:vF f)(s:BS):kV (jK f++s)=f.body.length/\(((jK f++s).getD 0 0).toNat:Int)=f.kind:=by
 obtain⟨h1,h2,h3⟩:=h;have a:(jK f++s).getD 0 0=ml f.kind:=rfl;have e1:(jK f++s).getD 1 0=ml ((f.body.length:Int)/256):=rfl;have b:(jK f++s).getD 2 0=ml (f.body.length:Int):=rfl;refine⟨?_,by rw[a];exact te qW⟩;unfold kV;rw[e1,b,<-yi (f.body.length:Int)];have a1:=te (n:=(f.body.length:Int)/256) qW;have a2:=te (n:=(f.body.length:Int)%256) qW;omega
theorem Ko{f:Frame}(h:vF f)(s:BS):fR (jK f++s)=(f,(f.body.length:Int)+7,0):=by
 obtain⟨e1,g⟩:=Kn h s;obtain⟨h1,h2,h3⟩:=h;have hl:(jK f++s).length=f.body.length+7+s.length:=by rw[ag,iz]
 have e:(iZ f.kind f.body).length=f.body.length+3:=by simp[iZ]
 have a:jK f++s=iZ f.kind f.body++(ko (kF (iZ f.kind f.body))++s):=by simp[jK,oc]
 have b:(jK f++s).take (f.body.length+3)=iZ f.kind f.body:=by
  rw[a,<-e];exact eG
 have c:(jK f++s).take (f.body.length+7)=jK f:=by rw[<-iz f];exact eG
 have d:(jK f).drop (f.body.length+3)=ko (kF (iZ f.kind f.body)):=by
  have:jK f=iZ f.kind f.body++ko (kF (iZ f.kind f.body)):=rfl;rw[this,<-e];exact db
 unfold fR;rw[e1,b,c,d,g,aa qW,aa qW,aa qW,aa (λh=>h rfl)];have:(iZ f.kind f.body).drop 3=f.body:=rfl;rw[this]
theorem getD_take{l:BS}{n i:Nat}(h:i<n):(l.take n).getD i 0=l.getD i 0:=by
 rw[ar,ar,bq,ae h]
theorem F8{f:Frame}(h:vF f){n:Nat}(hn:n<f.body.length+7):(fR ((jK f).take n)).2.2≠0:=by
 have hl:((jK f).take n).length=n:=by rw[aI,iz];omega
 unfold fR;rw[hl]
 by_cases h7:n<7
 ·rw[ae h7];decide
 rw[aa h7];have e:kV ((jK f).take n)=f.body.length:=by
  have:=(Kn h []).1;rw[aS] at this;unfold kV at this⊢;rw[getD_take qW,getD_take qW];exact this
 split
 ·decide
 ·rw[e,ae hn];decide
theorem F9:(fR []).2.2≠0:=by decide
theorem xA{s:BS}(h:(fR s).2.2≠0):fk s=([],0):=by
 unfold fk;rw[nu,ae h]
theorem CE{f:Frame}(h:vF f)(s:BS):fk (jK f++s)=(f::(fk s).1,(f.body.length:Int)+7+(fk s).2):=by
 have hg:=Ko h s;have hd:(jK f++s).drop (((f.body.length:Int)+7).toNat)=s:=by
  have:((f.body.length:Int)+7).toNat=(jK f).length:=by rw[iz];omega
  rw[this];exact db
 have hlt:s.length<(jK f++s).length:=by rw[ag,iz];omega
 have e:fk (jK f++s)=nu ((jK f++s).length+1) (jK f++s):=rfl;rw[e,nu,hg];simp only[hd];rw[aa (λh=>h rfl),pG _ s hlt]
def fe(l:List Frame):BS:=(l.map jK).flatten
theorem jv(f:Frame)(l:List Frame):fe (f::l)=jK f++fe l:=by simp[fe]
theorem oC(a b:List Frame):fe (a++b)=fe a++fe b:=by simp[fe]
theorem sx:∀(l:List Frame),(∀f∈l,vF f)->∀n:Nat,∃k,k<=l.length/\(fk ((fe l).take n)).1=l.take k/\(fe (l.take k)).length<=n/\∀j,j<=l.length->(fe (l.take j)).length<=n->j<=k
 |[],_,n=>⟨0,ah _,by
   have:(fe []).take n=[]:=by simp[fe]
   rw[this,xA F9];rfl,by simp[fe],λj hj _=>hj⟩
 |f::l,h,n=>by
  have hf:=h f (by simp);have hl:=iz f
  by_cases hn:n<(jK f).length
  ·refine⟨0,aP _,?_,by simp[fe],λj hj hlen=>?_⟩
   ·rw[jv,cP qW,xA (F8 hf qW)];rfl
   ·cases j with
    |zero=>exact ah _
    |succ j=>rw[cI,jv,ag] at hlen;omega
  ·obtain⟨k,k1,k2,b,a⟩:=sx l (λg hg=>h g (by simp[hg])) (n-(jK f).length);refine⟨k+1,by simpa using k1,?_,?_,λj hj hlen=>?_⟩
   ·have e:(fe (f::l)).take n=jK f++(fe l).take (n-(jK f).length):=by
     rw[jv,List.take_append,aY qW]
    rw[e,CE hf,k2];rfl
   ·rw[cI,jv,ag];omega
   ·cases j with
    |zero=>exact aP _
    |succ j=>
     rw[cI,jv,ag] at hlen;have:=a j (by simpa using hj) qW;omega
theorem Kp(l:List Frame)(h:∀f∈l,vF f):(fk (fe l)).1=l:=by
 obtain⟨k,k1,k2,b,a⟩:=sx l h (fe l).length;rw[aM] at k2;have:=a l.length (ah _) (by rw[aM];exact ah _);rw[k2,aY this]
theorem Kq{d:List Part}(h:ed d=0):∀p∈d,rT p:=(fP h).2.1
theorem T7{d:List Part}(h:ed d=0):(lH (fb d):Int)=kU d:=(l9 _ (Kq h))
theorem Kr{d:List Part}(h:ed d=0):(lf (fb d):Int)=iV d:=(mV _ (Kq h))
theorem xB{d:List Part}{s:BS}(h:(kl d s).2=0):ed d=0/\lH (fb d)=s.length/\(kl d s).1.length=lf (fb d)/\s.length<=500:=by
 unfold kl at h⊢
 by_cases hf:kW d s.length=0
 ·obtain⟨h1,h2⟩:=r6 hf;have h3:=T7 h1;have h4:=fP h1;rw[ae hf];have h5:lH (fb d)=s.length:=by omega
  refine⟨h1,h5,?_,qW⟩;exact MG _ _ h5.symm
 ·rw[aa hf] at h;exact absurd h hf
def Er(cur:BS)(l:List eP):BS:=(cur::(mj cur l).1).getD l.length []
theorem vG{cur:BS}{r:eP}{l:List eP}(h:(mj cur (r::l)).2=0):iL r=0/\(kl r.delta cur).2=0/\(mj (kl r.delta cur).1 l).2=0/\(mj cur (r::l)).1=(kl r.delta cur).1::(mj (kl r.delta cur).1 l).1:=by
 rw[mj] at h⊢
 by_cases h1:iL r≠0
 ·rw[ae h1] at h;exact absurd h h1
 rw[aa h1] at h⊢
 by_cases h2:(kl r.delta cur).2≠0
 ·rw[ae h2] at h;exact absurd h h2
 rw[aa h2] at h⊢;exact⟨az h1,az h2,h,rfl⟩
theorem CF{cur:BS}{r:eP}{l:List eP}(h:(mj cur (r::l)).2=0):Er cur (r::l)=Er (kl r.delta cur).1 l:=by
 unfold Er;rw[(vG h).2.2.2];rfl
end Go.Proofs.YtobngncjflogcaaGreat.AM
