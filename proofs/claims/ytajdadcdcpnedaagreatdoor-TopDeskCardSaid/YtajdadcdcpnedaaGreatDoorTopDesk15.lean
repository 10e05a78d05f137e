/-
  Part 15 of what the law TopDesk reaches: the plain machine, contracts of the functions and plain laws; each lemma says its own condition.
-/
import Derived.Test.YtajdadcdcpnedaaGreatDoorTopDesk14
import Derived.Test.YtajdadcdcpnedaaGreatDoorTopDesk11
import Derived.Test.YtajdadcdcpnedaaGreatDoorTopDesk5
import Derived.Test.YtajdadcdcpnedaaGreatDoorTopDesk6
import Derived.Shelf.Strconv.Itoa3
import Derived.Shelf.Strconv.Atoi
import Derived.Shelf.LaysM
import Derived.Shelf.Strings.Search1
import Derived.Shelf.Small.Strs
import Derived.Lib.AppendIntMem
import Derived.Lib.SmallJoins
import Derived.WalkKit
import Derived.WalkSpells
import Derived.Lib.AtoiBound
import Derived.Lib.AtoiErrMem
import Derived.Lib.ItoaMem
import Derived.Test.YtajdadcdcpnedaaGreatDoorTopDesk7
import Derived.Shelf.Strings.Split
import Derived.Lib.SplitLaws
import Derived.Laws.BitsLemmas
import Derived.Test.YtajdadcdcpnedaaGreatDoorTopDesk8
set_option linter.unusedVariables false
set_option linter.unusedSimpArgs false
namespace Go.Proofs.YtajdadcdcpnedaaGreatDoor.AM
open Go
set_option maxRecDepth 100000
set_option maxHeartbeats 2000000
def Dh:AC:=qr [qo 4 (.mov (.c (.slice none 0 0))),qz 5 0] (qq (qr [qm 13 0,qo 14 (.len true (.t 13)),qc 15 .gtr 14 500,qm 16 15,qg 17 16 false (.mov (.t 1)),qg 18 16 false (.len true (.t 17)),qg 19 16 false (.bin .gtr (.t 18) (qk 500)),qo 20 (.pick (.t 16) (.c (.bool true)) (.t 19))] (qu 20 (qr [qo 4 (.mov (.c (.slice none 0 0))),qz 5 2] .ret) .skip)) (qr [qm 21 0,qo 22 (.len true (.t 21)),qc 23 .add 22 1,qo 24 (.mkslice 80 1 24 Rc (.t 23) (.t 23)),qm 6 24] (qq (qr [qm 25 6,qo 26 (.len false (.t 25)),qz 27 0] (.block 0 (.loop (qr [qb 28 .lss 27 26] (qq (qu 28 .skip (.exit 0)) (qq (.block 1 (qr [qm 29 27,qm 7 29] (qR [qm 30 6,qm 31 7,qm 32 1,qo 33 (.len true (.t 32)),qc 34 .add 33 1,qo 35 (.mkslice 3 1 8 [q0] (.t 34) (.t 34)),qo 36 (.iaddr 1 (.t 30) (.t 31)),qs 1 36 35]))) (qR [qc 37 .add 27 1,qm 27 37]))))))) (qq (qr [qm 38 0,qo 39 (.len true (.t 38)),qc 40 .sub 39 1,qm 8 40] (.block 2 (.loop (qq (qr [qm 41 8,qc 42 .geq 41 0] (qu 42 .skip (.exit 2))) (qq (.block 3 (qr [qm 45 1,qo 46 (.len true (.t 45)),qc 47 .sub 46 1,qm 9 47] (.block 4 (.loop (qq (qr [qm 48 9,qc 49 .geq 48 0] (qu 49 .skip (.exit 4))) (qq (.block 5 (qq (.region true [qm 52 0,qm 53 8,qo 54 (.ixs (.t 52) (.t 53)),qm 55 1,qm 56 9,qo 57 (.ixs (.t 55) (.t 56)),qb 58 .eql 54 57]) (qu 58 (.region true [qm 59 6,qm 60 8,qo 61 (.iaddr 1 (.t 59) (.t 60)),ql 62 61,qm 63 9,qm 64 6,qm 65 8,qc 66 .add 65 1,qo 67 (.iaddr 1 (.t 64) (.t 66)),ql 68 67,qm 69 9,qc 70 .add 69 1,qo 71 (.iaddr 1 (.t 68) (.t 70)),ql 72 71,qo 73 (.bin .add (qk 1) (.t 72)),qo 74 (.iaddr 1 (.t 62) (.t 63)),qs 1 74 73]) (.region true [qm 75 6,qm 76 8,qo 77 (.iaddr 1 (.t 75) (.t 76)),ql 78 77,qm 79 9,qm 80 6,qm 81 8,qc 82 .add 81 1,qo 83 (.iaddr 1 (.t 80) (.t 82)),ql 84 83,qm 85 9,qo 86 (.iaddr 1 (.t 84) (.t 85)),ql 87 86,qm 88 6,qm 89 8,qo 90 (.iaddr 1 (.t 88) (.t 89)),ql 91 90,qm 92 9,qc 93 .add 92 1,qo 94 (.iaddr 1 (.t 91) (.t 93)),ql 95 94,qo 96 (.mm true (.t 87) (.t 95)),qo 97 (.iaddr 1 (.t 78) (.t 79)),qs 1 97 96])))) (qR [qm 50 9,qc 51 .sub 50 1,qm 9 51]))))))) (qR [qm 43 8,qc 44 .sub 43 1,qm 8 44])))))) (qr [qo 10 (.alloc 88 SU)] (qr [qz 11 0,qz 12 0] (qq (.block 6 (.loop (qq (qr [qm 98 11,qm 99 0,qo 100 (.len true (.t 99)),qb 101 .lss 98 100,qm 102 101,qg 103 102 true (.mov (.t 12)),qg 104 102 true (.mov (.t 1)),qg 105 102 true (.len true (.t 104)),qg 106 102 true (.bin .lss (.t 103) (.t 105)),qo 107 (.pick (.t 102) (.t 106) (.c (.bool false)))] (qu 107 .skip (.exit 6))) (.block 7 (.block 8 (qq (.region true [qm 117 0,qm 118 11,qo 119 (.ixs (.t 117) (.t 118)),qm 120 1,qm 121 12,qo 122 (.ixs (.t 120) (.t 121)),qb 123 .eql 119 122,qm 116 123]) (qu 116 (qr [qa 124 32 [.t 10,qk 1]] (qr [qm 125 11,qc 126 .add 125 1,qm 11 126] (qR [qm 127 12,qc 128 .add 127 1,qm 12 128]))) (qq (.region true [qm 130 6,qm 131 11,qc 132 .add 131 1,qo 133 (.iaddr 1 (.t 130) (.t 132)),ql 134 133,qm 135 12,qo 136 (.iaddr 1 (.t 134) (.t 135)),ql 137 136,qm 138 6,qm 139 11,qo 140 (.iaddr 1 (.t 138) (.t 139)),ql 141 140,qm 142 12,qc 143 .add 142 1,qo 144 (.iaddr 1 (.t 141) (.t 143)),ql 145 144,qb 146 .geq 137 145,qm 129 146]) (qu 129 (qr [qa 147 33 [.t 10,qk 1]] (qR [qm 148 11,qc 149 .add 148 1,qm 11 149])) (qr [qm 108 1,qm 109 12,qm 110 12,qc 111 .add 110 1,qo 112 (.slstr (.t 108) (some (.t 109)) (some (.t 111))),qa 113 34 [.t 10,.t 112]] (qR [qm 114 12,qc 115 .add 114 1,qm 12 115]))))))))))) (qr [qm 150 0,qo 151 (.len true (.t 150)),qm 152 11,qb 153 .sub 151 152,qa 154 33 [.t 10,.t 153]] (qr [qm 155 1,qm 156 12,qo 157 (.slstr (.t 155) (some (.t 156)) none),qa 158 34 [.t 10,.t 157]] (qr [qa 159 35 [.t 10],qm 4 159,qz 5 0] .ret))))))))))
theorem Nq:fF Tryz.prog 10 Tryz.f10 Dh [.t 4,.t 5] 2 dS:=⟨Tryz.func10,by decide+kernel,by kernel_rfl,by kernel_rfl,by decide+kernel⟩
theorem tB{P:Prim}(hP:P=cp)(s:BS)(k:Nat):P.sat s (k:Int)=((s.getD k 0).toNat:Int):=by subst hP;rfl
structure WT(N:Nat) where
 m:Nat
 k:Int
 bs:Nat->Option Nat
 hm:m<=N
 hk:k=(m:Int)
structure WU(s t:BS) where
 i:Nat
 j:Nat
 ki:Int
 kj:Int
 m:Mk
 n:Nat
 put:BS
 cut:Int
 rows:List (List V)
 ba:Option Nat
 hi:i<=s.length
 hj:j<=t.length
 Q3:ki=(i:Int)
 AG:kj=(j:Int)
 hm:n=m.out.length/\rows=m.out.map a7/\put=m.put/\cut=m.cut
 im:nI (hH s t)=(m.run (hH (s.drop i) (t.drop j))).flush
 hb:m.Bd (i+j) (i+j)
theorem JC{bb:Option Nat}{bm N w:Nat}{bs:Nat->Option Nat}{tab:Nat->List Int}(hw:∀j,j<N->(tab j).length=w){s:S}(hi:s.t 6=.own 1000024 bb 1 N)(h0:s.h 1000024=some ⟨bb,80,1,iv N N w bs⟩)
  (hr:∀j,j<N->s.h (eY j)=some ⟨bs j,3,1,gf (tab j)⟩)(b:s.h 10=some ⟨some bm,88,3,[[.nilsl,.str [],.int .i64 0]]⟩)(a:s.h 1000999=none):
  ∃s1,cd s s1/\s1.t=jh s.t 6 (.sl false 1 (Qe N tab))/\s1.h 10=some ⟨some bm,88,3,[[.own 1000999 none 3 0,.str [],.int .i64 0]]⟩/\s1.h 1000999=some ⟨none,41,3,[]⟩:=by
 obtain⟨s1,e1,e,d⟩:=ES hw hi h0 hr;have g:=cd.kQ (s:=s1) (k:=10) (k':=1000999) (ty:=41) (sz:=3) (r:=0) (c:=0) ((d 10 qD qD).trans b) rfl rfl ((d 1000999 qD qD).trans a);exact⟨_,e1.trans g,e,rfl,rfl⟩
structure Vj(n:Nat) where
 i:Nat
 k:Int
 hi:i<=n
 hk:k=(i:Int)-1
def jK(s t:BS)(i k:Nat):Nat->List Int:=λj=>(List.range (t.length+1)).map λc=>if i<j\/(j=i/\k<=c) then(lcs (s.drop j) (t.drop c):Int) else 0
theorem nf(s t:BS)(i k j:Nat):(jK s t i k j).length=t.length+1:=by simp[jK]
theorem jL{s t:BS}{i k j c:Nat}(h:c<t.length+1):(jK s t i k j)[c]? =some (if i<j\/(j=i/\k<=c) then(lcs (s.drop j) (t.drop c):Int) else 0):=by
 unfold jK;rw[aw,dv h];rfl
theorem rG{s t:BS}{i k j:Nat}{l:List Int}(hl:l.length=t.length+1)(h:∀c,c<t.length+1->l[c]? =some (if i<j\/(j=i/\k<=c) then(lcs (s.drop j) (t.drop c):Int) else 0)):jK s t i k j=l:=by
 refine cN λc=>?_
 by_cases hc:c<t.length+1
 ·rw[jL hc,h c hc]
 ·rw[bh (by rw[nf];omega),bh qW]
theorem BN(s t:BS)(j:Nat)(hj:j<s.length+1):jK s t s.length 0 j=List.replicate (t.length+1) 0:=by
 refine rG (by simp) λc hc=>?_;rw[dG,ab hc]
 split
 ·rename_i h;have:j=s.length:=by omega
  subst this;rw[cG,nC];rfl
 ·rfl
theorem JD(s t:BS)(i j:Nat):jK s t i t.length j=jK s t (i+1) 0 j:=by
 refine rG (nf _ _ _ _ _) λc hc=>?_;rw[jL hc]
 by_cases h:i<j
 ·rw[ab qW,ab (.inl h)]
 ·rw[aa qW]
  split
  ·rename_i h2;have:c=t.length:=by omega
   subst this;rw[cG,mK];rfl
  ·rfl
theorem uY{s t:BS}{i k k' j:Nat}(h:j≠i):jK s t i k j=jK s t i k' j:=by
 refine rG (nf _ _ _ _ _) λc hc=>?_;rw[jL hc]
 by_cases g:i<j
 ·rw[ab (.inl g),ab (.inl g)]
 ·rw[aa qW,aa qW]
theorem JE{s t:BS}{i k:Nat}(hk:k<t.length){v:Int}(hv:v=(lcs (s.drop i) (t.drop k):Int)):(jK s t i (k+1) i).set k v=jK s t i k i:=by
 symm
 refine rG (by rw[dy,nf]) λc hc=>?_
 by_cases h:c=k
 ·subst h;rw[dN (by rw[nf];omega),ab (.inr ⟨rfl,ak _⟩),hv]
 ·rw[ei (λe=>h e.symm),jL hc]
  by_cases g:k<=c
  ·rw[ab (.inr ⟨rfl,qW⟩),ab (.inr ⟨rfl,g⟩)]
  ·rw[aa qW,aa qW]
theorem JF{s t:BS}{i k:Nat}(hi:i<s.length)(hk:k<t.length):lcs (s.drop i) (t.drop k)=if s.getD i 0=t.getD k 0 then 1+lcs (s.drop (i+1)) (t.drop (k+1)) else max (lcs (s.drop (i+1)) (t.drop k)) (lcs (s.drop i) (t.drop (k+1))):=by
 have e1:s.getD i 0=s[i]:=by rw[au,af hi];rfl
 have a:t.getD k 0=t[k]:=by rw[au,af hk];rfl
 rw[bw hi,bw hk,uW,e1,a]
theorem Fb{s t:BS}{i k:Nat}(hi:i<s.length)(hk:k<t.length):hH (s.drop i) (t.drop k)=if s.getD i 0=t.getD k 0 then .keep::hH (s.drop (i+1)) (t.drop (k+1))
  else if lcs (s.drop i) (t.drop (k+1))<=lcs (s.drop (i+1)) (t.drop k) then .cut::hH (s.drop (i+1)) (t.drop k) else .put (t.getD k 0)::hH (s.drop i) (t.drop (k+1)):=by
 have e1:s.getD i 0=s[i]:=by rw[au,af hi];rfl
 have a:t.getD k 0=t[k]:=by rw[au,af hk];rfl
 rw[bw hi,bw hk,uX,e1,a]
def BO(w:Nat):Nat->List Int:=λ_=>List.replicate w 0
theorem Nr(P:Prim)(hP:P=cp)(T T1:cm)(s t:BS)
  (Sr:∀k:Int,0<=k/\k<=1000000->yK T 32 [qI k] (λm=>∃j w,m.Bd j w/\j<=2000000) (λm=>m.fU k) nJ)
  (W:∀s:BS,s.length<=1000000000->yK T 34 [.str s] (λm=>m.put.length+s.length<=1000000000) (λm=>m.iM s) nJ)
  (X:∀k:Int,0<=k/\k<=1000000->yK T 33 [qI k] (λm=>∃j w,m.Bd j w/\j<=2000000) (λm=>m.hO k) nJ)
  (Y:yK T 35 [] (λm=>m.out.length<=100000000) (λm=>⟨m.flush,[],0⟩) yL)
  (r:List Part)(e:Int)(hr:jf s t=(r,e))(rr:List (List V))(Z:rr=r.map a7)
  (R:S->Prop)(hR:∀e2,e2=e->qQ [.t 4,.t 5] 3 rr [qI e2] R):gE P T T1 Dh (S0 [.str s,.str t] Hp.emp) R (λ_ _=>False) R:=by
 have p:P.b5 s=(s.length:Int):=cA hP s;have u:P.b5 t=(t.length:Int):=cA hP t;unfold jf at hr;have bad:500<s.length\/500<t.length->rr=[]/\2=e:=λh=>by
  rw[ab h] at hr;simp only[aX] at hr;exact⟨by rw[Z,<-hr.1];rfl,hr.2⟩
 cbv;refine a6 (λg=>?_) (λg=>?_)
 ·have g1:500<P.b5 s:=gM hP g;rw[p] at g1;have hb:=bad (.inl qO);cbv;exact(hR _ hb.2).1 _ _ (cd.refl _) rfl hb.1
 have g1:¬500<P.b5 s:=gN hP g;rw[p] at g1;cbv;refine a6 (λg=>?_) (λg=>?_)
 ·have g2:500<P.b5 t:=gM hP g;rw[u] at g2;have hb:=bad (.inr qO);cbv;exact(hR _ hb.2).1 _ _ (cd.refl _) rfl hb.1
 have g2:¬500<P.b5 t:=gN hP g;rw[u] at g2;rw[aa qO] at hr;simp only[aX] at hr;clear bad g;have Vk:s.length<=500:=by((try simp only[nc] at*);omega)
 have Vl:t.length<=500:=by((try simp only[nc] at*);omega)
 obtain⟨N,hN⟩:∃N,N=s.length+1:=⟨_,rfl⟩;obtain⟨w,hw⟩:∃w,w=t.length+1:=⟨_,rfl⟩;have sn:P.add (P.b5 s) 1=(N:Int):=by rw[add_eq hP,p,hN];((try simp only[nc] at*);omega)
 have tn:P.add (P.b5 t) 1=(w:Int):=by rw[add_eq hP,u,hw];((try simp only[nc] at*);omega)
 have s1:P.i64 (P.add (P.b5 s) 1):=by rw[sn];exact fm hP qO
 have t1:P.i64 (P.add (P.b5 t) 1):=by rw[tn];exact fm hP qO
 have s2:P.fK 0 (P.add (P.b5 s) 1):=iJ hP (by rw[sn];((try simp only[nc] at*);omega));have t2:P.fK 0 (P.add (P.b5 t) 1):=iJ hP (by rw[tn];((try simp only[nc] at*);omega));have s3:P.bytes (P.add (P.b5 s) 1) 24:=by rw[sn];subst hP;show(N:Int)*24<=_;((try simp only[nc] at*);omega)
 have t3:P.bytes (P.add (P.b5 t) 1) 8:=by rw[tn];subst hP;show(w:Int)*8<=_;((try simp only[nc] at*);omega)
 have s4:P.fK (P.add (P.b5 s) 1) 140737488355328:=qy hP (by rw[sn];((try simp only[nc] at*);omega));have t4:P.fK (P.add (P.b5 t) 1) 140737488355328:=qy hP (by rw[tn];((try simp only[nc] at*);omega));have s5:P.nat (P.add (P.b5 s) 1)=N:=by rw[sn];subst hP;rfl
 have t5:P.nat (P.add (P.b5 t) 1)=w:=by rw[tn];subst hP;rfl
 have s6:∀bs,P.Ea (P.add (P.b5 s) 1) [.nilsl]=iv N 0 w bs:=by
  intro bs;rw[sn];subst hP;show List.replicate N [V.nilsl]=_;refine cN λi=>?_
  by_cases hi:i<N
  ·rw[jW hi,aa (fx _),dG,ab hi]
  ·rw[bh (by simp;omega),bh (by rw[iS];omega)]
 have t6:P.Ea (P.add (P.b5 t) 1) [qI 0]=gf (List.replicate w 0):=by rw[tn];subst hP;simp[cp,gf]
 have s7:P.int N=(N:Int):=int_eq hP N;cbv
 repeat' first|(refine And.intro (by first|assumption|rfl) ?_;cbv)|(intro β;cbv)
 refine⟨WT N,λy=>[(0,.str s),(1,.str t),(6,.own 1000024 (some β) 1 (P.nat (P.add (P.b5 s) 1))),(25,.own 1000024 (some β) 1 (P.nat (P.add (P.b5 s) 1))),(26,qI (P.int (P.nat (P.add (P.b5 s) 1)))),(27,qI y.k)],
  λy=>wi (some β) N y.m w y.bs (BO w),λy=>N-y.m,
  ⟨_,cd.refl _,⟨0,0,λ_=>none,qW,rfl⟩,⟨rfl,rfl,rfl,rfl,rfl,rfl,trivial⟩,mW (ay (λr=>some (⟨some β,80,1,r⟩:Ob)) (s6 _)) (λj h=>absurd h (fx _))⟩,?_⟩
 rintro⟨m,k,bs,hm,hk⟩;obtain⟨heap,c⟩:∃heap,a8 (wi (some β) N m w bs (BO w))=heap:=⟨_,rfl⟩;show gE P T T1 _ ⟨look _,a8 (wi (some β) N m w bs (BO w))⟩ _ _ _;rw[c];have d:heap 1000024=some ⟨some β,80,1,iv N m w bs⟩:=by rw[<-c];exact pz _ _ _ _ _ _
 obtain⟨tr,B⟩:∃tr,tr=iv N m w bs:=⟨_,rfl⟩;rw[<-B] at d;have Uj:heap 1000035=none:=by rw[<-c];exact rn qD (λj _=>by unfold eY;omega)
 cbv;refine a6 (λg=>?_) (λg=>?_)
 ·have h5:k<P.int (P.nat (P.add (P.b5 s) 1)):=gM hP g;rw[s5,s7,hk] at h5;have Ss:m<N:=by((try simp only[nc] at*);omega)
  have k0:P.fK 0 k:=iJ hP qO;have k1:P.iq k (P.int (P.nat (P.add (P.b5 s) 1))):=lk hP (gM hP g);have k2:P.i64 (P.add k 1):=by rw[add_eq hP];exact fm hP qO
  have k3:P.add k 1=((m+1:Nat):Int):=by rw[add_eq hP,hk];((try simp only[nc] at*);omega)
  have k4:P.row tr (P.nat k) [.nilsl]:=gz hP hk (by rw[B,jW Ss,aa qW]);cbv
  repeat' first|(refine And.intro (by first|assumption|rfl) ?_;cbv)|(intro f;cbv)
  rw[d];refine⟨rfl,rfl,_,k4,ak 1,⟨rfl,rfl⟩,?_⟩;cbv;refine⟨k2,?_⟩;refine(MZ (bi:=some f) (rows2:=P.yn tr (P.nat k) [.own 1000035 (some f) 1 (P.nat (P.add (P.b5 t) 1))]) (inner:=P.Ea (P.add (P.b5 t) 1) [qI 0]) c Ss ?hs ?hin ?hrows).elim λs1 h=>⟨s1,h.1,⟨m+1,P.add k 1,λi=>if i=m then some f else bs i,Ss,k3⟩,⟨(dm h.2.1 0).trans rfl,(dm h.2.1 1).trans rfl,(dm h.2.1 6).trans rfl,(dm h.2.1 25).trans rfl,(dm h.2.1 26).trans rfl,(dm h.2.1 27).trans rfl,trivial⟩,h.2.2,by show N-(m+1)<N-m;omega⟩
  case hs=>rfl
  case hin=>exact t6
  case hrows=>
   have:P.nat k=m:=by rw[hk];subst hP;rfl
   show P.yn tr (P.nat k) [.own 1000035 (some _) 1 (P.nat (P.add (P.b5 t) 1))]=_;rw[this,t5,B];subst hP;rfl
 have h5:¬k<P.int (P.nat (P.add (P.b5 s) 1)):=gN hP g;rw[s5,s7,hk] at h5;have Ss:m=N:=by((try simp only[nc] at*);omega)
 subst Ss;have sm:P.i64 (P.sub (P.b5 s) 1):=by rw[sub_eq hP,p];exact fm hP qO
 have tm:P.i64 (P.sub (P.b5 t) 1):=by rw[sub_eq hP,u];exact fm hP qO
 have hz:∀j,j<m->heap (eY j)=some ⟨bs j,3,1,gf (jK s t s.length 0 j)⟩:=λj hj=>by
  rw[<-c,mq hj,BN s t j qW];show some (⟨bs j,3,1,gf (List.replicate w 0)⟩:Ob)=_;rw[hw]
 clear h5 g s6 t6;cbv;refine⟨sm,?_⟩;refine⟨Vj s.length,λy=>[(0,.str s),(1,.str t),(6,.own 1000024 (some β) 1 (P.nat (P.add (P.b5 s) 1))),(8,qI y.k)],
  λy=>wi (some β) m m w bs (jK s t y.i 0),λy=>y.i,
  ⟨_,cd.refl _,⟨s.length,P.sub (P.b5 s) 1,ak _,by rw[sub_eq hP,p]⟩,⟨rfl,rfl,rfl,rfl,trivial⟩,mW (by rw[<-B];exact d) hz⟩,?_⟩
 clear hz d Uj c B;clear heap;rintro⟨i,G,hi,Vm⟩
 replace Vm:G=(i:Int)-1:=Vm
 show gE P T T1 _ ⟨look _,a8 (wi (some β) m m w bs (jK s t i 0))⟩ _ _ _;obtain⟨heap,c⟩:∃heap,a8 (wi (some β) m m w bs (jK s t i 0))=heap:=⟨_,rfl⟩;rw[c];cbv;refine a6 (λg=>?_) (λg=>?_)
 ·have g5:=j6 hP g;obtain⟨i,rfl⟩:∃i',i=i'+1:=⟨i-1,qO⟩;have Yg:P.fK 0 G:=iJ hP qO;have Tl:G=(i:Int):=by((try simp only[nc] at*);omega)
  have WV:P.i64 (P.sub G 1):=by rw[sub_eq hP];exact fm hP qO
  have WW:P.sub G 1=(i:Int)-1:=by rw[sub_eq hP,Tl]
  have hz:∀j,j<m->heap (eY j)=some ⟨bs j,3,1,gf (jK s t i t.length j)⟩:=λj hj=>by
   rw[<-c,mq hj,JD]
  have d:heap 1000024=some ⟨some β,80,1,iv m m w bs⟩:=by rw[<-c];exact pz _ _ _ _ _ _
  cbv;refine⟨tm,?_⟩;refine⟨Vj t.length,λy=>[(0,.str s),(1,.str t),(6,.own 1000024 (some β) 1 (P.nat (P.add (P.b5 s) 1))),(8,qI G),(9,qI y.k)],
   λy=>wi (some β) m m w bs (jK s t i y.i),λy=>y.i,
   ⟨_,cd.refl _,⟨t.length,P.sub (P.b5 t) 1,ak _,by rw[sub_eq hP,u]⟩,⟨rfl,rfl,rfl,rfl,rfl,trivial⟩,mW d hz⟩,?_⟩
  clear hz d c;clear heap;rintro⟨j,A,hj,Vn⟩
  replace Vn:A=(j:Int)-1:=Vn
  show gE P T T1 _ ⟨look _,a8 (wi (some β) m m w bs (jK s t i j))⟩ _ _ _;obtain⟨heap,c⟩:∃heap,a8 (wi (some β) m m w bs (jK s t i j))=heap:=⟨_,rfl⟩;rw[c];cbv;refine a6 (λg=>?_) (λg=>?_)
  ·have g6:=j6 hP g;obtain⟨j,rfl⟩:∃j',j=j'+1:=⟨j-1,qO⟩;have M:A=(j:Int):=by((try simp only[nc] at*);omega)
   have Yh:P.fK 0 A:=iJ hP qO;have WX:P.iq G (P.b5 s):=lk hP (by rw[p];((try simp only[nc] at*);omega));have WY:P.iq A (P.b5 t):=lk hP (by rw[u];((try simp only[nc] at*);omega));have Yi:P.i64 (P.sub A 1):=by rw[sub_eq hP];exact fm hP qO
   have Vo:P.sub A 1=(j:Int)-1:=by rw[sub_eq hP,M]
   have Yj:P.i64 (P.add G 1):=by rw[add_eq hP];exact fm hP qO
   have Yk:P.i64 (P.add A 1):=by rw[add_eq hP];exact fm hP qO
   have Uk:P.add G 1=((i+1:Nat):Int):=by rw[add_eq hP,Tl];((try simp only[nc] at*);omega)
   have Tm:P.add A 1=((j+1:Nat):Int):=by rw[add_eq hP,M];((try simp only[nc] at*);omega)
   have Yl:P.fK 0 (P.add G 1):=iJ hP (by rw[Uk];((try simp only[nc] at*);omega));have Ym:P.fK 0 (P.add A 1):=iJ hP (by rw[Tm];((try simp only[nc] at*);omega));have Yn:P.iq G (P.int (P.nat (P.add (P.b5 s) 1))):=lk hP (by rw[s5,s7];((try simp only[nc] at*);omega));have Yo:P.iq (P.add G 1) (P.int (P.nat (P.add (P.b5 s) 1))):=lk hP (by rw[s5,s7,Uk];((try simp only[nc] at*);omega));have w7:P.int w=(w:Int):=int_eq hP w;have Yp:P.iq A (P.int w):=lk hP (by rw[w7];((try simp only[nc] at*);omega));have Yq:P.iq (P.add A 1) (P.int w):=lk hP (by rw[w7,Tm];((try simp only[nc] at*);omega));obtain⟨tr,B⟩:∃tr,tr=iv m m w bs:=⟨_,rfl⟩;obtain⟨q0,Su⟩:∃q,q=eY i:=⟨_,rfl⟩;obtain⟨q1,Q1⟩:∃q,q=eY (i+1):=⟨_,rfl⟩;obtain⟨b0,Bj⟩:∃b,b=bs i:=⟨_,rfl⟩;obtain⟨b1,hb1⟩:∃b,b=bs (i+1):=⟨_,rfl⟩;obtain⟨r0,H⟩:∃r,r=gf (jK s t i (j+1) i):=⟨_,rfl⟩;obtain⟨r1,O⟩:∃r,r=gf (jK s t i (j+1) (i+1)):=⟨_,rfl⟩;have D:1000000<=q0:=by rw[Su];unfold eY;omega
   have Sv:1000000<=q1:=by rw[Q1];unfold eY;omega
   have d:heap 1000024=some ⟨some β,80,1,tr⟩:=by rw[<-c,B];exact pz _ _ _ _ _ _
   have QD:heap q0=some ⟨b0,3,1,r0⟩:=by rw[<-c,Su,Bj,H];exact mq qW
   have Sw:heap q1=some ⟨b1,3,1,r1⟩:=by rw[<-c,Q1,hb1,O];exact mq qW
   have E:P.row tr (P.nat G) [.own q0 b0 1 w]:=gz hP Tl (by rw[B,jW qW,ab qW,Su,Bj]);have J:P.row tr (P.nat (P.add G 1)) [.own q1 b1 1 w]:=gz hP Uk (by rw[B,jW qW,ab qW,Q1,hb1]);have c0:P.row r0 (P.nat (P.add A 1)) [qI (lcs (s.drop i) (t.drop (j+1)):Int)]:=gz hP Tm (by rw[H,gf,aw,jL qW,ab (.inr ⟨rfl,ak _⟩)];rfl);have c1:P.row r1 (P.nat (P.add A 1)) [qI (lcs (s.drop (i+1)) (t.drop (j+1)):Int)]:=gz hP Tm (by rw[O,gf,aw,jL qW,ab (.inl (ct i))];rfl);have c2:P.row r1 (P.nat A) [qI (lcs (s.drop (i+1)) (t.drop j):Int)]:=gz hP M (by rw[O,gf,aw,jL qW,ab (.inl (ct i))];rfl);have cz:∃z,P.row r0 (P.nat A) [qI z]:=⟨_,gz hP M (by rw[H,gf,aw,jL qW];rfl)⟩;obtain⟨z,cz⟩:=cz;have o:=JF (s:=s) (t:=t) (i:=i) (k:=j) qW qW;have lb:∀a b:BS,a.length<=500->lcs a b<=500:=λa b h=>by
    obtain⟨l,h1,_,h3⟩:=xS a b;have:=h1.length_le;omega
   have WZ:=lb (s.drop (i+1)) (t.drop (j+1)) (by rw[aP];omega);clear lb
   generalize(lcs (s.drop i) (t.drop (j+1)))=Q at c0 o
   generalize(lcs (s.drop (i+1)) (t.drop (j+1)))=Tn at c1 o WZ
   generalize(lcs (s.drop (i+1)) (t.drop j))=U at c2 o
   cbv
   repeat' first|(refine And.intro (by assumption) ?_;cbv)|(intro f;cbv)
   have F:P.sat s G=P.sat t A↔s.getD i 0=t.getD j 0:=by
    rw[Tl,M,tB hP,tB hP];exact⟨λh=>UInt8.toNat.inj qO,λh=>by rw[h]⟩
   have Sx:∀v:Int,v=(lcs (s.drop i) (t.drop j):Int)->P.yn r0 (P.nat A) [qI v]=gf (jK s t i j i):=λv hv=>by
    have hn:P.nat A=j:=by rw[M];subst hP;rfl
    rw[H,hn,<-JE qW hv];subst hP;show(gf _).set j _=_;unfold gf;rw[List.map_set]
   refine a6 (λg=>?_) (λg=>?_)
   ·have heq:s.getD i 0=t.getD j 0:=F.1 (mz hP g);cbv
    repeat' first|(refine And.intro (by assumption) ?_;cbv)|(intro f;cbv)
    rw[d];refine⟨rfl,rfl,_,E,?_⟩;cbv
    repeat' first|(refine And.intro (by assumption) ?_;cbv)|(intro f;cbv)
    rw[d];refine⟨rfl,rfl,_,J,?_⟩;cbv
    repeat' first|(refine And.intro (by assumption) ?_;cbv)|(intro f;cbv)
    refine oL Sw Sv rfl rfl c1 ?_;have a1:P.add 1 (Tn:Int)=((1+Tn:Nat):Int):=by rw[add_eq hP];((try simp only[nc] at*);omega)
    have a2:P.i64 (P.add 1 (Tn:Int)):=by rw[a1];exact fm hP qO
    cbv
    repeat' first|(refine And.intro (by assumption) ?_;cbv)|(intro f;cbv)
    refine oL QD D rfl rfl cz ⟨ak 1,⟨rfl,rfl⟩,?_⟩;rw[zu D];cbv
    repeat' first|(refine And.intro (by assumption) ?_;cbv)|(intro f;cbv)
    exact⟨_,cd.refl _,⟨j,P.sub A 1,qW,Vo⟩,⟨rfl,rfl,rfl,rfl,rfl,trivial⟩,
     IV (i:=i) (b:=b0) (rows:=P.yn r0 (P.nat A) [qI (P.add 1 (Tn:Int))]) (tab':=jK s t i j) c qW (by rw[<-Su];rfl) Bj (Sx _ (by rw[a1,o,ab heq])) (λq _ hq=>uY hq),ct j⟩
   ·have hne:¬s.getD i 0=t.getD j 0:=λx=>mA hP g (F.2 x);cbv
    repeat' first|(refine And.intro (by assumption) ?_;cbv)|(intro f;cbv)
    rw[d];refine⟨rfl,rfl,_,E,?_⟩;cbv
    repeat' first|(refine And.intro (by assumption) ?_;cbv)|(intro f;cbv)
    rw[d];refine⟨rfl,rfl,_,J,?_⟩;cbv
    repeat' first|(refine And.intro (by assumption) ?_;cbv)|(intro f;cbv)
    refine oL Sw Sv rfl rfl c2 ?_;cbv
    repeat' first|(refine And.intro (by assumption) ?_;cbv)|(intro f;cbv)
    rw[d];refine⟨rfl,rfl,_,E,?_⟩;cbv
    repeat' first|(refine And.intro (by assumption) ?_;cbv)|(intro f;cbv)
    refine oL QD D rfl rfl c0 ?_;have a1:P.mx (U:Int) (Q:Int)=((max U Q:Nat):Int):=by rw[Rv hP];((try simp only[nc] at*);omega)
    cbv
    repeat' first|(refine And.intro (by assumption) ?_;cbv)|(intro f;cbv)
    refine oL QD D rfl rfl cz ⟨ak 1,⟨rfl,rfl⟩,?_⟩;rw[zu D];cbv
    repeat' first|(refine And.intro (by assumption) ?_;cbv)|(intro f;cbv)
    exact⟨_,cd.refl _,⟨j,P.sub A 1,qW,Vo⟩,⟨rfl,rfl,rfl,rfl,rfl,trivial⟩,
     IV (i:=i) (b:=b0) (rows:=P.yn r0 (P.nat A) [qI (P.mx (U:Int) (Q:Int))]) (tab':=jK s t i j) c qW (by rw[<-Su];rfl) Bj (Sx _ (by rw[a1,o,aa hne])) (λq _ hq=>uY hq),ct j⟩
  ·have g6:=j7 hP g;have W0:j=0:=by((try simp only[nc] at*);omega)
   subst W0;have d:heap 1000024=some ⟨some β,80,1,iv m m w bs⟩:=by rw[<-c];exact pz _ _ _ _ _ _
   have hz:∀j,j<m->heap (eY j)=some ⟨bs j,3,1,gf (jK s t i 0 j)⟩:=λj hj=>by rw[<-c,mq hj]
   cbv;refine⟨WV,?_⟩;exact⟨_,cd.refl _,⟨i,P.sub G 1,qW,WW⟩,⟨rfl,rfl,rfl,rfl,trivial⟩,mW d hz,ct i⟩
 have g5:=j7 hP g;have W1:i=0:=by((try simp only[nc] at*);omega)
 subst W1;have d:heap 1000024=some ⟨some β,80,1,iv m m w bs⟩:=by rw[<-c];exact pz _ _ _ _ _ _
 have hz:∀j,j<m->heap (eY j)=some ⟨bs j,3,1,gf (jK s t 0 0 j)⟩:=λj hj=>by rw[<-c,mq hj]
 have Ul:heap 10=none:=by rw[<-c];exact rn qD (λj _=>by unfold eY;omega)
 have O2:heap 1000999=none:=by rw[<-c];exact rn qD (λj _=>by unfold eY;omega)
 clear c g5 g;cbv
 repeat' first|(refine And.intro (by assumption) ?_;cbv)|(intro Um;cbv)
 obtain⟨tv,Un⟩:∃tv,tv=Qe m (jK s t 0 0):=⟨_,rfl⟩;refine⟨WU s t,λy=>[(0,.str s),(1,.str t),(6,.sl false 1 tv),(10,.ptr 10 (some Um) 3 0 0),(11,qI y.ki),(12,qI y.kj)],
  λy=>[(10,⟨some Um,88,3,[[.own 1000999 y.ba 3 y.n,.str y.put,qI y.cut]]⟩),(1000999,⟨y.ba,41,3,y.rows⟩)],λy=>(s.length-y.i)+(t.length-y.j),
  (JC (bb:=some β) (bm:=Um) (N:=m) (w:=w) (bs:=bs) (tab:=jK s t 0 0) (λj _=>by rw[nf,hw]) ?hi d ?hr rfl O2).elim λs1 h=>
   ⟨s1,h.1,⟨0,0,0,0,Mk.new,_,_,_,_,none,qW,qW,rfl,rfl,⟨rfl,rfl,rfl,rfl⟩,rfl,Mk.xi⟩,
    ⟨(dm h.2.1 0).trans rfl,(dm h.2.1 1).trans rfl,(dm h.2.1 6).trans (by rw[<-Un];rfl),(dm h.2.1 10).trans rfl,(dm h.2.1 11).trans rfl,(dm h.2.1 12).trans rfl,trivial⟩,⟨h.2.2.1,h.2.2.2,trivial⟩⟩,?_⟩
 case hi=>exact ay (λn=>V.own 1000024 (some β) 1 n) s5
 case hr=>
  intro j hj;show(if eY j=10 then _ else heap (eY j))=_;rw[aa (by unfold eY;omega)];exact hz j hj
 clear hz d Ul O2;clear heap;rintro⟨i,j,ki,kj,mk,n,put,cut,Rr,ba,hi,hj,Q3,AG,hm,im,hb⟩;have Tw:=hb.put;have W2:=hb.cut;have T6:=hb.len;have Yr:P.fK 0 ki:=iJ hP qO;have Ys:P.fK 0 kj:=iJ hP qO;have Yt:P.i64 (P.add ki 1):=by rw[add_eq hP];exact fm hP qO
 have Yu:P.i64 (P.add kj 1):=by rw[add_eq hP];exact fm hP qO
 have To:P.add ki 1=((i+1:Nat):Int):=by rw[add_eq hP,Q3];((try simp only[nc] at*);omega)
 have I:P.add kj 1=((j+1:Nat):Int):=by rw[add_eq hP,AG];((try simp only[nc] at*);omega)
 have fin:i=s.length\/j=t.length->nI (hH s t)=((mk.hO (P.sub (P.b5 s) ki)).iM (P.gZ t kj (P.b5 t))).flush:=λh=>by
  have e1:P.sub (P.b5 s) ki=((s.length-i:Nat):Int):=by rw[sub_eq hP,p,Q3];((try simp only[nc] at*);omega)
  have e2:P.gZ t kj (P.b5 t)=t.drop j:=by
   rw[u,AG];subst hP;show(t.take ((t.length:Int)).toNat).drop j=_;rw[aG,aN]
  rw[im,e1,e2]
  rcases h with h|h
  ·rw[h,cG,oT,Mk.pf];simp[Mk.hO]
  ·rw[h,cG,te,Mk.ti,aP];simp[Mk.iM]
 have e5:P.i64 (P.sub (P.b5 s) ki):=by rw[sub_eq hP,p];exact fm hP qO
 have e6:0<=P.sub (P.b5 s) ki:=by rw[sub_eq hP,p];((try simp only[nc] at*);omega)
 have e7:P.sub (P.b5 s) ki<=1000000:=by rw[sub_eq hP,p];((try simp only[nc] at*);omega)
 have ek:P.gZ t kj (P.b5 t)=t.drop j:=by
  rw[u,AG];subst hP;show(t.take ((t.length:Int)).toNat).drop j=_;rw[aG,aN]
 have e8:(P.gZ t kj (P.b5 t)).length<=1000000000:=by rw[ek,aP];omega
 have e9:(mk.hO (P.sub (P.b5 s) ki)).put.length+(P.gZ t kj (P.b5 t)).length<=1000000000:=by
  show mk.put.length+_<=_;rw[ek,aP];omega
 have ea:(((mk.hO (P.sub (P.b5 s) ki)).iM (P.gZ t kj (P.b5 t)))).out.length<=100000000:=by show mk.out.length<=_;omega
 have eb:P.fK kj (P.b5 t):=qy hP (by rw[u,AG];((try simp only[nc] at*);omega));have ec:P.fK (P.b5 t) (P.b5 t):=qy hP (bn _);cbv;refine a6 (λg=>?_) (λg=>?_)
 rotate_left
 ·have g1:¬ki<P.b5 s:=gN hP g;rw[p] at g1;have g4:=fin (.inl qO);clear fin;cbv;refine⟨e5,?_⟩;refine X _ ⟨e6,e7⟩ _ _ _ _ _ _ _ _ mk _ _ hm ⟨_,_,hb,qW⟩ rfl rfl rfl λAF n' K L rows' C=>?_;cbv
  repeat' first|(refine And.intro (by assumption) ?_;cbv)|(intro f;cbv)
  refine W _ e8 _ _ _ _ _ _ _ _ (mk.hO (P.sub (P.b5 s) ki)) _ _ C e9 rfl rfl rfl λSf n2 pO Jt rows2 pR=>?_;cbv;refine Y _ _ _ _ _ _ _ _ _ _ _ pR ea rfl rfl rfl λTp n3 Uo Up Sy Uq=>?_;obtain⟨Q4,QE,_,_⟩:=Uq;cbv;exact(hR _ hr.2).2.1 _ _ _ _ _ _ _ (cd.refl _) rfl rfl ⟨by rw[Q4,Z,<-hr.1,g4,aH],by rw[QE,Z,<-hr.1,g4]⟩
 ·have g1:ki<P.b5 s:=gM hP g;rw[p] at g1;cbv;refine a6 (λg=>?_) (λg=>?_)
  rotate_left
  ·have g3:¬kj<P.b5 t:=gN hP g;rw[u] at g3;have g4:=fin (.inr qO);clear fin;cbv;refine⟨e5,?_⟩;refine X _ ⟨e6,e7⟩ _ _ _ _ _ _ _ _ mk _ _ hm ⟨_,_,hb,qW⟩ rfl rfl rfl λAF n' K L rows' C=>?_;cbv
   repeat' first|(refine And.intro (by assumption) ?_;cbv)|(intro f;cbv)
   refine W _ e8 _ _ _ _ _ _ _ _ (mk.hO (P.sub (P.b5 s) ki)) _ _ C e9 rfl rfl rfl λSf n2 pO Jt rows2 pR=>?_;cbv;refine Y _ _ _ _ _ _ _ _ _ _ _ pR ea rfl rfl rfl λTp n3 Uo Up Sy Uq=>?_;obtain⟨Q4,QE,_,_⟩:=Uq;cbv;exact(hR _ hr.2).2.1 _ _ _ _ _ _ _ (cd.refl _) rfl rfl ⟨by rw[Q4,Z,<-hr.1,g4,aH],by rw[QE,Z,<-hr.1,g4]⟩
  ·have g3:kj<P.b5 t:=gM hP g;rw[u] at g3;have Ur:i<s.length:=by((try simp only[nc] at*);omega)
   have Pn:j<t.length:=by((try simp only[nc] at*);omega)
   have WX:P.iq ki (P.b5 s):=lk hP (by rw[p];((try simp only[nc] at*);omega));have WY:P.iq kj (P.b5 t):=lk hP (by rw[u];((try simp only[nc] at*);omega));have F:P.sat s ki=P.sat t kj↔s.getD i 0=t.getD j 0:=by
    rw[Q3,AG,tB hP,tB hP];exact⟨λh=>UInt8.toNat.inj qO,λh=>by rw[h]⟩
   cbv
   repeat' first|(refine And.intro (by assumption) ?_;cbv)|(intro f;cbv)
   have kc:=Sr 1 qD;have cc:=X 1 qD;have pc:=W (P.gZ t kj (P.add kj 1));have o:=Fb Ur Pn;have eu:P.gZ t kj (P.add kj 1)=[t.getD j 0]:=by
    rw[I,AG];subst hP;show(t.take (j+1)).drop j=_;rw[cg Pn,List.drop_left' (by rw[aE];omega),au,af Pn];rfl
   have W3:=pc (by rw[eu];simp);have W4:mk.put.length+(P.gZ t kj (P.add kj 1)).length<=1000000000:=by rw[eu];simp;omega
   have kq:P.fK 0 (P.add ki 1):=iJ hP (by rw[To];((try simp only[nc] at*);omega));have kr:P.fK 0 (P.add kj 1):=iJ hP (by rw[I];((try simp only[nc] at*);omega));have ks:P.fK kj (P.add kj 1):=qy hP (by rw[I,AG];((try simp only[nc] at*);omega));have kt:P.fK (P.add kj 1) (P.b5 t):=qy hP (by rw[I,u];((try simp only[nc] at*);omega));have Us:∀q,q<m->tv[q]? =some [.sl false 1 (gf (jK s t 0 0 q))]:=λq hq=>by
    rw[Un];unfold Qe;rw[aw,dv hq];rfl
   obtain⟨r0,H⟩:∃r,r=gf (jK s t 0 0 i):=⟨_,rfl⟩;obtain⟨r1,O⟩:∃r,r=gf (jK s t 0 0 (i+1)):=⟨_,rfl⟩;have E:P.row tv (P.nat ki) [.sl false 1 r0]:=gz hP Q3 (by rw[Us i qW,H]);have J:P.row tv (P.nat (P.add ki 1)) [.sl false 1 r1]:=gz hP To (by rw[Us (i+1) qW,O]);have c0:P.row r0 (P.nat (P.add kj 1)) [qI (lcs (s.drop i) (t.drop (j+1)):Int)]:=gz hP I (by rw[H,gf,aw,jL qW,ab qW];rfl);have c1:P.row r1 (P.nat kj) [qI (lcs (s.drop (i+1)) (t.drop j):Int)]:=gz hP AG (by rw[O,gf,aw,jL qW,ab qW];rfl)
   generalize lcs (s.drop i) (t.drop (j+1))=Q at c0 o
   generalize lcs (s.drop (i+1)) (t.drop j)=U at c1 o
   clear fin Un Us;refine a6 (λg=>?_) (λg=>?_)
   ·rw[ab (F.1 (mz hP g))] at o;cbv;refine kc _ _ _ _ _ _ _ _ mk _ _ hm ⟨_,_,hb,qW⟩ rfl rfl rfl λAF n' K L rows' C=>?_;cbv
    repeat' first|(refine And.intro (by assumption) ?_;cbv)|(intro f;cbv)
    exact⟨_,cd.refl _,⟨i+1,j+1,_,_,_,_,_,_,_,_,Ur,Pn,To,I,C,by rw[im,o];rfl,(hb.fU 1 qD).mono (by show i+j+1<=_;omega) qW⟩,⟨rfl,rfl,rfl,rfl,rfl,rfl,trivial⟩,⟨rfl,rfl,trivial⟩,by show(s.length-(i+1))+(t.length-(j+1))<(s.length-i)+(t.length-j);omega⟩
   ·rw[aa (λx=>mA hP g (F.2 x))] at o;cbv
    repeat' first|(refine And.intro (by assumption) ?_;cbv)|(intro f;cbv)
    refine⟨_,J,?_⟩;cbv
    repeat' first|(refine And.intro (by assumption) ?_;cbv)|(intro f;cbv)
    refine⟨_,c1,?_⟩;cbv
    repeat' first|(refine And.intro (by assumption) ?_;cbv)|(intro f;cbv)
    refine⟨_,E,?_⟩;cbv
    repeat' first|(refine And.intro (by assumption) ?_;cbv)|(intro f;cbv)
    refine⟨_,c0,?_⟩;cbv;refine a6 (λg=>?_) (λg=>?_)
    ·have g7:(Q:Int)<=(U:Int):=j6 hP g;rw[ab qO] at o;cbv;refine cc _ _ _ _ _ _ _ _ mk _ _ hm ⟨_,_,hb,qW⟩ rfl rfl rfl λAF n' K L rows' C=>?_;cbv
     repeat' first|(refine And.intro (by assumption) ?_;cbv)|(intro f;cbv)
     exact⟨_,cd.refl _,⟨i+1,j,_,_,_,_,_,_,_,_,Ur,hj,To,AG,C,by rw[im,o];rfl,(hb.hO 1 qD).mono (by show i+j+1<=_;omega) qW⟩,⟨rfl,rfl,rfl,rfl,rfl,rfl,trivial⟩,⟨rfl,rfl,trivial⟩,by show(s.length-(i+1))+(t.length-j)<(s.length-i)+(t.length-j);omega⟩
    ·have g7:¬(Q:Int)<=(U:Int):=j7 hP g;rw[aa qO] at o;cbv
     repeat' first|(refine And.intro (by assumption) ?_;cbv)|(intro f;cbv)
     refine W3 _ _ _ _ _ _ _ _ mk _ _ hm W4 rfl rfl rfl λAF n' K L rows' C=>?_;cbv
     repeat' first|(refine And.intro (by assumption) ?_;cbv)|(intro f;cbv)
     exact⟨_,cd.refl _,⟨i,j+1,_,_,_,_,_,_,_,_,hi,Pn,Q3,I,C,by rw[im,o];show _=((mk.iM (P.gZ t kj (P.add kj 1))).run _).flush;rw[eu];rfl,(hb.iM _).mono qW (by rw[eu];show i+j+1<=_;omega)⟩,⟨rfl,rfl,rfl,rfl,rfl,rfl,trivial⟩,⟨rfl,rfl,trivial⟩,by show(s.length-i)+(t.length-(j+1))<(s.length-i)+(t.length-j);omega⟩
theorem Di(s t:BS):Spec Tryz.prog 10 [.str s,.str t] Hp.emp (Is (.tup [gI (jf s t).1,.int .i64 (jf s t).2])):=
 kX hW Nq λR a=>Nr cp rfl _ _ s t (λk hk=>GN k hk) (λs hs=>Ps s hs) (λk hk=>Pt k hk) GO (jf s t).1 (jf s t).2 rfl _ rfl R
  λx hx=>by subst hx;exact lN (mS _) (fL _) (ur _) a
end Go.Proofs.YtajdadcdcpnedaaGreatDoor.AM
namespace Go.Proofs
open Go.Shelf Go.RowKit Go.Sort Go.Lib
def Tryz.O3:Go.Shelf.Ren:=⟨λ|171=>47|243=>83|246=>138|283=>193|284=>194|285=>195|286=>196|129=>224|317=>223|318=>225|319=>226|320=>227|337=>244|338=>245|n=>n,λ|3=>3|9=>9|2=>2|4=>4|171=>218|0=>0|53=>219|37=>53|5=>5|173=>222|212=>248|51=>154|20=>20|213=>249|46=>156|232=>278|233=>279|n=>n,λ|17=>3|18=>4|19=>5|n=>n⟩
def Tryz.xT:Go.Shelf.Ren:=⟨λ|171=>47|243=>83|246=>138|283=>193|284=>194|285=>195|286=>196|129=>224|317=>223|318=>225|319=>226|320=>227|337=>244|338=>245|n=>n,λ|3=>3|9=>9|2=>2|4=>4|171=>218|0=>0|53=>219|37=>53|5=>5|173=>222|212=>248|51=>154|20=>20|213=>249|46=>156|232=>278|233=>279|n=>n,λ|17=>3|18=>4|19=>5|n=>n⟩
theorem Tryz.JG:Go.Proofs.LaysM.n171 Tryz.prog Tryz.xT:= {
 mixed:=by kernel_rfl
 f129:=Tryz.func224.trans (ay some (by kernel_rfl))
 f171:=Tryz.func47.trans (ay some (by kernel_rfl))
 f243:=Tryz.func83.trans (ay some (by kernel_rfl))
 f246:=Tryz.func138.trans (ay some (by kernel_rfl))
 f283:=Tryz.func193.trans (ay some (by kernel_rfl))
 f284:=Tryz.func194.trans (ay some (by kernel_rfl))
 f285:=Tryz.func195.trans (ay some (by kernel_rfl))
 f286:=Tryz.func196.trans (ay some (by kernel_rfl))
 f317:=Tryz.func223.trans (ay some (by kernel_rfl))
 f318:=Tryz.func225.trans (ay some (by kernel_rfl))
 f319:=Tryz.func226.trans (ay some (by kernel_rfl))
 f320:=Tryz.func227.trans (ay some (by kernel_rfl))
 f337:=Tryz.func244.trans (ay some (by kernel_rfl))
 f338:=Tryz.func245.trans (ay some (by kernel_rfl))
 t0:=Tryz.underlying0
 a0:=Tryz.isAgg0
 z0:=Tryz.sizeOf0
 v0:=Tryz.zeroValue0
 t2:=Tryz.underlying2
 a2:=Tryz.isAgg2
 z2:=Tryz.sizeOf2
 v2:=Tryz.zeroValue2
 t3:=Tryz.underlying3
 a3:=Tryz.isAgg3
 z3:=Tryz.sizeOf3
 v3:=Tryz.zeroValue3
 t4:=Tryz.underlying4
 a4:=Tryz.isAgg4
 z4:=Tryz.sizeOf4
 v4:=Tryz.zeroValue4
 t5:=Tryz.underlying5
 a5:=Tryz.isAgg5
 z5:=Tryz.sizeOf5
 v5:=Tryz.zeroValue5
 t9:=Tryz.underlying9
 a9:=Tryz.isAgg9
 z9:=Tryz.sizeOf9
 v9:=Tryz.zeroValue9
 t20:=Tryz.underlying20
 a20:=Tryz.isAgg20
 z20:=Tryz.sizeOf20
 v20:=Tryz.zeroValue20
 t37:=Tryz.underlying53
 a37:=Tryz.isAgg53
 z37:=Tryz.sizeOf53
 v37:=Tryz.zeroValue53
 t46:=Tryz.underlying156
 a46:=Tryz.isAgg156
 z46:=Tryz.sizeOf156
 v46:=Tryz.zeroValue156
 t51:=Tryz.underlying154
 a51:=Tryz.isAgg154
 z51:=Tryz.sizeOf154
 v51:=Tryz.zeroValue154
 t53:=Tryz.underlying219
 a53:=Tryz.isAgg219
 z53:=Tryz.sizeOf219
 v53:=Tryz.zeroValue219
 t171:=Tryz.underlying218
 a171:=Tryz.isAgg218
 z171:=Tryz.sizeOf218
 v171:=Tryz.zeroValue218
 t173:=Tryz.underlying222
 a173:=Tryz.isAgg222
 z173:=Tryz.sizeOf222
 v173:=Tryz.zeroValue222
 t212:=Tryz.underlying248
 a212:=Tryz.isAgg248
 z212:=Tryz.sizeOf248
 v212:=Tryz.zeroValue248
 t213:=Tryz.underlying249
 a213:=Tryz.isAgg249
 z213:=Tryz.sizeOf249
 t232:=Tryz.underlying278
 a232:=Tryz.isAgg278
 z232:=Tryz.sizeOf278
 v232:=Tryz.zeroValue278
 t233:=Tryz.underlying279
 a233:=Tryz.isAgg279
 z233:=Tryz.sizeOf279
 v233:=Tryz.zeroValue279
 g17:=by kernel_rfl
 g18:=by kernel_rfl
 g19:=by kernel_rfl
 i0:=by kernel_rfl
 i2:=by kernel_rfl
 i3:=by kernel_rfl
 i4:=by kernel_rfl
 i5:=by kernel_rfl
 i9:=by kernel_rfl
 i20:=by kernel_rfl
 i37:=by kernel_rfl
 i46:=by kernel_rfl
 i51:=by kernel_rfl
 i53:=by kernel_rfl
 i171:=by kernel_rfl
 i173:=by kernel_rfl
 i212:=by kernel_rfl
 i232:=by kernel_rfl
 i233:=by kernel_rfl
 m17:=by kernel_rfl
 m18:=by kernel_rfl
 m19:=by kernel_rfl}
theorem Tryz.strconv_Itoa(n:Int)(h0: -9223372036854775808≤n)(h1:n≤9223372036854775807)(w:World)(a:Lib.TabIs Tryz.prog w YtajdadcdcpnedaaGreatDoor.AM.tabName9 .u64 Lib.pow10Tab):
  Calls Tryz.prog 47 #[.int .i64 n] w λe w'=>e=.returned (.string ⟨(Lib.itoa n).toArray⟩)/\∃k os,w'=grow (w.drewN k) os:=Any.strconv_Itoa Tryz.JG n h0 h1 w a
def Tryz.zW:Go.Shelf.Ren:=⟨λ|172=>197|244=>228|245=>229|247=>246|279=>247|280=>248|281=>249|282=>250|287=>258|316=>259|171=>47|205=>260|321=>264|322=>265|243=>83|246=>138|283=>193|284=>194|285=>195|286=>196|129=>224|317=>223|318=>225|319=>226|320=>227|337=>244|338=>245|n=>n,λ|9=>9|3=>3|75=>57|76=>58|4=>4|5=>5|167=>263|37=>53|0=>0|85=>264|2=>2|168=>266|53=>219|175=>280|46=>156|210=>283|127=>112|145=>291|143=>289|21=>21|171=>218|173=>222|212=>248|51=>154|20=>20|213=>249|232=>278|233=>279|80=>61|n=>n,λ|15=>6|16=>7|17=>3|18=>4|19=>5|n=>n⟩
theorem Tryz.Ns:Go.Proofs.Lays.n172 Tryz.prog Tryz.zW:= {
 mixed:=by kernel_rfl
 f129:=Tryz.func224.trans (ay some (by kernel_rfl))
 f171:=Tryz.func47.trans (ay some (by kernel_rfl))
 f172:=Tryz.func197.trans (ay some (by kernel_rfl))
 f205:=Tryz.func260.trans (ay some (by kernel_rfl))
 f243:=Tryz.func83.trans (ay some (by kernel_rfl))
 f244:=Tryz.func228.trans (ay some (by kernel_rfl))
 f245:=Tryz.func229.trans (ay some (by kernel_rfl))
 f246:=Tryz.func138.trans (ay some (by kernel_rfl))
 f247:=Tryz.func246.trans (ay some (by kernel_rfl))
 f279:=Tryz.func247.trans (ay some (by kernel_rfl))
 f280:=Tryz.func248.trans (ay some (by kernel_rfl))
 f281:=Tryz.func249.trans (ay some (by kernel_rfl))
 f282:=Tryz.func250.trans (ay some (by kernel_rfl))
 f283:=Tryz.func193.trans (ay some (by kernel_rfl))
 f284:=Tryz.func194.trans (ay some (by kernel_rfl))
 f285:=Tryz.func195.trans (ay some (by kernel_rfl))
 f286:=Tryz.func196.trans (ay some (by kernel_rfl))
 f287:=Tryz.func258.trans (ay some (by kernel_rfl))
 f316:=Tryz.func259.trans (ay some (by kernel_rfl))
 f317:=Tryz.func223.trans (ay some (by kernel_rfl))
 f318:=Tryz.func225.trans (ay some (by kernel_rfl))
 f319:=Tryz.func226.trans (ay some (by kernel_rfl))
 f320:=Tryz.func227.trans (ay some (by kernel_rfl))
 f321:=Tryz.func264.trans (ay some (by kernel_rfl))
 f322:=Tryz.func265.trans (ay some (by kernel_rfl))
 f337:=Tryz.func244.trans (ay some (by kernel_rfl))
 f338:=Tryz.func245.trans (ay some (by kernel_rfl))
 t0:=Tryz.underlying0
 a0:=Tryz.isAgg0
 z0:=Tryz.sizeOf0
 v0:=Tryz.zeroValue0
 t2:=Tryz.underlying2
 a2:=Tryz.isAgg2
 z2:=Tryz.sizeOf2
 v2:=Tryz.zeroValue2
 t3:=Tryz.underlying3
 a3:=Tryz.isAgg3
 z3:=Tryz.sizeOf3
 v3:=Tryz.zeroValue3
 t4:=Tryz.underlying4
 a4:=Tryz.isAgg4
 z4:=Tryz.sizeOf4
 v4:=Tryz.zeroValue4
 t5:=Tryz.underlying5
 a5:=Tryz.isAgg5
 z5:=Tryz.sizeOf5
 v5:=Tryz.zeroValue5
 t9:=Tryz.underlying9
 a9:=Tryz.isAgg9
 z9:=Tryz.sizeOf9
 v9:=Tryz.zeroValue9
 t20:=Tryz.underlying20
 a20:=Tryz.isAgg20
 z20:=Tryz.sizeOf20
 v20:=Tryz.zeroValue20
 t21:=Tryz.underlying21
 a21:=Tryz.isAgg21
 z21:=Tryz.sizeOf21
 v21:=Tryz.zeroValue21
 t37:=Tryz.underlying53
 a37:=Tryz.isAgg53
 z37:=Tryz.sizeOf53
 v37:=Tryz.zeroValue53
 t46:=Tryz.underlying156
 a46:=Tryz.isAgg156
 z46:=Tryz.sizeOf156
 v46:=Tryz.zeroValue156
 t51:=Tryz.underlying154
 a51:=Tryz.isAgg154
 z51:=Tryz.sizeOf154
 v51:=Tryz.zeroValue154
 t53:=Tryz.underlying219
 a53:=Tryz.isAgg219
 z53:=Tryz.sizeOf219
 v53:=Tryz.zeroValue219
 t75:=Tryz.underlying57
 a75:=Tryz.isAgg57
 z75:=Tryz.sizeOf57
 v75:=Tryz.zeroValue57
 t76:=Tryz.underlying58
 a76:=Tryz.isAgg58
 z76:=Tryz.sizeOf58
 v76:=Tryz.zeroValue58
 t85:=Tryz.underlying264
 a85:=Tryz.isAgg264
 z85:=Tryz.sizeOf264
 v85:=Tryz.zeroValue264
 t127:=Tryz.underlying112
 a127:=Tryz.isAgg112
 z127:=Tryz.sizeOf112
 v127:=Tryz.zeroValue112
 t143:=Tryz.underlying289
 a143:=Tryz.isAgg289
 z143:=Tryz.sizeOf289
 v143:=Tryz.zeroValue289
 t145:=Tryz.underlying291
 a145:=Tryz.isAgg291
 z145:=Tryz.sizeOf291
 v145:=Tryz.zeroValue291
 t167:=Tryz.underlying263
 a167:=Tryz.isAgg263
 z167:=Tryz.sizeOf263
 v167:=Tryz.zeroValue263
 t168:=Tryz.underlying266
 a168:=Tryz.isAgg266
 z168:=Tryz.sizeOf266
 v168:=Tryz.zeroValue266
 t171:=Tryz.underlying218
 a171:=Tryz.isAgg218
 z171:=Tryz.sizeOf218
 v171:=Tryz.zeroValue218
 t173:=Tryz.underlying222
 a173:=Tryz.isAgg222
 z173:=Tryz.sizeOf222
 v173:=Tryz.zeroValue222
 t175:=Tryz.underlying280
 a175:=Tryz.isAgg280
 z175:=Tryz.sizeOf280
 v175:=Tryz.zeroValue280
 t210:=Tryz.underlying283
 a210:=Tryz.isAgg283
 z210:=Tryz.sizeOf283
 v210:=Tryz.zeroValue283
 t212:=Tryz.underlying248
 a212:=Tryz.isAgg248
 z212:=Tryz.sizeOf248
 v212:=Tryz.zeroValue248
 t213:=Tryz.underlying249
 a213:=Tryz.isAgg249
 z213:=Tryz.sizeOf249
 t232:=Tryz.underlying278
 a232:=Tryz.isAgg278
 z232:=Tryz.sizeOf278
 v232:=Tryz.zeroValue278
 t233:=Tryz.underlying279
 a233:=Tryz.isAgg279
 z233:=Tryz.sizeOf279
 v233:=Tryz.zeroValue279
 g15:=by kernel_rfl
 g16:=by kernel_rfl
 g17:=by kernel_rfl
 g18:=by kernel_rfl
 g19:=by kernel_rfl}
theorem Tryz.strconv_Atoi(s:ByteArray)(n:Int)(hl:s.size<=18)(h:Lib.atoi s.data.toList=some n)(w:World):
  Calls Tryz.prog 197 #[.string s] w λe w'=>e=.returned (.tuple #[.int .i64 n,.nilIface])/\∃t,w'=Lib.bytesWorld w 5 t:=Any.strconv_Atoi Tryz.Ns s n hl h w
def Tryz.zX:Go.Shelf.Ren:=⟨λ|137=>105|217=>123|266=>185|n=>n,λ|9=>9|5=>5|3=>3|n=>n,λ|n=>n⟩
theorem Tryz.Nt:Go.Proofs.Lays.n137 Tryz.prog Tryz.zX:= {
 mixed:=by kernel_rfl
 f137:=Tryz.func105.trans (ay some (by kernel_rfl))
 f217:=Tryz.func123.trans (ay some (by kernel_rfl))
 f266:=Tryz.func185.trans (ay some (by kernel_rfl))
 t3:=Tryz.underlying3
 a3:=Tryz.isAgg3
 z3:=Tryz.sizeOf3
 v3:=Tryz.zeroValue3
 t5:=Tryz.underlying5
 a5:=Tryz.isAgg5
 z5:=Tryz.sizeOf5
 v5:=Tryz.zeroValue5
 t9:=Tryz.underlying9
 a9:=Tryz.isAgg9
 z9:=Tryz.sizeOf9
 v9:=Tryz.zeroValue9}
theorem Tryz.strings_IndexByte(s:ByteArray)(c:Int)(w:World):
  Calls Tryz.prog 105 #[.string s,.int .u8 c] w λe w'=>e=.returned (.int .i64 (Lib.indexByte s.data.toList c.toNat.toUInt8))/\w'=w:=Any.strings_IndexByte Tryz.Nt s c w
end Go.Proofs
namespace Go.Proofs.YtajdadcdcpnedaaGreatDoor.AM
open Go Go.RowKit
set_option maxRecDepth 100000
set_option maxHeartbeats 2000000
theorem Dj(n:Int)(hn:kA n):Spec Tryz.prog 47 [.int .i64 n] Hp.emp (Is (.str (Lib.itoa n))):=
 lK (us0:= #[.int .i64 n]) ⟨Tryz.f47,Tryz.func47,by decide+kernel,aS.1 (by decide+kernel)⟩
  (λF B w us hl hr=>sa (f:=λ_=>True) hl hr λu h=>xv h) (λF B w=>.str _) λw a=>
   (Tryz.strconv_Itoa n hn.1 hn.2 w a.1).mono λe w' h=>by
    obtain⟨rfl,k,os,rfl⟩:=h;exact⟨rfl,Lib.below_grow _ _ (ak _) _ _⟩
theorem Dl(s:BS)(c:Int):Spec Tryz.prog 105 [.str s,.int .u8 c] Hp.emp (Is (.int .i64 (Lib.indexByte s c.toNat.toUInt8))):=
 jJ (us0:= #[.string ⟨s.toArray⟩,.int .u8 c]) ⟨Tryz.f105,Tryz.func105,by decide+kernel,aS.1 (by decide+kernel)⟩
  (λF B w us hl h=>by
   match us,hl,h with
   |⟨[x,y]⟩,_,h=>
    have a0:=h 0 _ x rfl rfl;have a1:=h 1 _ y rfl rfl;cases a0;cases a1;rfl) (λF B w=>.int _ _) λw=>
   (Tryz.strings_IndexByte ⟨s.toArray⟩ c w).mono λe w' h=>by
    obtain⟨rfl,rfl⟩:=h;exact⟨by simp,po _⟩
theorem Env.below{w w':World}(h:Env w)(hb:Below w.heap.size w w'):Env w':=h.keep λb a=>hb.block b (h.lt a)
set_option maxRecDepth 100000 in
set_option maxHeartbeats 4000000 in
theorem Fc(s:ByteArray)(n:Int)(h9:s.size<=9)(ha:Lib.atoi s.data.toList=some n)(h0:0<=n)(hs:(Lib.itoa n).toArray=s.data)(w:World)(hE:Env w):
  Calls Tryz.prog 139 #[.string s] w λe w'=>e=.returned (.int .i64 n)/\Below w.heap.size w w':=by
 have hb:=Lib.atoi_bound ha (by have:s.data.toList.length=s.size:=bG;omega);have hs':(⟨(Lib.itoa n).toArray⟩:ByteArray)=s:=by rw[hs]
 have c1:¬((9:Int)<(s.size:Int)):=by omega
 have c2:¬n<0:=by omega
 have hA:=Tryz.strconv_Atoi s n qW ha w
 go_enter Tryz.func139,Tryz.ntmps139
 go_wp2_with (go_at_call 197;refine hA.mono ?_;rintro e w1 ⟨rfl,t,rfl⟩)
 have hb1:Below w.heap.size w (Lib.bytesWorld w 5 t):=Lib.bytesWorld_below _ _ _;have hI:=Tryz.strconv_Itoa n qW qW (Lib.bytesWorld w 5 t) (hE.below hb1).1;rw[hs'] at hI
 go_wp2_with (go_at_call 47;refine hI.mono ?_;rintro e w1 ⟨rfl,k,os,rfl⟩)
 go_ret
 exact⟨rfl,hb1.trans (Lib.below_grow _ _ hb1.size _ _)⟩
theorem wF{d:Nat}(h:d<10):Lib.digitVal (UInt8.ofNat (48+d))=some d:=by
 have:(UInt8.ofNat (48+d)).toNat=48+d:=by rw[cK];omega
 unfold Lib.digitVal;rw[this,ab qW]
 congr 1;omega
theorem rH:∀(l:BS)(acc m:Nat)(b:UInt8)(d:Nat),Lib.decFrom acc l=some m->Lib.digitVal b=some d->Lib.decFrom acc (l++[b])=some (m*10+d)
 |[],acc,m,b,d,h,hd=>by
  simp only[Lib.decFrom,aC] at h;subst h;simp[Lib.decFrom,hd]
 |c::l,acc,m,b,d,h,hd=>by
  simp only[aD,Lib.decFrom] at h⊢;cases hc:Lib.digitVal c with
  |none=>rw[hc] at h;cases h
  |some e=>rw[hc] at h;exact rH l _ m b d h hd
theorem uZ(u:Nat):Lib.decFrom 0 (Lib.decDigits u)=some u:=by
 induction u using Nat.strongRecOn with
 |_ u ih=>
  rw[Lib.decDigits]
  split
  ·rename_i h;unfold Lib.decFrom;rw[wF h];simp[Lib.decFrom]
  ·rename_i h;rw[rH _ 0 (u/10) _ (u%10) (ih (u/10) qW) (wF qW)]
   congr 1;omega
theorem Fe(u:Nat):Lib.atoi (Lib.itoa (u:Int))=some (u:Int):=by
 rw[Lib.itoa_nonneg];have h:=uZ u;cases hl:Lib.decDigits u with
 |nil=>
  have h1:=Lib.decDigits_length u;rw[hl] at h1;have h2:Lib.nDigits u=0:=h1.symm;rw[Lib.nDigits] at h2
  split at h2<;>omega
 |cons b r=>
  rw[hl] at h;have hb:∃d,Lib.digitVal b=some d:=by
   cases hd:Lib.digitVal b with
   |none=>simp only[Lib.decFrom,hd] at h;cases h
   |some d=>exact⟨d,rfl⟩
  obtain⟨d,hd⟩:=hb;have hv:=Lib.digitVal_eq hd;have n1:¬(b==45)=true:=λe=>by rw[dh.1 e] at hv;exact absurd hv.1 qD
  have n2:¬(b==43)=true:=λe=>by rw[dh.1 e] at hv;exact absurd hv.1 qD
  simp only[Lib.atoi,aa n1,aa n2,Lib.decNat,List.isEmpty_cons,dA,if_false,h,aJ]
theorem kN:∀(k u:Nat),u<10^k->1<=k->Lib.nDigits u<=k
 |0,_,_,h=>absurd h qD
 |k+1,u,h,_=>by
  rw[Lib.nDigits]
  split
  ·omega
  ·rename_i hu;have hk:1<=k:=by
    cases k with
    |zero=>simp at h;omega
    |succ k=>omega
   have:=kN k (u/10) (by rw[eD] at h;omega) hk;omega
theorem wG(u:Nat)(hu:u<1000000000):Spec Tryz.prog 139 [.str (Lib.itoa (u:Int))] Hp.emp (Is (.int .i64 (u:Int))):=
 lK (us0:= #[.string ⟨(Lib.itoa (u:Int)).toArray⟩]) ⟨Tryz.f139,Tryz.func139,by decide+kernel,aS.1 (by decide+kernel)⟩
  (λF B w us hl hr=>sa (f:=λ_=>True) hl hr λu h=>xw h) (λF B w=>.int _ _) λw a=>by
   have hl:(⟨(Lib.itoa (u:Int)).toArray⟩:ByteArray).size<=9:=by
    show(Lib.itoa (u:Int)).toArray.size<=9;rw[bH,Lib.itoa_nonneg,Lib.decDigits_length];exact kN 9 u qW qD
   exact Fc _ u hl (by show Lib.atoi ((Lib.itoa (u:Int)).toArray).toList=_;rw[ey];exact Fe u) (bK _) rfl w a
theorem Ff:∀u:Nat,u<10->(⟨#[48,49,50,51,52,53,54,55,56,57]⟩:ByteArray).extract u (u+1)=⟨(Lib.decDigits u).toArray⟩:=by
 intro u h;rw[Lib.decDigits_one h];have:∀u:Fin 10,(⟨#[48,49,50,51,52,53,54,55,56,57]⟩:ByteArray).extract u.1 (u.1+1)=⟨[UInt8.ofNat (48+u.1)].toArray⟩:=by decide+kernel
 exact this ⟨u,h⟩
set_option maxRecDepth 100000 in
set_option maxHeartbeats 400000 in
theorem QF(u:Nat):u<9223372036854775808->∀w:World,Calls Tryz.prog 12 #[.int .i64 (u:Int)] w λe w'=>e=.returned (.string ⟨(Lib.decDigits u).toArray⟩)/\w'=w:=by
 induction u using Nat.strongRecOn with
 |_ u ih=>
  intro hu w;have c1:¬(u:Int)<0:=by omega
  by_cases h:u<10
  ·have c2:(u:Int)<10:=by omega
   have c3:=Ff u h
   go_enter Tryz.func12,Tryz.ntmps12
   go_wp2
   go_ret
   exact⟨by rw[<-c3];rfl,rfl⟩
  ·have c2:¬(u:Int)<10:=by omega
   have i1:∀(m:Int),m=(u:Int)/10->∀w:World,Calls Tryz.prog 12 #[.int .i64 m] w λe w'=>e=.returned (.string ⟨(Lib.decDigits (u/10)).toArray⟩)/\w'=w:=λm hm w=>by
    have e:m=((u/10:Nat):Int):=by omega
    rw[e];exact ih (u/10) qW qW w
   have i2:∀(m:Int),m=(u:Int)%10->∀w:World,Calls Tryz.prog 12 #[.int .i64 m] w λe w'=>e=.returned (.string ⟨(Lib.decDigits (u%10)).toArray⟩)/\w'=w:=λm hm w=>by
    have e:m=((u%10:Nat):Int):=by omega
    rw[e];exact ih (u%10) qW qW w
   have c4:¬(9223372036854775807<(Lib.decDigits (u/10)).length+(Lib.decDigits (u%10)).length):=by
    rw[Lib.decDigits_length,Lib.decDigits_length];have h1:=kN 19 (u/10) qW qD;have h2:=kN 19 (u%10) qW qD;omega
   go_enter Tryz.func12,Tryz.ntmps12
   go_wp2_with (go_at_call 12;refine Calls.mono (i1 _ ?_ _) ?_;omega;rintro e w1 ⟨rfl,rfl⟩)
   go_wp2_with (go_at_call 12;refine Calls.mono (i2 _ ?_ _) ?_;omega;rintro e w1 ⟨rfl,rfl⟩)
   go_ret
   refine⟨?_,rfl⟩;show Ending.returned (Value.string ((⟨(Lib.decDigits (u/10)).toArray⟩:ByteArray)++⟨(Lib.decDigits (u%10)).toArray⟩))=_;have e:Lib.decDigits u=Lib.decDigits (u/10)++Lib.decDigits (u%10):=by
    rw[Lib.decDigits,dif_neg h,Lib.decDigits_one (show u%10<10 by omega)]
   rw[e]
   congr 2
theorem lf(u:Nat)(h:u<9223372036854775808):(Lib.itoa (u:Int)).length<=19:=by
 rw[Lib.itoa_nonneg,Lib.decDigits_length];exact kN 19 u qW qD
theorem QG(u:Nat)(hu:u<9223372036854775808):Spec Tryz.prog 12 [.int .i64 (u:Int)] Hp.emp (Is (.str (Lib.itoa (u:Int)))):=
 jJ (us0:= #[.int .i64 (u:Int)]) ⟨Tryz.f12,Tryz.func12,by decide+kernel,aS.1 (by decide+kernel)⟩
  (λF B w us hl hr=>sa (f:=λ_=>True) hl hr λu h=>xv h) (λF B w=>by rw[Lib.itoa_nonneg];exact .str _) λw=>
   (QF u hu w).mono λe w' h=>by
    obtain⟨rfl,rfl⟩:=h;exact⟨rfl,po _⟩
end Go.Proofs.YtajdadcdcpnedaaGreatDoor.AM
namespace Go.Proofs
open Go.Shelf Go.RowKit Go.Sort Go.Lib
def Tryz.zY:Go.Shelf.Ren:=⟨λ|146=>16|221=>40|268=>74|138=>75|143=>76|195=>131|197=>132|218=>133|219=>65|260=>190|217=>123|225=>124|224=>125|267=>126|266=>185|314=>186|n=>n,λ|9=>9|31=>30|3=>3|4=>4|0=>0|105=>181|21=>21|5=>5|46=>156|119=>244|139=>247|138=>246|146=>212|51=>154|n=>n,λ|1=>0|3=>1|4=>2|n=>n⟩
theorem Tryz.Nu:Go.Proofs.Lays.n146 Tryz.prog Tryz.zY:= {
 mixed:=by kernel_rfl
 f138:=Tryz.func75.trans (ay some (by kernel_rfl))
 f143:=Tryz.func76.trans (ay some (by kernel_rfl))
 f146:=Tryz.func16.trans (ay some (by kernel_rfl))
 f195:=Tryz.func131.trans (ay some (by kernel_rfl))
 f197:=Tryz.func132.trans (ay some (by kernel_rfl))
 f217:=Tryz.func123.trans (ay some (by kernel_rfl))
 f218:=Tryz.func133.trans (ay some (by kernel_rfl))
 f219:=Tryz.func65.trans (ay some (by kernel_rfl))
 f221:=Tryz.func40.trans (ay some (by kernel_rfl))
 f224:=Tryz.func125.trans (ay some (by kernel_rfl))
 f225:=Tryz.func124.trans (ay some (by kernel_rfl))
 f260:=Tryz.func190.trans (ay some (by kernel_rfl))
 f266:=Tryz.func185.trans (ay some (by kernel_rfl))
 f267:=Tryz.func126.trans (ay some (by kernel_rfl))
 f268:=Tryz.func74.trans (ay some (by kernel_rfl))
 f314:=Tryz.func186.trans (ay some (by kernel_rfl))
 t0:=Tryz.underlying0
 a0:=Tryz.isAgg0
 z0:=Tryz.sizeOf0
 v0:=Tryz.zeroValue0
 t3:=Tryz.underlying3
 a3:=Tryz.isAgg3
 z3:=Tryz.sizeOf3
 v3:=Tryz.zeroValue3
 t4:=Tryz.underlying4
 a4:=Tryz.isAgg4
 z4:=Tryz.sizeOf4
 v4:=Tryz.zeroValue4
 t5:=Tryz.underlying5
 a5:=Tryz.isAgg5
 z5:=Tryz.sizeOf5
 v5:=Tryz.zeroValue5
 t9:=Tryz.underlying9
 a9:=Tryz.isAgg9
 z9:=Tryz.sizeOf9
 v9:=Tryz.zeroValue9
 t21:=Tryz.underlying21
 a21:=Tryz.isAgg21
 z21:=Tryz.sizeOf21
 v21:=Tryz.zeroValue21
 t31:=Tryz.underlying30
 a31:=Tryz.isAgg30
 z31:=Tryz.sizeOf30
 v31:=Tryz.zeroValue30
 t46:=Tryz.underlying156
 a46:=Tryz.isAgg156
 z46:=Tryz.sizeOf156
 v46:=Tryz.zeroValue156
 t51:=Tryz.underlying154
 a51:=Tryz.isAgg154
 z51:=Tryz.sizeOf154
 v51:=Tryz.zeroValue154
 t105:=Tryz.underlying181
 a105:=Tryz.isAgg181
 z105:=Tryz.sizeOf181
 v105:=Tryz.zeroValue181
 t119:=Tryz.underlying244
 a119:=Tryz.isAgg244
 z119:=Tryz.sizeOf244
 t138:=Tryz.underlying246
 a138:=Tryz.isAgg246
 z138:=Tryz.sizeOf246
 v138:=Tryz.zeroValue246
 t139:=Tryz.underlying247
 a139:=Tryz.isAgg247
 z139:=Tryz.sizeOf247
 v139:=Tryz.zeroValue247
 t146:=Tryz.underlying212
 a146:=Tryz.isAgg212
 z146:=Tryz.sizeOf212
 v146:=Tryz.zeroValue212
 g1:=by kernel_rfl
 g3:=by kernel_rfl
 g4:=by kernel_rfl}
theorem Tryz.strings_Split(s sep:ByteArray)(m:Int)(w:World)(hs:s.size<4294967281)(hm:w.cell? ⟨0,0,none⟩=some (.int .i64 m))(h1:1<=sep.size):
  Calls Tryz.prog 16 #[.string s,.string sep] w λe w'=>
   e=.returned (.slice (some ⟨w.heap.size,0,none⟩) (Lib.countB s sep+1) (Lib.countB s sep+1))/\w'=w.alloc (.cells ((Lib.splitB sep 0 (Lib.countB s sep) s).map Value.string).toArray 9):=Any.strings_Split Tryz.Nu (by kernel_rfl) s sep m w hs hm h1
end Go.Proofs
namespace Go.Proofs.YtajdadcdcpnedaaGreatDoor.AM
open Go Go.RowKit
set_option maxRecDepth 100000
set_option maxHeartbeats 2000000
def gb(c:UInt8):BS->List BS
 |[]=>[[]]
 |b::l=>if b=c then[]::gb c l else match gb c l with
  |[]=>[[b]]
  |w::ws=>(b::w)::ws
theorem oV{c:UInt8}:∀{s:BS},c∉s->gb c s=[s]
 |[],_=>rfl
 |b::l,h=>by
  have hb:¬b=c:=λe=>h (by rw[e];exact aR);rw[gb,aa hb,oV λhm=>h (aY _ hm)]
theorem nD{c:UInt8}{r:BS}:∀{p:BS},c∉p->gb c (p++c::r)=p::gb c r
 |[],_=>by rw[cL,gb,ab rfl]
 |b::l,h=>by
  have hb:¬b=c:=λe=>h (by rw[e];exact aR);rw[aD,gb,aa hb,nD λhm=>h (aY _ hm)]
theorem index_hit{c:UInt8}{r:BS}:∀{p:BS},c∉p->Lib.index (p++c::r) [c]=(p.length:Int)
 |[],_=>by simp[Lib.index,List.isPrefixOf]
 |b::l,h=>by
  have hb:¬c=b:=λe=>h (by rw[e];exact aR);have ih:=index_hit (r:=r) (p:=l) λhm=>h (aY _ hm);have h1:List.isPrefixOf [c] (b::(l++c::r))=false:=by simp[List.isPrefixOf,hb]
  have h2:¬((l.length:Int)== -1)=true:=λe=>by have:=dh.1 e;omega
  rw[aD,Lib.index,h1,ih,aa h2];simp
theorem zZ(c:UInt8):∀(k:Nat)(s:BS),s.count c=k->Lib.splitK [c] 0 k s=gb c s
 |0,s,h=>by rw[oV (List.count_eq_zero.1 h)];rfl
 |k+1,s,h=>by
  have hm:c∈s:=List.count_pos_iff.1 qW;obtain⟨p,r,rfl,hp⟩:=List.eq_append_cons_of_mem hm;have hk:r.count c=k:=by
   rw[List.count_append,List.count_cons_self,List.count_eq_zero.2 hp] at h;omega
  have h2:¬((p.length:Int)== -1)=true:=λe=>by have:=dh.1 e;omega
  rw[Lib.splitK,index_hit hp,aa h2,nD hp,aG]
  congr 1
  ·simp
  ·rw[<-zZ c k r hk]
   congr 1
   rw[show p.length+[c].length=(p++[c]).length by simp,show p++c::r=(p++[c])++r by simp,cI]
theorem JH(s:BS)(c:UInt8):(Lib.splitB ⟨#[c]⟩ 0 (Lib.countB ⟨s.toArray⟩ ⟨#[c]⟩) ⟨s.toArray⟩).map Value.string=(gb c s).map λx=>Value.string ⟨x.toArray⟩:=by
 have h:=Lib.splitB_data ⟨#[c]⟩ 0 (Lib.countB ⟨s.toArray⟩ ⟨#[c]⟩) ⟨s.toArray⟩;have hc:Lib.countB ⟨s.toArray⟩ ⟨#[c]⟩=s.count c:=by
  show Lib.count s.toArray.toList [c]=_;rw[ey,Lib.count_one]
 rw[hc] at h⊢;have h3:Lib.splitK [c] 0 (s.count c) s=gb c s:=zZ c _ s rfl;have h4:(Lib.splitB ⟨#[c]⟩ 0 (s.count c) ⟨s.toArray⟩).map (·.data.toList)=gb c s:=by rw[h,<-h3]
 rw[<-h4,eC];exact bL λx _=>by simp
theorem qi(c:UInt8)(s:BS):(gb c s).length=s.count c+1:=by
 induction s with
 |nil=>rfl
 |cons b l ih=>
  rw[gb]
  split
  ·rename_i h;rw[ar,ih,h,List.count_cons_self]
  ·rename_i h;cases hs:gb c l with
   |nil=>rw[hs] at ih;simp at ih
   |cons w ws=>rw[hs] at ih;simp only[ar] at ih⊢;rw[List.count_cons_of_ne h];exact ih
theorem z7(s:BS)(c:UInt8)(hs:s.length<=4294967280):Spec Tryz.prog 16 [.str s,.str [c]] Hp.emp (Is (.sl false 1 (ca (gb c s)))):=by
 refine⟨⟨Tryz.f16,Tryz.func16,by decide+kernel,aS.1 (by decide+kernel)⟩,λC us hC hl a _=>?_⟩;have f:us= #[.string ⟨s.toArray⟩,.string ⟨#[c]⟩]:=by
  match us,hl,a with
  |⟨[x,y]⟩,_,h=>
   have a0:=h 0 _ x rfl rfl;have a1:=h 1 _ y rfl rfl;cases a0;cases a1;rfl
 subst f;obtain⟨m,hm⟩:=hC.env.2;refine(Tryz.strings_Split ⟨s.toArray⟩ ⟨#[c]⟩ m C.w0 (by show s.toArray.size<_;rw[bH];omega) hm (ak 1)).mono ?_;rintro e w' ⟨rfl,rfl⟩;have hn:Lib.countB ⟨s.toArray⟩ ⟨#[c]⟩+1=(ca (gb c s)).length:=by
  rw[ca,aH,qi];show Lib.count s.toArray.toList [c]+1=_;rw[ey,Lib.count_one]
 rw[JH,hn]
 generalize hw:C.w0.alloc (.cells ((gb c s).map λx=>Value.string ⟨x.toArray⟩).toArray 9)=w'
 have d:w'.heap[C.w0.heap.size]? =some (.cells ((gb c s).map λx=>Value.string ⟨x.toArray⟩).toArray 9 (0,0)):=by rw[<-hw];exact Array.getElem?_push_size
 have hsz:w'.heap.size=C.w0.heap.size+1:=by rw[<-hw];exact Array.size_push _
 have hold:∀b,b<C.w0.heap.size->w'.heap[b]? =C.w0.heap[b]? :=λb hb=>by
  rw[<-hw];show(C.w0.heap.push _)[b]? =_;rw[Array.getElem?_push,aa (Nat.ne_of_lt hb)]
 have g:Ev (λ_=>False) C.w0 w':=⟨by rw[<-hw];rfl,by rw[<-hw];rfl,by rw[<-hw];rfl,qW,λb hb _=>hold b hb,λb c' e fr h=>⟨c',fr,by rw[hold b (aA.1 h).1];exact h,rfl⟩⟩;refine⟨_,.sl false 1 (ca (gb c s)),Hp.emp,λb=>C.F0 b\/b=C.w0.heap.size,rfl,?_,⟨λk o hk=>by simp[Hp.emp] at hk,λk k' o o' b hk=>by simp[Hp.emp] at hk,λk o b hk=>by simp[Hp.emp] at hk,λb hb=>?_,λb hb=>.inl hb,λb hb=>?_,g.mono λb _ h=>h.elim⟩,rfl,rfl⟩
 ·have key:∀(i j:Nat)(r:List V)(v:V),(ca (gb c s))[i]? =some r->r[j]? =some v->∃x,(gb c s)[i]? =some x/\j=0/\v=.str x:=by
   intro i j r v hi hj;rw[ca,aw] at hi;cases hx:(gb c s)[i]? with
   |none=>rw[hx] at hi;cases hi
   |some x=>
    rw[hx] at hi;cases hi;cases j with
    |zero=>cases hj;exact⟨x,rfl,rfl,rfl⟩
    |succ j=>simp at hj
  refine .sl false 1 _ C.w0.heap.size 0 _ (λi _=>Value.string ⟨((gb c s).getD i []).toArray⟩) (.inl (.inr rfl)) (ak _) (λr hr=>?_) (λi j r v hi hj=>?_) (λi j r v hi hj=>?_)
  ·obtain⟨x,_,rfl⟩:=aM.1 hr;rfl
  ·obtain⟨x,hx,rfl,rfl⟩:=key i j r v hi hj;refine⟨?_,rfl⟩;have hg:(gb c s).getD i []=x:=by rw[au,hx];rfl
   rw[hg];simp[World.cell?,d,hx]
  ·obtain⟨x,hx,rfl,rfl⟩:=key i j r v hi hj;have hg:(gb c s).getD i []=x:=by rw[au,hx];rfl
   show Rel _ _ _ _ (Value.string ⟨((gb c s).getD i []).toArray⟩);rw[hg];exact .str x
 ·rcases hb with h|rfl
  ·exact .inl h
  ·exact .inr (.inr (ak _))
 ·rcases hb with h|rfl
  ·have:=(hC.F0 b h).1;omega
  ·omega
section
variable {P:Prim} (hP:P=cp)
include hP
theorem mul_eq(a b:Int):P.mul a b=a*b:=by subst hP;rfl
theorem mod_eq(a b:Int):P.mod a b=a%b:=by subst hP;rfl
theorem BP(s:BS)(k:Nat):P.sat s (k:Int)=((s.getD k 0).toNat:Int):=by subst hP;rfl
theorem Sz{n:Int}(h:0<=n/\n<=255):P.wrap .i64 n=n:=by
 subst hP;show IntKind.i64.wrap n=n;exact wR (by have:IntKind.i64.min= -9223372036854775808:=rfl;omega) (by have:IntKind.i64.max=9223372036854775807:=rfl;omega)
end
def JI:AC:=qr [qz 2 0] (qr [qz 3 0] (qq (qr [qm 5 0,qo 6 (.len true (.t 5)),qz 7 0] (.block 0 (.loop (qr [qb 8 .lss 7 6] (qq (qu 8 .skip (.exit 0)) (qq (.block 1 (qr [qm 9 7,qm 4 9] (qR [qm 10 3,qc 11 .mul 10 257,qm 12 0,qm 13 4,qo 14 (.ixs (.t 12) (.t 13)),qo 15 (.conv .i64 (.t 14)),qb 16 .add 11 15,qc 17 .add 16 1,qc 18 .rem 17 2147483647,qm 3 18]))) (qR [qc 19 .add 7 1,qm 7 19]))))))) (qr [qm 20 3,qm 2 20] .ret)))
theorem QH:fF Tryz.prog 15 Tryz.f15 JI [.t 2] 1 dS:=⟨Tryz.func15,by decide+kernel,by kernel_rfl,by kernel_rfl,by decide+kernel⟩
structure W5(s:BS) where
 m:Nat
 k:Int
 h:Int
 hm:m<=s.length
 hk:k=(m:Int)
 hh:h=ja (s.take m)
theorem QI(P:Prim)(hP:P=cp)(T c:cm)(s:BS)(hs:s.length<=1048576)
  (R:S->Prop)(d:∀b s' x,x=ja s->cd b s'->ia [.t 2] [qI x] s'->R b):gE P T c JI (S0 [.str s] Hp.emp) R (λ_ _=>False) R:=by
 have a:P.b5 s=(s.length:Int):=cA hP s;cbv;refine⟨W5 s,λy=>[(0,.str s),(3,qI y.h),(6,qI (P.b5 s)),(7,qI y.k)],λy=>[],λy=>s.length-y.m,
  ⟨_,cd.refl _,⟨0,0,0,qW,rfl,rfl⟩,⟨rfl,rfl,rfl,rfl,trivial⟩,trivial⟩,?_⟩
 rintro⟨m,k,h,hm,hk,hh⟩;cbv;refine a6 (λg=>?_) (λg=>?_)
 ·have h6:k<P.b5 s:=gM hP g;rw[a] at h6;have pR:m<s.length:=by((try simp only[nc] at*);omega)
  have k1:P.fK 0 k:=iJ hP qO;have f:P.iq k (P.b5 s):=lk hP (by rw[a];exact h6);have i:P.i64 (P.add k 1):=by rw[add_eq hP];exact fm hP qO
  have e:P.add k 1=((m+1:Nat):Int):=by rw[add_eq hP,hk];((try simp only[nc] at*);omega)
  have c1:P.sat s k=((s.getD m 0).toNat:Int):=by rw[hk];exact BP hP s m
  have j:=(s.getD m 0).toNat_lt;have c3:P.wrap .i64 (P.sat s k)=((s.getD m 0).toNat:Int):=by rw[c1];exact Sz hP qO
  have hb:=ox (s.take m);rw[<-hh] at hb;have d1:P.mul h 257=h*257:=mul_eq hP _ _;have d2:P.i64 (P.mul h 257):=by rw[d1];exact fm hP qW
  have d3:P.add (P.mul h 257) (P.wrap .i64 (P.sat s k))=h*257+((s.getD m 0).toNat:Int):=by rw[add_eq hP,d1,c3]
  have d4:P.i64 (P.add (P.mul h 257) (P.wrap .i64 (P.sat s k))):=by rw[d3];exact fm hP qO
  have d5:P.add (P.add (P.mul h 257) (P.wrap .i64 (P.sat s k))) 1=h*257+((s.getD m 0).toNat:Int)+1:=by rw[add_eq hP,d3]
  have d6:P.i64 (P.add (P.add (P.mul h 257) (P.wrap .i64 (P.sat s k))) 1):=by rw[d5];exact fm hP qO
  have d7:P.fK 0 (P.add (P.add (P.mul h 257) (P.wrap .i64 (P.sat s k))) 1):=iJ hP (by rw[d5];((try simp only[nc] at*);omega));have d8:P.iq 0 2147483647:=lk hP qD;have d9:P.mod (P.add (P.add (P.mul h 257) (P.wrap .i64 (P.sat s k))) 1) 2147483647=ja (s.take (m+1)):=by
   rw[mod_eq hP,d5,hh,cg pR,uw]
   congr 4
   rw[au,af pR];rfl
  cbv
  repeat' first|(refine And.intro (by assumption) ?_;cbv)|(intro β;cbv)
  exact⟨_,cd.refl _,⟨m+1,_,_,pR,e,d9⟩,⟨rfl,rfl,rfl,rfl,trivial⟩,trivial,by show s.length-(m+1)<s.length-m;omega⟩
 ·have h6:¬k<P.b5 s:=gN hP g;rw[a] at h6;have:m=s.length:=by((try simp only[nc] at*);omega)
  cbv;exact d _ _ _ (by rw[hh,this,aN]) (cd.refl _) rfl
theorem JJ(s:BS)(hs:s.length<=1048576):Spec Tryz.prog 15 [.str s] Hp.emp (Is (.int .i64 (ja s))):=
 ed hW QH [.int .i64 (ja s)] (.int _ _) λR a=>QI cp rfl _ _ s hs R λs s' b h he hr=>by subst h;exact a s s' he hr
def jX(n:Nat):UInt8:=[48,49,50,51,52,53,54,55,56,57,97,98,99,100,101,102].getD n 0
def eR(b:UInt8):BS:=if b.toNat=32 then[92,115] else if b.toNat=92\/b.toNat=95 then[92,b] else if b.toNat<32\/126<b.toNat then[92,120,jX (b.toNat/16),jX (b.toNat%16)] else[b]
def ga(s:BS):BS:=if s.flatMap eR=[] then[95] else s.flatMap eR
theorem sB(b:UInt8):1<=(eR b).length/\(eR b).length<=4:=by
 unfold eR
 repeat' split
 all_goals simp
theorem Fg:∀b:UInt8,∀x∈eR b,33<=x.toNat/\x.toNat<=126:=by
 have h:∀n:Fin 256,(eR (UInt8.ofNat n.1)).all (λx=>decide (33<=x.toNat)&&decide (x.toNat<=126))=true:=by decide+kernel
 intro b x hx;have:=h ⟨b.toNat,b.toNat_lt⟩;rw[eV] at this;have:=aF.1 this x hx;simpa using this
theorem ng(s:BS):s.length<=(s.flatMap eR).length/\(s.flatMap eR).length<=4*s.length:=by
 induction s with
 |nil=>simp
 |cons b l ih=>
  rw[bW,ae,ar];have:=sB b;omega
theorem wH(s:BS):∀x∈ga s,33<=x.toNat/\x.toNat<=126:=by
 unfold ga
 split
 ·intro x hx;rw[ag.1 hx];decide
 ·intro x hx;obtain⟨b,_,hb⟩:=List.mem_flatMap.1 hx;exact Fg b x hb
theorem oW(s:BS):ga s≠[]:=by
 unfold ga
 split
 ·simp
 ·assumption
theorem u3(b:UInt8)(l:BS):ga (b::l)=(b::l).flatMap eR:=by
 have h:=(ng (b::l)).1;unfold ga;rw[aa λe=>by rw[e] at h;simp at h]
theorem j5(s:BS):(ga s).length<=4*s.length+1:=by
 have:=(ng s).2;unfold ga
 split
 ·simp
 ·omega
def Dm:AC:=qr [qo 2 (.mov (.c qe))] (qr [qm 3 0,qm 4 0,qc 5 .add 4 1,⟨some 6,none,.slstr (.c (.string ⟨#[48,49,50,51,52,53,54,55,56,57,97,98,99,100,101,102]⟩)) (some (.t 3)) (some (.t 5))⟩,qm 2 6] .ret)
theorem Nv:fF Tryz.prog 39 Tryz.f39 Dm [.t 2] 1 dS:=⟨Tryz.func39,by decide+kernel,by kernel_rfl,by kernel_rfl,by decide+kernel⟩
theorem Nw(P:Prim)(hP:P=cp)(T a:cm)(n:Nat)(hn:n<16)(k:Int)(hk:k=(n:Int))(R:S->Prop)(b:∀s s' t,t=[jX n]->cd s s'->ia [.t 2] [.str t] s'->R s):gE P T a Dm (S0 [qI k] Hp.emp) R (λ_ _=>False) R:=by
 have q0:P.fK 0 k:=iJ hP qO;have q1:P.i64 (P.add k 1):=by rw[add_eq hP];exact fm hP qO
 have q2:P.fK k (P.add k 1):=by subst hP;show k<=k+1;omega
 have e:P.fK (P.add k 1) (P.b5 [48,49,50,51,52,53,54,55,56,57,97,98,99,100,101,102]):=by subst hP;show k+1<=16;omega
 have c:P.gZ [48,49,50,51,52,53,54,55,56,57,97,98,99,100,101,102] k (P.add k 1)=[jX n]:=by
  subst hP hk;have h:∀n:Fin 16,cp.gZ [48,49,50,51,52,53,54,55,56,57,97,98,99,100,101,102] (n.1:Int) (cp.add (n.1:Int) 1)=[jX n.1]:=by decide+kernel
  exact h ⟨n,hn⟩
 cbv
 repeat'(first
  |(refine qA ?_;cbv)
  |(intro d;cbv)
  |fail)
 exact b _ _ _ c (cd.refl _) rfl
theorem Nx(n:Nat)(hn:n<16):Spec Tryz.prog 39 [.int .i64 (n:Int)] Hp.emp (Is (.str [jX n])):=
 ed hW Nv [.str [jX n]] (.str _) λR a=>Nw cp rfl _ _ n hn _ rfl R λs s' t h he hr=>by subst h;exact a s s' he hr
theorem Dn{P:Prim}(hP:P=cp)(a b:Int):P.div a b=a/b:=by subst hP;rfl
theorem Ny{P:Prim}(hP:P=cp)(a b:Int):P.mod a b=a%b:=by subst hP;rfl
structure W6(s:BS) where
 i:Nat
 k:Int
 o:BS
 hi:i<=s.length
 hk:k=(i:Int)
 ho:o=(s.take i).flatMap eR
def z8:AC:=qr [qo 2 (.mov (.c qe))] (qr [qo 3 (.mov (.c qe))] (qq (qr [qm 6 0,qo 7 (.len true (.t 6)),qz 8 0] (.block 0 (.loop (qr [qb 9 .lss 8 7] (qq (qu 9 .skip (.exit 0)) (qq (.block 1 (qr [qm 10 8,qm 4 10] (qr [qm 11 0,qm 12 4,qo 13 (.ixs (.t 11) (.t 12)),qo 14 (.conv .i64 (.t 13)),qm 5 14] (.block 2 (qr [qm 23 5,qc 24 .eql 23 32,qm 22 24] (qu 22 (qR [qm 25 3,⟨some 26,none,.bin .add (.t 25) (.c (.string ⟨#[92,115]⟩))⟩,qm 3 26]) (qr [qm 28 5,qc 29 .eql 28 92,qm 30 29,qg 31 30 false (.mov (.t 5)),qg 32 30 false (.bin .eql (.t 31) (qk 95)),qo 33 (.pick (.t 30) (.c (.bool true)) (.t 32)),qm 27 33] (qu 27 (qR [qm 34 3,qm 35 0,qm 36 4,qm 37 4,qc 38 .add 37 1,qo 39 (.slstr (.t 35) (some (.t 36)) (some (.t 38))),⟨some 40,none,.bin .add (.c (.string ⟨#[92]⟩)) (.t 39)⟩,qb 41 .add 34 40,qm 3 41]) (qr [qm 43 5,qc 44 .lss 43 32,qm 45 44,qg 46 45 false (.mov (.t 5)),qg 47 45 false (.bin .gtr (.t 46) (qk 126)),qo 48 (.pick (.t 45) (.c (.bool true)) (.t 47)),qm 42 48] (qu 42 (qR [qm 49 3,qm 50 5,qc 51 .quo 50 16,qa 52 39 [.t 51],⟨some 53,none,.bin .add (.c (.string ⟨#[92,120]⟩)) (.t 52)⟩,qm 54 5,qc 55 .rem 54 16,qa 56 39 [.t 55],qb 57 .add 53 56,qb 58 .add 49 57,qm 3 58]) (qR [qm 15 3,qm 16 0,qm 17 4,qm 18 4,qc 19 .add 18 1,qo 20 (.slstr (.t 16) (some (.t 17)) (some (.t 19))),qb 21 .add 15 20,qm 3 21]))))))))))) (qR [qc 59 .add 8 1,qm 8 59]))))))) (qq (qr [qm 60 3,qo 61 (.bin .eql (.t 60) (.c qe))] (qu 61 (qr [⟨some 2,none,.mov (.c (.string ⟨#[95]⟩))⟩] .ret) .skip)) (qr [qm 62 3,qm 2 62] .ret))))
theorem JK:fF Tryz.prog 13 Tryz.f13 z8 [.t 2] 1 dS:=⟨Tryz.func13,by decide+kernel,by kernel_rfl,by kernel_rfl,by decide+kernel⟩
theorem JL(P:Prim)(hP:P=cp)(T w:cm)(f:∀(n:Nat)(k:Int),n<16->k=(n:Int)->hJ T 39 [qI k] (.str [jX n]))(s:BS)(hs:s.length<=1000000)
  (R:S->Prop)(v:∀s1 s2 t,t=ga s->cd s1 s2->ia [.t 2] [.str t] s2->R s1):gE P T w z8 (S0 [.str s] Hp.emp) R (λ_ _=>False) R:=by
 have hl:P.b5 s=(s.length:Int):=cA hP s;cbv;refine⟨W6 s,λy=>[(0,.str s),(3,.str y.o),(7,qI (P.b5 s)),(8,qI y.k)],λ_=>[],λy=>s.length-y.i,⟨_,cd.refl _,⟨0,0,[],bc _,rfl,rfl⟩,⟨rfl,rfl,rfl,rfl,trivial⟩,trivial⟩,?_⟩;rintro⟨i,k,o,hi,hk,ho⟩;have hk:k=(i:Int):=hk;have hi:i<=s.length:=hi;have ho:o=(s.take i).flatMap eR:=ho;have K5:o.length<=4*s.length:=by
  have:=(ng (s.take i)).2;rw[ho];rw[aE] at this;omega
 cbv;refine a6 (λg=>?_) (λg=>?_)
 ·have g1:k<P.b5 s:=gM hP g;rw[hl] at g1;have a:i<s.length:=by((try simp only[nc] at*);omega)
  have q1:P.fK 0 k:=iJ hP qO;have q2:P.iq k (P.b5 s):=lk hP (by rw[hl];exact g1);have z:P.i64 (P.add k 1):=by rw[add_eq hP];exact fm hP qO
  have h:P.add k 1=((i+1:Nat):Int):=by rw[add_eq hP,hk];simp
  have A:P.fK k (P.add k 1):=by subst hP;show k<=k+1;omega
  have B:P.fK (P.add k 1) (P.b5 s):=by rw[h,hl];subst hP;exact Int.ofNat_le.2 a
  obtain⟨b,hb⟩:∃b,s[i]? =some b:=⟨_,af a⟩;have r:s.getD i 0=b:=by rw[au,hb];rfl
  have hbl:=b.toNat_lt;have c3:P.wrap .i64 (P.sat s k)=(b.toNat:Int):=by rw[hk,BP hP,r];exact Sz hP qO
  have c:P.gZ s k (P.add k 1)=[b]:=by
   rw[h,hk];subst hP;show(s.take (((i+1:Nat):Int)).toNat).drop ((i:Int)).toNat=[b];rw[aG,aG,bJ,hb,bV (by rw[aE];omega),dO (by rw[aE];omega)];rfl
  have u:s.take (i+1)=s.take i++[b]:=by rw[bJ,hb];rfl
  have e:(s.take (i+1)).flatMap eR=o++eR b:=by rw[u,cD,ho];simp
  have j:eR b=[92,b]->P.iE o (P.iE [92] (P.gZ s k (P.add k 1)))=(s.take (i+1)).flatMap eR:=λhw=>by rw[e,hw,c,gv hP,gv hP];rfl
  have hpl:eR b=[b]->P.iE o (P.gZ s k (P.add k 1))=(s.take (i+1)).flatMap eR:=λhw=>by rw[e,hw,c,gv hP]
  have app:∀x:BS,x.length<=8->P.i64 (P.add (P.b5 o) (P.b5 x)):=λx hx=>by
   rw[add_eq hP,cA hP,cA hP];exact fm hP qO
  have l:∀x y:BS,x.length<=4->y.length<=4->P.i64 (P.add (P.b5 x) (P.b5 y)):=λx y hx hy=>by
   rw[add_eq hP,cA hP,cA hP];exact fm hP qO
  clear g;cbv
  repeat'(first
   |(refine qA ?_;cbv)
   |fail)
  refine a6 (λg=>?_) (λg=>?_)
  ·have g2:P.wrap .i64 (P.sat s k)=32:=mz hP g;have hw:eR b=[92,115]:=by unfold eR;rw[ab qO]
   have f1:=app [92,115] qD;cbv
   repeat'(first
    |(refine qA ?_;cbv)
    |fail)
   exact⟨_,cd.refl _,⟨i+1,_,_,a,h,by rw[e,hw];exact gv hP _ _⟩,⟨rfl,rfl,rfl,rfl,trivial⟩,trivial,by show s.length-(i+1)<s.length-i;omega⟩
  have g2:¬P.wrap .i64 (P.sat s k)=32:=mA hP g;rw[c3] at g2;have m:∀d:b.toNat=92\/b.toNat=95,eR b=[92,b]:=λd=>by unfold eR;rw[aa qO,ab d]
  have e1:P.i64 (P.add (P.b5 [92]) (P.b5 (P.gZ s k (P.add k 1)))):=by rw[c];exact l _ _ qD (by simp)
  have C:P.i64 (P.add (P.b5 o) (P.b5 (P.iE [92] (P.gZ s k (P.add k 1))))):=by rw[c,gv hP];exact app _ (by simp)
  clear g;cbv;refine a6 (λg=>?_) (λg=>?_)
  ·have g3:P.wrap .i64 (P.sat s k)=92:=mz hP g;have hw:=m (.inl qO);cbv
   repeat'(first
    |(refine qA ?_;cbv)
    |fail)
   exact⟨_,cd.refl _,⟨i+1,_,_,a,h,j hw⟩,⟨rfl,rfl,rfl,rfl,trivial⟩,trivial,by show s.length-(i+1)<s.length-i;omega⟩
  have g3:¬P.wrap .i64 (P.sat s k)=92:=mA hP g;rw[c3] at g3;clear g;cbv;refine a6 (λg=>?_) (λg=>?_)
  ·have g4:P.wrap .i64 (P.sat s k)=95:=mz hP g;have hw:=m (.inr qO);cbv
   repeat'(first
    |(refine qA ?_;cbv)
    |fail)
   exact⟨_,cd.refl _,⟨i+1,_,_,a,h,j hw⟩,⟨rfl,rfl,rfl,rfl,trivial⟩,trivial,by show s.length-(i+1)<s.length-i;omega⟩
  have g4:¬P.wrap .i64 (P.sat s k)=95:=mA hP g;rw[c3] at g4;have hex:∀d:b.toNat<32\/126<b.toNat,eR b=[92,120,jX (b.toNat/16),jX (b.toNat%16)]:=λd=>by unfold eR;rw[aa qO,aa qO,ab d]
  have d0:P.fK 0 (P.wrap .i64 (P.sat s k)):=iJ hP (by rw[c3];((try simp only[nc] at*);omega));have d1:P.iq 0 16:=lk hP qD;have d2:P.i64 (P.div (P.wrap .i64 (P.sat s k)) 16):=by rw[c3,Dn hP];exact fm hP qO
  have d3:=f (b.toNat/16) (P.div (P.wrap .i64 (P.sat s k)) 16) qO (by rw[c3,Dn hP];((try simp only[nc] at*);omega));have d4:=f (b.toNat%16) (P.mod (P.wrap .i64 (P.sat s k)) 16) qO (by rw[c3,Ny hP];((try simp only[nc] at*);omega));obtain⟨x,hx⟩:∃x,x=jX (b.toNat/16):=⟨_,rfl⟩;obtain⟨y,hy⟩:∃y,y=jX (b.toNat%16):=⟨_,rfl⟩;rw[<-hx] at d3;rw[<-hy] at d4;have d5:=l [92,120] [x] qD (by simp);have d6:P.i64 (P.add (P.b5 (P.iE [92,120] [x])) (P.b5 [y])):=l _ _ (by rw[gv hP];simp) (by simp);have d7:P.i64 (P.add (P.b5 o) (P.b5 (P.iE (P.iE [92,120] [x]) [y]))):=app _ (by rw[gv hP,gv hP];simp);have p:∀d:b.toNat<32\/126<b.toNat,(s.take (i+1)).flatMap eR=P.iE o (P.iE (P.iE [92,120] [x]) [y]):=λd=>by
   rw[e,hex d,gv hP,gv hP,gv hP,hx,hy];rfl
  clear g;cbv;refine a6 (λg=>?_) (λg=>?_)
  ·have g5:P.wrap .i64 (P.sat s k)<32:=gM hP g;cbv
   repeat'(first
    |(refine qA ?_;cbv)
    |(refine d3 _ _ ?_;cbv)
    |(refine d4 _ _ ?_;cbv)
    |fail)
   exact⟨_,cd.refl _,⟨i+1,_,_,a,h,(p (.inl qO)).symm⟩,⟨rfl,rfl,rfl,rfl,trivial⟩,trivial,by show s.length-(i+1)<s.length-i;omega⟩
  have g5:¬P.wrap .i64 (P.sat s k)<32:=gN hP g;rw[c3] at g5;clear g;cbv;refine a6 (λg=>?_) (λg=>?_)
  ·have g6:126<P.wrap .i64 (P.sat s k):=gM hP g;cbv
   repeat'(first
    |(refine qA ?_;cbv)
    |(refine d3 _ _ ?_;cbv)
    |(refine d4 _ _ ?_;cbv)
    |fail)
   exact⟨_,cd.refl _,⟨i+1,_,_,a,h,(p (.inr qO)).symm⟩,⟨rfl,rfl,rfl,rfl,trivial⟩,trivial,by show s.length-(i+1)<s.length-i;omega⟩
  have g6:¬126<P.wrap .i64 (P.sat s k):=gN hP g;rw[c3] at g6;have hw:eR b=[b]:=by unfold eR;rw[aa qO,aa qO,aa qO]
  have D:P.i64 (P.add (P.b5 o) (P.b5 (P.gZ s k (P.add k 1)))):=by rw[c];exact app _ (by simp)
  clear g;cbv
  repeat'(first
   |(refine qA ?_;cbv)
   |fail)
  exact⟨_,cd.refl _,⟨i+1,_,_,a,h,hpl hw⟩,⟨rfl,rfl,rfl,rfl,trivial⟩,trivial,by show s.length-(i+1)<s.length-i;omega⟩
 ·have g1:¬k<P.b5 s:=gN hP g;rw[hl] at g1;have hin:i=s.length:=by((try simp only[nc] at*);omega)
  have q:o=s.flatMap eR:=by rw[ho,hin,aN]
  clear g;cbv;refine a6 (λg=>?_) (λg=>?_)
  ·have g2:o=[]:=ON hP g;cbv;exact v _ _ _ (by unfold ga;rw[<-q,ab g2]) (cd.refl _) rfl
  ·have g2:¬o=[]:=GP hP g;cbv;exact v _ _ _ (by unfold ga;rw[<-q,aa g2]) (cd.refl _) rfl
theorem JM(s:BS)(hs:s.length<=1000000):Spec Tryz.prog 13 [.str s] Hp.emp (Is (.str (ga s))):=
 ed hW JK [.str (ga s)] (.str _) λR a=>JL cp rfl _ _ (λn k hn hk=>by subst hk;exact gK (Nx n hn) (λ_=>.cons (.same _) .nil) rfl) s hs R λs1 s2 t h he hr=>by subst h;exact a s1 s2 he hr
end Go.Proofs.YtajdadcdcpnedaaGreatDoor.AM
