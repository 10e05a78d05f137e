/-
  Part 16 of what the law TopDesk reaches: the plain machine, contracts of the functions and plain laws; each lemma says its own condition.
-/
import Derived.Test.YtajdadcdcpnedaaGreatDoorTopDesk15
import Derived.Test.YtajdadcdcpnedaaGreatDoorTopDesk5
import Derived.Test.YtajdadcdcpnedaaGreatDoorTopDesk14
set_option linter.unusedVariables false
set_option linter.unusedSimpArgs false
namespace Go.Proofs.YtajdadcdcpnedaaGreatDoor.AM
open Go Go.RowKit
set_option maxRecDepth 100000
set_option maxHeartbeats 2000000
def u6:BS:=[48,49,50,51,52,53,54,55,56,57,97,98,99,100,101,102]
def rI:AC:=qr [qo 2 (.mov (.c (.int .u8 0))),qz 3 0] (qq (qr [qm 6 0,qo 7 (.ixs (.t 6) (qk 0)),qo 8 (.bin .neq (.t 7) (.c (.int .u8 92)))] (qu 8 (qq (qr [qm 9 0,qo 10 (.ixs (.t 9) (qk 0)),qo 11 (.bin .eql (.t 10) (.c (.int .u8 95))),qm 12 11,qg 13 12 false (.mov (.t 0)),qg 14 12 false (.ixs (.t 13) (qk 0)),qg 15 12 false (.bin .leq (.t 14) (.c (.int .u8 32))),qo 16 (.pick (.t 12) (.c (.bool true)) (.t 15)),qm 17 16,qg 18 17 false (.mov (.t 0)),qg 19 17 false (.ixs (.t 18) (qk 0)),qg 20 17 false (.bin .geq (.t 19) (.c (.int .u8 127))),qo 21 (.pick (.t 17) (.c (.bool true)) (.t 20))] (qu 21 (qR [qa 22 102 [qk 14]]) .skip)) (qr [qm 23 0,qo 24 (.ixs (.t 23) (qk 0)),qm 2 24,qz 3 1] .ret)) .skip)) (qq (qr [qm 25 0,qo 26 (.len true (.t 25)),qc 27 .gtr 26 1,qm 28 27,qg 29 28 true (.mov (.t 0)),qg 30 28 true (.ixs (.t 29) (qk 1)),qg 31 28 true (.bin .eql (.t 30) (.c (.int .u8 115))),qo 32 (.pick (.t 28) (.t 31) (.c (.bool false)))] (qu 32 (qr [qo 2 (.mov (.c (.int .u8 32))),qz 3 2] .ret) .skip)) (qq (qr [qm 33 0,qo 34 (.len true (.t 33)),qc 35 .gtr 34 1,qm 36 35,qg 37 36 true (.mov (.t 0)),qg 38 36 true (.ixs (.t 37) (qk 1)),qg 39 36 true (.bin .eql (.t 38) (.c (.int .u8 92))),qg 40 36 true (.mov (.t 39)),qg 41 40 false (.mov (.t 0)),qg 42 40 false (.ixs (.t 41) (qk 1)),qg 43 40 false (.bin .eql (.t 42) (.c (.int .u8 95))),qg 44 36 true (.pick (.t 40) (.c (.bool true)) (.t 43)),qo 45 (.pick (.t 36) (.t 44) (.c (.bool false)))] (qu 45 (qr [qm 46 0,qo 47 (.ixs (.t 46) (qk 1)),qm 2 47,qz 3 2] .ret) .skip)) (qq (qr [qm 48 0,qo 49 (.len true (.t 48)),qc 50 .lss 49 4,qm 51 50,qg 52 51 false (.mov (.t 0)),qg 53 51 false (.ixs (.t 52) (qk 1)),qg 54 51 false (.bin .neq (.t 53) (.c (.int .u8 120))),qo 55 (.pick (.t 51) (.c (.bool true)) (.t 54))] (qu 55 (qR [qa 56 102 [qk 14]]) .skip)) (qq (.region true [qm 57 0,qo 58 (.ixs (.t 57) (qk 2)),qa 59 105 [(.c (.string ⟨#[48,49,50,51,52,53,54,55,56,57,97,98,99,100,101,102]⟩)),.t 58],qm 60 0,qo 61 (.ixs (.t 60) (qk 3)),qa 62 105 [(.c (.string ⟨#[48,49,50,51,52,53,54,55,56,57,97,98,99,100,101,102]⟩)),.t 61],qm 4 59,qm 5 62]) (qq (qr [qm 63 4,qc 64 .lss 63 0,qm 65 64,qg 66 65 false (.mov (.t 5)),qg 67 65 false (.bin .lss (.t 66) (qk 0)),qo 68 (.pick (.t 65) (.c (.bool true)) (.t 67))] (qu 68 (qR [qa 69 102 [qk 14]]) .skip)) (qr [qm 70 4,qo 71 (.bin .shl (.t 70) (.c (.int .u64 4))),qm 72 5,qb 73 .or 71 72,qo 74 (.conv .u8 (.t 73)),qm 2 74,qz 3 4] .ret)))))))
theorem Nz:fF Tryz.prog 198 Tryz.f198 rI [.t 2,.t 3] 1 dS:=⟨Tryz.func198,by decide+kernel,by kernel_rfl,by kernel_rfl,by decide+kernel⟩
def SA(b:UInt8)(n:Int)(R:S->Prop):Prop:=∀s s' x m,x=(b.toNat:Int)->m=n->cd s s'->ia [.t 2,.t 3] [.int .u8 x,.int .i64 m] s'->R s
theorem JN(P:Prim)(hP:P=cp)(T a:cm)(b:UInt8)(w:BS)(x:Int)(hx:x=(b.toNat:Int))(c:P.sat w 0=x)(hl:P.iq 0 (P.b5 w))(h0:P.fK 0 0)(d:P.ne (P.sat w 0) 92=true)(z2:P.eq (P.sat w 0) 95=false)(z3:P.le (P.sat w 0) 32=false)(z4:P.le 127 (P.sat w 0)=false)
  (R:S->Prop)(e:SA b 1 R):gE P T a rI (S0 [.str w] Hp.emp) R (λ_ _=>False) R:=by
 cbv
 repeat'(first
  |(refine qA ?_;cbv)
  |(refine gj d ?_;cbv)
  |(refine eB z2 ?_;cbv)
  |(refine eB z3 ?_;cbv)
  |(refine eB z4 ?_;cbv)
  |fail)
 exact e _ _ _ _ (c.trans hx) rfl (cd.refl _) rfl
theorem JO(P:Prim)(hP:P=cp)(T a:cm)(w:BS)(hl:P.iq 0 (P.b5 w))(h0:P.fK 0 0)(b:P.iq 1 (P.b5 w))(h1:P.fK 0 1)(c:P.ne (P.sat w 0) 92=false)(z2:P.lt 1 (P.b5 w)=true)(z3:P.eq (P.sat w 1) 115=true)
  (R:S->Prop)(d:SA 32 2 R):gE P T a rI (S0 [.str w] Hp.emp) R (λ_ _=>False) R:=by
 cbv
 repeat'(first
  |(refine qA ?_;cbv)
  |(refine eB c ?_;cbv)
  |(refine gj z2 ?_;cbv)
  |(refine gj z3 ?_;cbv)
  |fail)
 exact d _ _ _ _ rfl rfl (cd.refl _) rfl
theorem JP(P:Prim)(hP:P=cp)(T d:cm)(b:UInt8)(w:BS)(s1:P.sat w 1=(b.toNat:Int))(hl:P.iq 0 (P.b5 w))(h0:P.fK 0 0)(e:P.iq 1 (P.b5 w))(h1:P.fK 0 1)(a:P.ne (P.sat w 0) 92=false)(z2:P.lt 1 (P.b5 w)=true)(z3:P.eq (P.sat w 1) 115=false)
  (z4:P.eq (P.sat w 1) 92=true\/(P.eq (P.sat w 1) 92=false/\P.eq (P.sat w 1) 95=true))
  (R:S->Prop)(c:SA b 2 R):gE P T d rI (S0 [.str w] Hp.emp) R (λ_ _=>False) R:=by
 rcases z4 with z4|⟨z4,z5⟩
 ·cbv
  repeat'(first
   |(refine qA ?_;cbv)
   |(refine eB a ?_;cbv)
   |(refine gj z2 ?_;cbv)
   |(refine eB z3 ?_;cbv)
   |(refine gj z4 ?_;cbv)
   |fail)
  exact c _ _ _ _ s1 rfl (cd.refl _) rfl
 ·cbv
  repeat'(first
   |(refine qA ?_;cbv)
   |(refine eB a ?_;cbv)
   |(refine gj z2 ?_;cbv)
   |(refine eB z3 ?_;cbv)
   |(refine eB z4 ?_;cbv)
   |(refine gj z5 ?_;cbv)
   |fail)
  exact c _ _ _ _ s1 rfl (cd.refl _) rfl
theorem JQ(P:Prim)(hP:P=cp)(T a:cm)(b:UInt8)(w:BS)(i1 i2:Int)(hl:P.iq 0 (P.b5 w))(h0:P.fK 0 0)(c:P.iq 1 (P.b5 w))(h1:P.fK 0 1)(d:P.iq 2 (P.b5 w))(h2:P.fK 0 2)(e:P.iq 3 (P.b5 w))(h3:P.fK 0 3)(f:P.ne (P.sat w 0) 92=false)(z2:P.lt 1 (P.b5 w)=true)(z3:P.eq (P.sat w 1) 115=false)
  (z4:P.eq (P.sat w 1) 92=false)(z5:P.eq (P.sat w 1) 95=false)(g:P.lt (P.b5 w) 4=false)(h:P.ne (P.sat w 1) 120=false)
  (a1:hJ a 105 [.str u6,.int .u8 (P.sat w 2)] (qI i1))(a2:hJ a 105 [.str u6,.int .u8 (P.sat w 3)] (qI i2))(i:P.lt i1 0=false)(z9:P.lt i2 0=false)
  (y1:P.fK 0 4)(y2:P.iq 4 64)(l:P.i64 (P.shl i1 4))(j:P.wrap .u8 (P.Lr .i64 (P.shl i1 4) i2)=(b.toNat:Int))
  (R:S->Prop)(k:SA b 4 R):gE P T a rI (S0 [.str w] Hp.emp) R (λ_ _=>False) R:=by
 unfold u6 at a1 a2;cbv
 repeat'(first
  |(refine qA ?_;cbv)
  |(refine eB f ?_;cbv)
  |(refine gj z2 ?_;cbv)
  |(refine eB z3 ?_;cbv)
  |(refine eB z4 ?_;cbv)
  |(refine eB z5 ?_;cbv)
  |(refine eB g ?_;cbv)
  |(refine eB h ?_;cbv)
  |(refine eB i ?_;cbv)
  |(refine eB z9 ?_;cbv)
  |(refine a1 _ _ ?_;cbv)
  |(refine a2 _ _ ?_;cbv)
  |fail)
 exact k _ _ _ _ j rfl (cd.refl _) rfl
theorem JR:∀n:Nat,n<16->Lib.indexByte u6 (((jX n).toNat:Int)).toNat.toUInt8=(n:Int):=by
 have h:∀n:Fin 16,Lib.indexByte u6 (((jX n.1).toNat:Int)).toNat.toUInt8=(n.1:Int):=by decide+kernel
 exact λn hn=>h ⟨n,hn⟩
theorem NA:∀n:Nat,n<256->cp.i64 (cp.shl ((n/16:Nat):Int) 4)/\cp.wrap .u8 (cp.Lr .i64 (cp.shl ((n/16:Nat):Int) 4) ((n%16:Nat):Int))=(n:Int):=by
 have h:∀n:Fin 256,cp.wrap .u8 (cp.Lr .i64 (cp.shl ((n.1/16:Nat):Int) 4) ((n.1%16:Nat):Int))=(n.1:Int):=by decide+kernel
 intro n hn;refine⟨?_,h ⟨n,hn⟩⟩;show kA (((n/16:Nat):Int)*2^(4:Int).toNat);have:((n/16:Nat):Int)<=16:=by omega
 constructor<;>(show _<=_;simp;omega)
theorem nM(k:Nat)(w:BS)(h:k<w.length):cp.iq (k:Int) (cp.b5 w):=Int.ofNat_lt.2 h
theorem wI(k:Nat):cp.fK 0 (k:Int):=bK k
theorem NB(b:UInt8)(r:BS):Spec Tryz.prog 198 [.str (eR b++r)] Hp.emp (Is (.tup [.int .u8 (b.toNat:Int),.int .i64 ((eR b).length:Int)])):=
 ed hW Nz [.int .u8 (b.toNat:Int),.int .i64 ((eR b).length:Int)] (.tup _ (by simp;exact⟨.int _ _,.int _ _⟩)) λR c=>by
  have hN:∀n:Int,n=((eR b).length:Int)->SA b n R:=λn hn s s' x m hx hm he hr=>by subst hx hm hn;exact c s s' he hr
  have hbl:=b.toNat_lt;have a:∀{p:Prop} [Decidable p],p->decide p=true:=λh=>dj h;have df:∀{p:Prop} [Decidable p],¬p->decide p=false:=λh=>bS h
  by_cases h1:b.toNat=32
  ·have hb:b=32:=fw.1 h1;have hw:eR b=[92,115]:=by unfold eR;rw[ab h1]
   have hN:=hN 2 (by rw[hw];rfl);rw[hw];rw[hb] at hN;exact JO cp rfl _ _ ([92,115]++r) (nM 0 _ (by simp)) (bn 0) (nM 1 _ (by simp)) (wI 1) rfl (a (nM 1 _ (by simp))) rfl R hN
  ·by_cases h2:b.toNat=92\/b.toNat=95
   ·have hw:eR b=[92,b]:=by unfold eR;rw[aa h1,ab h2]
    have hN:=hN 2 (by rw[hw];rfl);rw[hw];refine JP cp rfl _ _ b ([92,b]++r) rfl (nM 0 _ (by simp)) (bn 0) (nM 1 _ (by simp)) (wI 1) rfl (a (nM 1 _ (by simp))) (df ?_) ?_ R hN
    ·show¬(b.toNat:Int)=115;omega
    ·by_cases h3:b.toNat=92
     ·exact .inl (a (show(b.toNat:Int)=92 by omega))
     ·exact .inr ⟨df (show¬(b.toNat:Int)=92 by omega),a (show(b.toNat:Int)=95 by omega)⟩
   ·by_cases h3:b.toNat<32\/126<b.toNat
    ·have hw:eR b=[92,120,jX (b.toNat/16),jX (b.toNat%16)]:=by unfold eR;rw[aa h1,aa h2,ab h3]
     have hN:=hN 4 (by rw[hw];rfl);rw[hw];have hj:=NA b.toNat hbl;have x1:=JR (b.toNat/16) qW;have x2:=JR (b.toNat%16) qW;refine JQ cp rfl _ _ b ([92,120,jX (b.toNat/16),jX (b.toNat%16)]++r) ((b.toNat/16:Nat):Int) ((b.toNat%16:Nat):Int) (nM 0 _ (by simp)) (bn 0) (nM 1 _ (by simp)) (wI 1) (nM 2 _ (by simp)) (wI 2) (nM 3 _ (by simp)) (wI 3) rfl (a (nM 1 _ (by simp))) rfl rfl rfl (qT (P:=cp) rfl ?_) rfl ?_ ?_ (qT (P:=cp) rfl ?_) (qT (P:=cp) rfl ?_) (wI 4) (show(4:Int)<64 by decide) hj.1 hj.2 R hN
     ·show¬(((([92,120,jX (b.toNat/16),jX (b.toNat%16)]:BS)++r).length:Nat):Int)<4;simp;omega
     ·rw[<-x1];exact yu (Dl u6 ((jX (b.toNat/16)).toNat:Int)) (λ_=>.cons (.same _) (.cons (.same _) .nil)) rfl
     ·rw[<-x2];exact yu (Dl u6 ((jX (b.toNat%16)).toNat:Int)) (λ_=>.cons (.same _) (.cons (.same _) .nil)) rfl
     ·omega
     ·omega
    ·have hw:eR b=[b]:=by unfold eR;rw[aa h1,aa h2,aa h3]
     have hN:=hN 1 (by rw[hw];rfl);rw[hw];refine JN cp rfl _ _ b ([b]++r) (b.toNat:Int) rfl rfl (nM 0 _ (by simp)) (bn 0) (a ?_) (df ?_) (df ?_) (df ?_) R hN
     ·show¬(b.toNat:Int)=92;omega
     ·show¬(b.toNat:Int)=95;omega
     ·show¬(b.toNat:Int)<=32;omega
     ·show¬127<=(b.toNat:Int);omega
def rJ(s:BS):List (List V):=s.map λb=>[.int .u8 (b.toNat:Int)]
structure W7(s:BS) where
 i:Nat
 w:BS
 b:Option Nat
 m:Nat
 rows:List (List V)
 hi:i<=s.length
 hw:w=(s.drop i).flatMap eR
 hm:m=i
 hr:rows=rJ (s.take i)
def Aa:AC:=qr [qo 2 (.mov (.c qe))] (qq (qr [qm 6 0,⟨some 7,none,.bin .eql (.t 6) (.c (.string ⟨#[95]⟩))⟩] (qu 7 (qr [qo 2 (.mov (.c qe))] .ret) .skip)) (qr [qo 3 (.mov (.c (.slice none 0 0)))] (qq (.block 0 (.loop (qq (qr [qm 8 0,qo 9 (.bin .neq (.t 8) (.c qe))] (qu 9 .skip (.exit 0))) (.block 1 (qr [qm 11 0,qa 12 198 [.t 11],qm 10 12,qx 13 0 10,qx 14 1 10,qm 4 13,qm 5 14] (qr [qm 15 3,qm 16 4,qo 17 (.bslice 5 1 [.t 16]),qo 18 (.append 5 1 1 (.t 15) (.t 17)),qm 3 18] (qR [qm 19 0,qm 20 5,qo 21 (.slstr (.t 19) (some (.t 20)) none),qm 0 21]))))))) (qr [qm 22 3,qo 23 (.convbs (.t 22)),qm 2 23] .ret))))
theorem JS:fF Tryz.prog 141 Tryz.f141 Aa [.t 2] 1 dS:=⟨Tryz.func141,by decide+kernel,by kernel_rfl,by kernel_rfl,by decide+kernel⟩
theorem JT(P:Prim)(hP:P=cp)(T C:cm)(s:BS)(hs:s.length<=1000000)(d:∀(b:UInt8)(r:BS)(w:BS)(n:Int),w=eR b++r->n=((eR b).length:Int)->hJ T 198 [.str w] (.tup [.int .u8 (b.toNat:Int),qI n]))(w0:BS)(hw0:w0=ga s)
  (R:S->Prop)(B:∀s1 s2 t,t=s->cd s1 s2->ia [.t 2] [.str t] s2->R s1):gE P T C Aa (S0 [.str w0] Hp.emp) R (λ_ _=>False) R:=by
 by_cases a:s=[]
 ·have p:P.seq w0 [95]=true:=oq hP (by rw[hw0,a];rfl);cbv;refine gj p ?_;cbv;exact B _ _ _ a.symm (cd.refl _) rfl
 have e:w0=s.flatMap eR:=by
  obtain⟨b,l,rfl⟩:∃b l,s=b::l:=by
   cases s with
   |nil=>exact absurd rfl a
   |cons b l=>exact⟨b,l,rfl⟩
  rw[hw0,u3]
 have p:P.seq w0 [95]=false:=ic hP (by
  intro he;obtain⟨b,l,rfl⟩:∃b l,s=b::l:=by
   cases s with
   |nil=>exact absurd rfl a
   |cons b l=>exact⟨b,l,rfl⟩
  rw[e,bW] at he;have hl:=ay List.length he;rw[ae] at hl;have h1:=sB b;have hl:(eR b).length+(l.flatMap eR).length=1:=hl;have hz:l.flatMap eR=[]:=aB qW;rw[hz,bg] at he;unfold eR at he
  split at he
  ·cases he
  ·split at he
   ·cases he
   ·split at he
    ·cases he
    ·rename_i h2 _;have:b=95:=by injection he
     exact h2 (.inr (by rw[this];rfl)))
 cbv;refine eB p ?_;cbv;refine⟨W7 s,λy=>[(0,.str y.w),(3,.own 1000018 y.b 1 y.m)],λy=>[(1000018,⟨y.b,5,1,y.rows⟩)],λy=>s.length-y.i,⟨_,cd.nil (i:=3) (k:=1000018) (ty:=5) (sz:=1) rfl rfl,⟨0,w0,none,0,[],bc _,e,rfl,rfl⟩,⟨rfl,rfl,trivial⟩,⟨rfl,trivial⟩⟩,?_⟩;rintro⟨i,w,G,m,rows,hi,hw,hm,hr⟩;have hi:i<=s.length:=hi;have hw:w=(s.drop i).flatMap eR:=hw;have hm:m=i:=hm;have hr:rows=rJ (s.take i):=hr;have r8:rows.length=m:=by rw[hr,hm,rJ,aH,aE];omega
 cbv;refine a6 (λg=>?_) (λg=>?_)
 ·have g1:¬w=[]:=Cj hP g;have c:i<s.length:=by
   rcases dn i s.length with h|h
   ·exact h
   ·exact absurd (by rw[hw,dO h];rfl) g1
  obtain⟨b,hb⟩:∃b,s[i]? =some b:=⟨_,af c⟩;have q:s.drop i=b::s.drop (i+1):=by
   rw[bw c]
   congr 1
   rw[af c] at hb;exact bN hb
  obtain⟨r,f⟩:∃r,r=(s.drop (i+1)).flatMap eR:=⟨_,rfl⟩;have hwr:w=eR b++r:=by rw[hw,q,bW,f]
  obtain⟨n,hn⟩:∃n,n=((eR b).length:Int):=⟨_,rfl⟩;obtain⟨x,hx⟩:∃x,x=(b.toNat:Int):=⟨_,rfl⟩;have d:hJ T 198 [.str w] (.tup [.int .u8 x,qI n]):=by rw[hx];exact d b r w n hwr hn
  have D:=sB b;have j:P.b5 w=((eR b).length:Int)+(r.length:Int):=by rw[cA hP,hwr,ae];simp
  have q1:P.fK 0 n:=iJ hP (by rw[hn];exact bK _);have q2:P.fK n (P.b5 w):=by rw[j,hn];subst hP;show(_:Int)<=_;omega
  have H:P.fK (P.b5 w) (P.b5 w):=by subst hP;exact bn _
  have o:P.gZ w n (P.b5 w)=r:=by
   rw[j,hn,hwr];subst hP;show((eR b++r).take (((eR b).length:Int)+(r.length:Int)).toNat).drop (((eR b).length:Int)).toNat=r;rw[show(((eR b).length:Int)+(r.length:Int)).toNat=(eR b++r).length by rw[ae];omega,aN,aG,cI]
  have hne:P.rW rows m:=by subst hP;exact r8
  have E:P.rW [[.int .u8 x]] 1:=by subst hP;rfl
  have F:P.bytes (P.add (P.int m) (P.cF [[.int .u8 x]])) 1:=by subst hP;show((m:Int)+1)*1<=_;omega
  have pR:P.jg m (P.gH [[.int .u8 x]])=i+1:=by subst hP;show m+1=i+1;rw[hm]
  have u:P.n4 rows [[.int .u8 x]]=rJ (s.take (i+1)):=by
   subst hP;show rows++[_]=_;rw[hr,hx,rJ,rJ,bJ,hb,cj];rfl
  have v:P.gZ w n (P.b5 w)=(s.drop (i+1)).flatMap eR:=o.trans f;clear g;cbv;refine d _ _ ?_;cbv
  repeat'(first
   |(refine qA ?_;cbv)
   |(intro z;cbv)
   |fail)
  exact⟨_,cd.refl _,⟨i+1,_,_,_,_,c,v,pR,u⟩,⟨rfl,rfl,trivial⟩,⟨rfl,trivial⟩,by show s.length-(i+1)<s.length-i;omega⟩
 ·have g1:w=[]:=Ck hP g;have hin:i=s.length:=by
   rcases dn i s.length with h|h
   ·have h1:=(ng (s.drop i)).1;rw[<-hw,g1,aP,aL] at h1;omega
   ·omega
  have hne:P.rW rows m:=by subst hP;exact r8
  have A:P.wZ rows s:=by
   subst hP;show rows=_;rw[hr,hin,aN];rfl
  clear g;cbv
  repeat'(first
   |(refine qA ?_;cbv)
   |(intro z;cbv)
   |(refine⟨_,A,?_⟩;cbv)
   |fail)
  exact B _ _ _ rfl (cd.refl _) rfl
theorem Ab(s:BS)(hs:s.length<=1000000):Spec Tryz.prog 141 [.str (ga s)] Hp.emp (Is (.str s)):=
 ed hW JS [.str s] (.str _) λR a=>JT cp rfl _ _ s hs (λb r w n hw hn=>by subst hw hn;exact gK (NB b r) (λ_=>.cons (.same _) .nil) rfl) _ rfl R λs1 s2 t h he hr=>by subst h;exact a s1 s2 he hr
def oX(done:List Nat):Nat->Nat
 |0=>0
 |n+1=>oX done n+(if gp done n=true then 0 else 1)
theorem Fh(i:Nat)(done:List Nat):gp (i::done) i=true:=by simp[gp]
theorem jY{i j:Nat}(h:j≠i)(done:List Nat):gp (i::done) j=gp done j:=by
 have:Nat.beq i j=false:=by
  cases hb:Nat.beq i j
  ·rfl
  ·exact absurd (bP hb).symm h
 simp[gp,this]
theorem pD{i j:Nat}{done:List Nat}(h:gp done j=true):gp (i::done) j=true:=by simp[gp,h]
theorem Dp{i:Nat}{done:List Nat}:∀n,n<=i->oX (i::done) n=oX done n
 |0,_=>rfl
 |n+1,h=>by
  simp only[oX];rw[Dp n qW,jY qW]
theorem sC{i:Nat}{done:List Nat}(hi:gp done i=false):∀n,i<n->oX (i::done) n+1=oX done n
 |0,h=>by omega
 |n+1,h=>by
  simp only[oX]
  by_cases e:i=n
  ·subst e;rw[Dp _ (ak _),Fh,hi];rfl
  ·rw[jY qW,<-sC hi n qW];omega
theorem Ac{done:List Nat}:∀n,oX done n=0->∀i,i<n->gp done i=true
 |0,_,i,h=>by omega
 |n+1,h,i,hi=>by
  simp only[oX] at h
  by_cases e:i=n
  ·subst e;cases hh:gp done i
   ·rw[hh] at h;simp at h
   ·rfl
  ·exact Ac n qW i qW
theorem Dq:∀n,oX [] n=n
 |0=>rfl
 |n+1=>by simp only[oX];rw[Dq n];rfl
theorem u7{f:Nat->AO->Prop}{done:List Nat}:∀(l:List (AO×List Nat))(m:Nat),(∀(j:Nat)(o:AO)(ps:List Nat),l[j]? =some (o,ps)->gp done (m+j)=false->ps.all (gp done)=true->f (m+j) o)->ys (jk done m l) f
 |[],m,h=>trivial
 |(o,ps)::l,m,h=>by
  have ih:=u7 (f:=f) (done:=done) l (m+1) λj o ps h1 h2 h3=>by
   have:=h (j+1) o ps h1 (by rw[<-h2];congr 1;omega) h3
   rwa[show m+(j+1)=m+1+j by omega] at this
  simp only[jk]
  split
  ·rename_i he;rw[aO] at he;have h0:=h 0 o ps rfl (by simpa using he.1) he.2;rw[bQ] at h0
   revert ih
   cases jk done (m+1) l with
   |nil=>intro _;exact h0
   |cons x r=>intro ih;exact⟨h0,ih⟩
  ·exact ih
def qj(ops:List (AO×List Nat))(done:List Nat):Prop:=∀j o ps,ops[j]? =some (o,ps)->gp done j=true->∀k∈ps,gp done k=true
section
variable {P:Prim} {T:cm} {s:S} {d x y:Nat} {K:S->Prop}
end
def jM(T:cm):Prop:=∀(f:Nat)(vs:List V)(h:Hp)(K a:V->Hp->Prop),(∀v h,K v h->a v h)->T f vs h K->T f vs h a
theorem u9{P:Program}:jM (dF P):=λf vs h K b hK hh=>by
 obtain⟨h0,he,m,a,hp,post,h1,h2,h3,h4,h5⟩:=hh;exact⟨h0,he,m,a,hp,post,h1,h2,h3,h4,λv h' hp=>hK _ _ (h5 v h' hp)⟩
def AO.sD(o:AO):Bool:=match o.op with
 |.call .. =>false
 |.callv .. =>false
 |_=>true
def rK(a b:AO):Bool:=xc a b&&(a.op.oc||(a.sD&&b.sD&&nu a b))
section
variable {T:cm} {P:Program}
theorem Dr{T T':cm}{op:pG}(h:(AO.mk none none op).sD=true){ev:hS->V}{h0:Hp}{k:Nat}{K:V->Hp->Prop}:fJ cp T op ev h0 k K=fJ cp T' op ev h0 k K:=by
 cases op<;>first|rfl|(simp[AO.sD] at h)
theorem tC{T T':cm}{o:AO}(h:o.sD=true){s:S}{K:S->Prop}:gm cp T o s K=gm cp T' o s K:=by
 obtain⟨d,g,op⟩:=o;have e:∀s:S,iU cp T ⟨d,g,op⟩ s K=iU cp T' ⟨d,g,op⟩ s K:=λs=>Dr (op:=op) h;unfold gm;simp only[e]
theorem va(a:jM T){op:pG}{ev:hS->V}{h:Hp}{k:Nat}{K b:V->Hp->Prop}(hK:∀v h,K v h->b v h)(hh:fJ cp T op ev h k K):fJ cp T op ev h k b:=by
 by_cases hn:(AO.mk none none op).sD=true
 ·rw[Dr (T':=fk Tryz.prog) hn] at hh⊢;exact r5 hK hh
 ·cases op<;>try(exact absurd rfl hn)
  case call f args=>exact a _ _ _ _ _ hK hh
  case callv x args=>
   simp only[fJ] at hh⊢
   split at hh
   ·exact a _ _ _ _ _ hK hh
   ·exact hh.elim
theorem ju(e:jM T){a:AO}{s:S}{K c:S->Prop}(hK:∀s,K s->c s)(hh:gm cp T a s K):gm cp T a s c:=by
 obtain⟨d,g,op⟩:=a;have plain:∀s:S,iU cp T ⟨d,g,op⟩ s K->iU cp T ⟨d,g,op⟩ s c:=λs h=>va e (λv h' hk=>hK _ hk) h;unfold gm at hh⊢
 split at hh
 ·exact plain s hh
 ·split at hh
  ·rename_i b _;cases b
   ·exact hK _ hh
   ·exact plain _ hh
  ·exact hK _ hh
  ·exact hh.elim
 ·split at hh
  ·rename_i b _;cases b
   ·exact plain _ hh
   ·exact hK _ hh
  ·exact hK _ hh
  ·exact hh.elim
theorem Ad(a:jM T){op:pG}{ev ev':hS->V}{h:Hp}{k:Nat}{K K':V->Hp->Prop}(he:∀x∈op.r4,ev x=ev' x)(hK:∀v h,K v h->K' v h)(hh:fJ cp T op ev h k K):fJ cp T op ev' h k K':=by
 rw[nt he] at hh;exact va a hK hh
theorem Fi(l:jM T){b:AO}{s:S}{d0:Option Nat}{u:V}{K c:S->Prop}(hl:∀e,d0=some e->e∉b.looks/\b.d≠some e)(hK:∀s1,(∀i,b.d≠some i->s1.t i=s.t i)->K (s1.put d0 u)->c s1)(hh:gm cp T b (s.put d0 u) K):gm cp T b s c:=by
 obtain⟨d,g,op⟩:=b;have m:∀(s:S)(v:V)(h:Hp),(((s.put d0 u).hU h).put d v)=(((s.hU h).put d v).put d0 u):=by
  intro s v h;have e1:(s.put d0 u).hU h=(s.hU h).put d0 u:=by cases d0<;>rfl
  rw[e1];exact put_comm λi hi=>(hl i hi).2
 have ts:∀(s:S)(i:Nat),(∀e,d0=some e->i≠e)->(s.put d0 u).t i=s.t i:=λs i hi=>jx λe=>hi i e rfl;have plain:∀s':S,(∀i,s'.t i=s.t i)->iU cp T ⟨d,g,op⟩ (s'.put d0 u) K->iU cp T ⟨d,g,op⟩ s' c:=by
  intro s' hs' h;have h':fJ cp T op (hS.ev (s'.put d0 u)) s'.h (d.getD 0) (λv h=>K ((((s'.put d0 u).hU h)).put d v)):=by
   have:=h;unfold iU at this;rw[j0] at this;exact this
  refine Ad l (K':=λv h=>c ((s'.hU h).put d v)) (kV λi hi=>ts s' i λe he f=>(hl e he).1 (by rw[<-f];unfold AO.looks;exact bX _ hi)) (λv n hk=>hK _ (λi hi=>?_) ?_) h'
  ·rw[jx hi];exact hs' i
  ·rw[<-m];exact hk
 cases g with
 |none=>exact plain s (λ_=>rfl) hh
 |some o=>
  obtain⟨g,want⟩:=o;have j:∀e,d0=some e->g≠e:=λe he hg=>(hl e he).1 (by rw[<-hg];simp[AO.looks]);have a:(s.put d0 u).t g=s.t g:=ts s g j;have k:∀(s:S)(v:V),(s.put d0 u).put d v=(s.put d v).put d0 u:=λs v=>put_comm λi hi=>(hl i hi).2;cases hb:s.t g with
  |bool b=>
   have hb2:=a.trans hb;have e1:(s.put d0 u).set g (.bool b)=s.put d0 u:=jH hb2;have p:s.set g (.bool b)=s:=jH hb;cases want<;>cases b<;>simp only[gm,hb,hb2,br,e1,p] at hh⊢
   ·exact plain s (λ_=>rfl) hh
   ·exact hK _ (λi hi=>jx hi) (by rw[<-k];exact hh)
   ·exact hK _ (λi hi=>jx hi) (by rw[<-k];exact hh)
   ·exact plain s (λ_=>rfl) hh
  |mN=>
   have hb2:=a.trans hb;cases want<;>simp only[gm,hb,hb2] at hh⊢<;>exact hK _ (λi hi=>jx hi) (by rw[<-k];exact hh)
  |_=>
   have hb2:=a.trans hb;cases want<;>simp only[gm,hb2] at hh
theorem SB(h:jM T){a b:AO}(hp:rK a b=true){s:S}{K:S->Prop}(hh:gm cp T a s λs1=>gm cp T b s1 K):gm cp T b s λs1=>gm cp T a s1 K:=by
 unfold rK at hp;simp only[aO,bq] at hp;obtain⟨f,g|⟨⟨c,AE⟩,hZ⟩⟩:=hp
 ·obtain⟨h1,h2⟩:=apart_spec f;obtain⟨j,ha⟩:=pe g hh;have hb:=(ha s (λ_ _=>rfl) _).1 hh;exact Fi h (d0:=a.d) (u:=j) (λe he=>h1 e he) (λs1 hs hk=>(ha s1 (λi hi=>hs i λhb=>h2 i hb hi) _).2 hk) hb
 ·have e1:(λs1=>gm cp T b s1 K)=λs1=>gm cp (fk Tryz.prog) b s1 K:=funext λs1=>tC AE;have k:(λs1=>gm cp T a s1 K)=λs1=>gm cp (fk Tryz.prog) a s1 K:=funext λs1=>tC c;rw[tC (T':=fk Tryz.prog) c,e1] at hh;rw[tC (T':=fk Tryz.prog) AE,k];exact swap hZ hh
def sV(ops:List (AO×List Nat))(i:Nat):Nat->List Nat
 |0=>[]
 |m+1=>match ops[m]? with
  |some (_,ps)=>if ps.any (λp=>Nat.beq p i||(sV ops i m).contains p) then m::sV ops i m else sV ops i m
  |none=>sV ops i m
theorem oY{ops:List (AO×List Nat)}{done:List Nat}{i:Nat}(a:qj ops done)(hi:gp done i=false):∀m j,j∈sV ops i m->∃o ps p,ops[j]? =some (o,ps)/\p∈ps/\gp done p=false
 |0,j,h=>by cases h
 |m+1,j,h=>by
  unfold sV at h
  split at h
  ·rename_i o ps hm
   split at h
   ·rename_i b
    rcases ah.1 h with rfl|h
    ·obtain⟨p,hp,hb⟩:=cU.1 b;refine⟨o,ps,p,hm,hp,?_⟩;simp only[bq] at hb
     rcases hb with hb|hb
     ·rw[bP hb];exact hi
     ·obtain⟨d,c,e,q1,q2,f⟩:=oY a hi _ p (by simpa using hb);cases hd:gp done p
      ·rfl
      ·have:=a p d c q1 hd e q2;rw[f] at this;cases this
    ·exact oY a hi m j h
   ·exact oY a hi m j h
  ·exact oY a hi m j h
def JU(ops:List (AO×List Nat))(done:List Nat)(i:Nat)(b:AO):Prop:=∀(j:Nat)(a:AO)(ps:List Nat),ops[j]? =some (a,ps)->gp done j=false->j≠i->j∈sV ops i ops.length\/rK b a=true
def xU(ops:List (AO×List Nat))(done:List Nat)(i:Nat):Bool:=match ops[i]? with
 |some (a,ps)=> !(gp done i)&&ps.all (gp done)&&(List.range ops.length).all λj=>gp done j||Nat.beq j i||(sV ops i ops.length).contains j||(match ops[j]? with
  |some (b,_)=>rK a b
  |none=>true)
 |none=>false
theorem Ae{ops:List (AO×List Nat)}{done:List Nat}{i:Nat}(h:xU ops done i=true):∃a ps,ops[i]? =some (a,ps)/\gp done i=false/\ps.all (gp done)=true/\JU ops done i a:=by
 unfold xU at h
 split at h
 ·rename_i a ps hi;simp only[aO,dL] at h;refine⟨a,ps,hi,h.1.1,h.1.2,λj b c hj hd hne=>?_⟩;have hlt:=(aj.1 hj).1;have:=aF.1 h.2 j (bI.2 hlt);simp only[bq,hd,hj] at this
  rcases this with((g|g)|g)|g
  ·cases g
  ·exact absurd (bP g) hne
  ·exact .inl (by simpa using g)
  ·exact .inr g
 ·cases h
theorem rL{d1 d2:List Nat}(h:gp d1=gp d2):∀(l:List (AO×List Nat))(m:Nat),jk d1 m l=jk d2 m l
 |[],m=>rfl
 |(o,ps)::l,m=>by simp only[jk,h,rL h l]
theorem qp{ops:List (AO×List Nat)}{K:S->Prop}:∀(n:Nat)(d1 d2:List Nat)(s:S),gp d1=gp d2->nm cp T ops n d1 s K->nm cp T ops n d2 s K
 |0,_,_,_,_,h=>h
 |n+1,d1,d2,s,he,h=>by
  simp only[nm] at h⊢;rw[<-rL he];have:(λi o=>gm cp T o s λs=>nm cp T ops n (i::d1) s K)=λi o=>gm cp T o s λs=>nm cp T ops n (i::d2) s K:=by
   funext i o
   congr 1
   funext s'
   refine propext ⟨qp n _ _ s' (by funext k;simp only[gp,he]),qp n _ _ s' (by funext k;simp only[gp,he])⟩
  rw[<-this];exact h
theorem Af{done:List Nat}{i:Nat}:gp done i=true↔i∈done:=by
 induction done with
 |nil=>simp[gp]
 |cons x l ih=>
  simp only[gp,bq,ah,ih]
  constructor
  ·rintro(h|h)
   ·exact .inl (bP h).symm
   ·exact .inr h
  ·rintro(h|h)
   ·subst h;exact .inl (bY _)
   ·exact .inr h
theorem NC{ops:List (AO×List Nat)}{K:S->Prop}{n:Nat}{done:List Nat}{s:S}{j:Nat}{a:AO}{ps:List Nat}(h:nm cp T ops (n+1) done s K)(hj:ops[j]? =some (a,ps))(hd:gp done j=false)(hp:ps.all (gp done)=true):gm cp T a s λs=>nm cp T ops n (j::done) s K:=by
 have hm:(0+j,a)∈jk done 0 ops:=p6 hj (by rw[aW];intro hm;rw[Af.2 hm] at hd;cases hd) (λq hq=>Af.1 (aF.1 hp q hq));rw[aW] at hm;exact ue (show ys (jk done 0 ops) (λi o=>gm cp T o s λs=>nm cp T ops n (i::done) s K) from h) hm
theorem oZ{ops:List (AO×List Nat)}{done:List Nat}{j:Nat}{f:AO}{ps:List Nat}(b:qj ops done)(hj:ops[j]? =some (f,ps))(hp:ps.all (gp done)=true):qj ops (j::done):=by
 intro d o' c a hd k hk
 by_cases e:d=j
 ·subst e;rw[hj] at a;cases a;exact pD (aF.1 hp k hk)
 ·rw[jY e] at hd;exact pD (b d o' c a hd k hk)
theorem Ag{done:List Nat}{j:Nat}{ps:List Nat}(h:ps.all (gp done)=true):ps.all (gp (j::done))=true:=
 aF.2 λk hk=>pD (aF.1 h k hk)
theorem vb(c:jM T){ops:List (AO×List Nat)}{K:S->Prop}{i:Nat}{m:AO}{pi:List Nat}(hi:ops[i]? =some (m,pi)):∀(n:Nat)(done:List Nat)(s:S),oX done ops.length=n+1->qj ops done->gp done i=false->pi.all (gp done)=true->JU ops done i m->
  gm cp T m s (λs=>nm cp T ops n (i::done) s K)->nm cp T ops (n+1) done s K
 |n,done,s,hc,d,b,o,he,h=>by
  show ys (jk done 0 ops) _;refine u7 ops 0 λj r ps hj hf hp=>?_;rw[aW] at hf⊢
  by_cases a:j=i
  ·subst a;rw[hi] at hj;cases hj;exact h
  ·have hlt:j<ops.length:=(aj.1 hj).1;have f:i<ops.length:=(aj.1 hi).1;have hZ:rK m r=true:=by
    rcases he j r ps hj hf a with hd|hd
    ·obtain⟨x,u,v,q1,q2,t⟩:=oY d b _ j hd;rw[hj] at q1;cases q1;rw[aF.1 hp v q2] at t;cases t
    ·exact hd
   cases n with
   |zero=>
    have h1:=sC b ops.length f;have h2:=Ac ops.length (done:=i::done) qW j hlt;rw[jY a,hf] at h2;cases h2
   |succ n=>
    have p:qj ops (j::done):=oZ d hj hp;have h1:=ju c (λs' hs'=>NC hs' hj (by rw[jY a];exact hf) (Ag hp)) h;have h2:=SB c hZ h1;refine ju c (λs' hs'=>?_) h2;refine vb c hi n (j::done) s' (by have:=sC hf ops.length hlt;omega) p (by rw[jY (λe=>a e.symm)];exact b) (Ag o) (λk ok w hk g hne=>?_) ?_
    ·refine he k ok w hk ?_ hne;cases hx:gp done k
     ·rfl
     ·rw[pD hx] at g;cases g
    ·refine ju c (λq l=>qp n _ _ q ?_ l) hs'
     funext k
     simp only[gp];cases Nat.beq j k<;>cases Nat.beq i k<;>rfl
inductive Ah where
 |nil
 |ex(i:Nat)(r:Ah)
 |alt(i:Nat)(r more:Ah)
def FF(ops:List (AO×List Nat)):Ah->List Nat->Bool->List Nat->Bool
 |.nil,done,false,_=>(List.range ops.length).all (gp done)
 |.nil,done,true,alts=>(List.range ops.length).all λj=>gp done j||gp alts j||(match ops[j]? with
  |some (_,ps)=> !(ps.all (gp done))
  |none=>true)
 |.ex i r,done,false,_=>xU ops done i&&FF ops r (i::done) false []
 |.ex _ _,_,true,_=>false
 |.alt i r more,done,_,alts=>(match ops[i]? with
  |some (_,ps)=> !(gp done i)&&ps.all (gp done)
  |none=>false)&&FF ops r (i::done) false []&&FF ops more done true (i::alts)
def rM(p:Prim)(T:cm)(ops:List (AO×List Nat))(K:S->Prop):Ah->Bool->S->Prop
 |.nil,false,s=>K s
 |.nil,true,_=>True
 |.ex i r,_,s=>match ops[i]? with
  |some (o,_)=>gm p T o s λs=>rM p T ops K r false s
  |none=>False
 |.alt i r more,_,s=>yr (match ops[i]? with
  |some (o,_)=>gm p T o s λs=>rM p T ops K r false s
  |none=>False) (rM p T ops K more true s)
theorem Ds{done:List Nat}:∀n,(∀i,i<n->gp done i=true)->oX done n=0
 |0,_=>rfl
 |n+1,h=>by simp only[oX];rw[Ds n λi hi=>h i qW,h n qW];rfl
theorem tD(e:jM T){ops:List (AO×List Nat)}{K:S->Prop}:∀(c:Ah)(done:List Nat)(s:S),qj ops done->
  (FF ops c done false []=true->rM cp T ops K c false s->∀n,oX done ops.length=n->nm cp T ops n done s K)/\
  (∀alts,FF ops c done true alts=true->rM cp T ops K c true s->∀n,oX done ops.length=n+1->∀(j:Nat)(d:AO)(ps:List Nat),ops[j]? =some (d,ps)->gp done j=false->ps.all (gp done)=true->gp alts j=false->gm cp T d s λs=>nm cp T ops n (j::done) s K)
 |.nil,done,s,a=>by
  refine⟨λh hr n hn=>?_,λalts h hr n hn j d ps hj hd hp ha=>?_⟩
  ·have h:(List.range ops.length).all (gp done)=true:=h;have:=Ds ops.length λi hi=>aF.1 h i (bI.2 hi);rw[this] at hn;subst hn;exact hr
  ·have h:(List.range ops.length).all (λj=>gp done j||gp alts j||(match ops[j]? with
    |some (_,ps)=> !(ps.all (gp done))
    |none=>true))=true:=h
   have:=aF.1 h j (bI.2 (aj.1 hj).1);rw[hd,ha,hj] at this;simp only[hp] at this;cases this
 |.ex i r,done,s,a=>by
  refine⟨λh hr n hn=>?_,λalts h=>by cases h⟩;have h:(xU ops done i&&FF ops r (i::done) false [])=true:=h;rw[aO] at h;obtain⟨g,pi,hi,hd,hp,he⟩:=Ae h.1;have hlt:=(aj.1 hi).1;have hc:=sC hd ops.length hlt;obtain⟨m,rfl⟩:∃m,n=m+1:=⟨n-1,qW⟩;have hr:(match ops[i]? with
   |some (o,_)=>gm cp T o s λs=>rM cp T ops K r false s
   |none=>False):=hr
  rw[hi] at hr;refine vb e hi m done s hn a hd hp he (ju e (λs' hs'=>?_) hr);exact(tD e r (i::done) s' (oZ a hi hp)).1 h.2 hs' m qW
 |.alt i r more,done,s,a=>by
  have key:∀(b:Bool) alts,FF ops (.alt i r more) done b alts=true->rM cp T ops K (.alt i r more) b s->∀n,oX done ops.length=n+1->∀(j:Nat)(d:AO)(ps:List Nat),ops[j]? =some (d,ps)->gp done j=false->ps.all (gp done)=true->gp alts j=false->gm cp T d s λs=>nm cp T ops n (j::done) s K:=by
   intro b alts h hr n hn j d ps hj hd hp ha;have h:((match ops[i]? with
    |some (_,ps)=> !(gp done i)&&ps.all (gp done)
    |none=>false)&&FF ops r (i::done) false []&&FF ops more done true (i::alts))=true:=by cases b<;>exact h
   have hr:yr (match ops[i]? with
    |some (o,_)=>gm cp T o s λs=>rM cp T ops K r false s
    |none=>False) (rM cp T ops K more true s):=by cases b<;>exact hr
   simp only[aO] at h;obtain⟨⟨h1,h2⟩,h3⟩:=h;obtain⟨r1,r2⟩:=hr
   by_cases f:j=i
   ·subst f;rw[hj] at r1;have hlt:=(aj.1 hj).1;have hc:=sC hd ops.length hlt;exact ju e (λs' hs'=>(tD e r (j::done) s' (oZ a hj hp)).1 h2 hs' n qW) r1
   ·exact(tD e more done s a).2 (i::alts) h3 r2 n hn j d ps hj hd hp (by rw[jY f];exact ha)
  refine⟨λh hr n hn=>?_,λalts h hr=>key true alts h hr⟩;have hne:∃m,n=m+1:=by
   have h:((match ops[i]? with
    |some (_,ps)=> !(gp done i)&&ps.all (gp done)
    |none=>false)&&FF ops r (i::done) false []&&FF ops more done true [i])=true:=h
   simp only[aO] at h;cases hi:ops[i]? with
   |none=>rw[hi] at h;cases h.1.1
   |some q=>
    rw[hi] at h;have hd:gp done i=false:=by
     have:=h.1.1;simp only[aO,dL] at this;exact this.1
    have hc:=sC hd ops.length (aj.1 hi).1;exact⟨n-1,qW⟩
  obtain⟨m,rfl⟩:=hne;show ys (jk done 0 ops) _;refine u7 ops 0 λj d ps hj hf hp=>?_;rw[aW] at hf⊢;exact key false [] h hr m hn j d ps hj hf hp rfl
def SD:List (AO×List Nat)->Nat
 |(o,_)::_=>o.d.getD 0
 |[]=>0
def JV:List (Nat×Ah)->Nat->Option Ah
 |[],_=>none
 |(k,c)::l,i=>match Nat.beq i k with
  |true=>some c
  |false=>JV l i
def pP(a:List (Nat×Ah)):AC->Bool
 |.seq x y=>pP a x&&pP a y
 |.cond _ x y=>pP a x&&pP a y
 |.block _ x=>pP a x
 |.loop x=>pP a x
 |.mc ops=>match JV a (SD ops) with
  |some c=>FF ops c [] false []
  |none=>false
 |_=>true
def vc(p:Prim)(T:cm)(a:cm)(b:List (Nat×Ah)):AC->S->(S->Prop)->(Nat->S->Prop)->(S->Prop)->Prop
 |.skip,s,N,_,_=>N s
 |.region false ops,s,N,_,_=>n5 p T ops s N
 |.region true ops,s,N,_,_=>n5 p a ops s N
 |.seq x y,s,N,X,R=>vc p T a b x s (λs=>vc p T a b y s N X R) X R
 |.cond c x y,s,N,X,R=>match c.ev s with
  |.bool t=>br t (λ_=>vc p T a b x (Ga c s true) N X R) (λ_=>vc p T a b y (Ga c s false) N X R)
  |_=>False
 |.block id x,s,N,X,R=>vc p T a b x s N (λj s=>if j=id then N s else X j s) R
 |.loop x,s,_,X,R=>∃(Y:Type)(L:Y->List (Nat×V))(H:Y->List (Nat×Ob))(d:Y->Nat),(∃s1,cd s s1/\∃y,agree (L y) s1/\eP (H y) s1)/\∀y,vc p T a b x (St (L y) (H y)) (Next L H d y) X R
 |.exit id,s,_,X,_=>X id s
 |.ret,s,_,_,R=>R s
 |.mc ops,s,N,_,_=>match JV b (SD ops) with
  |some c=>rM p T ops N c false s
  |none=>False
theorem qt(b:jM T):∀{l:List AO}{s:S}{K a:S->Prop},(∀s,K s->a s)->n5 cp T l s K->n5 cp T l s a
 |[],s,K,a,hK,h=>hK s h
 |o::l,s,K,a,hK,h=>ju b (λs' hs'=>qt b hK hs') h
theorem pE(a:jM T){ops:List (AO×List Nat)}{K d:S->Prop}(hK:∀s,K s->d s):∀(c:Ah)(b:Bool)(s:S),rM cp T ops K c b s->rM cp T ops d c b s
 |.nil,b,s,h=>by cases b;exact hK s h;trivial
 |.ex i r,b,s,h=>by
  simp only[rM] at h⊢
  split at h
  ·exact ju a (λs' hs'=>pE a hK r false s' hs') h
  ·exact h.elim
 |.alt i r more,b,s,h=>by
  simp only[rM] at h⊢;obtain⟨h1,h2⟩:=h;refine⟨?_,pE a hK more true s h2⟩
  split at h1
  ·exact ju a (λs' hs'=>pE a hK r false s' hs') h1
  ·exact h1.elim
theorem l6{l:cm}(i:jM T)(e:jM l){k:List (Nat×Ah)}:∀(ac:AC)(s:S)(N d:S->Prop)(X b:Nat->S->Prop)(R a:S->Prop),pP k ac=true->(∀s,N s->d s)->(∀j s,X j s->b j s)->(∀s,R s->a s)->vc cp T l k ac s N X R->gE cp T l ac s d b a
 |.skip,s,N,d,X,b,R,a,_,hN,_,_,h=>hN s h
 |.region false ops,s,N,d,X,b,R,a,_,hN,_,_,h=>qt i hN h
 |.region true ops,s,N,d,X,b,R,a,_,hN,_,_,h=>qt e hN h
 |.seq x y,s,N,d,X,b,R,a,hk,hN,f,g,h=>by
  have hk:(pP k x&&pP k y)=true:=hk;rw[aO] at hk;exact l6 i e x s _ _ X b R a hk.1 (λs' hs'=>l6 i e y s' N d X b R a hk.2 hN f g hs') f g h
 |.cond c x y,s,N,d,X,b,R,a,hk,hN,f,g,h=>by
  have hk:(pP k x&&pP k y)=true:=hk;rw[aO] at hk;simp only[vc] at h;simp only[gE]
  split at h
  ·rename_i t ht;rw[ht];cases t
   ·exact l6 i e y _ N d X b R a hk.2 hN f g h
   ·exact l6 i e x _ N d X b R a hk.1 hN f g h
  ·exact h.elim
 |.block id x,s,N,d,X,b,R,a,hk,hN,f,g,h=>l6 i e x s N d _ _ R a hk hN (λj s' hs'=>by
   by_cases hj:j=id
   ·rw[ab hj] at hs'⊢;exact hN _ hs'
   ·rw[aa hj] at hs'⊢;exact f _ _ hs') g h
 |.loop x,s,N,d,X,b,R,a,hk,hN,f,g,h=>by
  obtain⟨Y,L,H,n,h1,h2⟩:=h;exact⟨Y,L,H,n,h1,λy=>l6 i e x _ _ _ X b R a hk (λ_ h=>h) f g (h2 y)⟩
 |.exit id,s,N,d,X,b,R,a,_,hN,f,g,h=>f id s h
 |.ret,s,N,d,X,b,R,a,_,hN,f,g,h=>g s h
 |.mc ops,s,N,d,X,b,R,a,hk,hN,f,g,h=>by
  simp only[vc] at h;simp only[pP] at hk;simp only[gE]
  split at h
  ·rename_i c hc;rw[hc] at hk;have m:qj ops []:=λj o ps _ h=>by cases h
   exact(tD i c [] s m).1 hk (pE i hN c false s h) ops.length (Dq _)
  ·exact h.elim
end
theorem ND{T a:cm}(d:jM T)(b:jM a)(c:List (Nat×Ah)){ac:AC}{s:S}{N:S->Prop}{X:Nat->S->Prop}{R:S->Prop}(hk:pP c ac=true)(h:vc cp T a c ac s N X R):gE cp T a ac s N X R:=
 l6 d b ac s N N X X R R hk (λ_ h=>h) (λ_ _ h=>h) (λ_ h=>h) h
theorem sW{P:Program}:jM (fk P):=λ_ _ _ _ _ hK hh=>A4 hK hh
theorem cd.QJ{s s':S}(g:Nat->Nat)(ht:∀i,(s'.t i).rl z0=(s.t i).rl z0\/s'.t i=.gC)(hh:∀k o,s'.h k=some o->∃q,s.h (g k)=some q/\o.b=q.b/\o.gy z0=q.gy z0)(hg:∀k k' o o',s'.h k=some o->s'.h k'=some o'->g k=g k'->k=k'):cd s s':=by
 intro C n a w hC hs;obtain⟨F,h1,h2⟩:=hs.ex;refine⟨⟨F,⟨λk o hk=>?_,λk k' o o' b hk c hb d=>?_,λk o b hk hb=>?_,h1.jE,h1.new,h1.lt,h1.ev⟩,λi=>?_⟩,hs.df,hs.sz⟩
 ·obtain⟨q,q1,q2,e⟩:=hh k o hk;have:=(h1.ob (g k) q q1).gy z0;rw[<-e] at this;exact this.B8 z0
 ·obtain⟨q,q1,q2,e⟩:=hh k o hk;obtain⟨l,f,j,m⟩:=hh k' o' c;exact hg k k' o o' hk c (h1.inj _ _ q l b q1 f (q2.symm.trans hb) (j.symm.trans d))
 ·obtain⟨q,q1,q2,e⟩:=hh k o hk;exact h1.live (g k) q b q1 (q2.symm.trans hb)
 ·rcases ht i with h|h
  ·have:=(h2 i).rl z0;rw[<-h] at this;exact this.Rm z0
  ·rw[h];exact .gC _
theorem cd.QK{s:S}(l:List (Nat×Nat×Ob))(t:Nat->V)(ht:∀i,(t i).rl z0=(s.t i).rl z0\/t i=.gC)(hn:(l.map (·.2.1)).Nodup)(ha:xG l s):cd s ⟨t,a8 (M1 l)⟩:=by
 refine cd.QJ (vF l) ht (λk o hk=>(lV l s k o ha hk).1) (λk k' o o' hk a e=>?_);obtain⟨_,p,hp,f,g⟩:=lV l s k o ha hk;obtain⟨_,h,b,c,d⟩:=lV l s k' o' ha a;have:=sk hn p hp h b (by rw[g,d,e]);rw[<-f,<-c,this]
theorem NF{bl k k' ka a:Nat}{d:SC}{ba:Option Nat}{n:Nat}:(eO bl (eM d (.own ka ba 3 n) .nil)).gy z0=(eO bl (eM d (.own a ba 3 n) .nil)).gy z0:=by
 rw[iA,iA];rfl
def rQ(l:List Nat):List (Nat×Nat):=l.map λk=>(k,k)
theorem rN:∀(l:List Nat),gD (rQ l)=λk=>k
 |[]=>rfl
 |a::l=>by
  funext k
  show(if k=a then a else gD (rQ l) k)=k;rw[rN l]
  split
  ·rename_i h;exact h.symm
  ·rfl
theorem tE:∀(l:List Nat),gP (rQ l)=λk=>k
 |[]=>rfl
 |a::l=>by
  funext k
  show(if k=a then a else gP (rQ l) k)=k;rw[tE l]
  split
  ·rename_i h;exact h.symm
  ·rfl
theorem V.SE(v:V):v.rl (λk=>k)=v:=by cases v<;>rfl
theorem BQ(l:List V):l.map (V.rl λk=>k)=l:=by
 induction l with
 |nil=>rfl
 |cons v l ih=>rw[aI,V.SE,ih]
theorem V.nE(v:V):v.gy (λk=>k)=v:=by
 cases v<;>try rfl
 case agg cs=>exact ay V.agg (BQ cs)
 case tup vs=>
  refine ay V.tup ?_
  induction vs with
  |nil=>rfl
  |cons v l ih=>
   rw[aI,ih]
   congr 1
   cases v<;>try rfl
   case agg cs=>exact ay V.agg (BQ cs)
theorem Ob.nE(o:Ob):o.gy (λk=>k)=o:=by
 cases o;unfold Ob.gy;simp only[Ob.mk.injEq,eH];rename_i rows
 induction rows with
 |nil=>rfl
 |cons r l ih=>rw[aI,BQ,ih]
theorem QL{h:Hp}{l:List Nat}(v:V):Arg h (rQ l) v v:=by
 have:=Arg.same (h:=h) (m:=rQ l) v;rw[tE,V.nE] at this;exact this
theorem gY{h:Hp}{l:List Nat}:∀vs:List V,lG h (rQ l) vs vs
 |[]=>.nil
 |v::vs=>.cons (QL v) (gY vs)
theorem tF:∀{ks:List Nat}{L:List (Nat×Ob)},L.map (·.1)=ks->mX (rQ ks) (λo=>o) L=L
 |[],[],_=>rfl
 |_::_,[],h=>by cases h
 |[],_::_,h=>by cases h
 |k::ks,(j,o)::L,h=>by
  simp only[aI,cy] at h;have:=tF h.2;unfold mX rQ at this⊢;rw[aI,cZ,this,h.1]
theorem xV(ks:List Nat):(rQ ks).map (·.1)=ks:=by
 unfold rQ;rw[eC];exact(bL λ_ _=>rfl).trans (List.map_id ks)
theorem Dt(ks:List Nat):(rQ ks).map (·.2)=ks:=by
 unfold rQ;rw[eC];exact(bL λ_ _=>rfl).trans (List.map_id ks)
theorem l7{P:Program}{f:Nat}{args a:List V}{L:List (Nat×Ob)}(ks:List Nat){post:V->List (Nat×Ob)->Prop}(hs:Spec P f a (a8 L) λv' h'=>∃L',post v' L'/\h'=a8 L'){h:Hp}{K:V->Hp->Prop}(ha:lG h (rQ ks) args a)
  (e:L.map (·.1)=ks)(b:ks.Nodup)(hne:ks≠[])(c:∀p∈L,h p.1=some p.2/\p.2.Fz)(d:∀v L',post v L'->L'.map (·.1)=ks)(hK:∀v L',post v L'->K v (h.jl L')):dF P f args h K:=by
 refine uH (rQ ks) hs ha (by rw[xV];exact b) (by rw[Dt];exact b) (by cases ks with|nil=>exact absurd rfl hne|cons _ _=>simp[rQ]) (λp hp=>?_) (λp hp=>?_) (λv L' hp=>by rw[xV];exact d v L' hp) (λv L' hp=>?_)
 ·have:p.1∈L.map (·.1):=aM.2 ⟨p,hp,rfl⟩;rw[e] at this;exact⟨(p.1,p.1),aM.2 ⟨p.1,this,rfl⟩,rfl⟩
 ·rw[rN,tE,(c p hp).1,aJ,Ob.nE];exact⟨rfl,(c p hp).2⟩
 ·rw[rN,V.nE];have:(Ob.gy λk=>k)=λo=>o:=funext Ob.nE;rw[this,tF (d v L' hp)];exact hK v L' hp
theorem wJ{h:Hp}{L:List (Nat×Ob)}(a:∀p∈L,h p.1=some p.2):h.jl L=h:=by
 funext i
 unfold Hp.jl;cases hl:a8 L i with
 |none=>rfl
 |some o=>exact(a _ (kf hl)).symm
theorem xW{P:Program}{f:Nat}{args a:List V}{L:List (Nat×Ob)}(ks:List Nat){v:V}(hs:Spec P f a (a8 L) λv' h'=>∃L',(v'=v/\L'=L)/\h'=a8 L'){h:Hp}{K:V->Hp->Prop}(ha:lG h (rQ ks) args a)
  (b:L.map (·.1)=ks)(d:ks.Nodup)(hne:ks≠[])(c:∀p∈L,h p.1=some p.2/\p.2.Fz)(hK:K v h):dF P f args h K:=
 l7 ks hs ha b d hne c (λv' L' hp=>by rw[hp.2];exact b) λv' L' hp=>by
  obtain⟨rfl,rfl⟩:=hp;rw[wJ λp hp=>(c p hp).1];exact hK
def SF:List Nat->Ah->Ah
 |[],r=>r
 |i::l,r=>.ex i (SF l r)
theorem Ai{P:Prim}(hP:P=cp){T a:cm}(d:jM T)(b:jM a)(c:List (Nat×Ah)){ac:AC}{s:S}{N:S->Prop}{X:Nat->S->Prop}{R:S->Prop}(hk:pP c ac=true)(h:vc P T a c ac s N X R):gE P T a ac s N X R:=by
 subst hP;exact ND d b c hk h
def nU(bl:Nat)(rows:List (List V))(a:Int):Ob:=⟨some bl,110,2,[[.sl false 1 rows,.int .i64 a]]⟩
theorem kO(bl:Nat)(ws:List BS)(a:Int):(nU bl (ca ws) a).Fz:=by
 intro r hr v hv;rw[ag.1 hr] at hv;simp only[ah,aq,aQ] at hv
 rcases hv with rfl|rfl
 ·exact .sl _ _ (p7 _)
 ·exact .int _ _
def kT(bl:Nat)(rows:List (List V))(a:Int):List (Nat×Ob):=[(950,nU bl rows a)]
theorem vd(bl:Nat)(ws:List BS)(a:Int):∀p∈kT bl (ca ws) a,p.2.Fz:=by
 intro p hp;rw[ag.1 hp];exact kO _ _ _
def Aj:AC:=qr [qo 2 (.mov (.c qe))] (qq (qq (.region true [qm 3 0,qn 4 3,qf 5 1 4,ql 6 5,qm 7 0,qn 8 7,qf 9 0 8,ql 10 9,qo 11 (.len false (.t 10)),qb 12 .eql 6 11]) (qu 12 (qR [qa 13 102 [qk 14]]) .skip)) (qr [qm 14 0,qn 15 14,qf 16 1 15,ql 17 16,qc 18 .add 17 1,qn 19 14,qf 20 1 19,qs 1 20 18] (qq (.region true [qm 21 0,qn 22 21,qf 23 0 22,ql 24 23,qm 25 0,qn 26 25,qf 27 1 26,ql 28 27,qc 29 .sub 28 1,qo 30 (.iaddr 1 (.t 24) (.t 29)),ql 31 30,qm 2 31]) .ret)))
theorem JW:fF Tryz.prog 140 Tryz.f140 Aj [.t 2] 1 dS:=⟨Tryz.func140,by decide+kernel,by kernel_rfl,by kernel_rfl,by decide+kernel⟩
theorem JX(P:Prim)(hP:P=cp)(T f:cm)(bl:Nat)(rows:List (List V))(n:Nat)(hn:n<=1000000)(hl:rows.length=n)(a:Nat)(ha:a<n)(av:Int)(b:av=(a:Int))(w:BS)(hw:rows[a]? =some [.str w])
  (R:S->Prop)(g:∀s s' e,e=((a+1:Nat):Int)->cd s s'->ia [.t 2] [.str w] s'->eP (kT bl rows e) s'->R s):gE P T f Aj (S0 [.ptr 950 (some bl) 2 0 0] (a8 (kT bl rows av))) R (λ_ _=>False) R:=by
 have r8:P.cF rows=(n:Int):=by rw[hX hP,hl]
 have h:P.eq av (P.cF rows)=false:=p9 hP (by rw[r8];omega);have q1:P.i64 (P.add av 1):=by rw[add_eq hP];exact fm hP qO
 have q2:P.add av 1=((a+1:Nat):Int):=by rw[add_eq hP,b];simp
 have d:P.sub (P.add av 1) 1=av:=by rw[sub_eq hP,add_eq hP];omega
 have i:P.i64 (P.sub (P.add av 1) 1):=by rw[d];exact fm hP qO
 have j:P.fK 0 (P.sub (P.add av 1) 1):=by rw[d];exact iJ hP qO
 have c:P.row rows (P.nat (P.sub (P.add av 1) 1)) [.str w]:=by rw[d];exact gz hP b hw
 cbv
 repeat'(first
  |(refine qA ?_;cbv)
  |(refine eB h ?_;cbv)
  |(refine⟨_,c,?_⟩;cbv)
  |fail)
 exact g _ _ _ q2 (cd.refl _) rfl ⟨rfl,trivial⟩
theorem JY(bl:Nat)(ws:List BS)(hn:ws.length<=1000000)(a:Nat)(w:BS)(hw:ws[a]? =some w):Spec Tryz.prog 140 [.ptr 950 (some bl) 2 0 0] (a8 (kT bl (ca ws) (a:Int))) λv h'=>∃L',(v=.str w/\L'=kT bl (ca ws) ((a+1:Nat):Int))/\h'=a8 L':=by
 refine dE hW JW (L:=kT bl (ca ws) (a:Int)) (λv L'=>v=.str w/\L'=kT bl (ca ws) ((a+1:Nat):Int)) λR b=>?_;have hlt:=(aj.1 hw).1;refine JX cp rfl _ _ bl (ca ws) ws.length hn (by rw[ca,aH]) a hlt _ rfl w (by rw[ca,aw,hw];rfl) R ?_;intro s s' c ha he hr hg;rw[ha] at hg;exact b s s' (.str w) _ he (da _ _ _ (λx hx=>by rw[hx];rfl) hr) hg (.str _) (vd _ _ _) ⟨rfl,rfl⟩
def xX(T:cm):Prop:=∀(bl:Nat)(rows:List (List V))(av:Int)(ws:List BS)(a:Nat)(w:BS)(h:Hp)(K:V->Hp->Prop),h 950=some (nU bl rows av)->rows=ca ws->ws.length<=1000000->av=(a:Int)->ws[a]? =some w->(∀b,b=((a+1:Nat):Int)->K (.str w) (h.jl (kT bl rows b)))->T 140 [.ptr 950 (some bl) 2 0 0] h K
theorem BR:xX (dF Tryz.prog):=by
 rintro bl rows av ws a w h K hh rfl hn rfl hw hK;refine l7 [950] (JY bl ws hn a w hw) (gY _) rfl qD qD (λp hp=>?_) ?_ ?_
 ·rw[ag.1 hp];exact⟨hh,kO _ _ _⟩
 ·rintro v L' ⟨rfl,rfl⟩;rfl
 ·rintro v L' ⟨rfl,rfl⟩;exact hK _ rfl
def Du:AC:=qr [qz 2 0] (qr [qm 3 0,qa 4 140 [.t 3],qa 5 139 [.t 4],qm 2 5] .ret)
theorem NG:fF Tryz.prog 84 Tryz.f84 Du [.t 2] 1 dS:=⟨Tryz.func84,by decide+kernel,by kernel_rfl,by kernel_rfl,by decide+kernel⟩
theorem NH(P:Prim)(hP:P=cp)(T f:cm)(b:xX T)(bl:Nat)(rows:List (List V))(av:Int)(ws:List BS)(a:Nat)(w:BS)(hr:rows=ca ws)(hn:ws.length<=1000000)(c:av=(a:Int))(hw:ws[a]? =some w)(x:Int)(hc:hJ T 139 [.str w] (qI x))
  (R:S->Prop)(g:∀s s' d,d=((a+1:Nat):Int)->cd s s'->ia [.t 2] [qI x] s'->eP (kT bl rows d) s'->R s):gE P T f Du (S0 [.ptr 950 (some bl) 2 0 0] (a8 (kT bl rows av))) R (λ_ _=>False) R:=by
 cbv;refine b bl rows av ws a w _ _ rfl hr hn c hw λd e=>?_;cbv;refine hc _ _ ?_;cbv;exact g _ _ _ e (cd.refl _) rfl ⟨rfl,trivial⟩
theorem NI(bl:Nat)(ws:List BS)(hn:ws.length<=1000000)(a:Nat)(u:Nat)(hu:u<1000000000)(hw:ws[a]? =some (Lib.itoa (u:Int))):Spec Tryz.prog 84 [.ptr 950 (some bl) 2 0 0] (a8 (kT bl (ca ws) (a:Int))) λv h'=>∃L',(v=qI (u:Int)/\L'=kT bl (ca ws) ((a+1:Nat):Int))/\h'=a8 L':=by
 refine dE hW NG (L:=kT bl (ca ws) (a:Int)) (λv L'=>v=qI (u:Int)/\L'=kT bl (ca ws) ((a+1:Nat):Int)) λR b=>?_;refine NH cp rfl _ _ BR bl (ca ws) _ ws a _ rfl hn rfl hw _ (gK (wG u hu) (λ_=>.cons (.same _) .nil) rfl) R ?_;intro s1 s2 c ha he hr hg;rw[ha] at hg;exact b s1 s2 (qI (u:Int)) _ he (da _ _ _ (λx hx=>by rw[hx];rfl) hr) hg (by constructor) (vd _ _ _) ⟨rfl,rfl⟩
def Ak:AC:=qr [qo 2 (.mov (.c qe))] (qr [qm 3 0,qa 4 140 [.t 3],qa 5 141 [.t 4],qm 2 5] .ret)
theorem JZ:fF Tryz.prog 90 Tryz.f90 Ak [.t 2] 1 dS:=⟨Tryz.func90,by decide+kernel,by kernel_rfl,by kernel_rfl,by decide+kernel⟩
theorem J0(P:Prim)(hP:P=cp)(T f:cm)(b:xX T)(bl:Nat)(rows:List (List V))(av:Int)(ws:List BS)(a:Nat)(w:BS)(hr:rows=ca ws)(hn:ws.length<=1000000)(c:av=(a:Int))(hw:ws[a]? =some w)(x:BS)(hc:hJ T 141 [.str w] (.str x))
  (R:S->Prop)(g:∀s s' d,d=((a+1:Nat):Int)->cd s s'->ia [.t 2] [.str x] s'->eP (kT bl rows d) s'->R s):gE P T f Ak (S0 [.ptr 950 (some bl) 2 0 0] (a8 (kT bl rows av))) R (λ_ _=>False) R:=by
 cbv;refine b bl rows av ws a w _ _ rfl hr hn c hw λd e=>?_;cbv;refine hc _ _ ?_;cbv;exact g _ _ _ e (cd.refl _) rfl ⟨rfl,trivial⟩
theorem J1(bl:Nat)(ws:List BS)(hn:ws.length<=1000000)(a:Nat)(s:BS)(hs:s.length<=1000000)(hw:ws[a]? =some (ga s)):Spec Tryz.prog 90 [.ptr 950 (some bl) 2 0 0] (a8 (kT bl (ca ws) (a:Int))) λv h'=>∃L',(v=.str s/\L'=kT bl (ca ws) ((a+1:Nat):Int))/\h'=a8 L':=by
 refine dE hW JZ (L:=kT bl (ca ws) (a:Int)) (λv L'=>v=.str s/\L'=kT bl (ca ws) ((a+1:Nat):Int)) λR b=>?_;refine J0 cp rfl _ _ BR bl (ca ws) _ ws a _ rfl hn rfl hw _ (gK (Ab s hs) (λ_=>.cons (.same _) .nil) rfl) R ?_;intro s1 s2 c ha he hr hg;rw[ha] at hg;exact b s1 s2 (.str s) _ he (da _ _ _ (λx hx=>by rw[hx];rfl) hr) hg (by constructor) (vd _ _ _) ⟨rfl,rfl⟩
def Dv(T:cm):Prop:=∀(bl:Nat)(rows:List (List V))(av:Int)(ws:List BS)(a u:Nat)(x:Int)(h:Hp)(K:V->Hp->Prop),h 950=some (nU bl rows av)->rows=ca ws->ws.length<=1000000->av=(a:Int)->u<1000000000->x=(u:Int)->ws[a]? =some (Lib.itoa (u:Int))->(∀b,b=((a+1:Nat):Int)->K (qI x) (h.jl (kT bl rows b)))->T 84 [.ptr 950 (some bl) 2 0 0] h K
theorem J2:Dv (dF Tryz.prog):=by
 rintro bl rows av ws a u x h K hh rfl hn rfl hu rfl hw hK;refine l7 [950] (NI bl ws hn a u hu hw) (gY _) rfl qD qD (λp hp=>?_) ?_ ?_
 ·rw[ag.1 hp];exact⟨hh,kO _ _ _⟩
 ·rintro v L' ⟨rfl,rfl⟩;rfl
 ·rintro v L' ⟨rfl,rfl⟩;exact hK _ rfl
def BU(T:cm):Prop:=∀(bl:Nat)(rows:List (List V))(av:Int)(ws:List BS)(a:Nat)(s:BS)(h:Hp)(K:V->Hp->Prop),h 950=some (nU bl rows av)->rows=ca ws->ws.length<=1000000->av=(a:Int)->s.length<=1000000->ws[a]? =some (ga s)->(∀b,b=((a+1:Nat):Int)->K (.str s) (h.jl (kT bl rows b)))->T 90 [.ptr 950 (some bl) 2 0 0] h K
theorem J3:BU (dF Tryz.prog):=by
 rintro bl rows av ws a s h K hh rfl hn rfl hs hw hK;refine l7 [950] (J1 bl ws hn a s hs hw) (gY _) rfl qD qD (λp hp=>?_) ?_ ?_
 ·rw[ag.1 hp];exact⟨hh,kO _ _ _⟩
 ·rintro v L' ⟨rfl,rfl⟩;rfl
 ·rintro v L' ⟨rfl,rfl⟩;exact hK _ rfl
def Dw:AC:=.seq (.region true [qm 2 0,qn 3 2,qf 4 1 3,ql 5 4,qm 6 0,qn 7 6,qf 8 0 7,ql 9 8,qo 10 (.len false (.t 9)),qb 11 .neq 5 10]) (qu 11 (qR [qa 12 102 [qk 14]]) .skip)
theorem NJ:fF Tryz.prog 49 Tryz.f49 Dw [] 1 dS:=⟨Tryz.func49,by decide+kernel,by kernel_rfl,by kernel_rfl,by decide+kernel⟩
theorem NK(P:Prim)(hP:P=cp)(T b:cm)(bl:Nat)(rows:List (List V))(av:Int)(a:av=(rows.length:Int))
  (R:S->Prop)(c:∀s s',cd s s'->ia [] [] s'->eP (kT bl rows av) s'->R s):gE P T b Dw (S0 [.ptr 950 (some bl) 2 0 0] (a8 (kT bl rows av))) R (λ_ _=>False) R:=by
 have d:P.ne av (P.cF rows)=false:=xm hP (by rw[hX hP,a]);cbv;refine eB d ?_;cbv;exact c _ _ (cd.refl _) rfl ⟨rfl,trivial⟩
theorem NL(bl:Nat)(ws:List BS):Spec Tryz.prog 49 [.ptr 950 (some bl) 2 0 0] (a8 (kT bl (ca ws) (ws.length:Int))) λv h'=>∃L',(v=.tup []/\L'=kT bl (ca ws) (ws.length:Int))/\h'=a8 L':=by
 refine dE hW NJ (L:=kT bl (ca ws) (ws.length:Int)) (λv L'=>v=.tup []/\L'=kT bl (ca ws) (ws.length:Int)) λR a=>?_;refine NK cp rfl _ _ bl (ca ws) _ (by rw[ca,aH]) R ?_;intro s s' he hr hg;exact a s s' (.tup []) _ he (da _ _ _ (λx hx=>by rw[hx];rfl) hr) hg (.tup _ (λv hv=>by cases hv)) (vd _ _ _) ⟨rfl,rfl⟩
def pw(p:Part):BS:=if p.kind=1 then 107::Lib.itoa p.n else if p.kind=3 then 99::Lib.itoa p.n else 112::ga p.text
def Pw(p:Part):Prop:=(∃u:Nat,(p.kind=1\/p.kind=3)/\p.n=(u:Int)/\u<1000000000/\p.text=[])\/(p.kind=2/\p.n=0/\p.text.length<=1000000)
structure W8(d:List Part)(a:Nat) where
 i:Nat
 av:Int
 b:Option Nat
 m:Nat
 rows:List (List V)
 hi:i<=d.length
 ha:av=((a+i:Nat):Int)
 hm:m=i
 hr:rows=(d.take i).map a7
def wK:AC:=qr [qo 2 (.mov (.c (.slice none 0 0)))] (qr [qo 3 (.mov (.c (.slice none 0 0)))] (qq (.block 0 (.loop (qq (qq (.region true [qm 5 0,qn 6 5,qf 7 1 6,ql 8 7,qm 9 0,qn 10 9,qf 11 0 10,ql 12 11,qo 13 (.len false (.t 12)),qb 14 .lss 8 13]) (qu 14 .skip (.exit 0))) (.block 1 (qr [qm 15 0,qa 16 140 [.t 15],qm 4 16] (qr [qm 17 4,qo 18 (.ixs (.t 17) (qk 0))] (.block 2 (qr [qo 21 (.bin .eql (.t 18) (.c (.int .u8 107))),qm 20 21] (qu 20 (qR [qm 22 3,qm 23 4,qo 24 (.slstr (.t 23) (some (qk 1)) none),qa 25 139 [.t 24],qo 26 (.build yb [(0,1,qk 1),(1,1,(.t 25))]),qo 27 (.bslice 41 3 [.t 26]),qo 28 (.append 41 3 32 (.t 22) (.t 27)),qm 3 28]) (qr [qo 30 (.bin .eql (.t 18) (.c (.int .u8 99))),qm 29 30] (qu 29 (qR [qm 31 3,qm 32 4,qo 33 (.slstr (.t 32) (some (qk 1)) none),qa 34 139 [.t 33],qo 35 (.build yb [(0,1,qk 3),(1,1,(.t 34))]),qo 36 (.bslice 41 3 [.t 35]),qo 37 (.append 41 3 32 (.t 31) (.t 36)),qm 3 37]) (qr [qo 39 (.bin .eql (.t 18) (.c (.int .u8 112))),qm 38 39] (qu 38 (qq (qr [qm 40 4,qo 41 (.len true (.t 40)),qc 42 .eql 41 1] (qu 42 (qR [qa 43 102 [qk 14]]) .skip)) (qR [qm 44 3,qm 45 4,qo 46 (.slstr (.t 45) (some (qk 1)) none),qa 47 141 [.t 46],qo 48 (.build yb [(0,1,qk 2),(2,1,(.t 47))]),qo 49 (.bslice 41 3 [.t 48]),qo 50 (.append 41 3 32 (.t 44) (.t 49)),qm 3 50])) (qR [qa 19 102 [qk 14]])))))))))))))) (qr [qm 51 3,qm 2 51] .ret)))
theorem Fj:fF Tryz.prog 85 Tryz.f85 wK [.t 2] 1 dS:=⟨Tryz.func85,by decide+kernel,by kernel_rfl,by kernel_rfl,by decide+kernel⟩
theorem Fk(P:Prim)(hP:P=cp)(T T1:cm)(f:xX T)(bl:Nat)(ws:List BS)(hn:ws.length<=1000000)(wr:List (List V))(hwr:wr=ca ws)(a:Nat)(D:Int)(E:D=(a:Int))(d:List Part)(hd:∀p∈d,Pw p)(F:ws.drop a=d.map pw)(hle:a<=ws.length)
  (G:∀(u:Nat)(t:BS)(x:Int),u<1000000000->t=Lib.itoa (u:Int)->x=(u:Int)->hJ T 139 [.str t] (qI x))(Y:∀s t:BS,s.length<=1000000->t=ga s->hJ T 141 [.str t] (.str s))
  (R:S->Prop)(hR:∀s s' av dr,av=(ws.length:Int)->dr=d.map a7->cd s s'->ia [.t 2] [.sl false 3 dr] s'->eP (kT bl wr av) s'->R s):gE P T T1 wK (S0 [.ptr 950 (some bl) 2 0 0] (a8 (kT bl wr D))) R (λ_ _=>False) R:=by
 have Z:wr.length=ws.length:=by rw[hwr,ca,aH]
 have r8:P.cF wr=(ws.length:Int):=by rw[hX hP,Z]
 have Yv:ws.length=a+d.length:=by
  have:=ay List.length F;rw[aP,aH] at this;omega
 cbv;refine⟨W8 d a,λy=>[(0,.ptr 950 (some bl) 2 0 0),(3,.own 1000003 y.b 3 y.m)],λy=>[(950,nU bl wr y.av),(1000003,⟨y.b,41,3,y.rows⟩)],λy=>d.length-y.i,⟨_,cd.nil (i:=3) (k:=1000003) (ty:=41) (sz:=3) rfl rfl,⟨0,D,none,0,[],bc _,E,rfl,rfl⟩,⟨rfl,rfl,trivial⟩,⟨rfl,rfl,trivial⟩⟩,?_⟩;rintro⟨i,av,b0,m,rows,hi,ha,hm,hr⟩;have hi:i<=d.length:=hi;have ha:av=((a+i:Nat):Int):=ha;have hm:m=i:=hm;have hr:rows=(d.take i).map a7:=hr;have H:rows.length=m:=by rw[hr,hm,aH,aE];omega
 cbv;refine a6 (λg=>?_) (λg=>?_)
 ·have g1:av<P.cF wr:=gM hP g;rw[r8] at g1;have A:i<d.length:=by((try simp only[nc] at*);omega)
  obtain⟨p,hp⟩:∃p,d[i]? =some p:=⟨_,af A⟩;have W9:=hd p (az hp);have hw:ws[a+i]? =some (pw p):=by
   have:(ws.drop a)[i]? =some (pw p):=by rw[F,aw,hp];rfl
   rw[bC] at this;exact this
  have I:∀r,r=a7 p->P.n4 rows [r]=(d.take (i+1)).map a7:=λr TU=>by
   subst hP;show rows++[r]=_;rw[TU,hr,bJ,hp,cj];rfl
  have hne:P.rW rows m:=by subst hP;exact H
  have J:∀r,P.rW [r] 1:=λr=>by subst hP;rfl
  have K:∀r,P.bytes (P.add (P.int m) (P.cF [r])) 32:=λr=>by subst hP;show((m:Int)+1)*32<=_;omega
  have pR:∀r,P.jg m (P.gH [r])=i+1:=λr=>by subst hP;show m+1=i+1;rw[hm]
  have C:∀(c:UInt8)(t:BS),P.gZ (c::t) 1 (P.b5 (c::t))=t:=λc t=>by
   subst hP;show((c::t).take (((c::t).length:Nat):Int).toNat).drop (1:Int).toNat=t;rw[aG,aN];rfl
  have q1:P.fK 0 1:=iJ hP qD;have q0:P.fK 0 0:=iJ hP qD;have q2:∀(c:UInt8)(t:BS),P.fK 1 (P.b5 (c::t)):=λc t=>by rw[cA hP];subst hP;show(1:Int)<=_;rw[ar];omega
  have W:∀(w:BS),P.fK (P.b5 w) (P.b5 w):=λw=>by subst hP;exact bn _
  have X:∀(c:UInt8)(t:BS),P.iq 0 (P.b5 (c::t)):=λc t=>by rw[cA hP];exact lk hP (by rw[ar];omega)
  have e:∀(c:UInt8)(t:BS),P.sat (c::t) 0=(c.toNat:Int):=λc t=>by subst hP;rfl
  clear g
  rcases W9 with⟨u,hk,hu,Xa,L⟩|⟨hk,hz,Vl⟩
  ·obtain⟨c,hc⟩:∃c:UInt8,c=if p.kind=1 then 107 else 99:=⟨_,rfl⟩;have l:pw p=c::Lib.itoa (u:Int):=by
    unfold pw
    rcases hk with hk|hk
    ·rw[ab hk,hc,ab hk,hu]
    ·rw[aa qW,ab hk,hc,aa qW,hu]
   obtain⟨t,ht⟩:∃t,t=Lib.itoa (u:Int):=⟨_,rfl⟩;rw[<-ht] at l;rw[l] at hw;obtain⟨x,hx⟩:∃x:Int,x=(u:Int):=⟨_,rfl⟩;have B:=G u (P.gZ (c::t) 1 (P.b5 (c::t))) x Xa ((C c t).trans ht) hx;have q2:=q2 c t;have W:=W (c::t);have X:=X c t;have e:=e c t;have n:[qI p.kind,qI x,.str []]=a7 p:=by unfold a7;rw[hx,hu,L]
   have o:=J [qI p.kind,qI x,.str []];have q:=K [qI p.kind,qI x,.str []];have h:=pR [qI p.kind,qI x,.str []];have j:=I _ n
   rcases hk with hk|hk
   ·have M:P.eq (P.sat (c::t) 0) 107=true:=p8 hP (by rw[e,hc,ab hk];rfl);rw[hk] at o q h j;cbv
    repeat'(first
     |(refine qA ?_;cbv)
     |fail)
    refine f bl wr av ws (a+i) (c::t) _ _ rfl hwr hn ha hw λN z=>?_;cbv
    repeat'(first
     |(refine qA ?_;cbv)
     |(intro O;cbv)
     |(refine gj M ?_;cbv)
     |(refine B _ _ ?_;cbv)
     |fail)
    exact⟨_,cd.refl _,⟨i+1,N,_,_,_,A,z,h,j⟩,⟨rfl,rfl,trivial⟩,⟨rfl,rfl,trivial⟩,by show d.length-(i+1)<d.length-i;omega⟩
   ·have Q:¬p.kind=1:=by omega
    have M:P.eq (P.sat (c::t) 0) 107=false:=p9 hP (by rw[e,hc,aa Q];decide);have z2:P.eq (P.sat (c::t) 0) 99=true:=p8 hP (by rw[e,hc,aa Q];rfl);rw[hk] at o q h j;cbv
    repeat'(first
     |(refine qA ?_;cbv)
     |fail)
    refine f bl wr av ws (a+i) (c::t) _ _ rfl hwr hn ha hw λN z=>?_;cbv
    repeat'(first
     |(refine qA ?_;cbv)
     |(intro O;cbv)
     |(refine eB M ?_;cbv)
     |(refine gj z2 ?_;cbv)
     |(refine B _ _ ?_;cbv)
     |fail)
    exact⟨_,cd.refl _,⟨i+1,N,_,_,_,A,z,h,j⟩,⟨rfl,rfl,trivial⟩,⟨rfl,rfl,trivial⟩,by show d.length-(i+1)<d.length-i;omega⟩
  ·obtain⟨t,ht⟩:∃t,t=ga p.text:=⟨_,rfl⟩;have l:pw p=112::t:=by unfold pw;rw[aa qW,aa qW,ht]
   obtain⟨c,hc⟩:∃c:UInt8,c=112:=⟨_,rfl⟩;rw[<-hc] at l;rw[l] at hw;obtain⟨s,hs⟩:∃s,s=p.text:=⟨_,rfl⟩;have B:=Y s (P.gZ (c::t) 1 (P.b5 (c::t))) (by rw[hs];exact Vl) ((C c t).trans (by rw[ht,hs]));have q2:=q2 c t;have W:=W (c::t);have X:=X c t;have e:=e c t;have n:[qI 2,qI 0,.str s]=a7 p:=by unfold a7;rw[hk,hz,hs]
   have o:=J [qI 2,qI 0,.str s];have q:=K [qI 2,qI 0,.str s];have h:=pR [qI 2,qI 0,.str s];have j:=I _ n;have M:P.eq (P.sat (c::t) 0) 107=false:=p9 hP (by rw[e,hc];decide);have z2:P.eq (P.sat (c::t) 0) 99=false:=p9 hP (by rw[e,hc];decide);have z3:P.eq (P.sat (c::t) 0) 112=true:=p8 hP (by rw[e,hc];rfl);have Yw:1<=t.length:=by
    rw[ht];have:=oW p.text;cases hh:ga p.text with
    |nil=>exact absurd hh this
    |cons _ _=>simp
   have z4:P.eq (P.b5 (c::t)) 1=false:=p9 hP (by rw[cA hP,ar];omega);cbv
   repeat'(first
    |(refine qA ?_;cbv)
    |fail)
   refine f bl wr av ws (a+i) (c::t) _ _ rfl hwr hn ha hw λN z=>?_;cbv
   repeat'(first
    |(refine qA ?_;cbv)
    |(intro O;cbv)
    |(refine eB M ?_;cbv)
    |(refine eB z2 ?_;cbv)
    |(refine gj z3 ?_;cbv)
    |(refine eB z4 ?_;cbv)
    |(refine B _ _ ?_;cbv)
    |fail)
   exact⟨_,cd.refl _,⟨i+1,N,_,_,_,A,z,h,j⟩,⟨rfl,rfl,trivial⟩,⟨rfl,rfl,trivial⟩,by show d.length-(i+1)<d.length-i;omega⟩
 ·have g1:¬av<P.cF wr:=gN hP g;rw[r8] at g1;have hin:i=d.length:=by((try simp only[nc] at*);omega)
  have U:rows=d.map a7:=by rw[hr,hin,aN]
  clear g;cbv;exact hR _ _ av rows qO U (cd.yY (i:=2) (k:=1000003) (sz:=3) rfl rfl rfl rfl H (by show∀r∈rows,∀v∈r,Fz v;rw[U];exact fL _)) rfl ⟨rfl,trivial⟩
theorem Fl(bl:Nat)(ws:List BS)(hn:ws.length<=1000000)(a:Nat)(hle:a<=ws.length)(d:List Part)(hd:∀p∈d,Pw p)(b:ws.drop a=d.map pw):Spec Tryz.prog 85 [.ptr 950 (some bl) 2 0 0] (a8 (kT bl (ca ws) (a:Int))) λv h'=>∃L',(v=.sl false 3 (d.map a7)/\L'=kT bl (ca ws) (ws.length:Int))/\h'=a8 L':=by
 refine dE hW Fj (L:=kT bl (ca ws) (a:Int)) (λv L'=>v=.sl false 3 (d.map a7)/\L'=kT bl (ca ws) (ws.length:Int)) λR e=>?_;refine Fk cp rfl _ _ BR bl ws hn _ rfl a _ rfl d hd b hle (λu t x hu ht hx=>by subst ht hx;exact gK (wG u hu) (λ_=>.cons (.same _) .nil) rfl) (λs t hs ht=>by subst ht;exact gK (Ab s hs) (λ_=>.cons (.same _) .nil) rfl) R ?_;intro s s' av f ha c he hr hg;rw[ha] at hg;subst c;exact e s s' (.sl false 3 (d.map a7)) _ he (da _ _ _ (λx hx=>by rw[hx];rfl) hr) hg (.sl _ _ (fL _)) (vd _ _ _) ⟨rfl,rfl⟩
def Dx(T:cm):Prop:=∀(bl:Nat)(rows:List (List V))(av:Int)(ws:List BS)(a:Nat)(d:List Part)(h:Hp)(K:V->Hp->Prop),h 950=some (nU bl rows av)->rows=ca ws->ws.length<=1000000->av=(a:Int)->a<=ws.length->(∀p∈d,Pw p)->ws.drop a=d.map pw->(∀b c,b=(ws.length:Int)->c=d.map a7->K (.sl false 3 c) (h.jl (kT bl rows b)))->T 85 [.ptr 950 (some bl) 2 0 0] h K
theorem NM:Dx (dF Tryz.prog):=by
 rintro bl rows av ws a d h K hh rfl hn rfl hle hd b hK;refine l7 [950] (Fl bl ws hn a hle d hd b) (gY _) rfl qD qD (λp hp=>?_) ?_ ?_
 ·rw[ag.1 hp];exact⟨hh,kO _ _ _⟩
 ·rintro v L' ⟨rfl,rfl⟩;rfl
 ·rintro v L' ⟨rfl,rfl⟩;exact hK _ _ rfl rfl
def Al:AC:=qr [qm 2 0,qc 3 .neq 2 0] (qu 3 (qR [qm 4 0,qa 5 102 [.t 4]]) .skip)
theorem J4:fF Tryz.prog 92 Tryz.f92 Al [] 1 dS:=⟨Tryz.func92,by decide+kernel,by kernel_rfl,by kernel_rfl,by decide+kernel⟩
theorem J5(P:Prim)(hP:P=cp)(T a:cm)(R:S->Prop)(b:∀s s',cd s s'->ia [] [] s'->R s):gE P T a Al (S0 [qI 0] Hp.emp) R (λ_ _=>False) R:=by
 have c:P.ne 0 0=false:=xm hP rfl;cbv;refine eB c ?_;cbv;exact b _ _ (cd.refl _) rfl
theorem o0:Spec Tryz.prog 92 [.int .i64 0] Hp.emp (Is (.tup [])):=
 ed hW J4 [] (.tup _ (λv hv=>by cases hv)) λR a=>J5 cp rfl _ _ R λs s' he hr=>a s s' he hr
def nh(n:Int):BS:=[111,107,32]++Lib.itoa n
def J6:AC:=qr [qo 2 (.mov (.c qe))] (qr [qm 3 0,qa 4 47 [.t 3],⟨some 5,none,.bin .add (.c (.string ⟨#[111,107,32]⟩)) (.t 4)⟩,qm 2 5] .ret)
theorem QM:fF Tryz.prog 93 Tryz.f93 J6 [.t 2] 1 dS:=⟨Tryz.func93,by decide+kernel,by kernel_rfl,by kernel_rfl,by decide+kernel⟩
theorem QN(P:Prim)(hP:P=cp)(T a:cm)(n:Int)(x:BS)(hx:x.length<=1000)(hc:hJ T 47 [qI n] (.str x))(R:S->Prop)(b:∀s s' t,t=[111,107,32]++x->cd s s'->ia [.t 2] [.str t] s'->R s):gE P T a J6 (S0 [qI n] Hp.emp) R (λ_ _=>False) R:=by
 have q1:P.i64 (P.add (P.b5 [111,107,32]) (P.b5 x)):=by rw[add_eq hP,cA hP,cA hP,show([111,107,32]:BS).length=3 from rfl];exact fm hP qO
 cbv;refine hc _ _ ?_;cbv
 repeat'(first
  |(refine qA ?_;cbv)
  |fail)
 exact b _ _ _ (gv hP _ _) (cd.refl _) rfl
theorem xY(u:Nat)(hu:u<9223372036854775808):Spec Tryz.prog 93 [.int .i64 (u:Int)] Hp.emp (Is (.str (nh (u:Int)))):=
 ed hW QM [.str (nh (u:Int))] (.str _) λR a=>QN cp rfl _ _ (u:Int) _ (aV (lf u hu) qD) (gK (Dj (u:Int) ⟨qW,qW⟩) (λ_=>.cons (.same _) .nil) rfl) R λs s' t h he hr=>by subst h;exact a s s' he hr
def l8(p:Part):Int:=if p.kind=1 then 0 else p.n+(p.text.length:Int)
def gr:List Part->Int
 |[]=>0
 |p::d=>l8 p+gr d
theorem sX(d:List Part)(p:Part):gr (d++[p])=gr d+l8 p:=by
 induction d with
 |nil=>simp[gr]
 |cons q d ih=>rw[aD,gr,gr,ih];omega
def NN(p:Part):Prop:=0<=p.n/\p.n<=1000000000/\p.text.length<=1000000
theorem ni(d:List Part)(h:∀p∈d,NN p):0<=gr d/\gr d<=1001000000*(d.length:Int):=by
 induction d with
 |nil=>simp[gr]
 |cons p d ih=>
  have h1:=ih λq hq=>h q (aY _ hq);obtain⟨h2,h3,h4⟩:=h p aR;have h5:0<=l8 p/\l8 p<=1001000000:=by unfold l8;split<;>omega
  rw[gr,ar];omega
structure Vp(d:List Part) where
 i:Nat
 k:Int
 c:Int
 hi:i<=d.length
 hk:k=(i:Int)
 hc:c=gr (d.take i)
def Am:AC:=qr [qz 2 0] (qr [qz 3 0] (qq (qr [qm 6 0,qo 7 (.len false (.t 6)),qz 8 0] (.block 0 (.loop (qr [qb 9 .lss 8 7] (qq (qu 9 .skip (.exit 0)) (qq (.block 1 (qr [qo 10 (.iaddr 3 (.t 6) (.t 8)),qd 11 3 10,qo 5 (.alloc 41 yb),qs 3 5 11] (qr [qf 12 0 5,ql 13 12,qc 14 .neq 13 1] (qu 14 (qR [qm 15 3,qf 16 1 5,ql 17 16,qf 18 2 5,ql 19 18,qo 20 (.len true (.t 19)),qb 21 .add 17 20,qb 22 .add 15 21,qm 3 22]) .skip)))) (qR [qc 23 .add 8 1,qm 8 23]))))))) (qr [qm 24 3,qm 2 24] .ret)))
theorem J7:fF Tryz.prog 94 Tryz.f94 Am [.t 2] 1 dS:=⟨Tryz.func94,by decide+kernel,by kernel_rfl,by kernel_rfl,by decide+kernel⟩
theorem J8(P:Prim)(hP:P=cp)(T o:cm)(d:List Part)(hd:∀p∈d,NN p)(q:d.length<=1000000)(rows:List (List V))(hr:rows=d.map a7)(R:S->Prop)(r:∀s s' x,x=gr d->cd s s'->ia [.t 2] [qI x] s'->R s):gE P T o Am (S0 [.sl true 3 rows] Hp.emp) R (λ_ _=>False) R:=by
 have hl:P.cF rows=(d.length:Int):=by rw[hX hP,hr,aH]
 cbv;refine⟨Vp d,λy=>[(3,qI y.c),(6,.sl true 3 rows),(7,qI (P.cF rows)),(8,qI y.k)],λ_=>[],λy=>d.length-y.i,⟨_,cd.refl _,⟨0,0,0,bc _,rfl,rfl⟩,⟨rfl,rfl,rfl,rfl,trivial⟩,trivial⟩,?_⟩;rintro⟨i,k,c,hi,hk,hc⟩;have hi:i<=d.length:=hi;have hk:k=(i:Int):=hk;have hc:c=gr (d.take i):=hc;have hb:=ni (d.take i) λp hp=>hd p (cM hp);rw[<-hc,aE] at hb;cbv;refine a6 (λg=>?_) (λg=>?_)
 ·have g1:k<P.cF rows:=gM hP g;rw[hl] at g1;have a:i<d.length:=by((try simp only[nc] at*);omega)
  obtain⟨p,hp⟩:∃p,d[i]? =some p:=⟨_,af a⟩;have l:=hd p (az hp);have hn:gr (d.take (i+1))=c+l8 p:=by rw[bJ,hp,Option.toList_some,sX,hc]
  obtain⟨f,b,e⟩:=p;obtain⟨h2,h3,h4⟩:=l;simp only at h2 h3 h4;have j:P.row rows (P.nat k) [qI f,qI b,.str e]:=gz hP hk (by rw[hr,aw,hp];rfl);have q1:P.fK 0 k:=iJ hP qO;have z:P.i64 (P.add k 1):=by rw[add_eq hP];exact fm hP qO
  have n:P.add k 1=((i+1:Nat):Int):=by rw[add_eq hP,hk];simp
  have m:P.add b (P.b5 e)=b+(e.length:Int):=by rw[add_eq hP,cA hP]
  have A:P.i64 (P.add b (P.b5 e)):=by rw[m];exact fm hP qO
  have B:P.i64 (P.add c (P.add b (P.b5 e))):=by rw[m,add_eq hP];exact fm hP qO
  have u:¬f=1->P.add c (P.add b (P.b5 e))=gr (d.take (i+1)):=λh=>by rw[hn,m,add_eq hP];unfold l8;rw[aa h]
  have v:f=1->c=gr (d.take (i+1)):=λh=>by rw[hn];unfold l8;rw[ab h];omega
  clear g;cbv
  repeat'(first
   |(refine qA ?_;cbv)
   |(intro w;cbv)
   |(refine⟨_,j,?_⟩;cbv)
   |fail)
  refine a6 (λg=>?_) (λg=>?_)
  ·have g2:¬f=1:=iG hP g;cbv
   repeat'(first
    |(refine qA ?_;cbv)
    |fail)
   exact⟨_,cd.refl _,⟨i+1,_,_,a,n,u g2⟩,⟨rfl,rfl,rfl,rfl,trivial⟩,trivial,by show d.length-(i+1)<d.length-i;omega⟩
  ·have g2:f=1:=iy hP g;cbv
   repeat'(first
    |(refine qA ?_;cbv)
    |fail)
   exact⟨_,cd.refl _,⟨i+1,_,_,a,n,v g2⟩,⟨rfl,rfl,rfl,rfl,trivial⟩,trivial,by show d.length-(i+1)<d.length-i;omega⟩
 ·have g1:¬k<P.cF rows:=gN hP g;rw[hl] at g1;have hin:i=d.length:=by((try simp only[nc] at*);omega)
  cbv;exact r _ _ c (by rw[hc,hin,aN]) (cd.refl _) rfl
theorem J9(d:List Part)(hd:∀p∈d,NN p)(a:d.length<=1000000):Spec Tryz.prog 94 [.sl true 3 (d.map a7)] Hp.emp (Is (.int .i64 (gr d))):=
 ed hW J7 [.int .i64 (gr d)] (.int _ _) λR b=>J8 cp rfl _ _ d hd a _ rfl R λs s' x h he hr=>by subst h;exact b s s' he hr
def An:AC:=qr [qz 2 0] (qr [qz 3 0] (qq (qr [qm 6 0,qo 7 (.len false (.t 6)),qz 8 0] (.block 0 (.loop (qr [qb 9 .lss 8 7] (qq (qu 9 .skip (.exit 0)) (qq (.block 1 (qr [qo 10 (.iaddr 3 (.t 6) (.t 8)),qd 11 3 10,qo 5 (.alloc 41 yb),qs 3 5 11] (qr [qf 12 0 5,ql 13 12,qc 14 .neq 13 1] (qu 14 (qR [qm 15 3,qf 16 1 5,ql 17 16,qf 18 2 5,ql 19 18,qo 20 (.len true (.t 19)),qb 21 .add 17 20,qb 22 .add 15 21,qm 3 22]) .skip)))) (qR [qc 23 .add 8 1,qm 8 23]))))))) (qr [qm 24 3,qm 2 24] .ret)))
theorem Ka:fF Tryz.prog 14 Tryz.f14 An [.t 2] 1 dS:=⟨Tryz.func14,by decide+kernel,by kernel_rfl,by kernel_rfl,by decide+kernel⟩
theorem Kb(P:Prim)(hP:P=cp)(T o:cm)(d:List Part)(hd:∀p∈d,NN p)(q:d.length<=1000000)(rows:List (List V))(hr:rows=d.map a7)(R:S->Prop)(r:∀s s' x,x=gr d->cd s s'->ia [.t 2] [qI x] s'->R s):gE P T o An (S0 [.sl true 3 rows] Hp.emp) R (λ_ _=>False) R:=by
 have hl:P.cF rows=(d.length:Int):=by rw[hX hP,hr,aH]
 cbv;refine⟨Vp d,λy=>[(3,qI y.c),(6,.sl true 3 rows),(7,qI (P.cF rows)),(8,qI y.k)],λ_=>[],λy=>d.length-y.i,⟨_,cd.refl _,⟨0,0,0,bc _,rfl,rfl⟩,⟨rfl,rfl,rfl,rfl,trivial⟩,trivial⟩,?_⟩;rintro⟨i,k,c,hi,hk,hc⟩;have hi:i<=d.length:=hi;have hk:k=(i:Int):=hk;have hc:c=gr (d.take i):=hc;have hb:=ni (d.take i) λp hp=>hd p (cM hp);rw[<-hc,aE] at hb;cbv;refine a6 (λg=>?_) (λg=>?_)
 ·have g1:k<P.cF rows:=gM hP g;rw[hl] at g1;have a:i<d.length:=by((try simp only[nc] at*);omega)
  obtain⟨p,hp⟩:∃p,d[i]? =some p:=⟨_,af a⟩;have l:=hd p (az hp);have hn:gr (d.take (i+1))=c+l8 p:=by rw[bJ,hp,Option.toList_some,sX,hc]
  obtain⟨f,b,e⟩:=p;obtain⟨h2,h3,h4⟩:=l;simp only at h2 h3 h4;have j:P.row rows (P.nat k) [qI f,qI b,.str e]:=gz hP hk (by rw[hr,aw,hp];rfl);have q1:P.fK 0 k:=iJ hP qO;have z:P.i64 (P.add k 1):=by rw[add_eq hP];exact fm hP qO
  have n:P.add k 1=((i+1:Nat):Int):=by rw[add_eq hP,hk];simp
  have m:P.add b (P.b5 e)=b+(e.length:Int):=by rw[add_eq hP,cA hP]
  have A:P.i64 (P.add b (P.b5 e)):=by rw[m];exact fm hP qO
  have B:P.i64 (P.add c (P.add b (P.b5 e))):=by rw[m,add_eq hP];exact fm hP qO
  have u:¬f=1->P.add c (P.add b (P.b5 e))=gr (d.take (i+1)):=λh=>by rw[hn,m,add_eq hP];unfold l8;rw[aa h]
  have v:f=1->c=gr (d.take (i+1)):=λh=>by rw[hn];unfold l8;rw[ab h];omega
  clear g;cbv
  repeat'(first
   |(refine qA ?_;cbv)
   |(intro w;cbv)
   |(refine⟨_,j,?_⟩;cbv)
   |fail)
  refine a6 (λg=>?_) (λg=>?_)
  ·have g2:¬f=1:=iG hP g;cbv
   repeat'(first
    |(refine qA ?_;cbv)
    |fail)
   exact⟨_,cd.refl _,⟨i+1,_,_,a,n,u g2⟩,⟨rfl,rfl,rfl,rfl,trivial⟩,trivial,by show d.length-(i+1)<d.length-i;omega⟩
  ·have g2:f=1:=iy hP g;cbv
   repeat'(first
    |(refine qA ?_;cbv)
    |fail)
   exact⟨_,cd.refl _,⟨i+1,_,_,a,n,v g2⟩,⟨rfl,rfl,rfl,rfl,trivial⟩,trivial,by show d.length-(i+1)<d.length-i;omega⟩
 ·have g1:¬k<P.cF rows:=gN hP g;rw[hl] at g1;have hin:i=d.length:=by((try simp only[nc] at*);omega)
  cbv;exact r _ _ c (by rw[hc,hin,aN]) (cd.refl _) rfl
theorem Kc(d:List Part)(hd:∀p∈d,NN p)(a:d.length<=1000000):Spec Tryz.prog 14 [.sl true 3 (d.map a7)] Hp.emp (Is (.int .i64 (gr d))):=
 ed hW Ka [.int .i64 (gr d)] (.int _ _) λR b=>Kb cp rfl _ _ d hd a _ rfl R λs s' x h he hr=>by subst h;exact b s s' he hr
def Ao:AC:=qr [qo 2 (.mov (.c (.slice none 0 0)))] (qr [qm 6 0,qa 7 199 [.t 6],qm 5 7,qx 8 0 5,qx 9 1 5,qm 3 8,qm 4 9] (qr [qm 10 4,qa 11 92 [.t 10]] (qr [qm 12 3,qm 2 12] .ret)))
theorem Kd:fF Tryz.prog 142 Tryz.f142 Ao [.t 2] 1 dS:=⟨Tryz.func142,by decide+kernel,by kernel_rfl,by kernel_rfl,by decide+kernel⟩
theorem Ke(P:Prim)(hP:P=cp)(T b:cm)(rows a:List (List V))(hn:hJ T 199 [.sl true 3 rows] (.tup [.sl false 3 a,qI 0]))(hm:hJ T 92 [qI 0] (.tup []))(R:S->Prop)(c:∀s s',cd s s'->ia [.t 2] [.sl false 3 a] s'->R s):gE P T b Ao (S0 [.sl true 3 rows] Hp.emp) R (λ_ _=>False) R:=by
 cbv;refine hn _ _ ?_;cbv
 repeat'(first
  |(refine qA ?_;cbv)
  |fail)
 refine hm _ _ ?_;cbv;exact c _ _ (cd.refl _) rfl
theorem Kf(l:List Part)(hl:l.length<=maxLen)(hz:(fZ l).2=0):Spec Tryz.prog 142 [.sl true 3 (l.map a7)] Hp.emp (Is (gI (fZ l).1)):=
 ed hW Kd [gI (fZ l).1] (.sl _ _ (fL _)) λR a=>Ke cp rfl _ _ _ _ (gK (by have:=LR l hl;rw[hz] at this;exact this) (λ_=>.cons (.same _) .nil) rfl) (gK o0 (λ_=>.cons (.same _) .nil) rfl) R λs s' he hr=>a s s' he hr
end Go.Proofs.YtajdadcdcpnedaaGreatDoor.AM
