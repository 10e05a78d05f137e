/-
  Part 18 of what the law TopDesk reaches: the plain machine, contracts of the functions and plain laws; each lemma says its own condition.
-/
import Derived.Test.YtajdadcdcpnedaaGreatDoorTopDesk17
import Derived.Test.YtajdadcdcpnedaaGreatDoorTopDesk15
import Derived.Test.YtajdadcdcpnedaaGreatDoorTopDesk13
import Derived.Test.YtajdadcdcpnedaaGreatDoorTopDesk12
import Derived.Test.YtajdadcdcpnedaaGreatDoorTopDesk14
import Derived.Test.YtajdadcdcpnedaaGreatDoorTopDesk5
import Derived.Defers
import Derived.Recover
set_option linter.unusedVariables false
set_option linter.unusedSimpArgs false
namespace Go.Proofs.YtajdadcdcpnedaaGreatDoor.AM
open Go Go.RowKit
set_option maxRecDepth 100000
set_option maxHeartbeats 2000000
theorem cd.SK{s:S}{h':Hp}(hh:iY s.h h'):cd s ⟨s.t,h'⟩:=by
 intro C n a w hC hs;obtain⟨F,h1,h2⟩:=hs.ex;obtain⟨F',h3,h4⟩:=hh C F w hC h1;exact⟨⟨F',h4,λi=>(h2 i).mono h3 (λb hb=>.inr hb)⟩,hs.df,hs.sz⟩
theorem cd.bl{s:S}{i b:Nat}(hi:s.t i=.ptr i (some b) 2 0 0)(hk:s.h i=some ⟨some b,55,2,[[.nil,.nilsl]]⟩):cd s ⟨jh s.t i (.ptr 960 (some b) 2 0 0),a8 (FG b .nil none 0 [])⟩:=by
 refine(cd.QK [(960,i,⟨some b,55,2,[[.nil,.nilsl]]⟩)] (jh s.t i (.ptr 960 (some b) 2 0 0)) (λj=>?_) (by simp) ⟨⟨_,hk,rfl,rfl⟩,trivial⟩).trans ((cd.SK (iY.kQ (k:=960) (k':=1000960) (ty:=5) (sz:=1) (r:=0) (c:=1) (o:=⟨some b,55,2,[[.nil,.nilsl]]⟩) (row:=[.nil,.nilsl]) rfl rfl rfl rfl)).trans (cd.of (λ_=>.inl rfl) λk o hk=>?_))
 ·left
  unfold jh
  by_cases h:j=i
  ·subst h;rw[ab rfl,hi];rfl
  ·rw[aa h]
 ·exact n6 (l:=FG b .nil none 0 []) ⟨rfl,rfl,trivial⟩ k o hk
structure Xc(s:BS)(b:Nat) where
 i:Nat
 k:Int
 p:V
 β:Option Nat
 n:Nat
 rows:List (List V)
 hi:i<=s.length
 hk:k=(i:Int)
 hp:x9 b p
 hn:n=((s.take i).flatMap eR).length
 hr:rows=rJ ((s.take i).flatMap eR)
theorem SL:∀n:Fin 256,cp.shr (n.1:Int) 4=((n.1/16:Nat):Int)/\cp.tY .u8 (n.1:Int) 15=((n.1%16:Nat):Int):=by decide+kernel
theorem Of:∀n:Fin 16,cp.wrap .u8 (cp.add (n.1:Int) 1)=((n.1+1:Nat):Int)/\cp.gZ [48,49,50,51,52,53,54,55,56,57,97,98,99,100,101,102] (n.1:Int) ((n.1+1:Nat):Int)=[jX n.1]:=by decide+kernel
def As:AC:=qr [qo 2 (.mov (.c qe))] (qq (qr [qm 6 0,qo 7 (.bin .eql (.t 6) (.c qe))] (qu 7 (qr [⟨some 2,none,.mov (.c (.string ⟨#[95]⟩))⟩] .ret) .skip)) (qr [qo 3 (.alloc 55 [(.pointer none),(.slice none 0 0)])] (qq (qr [qm 8 0,qo 9 (.len true (.t 8)),qz 10 0] (.block 0 (.loop (qr [qb 11 .lss 10 9] (qq (qu 11 .skip (.exit 0)) (qq (.block 1 (qr [qm 12 10,qm 4 12] (qr [qm 13 0,qm 14 4,qo 15 (.ixs (.t 13) (.t 14)),qm 5 15] (.block 2 (qr [qm 32 5,qo 33 (.bin .eql (.t 32) (.c (.int .u8 32))),qm 31 33] (qu 31 (qR [qa 34 18 [.t 3,(.c (.string ⟨#[92,115]⟩))]]) (qr [qm 36 5,qo 37 (.bin .eql (.t 36) (.c (.int .u8 92))),qm 38 37,qg 39 38 false (.mov (.t 5)),qg 40 38 false (.bin .eql (.t 39) (.c (.int .u8 95))),qo 41 (.pick (.t 38) (.c (.bool true)) (.t 40)),qm 35 41] (qu 35 (qR [qm 42 0,qm 43 4,qm 44 4,qc 45 .add 44 1,qo 46 (.slstr (.t 42) (some (.t 43)) (some (.t 45))),⟨some 47,none,.bin .add (.c (.string ⟨#[92]⟩)) (.t 46)⟩,qa 48 18 [.t 3,.t 47]]) (qr [qm 50 5,qo 51 (.bin .gtr (.t 50) (.c (.int .u8 32))),qm 52 51,qg 53 52 true (.mov (.t 5)),qg 54 52 true (.bin .lss (.t 53) (.c (.int .u8 127))),qo 55 (.pick (.t 52) (.t 54) (.c (.bool false))),qm 49 55] (qu 49 (qR [qm 56 5,qa 57 20 [.t 3,.t 56]]) (qq (.region true [qm 16 5,qo 17 (.bin .shr (.t 16) (.c (.int .u64 4))),qm 18 5,qo 19 (.bin .shr (.t 18) (.c (.int .u64 4))),qo 20 (.bin .add (.t 19) (.c (.int .u8 1))),⟨some 21,none,.slstr (.c (.string ⟨#[48,49,50,51,52,53,54,55,56,57,97,98,99,100,101,102]⟩)) (some (.t 17)) (some (.t 20))⟩,⟨some 22,none,.bin .add (.c (.string ⟨#[92,120]⟩)) (.t 21)⟩,qm 23 5,qo 24 (.bin .and (.t 23) (.c (.int .u8 15))),qm 25 5,qo 26 (.bin .and (.t 25) (.c (.int .u8 15))),qo 27 (.bin .add (.t 26) (.c (.int .u8 1))),⟨some 28,none,.slstr (.c (.string ⟨#[48,49,50,51,52,53,54,55,56,57,97,98,99,100,101,102]⟩)) (some (.t 24)) (some (.t 27))⟩,qb 29 .add 22 28]) (qR [qa 30 18 [.t 3,.t 29]])))))))))))) (qR [qc 58 .add 10 1,qm 10 58]))))))) (qr [qa 59 21 [.t 3],qm 2 59] .ret))))
theorem KC:fF Tryz.prog 150 Tryz.f150 As [.t 2] 1 dS:=⟨Tryz.func150,by decide+kernel,by kernel_rfl,by kernel_rfl,by decide+kernel⟩
theorem KD(P:Prim)(hP:P=cp)(T Q:cm)(hw:Uz T)(E:UA T)(F:UB T)(s:BS)(hs:s.length<=1000000)
  (R:S->Prop)(N:∀s1 s2 t,t=ga s->cd s1 s2->ia [.t 2] [.str t] s2->R s1):gE P T Q As (S0 [.str s] Hp.emp) R (λ_ _=>False) R:=by
 have hl:P.b5 s=(s.length:Int):=cA hP s;cbv;refine a6 (λg=>?_) (λg=>?_)
 ·have g1:s=[]:=ON hP g;cbv;exact N _ _ _ (by rw[g1];rfl) (cd.refl _) rfl
 have g0:¬s=[]:=GP hP g;clear g;cbv
 repeat'(first
  |(refine qA ?_;cbv)
  |fail)
 intro b;cbv;refine⟨Xc s b,λy=>[(0,.str s),(3,.ptr 960 (some b) 2 0 0),(9,qI (P.b5 s)),(10,qI y.k)],λy=>FG b y.p y.β y.n y.rows,λy=>s.length-y.i,⟨_,cd.bl (i:=3) (b:=b) rfl rfl,⟨0,0,.nil,none,0,[],bc _,rfl,.inl rfl,rfl,rfl⟩,⟨rfl,rfl,rfl,rfl,trivial⟩,⟨rfl,rfl,trivial⟩⟩,?_⟩;rintro⟨i,k,p,β,n,rows,hi,hk,hp,hn,hr⟩;have hk:k=(i:Int):=hk;have hi:i<=s.length:=hi;have hp:x9 b p:=hp;have hn:n=((s.take i).flatMap eR).length:=hn;have hr:rows=rJ ((s.take i).flatMap eR):=hr;have K5:((s.take i).flatMap eR).length<=4*s.length:=by
  have:=(ng (s.take i)).2;rw[aE] at this;omega
 cbv;refine a6 (λg=>?_) (λg=>?_)
 ·have g1:k<P.b5 s:=gM hP g;rw[hl] at g1;have h:i<s.length:=by((try simp only[nc] at*);omega)
  have q1:P.fK 0 k:=iJ hP qO;have q2:P.iq k (P.b5 s):=lk hP (by rw[hl];exact g1);have q3:P.i64 (P.add k 1):=by rw[add_eq hP];exact fm hP qO
  have u:P.add k 1=((i+1:Nat):Int):=by rw[add_eq hP,hk];simp
  have q5:P.fK k (P.add k 1):=by subst hP;show k<=k+1;omega
  have q6:P.fK (P.add k 1) (P.b5 s):=by rw[u,hl];subst hP;exact Int.ofNat_le.2 h
  obtain⟨x,hx⟩:∃x,s[i]? =some x:=⟨_,af h⟩;have G:s.getD i 0=x:=by rw[au,hx];rfl
  have hbl:=x.toNat_lt;have c3:P.sat s k=(x.toNat:Int):=by rw[hk,BP hP,G]
  have r:P.gZ s k (P.add k 1)=[x]:=by
   rw[u,hk];subst hP;show(s.take (((i+1:Nat):Int)).toNat).drop ((i:Int)).toNat=[x];rw[aG,aG,bJ,hx,bV (by rw[aE];omega),dO (by rw[aE];omega)];rfl
  have H:s.take (i+1)=s.take i++[x]:=by rw[bJ,hx];rfl
  have I:(s.take (i+1)).flatMap eR=(s.take i).flatMap eR++eR x:=by rw[H,cD];simp
  have j:∀(y:BS)(n':Nat)(rows':List (List V)),eR x=y->n'=((s.take i).flatMap eR++y).length->rows'=rJ ((s.take i).flatMap eR++y)->n'=((s.take (i+1)).flatMap eR).length/\rows'=rJ ((s.take (i+1)).flatMap eR):=λy n' rows' h1 h2 h3=>by rw[I,h1];exact⟨h2,h3⟩
  have w:∀x y:BS,x.length<=4->y.length<=4->P.i64 (P.add (P.b5 x) (P.b5 y)):=λx y hx hy=>by
   rw[add_eq hP,cA hP,cA hP];exact fm hP qO
  clear g;cbv
  repeat'(first
   |(refine qA ?_;cbv)
   |fail)
  refine a6 (λg=>?_) (λg=>?_)
  ·have g2:P.sat s k=32:=mz hP g;have a:eR x=[92,115]:=by unfold eR;rw[ab qO]
   cbv;refine hw b p β n rows _ [92,115] _ _ rfl rfl hr hn hp (by simp) (by simp only[ar,aL];omega) λv q c n' rows' d e f=>?_;obtain⟨m1,m2⟩:=j _ _ _ a e f;cbv
   repeat'(first
    |(refine qA ?_;cbv)
    |fail)
   exact⟨_,cd.refl _,⟨i+1,_,q,c,n',rows',h,u,d,m1,m2⟩,⟨rfl,rfl,rfl,rfl,trivial⟩,⟨rfl,rfl,trivial⟩,by show s.length-(i+1)<s.length-i;omega⟩
  have g2:¬P.sat s k=32:=mA hP g;rw[c3] at g2;have A:∀o:x.toNat=92\/x.toNat=95,eR x=[92,x]:=λo=>by unfold eR;rw[aa qO,ab o]
  have e1:P.i64 (P.add (P.b5 [92]) (P.b5 (P.gZ s k (P.add k 1)))):=by rw[r];exact w _ _ qD (by simp)
  have O:P.iE [92] (P.gZ s k (P.add k 1))=[92,x]:=by rw[r,gv hP];rfl
  clear g;cbv;refine a6 (λg=>?_) (λg=>?_)
  ·have g3:P.sat s k=92:=mz hP g;have a:=A (.inl qO);cbv
   repeat'(first
    |(refine qA ?_;cbv)
    |fail)
   rw[O];refine hw b p β n rows _ [92,x] _ _ rfl rfl hr hn hp (by simp) (by simp only[ar,aL];omega) λv q c n' rows' d e f=>?_;obtain⟨m1,m2⟩:=j _ _ _ a e f;cbv
   repeat'(first
    |(refine qA ?_;cbv)
    |fail)
   exact⟨_,cd.refl _,⟨i+1,_,q,c,n',rows',h,u,d,m1,m2⟩,⟨rfl,rfl,rfl,rfl,trivial⟩,⟨rfl,rfl,trivial⟩,by show s.length-(i+1)<s.length-i;omega⟩
  have g3:¬P.sat s k=92:=mA hP g;rw[c3] at g3;clear g;cbv;refine a6 (λg=>?_) (λg=>?_)
  ·have g4:P.sat s k=95:=mz hP g;have a:=A (.inr qO);cbv
   repeat'(first
    |(refine qA ?_;cbv)
    |fail)
   rw[O];refine hw b p β n rows _ [92,x] _ _ rfl rfl hr hn hp (by simp) (by simp only[ar,aL];omega) λv q c n' rows' d e f=>?_;obtain⟨m1,m2⟩:=j _ _ _ a e f;cbv
   repeat'(first
    |(refine qA ?_;cbv)
    |fail)
   exact⟨_,cd.refl _,⟨i+1,_,q,c,n',rows',h,u,d,m1,m2⟩,⟨rfl,rfl,rfl,rfl,trivial⟩,⟨rfl,rfl,trivial⟩,by show s.length-(i+1)<s.length-i;omega⟩
  have g4:¬P.sat s k=95:=mA hP g;rw[c3] at g4;have hex:∀o:x.toNat<32\/126<x.toNat,eR x=[92,120,jX (x.toNat/16),jX (x.toNat%16)]:=λo=>by unfold eR;rw[aa qO,aa qO,ab o]
  have d1:P.fK 0 4:=iJ hP qD;have d2:P.iq 4 (P.bits .u8):=by subst hP;show(4:Int)<8;decide
  have hlt:∀m,m<16->P.fK 0 (m:Nat)/\P.fK (m:Nat) ((m+1:Nat):Int)/\P.fK ((m+1:Nat):Int) (P.b5 [48,49,50,51,52,53,54,55,56,57,97,98,99,100,101,102]):=λm hm=>by
   subst hP;exact⟨show(0:Int)<=(m:Int) by omega,show(m:Int)<=((m+1:Nat):Int) by omega,show((m+1:Nat):Int)<=16 by omega⟩
  have w1:P.shr (P.sat s k) 4=((x.toNat/16:Nat):Int):=by rw[c3];subst hP;exact(SL ⟨x.toNat,hbl⟩).1
  have w2:P.tY .u8 (P.sat s k) 15=((x.toNat%16:Nat):Int):=by rw[c3];subst hP;exact(SL ⟨x.toNat,hbl⟩).2
  have B:P.wrap .u8 (P.add (P.shr (P.sat s k) 4) 1)=((x.toNat/16+1:Nat):Int):=by rw[w1];subst hP;exact(Of ⟨x.toNat/16,qW⟩).1
  have C:P.wrap .u8 (P.add (P.tY .u8 (P.sat s k) 15) 1)=((x.toNat%16+1:Nat):Int):=by rw[w2];subst hP;exact(Of ⟨x.toNat%16,qW⟩).1
  have D:P.gZ [48,49,50,51,52,53,54,55,56,57,97,98,99,100,101,102] (P.shr (P.sat s k) 4) (P.wrap .u8 (P.add (P.shr (P.sat s k) 4) 1))=[jX (x.toNat/16)]:=by rw[B,w1];subst hP;exact(Of ⟨x.toNat/16,qW⟩).2
  have J:P.gZ [48,49,50,51,52,53,54,55,56,57,97,98,99,100,101,102] (P.tY .u8 (P.sat s k) 15) (P.wrap .u8 (P.add (P.tY .u8 (P.sat s k) 15) 1))=[jX (x.toNat%16)]:=by rw[C,w2];subst hP;exact(Of ⟨x.toNat%16,qW⟩).2
  obtain⟨r1,r2,U⟩:=hlt (x.toNat/16) qW;obtain⟨W,X,Y⟩:=hlt (x.toNat%16) qW;rw[<-w1] at r1;rw[<-w1,<-B] at r2;rw[<-B] at U;rw[<-w2] at W;rw[<-w2,<-C] at X;rw[<-C] at Y;have v1:P.i64 (P.add (P.b5 [92,120]) (P.b5 (P.gZ [48,49,50,51,52,53,54,55,56,57,97,98,99,100,101,102] (P.shr (P.sat s k) 4) (P.wrap .u8 (P.add (P.shr (P.sat s k) 4) 1))))):=by rw[D];exact w _ _ qD (by simp)
  have v2:P.i64 (P.add (P.b5 (P.iE [92,120] (P.gZ [48,49,50,51,52,53,54,55,56,57,97,98,99,100,101,102] (P.shr (P.sat s k) 4) (P.wrap .u8 (P.add (P.shr (P.sat s k) 4) 1))))) (P.b5 (P.gZ [48,49,50,51,52,53,54,55,56,57,97,98,99,100,101,102] (P.tY .u8 (P.sat s k) 15) (P.wrap .u8 (P.add (P.tY .u8 (P.sat s k) 15) 1))))):=by rw[D,J,gv hP];exact w _ _ (by simp) (by simp)
  have v3:P.iE (P.iE [92,120] (P.gZ [48,49,50,51,52,53,54,55,56,57,97,98,99,100,101,102] (P.shr (P.sat s k) 4) (P.wrap .u8 (P.add (P.shr (P.sat s k) 4) 1)))) (P.gZ [48,49,50,51,52,53,54,55,56,57,97,98,99,100,101,102] (P.tY .u8 (P.sat s k) 15) (P.wrap .u8 (P.add (P.tY .u8 (P.sat s k) 15) 1)))=[92,120,jX (x.toNat/16),jX (x.toNat%16)]:=by rw[D,J,gv hP,gv hP];rfl
  obtain⟨y,hy⟩:∃y,y=[92,120,jX (x.toNat/16),jX (x.toNat%16)]:=⟨_,rfl⟩;have K:y≠[]:=by rw[hy];simp
  have Z:y.length=4:=by rw[hy];rfl
  rw[<-hy] at hex v3;clear w1 w2 B C D J hlt;clear g;cbv;refine a6 (λg=>?_) (λg=>?_)
  focus
   have g5:32<P.sat s k:=gM hP g;rw[c3] at g5;clear g;cbv;refine a6 (λg=>?_) (λg=>?_)
  ·have g6:P.sat s k<127:=gM hP g;have a:eR x=[x]:=by unfold eR;rw[aa qO,aa qO,aa qO]
   cbv;refine E b p β n rows _ x (P.sat s k) _ _ rfl rfl hr hn hp qW c3 λv q c n' rows' d e f=>?_;obtain⟨m1,m2⟩:=j _ _ _ a e f;cbv
   repeat'(first
    |(refine qA ?_;cbv)
    |fail)
   exact⟨_,cd.refl _,⟨i+1,_,q,c,n',rows',h,u,d,m1,m2⟩,⟨rfl,rfl,rfl,rfl,trivial⟩,⟨rfl,rfl,trivial⟩,by show s.length-(i+1)<s.length-i;omega⟩
  focus
   have g6:¬P.sat s k<127:=gN hP g;have a:=hex (.inr qO);clear hex g
  rotate_left
  focus
   have g5:¬32<P.sat s k:=gN hP g;have a:=hex (.inl qO);clear hex g
  all_goals
   cbv
   repeat'(first
    |(refine qA ?_;cbv)
    |fail)
   rw[v3];refine hw b p β n rows _ y _ _ rfl rfl hr hn hp K qW λv q c n' rows' d e f=>?_;obtain⟨m1,m2⟩:=j _ _ _ a e f;cbv
   repeat'(first
    |(refine qA ?_;cbv)
    |fail)
   exact⟨_,cd.refl _,⟨i+1,_,q,c,n',rows',h,u,d,m1,m2⟩,⟨rfl,rfl,rfl,rfl,trivial⟩,⟨rfl,rfl,trivial⟩,by show s.length-(i+1)<s.length-i;omega⟩
 ·have g1:¬k<P.b5 s:=gN hP g;rw[hl] at g1;have hin:i=s.length:=by((try simp only[nc] at*);omega)
  obtain⟨wt,z⟩:∃wt,wt=ga s:=⟨_,rfl⟩;have L:wt≠[]:=by rw[z];exact oW s
  have M:(s.take i).flatMap eR=wt:=by
   rw[z,hin,aN];cases s with
   |nil=>exact absurd rfl g0
   |cons b l=>rw[u3]
  rw[M] at hn hr;clear g;cbv;refine F b p β n rows wt _ _ rfl rfl hr hn hp L λh'=>?_;cbv;exact N _ _ _ z (cd.refl _) rfl
theorem KE(s:BS)(hs:s.length<=1000000):Spec Tryz.prog 150 [.str s] Hp.emp (Is (.str (ga s))):=
 ed hW KC [.str (ga s)] (.str _) λR a=>KD cp rfl _ _ Vq Vr Vs s hs R λs1 s2 t h he hr=>by subst h;exact a s1 s2 he hr
theorem QQ:uE (fk Tryz.prog):=by
 rintro k ka bl d ba n rows l mv j h K rfl rfl hl hb hn hq hne hr hk a hK;exact RU (Q:=MQ) (λg=>hq.rl g) (λmv hq=>zk bl d ba l hl hb hn j mv hq) rfl (λ_=>rfl) hq.1.1 hne hk a (hK _ _ rfl rfl)
def La(b:Nat)(r:Int):Ob:=⟨some b,3,1,[[.int .i64 r]]⟩
theorem BV(b:Nat)(r:Int):(La b r).Fz:=by
 intro q hq v hv;rw[ag.1 hq] at hv;rw[ag.1 hv];exact .int _ _
def Au(b3 a bk bl:Nat)(r:Int)(d:SC)(ba:Option Nat)(n:Nat)(rows:List (List V))(mv:V)(mo:Ob):List (Nat×Ob):=(3,mM b3 bk)::(5,La a r)::nV bk bl d ba n rows mv mo
theorem DG{b3 a bk bl:Nat}{r:Int}{d:SC}{ba:Option Nat}{n:Nat}{l:List er}{bm:Nat}:∀p∈Au b3 a bk bl r d ba n (l.map bd) (jd 901 bm none) (gu bm none),p.2.Fz:=by
 intro p hp
 rcases ah.1 hp with rfl|hp
 ·exact l9 b3 bk
 rcases ah.1 hp with rfl|hp
 ·exact BV a r
 ·exact mL p hp
def DH:AC:=qr [qo 2 (.mov (.c qe))] (qq (.region true [ql 6 0,qn 7 6,qf 8 0 7,ql 9 8,ql 10 1,qa 11 38 [.t 9,.t 10],qm 5 11,qx 12 0 5,qx 13 1 5,qm 3 12,qm 4 13]) (qr [qm 14 4,qa 15 92 [.t 14]] (qr [qm 16 3,qa 17 150 [.t 16],qm 2 17] .ret)))
theorem Og:fF Tryz.prog 149 Tryz.f149 DH [.t 2] 2 dS:=⟨Tryz.func149,by decide+kernel,by kernel_rfl,by kernel_rfl,by decide+kernel⟩
theorem Oh(P:Prim)(hP:P=cp)(T j:cm)(a:uE j)(b3 c bk bl bm:Nat)(r:Int)(d:SC)(ba:Option Nat)(n:Nat)(rows:List (List V))(l:List er)(mv:V)(mo:Ob)(hn:n=l.length)(hrows:rows=l.map bd)(l5:mv=jd 901 bm none)(hZ:nz d l)(s t:BS)(hs:iu d l r=(s,0))(hm:hJ T 92 [qI 0] (.tup []))(e:hJ T 150 [.str s] (.str t))
  (R:S->Prop)(k:∀s1 s2,cd s1 s2->ia [.t 2] [.str t] s2->eP (Au b3 c bk bl r d ba n rows mv mo) s2->R s1):gE P T j DH (S0 [.ptr 3 (some b3) 1 0 0,.ptr 5 (some c) 1 0 0] (a8 (Au b3 c bk bl r d ba n rows mv mo))) R (λ_ _=>False) R:=by
 have f:0<=d.b/\d.b<=4294967295:=⟨hZ.b.1,fq hZ.b.2 qD⟩;have hl:l.length<=1000:=aV hZ.len qD;have g:MQ mv:=by rw[l5];exact xJ _ _ _
 have i:zi 900 1000900 mv=true:=by rw[l5];exact Jc rfl
 have k1:∀x,x=(iu d l r).1->x=s:=λx h=>by rw[h,hs]
 have m:∀y,y=(iu d l r).2->y=0:=λx h=>by rw[h,hs]
 cbv
 repeat'(first
  |(refine qA ?_;cbv)
  |fail)
 refine a 900 1000900 bl d ba n rows l mv r _ _ hrows hn hZ.rv f hl g rfl i rfl rfl λx y hx hy=>?_;have hx:=k1 x hx;have hy:=m y hy;subst hx hy;cbv
 repeat'(first
  |(refine qA ?_;cbv)
  |(refine hm _ _ ?_;cbv)
  |(refine e _ _ ?_;cbv)
  |fail)
 exact k _ _ (cd.refl _) rfl ⟨rfl,rfl,rfl,rfl,rfl,rfl,trivial⟩
theorem Oi(b3 a bk bl bm:Nat)(r:Int)(d:SC)(ba:Option Nat)(l:List er)(hZ:nz d l)(s:BS)(hl:s.length<=1000000)(hs:iu d l r=(s,0)):
  Spec Tryz.prog 149 [.ptr 3 (some b3) 1 0 0,.ptr 5 (some a) 1 0 0] (a8 (Au b3 a bk bl r d ba l.length (l.map bd) (jd 901 bm none) (gu bm none))) λv h'=>∃L',(v=.str (ga s)/\L'=Au b3 a bk bl r d ba l.length (l.map bd) (jd 901 bm none) (gu bm none))/\h'=a8 L':=by
 refine dE hW Og (L:=Au b3 a bk bl r d ba l.length (l.map bd) (jd 901 bm none) (gu bm none)) (λv L'=>v=.str (ga s)/\L'=Au b3 a bk bl r d ba l.length (l.map bd) (jd 901 bm none) (gu bm none)) λR b=>?_;refine Oh cp rfl _ _ QQ b3 a bk bl bm r d ba _ _ l _ _ rfl rfl rfl hZ s _ hs (gK o0 (λ_=>.cons (.same _) .nil) rfl) (gK (KE s hl) (λ_=>.cons (.same _) .nil) rfl) R ?_;intro s1 s2 he hr hg;exact b s1 s2 (.str (ga s)) _ he (da _ _ _ (λx hx=>by rw[hx];rfl) hr) hg (.str _) DG ⟨rfl,rfl⟩
def mr:BS:=[116,101,120,116]
def DI:AC:=qr [qo 3 (.box 47 1 (.t 0)),qo 5 (.box 3 1 (.t 2)),qo 6 (.mov (.c .nilFunc))] (qq (qr [qm 7 1] (.block 0 (qr [⟨some 9,none,.bin .eql (.t 7) (.c (.string ⟨#[116,101,120,116]⟩))⟩,qm 8 9] (qu 8 (qr [qo 10 (.mkfn 149 [.t 3,.t 5]),qm 6 10] .ret) (qr [⟨some 12,none,.bin .eql (.t 7) (.c (.string ⟨#[107,101,101,112]⟩))⟩,qm 11 12] (qu 11 (qr [qo 13 (.mkfn 151 [.t 3,.t 5]),qm 6 13] .ret) (qr [⟨some 15,none,.bin .eql (.t 7) (.c (.string ⟨#[98,97,99,107]⟩))⟩,qm 14 15] (qu 14 (qr [qo 16 (.mkfn 153 [.t 3,.t 5]),qm 6 16] .ret) .skip)))))))) (qr [qo 17 (.mkfn 155 [.t 3,.t 5]),qm 6 17] .ret))
theorem Oj:fF Tryz.prog 98 Tryz.f98 DI [.t 6] 3 dS:=⟨Tryz.func98,by decide+kernel,by kernel_rfl,by kernel_rfl,by decide+kernel⟩
theorem KF(P:Prim)(hP:P=cp)(T b:cm)(bk:Nat)(r:Int)(R:S->Prop)(c:∀(s1 s2:S)(b3 a:Nat),cd s1 s2->ia [.t 6] [.fn 149 [.ptr 3 (some b3) 1 0 0,.ptr 5 (some a) 1 0 0]] s2->eP [(3,mM b3 bk),(5,La a r)] s2->R s1):gE P T b DI (S0 [.ptr 955 (some bk) 1 0 0,.str mr,qI r] Hp.emp) R (λ_ _=>False) R:=by
 have d:P.seq [116,101,120,116] [116,101,120,116]=true:=oq hP rfl;unfold mr;cbv
 repeat'(first
  |(refine qA ?_;cbv)
  |fail)
 intro b3;cbv
 repeat'(first
  |(refine qA ?_;cbv)
  |fail)
 intro a;cbv;refine gj d ?_;cbv;exact c _ _ b3 a (cd.refl _) rfl ⟨rfl,rfl,trivial⟩
theorem KG(bk:Nat)(r:Int):Spec Tryz.prog 98 [.ptr 955 (some bk) 1 0 0,.str mr,qI r] (a8 []) λv h'=>∃L',(∃b3 a,v=.fn 149 [.ptr 3 (some b3) 1 0 0,.ptr 5 (some a) 1 0 0]/\L'=[(3,mM b3 bk),(5,La a r)])/\h'=a8 L':=by
 refine dE hW Oj (L:=[]) (λv L'=>∃b3 a,v=.fn 149 [.ptr 3 (some b3) 1 0 0,.ptr 5 (some a) 1 0 0]/\L'=[(3,mM b3 bk),(5,La a r)]) λR b=>?_;refine KF cp rfl _ _ bk r R ?_;intro s1 s2 b3 a he hr hg;refine b s1 s2 (.fn _ [.ptr 3 (some b3) 1 0 0,.ptr 5 (some a) 1 0 0]) _ he (da _ _ _ (λx hx=>by rw[hx];rfl) hr) hg (.fn _ _ λv hv=>?_) (λp hp=>?_) ⟨b3,a,rfl,rfl⟩
 ·simp only[ah,aq,aQ] at hv
  rcases hv with rfl|rfl<;>exact .ptr _ _ _ _ _
 ·simp only[ah,aq,aQ] at hp
  rcases hp with rfl|rfl
  ·exact l9 _ _
  ·exact BV _ _
def DJ(T:cm):Prop:=∀(bk:Nat)(r:Int)(h:Hp)(K:V->Hp->Prop),(∀b3 a,K (.fn 149 [.ptr 3 (some b3) 1 0 0,.ptr 5 (some a) 1 0 0]) (h.jl [(3,mM b3 bk),(5,La a r)]))->T 98 [.ptr 955 (some bk) 1 0 0,.str [116,101,120,116],qI r] h K
theorem Ol:DJ (dF Tryz.prog):=by
 rintro bk r h K hK;refine uH (rQ [3,5]) (L:=[]) (KG bk r) (gY _) qD qD qD (λp hp=>by cases hp) (λp hp=>by cases hp) ?_ ?_
 ·rintro v L' ⟨b3,a,rfl,rfl⟩;rfl
 ·rintro v L' ⟨b3,a,rfl,rfl⟩;rw[rN,V.nE];have:(Ob.gy λk=>k)=λo=>o:=funext Ob.nE;rw[this,tF (ks:=[3,5]) rfl];exact hK b3 a
def sE:AC:=qr [qo 3 (.box 47 1 (.t 0)),qo 6 (.mov (.c .nilFunc))] (qq (qr [qm 17 1] (.block 0 (qr [⟨some 19,none,.bin .eql (.t 17) (.c (.string ⟨#[115,117,98,109,105,116]⟩))⟩,qm 18 19] (qu 18 (qr [qm 20 2,qa 21 84 [.t 20],qm 22 2,qa 23 84 [.t 22],qm 24 2,qa 25 84 [.t 24],qo 26 (.build SV [(1,1,(.t 21)),(2,1,(.t 23)),(0,1,(.t 25))]),qo 7 (.alloc 145 SV),qs 4 7 26] (qr [qm 27 2,qa 28 85 [.t 27],qo 8 (.alloc 35 Rc),qs 1 8 28] (qr [qo 29 (.mkfn 86 [.t 3,.t 7,.t 8]),qm 6 29] .ret))) (qr [⟨some 31,none,.bin .eql (.t 17) (.c (.string ⟨#[99,97,116,99,104]⟩))⟩,qm 30 31] (qu 30 (qr [qm 32 2,qa 33 84 [.t 32],qo 9 (.alloc 3 [q0]),qs 1 9 33] (qr [qm 34 2,qa 35 85 [.t 34],qo 10 (.alloc 35 Rc),qs 1 10 35] (qr [qo 36 (.mkfn 88 [.t 3,.t 9,.t 10]),qm 6 36] .ret))) (qr [⟨some 38,none,.bin .eql (.t 17) (.c (.string ⟨#[100,105,102,102]⟩))⟩,qm 37 38] (qu 37 (qr [qm 39 2,qa 40 90 [.t 39],qm 41 2,qa 42 90 [.t 41],qo 11 (.alloc 9 [qe]),qo 12 (.alloc 9 [qe]),qs 1 11 40,qs 1 12 42] (qr [qo 43 (.mkfn 91 [.t 11,.t 12]),qm 6 43] .ret)) (qr [⟨some 45,none,.bin .eql (.t 17) (.c (.string ⟨#[104,97,115,104]⟩))⟩,qm 44 45] (qu 44 (qr [qm 46 2,qa 47 90 [.t 46],qo 13 (.alloc 9 [qe]),qs 1 13 47] (qr [qo 48 (.mkfn 95 [.t 13]),qm 6 48] .ret)) (qr [⟨some 50,none,.bin .eql (.t 17) (.c (.string ⟨#[102,105,110,100]⟩))⟩,qm 49 50] (qu 49 (qr [qm 51 2,qa 52 90 [.t 51],qm 53 2,qa 54 90 [.t 53],qo 14 (.alloc 9 [qe]),qo 15 (.alloc 9 [qe]),qs 1 14 52,qs 1 15 54] (qr [qo 55 (.mkfn 96 [.t 14,.t 15]),qm 6 55] .ret)) (qq (qr [⟨some 57,none,.bin .eql (.t 17) (.c (.string ⟨#[116,101,120,116]⟩))⟩,qm 56 57] (qu 56 .skip (qr [⟨some 58,none,.bin .eql (.t 17) (.c (.string ⟨#[107,101,101,112]⟩))⟩,qm 56 58] (qu 56 .skip (qr [⟨some 59,none,.bin .eql (.t 17) (.c (.string ⟨#[117,110,100,111]⟩))⟩,qm 56 59] (qu 56 .skip (qR [⟨some 60,none,.bin .eql (.t 17) (.c (.string ⟨#[98,97,99,107]⟩))⟩,qm 56 60]))))))) (qu 56 (qq (.mc [(ql 61 3,[]),(qm 62 1,[]),(qm 63 2,[]),(qa 64 84 [.t 63],[2]),(qa 65 98 [.t 61,.t 62,.t 64],[0,1,3,3]),(qm 6 65,[4,4,0,1,2,3,4])]) .ret) (qr [⟨some 67,none,.bin .eql (.t 17) (.c (.string ⟨#[99,114,97,115,104]⟩))⟩,qm 66 67] (qu 66 (qr [qm 68 2,qa 69 84 [.t 68],qm 70 2,qa 71 84 [.t 70],qo 72 (.build K1 [(0,1,(.t 69)),(1,1,(.t 71))]),qo 16 (.alloc 151 K1),qs 2 16 72] (qr [qo 73 (.mkfn 99 [.t 3,.t 16]),qm 6 73] .ret)) .skip)))))))))))))))) (qr [ql 74 3,qm 75 1,qa 76 101 [.t 74,.t 75],qm 6 76] .ret))
theorem Fs:fF Tryz.prog 48 Tryz.f48 sE [.t 6] 3 (ve [84,98]):=⟨Tryz.func48,by decide+kernel,by kernel_rfl,by kernel_rfl,by decide+kernel⟩
def wM:List (Nat×Ah):=[(61,SF [1,2] (.alt 0 (SF [3,4,5] .nil) (.alt 3 (SF [0,4,5] .nil) .nil)))]
theorem BX:pP wM sE=true:=by decide+kernel
theorem KH(P:Prim)(hP:P=cp)(T g:cm)(i:jM T)(c:jM g)(a:Dv T)(d:DJ T)(bk bl:Nat)(wr:List (List V))(ws:List BS)(hwr:wr=ca ws)(hn:ws.length<=1000000)(u:Nat)(hu:u<1000000000)(x:Int)(hx:x=(u:Int))(w1:ws[1]? =some (Lib.itoa (u:Int)))
  (R:S->Prop)(j:∀(s1 s2:S)(b3 b:Nat)(h:Int),h=2->cd s1 s2->ia [.t 6] [.fn 149 [.ptr 3 (some b3) 1 0 0,.ptr 5 (some b) 1 0 0]] s2->eP [(950,nU bl wr h),(3,mM b3 bk),(5,La b x)] s2->R s1):
  gE P T g sE (S0 [.ptr 955 (some bk) 1 0 0,.str mr,.ptr 950 (some bl) 2 0 0] (a8 (kT bl wr 1))) R (λ_ _=>False) R:=by
 have k:P.seq [116,101,120,116] [115,117,98,109,105,116]=false:=ic hP qD;have z2:P.seq [116,101,120,116] [99,97,116,99,104]=false:=ic hP qD;have z3:P.seq [116,101,120,116] [100,105,102,102]=false:=ic hP qD;have z4:P.seq [116,101,120,116] [104,97,115,104]=false:=ic hP qD;have z5:P.seq [116,101,120,116] [102,105,110,100]=false:=ic hP qD;have l:P.seq [116,101,120,116] [116,101,120,116]=true:=oq hP rfl;unfold mr;refine Ai hP i c wM BX ?_;cbv
 repeat'(first
  |(refine qA ?_;cbv)
  |fail)
 intro b3;cbv;refine eB k ?_;cbv;refine eB z2 ?_;cbv;refine eB z3 ?_;cbv;refine eB z4 ?_;cbv;refine eB z5 ?_;cbv;refine gj l ?_;cbv;refine yr.mk ?_ (yr.mk ?_ trivial)
 all_goals
  repeat'(first
   |(refine qA ?_;cbv)
   |fail)
  refine a bl wr 1 ws 1 u x _ _ rfl hwr hn rfl hu hx w1 λa1 e=>?_;cbv
  repeat'(first
   |(refine qA ?_;cbv)
   |fail)
  refine d bk x _ _ λf b=>?_;cbv;exact j _ _ f b a1 e (cd.refl _) rfl ⟨rfl,rfl,rfl,trivial⟩
theorem KI(bk bl:Nat)(ws:List BS)(hn:ws.length<=1000000)(u:Nat)(hu:u<1000000000)(w1:ws[1]? =some (Lib.itoa (u:Int))):
  Spec Tryz.prog 48 [.ptr 955 (some bk) 1 0 0,.str mr,.ptr 950 (some bl) 2 0 0] (a8 (kT bl (ca ws) 1)) λv h'=>∃L',(∃b3 a,v=.fn 149 [.ptr 3 (some b3) 1 0 0,.ptr 5 (some a) 1 0 0]/\L'=[(950,nU bl (ca ws) 2),(3,mM b3 bk),(5,La a (u:Int))])/\h'=a8 L':=by
 refine dE (O4 _) Fs (L:=kT bl (ca ws) 1) (λv L'=>∃b3 a,v=.fn 149 [.ptr 3 (some b3) 1 0 0,.ptr 5 (some a) 1 0 0]/\L'=[(950,nU bl (ca ws) 2),(3,mM b3 bk),(5,La a (u:Int))]) λR b=>?_;refine KH cp rfl _ _ u9 sW J2 Ol bk bl _ ws rfl hn u hu _ rfl w1 R ?_;rintro s1 s2 b3 a c rfl he hr hg;refine b s1 s2 (.fn _ [.ptr 3 (some b3) 1 0 0,.ptr 5 (some a) 1 0 0]) _ he (da _ _ _ (λx hx=>by rw[hx];rfl) hr) hg (.fn _ _ λv hv=>?_) (λp hp=>?_) ⟨b3,a,rfl,rfl⟩
 ·simp only[ah,aq,aQ] at hv
  rcases hv with rfl|rfl<;>exact .ptr _ _ _ _ _
 ·simp only[ah,aq,aQ] at hp
  rcases hp with rfl|rfl|rfl
  ·exact kO _ _ _
  ·exact l9 _ _
  ·exact BV _ _
theorem SM:N3 920 1000920 921:=⟨rfl,rfl,rfl⟩
theorem cd.Om{s:S}{bk bl:Nat}{d:SC}{ba:Option Nat}{n:Nat}{rows:List (List V)}{mv:V}{mo:Ob}(l5:mv=.nil)
  (k0:s.h 955=some ⟨some bk,51,1,[[.ptr 920 (some bl) 47 0 0]]⟩)(k1:s.h 920=some (eO bl (eM d (.own 1000920 ba 3 n) .nil)))(a:s.h 1000920=some (il ba rows))(b:s.h 921=some mo):cd s ⟨s.t,a8 (nV bk bl d ba n rows mv mo)⟩:=by
 subst l5;refine cd.QK [(955,955,Q5 bk bl),(900,920,eO bl (eM d (.own 1000900 ba 3 n) .nil)),(1000900,1000920,il ba rows),(901,921,mo)] s.t (λi=>.inl rfl) (by show([955,920,1000920,921]:List Nat).Nodup;decide) ⟨⟨_,k0,rfl,rfl⟩,⟨_,k1,rfl,NF (k:=0) (k':=0)⟩,⟨_,a,rfl,rfl⟩,⟨_,b,rfl,rfl⟩,trivial⟩
def DK:AC:=qr [qo 3 (.box 151 2 (.t 1)),qo 4 (.mov (.c qe))] (qq (.region true [qm 9 0,qn 10 9,qf 11 0 10,ql 12 11,qa 13 158 [.t 12],qd 14 2 3,qa 15 157 [.t 13,.t 14],qm 8 15,qx 16 0 8,qx 17 1 8,qo 5 (.alloc 71 Fw),qs 4 5 16,qm 6 17]) (qr [qm 18 6,qa 19 92 [.t 18]] (qr [qd 21 4 5,qa 22 159 [.t 21],qm 20 22,qx 23 0 20,qx 24 1 20,qm 7 23,qm 6 24] (qr [qm 25 6,qa 26 92 [.t 25]] (qr [qm 27 0,qm 28 7,qn 29 27,qf 30 0 29,qs 1 30 28] (qr [qm 31 0,qn 32 31,qf 33 0 32,ql 34 33,qa 35 71 [.t 34],qa 36 93 [.t 35],qm 4 36] .ret))))))
theorem On:fF Tryz.prog 100 Tryz.f100 DK [.t 4] 2 dS:=⟨Tryz.func100,by decide+kernel,by kernel_rfl,by kernel_rfl,by decide+kernel⟩
theorem Oo(P:Prim)(hP:P=cp)(T y:cm)(i:IQ y)(j:Jp T)(z:nw T)(bk bl bm:Nat)(d:SC)(ba:Option Nat)(n:Nat)(rows:List (List V))(mv:V)(mo:Ob)(l5:mv=jd 901 bm none)(k0 k1:Int)
  (c1 A:Int)(B z2:BS)(g:hJ y 157 [.agg [.str d.x1,qI d.x2,.str d.x3,qI d.x4],.agg [qI k0,qI k1]] (.tup [.agg [.str B,qI c1,.str z2,qI A],qI 0]))(d2:SC)(l2:List er)(M:nL B c1 z2 A=⟨d2,l2,0⟩)(a:nz d2 l2)
  (c:hJ T 92 [qI 0] (.tup []))(t:BS)(v:Int)(hv:v=d2.b+(l2.length:Int))(C:hJ T 93 [qI v] (.str t))
  (R:S->Prop)(N:∀(s s':S)(D:Nat)(E:Option Nat)(n':Nat)(rows':List (List V))(m:V)(o:Ob),n'=l2.length->rows'=l2.map bd->m=jd 901 0 none->o=gu 0 none->cd s s'->ia [.t 4] [.str t] s'->eP (nV bk D d2 E n' rows' m o) s'->R s):
  gE P T y DK (S0 [.ptr 955 (some bk) 1 0 0,.agg [qI k0,qI k1]] (a8 (nV bk bl d ba n rows mv mo))) R (λ_ _=>False) R:=by
 have F:MQ mv:=by rw[l5];exact xJ _ _ _
 have G:sg 900 mv=true:=by rw[l5];rfl
 have p:0<=d2.b/\d2.b<=4294967295:=⟨a.b.1,fq a.b.2 qD⟩;have H:l2.length<=1000:=aV a.len qD;cbv
 repeat'(first
  |(refine qA ?_;cbv)
  |fail)
 intro b3;cbv
 repeat'(first
  |(refine qA ?_;cbv)
  |fail)
 refine i 900 bl d (.own 1000900 ba 3 n) mv _ _ ⟨⟨.own _ _ _ _,rfl⟩,F.1⟩ rfl G rfl ?_;cbv
 repeat'(first
  |(refine qA ?_;cbv)
  |fail)
 refine g _ _ ?_;cbv
 repeat'(first
  |(refine qA ?_;cbv)
  |fail)
 intro Q;cbv
 repeat'(first
  |(refine qA ?_;cbv)
  |fail)
 refine c _ _ ?_;cbv
 repeat'(first
  |(refine qA ?_;cbv)
  |fail)
 refine j 920 1000920 921 B c1 z2 A _ _ SM rfl rfl rfl λd3 O U f=>⟨λhe=>?_,λhe r u n2 rows2 I k h w=>?_⟩
 ·rw[M] at f;exact absurd (ay O0.e f) he
 rw[M] at f;obtain⟨J,K⟩:d3=d2/\O=l2:=⟨ay O0.d f,ay O0.l f⟩;subst J K;have x:n2<=1000:=by rw[k];exact H
 cbv
 repeat'(first
  |(refine qA ?_;cbv)
  |(refine c _ _ ?_;cbv)
  |fail)
 refine z 920 r d3 1000920 u n2 .nil _ _ p x ⟨.nil,rfl⟩ rfl rfl rfl λq hq=>?_;have L:q=v:=by rw[hq,hv,k]
 subst L;cbv;refine C _ _ ?_;cbv;exact N _ _ r u n2 rows2 .nil I k h rfl w (cd.Om rfl rfl rfl rfl rfl) rfl ⟨rfl,rfl,rfl,rfl,trivial⟩
structure wN(d:SC)(k0 k1:Int)(d2:SC)(l2:List er):Prop where
 dk:iz d.x1 d.x2 d.x3 d.x4=0
 op:nL (d.x1.take (kM d.x1 d.x2 k0).toNat) (kM d.x1 d.x2 k0) (d.x3.take (kM d.x3 d.x4 k1).toNat) (kM d.x3 d.x4 k1)=⟨d2,l2,0⟩
 ok:nz d2 l2
theorem Oq(bk bl bm:Nat)(d:SC)(ba:Option Nat)(l:List er)(k0 k1:Int)(d2:SC)(l2:List er)(h:wN d k0 k1 d2 l2)(v:Nat)(hv:(v:Int)=d2.b+(l2.length:Int))(e:v<9223372036854775808):
  Spec Tryz.prog 100 [.ptr 955 (some bk) 1 0 0,.agg [qI k0,qI k1]] (a8 (nV bk bl d ba l.length (l.map bd) (jd 901 bm none) (gu bm none))) λr h'=>∃L',(∃a c,r=.str (nh (v:Int))/\L'=nV bk a d2 c l2.length (l2.map bd) (jd 901 0 none) (gu 0 none))/\h'=a8 L':=by
 refine dE hW On (L:=nV bk bl d ba l.length (l.map bd) (jd 901 bm none) (gu bm none)) (λr L'=>∃a c,r=.str (nh (v:Int))/\L'=nV bk a d2 c l2.length (l2.map bd) (jd 901 0 none) (gu 0 none)) λR f=>?_;refine Oo cp rfl _ _ Qc Qn oJ bk bl bm d ba _ _ _ _ rfl k0 k1 _ _ _ _ (yu (Qk d.x1 d.x2 d.x3 d.x4 k0 k1 h.dk) (λ_=>.cons (.same _) (.cons (.same _) .nil)) rfl) d2 l2 h.op h.ok (gK o0 (λ_=>.cons (.same _) .nil) rfl) (nh (v:Int)) (v:Int) hv (gK (xY v e) (λ_=>.cons (.same _) .nil) rfl) R ?_;rintro s s' a c n' rows' g i rfl rfl rfl rfl he hr hg;exact f s s' (.str (nh (v:Int))) _ he (da _ _ _ (λx hx=>by rw[hx];rfl) hr) hg (.str _) mL ⟨a,c,rfl,rfl⟩
def O7(T:cm):Prop:=∀(bk bl bm:Nat)(d:SC)(ba:Option Nat)(n:Nat)(rows:List (List V))(l:List er)(mv:V)(mo:Ob)(k0 k1:Int)(d2:SC)(l2:List er)(v:Nat)(t:BS)(h:Hp)(K:V->Hp->Prop),SG h bk bl d ba n rows mv mo->n=l.length->rows=l.map bd->mv=jd 901 bm none->mo=gu bm none->wN d k0 k1 d2 l2->(v:Int)=d2.b+(l2.length:Int)->v<9223372036854775808->t=nh (v:Int)->
 (∀(e:Nat)(f:Option Nat)(n':Nat)(rows':List (List V))(a:V)(c:Ob),n'=l2.length->rows'=l2.map bd->a=jd 901 0 none->c=gu 0 none->K (.str t) (h.jl (nV bk e d2 f n' rows' a c)))->
 T 100 [.ptr 955 (some bk) 1 0 0,.agg [qI k0,qI k1]] h K
theorem SN:O7 (dF Tryz.prog):=by
 rintro bk bl bm d ba n rows l mv mo k0 k1 d2 l2 v t h K hw rfl rfl rfl rfl hc hv c rfl hK;refine l7 Ut (Oq bk bl bm d ba l k0 k1 d2 l2 hc v hv c) (gY _) rfl qD qD (λp hp=>⟨hw.all p hp,mL p hp⟩) ?_ ?_
 ·rintro r L' ⟨a,b,rfl,rfl⟩;rfl
 ·rintro r L' ⟨a,b,rfl,rfl⟩;exact hK a b _ _ _ _ rfl rfl rfl rfl
theorem DL(b:Nat)(k0 k1:Int):(Fp b k0 k1).Fz:=by
 intro q hq v hv;rw[ag.1 hq] at hv;simp only[ah,aq,aQ] at hv
 rcases hv with rfl|rfl<;>exact .int _ _
def Av(b3 a bk bl:Nat)(k0 k1:Int)(d:SC)(ba:Option Nat)(n:Nat)(rows:List (List V))(mv:V)(mo:Ob):List (Nat×Ob):=(3,mM b3 bk)::(16,Fp a k0 k1)::nV bk bl d ba n rows mv mo
theorem DM{b3 a bk bl:Nat}{k0 k1:Int}{d:SC}{ba:Option Nat}{n:Nat}{l:List er}{bm:Nat}:∀p∈Av b3 a bk bl k0 k1 d ba n (l.map bd) (jd 901 bm none) (gu bm none),p.2.Fz:=by
 intro p hp
 rcases ah.1 hp with rfl|hp
 ·exact l9 b3 bk
 rcases ah.1 hp with rfl|hp
 ·exact DL a k0 k1
 ·exact mL p hp
def DN:AC:=qr [qo 2 (.mov (.c qe))] (qr [ql 3 0,qd 4 2 1,qa 5 100 [.t 3,.t 4],qm 2 5] .ret)
theorem Ot:fF Tryz.prog 99 Tryz.f99 DN [.t 2] 2 dS:=⟨Tryz.func99,by decide+kernel,by kernel_rfl,by kernel_rfl,by decide+kernel⟩
theorem Ou(P:Prim)(hP:P=cp)(T k:cm)(i:O7 T)(b3 e bk bl bm:Nat)(d:SC)(ba:Option Nat)(n:Nat)(rows:List (List V))(l:List er)(mv:V)(mo:Ob)(hn:n=l.length)(hrows:rows=l.map bd)(l5:mv=jd 901 bm none)(oS:mo=gu bm none)(k0 k1:Int)(d2:SC)(l2:List er)(h:wN d k0 k1 d2 l2)(v:Nat)(hv:(v:Int)=d2.b+(l2.length:Int))(j:v<9223372036854775808)(t:BS)(ht:t=nh (v:Int))
  (R:S->Prop)(m:∀(s s':S)(f:Nat)(g:Option Nat)(n':Nat)(rows':List (List V))(a:V)(c:Ob),n'=l2.length->rows'=l2.map bd->a=jd 901 0 none->c=gu 0 none->cd s s'->ia [.t 2] [.str t] s'->eP (Av b3 e bk f k0 k1 d2 g n' rows' a c) s'->R s):
  gE P T k DN (S0 [.ptr 3 (some b3) 1 0 0,.ptr 16 (some e) 2 0 0] (a8 (Av b3 e bk bl k0 k1 d ba n rows mv mo))) R (λ_ _=>False) R:=by
 cbv
 repeat'(first
  |(refine qA ?_;cbv)
  |fail)
 refine i bk bl bm d ba n rows l mv mo k0 k1 d2 l2 v t _ _ ⟨rfl,rfl,rfl,rfl⟩ hn hrows l5 oS h hv j ht λf g n' rows' a c e1 o p q=>?_;cbv;exact m _ _ f g n' rows' a c e1 o p q (cd.refl _) rfl ⟨rfl,rfl,rfl,rfl,rfl,rfl,trivial⟩
theorem Ov(b3 a bk bl bm:Nat)(d:SC)(ba:Option Nat)(l:List er)(k0 k1:Int)(d2:SC)(l2:List er)(h:wN d k0 k1 d2 l2)(v:Nat)(hv:(v:Int)=d2.b+(l2.length:Int))(f:v<9223372036854775808):
  Spec Tryz.prog 99 [.ptr 3 (some b3) 1 0 0,.ptr 16 (some a) 2 0 0] (a8 (Av b3 a bk bl k0 k1 d ba l.length (l.map bd) (jd 901 bm none) (gu bm none))) λr h'=>∃L',(∃c e,r=.str (nh (v:Int))/\L'=Av b3 a bk c k0 k1 d2 e l2.length (l2.map bd) (jd 901 0 none) (gu 0 none))/\h'=a8 L':=by
 refine dE hW Ot (L:=Av b3 a bk bl k0 k1 d ba l.length (l.map bd) (jd 901 bm none) (gu bm none)) (λr L'=>∃c e,r=.str (nh (v:Int))/\L'=Av b3 a bk c k0 k1 d2 e l2.length (l2.map bd) (jd 901 0 none) (gu 0 none)) λR g=>?_;refine Ou cp rfl _ _ SN b3 a bk bl bm d ba _ _ l _ _ rfl rfl rfl rfl k0 k1 d2 l2 h v hv f _ rfl R ?_;rintro s s' c e n' rows' i j rfl rfl rfl rfl he hr hg;exact g s s' (.str (nh (v:Int))) _ he (da _ _ _ (λx hx=>by rw[hx];rfl) hr) hg (.str _) DM ⟨c,e,rfl,rfl⟩
theorem KJ{d:SC}{l:List er}(h:uQ d l none)(hb:d.b=0){base who seq:Int}{x:List Part}(a:base=(l.length:Int))(hw:0<=who/\who<=7)(hs:0<seq/\seq<=2147483647)(k:d.tb (2*who.toNat)<seq)(hc:cR x=0)(hl:l.length<64)(hin:lg x=((gg d l base).length:Int)):
  gQ d.b d.tb l.length d.now.length ⟨who,seq,x⟩=0/\iD d l none base who seq x=gW d l none ⟨who,seq,x⟩:=by
 have c:d.now=gg d l base:=by
  rw[h.now];unfold gg;rw[a,hb,ft,aG,aN]
 refine⟨?_,?_⟩
 ·have h1:ir ⟨who,seq,x⟩=0:=by
   unfold ir;rw[aa (by show¬(who<0\/7<who\/seq<0\/2147483647<seq);omega)];exact hc
  unfold gQ;rw[aa (λe=>e h1),aa (by show¬seq<=d.tb (2*who.toNat);omega),aa (by rw[hb];omega)];unfold kh;rw[aa (λe=>e hc),aa (λe=>e (by rw[c,hin]))]
 ·have g:jG d.tb who=⟨d.tb (2*who.toNat),d.tb (2*who.toNat+1),0⟩:=by
   unfold jG;rw[aa qW]
  have hsz:vW x=(lg x,ig x,0):=by unfold vW;rw[ab hc]
  have i:=uR h (f:=base) (by rw[a,hb];omega);have j:hG d l base=([],0):=by
   unfold hG iZ;rw[aa (by rw[a,hb,aa qW,aa qW];exact λe=>e rfl),a,hb,ft,aG,cG]
  unfold iD;rw[g,hsz,i,j];rw[aa (by show¬((0:Int)≠0\/seq<0\/2147483647<seq);omega),aa (λe=>e rfl),aa (by show¬(0<seq/\seq=d.tb (2*who.toNat));omega),aa (by show¬seq<=d.tb (2*who.toNat);omega),aa (λe=>e rfl),aa (λe=>e hin),aa (λe=>e rfl)];rfl
theorem DO{d d':SC}{l:List er}{r:er}(hb:d.b=0)(a:d'.b=d.b)(ht:d'.tx=d.tx){f:Int}(hf:f=(l.length:Int)):gg d' (l++[r]) (f+1)=(kB r.delta (gg d l f)).1/\∀g:Int,g<=f->gg d' (l++[r]) g=gg d l g:=by
 refine⟨?_,λg hg=>?_⟩
 ·unfold gg;rw[a,hb,ht,hf,ft,ft,aG,aN,show((l.length:Int)+1).toNat=(l++[r]).length by rw[ae,dT];omega,aN,oO];rfl
 ·unfold gg;rw[a,ht,kJ (by rw[hb];omega)]
theorem DP{s:BS}(h0:s≠[])(hs:s.length<=500):cR [⟨2,0,s⟩]=0/\lg [⟨2,0,s⟩]=0/\kB [⟨2,0,s⟩] []=(s,0)/\fZ [⟨2,0,s⟩]=([⟨2,0,s⟩],0):=by
 have hf:lj ⟨2,0,s⟩=0:=by
  unfold lj;rw[aa (by show¬((2:Int)=1\/(2:Int)=3);decide),ab rfl,aa (by rintro(h|h);exact h rfl;exact h0 h),aa (by show¬((0:Int)>500\/(s.length:Int)>500);omega)]
 have hin:lg [⟨2,0,s⟩]=0:=rfl;have hout:ig [⟨2,0,s⟩]=(s.length:Int):=by show(s.length:Int)+0=_;omega
 have a:qw 0 [⟨2,0,s⟩]=0:=by
  unfold qw;rw[aa (by show¬((2:Int)=0\/(0:Int)=3/\(2:Int)=2);decide),aa (λe=>e hf)];rfl
 have hc:cR [⟨2,0,s⟩]=0:=by
  unfold cR;rw[aa (by simp),aa (λe=>e a),aa (by rw[hin,hout];omega)]
 have ht:fP [⟨2,0,s⟩]=s.map Tok.put:=by
  show s.map Tok.put++[]=_;rw[bg]
 have hm:nI (s.map Tok.put)=[⟨2,0,s⟩]:=by
  unfold nI;rw[Mk.pf];show([]:List Part)++(if s=[] then[] else[⟨2,0,s⟩])++(if(0:Int)<0 then[⟨3,0,[]⟩] else[])=_;rw[cL,aa h0,aa qD,bg]
 refine⟨hc,hin,?_,?_⟩
 ·unfold kB;have:kh [⟨2,0,s⟩] (([]:BS).length:Int)=0:=by
   unfold kh;rw[aa (λe=>e hc),aa (λe=>e hin.symm)]
  rw[ab this,ht,tj]
 ·unfold fZ;have hn:qS [⟨2,0,s⟩]=0:=by
   have:om ⟨2,0,s⟩=0:=by
    unfold om;rw[aa (by show¬((2:Int)<1\/(3:Int)<2\/(0:Int)<0\/((2:Int)=2/\(0:Int)<0)\/((2:Int)≠2/\s≠[]));simp),aa (by show¬((500:Int)<0\/500<(s.length:Int));omega)]
   unfold qS;rw[ab this];rfl
  rw[aa (by simp),ab hn,ht,hm,ab hc]
structure wO(s t:BS)(d:List Part):Prop where
 eq:jf s t=(d,0)
 ck:cR d=0
 Xd:lg d=(s.length:Int)
 Xe:kB d s=(t,0)
 norm:fZ d=(d,0)
 len:d.length<=1600
 ok:∀p∈d,nR p
theorem QR(s t:BS)(hs:s.length<=500)(ht:t.length<=500):wO s t (nI (hH s t)):=by
 obtain⟨d1,d2,d3,d4⟩:=oU s t;have a:cR (nI (hH s t))=0:=BL _ qW qW;obtain⟨c1,c,_⟩:=gw a;have hin:(s.length:Int)=lg (nI (hH s t)):=by rw[<-ou _ c,xQ,d2]
 have b:kh (nI (hH s t)) s.length=0:=by unfold kh;rw[aa (λx=>x a),aa (λx=>x hin)]
 refine⟨by unfold jf;rw[aa qW],a,hin.symm,by unfold kB;rw[ab b,Nj,d1],?_,c1,c⟩;have hn:∀l:List Part,(∀p∈l,nR p)->qS l=0:=by
  intro l
  induction l with
  |nil=>intro _;rfl
  |cons p l ih=>
   intro h;have h1:=gU (h p aR);have:om p=0:=by
    unfold om
    rcases h1 with⟨h1,h2,h3,h4|h4⟩
    ·rw[aa qW,aa qW]
    ·rw[aa (by
      rintro(h|h|h|h|h)
      ·omega
      ·omega
      ·omega
      ·omega
      ·exact h.2 h4.2.2),aa qW]
   unfold qS;rw[ab this];exact ih λq hq=>h q (aY _ hq)
 unfold fZ;rw[aa qW,ab (hn _ c),Nk,ab a]
theorem o6{d:List Part}(h:∀p∈d,nR p)(hl:d.length<=1600):fV d/\(∀p∈d,Pw p)/\(∀p∈d,NN p):=by
 have hm:(1600:Nat)<=maxLen:=by decide
 refine⟨⟨aV hl hm,λp hp=>?_⟩,λp hp=>?_,λp hp=>?_⟩
 ·obtain⟨h1,h2,h3,h4⟩:=gU (h p hp);have h5:(500:Nat)<=maxLen:=by decide
  exact⟨⟨qW,qW⟩,⟨qW,qW⟩,aV h3 h5⟩
 ·obtain⟨h1,h2,h3,h4|h4⟩:=gU (h p hp)
  ·exact .inr ⟨h4.1,h4.2.1,qW⟩
  ·exact .inl ⟨p.n.toNat,h4.1,qW,qW,h4.2.2⟩
 ·obtain⟨h1,h2,h3,h4⟩:=gU (h p hp);exact⟨h1,qW,qW⟩
structure QS(s t:BS)(d:List Part)(d1:SC)(l1:List er)(d2:SC)(l2:List er)(d3:SC)(d4:SC)(l4:List er):Prop where
 s1:iD ik [] none 0 1 1 [⟨2,0,s⟩]=⟨d1,l1,1,0⟩
 s2:iD d1 l1 none 1 2 1 d=⟨d2,l2,2,0⟩
 s3:iI d2 l2.length none=d3
 sf:d3.sf=2
 a0:nz ik []
 a1:nz d1 l1
 a2:nz d2 l2
 cr:wN d3 0 0 d4 l4
 hd:d4.b+(l4.length:Int)=2
 a4:nz d4 l4
 t1:iu d4 l4 1=(s,0)
 t2:iu d4 l4 2=(t,0)
theorem DQ{r:vD}{d:SC}{l:List er}{v e:Int}(h1:r.d=d)(h2:r.l=l)(h3:r.v=v)(h4:r.e=e):r=⟨d,l,v,e⟩:=by
 subst h1 h2 h3 h4;rfl
theorem Ow{s t:BS}(h0:s≠[])(hs:s.length<=500)(ht:t.length<=500){d:List Part}(hd:wO s t d):∃d1 l1 d2 l2 d3 d4 l4,QS s t d d1 l1 d2 l2 d3 d4 l4:=by
 obtain⟨a0,v,g0,W,x0⟩:=Nd;obtain⟨J,K,L,X⟩:=DP h0 hs;have y:∀j,ik.fs j=0:=λj=>rfl;have i:gg ik [] 0=[]:=by
  unfold gg;rw[eW,x0];rfl
 have z:ik.tb 2=0:=by
  have:=a0.tb 2 qD;rw[this];exact y 2
 obtain⟨n1,e1⟩:=KJ a0 v (base:=0) (who:=1) (seq:=1) (x:=[⟨2,0,s⟩]) rfl qD qD (by show ik.tb 2<1;rw[z];decide) J qD (by rw[i,K];rfl);obtain⟨q1,q2,M,A,G,N,O,H,a1⟩:=Dc a0 n1;obtain⟨d1,n⟩:∃d1,(gW ik [] none ⟨1,1,[⟨2,0,s⟩]⟩).d=d1:=⟨_,rfl⟩;rw[n] at A G N O H a1;have e:d1.b=0:=by rw[A,v]
 obtain⟨P,Y⟩:=DO (d:=ik) (d':=d1) (l:=[]) (r:=⟨1,1,[⟨2,0,s⟩]⟩) v A G (f:=0) rfl;have m:gg d1 [⟨1,1,[⟨2,0,s⟩]⟩] 1=s:=by
  have:gg d1 ([]++[⟨1,1,[⟨2,0,s⟩]⟩]) (0+1)=s:=by rw[P,i];show(kB [⟨2,0,s⟩] []).1=s;rw[L]
  exact this
 have B:d1.tb 4=0:=by
  have:=a1.tb 4 qD;rw[this,H];rfl
 obtain⟨n2,Q⟩:=KJ (l:=[⟨1,1,[⟨2,0,s⟩]⟩]) a1 e (base:=1) (who:=2) (seq:=1) (x:=d) rfl qD qD (by show d1.tb 4<1;rw[B];decide) hd.ck (show 1<64 by decide) (by rw[m,hd.Xd]);obtain⟨r1,r2,R,C,I,S,T,U,a2⟩:=Dc (l:=[⟨1,1,[⟨2,0,s⟩]⟩]) a1 n2;obtain⟨d2,o⟩:∃d2,(gW d1 [⟨1,1,[⟨2,0,s⟩]⟩] none ⟨2,1,d⟩).d=d2:=⟨_,rfl⟩;rw[o] at C I S T U a2;have g:d2.b=0:=by rw[C,e]
 obtain⟨v1,v2⟩:=DO (d:=d1) (d':=d2) (l:=[⟨1,1,[⟨2,0,s⟩]⟩]) (r:=⟨2,1,d⟩) e C I (f:=1) rfl;have p:gg d2 [⟨1,1,[⟨2,0,s⟩]⟩,⟨2,1,d⟩] 2=t:=by
  have:gg d2 ([⟨1,1,[⟨2,0,s⟩]⟩]++[⟨2,1,d⟩]) (1+1)=t:=by rw[v1,m];show(kB d s).1=t;rw[hd.Xe]
  exact this
 have k:gg d2 [⟨1,1,[⟨2,0,s⟩]⟩,⟨2,1,d⟩] 1=s:=(v2 1 (bn _)).trans m;obtain⟨l2,h⟩:∃l2:List er,l2=[⟨1,1,[⟨2,0,s⟩]⟩,⟨2,1,d⟩]:=⟨_,rfl⟩;have a2:uQ d2 l2 none:=by rw[h];exact a2
 have c:l2.length=2:=by rw[h];rfl
 rw[<-h] at p k;obtain⟨a3,c1,w,c3,c4,c5⟩:=Jk a2;obtain⟨d3,q⟩:∃d3,iI d2 l2.length none=d3:=⟨_,rfl⟩;rw[q] at a3 c1 w c3 c4 c5;obtain⟨d4,l4,V,a,D⟩:=E9 a3 0 0;have b4:d4.b=0:=by rw[D rfl,w,g]
 have E:=a.lo;have F:=a.hi;rw[c1,g,c] at E;rw[w,g,c] at F;have u:∀r,gg d3 l2 r=gg d2 l2 r:=λr=>by unfold gg;rw[w,c3]
 refine⟨d1,[⟨1,1,[⟨2,0,s⟩]⟩],d2,l2,d3,d4,l4,?_,?_,q,by rw[c1,g,c];rfl,a0.Jh,a1.Jh,a2.Jh,⟨a3.dk,V,a.Tk.Jh⟩,qW,a.Tk.Jh,?_,?_⟩
 ·rw[e1];exact DQ n q2 (by rw[M,v];rfl) q1
 ·rw[Q,h];exact DQ o r2 (by rw[R,e];rfl) r1
 ·rw[uR a.Tk (f:=1) qW,a.tx 1 qW qW,u,k]
 ·rw[uR a.Tk (f:=2) qW,a.tx 2 qW qW,u,p]
open Go.BigFrame
section
variable {P:Program}
theorem vI{f i j k g:Nat}{fn:Func}{N M:Code}{ops:Array Oper}{acA acR:AC}{rv:List RV}{args:List V}{hp:Hp}{post:V→Hp→Prop}{D:Array Oper→List AO→Bool}(Z:lh P D)(hf:P.funcs[f]? =some fn)(q:fn.name≠ "runtime.NumGoroutine")(hb:fn.body=some (.seq N (.seq (.region i ops false) M)))
  (O:vp P fn.ntmps D N=some acA)(R:vp P fn.ntmps D M=some acR)(S:A2 P fn.results.toList=some rv)(hn:args.length<=fn.ntmps)
  (G:∀(Q:Exit->Act->World->Prop)(a:Act)(w:World),a.defers=[]->a.tmps.size=fn.ntmps->(∀x:Value,Q .normal {tmps:=a.tmps.setIfInBounds j x,defers:=[{target:=.fn (.func g) #[a.tmps.getD k undef],args:= #[]}]} w)->(Code.region i ops false).wp P Q a w)
  (hinv:∀(cap:Array Value)(w:World),(invoke (.fn (.func g) cap) #[]).run P w=.ok (.enter g cap) w)
  (r:∀(p:Addr)(w:World),CallsD P g #[.pointer (some p)] .returning w λe u' w'=>e=.returned (.tuple #[])/\u'=.returning/\w'=w)
  (hK:gE cp (dF P) (fk P) acA (S0 args hp) (λs=>(∃kk b sz ii off,s.t k=.ptr kk (some b) sz ii off)/\gE cp (dF P) (fk P) acR ⟨jh s.t j .gC,s.h⟩ (fin rv post) (λ_ _=>False) (fin rv post)) (λ_ _=>False) (λ_=>False)):Spec P f args hp post:=by
 refine⟨⟨fn,hf,q,_,hb⟩,λC0 us l hl m c=>?_⟩;obtain⟨w0,F0,B,pass,df⟩:=C0
 let C:Ctx:=⟨w0,F0,B,pass,[]⟩
 have hC:C.Ok:=⟨l.F0,l.B,l.pass,l.env,l.pg⟩;have m:∀(i:Nat)(v:V)(u:Value),args[i]? =some v->us[i]? =some u->Rel C.F0 C.B C.w0 v u:=m;have c:fT C.nb C.F0 hp C.w0:=⟨c.ob,c.inj,c.live,c.jE,c.new,c.lt,c.ev⟩;show Calls P f us C.w0 _;refine calls_of_wp_defers hf hb ?_;have hs0:fT C C.F0 hp C.w0:=⟨λk o hk=>(c.ob k o hk).mono (λ_ h=>h) (λ_ h=>h.elim),c.inj,c.live,c.jE,c.new,c.lt,c.ev⟩;have H:Sat C fn.ntmps (S0 args hp) {tmps:=us++Array.replicate (fn.ntmps-us.size) undef,defers:=[]} C.w0:=by
  refine⟨⟨C.F0,hs0,λi=>?_⟩,rfl,by simp;omega⟩;simp only[S0,xb]
  by_cases hi:i<args.length
  ·have hi':i<us.size:=by omega
   have h1:args[i]? =some (args.getD i .gC):=by rw[au,af hi];rfl
   have h2:us[i]? =some ((us++Array.replicate (fn.ntmps-us.size) undef).getD i undef):=by
    simp[hi',b6]
   exact m i _ _ h1 h2
  ·have h1:args.getD i .gC=.gC:=by rw[au,bh qW];rfl
   rw[h1];exact .gC _
 refine wp_seq (wp_mono (pd Z hC N acA _ _ _ _ _ _ O H hK) λe a1 w1 hq=>?_);cases e with
 |ret=>obtain⟨s,_,h⟩:=hq;exact h.elim
 |exit j=>obtain⟨_,_,h⟩:=hq;exact h.elim
 |normal=>
  obtain⟨s,hs,⟨kk,b,sz,ii,off,hk⟩,T⟩:=hq;have U:a1.defers=[]:=hs.df;have hsz:=hs.sz;obtain⟨F,hh,hr⟩:=hs.ex;have hp:=hr k;rw[hk] at hp;obtain⟨p,W⟩:∃p,a1.tmps.getD k undef=.pointer (some p):=by
   generalize a1.tmps.getD k undef=x at hp
   cases hp;exact⟨_,rfl⟩
  refine wp_seq (G _ a1 w1 U hsz λx=>?_);rw[W]
  let d:Deferred:= {target:=.fn (.func g) #[.pointer (some p)],args:= #[]}
  let y:Ctx:=⟨w0,F0,B,pass,[d]⟩
  have I:y.Ok:=⟨l.F0,l.B,l.pass,l.env,l.pg⟩;have X:fT y F s.h w1:=⟨hh.ob,hh.inj,hh.live,hh.jE,hh.new,hh.lt,hh.ev⟩;have z:Sat y fn.ntmps ⟨jh s.t j .gC,s.h⟩ {tmps:=a1.tmps.setIfInBounds j x,defers:=[d]} w1:=by
   refine⟨⟨F,X,λi=>?_⟩,rfl,by simpa using hsz⟩;show Rel F y.B w1 (jh s.t j .gC i) _
   by_cases hi:i=j
   ·subst hi;have:jh s.t i .gC i=.gC:=by simp[jh]
    rw[this];exact .gC _
   ·have h1:jh s.t j .gC i=s.t i:=by simp[jh,hi]
    have h2:(a1.tmps.setIfInBounds j x).getD i undef=a1.tmps.getD i undef:=by
     simp only[Array.getD_eq_getD_getElem?,bp];rw[aa λe=>hi e.symm]
    rw[h1,h2];exact hr i
  show M.wp P _ _ _;refine wp_mono (pd Z I M acR _ _ _ _ _ _ R z T) λe A w' hq=>?_;have last:(∃s,Sat y fn.ntmps s A w'/\fin rv post s)->A.defers=[d]/\∃v,(results fn A.tmps).run P w'=.ok v w'/\∃u J h' F',Ending.returned v=.returned u/\Rel F' (λ_=>False) w' J u/\fT (Ctx.nb ⟨w0,F0,B,pass,df⟩) F' h' w'/\post J h':=by
   rintro⟨s1,hs1,s2,K,L⟩;have hs2:=K y _ A w' I hs1;obtain⟨F,hh,hr⟩:=hs2.ex;obtain⟨vs,E,h1,h2,h3,h4,h',h5,h6⟩:=xa hh hr _ _ _ S L;refine⟨hs2.df,_,n9 h1,_,kI vs,h',F,rfl,?_,⟨λk o hk=>?_,λk k' o o' b hk Y=>hh.inj k k' o o' b (h5 k o hk).1 (h5 k' o' Y).1,λk o b hk=>hh.live k o b (h5 k o hk).1,hh.jE,hh.new,hh.lt,hh.ev⟩,h6⟩
   ·refine Rel.fz (B:=C.B) ?_ h4
    match vs,E,h2,h3 with
    |[],[],_,_=>exact .tup _ _ rfl (by simp)
    |[v],[u],_,h3=>exact h3 0 v u rfl rfl
    |v1::v2::vs,u1::u2::E,h2,h3=>
     have hne:¬((u1::u2::E).toArray.size=1):=by simp
     rw[dif_neg hne];exact .tup _ _ (by simpa using h2) λi v u hv hu=>h3 i v u hv (by simpa using hu)
   ·exact(hh.ob k o (h5 k o hk).1).fz (h5 k o hk).2
  have n:(∃s,Sat y fn.ntmps s A w'/\fin rv post s)->Leaves P fn A.tmps (λe w'=>∃u v h' F',e=.returned u/\Rel F' (λ_=>False) w' v u/\fT (Ctx.nb ⟨w0,F0,B,pass,df⟩) F' h' w'/\post v h') A.defers .returning w':=by
   intro h;obtain⟨h1,v,h2,h3⟩:=last h;rw[h1];refine leaves_cons (by simp) (hinv _ _) ((r p w').mono ?_);rintro e u' YA ⟨rfl,rfl,rfl⟩;exact⟨v,h2,h3⟩
  cases e with
  |normal=>exact n hq
  |ret=>exact n hq
  |exit j=>obtain⟨_,_,h⟩:=hq;exact h.elim
  |_=>exact hq.elim
 |_=>exact hq.elim
end
theorem KK(p:Addr)(w:World):CallsD Tryz.prog 46 #[.pointer (some p)] .returning w λe u' w'=>e=.returned (.tuple #[])/\u'=.returning/\w'=w:=by
 have hne:∀w:World,(binOp .neq 20 .nilIface .nilIface).run Tryz.prog w=.ok (.bool false) w:=λw=>by
  have h:∀d:Nat,(Op.equalIn (d+1) 20 .nilIface .nilIface).run Tryz.prog w=.ok true w:=λd=>by
   simp[Op.equalIn,run_underlying Tryz.underlying20]
  simp only[binOp];simp[Op.equal,Op.maxDepth,h 9999]
 refine callsD_of_wpS Tryz.func46 rfl λUC cs hu=>?_;apply wpS_seq;apply wpS_region;simp[wpOpsS,go_sem,recoverD,hu,Tryz.ntmps46,Exit.thenS];apply wpS_seq;apply wpS_region;simp[wpOpsS,go_sem,hne,Exit.thenS];refine wpS_cond (t:=false) (by simp[Act.eval,Array.replicate]) ?_;simp only[dA,if_false];refine wpS_of_wp (wp_skip ?_);cases UC
 simp_all[bodyPostS,results]
structure KL(h:Hp)(bk:Nat)(d:SC)(l:List er)(bl:Nat)(ba:Option Nat)(bm n:Nat)(rows:List (List V))(mv:V)(mo:Ob):Prop where
 hn:n=l.length
 hrows:rows=l.map bd
 l5:mv=jd 901 bm none
 oS:mo=gu bm none
 hd:SG h bk bl d ba n rows mv mo
def Dk(h:Hp)(bk:Nat)(d:SC)(l:List er):Prop:=∃bl ba bm n rows mv mo,KL h bk d l bl ba bm n rows mv mo
def nN(T:cm)(ws:List BS)(t:BS)(bk:Nat)(d:SC)(l:List er)(d':SC)(l':List er):Prop:=∀(a:Nat)(rows:List (List V))(w0:BS)(h:Hp)(K:V->Hp->Prop),rows=ca ws->ws[0]? =some w0->h 10=some (nU a rows 1)->Dk h bk d l->
 (∀(f:Nat)(caps:List V)(h':Hp)(b:Int),b=(ws.length:Int)->h' 10=some (nU a rows b)->h' 4=h 4->(∀K':V->Hp->Prop,(∀h3,Dk h3 bk d' l'->h3 4=h 4->K' (.str t) h3)->T f caps h' K')->K (.fn f caps) h')->
 T 48 [.ptr 955 (some bk) 1 0 0,.str w0,.ptr 10 (some a) 2 0 0] h K
def O8(T:cm):Prop:=∀(bl:Nat)(rows:List (List V))(av:Int)(ws:List BS)(h:Hp)(K:V->Hp->Prop),h 10=some (nU bl rows av)->rows=ca ws->av=(ws.length:Int)->K (.tup []) h->T 49 [.ptr 10 (some bl) 2 0 0] h K
theorem SO:O8 (dF Tryz.prog):=by
 rintro bl rows av ws h K hh rfl rfl hK;refine uH [(950,10)] (NL bl ws) (.cons (.same _) .nil) qD qD qD (λp hp=>?_) (λp hp=>?_) ?_ ?_
 ·rw[ag.1 hp];exact⟨_,ag.2 rfl,rfl⟩
 ·rw[ag.1 hp];refine⟨?_,kO _ _ _⟩;show(h 10).map _=_;rw[hh];rfl
 ·rintro v L' ⟨rfl,rfl⟩;rfl
 ·rintro v L' ⟨rfl,rfl⟩;show K (.tup []) (h.jl [(10,nU bl (ca ws) (ws.length:Int))]);rw[wJ λp hp=>by rw[ag.1 hp];exact hh];exact hK
def KM:AC:=.region false [⟨some 4,none,.alloc 9 [.string ⟨#[]⟩]⟩]
def Aw:AC:=qr [qm 8 1,qo 9 (.build [.slice none 0 0,.int .i64 0] [(0,1,.t 8),(1,1,.c (.int .i64 1))]),qo 10 (.box 110 2 (.t 9)),qm 5 10] (qr [qm 11 0,qm 12 1,qo 13 (.iaddr 1 (.t 12) (qk 0)),ql 14 13,qm 15 5,qa 16 48 [.t 11,.t 14,.t 15],qm 6 16] (qr [qm 17 5,qa 18 49 [.t 17]] (qr [qm 19 6,qo 20 (.callv (.t 19) []),qs 1 4 20] .ret)))
theorem KN(P:Prim)(hP:P=cp)(T B:cm)(g:O8 T)(ws:List BS)(w0:BS)(hw0:ws[0]? =some w0)(t:BS)(bk:Nat)(d:SC)(l:List er)(d':SC)(l':List er)(b:nN T ws t bk d l d' l')(rows:List (List V))(hrows:rows=ca ws)
  (bl:Nat)(ba:Option Nat)(bm n:Nat)(rr:List (List V))(mv:V)(mo:Ob)(hn:n=l.length)(o:rr=l.map bd)(l5:mv=jd 901 bm none)(oS:mo=gu bm none)(b4:Nat)(hp:Hp)(j:hp=a8 (nV bk bl d ba n rr mv mo))
  (R:S->Prop)(C:∀(s s':S),cd s s'->ia [.c1 4] [.str t] s'->Dk s'.h bk d' l'->R s):
  gE P T B Aw ⟨jh (jh (Pl [.ptr 955 (some bk) 1 0 0,.sl false 1 rows]) 4 (.ptr 4 (some b4) 1 0 0)) 7 .gC,Hp.put hp 4 ⟨some b4,9,1,[[.str []]]⟩⟩ R (λ_ _=>False) R:=by
 have hk:hp 955=some (Q5 bk bl)/\hp 900=some (eO bl (eM d (.own 1000900 ba 3 n) mv))/\hp 1000900=some (il ba rr)/\hp 901=some mo/\hp 10=none:=by rw[j];exact⟨rfl,rfl,rfl,rfl,rfl⟩
 obtain⟨k1,D,E,F,G⟩:=hk;clear j;have r8:P.iq 0 (P.cF rows):=by
  have:=(aj.1 hw0).1;refine lk hP ?_;rw[hX hP,hrows,ca,aH];omega
 have q0:P.fK 0 0:=iJ hP qD;have k:P.row rows (P.nat 0) [.str w0]:=gz hP (i:=0) rfl (by rw[hrows,ca,aw,hw0];rfl);cbv;refine⟨G,λm=>?_⟩;cbv
 repeat'(first
  |(refine qA ?_;cbv)
  |(refine⟨_,k,?_⟩;cbv)
  |fail)
 refine b m rows w0 _ _ hrows hw0 rfl ⟨bl,ba,bm,n,rr,mv,mo,hn,o,l5,oS,⟨k1,D,E,F⟩⟩ λf caps h' H p q A r=>?_;have A:h' 4=some ⟨some b4,9,1,[[.str []]]⟩:=A;cbv;refine g m rows H ws h' _ q hrows p ?_;cbv;refine r _ λh3 c e=>?_;have e:h3 4=some ⟨some b4,9,1,[[.str []]]⟩:=e;obtain⟨u,v,w,n3,x,y,z,a⟩:=c;cbv;rw[e];refine⟨rfl,rfl,?_⟩;cbv
 repeat'(first
  |(refine qA ?_;cbv)
  |fail)
 exact C _ _ (cd.refl _) ⟨rfl,rfl,Nat.zero_lt_one,Nat.zero_lt_one,rfl⟩ ⟨u,v,w,n3,x,y,z,a.hn,a.hrows,a.l5,a.oS,⟨a.hd.h1,a.hd.h2,a.hd.h3,a.hd.h4⟩⟩
theorem KO(ws:List BS)(Xf:ws≠[])(t:BS)(bk:Nat)(d:SC)(l:List er)(d':SC)(l':List er)(SP:nN (dF Tryz.prog) ws t bk d l d' l')(bl:Nat)(ba:Option Nat)(bm:Nat):
  Spec Tryz.prog 19 [.ptr 955 (some bk) 1 0 0,.sl false 1 (ca ws)] (a8 (nV bk bl d ba l.length (l.map bd) (jd 901 bm none) (gu bm none))) λr h'=>∃L',(∃UD AF Tr,r=.str t/\L'=nV bk UD d' AF l'.length (l'.map bd) (jd 901 Tr none) (gu Tr none))/\h'=a8 L':=by
 obtain⟨w0,hw0⟩:∃w0,ws[0]? =some w0:=by
  cases ws with
  |nil=>exact absurd rfl Xf
  |cons w _=>exact⟨w,rfl⟩
 refine vI (acA:=KM) (acR:=Aw) (rv:=[.c1 4]) (j:=7) (k:=4) (g:=46) (D:=dS) hW Tryz.func19 (by decide+kernel) rfl (by kernel_rfl) (by kernel_rfl) (by kernel_rfl) (show 2<=Tryz.f19.ntmps by decide+kernel) (λQ a w UE hsz hQ=>?_) (λcap w=>?_) KK ?_
 ·obtain⟨tm,df⟩:=a;have UE:df=[]:=UE;subst UE;have Xg:7<tm.size:=by rw[hsz];decide
  have Xh:∀(fn:Fn)(first cap:Array Value)(w:World),(Instr.makeFunc fn first cap).run Tryz.prog w=.ok (.func fn first cap) w:=λ_ _ _ _=>rfl;apply wp_region;simp[wpOps,go_sem,Xh,Xg];exact .inl (.inl (by simpa using hQ (.func (.func 46) #[] #[tm[4]?.getD undef])))
 ·simp[go_sem]
 ·refine⟨rfl,rfl,λb4=>⟨⟨4,b4,1,0,0,rfl⟩,?_⟩⟩;refine KN cp rfl _ _ SO ws w0 hw0 t bk d l d' l' SP _ rfl bl ba bm _ _ _ _ rfl rfl rfl rfl b4 _ rfl _ ?_;rintro s s' he hr ⟨Vt,Tp,UF,n3,YB,YC,YD,rfl,rfl,rfl,rfl,H⟩;refine⟨s',he,da _ _ _ (λx hx=>?_) hr⟩;subst hx;refine⟨.str _,a8 (nV bk Vt d' Tp l'.length (l'.map bd) (jd 901 UF none) (gu UF none)),λk o hk=>?_,_,⟨Vt,Tp,UF,rfl,rfl⟩,rfl⟩;have hm:=kf hk;exact⟨H.all _ hm,mL _ hm⟩
theorem KP(bk bl:Nat)(ws:List BS):
  Spec Tryz.prog 48 [.ptr 955 (some bk) 1 0 0,.str nk,.ptr 950 (some bl) 2 0 0] (a8 (kT bl (ca ws) 1)) λv h'=>∃L',(∃b3 b2,v=.fn 160 [.ptr 2 (some b2) 1 0 0]/\L'=[(950,nU bl (ca ws) 1),(3,mM b3 bk),(2,mM b2 bk)])/\h'=a8 L':=by
 refine dE hW o5 (L:=kT bl (ca ws) 1) (λv L'=>∃b3 b2,v=.fn 160 [.ptr 2 (some b2) 1 0 0]/\L'=[(950,nU bl (ca ws) 1),(3,mM b3 bk),(2,mM b2 bk)]) λR a=>?_;refine Kq cp rfl _ _ N2 bk bl _ R ?_;rintro s1 s2 b3 b2 he hr hg;refine a s1 s2 (.fn _ [.ptr 2 (some b2) 1 0 0]) _ he (da _ _ _ (λx hx=>by rw[hx];rfl) hr) hg (.fn _ _ λv hv=>?_) (λp hp=>?_) ⟨b3,b2,rfl,rfl⟩
 ·rw[ag.1 hv];exact .ptr _ _ _ _ _
 ·simp only[ah,aq,aQ] at hp
  rcases hp with rfl|rfl|rfl
  ·exact kO _ _ _
  ·exact l9 _ _
  ·exact l9 _ _
theorem KQ(bk bl:Nat)(ws:List BS)(hn:ws.length<=1000000)(b c:Nat)(h1:b<1000000000)(h2:c<1000000000)(w1:ws[1]? =some (Lib.itoa (b:Int)))(w2:ws[2]? =some (Lib.itoa (c:Int))):
  Spec Tryz.prog 48 [.ptr 955 (some bk) 1 0 0,.str nF,.ptr 950 (some bl) 2 0 0] (a8 (kT bl (ca ws) 1)) λv h'=>∃L',(∃b3 a,v=.fn 99 [.ptr 3 (some b3) 1 0 0,.ptr 16 (some a) 2 0 0]/\L'=[(950,nU bl (ca ws) 3),(3,mM b3 bk),(16,Fp a (b:Int) (c:Int))])/\h'=a8 L':=by
 refine dE hW o5 (L:=kT bl (ca ws) 1) (λv L'=>∃b3 a,v=.fn 99 [.ptr 3 (some b3) 1 0 0,.ptr 16 (some a) 2 0 0]/\L'=[(950,nU bl (ca ws) 3),(3,mM b3 bk),(16,Fp a (b:Int) (c:Int))]) λR d=>?_;refine Kr cp rfl _ _ J2 bk bl _ ws rfl hn b c h1 h2 _ _ rfl rfl w1 w2 R ?_;rintro s1 s2 b3 a e rfl he hr hg;refine d s1 s2 (.fn _ [.ptr 3 (some b3) 1 0 0,.ptr 16 (some a) 2 0 0]) _ he (da _ _ _ (λx hx=>by rw[hx];rfl) hr) hg (.fn _ _ λv hv=>?_) (λp hp=>?_) ⟨b3,a,rfl,rfl⟩
 ·simp only[ah,aq,aQ] at hv
  rcases hv with rfl|rfl<;>exact .ptr _ _ _ _ _
 ·simp only[ah,aq,aQ] at hp
  rcases hp with rfl|rfl|rfl
  ·exact kO _ _ _
  ·exact l9 _ _
  ·exact DL _ _ _
theorem KR(bk bl:Nat)(ws:List BS)(hn:ws.length<=1000000)(s t:BS)(hs:s.length<=1000000)(ht:t.length<=1000000)(w1:ws[1]? =some (ga s))(w2:ws[2]? =some (ga t)):
  Spec Tryz.prog 48 [.ptr 955 (some bk) 1 0 0,.str rO,.ptr 950 (some bl) 2 0 0] (a8 (kT bl (ca ws) 1)) λv h'=>∃L',(∃b3 b1 b2,v=.fn 91 [.ptr 11 (some b1) 1 0 0,.ptr 12 (some b2) 1 0 0]/\L'=[(950,nU bl (ca ws) 3),(3,mM b3 bk),(11,vH b1 s),(12,vH b2 t)])/\h'=a8 L':=by
 refine dE hW o5 (L:=kT bl (ca ws) 1) (λv L'=>∃b3 b1 b2,v=.fn 91 [.ptr 11 (some b1) 1 0 0,.ptr 12 (some b2) 1 0 0]/\L'=[(950,nU bl (ca ws) 3),(3,mM b3 bk),(11,vH b1 s),(12,vH b2 t)]) λR a=>?_;refine Km cp rfl _ _ J3 bk bl _ ws rfl hn s t hs ht w1 w2 R ?_;rintro s1 s2 b3 b1 b2 b rfl he hr hg;refine a s1 s2 (.fn _ [.ptr 11 (some b1) 1 0 0,.ptr 12 (some b2) 1 0 0]) _ he (da _ _ _ (λx hx=>by rw[hx];rfl) hr) hg (.fn _ _ λv hv=>?_) (λp hp=>?_) ⟨b3,b1,b2,rfl,rfl⟩
 ·simp only[ah,aq,aQ] at hv
  rcases hv with rfl|rfl<;>exact .ptr _ _ _ _ _
 ·simp only[ah,aq,aQ] at hp
  rcases hp with rfl|rfl|rfl|rfl
  ·exact kO _ _ _
  ·exact l9 _ _
  ·exact qv _ _
  ·exact qv _ _
theorem KS(bk bl:Nat)(ws:List BS)(hn:ws.length<=1000000)(s:BS)(hs:s.length<=1000000)(w1:ws[1]? =some (ga s)):
  Spec Tryz.prog 48 [.ptr 955 (some bk) 1 0 0,.str rP,.ptr 950 (some bl) 2 0 0] (a8 (kT bl (ca ws) 1)) λv h'=>∃L',(∃b3 b1,v=.fn 95 [.ptr 13 (some b1) 1 0 0]/\L'=[(950,nU bl (ca ws) 2),(3,mM b3 bk),(13,vH b1 s)])/\h'=a8 L':=by
 refine dE hW o5 (L:=kT bl (ca ws) 1) (λv L'=>∃b3 b1,v=.fn 95 [.ptr 13 (some b1) 1 0 0]/\L'=[(950,nU bl (ca ws) 2),(3,mM b3 bk),(13,vH b1 s)]) λR a=>?_;refine Kn cp rfl _ _ J3 bk bl _ ws rfl hn s hs w1 R ?_;rintro s1 s2 b3 b1 b rfl he hr hg;refine a s1 s2 (.fn _ [.ptr 13 (some b1) 1 0 0]) _ he (da _ _ _ (λx hx=>by rw[hx];rfl) hr) hg (.fn _ _ λv hv=>?_) (λp hp=>?_) ⟨b3,b1,rfl,rfl⟩
 ·rw[ag.1 hv];exact .ptr _ _ _ _ _
 ·simp only[ah,aq,aQ] at hp
  rcases hp with rfl|rfl|rfl
  ·exact kO _ _ _
  ·exact l9 _ _
  ·exact qv _ _
theorem Q9{w0:BS}{bk a:Nat}{ws:List BS}(ks:List Nat){post:V->List (Nat×Ob)->Prop}(hs:Spec Tryz.prog 48 [.ptr 955 (some bk) 1 0 0,.str w0,.ptr 950 (some a) 2 0 0] (a8 (kT a (ca ws) 1)) λv h'=>∃L',post v L'/\h'=a8 L')
  (n1:(950::ks).Nodup)(n2:(10::ks).Nodup){h:Hp}{K:V->Hp->Prop}(b:h 10=some (nU a (ca ws) 1))(c:∀v L',post v L'->L'.map (·.1)=950::ks)(hK:∀v L',post v L'->K (v.gy (gD ((950,10)::rQ ks))) (h.jl (mX ((950,10)::rQ ks) (Ob.gy (gD ((950,10)::rQ ks))) L'))):
  dF Tryz.prog 48 [.ptr 955 (some bk) 1 0 0,.str w0,.ptr 10 (some a) 2 0 0] h K:=by
 have e1:(rQ ks).map (·.1)=ks:=xV ks;have d:(rQ ks).map (·.2)=ks:=Dt ks;have hb:gP ((950,10)::rQ ks) 955=955:=by
  show(if(955:Nat)=10 then 950 else gP (rQ ks) 955)=955;rw[tE];rfl
 refine uH ((950,10)::rQ ks) hs (.cons ?_ (.cons (.same _) (.cons ?_ .nil))) (by rw[aI,e1];exact n1) (by rw[aI,d];exact n2) (by simp) (λp hp=>?_) (λp hp=>?_) (λv L' hp=>by rw[c v L' hp,aI,e1]) hK
 ·have:=Arg.same (h:=h) (m:=(950,10)::rQ ks) (.ptr 955 (some bk) 1 0 0);simpa[V.gy,V.rl,hb] using this
 ·exact .same _
 ·rw[ag.1 hp];exact⟨_,aR,rfl⟩
 ·rw[ag.1 hp];refine⟨?_,kO _ _ _⟩;show(h 10).map _=_;rw[b];rfl
theorem DR{ws:List BS}{bk:Nat}{d:SC}{l:List er}(hw:ws[0]? =some jQ)(hn:ws.length<=1000000)(a b c:Nat)(h1:a<1000000000)(h2:b<1000000000)(h3:c<1000000000)(w1:ws[1]? =some (Lib.itoa (a:Int)))(w2:ws[2]? =some (Lib.itoa (b:Int)))(u:ws[3]? =some (Lib.itoa (c:Int)))(x:List Part)(hx:∀p∈x,Pw p)(j:ws.drop 4=x.map pw)(hle:4<=ws.length)
  (hZ:nz d l)(k:x.length<=maxLen)(hz:(fZ x).2=0)(m:fV (fZ x).1)(v:Nat)(o:v<9223372036854775808)(hv:(iD d l none (c:Int) (a:Int) (b:Int) (fZ x).1).v=(v:Int))(q:(iD d l none (c:Int) (a:Int) (b:Int) (fZ x).1).e=0):
  nN (dF Tryz.prog) ws (nh (v:Int)) bk d l (iD d l none (c:Int) (a:Int) (b:Int) (fZ x).1).d (iD d l none (c:Int) (a:Int) (b:Int) (fZ x).1).l:=by
 rintro f rows w0 h K rfl hw0 s ⟨bl,ba,bm,n,rr,mv,mo,rfl,rfl,rfl,rfl,H⟩ hK;rw[hw] at hw0;cases hw0;refine Q9 [3,7,8] (Ks bk f ws hn a b c h1 h2 h3 w1 w2 u x hx j hle) qD qD s ?_ ?_
 ·rintro v L' ⟨b3,b7,b8,rfl,rfl⟩;rfl
 ·rintro v' L' ⟨b3,b7,b8,rfl,rfl⟩;refine hK 86 [.ptr 3 (some b3) 1 0 0,.ptr 7 (some b7) 4 0 0,.ptr 8 (some b8) 1 0 0] (h.jl [(10,nU f (ca ws) (ws.length:Int)),(3,mM b3 bk),(7,Q6 b7 (c:Int) (a:Int) (b:Int)),(8,Q7 b8 (x.map a7))]) _ rfl rfl rfl λK' t=>?_;refine l7 [3,7,8,955,900,1000900,901] (NQ b3 b7 b8 bk bl bm d ba l hZ (c:Int) (a:Int) (b:Int) x k hz m v o hv q) (gY _) rfl qD qD (λp hp=>⟨?_,tG p hp⟩) ?_ ?_
  ·simp only[xZ,ah,aq,aQ] at hp
   rcases hp with rfl|rfl|rfl|rfl|rfl|rfl|rfl
   ·rfl
   ·rfl
   ·rfl
   ·exact H.h1
   ·exact H.h2
   ·exact H.h3
   ·exact H.h4
  ·rintro r L' ⟨g,i,rfl,rfl⟩;rfl
  ·rintro r L' ⟨g,i,rfl,rfl⟩;exact t _ ⟨bl,g,i,_,_,_,_,rfl,rfl,rfl,rfl,⟨rfl,rfl,rfl,rfl⟩⟩ rfl
theorem Ox{ws:List BS}{bk:Nat}{d:SC}{l:List er}(f:ws=[nk])(hb:0<=d.b/\d.b<=4294967295)(hl:l.length<=1000)(hat:d.at'=0\/d.at'=1)(v:Nat)(hv:(v:Int)=(iI d l.length none).sf)(g:v<9223372036854775808):
  nN (dF Tryz.prog) ws (nh (v:Int)) bk d l (iI d l.length none) l:=by
 rintro a rows w0 h K rfl hw0 i ⟨bl,ba,bm,n,rr,mv,mo,rfl,rfl,rfl,rfl,H⟩ hK;subst f;cases hw0;refine Q9 [3,2] (KP bk a [nk]) qD qD i ?_ ?_
 ·rintro v L' ⟨b3,b2,rfl,rfl⟩;rfl
 ·rintro v' L' ⟨b3,b2,rfl,rfl⟩;refine hK 160 [.ptr 2 (some b2) 1 0 0] (h.jl [(10,nU a (ca [nk]) 1),(3,mM b3 bk),(2,mM b2 bk)]) 1 rfl rfl rfl λK' j=>?_;refine l7 [2,955,900,1000900,901] (N5 b2 bk bl bm d ba l hb hl hat v hv g) (gY _) rfl qD qD (λp hp=>⟨?_,DF p hp⟩) ?_ ?_
  ·simp only[Aq,nV,ah,aq,aQ] at hp
   rcases hp with rfl|rfl|rfl|rfl|rfl
   ·rfl
   ·exact H.h1
   ·exact H.h2
   ·exact H.h3
   ·exact H.h4
  ·rintro r L' ⟨c,e,rfl,rfl⟩;rfl
  ·rintro r L' ⟨c,e,rfl,rfl⟩;exact j _ ⟨bl,c,e,_,_,_,_,rfl,rfl,rfl,rfl,⟨rfl,rfl,rfl,rfl⟩⟩ rfl
theorem Oy{ws:List BS}{bk:Nat}{d:SC}{l:List er}(c e:Nat)(h1:c<1000000000)(h2:e<1000000000)(j:ws=[nF,Lib.itoa (c:Int),Lib.itoa (e:Int)])(d2:SC)(l2:List er)(hc:wN d (c:Int) (e:Int) d2 l2)(v:Nat)(hv:(v:Int)=d2.b+(l2.length:Int))(k:v<9223372036854775808):
  nN (dF Tryz.prog) ws (nh (v:Int)) bk d l d2 l2:=by
 rintro f rows w0 h K rfl hw0 m ⟨bl,ba,bm,n,rr,mv,mo,rfl,rfl,rfl,rfl,H⟩ hK;subst j;cases hw0;refine Q9 [3,16] (KQ bk f _ (by simp) c e h1 h2 rfl rfl) qD qD m ?_ ?_
 ·rintro v L' ⟨b3,a,rfl,rfl⟩;rfl
 ·rintro v' L' ⟨b3,a,rfl,rfl⟩;refine hK 99 [.ptr 3 (some b3) 1 0 0,.ptr 16 (some a) 2 0 0] (h.jl [(10,nU f (ca [nF,Lib.itoa (c:Int),Lib.itoa (e:Int)]) 3),(3,mM b3 bk),(16,Fp a (c:Int) (e:Int))]) 3 rfl rfl rfl λK' o=>?_;refine l7 [3,16,955,900,1000900,901] (Ov b3 a bk bl bm d ba l (c:Int) (e:Int) d2 l2 hc v hv k) (gY _) rfl qD qD (λp hp=>⟨?_,DM p hp⟩) ?_ ?_
  ·simp only[Av,nV,ah,aq,aQ] at hp
   rcases hp with rfl|rfl|rfl|rfl|rfl|rfl
   ·rfl
   ·rfl
   ·exact H.h1
   ·exact H.h2
   ·exact H.h3
   ·exact H.h4
  ·rintro r L' ⟨g,i,rfl,rfl⟩;rfl
  ·rintro r L' ⟨g,i,rfl,rfl⟩;exact o _ ⟨g,i,0,_,_,_,_,rfl,rfl,rfl,rfl,⟨rfl,rfl,rfl,rfl⟩⟩ rfl
theorem DS{ws:List BS}{bk:Nat}{d:SC}{l:List er}(u:Nat)(hu:u<1000000000)(c:ws=[mr,Lib.itoa (u:Int)])(hZ:nz d l)(s:BS)(hl:s.length<=1000000)(hs:iu d l (u:Int)=(s,0)):
  nN (dF Tryz.prog) ws (ga s) bk d l d l:=by
 rintro a rows w0 h K rfl hw0 e ⟨bl,ba,bm,n,rr,mv,mo,rfl,rfl,rfl,rfl,H⟩ hK;subst c;cases hw0;refine Q9 [3,5] (KI bk a _ (by simp) u hu rfl) qD qD e ?_ ?_
 ·rintro v L' ⟨b3,b,rfl,rfl⟩;rfl
 ·rintro v' L' ⟨b3,b,rfl,rfl⟩;refine hK 149 [.ptr 3 (some b3) 1 0 0,.ptr 5 (some b) 1 0 0] (h.jl [(10,nU a (ca [mr,Lib.itoa (u:Int)]) 2),(3,mM b3 bk),(5,La b (u:Int))]) 2 rfl rfl rfl λK' f=>?_;refine xW [3,5,955,900,1000900,901] (Oi b3 b bk bl bm (u:Int) d ba l hZ s hl hs) (gY _) rfl qD qD (λp hp=>⟨?_,DG p hp⟩) ?_
  ·simp only[Au,nV,ah,aq,aQ] at hp
   rcases hp with rfl|rfl|rfl|rfl|rfl|rfl
   ·rfl
   ·rfl
   ·exact H.h1
   ·exact H.h2
   ·exact H.h3
   ·exact H.h4
  ·exact f _ ⟨bl,ba,bm,_,_,_,_,rfl,rfl,rfl,rfl,⟨H.h1,H.h2,H.h3,H.h4⟩⟩ rfl
theorem Oz{ws:List BS}{bk:Nat}{d:SC}{l:List er}(s t:BS)(hs:s.length<=1000000)(ht:t.length<=1000000)(b:ws=[rO,ga s,ga t])(he:(jf s t).2=0)(hc:∀p∈(jf s t).1,NN p)(hl:(jf s t).1.length<=1000000)(v:Nat)(hv:gr (jf s t).1=(v:Int))(c:v<9223372036854775808):
  nN (dF Tryz.prog) ws (nh (v:Int)) bk d l d l:=by
 rintro a rows w0 h K rfl hw0 e ⟨bl,ba,bm,n,rr,mv,mo,rfl,rfl,rfl,rfl,H⟩ hK;subst b;cases hw0;refine Q9 [3,11,12] (KR bk a _ (by simp) s t hs ht rfl rfl) qD qD e ?_ ?_
 ·rintro v L' ⟨b3,b1,b2,rfl,rfl⟩;rfl
 ·rintro v' L' ⟨b3,b1,b2,rfl,rfl⟩;refine hK 91 [.ptr 11 (some b1) 1 0 0,.ptr 12 (some b2) 1 0 0] (h.jl [(10,nU a (ca [rO,ga s,ga t]) 3),(3,mM b3 bk),(11,vH b1 s),(12,vH b2 t)]) 3 rfl rfl rfl λK' f=>?_;refine xW [11,12] (N1 b1 b2 s t he hc hl v hv c) (gY _) rfl qD qD (λp hp=>⟨?_,DC _ _ _ _ p hp⟩) ?_
  ·simp only[x5,ah,aq,aQ] at hp
   rcases hp with rfl|rfl<;>rfl
  ·exact f _ ⟨bl,ba,bm,_,_,_,_,rfl,rfl,rfl,rfl,⟨H.h1,H.h2,H.h3,H.h4⟩⟩ rfl
theorem OA{ws:List BS}{bk:Nat}{d:SC}{l:List er}(s:BS)(hs:s.length<=1000000)(b:ws=[rP,ga s]):
  nN (dF Tryz.prog) ws (Lib.itoa (ja s)) bk d l d l:=by
 rintro a rows w0 h K rfl hw0 c ⟨bl,ba,bm,n,rr,mv,mo,rfl,rfl,rfl,rfl,H⟩ hK;subst b;cases hw0;refine Q9 [3,13] (KS bk a _ (by simp) s hs rfl) qD qD c ?_ ?_
 ·rintro v L' ⟨b3,b1,rfl,rfl⟩;rfl
 ·rintro v' L' ⟨b3,b1,rfl,rfl⟩;refine hK 95 [.ptr 13 (some b1) 1 0 0] (h.jl [(10,nU a (ca [rP,ga s]) 2),(3,mM b3 bk),(13,vH b1 s)]) 2 rfl rfl rfl λK' e=>?_;refine xW [13] (NY b1 s qW) (gY _) rfl qD qD (λp hp=>⟨?_,?_⟩) ?_
  ·rw[ag.1 hp];rfl
  ·rw[ag.1 hp];exact qv _ _
  ·exact e _ ⟨bl,ba,bm,_,_,_,_,rfl,rfl,rfl,rfl,⟨H.h1,H.h2,H.h3,H.h4⟩⟩ rfl
def SQ(T:cm):Prop:=∀(bk bl:Nat)(ba:Option Nat)(bm n:Nat)(rows:List (List V))(mv:V)(mo:Ob)(ws:List BS)(wr:List (List V))(t:BS)(d:SC)(l:List er)(d':SC)(l':List er)(h:Hp)(K:V->Hp->Prop),ws≠[]->wr=ca ws->nN (dF Tryz.prog) ws t bk d l d' l'->KL h bk d l bl ba bm n rows mv mo->
 (∀h3 a b c n' rows' e f,KL h3 bk d' l' a b c n' rows' e f->h3 960=h 960->h3 1000960=h 1000960->K (.str t) h3)->T 19 [.ptr 955 (some bk) 1 0 0,.sl false 1 wr] h K
theorem UG:SQ (dF Tryz.prog):=by
 rintro bk bl ba bm n rows mv mo ws wr t d l d' l' h K f rfl a ⟨rfl,rfl,rfl,rfl,H⟩ hK;refine l7 Ut (KO ws f t bk d l d' l' a bl ba bm) (gY _) rfl qD qD (λp hp=>⟨H.all p hp,mL p hp⟩) ?_ ?_
 ·rintro r L' ⟨b,c,e,rfl,rfl⟩;rfl
 ·rintro r L' ⟨b,c,e,rfl,rfl⟩;exact hK _ b c e _ _ _ _ ⟨rfl,rfl,rfl,rfl,⟨rfl,rfl,rfl,rfl⟩⟩ rfl rfl
structure QT(bk:Nat)(ln t:BS)(d:SC)(l:List er)(d':SC)(l':List er):Prop where
 len:ln.length<=1000000
 ne:∀w∈gb 32 ln,w≠[]
 hd:∀w,(gb 32 ln)[0]? =some w->w≠[35]
 t0:t≠[]
 line:nN (dF Tryz.prog) (gb 32 ln) t bk d l d' l'
def vi(bk:Nat):SC->List er->List (BS×BS)->Prop
 |_,_,[]=>True
 |d,l,(ln,t)::r=>∃d' l',QT bk ln t d l d' l'/\vi bk d' l' r
def kD(r:List (BS×BS)):BS:=r.flatMap λp=>p.2++[10]
structure Vu(r:List (BS×BS))(bk b:Nat) where
 i:Nat
 k:Int
 d:SC
 l:List er
 bl:Nat
 ba:Option Nat
 bm:Nat
 n:Nat
 rows:List (List V)
 mv:V
 mo:Ob
 p:V
 β:Option Nat
 nb:Nat
 rb:List (List V)
 hi:i<=r.length
 hk:k=(i:Int)
 im:vi bk d l (r.drop i)
 hn:n=l.length
 hrows:rows=l.map bd
 l5:mv=jd 901 bm none
 oS:mo=gu bm none
 hp:x9 b p
 AE:nb=(kD (r.take i)).length
 vq:rb=rJ (kD (r.take i))
structure Xi(ws:List BS) where
 j:Nat
 k:Int
 v:V
 o:List (Nat×Ob)
 hj:j<=ws.length
 hk:k=(j:Int)
 h:(j<ws.length/\∃β m rr,v=.own 1000055 β 1 m/\o=[(1000055,⟨β,9,1,rr⟩)]/\m=j/\rr=ca (ws.take j))\/(j=ws.length/\∃rr,v=.sl false 1 rr/\o=[]/\rr=ca ws)
theorem Ft{r:List (BS×BS)}{i:Nat}{ln t:BS}(h:r[i]? =some (ln,t)):kD (r.take (i+1))=(kD (r.take i)++t)++[10]:=by
 unfold kD;rw[bJ,h,cD];simp
theorem DT(r:List (BS×BS))(i:Nat):(kD (r.take i)).length<=(kD r).length:=by
 have:kD r=kD (r.take i)++kD (r.drop i):=by
  unfold kD;rw[<-cD,bF]
 rw[this,ae];omega
theorem cd.run{s:S}{bk bl b:Nat}{d:SC}{mv:V}{mo:Ob}(l5:mv=.nil)(oS:mo=gu 0 none)(h5:s.t 5=.ptr 36 (some bk) 1 0 0)(h6:s.t 6=.ptr 6 (some b) 2 0 0)
  (k0:s.h 36=some ⟨some bk,51,1,[[.ptr 900 (some bl) 47 0 0]]⟩)(k1:s.h 900=some (eO bl (eM d (.own 1000900 none 3 0) .nil)))(a:s.h 1000900=some (il none []))(f:s.h 6=some ⟨some b,55,2,[[.nil,.nilsl]]⟩):
  ∃s',cd s s'/\s'.t=jh (jh s.t 6 (.ptr 960 (some b) 2 0 0)) 5 (.ptr 955 (some bk) 1 0 0)/\eP (nV bk bl d none 0 [] mv mo++FG b .nil none 0 []) s':=by
 subst l5 oS;refine⟨_,(cd.QK [(955,36,Q5 bk bl),(900,900,eO bl (eM d (.own 1000900 none 3 0) .nil)),(1000900,1000900,il none []),(960,6,⟨some b,55,2,[[.nil,.nilsl]]⟩)] (jh (jh s.t 6 (.ptr 960 (some b) 2 0 0)) 5 (.ptr 955 (some bk) 1 0 0)) (λi=>?_) (by show([36,900,1000900,6]:List Nat).Nodup;decide) ⟨⟨_,k0,rfl,rfl⟩,⟨_,k1,rfl,rfl⟩,⟨_,a,rfl,rfl⟩,⟨_,f,rfl,rfl⟩,trivial⟩).trans ((cd.SK (iY.kQ (k:=960) (k':=1000960) (ty:=5) (sz:=1) (r:=0) (c:=1) (o:=⟨some b,55,2,[[.nil,.nilsl]]⟩) (row:=[.nil,.nilsl]) rfl rfl rfl rfl)).trans (cd.rB _ 901 131 3)),rfl,rfl,rfl,rfl,rfl,rfl,rfl,trivial⟩
 left
 show(jh (jh s.t 6 _) 5 _ i).rl z0=(s.t i).rl z0
 by_cases h:i=5
 ·subst h;rw[h5];rfl
 ·by_cases h2:i=6
  ·subst h2;rw[h6];rfl
  ·have e:jh (jh s.t 6 (.ptr 960 (some b) 2 0 0)) 5 (.ptr 955 (some bk) 1 0 0) i=s.t i:=by simp[jh,h,h2]
   rw[e]
theorem Fu{s:S}{r:List (BS×BS)}{bk bl b:Nat}{d:SC}{g:List (List V)}{n k:Int}(im:vi bk d [] r)(hk:k=0)(h5:s.t 5=.ptr 36 (some bk) 1 0 0)(h6:s.t 6=.ptr 6 (some b) 2 0 0)(a:s.t 37=.sl false 1 g)(c:s.t 38=.int .i64 n)(f:s.t 39=.int .i64 k)
  (k0:s.h 36=some ⟨some bk,51,1,[[.ptr 900 (some bl) 47 0 0]]⟩)(k1:s.h 900=some (eO bl (eM d (.own 1000900 none 3 0) .nil)))(i:s.h 1000900=some (il none []))(l:s.h 6=some ⟨some b,55,2,[[.nil,.nilsl]]⟩):
  ∃s1,cd s s1/\∃y:Vu r bk b,agree [(5,.ptr 955 (some bk) 1 0 0),(6,.ptr 960 (some b) 2 0 0),(37,.sl false 1 g),(38,.int .i64 n),(39,.int .i64 y.k)] s1/\eP (nV bk y.bl y.d y.ba y.n y.rows y.mv y.mo++FG b y.p y.β y.nb y.rb) s1:=by
 obtain⟨s',he,ht,hh⟩:=cd.run (mv:=.nil) (mo:=gu 0 none) rfl rfl h5 h6 k0 k1 i l;refine⟨s',he,⟨0,k,d,[],bl,none,0,0,[],.nil,gu 0 none,.nil,none,0,[],bc _,hk,im,rfl,rfl,rfl,rfl,.inl rfl,rfl,rfl⟩,?_,hh⟩;have e:∀j v,jh (jh s.t 6 (.ptr 960 (some b) 2 0 0)) 5 (.ptr 955 (some bk) 1 0 0) j=v->s'.t j=v:=λj v h=>by rw[ht];exact h
 exact⟨e _ _ rfl,e _ _ rfl,e _ _ a,e _ _ c,e _ _ f,trivial⟩
end Go.Proofs.YtajdadcdcpnedaaGreatDoor.AM
