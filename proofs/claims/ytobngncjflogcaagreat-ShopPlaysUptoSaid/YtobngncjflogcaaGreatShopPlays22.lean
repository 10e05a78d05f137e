/-
  Part 22 of what the law ShopPlays reaches: the plain machine, contracts of the functions and plain laws; each lemma says its own condition.
-/
import Derived.Test.YtobngncjflogcaaGreatShopPlays18
import Derived.Test.YtobngncjflogcaaGreatShopPlays21
set_option linter.unusedVariables false
set_option linter.unusedSimpArgs false
namespace Go.Proofs.YtobngncjflogcaaGreat.AM
open Go Go.RowKit
set_option maxRecDepth 100000
set_option maxHeartbeats 2000000
theorem SN{P:Prim}(hP:P=dn){a b c d:Int}(h1:a=b)(h2:c=d):P.and (P.eq a b) (P.eq c d)=true:=by
 subst hP h1 h2;show(decide (a=a)&&decide (c=c))=true;simp
theorem UL{P:Prim}(hP:P=dn){x1 y1 x3 a:BS}{x2 y2 x4 b:Int}(h1:x1=y1)(h2:x2=y2)(h3:x3=a)(h4:x4=b):P.and (P.seq x1 y1) (P.and (P.eq x2 y2) (P.and (P.seq x3 a) (P.eq x4 b)))=true:=by
 subst hP h1 h2 h3 h4;show(decide (x1=x1)&&(decide (x2=x2)&&(decide (x3=x3)&&decide (x4=x4))))=true;simp
section
variable {P:Prim} {T:c8} {s:S} {d x y:Nat} {K:S->Prop}
theorem Lz(hP:P=dn)(hx:s.t x=.int .i64 0)(hK:K ⟨gy s.t d (.bool false),s.h⟩):eH P T ⟨some d,none,.bin .neq (.t x) (.c (.int .i64 0))⟩ s K:=by
 subst hP;show BE dn .neq (s.t x) (.int .i64 0) _;rw[hx];exact⟨rfl,hK⟩
theorem Gu(hP:P=dn){a b:Int}(hx:s.t x=.agg [.int .i64 a,.int .i64 b])(hy:s.t y=.agg [.int .i64 a,.int .i64 b])(hK:K ⟨gy s.t d (.bool false),s.h⟩):eH P T ⟨some d,none,.eqs true [1,1] (.t x) (.t y)⟩ s K:=by
 simp only[eH,jh,fV,iI.ev,hx,hy,G9,pw,BF,SN hP (rfl:a=a) (rfl:b=b)];exact⟨trivial,trivial,hK⟩
theorem xF{f:Nat->Int}{i a b:Int}{n:Nat}(hx:s.t x=kC f)(hy:s.t y=.int .i64 i)(h0:P.fC 0 i)(h8:P.iO i 8)(hn:P.nat i=n)(hc:((kC f).cells.drop (n*2)).take 2=[.int .i64 a,.int .i64 b])(hK:K ⟨gy s.t d (.agg [.int .i64 a,.int .i64 b]),s.h⟩):eH P T ⟨some d,none,.ixa true 8 2 (.t x) (.t y)⟩ s K:=by
 simp only[eH,jh,fV,iI.ev,hx,hy,kC];refine⟨h0,h8,rfl,rfl,n,hn,?_⟩;simp only[kC,V.cells] at hc;rw[hc];exact hK
theorem CY{v:V}(hx:s.t x=.bool false)(hy:s.t y=v)(hK:K ⟨gy s.t d v,s.h⟩):eH P T ⟨some d,none,.pick (.t x) (.c (.bool true)) (.t y)⟩ s K:=by
 simp only[eH,jh,fV,iI.ev,hx,hy];exact hK
end
theorem SO{P:Prim}{T a:c8}{ops:List (AO×List Nat)}{n:Nat}(hn:ops.length=n){y:AC}{s:S}{N:S->Prop}{X:Nat->S->Prop}{R:S->Prop}(h:lL P T ops n [] s (λs=>gj P T a y s N X R)):gj P T a (.seq (.jN ops) y) s N X R:=by
 subst hn;exact h
theorem xG(f:Nat->Int)(n:Nat)(hn:n<8):((kC f).cells.drop (n*2)).take 2=[.int .i64 (f (2*n)),.int .i64 (f (2*n+1))]:=by
 have hc:n=0\/n=1\/n=2\/n=3\/n=4\/n=5\/n=6\/n=7:=by omega
 rcases hc with rfl|rfl|rfl|rfl|rfl|rfl|rfl|rfl<;>rfl
def PW:List (AO×List Nat):=[
 (⟨some 69,none,.mov (.t 7)⟩,[]),
 (⟨some 70,none,.bin .neq (.t 69) (.c (.int .i64 0))⟩,[0]),
 (⟨some 71,none,.mov (.t 70)⟩,[1]),
 (⟨some 72,some (71,false),.loadn 2 (.t 6)⟩,[2]),
 (⟨some 73,some (71,false),.mov (.t 1)⟩,[2]),
 (⟨some 74,some (71,false),.mov (.t 1)⟩,[2]),
 (⟨some 75,some (71,false),.call 35 [.t 74]⟩,[5,2,2]),
 (⟨some 76,some (71,false),.call 38 [.t 73,.t 75]⟩,[4,6,6,2]),
 (⟨some 77,some (71,false),.mov (.t 5)⟩,[2]),
 (⟨some 78,some (71,false),.ixa true 8 2 (.t 76) (.t 77)⟩,[7,8,2]),
 (⟨some 79,some (71,false),.eqs true [1,1] (.t 72) (.t 78)⟩,[3,9,2]),
 (⟨some 80,none,.pick (.t 71) (.c (.bool true)) (.t 79)⟩,[2,10])]
def jG(la lb q w:Int)(tb:Nat->Int)(b2:Nat):List (Nat×Nat×V):=[(0,69,.int .i64 0),(1,70,.bool false),(2,71,.bool false),(3,72,.agg [.int .i64 la,.int .i64 lb]),(4,73,.ptr 50 (some b2) 31 0 0),(5,74,.ptr 50 (some b2) 31 0 0),(6,75,.int .i64 q),(7,76,kC tb),(8,77,.int .i64 w),(9,78,.agg [.int .i64 la,.int .i64 lb]),(10,79,.bool false),(11,80,.bool false)]
section
variable {la lb q w:Int} {tb:Nat->Int} {b2:Nat}
theorem GN:((jG la lb q w tb b2).map (·.1)).Nodup:=by show([0,1,2,3,4,5,6,7,8,9,10,11]:List Nat).Nodup;decide
theorem rJ:((jG la lb q w tb b2).map (·.2.1)).Nodup:=by show([69,70,71,72,73,74,75,76,77,78,79,80]:List Nat).Nodup;decide
theorem SP{P:Prim}(hP:P=dn){T:c8}{K:S->Prop}{t0:Nat->V}{h0:Hp}{h ty wn:Nat}(h7:t0 7=qI 0)(h1:t0 1=.ptr 50 (some b2) 31 0 0)(h5:t0 5=qI w)(h6:t0 6=.ptr 6 (some h) 2 0 0)(c:h0 6=some ⟨some h,ty,2,[[qI la,qI lb]]⟩)
  (hc1:∀K,K (qI q) h0->T 35 [.ptr 50 (some b2) 31 0 0] h0 K)(d:∀K,K (kC tb) h0->T 38 [.ptr 50 (some b2) 31 0 0,qI q] h0 K)
  (e:P.fC 0 w)(f:P.iO w 8)(g:P.nat w=wn)(b:((kC tb).cells.drop (wn*2)).take 2=[qI la,qI lb])
  (hK:K ⟨L8 (jG la lb q w tb b2) t0,h0⟩):lL P T PW 12 [] ⟨t0,h0⟩ K:=by
 refine AT rfl (λdone=>⟨eO done (jG la lb q w tb b2) t0,h0⟩) (λdone i o ps hj hf hq j K' a=>?_) (λdone hd=>?_) ?_
 ·match i,hj with
  |0,hj=>
   cases hj;have a:K' ⟨eO (0::done) (jG la lb q w tb b2) t0,h0⟩:=a;show eH P T _ ⟨eO done (jG la lb q w tb b2) t0,h0⟩ K';refine gR (v:=qI 0) ((gX (done:=done) (jG la lb q w tb b2) t0 rfl).trans h7) ?_;show K' ⟨gy (eO done (jG la lb q w tb b2) t0) 69 _,h0⟩;rw[dS (k:=0) (jG la lb q w tb b2) t0 GN rJ (.head _)];exact a
  |1,hj=>
   cases hj;have a:K' ⟨eO (1::done) (jG la lb q w tb b2) t0,h0⟩:=a;show eH P T _ ⟨eO done (jG la lb q w tb b2) t0,h0⟩ K';refine Lz hP (dF (done:=done) (hq 0 qD) (jG la lb q w tb b2) t0 rJ (.head _)) ?_;show K' ⟨gy (eO done (jG la lb q w tb b2) t0) 70 _,h0⟩;rw[dS (k:=1) (jG la lb q w tb b2) t0 GN rJ (qM 1 rfl)];exact a
  |2,hj=>
   cases hj;have a:K' ⟨eO (2::done) (jG la lb q w tb b2) t0,h0⟩:=a;show eH P T _ ⟨eO done (jG la lb q w tb b2) t0,h0⟩ K';refine gR (v:=.bool false) (dF (done:=done) (hq 1 qD) (jG la lb q w tb b2) t0 rJ (qM 1 rfl)) ?_;show K' ⟨gy (eO done (jG la lb q w tb b2) t0) 71 _,h0⟩;rw[dS (k:=2) (jG la lb q w tb b2) t0 GN rJ (qM 2 rfl)];exact a
  |3,hj=>
   cases hj;have a:K' ⟨eO (3::done) (jG la lb q w tb b2) t0,h0⟩:=a;show eH P T _ ⟨eO done (jG la lb q w tb b2) t0,h0⟩ K';refine jM (dF (done:=done) (hq 2 qD) (jG la lb q w tb b2) t0 rJ (qM 2 rfl)) ?_;refine o0 (cs:=[qI la,qI lb]) ((gX (done:=done) (jG la lb q w tb b2) t0 rfl).trans h6) c qD ⟨by show(0:Nat)+2<=2;decide,rfl⟩ ?_;show K' ⟨gy (eO done (jG la lb q w tb b2) t0) 72 _,h0⟩;rw[dS (k:=3) (jG la lb q w tb b2) t0 GN rJ (qM 3 rfl)];exact a
  |4,hj=>
   cases hj;have a:K' ⟨eO (4::done) (jG la lb q w tb b2) t0,h0⟩:=a;show eH P T _ ⟨eO done (jG la lb q w tb b2) t0,h0⟩ K';refine jM (dF (done:=done) (hq 2 qD) (jG la lb q w tb b2) t0 rJ (qM 2 rfl)) ?_;refine gR (v:=.ptr 50 (some b2) 31 0 0) ((gX (done:=done) (jG la lb q w tb b2) t0 rfl).trans h1) ?_;show K' ⟨gy (eO done (jG la lb q w tb b2) t0) 73 _,h0⟩;rw[dS (k:=4) (jG la lb q w tb b2) t0 GN rJ (qM 4 rfl)];exact a
  |5,hj=>
   cases hj;have a:K' ⟨eO (5::done) (jG la lb q w tb b2) t0,h0⟩:=a;show eH P T _ ⟨eO done (jG la lb q w tb b2) t0,h0⟩ K';refine jM (dF (done:=done) (hq 2 qD) (jG la lb q w tb b2) t0 rJ (qM 2 rfl)) ?_;refine gR (v:=.ptr 50 (some b2) 31 0 0) ((gX (done:=done) (jG la lb q w tb b2) t0 rfl).trans h1) ?_;show K' ⟨gy (eO done (jG la lb q w tb b2) t0) 74 _,h0⟩;rw[dS (k:=5) (jG la lb q w tb b2) t0 GN rJ (qM 5 rfl)];exact a
  |6,hj=>
   cases hj;have a:K' ⟨eO (6::done) (jG la lb q w tb b2) t0,h0⟩:=a;show eH P T _ ⟨eO done (jG la lb q w tb b2) t0,h0⟩ K';refine jM (dF (done:=done) (hq 2 qD) (jG la lb q w tb b2) t0 rJ (qM 2 rfl)) ?_;show T 35 [eO done (jG la lb q w tb b2) t0 74] h0 _;rw[(dF (done:=done) (hq 5 qD) (jG la lb q w tb b2) t0 rJ (qM 5 rfl))];refine hc1 _ ?_;show K' ⟨gy (eO done (jG la lb q w tb b2) t0) 75 _,h0⟩;rw[dS (k:=6) (jG la lb q w tb b2) t0 GN rJ (qM 6 rfl)];exact a
  |7,hj=>
   cases hj;have a:K' ⟨eO (7::done) (jG la lb q w tb b2) t0,h0⟩:=a;show eH P T _ ⟨eO done (jG la lb q w tb b2) t0,h0⟩ K';refine jM (dF (done:=done) (hq 2 qD) (jG la lb q w tb b2) t0 rJ (qM 2 rfl)) ?_;show T 38 [eO done (jG la lb q w tb b2) t0 73,eO done (jG la lb q w tb b2) t0 75] h0 _;rw[(dF (done:=done) (hq 4 qD) (jG la lb q w tb b2) t0 rJ (qM 4 rfl)),(dF (done:=done) (hq 6 qD) (jG la lb q w tb b2) t0 rJ (qM 6 rfl))];refine d _ ?_;show K' ⟨gy (eO done (jG la lb q w tb b2) t0) 76 _,h0⟩;rw[dS (k:=7) (jG la lb q w tb b2) t0 GN rJ (qM 7 rfl)];exact a
  |8,hj=>
   cases hj;have a:K' ⟨eO (8::done) (jG la lb q w tb b2) t0,h0⟩:=a;show eH P T _ ⟨eO done (jG la lb q w tb b2) t0,h0⟩ K';refine jM (dF (done:=done) (hq 2 qD) (jG la lb q w tb b2) t0 rJ (qM 2 rfl)) ?_;refine gR (v:=qI w) ((gX (done:=done) (jG la lb q w tb b2) t0 rfl).trans h5) ?_;show K' ⟨gy (eO done (jG la lb q w tb b2) t0) 77 _,h0⟩;rw[dS (k:=8) (jG la lb q w tb b2) t0 GN rJ (qM 8 rfl)];exact a
  |9,hj=>
   cases hj;have a:K' ⟨eO (9::done) (jG la lb q w tb b2) t0,h0⟩:=a;show eH P T _ ⟨eO done (jG la lb q w tb b2) t0,h0⟩ K';refine jM (dF (done:=done) (hq 2 qD) (jG la lb q w tb b2) t0 rJ (qM 2 rfl)) ?_;refine xF (dF (done:=done) (hq 7 qD) (jG la lb q w tb b2) t0 rJ (qM 7 rfl)) (dF (done:=done) (hq 8 qD) (jG la lb q w tb b2) t0 rJ (qM 8 rfl)) e f g b ?_;show K' ⟨gy (eO done (jG la lb q w tb b2) t0) 78 _,h0⟩;rw[dS (k:=9) (jG la lb q w tb b2) t0 GN rJ (qM 9 rfl)];exact a
  |10,hj=>
   cases hj;have a:K' ⟨eO (10::done) (jG la lb q w tb b2) t0,h0⟩:=a;show eH P T _ ⟨eO done (jG la lb q w tb b2) t0,h0⟩ K';refine jM (dF (done:=done) (hq 2 qD) (jG la lb q w tb b2) t0 rJ (qM 2 rfl)) ?_;refine Gu hP (dF (done:=done) (hq 3 qD) (jG la lb q w tb b2) t0 rJ (qM 3 rfl)) (dF (done:=done) (hq 9 qD) (jG la lb q w tb b2) t0 rJ (qM 9 rfl)) ?_;show K' ⟨gy (eO done (jG la lb q w tb b2) t0) 79 _,h0⟩;rw[dS (k:=10) (jG la lb q w tb b2) t0 GN rJ (qM 10 rfl)];exact a
  |11,hj=>
   cases hj;have a:K' ⟨eO (11::done) (jG la lb q w tb b2) t0,h0⟩:=a;show eH P T _ ⟨eO done (jG la lb q w tb b2) t0,h0⟩ K';refine CY (dF (done:=done) (hq 2 qD) (jG la lb q w tb b2) t0 rJ (qM 2 rfl)) (dF (done:=done) (hq 10 qD) (jG la lb q w tb b2) t0 rJ (qM 10 rfl)) ?_;show K' ⟨gy (eO done (jG la lb q w tb b2) t0) 80 _,h0⟩;rw[dS (k:=11) (jG la lb q w tb b2) t0 GN rJ (qM 11 rfl)];exact a
  |i+12,hj=>exact absurd (aj.1 hj).1 (by show¬i+12<12;omega)
 ·show K ⟨eO done (jG la lb q w tb b2) t0,h0⟩;rw[nX _ _ (λp hp=>hd p.1 ?_)]
  ·exact hK
  ·have hm:p.1∈(jG la lb q w tb b2).map (·.1):=aC.2 ⟨p,hp,rfl⟩;have gf:∀x∈([0,1,2,3,4,5,6,7,8,9,10,11]:List Nat),x<12:=by decide
   exact gf _ hm
 ·show(⟨t0,h0⟩:S)=⟨eO [] (jG la lb q w tb b2) t0,h0⟩;rw[nW]
end
structure O4(d:SC)(l:List eP)(dr:iq)(tx:List BS):Prop where
 x1:d.x1=dr.x1
 x2:d.x2=dr.x2
 x3:d.x3=dr.x3
 x4:d.x4=dr.x4
 b:d.b=dr.b
 sf:d.sf=dr.sf
 bb:0<=d.b/\d.b<=2147483647
 len:l.length<=64
 rv:lO l
 who:∀r∈l,0<=r.who/\r.who<=7
 dl:∀r∈l,r.delta.length<=10000000
 tb:∀j,j<16->d.tb j=gg dr.fs dr.b l j
 tx:∀i:Nat,i<=l.length->∃s,tx[i]? =some s/\iy d l (d.b+(i:Int))=(s,0)
structure WV where
 w:Int
 h: -1<=w/\w<=9
structure WW(b:Int)(n:Nat) where
 k:Int
 h:b-1<=k/\k<=b+(n:Int)+2
def EU:AC:=qr [qo 4 (.mov (.c (.bool false)))] (qq (qq (.region true [qm 14 0,qa 15 32 [.t 14],qm 16 1,qn 17 16,qf 18 0 17,qd 19 4 18,qo 20 (.eqs true [2,1,2,1] (.t 15) (.t 19)),qm 21 20,qg 22 21 false (.mov (.t 0)),qg 23 21 false (.call 33 [.t 22]),qg 24 21 false (.mov (.t 1)),qg 25 21 false (.nilchk (.t 24)),qg 26 21 false (.faddr 6 (.t 25)),qg 27 21 false (.load1 (.t 26)),qg 28 21 false (.bin .neq (.t 23) (.t 27)),qo 29 (.pick (.t 21) (.c (.bool true)) (.t 28)),qm 30 29,qg 31 30 false (.mov (.t 0)),qg 32 30 false (.call 34 [.t 31]),qg 33 30 false (.mov (.t 1)),qg 34 30 false (.call 35 [.t 33]),qg 35 30 false (.bin .neq (.t 32) (.t 34)),qo 36 (.pick (.t 30) (.c (.bool true)) (.t 35)),qm 37 36,qg 38 37 false (.mov (.t 0)),qg 39 37 false (.call 36 [.t 38]),qg 40 37 false (.mov (.t 1)),qg 41 37 false (.nilchk (.t 40)),qg 42 37 false (.faddr 25 (.t 41)),qg 43 37 false (.load1 (.t 42)),qg 44 37 false (.bin .neq (.t 39) (.t 43)),qo 45 (.pick (.t 37) (.c (.bool true)) (.t 44))]) (qu 45 (qr [qo 4 (.mov (.c (.bool false)))] .ret) .skip)) (qq (qr [qz 5 (-1)] (.block 0 (.loop (qq (qr [qm 46 5,qc 47 .leq 46 8] (qu 47 .skip (.exit 0))) (qq (.block 1 (qr [qm 51 0,qm 52 5,qa 53 37 [.t 51,.t 52],qm 50 53,qx 54 0 50,qx 55 1 50,qo 6 (.alloc 54 Bo),qs 2 6 54,qm 7 55] (qr [qm 56 5,qc 57 .lss 56 0,qm 58 57,qg 59 58 false (.mov (.t 5)),qg 60 58 false (.bin .gtr (.t 59) (qk 7)),qo 61 (.pick (.t 58) (.c (.bool true)) (.t 60))] (qu 61 (qr [qm 62 7,qc 63 .neq 62 1,qm 64 63,qg 65 64 false (.loadn 2 (.t 6)),qg 66 64 false (.build Bo []),qg 67 64 false (.eqs true [1,1] (.t 65) (.t 66)),qo 68 (.pick (.t 64) (.c (.bool true)) (.t 67))] (qu 68 (qr [qo 4 (.mov (.c (.bool false)))] .ret) .skip)) (qq (.jN [(qm 69 7,[]),(qc 70 .neq 69 0,[0]),(qm 71 70,[1]),(qg 72 71 false (.loadn 2 (.t 6)),[2]),(qg 73 71 false (.mov (.t 1)),[2]),(qg 74 71 false (.mov (.t 1)),[2]),(qg 75 71 false (.call 35 [.t 74]),[5,2,2]),(qg 76 71 false (.call 38 [.t 73,.t 75]),[4,6,6,2]),(qg 77 71 false (.mov (.t 5)),[2]),(qg 78 71 false (.ixa true 8 2 (.t 76) (.t 77)),[7,8,2]),(qg 79 71 false (.eqs true [1,1] (.t 72) (.t 78)),[3,9,2]),(qo 80 (.pick (.t 71) (.c (.bool true)) (.t 79)),[2,10])]) (qu 80 (qr [qo 4 (.mov (.c (.bool false)))] .ret) .skip)))))) (qR [qm 48 5,qc 49 .add 48 1,qm 5 49])))))) (qq (qr [qm 81 1,qn 82 81,qf 83 6 82,ql 84 83,qc 85 .sub 84 1,qm 8 85] (.block 2 (.loop (qq (qr [qm 86 8,qm 87 1,qa 88 35 [.t 87],qc 89 .add 88 1,qb 90 .leq 86 89] (qu 90 .skip (.exit 2))) (qq (.block 3 (qr [qm 94 0,qm 95 8,qa 96 39 [.t 94,.t 95],qm 93 96,qx 97 0 93,qx 98 1 93,qm 9 97,qm 10 98] (qr [qm 100 0,qm 101 8,qa 102 40 [.t 100,.t 101],qm 99 102,qx 103 0 99,qx 104 1 99,qm 11 103,qm 12 104] (qr [qm 105 1,qm 106 8,qa 107 41 [.t 105,.t 106],qm 13 107] (qr [qm 108 13,qc 109 .neq 108 0] (qu 109 (qr [qm 110 10,qm 111 13,qb 112 .neq 110 111,qm 113 112,qg 114 113 false (.mov (.t 12)),qg 115 113 false (.mov (.t 13)),qg 116 113 false (.bin .neq (.t 114) (.t 115)),qo 117 (.pick (.t 113) (.c (.bool true)) (.t 116)),qm 118 117,qg 119 118 false (.mov (.t 9)),qg 120 118 false (.bin .neq (.t 119) (.c qe)),qo 121 (.pick (.t 118) (.c (.bool true)) (.t 120)),qm 122 121,qg 123 122 false (.mov (.t 11)),qg 124 122 false (.len false (.t 123)),qg 125 122 false (.bin .neq (.t 124) (qk 0)),qo 126 (.pick (.t 122) (.c (.bool true)) (.t 125))] (qu 126 (qr [qo 4 (.mov (.c (.bool false)))] .ret) .skip)) (qq (.region true [qm 127 10,qc 128 .neq 127 0,qm 129 128,qg 130 129 false (.mov (.t 12)),qg 131 129 false (.bin .neq (.t 130) (qk 0)),qo 132 (.pick (.t 129) (.c (.bool true)) (.t 131)),qm 133 132,qg 134 133 false (.mov (.t 9)),qg 135 133 false (.mov (.t 1)),qg 136 133 false (.mov (.t 8)),qg 137 133 false (.call 42 [.t 135,.t 136]),qg 138 133 false (.bin .neq (.t 134) (.t 137)),qo 139 (.pick (.t 133) (.c (.bool true)) (.t 138)),qm 140 139,qg 141 140 false (.mov (.t 11)),qg 142 140 false (.mov (.t 1)),qg 143 140 false (.nilchk (.t 142)),qg 144 140 false (.faddr 24 (.t 143)),qg 145 140 false (.load1 (.t 144)),qg 146 140 false (.mov (.t 8)),qg 147 140 false (.mov (.t 1)),qg 148 140 false (.nilchk (.t 147)),qg 149 140 false (.faddr 6 (.t 148)),qg 150 140 false (.load1 (.t 149)),qg 151 140 false (.bin .sub (.t 146) (.t 150)),qg 152 140 false (.slsl 3 (.t 145) (some (.t 151)) none),qg 153 140 false (.call 20 [.t 141,.t 152]),qg 154 140 false (.not (.t 153)),qo 155 (.pick (.t 140) (.c (.bool true)) (.t 154))]) (qu 155 (qr [qo 4 (.mov (.c (.bool false)))] .ret) .skip)))))))) (qR [qm 91 8,qc 92 .add 91 1,qm 8 92])))))) (qr [qo 4 (.mov (.c (.bool true)))] .ret))))
theorem O5:fF Tryz.prog 7 Tryz.f7 EU [.t 4] 2 er:=⟨Tryz.func7,by decide+kernel,by kernel_rfl,by kernel_rfl,by decide+kernel⟩
theorem O6(P:Prim)(hP:P=dn)(T M:c8)(N:yu M)(O:JL M)(WX:mu M)(Q:JP M)(WY:my M)(U:CA T)(Yj:my T)(W:vS T)(X:yt T)(Y:CW T)(Z:yG T)(UM:EL M)
  (UN:∀(l':List eP)(n':Nat)(i rs:List (List V))(bo:Option Nat)(h:Hp)(K:V->Hp->Prop),n'=l'.length->i=l'.map ca->rs=l'.map ca->l'.length<=64->(∀r∈l',r.delta.length<=10000000)->h 1000300=some ⟨bo,91,3,i⟩->K (.bool true) h->M 20 [.own 1000300 bo 3 n',.sl false 3 rs] h K)
  (bl b2:Nat)(d:SC)(ba:Option Nat)(l:List eP)(n:Nat)(hn:n=l.length)(rows:List (List V))(ds:rows=l.map ca)(km bm:Nat)(m:Option Mv)(mv:V)(od:mv=kS km bm m)(hN:N4 0 1000001 km 1000300)(dr:iq)(tx:List BS)(tr lr:List (List V))(ld:tr=c7 tx)(jW:lr=l.map ca)(z:O4 d l dr tx)
  (R:S->Prop)(hR:∀s s' b,b=true->c6 s s'->iH [.t 4] [.bool b] s'->fG [(0,fx bl (fw d (.own 1000001 ba 3 n) mv)),(1000001,iw ba rows),(50,fI b2 dr (.sl false 1 tr) (.sl false 3 lr))] s'->R s):
  gj P T M EU (S0 [.ptr 0 (some bl) 47 0 0,.ptr 50 (some b2) 31 0 0] (cp [(0,fx bl (fw d (.own 1000001 ba 3 n) mv)),(1000001,iw ba rows),(50,fI b2 dr (.sl false 1 tr) (.sl false 3 lr))])) R (λ_ _=>False) R:=by
 have Px:=z.bb;have hlen:=z.len;have D:=z.b;have I:0<=d.b/\d.b<=4294967295:=⟨Px.1,bZ Px.2 qD⟩;have f:0<=dr.b/\dr.b<=4294967295:=by rw[<-D];exact I
 have A:MQ mv:=by rw[od];exact ti _ _ _
 have hr1:qT 0 mv=true:=Ta A.2;have Tc:ys 0 1000001 mv=true:=by rw[od];exact KH (by rw[hN.d,hN.e];rfl)
 have BD:n<=1000:=by rw[hn];omega
 have yL:l.length<=1000:=by omega
 have B:lr.length=l.length:=by rw[jW,aF]
 have C:lr.length<=1000:=by rw[B];exact yL
 have E:∀r∈tr,∀v∈r,Fz v:=by rw[ld];exact gY _
 have G:∀r∈lr,∀v∈r,Fz v:=by rw[jW];exact fL _
 have PC:(n:Int)=(lr.length:Int):=by rw[B,hn]
 have WZ:(lr.length:Int)=(l.length:Int):=by rw[B]
 have mU:P.dv lr=(lr.length:Int):=gE hP _;have Uh:∀r∈l,r.delta.length<=1000000000:=λr hr=>aV (z.dl r hr) qD;have i1:P.i64 (P.sub dr.b 1):=by rw[sub_eq hP];exact eR hP qW
 have e1:∀q q':Int,q=d.b+(n:Int)->q'=dr.b+(lr.length:Int)->q=q':=λq q' h1 h2=>by rw[h1,h2,<-D,PC]
 cbv
 repeat' first|(refine qA ?_;cbv)|(intro c;cbv)|(refine N 0 bl d (.own 1000001 ba 3 n) mv _ _ ⟨⟨.own _ _ _ _,rfl⟩,A.1⟩ rfl hr1 rfl ?_;cbv)|fail
 refine iv (UL hP z.x1 z.x2 z.x3 z.x4) ?_;cbv
 repeat' first|(refine qA ?_;cbv)|(intro c;cbv)|(refine O 0 bl d (.own 1000001 ba 3 n) mv _ _ ⟨⟨.own _ _ _ _,rfl⟩,A.1⟩ rfl hr1 rfl ?_;cbv)|fail
 refine hJ (oq hP D) ?_;cbv
 repeat' first|(refine qA ?_;cbv)|(intro c;cbv)|(refine WX 0 bl d 1000001 ba n mv _ _ I BD A.1 rfl hr1 rfl λq hq=>?_;cbv)|fail
 refine WY 50 b2 dr tr lr _ _ E G f C rfl λq' ZX=>?_;cbv
 repeat' first|(refine qA ?_;cbv)|(intro c;cbv)|(refine hJ (oq hP (e1 _ _ hq ZX)) ?_;cbv)|fail
 refine Q 0 bl d (.own 1000001 ba 3 n) mv _ _ ⟨⟨.own _ _ _ _,rfl⟩,A.1⟩ rfl hr1 rfl ?_;cbv
 repeat' first|(refine qA ?_;cbv)|(intro c;cbv)|(refine hJ (oq hP z.sf) ?_;cbv)|fail
 refine⟨WV,λy=>[(0,.ptr 0 (some bl) 47 0 0),(1,.ptr 50 (some b2) 31 0 0),(5,qI y.w)],
  λy=>[(0,fx bl (fw d (.own 1000001 ba 3 n) mv)),(1000001,iw ba rows),(50,fI b2 dr (.sl false 1 tr) (.sl false 3 lr))],λy=>(9-y.w).toNat,
  ⟨_,c6.refl _,⟨-1,qW,qW⟩,⟨rfl,rfl,rfl,trivial⟩,⟨rfl,rfl,rfl,trivial⟩⟩,?_⟩
 rintro⟨w,hw⟩;cbv;have hw: -1<=w/\w<=9:=hw
 repeat' first|(refine qA ?_;cbv)|(intro c;cbv)
 refine ab (λg=>?_) (λg=>?_)
 ·have g1:w<=8:=jP hP g;clear g;have i2:P.i64 (P.add w 1):=by rw[add_eq hP];exact eR hP qO
  cbv
  repeat' first|(refine qA ?_;cbv)|(intro c;cbv)|(refine U 0 bl d (.own 1000001 ba 3 n) mv w _ _ ⟨⟨.own _ _ _ _,rfl⟩,A.1⟩ rfl hr1 rfl λla lb le o p hle=>?_;cbv)|fail
  refine ab (λg=>?_) (λg=>?_)
  ·have g2:w<0:=fJ hP g;clear g;have hs:iX d.tb w=⟨0,0,1⟩:=by unfold iX;rw[ae (.inl g2)]
   rw[hs] at o p hle;cbv
   repeat' first|(refine qA ?_;cbv)|(intro c;cbv)|(refine hJ (oq hP hle) ?_;cbv)|(refine iv (SN hP o p) ?_;cbv)|fail
   refine⟨_,c6.refl _,⟨P.add w 1,by rw[add_eq hP];((try simp only[nc] at*);omega)⟩,⟨rfl,rfl,rfl,trivial⟩,⟨rfl,rfl,rfl,trivial⟩,?_⟩;show(9-P.add w 1).toNat<(9-w).toNat;rw[add_eq hP];omega
  have g2:¬w<0:=fM hP g;clear g;cbv
  repeat' first|(refine qA ?_;cbv)|(intro c;cbv)
  refine ab (λg=>?_) (λg=>?_)
  ·have g3:7<w:=fJ hP g;clear g;have hs:iX d.tb w=⟨0,0,1⟩:=by unfold iX;rw[ae (.inr g3)]
   rw[hs] at o p hle;cbv
   repeat' first|(refine qA ?_;cbv)|(intro c;cbv)|(refine hJ (oq hP hle) ?_;cbv)|(refine iv (SN hP o p) ?_;cbv)|fail
   refine⟨_,c6.refl _,⟨P.add w 1,by rw[add_eq hP];((try simp only[nc] at*);omega)⟩,⟨rfl,rfl,rfl,trivial⟩,⟨rfl,rfl,rfl,trivial⟩,?_⟩;show(9-P.add w 1).toNat<(9-w).toNat;rw[add_eq hP];omega
  have g3:¬7<w:=fM hP g;clear g;have hs:iX d.tb w=⟨d.tb (2*w.toNat),d.tb (2*w.toNat+1),0⟩:=by unfold iX;rw[aa qW]
  rw[hs] at o p hle;have o:la=d.tb (2*w.toNat):=o;have p:lb=d.tb (2*w.toNat+1):=p;have hle:le=0:=hle;subst hle;have hj:dr.b<=dr.b+(l.length:Int)/\dr.b+(l.length:Int)<=dr.b+(l.length:Int):=⟨qW,aN _⟩;have W0:gg dr.fs dr.b (l.take (dr.b+(l.length:Int)-dr.b).toNat)=gg dr.fs dr.b l:=by
   have e:(dr.b+(l.length:Int)-dr.b).toNat=l.length:=by omega
   rw[e,aM]
  have hcell:((kC (gg dr.fs dr.b l)).cells.drop (w.toNat*2)).take 2=[qI la,qI lb]:=by
   rw[xG _ _ qW,o,p,z.tb _ qW,z.tb _ qW]
  have Vt:∀(h:Hp)(K:V->Hp->Prop),h 50=some (fI b2 dr (.sl false 1 tr) (.sl false 3 lr))->K (kC (gg dr.fs dr.b l)) h->T 38 [.ptr 50 (some b2) 31 0 0,qI (dr.b+(l.length:Int))] h K:=λh K hk hK=>
   W 50 b2 dr tr l lr _ h K E jW f yL z.who hj hk λtb kH=>by rw[kH,W0];exact hK
  have hc1:∀(h:Hp)(K:V->Hp->Prop),h 50=some (fI b2 dr (.sl false 1 tr) (.sl false 3 lr))->K (qI (dr.b+(l.length:Int))) h->T 35 [.ptr 50 (some b2) 31 0 0] h K:=λh K hk hK=>
   Yj 50 b2 dr tr lr h K E G f C hk λq hq=>by
    have e:q=dr.b+(l.length:Int):=by((try simp only[nc] at*);omega)
    rw[e];exact hK
  refine SO (ops:=PW) (n:=12) rfl ?_;refine SP hP (la:=la) (lb:=lb) (q:=dr.b+(l.length:Int)) (w:=w) (tb:=gg dr.fs dr.b l) (b2:=b2) (wn:=w.toNat) rfl rfl rfl rfl rfl (λK hK=>hc1 _ K rfl hK) (λK hK=>Vt _ K rfl hK) (iu hP qW) (kN hP qW) (by subst hP;rfl) hcell ?_;cbv
  repeat' first|(refine qA ?_;cbv)|(intro c;cbv)
  refine⟨_,c6.refl _,⟨P.add w 1,by rw[add_eq hP];((try simp only[nc] at*);omega)⟩,⟨rfl,rfl,rfl,trivial⟩,⟨rfl,rfl,rfl,trivial⟩,?_⟩;show(9-P.add w 1).toNat<(9-w).toNat;rw[add_eq hP];omega
 clear g;cbv
 repeat' first|(refine qA ?_;cbv)|(intro c;cbv)
 refine⟨WW d.b l.length,λy=>[(0,.ptr 0 (some bl) 47 0 0),(1,.ptr 50 (some b2) 31 0 0),(8,qI y.k)],
  λy=>[(0,fx bl (fw d (.own 1000001 ba 3 n) mv)),(1000001,iw ba rows),(50,fI b2 dr (.sl false 1 tr) (.sl false 3 lr))],λy=>(d.b+(l.length:Int)+2-y.k).toNat,
  ⟨_,c6.refl _,⟨P.sub dr.b 1,by rw[sub_eq hP,D];omega⟩,⟨rfl,rfl,rfl,trivial⟩,⟨rfl,rfl,rfl,trivial⟩⟩,?_⟩
 rintro⟨k,hk⟩;have hk:d.b-1<=k/\k<=d.b+(l.length:Int)+2:=hk;have i3:∀q,q=dr.b+(lr.length:Int)->P.i64 (P.add q 1):=λq hq=>by rw[add_eq hP,hq];exact eR hP qW
 cbv
 repeat' first|(refine qA ?_;cbv)|(intro c;cbv)
 refine Yj 50 b2 dr tr lr _ _ E G f C rfl λqh Yk=>?_;have i4:=i3 qh Yk;cbv
 repeat' first|(refine qA ?_;cbv)|(intro c;cbv)
 refine ab (λg=>?_) (λg=>?_)
 ·have g1:k<=P.add qh 1:=jP hP g;rw[add_eq hP,Yk] at g1;clear g;have i5:P.i64 (P.add k 1):=by rw[add_eq hP];exact eR hP qO
  cbv
  repeat' first|(refine qA ?_;cbv)|(intro c;cbv)|(refine X 0 1000001 bl d ba n rows l mv k _ _ ds hn z.rv I yL A rfl Tc rfl rfl λx y hx hy=>?_;cbv)|(refine Y 0 1000001 km 1000300 bl d ba n rows l mv bm m k _ _ hN ds hn od Uh I yL rfl rfl rfl λl' y' u bo n' i VI J=>?_;cbv)|fail
  refine Z 50 b2 dr tr lr k _ _ E G f C rfl λwt ZY=>?_;have L:wt=fZ d.b l.length k:=by rw[ZY,D,B]
  cbv
  repeat' first|(refine qA ?_;cbv)|(intro c;cbv)
  refine ab (λg=>?_) (λg=>?_)
  ·have g2:wt≠0:=hH hP g;clear g;have j:fZ d.b l.length k≠0:=by rw[<-L];exact g2
   rw[AJ j] at hx hy;have hx:x=[]:=hx;have hy:y=wt:=by rw[hy,L]
   unfold iG at u;rw[ae j] at u;have F:l'=[]:=aB Prod.fst u;have GK:y'=wt:=(aB Prod.snd u).trans L.symm;have Mm:P.int n'=0:=by rw[int_eq hP,VI,F];rfl
   cbv
   repeat' first|(refine qA ?_;cbv)|(intro c;cbv)|(refine hJ (oq hP hy) ?_;cbv)|fail
   refine hJ (oq hP GK) ?_;cbv
   repeat' first|(refine qA ?_;cbv)|(intro c;cbv)|(refine hJ (Pq hP hx) ?_;cbv)|(refine hJ (oq hP Mm) ?_;cbv)|fail
   refine⟨_,c6.refl _,⟨P.add k 1,by rw[add_eq hP];((try simp only[nc] at*);omega)⟩,⟨rfl,rfl,rfl,trivial⟩,⟨rfl,rfl,rfl,trivial⟩,?_⟩;show(d.b+(l.length:Int)+2-P.add k 1).toNat<(d.b+(l.length:Int)+2-k).toNat;rw[add_eq hP];((try simp only[nc] at*);omega)
  have g2:wt=0:=gZ hP g;clear g;have j:fZ d.b l.length k=0:=by rw[<-L];exact g2
  have yK:d.b<=k/\k<=d.b+(l.length:Int):=by
   unfold fZ at j
   split at j
   ·exact absurd j qD
   ·split at j
    ·exact absurd j qD
    ·omega
  obtain⟨a,ha⟩:∃a:Nat,k=d.b+(a:Int):=⟨(k-d.b).toNat,qW⟩;have PO:a<=l.length:=by((try simp only[nc] at*);omega)
  obtain⟨s0,hs0,hs1⟩:=z.tx a PO;rw[<-ha] at hs1;rw[hs1] at hx hy;have hx:x=s0:=hx;have hy:y=0:=hy;unfold iG at u;rw[aa (λh=>h j)] at u;have F:l'=l.drop (k-d.b).toNat:=aB Prod.fst u;have GK:y'=0:=aB Prod.snd u;have H:k-dr.b=(a:Int):=by rw[<-D];((try simp only[nc] at*);omega)
  have W1:(k-d.b).toNat=a:=by((try simp only[nc] at*);omega)
  rw[W1] at F;have W2:tr[a]? =some [.str s0]:=by rw[ld,c7,av,hs0];rfl
  have i6:P.i64 (P.sub k dr.b):=by rw[sub_eq hP,H];exact eR hP qO
  have i7:P.fC 0 (P.sub k dr.b):=by rw[sub_eq hP,H];exact iu hP (aO _)
  have i8:P.fC (P.sub k dr.b) (P.dv lr):=by rw[sub_eq hP,H,mU];exact lE hP (by rw[WZ];((try simp only[nc] at*);omega))
  have i9:P.fC (P.dv lr) (P.dv lr):=lE hP (aN _);have ZZ:P.jn lr (P.sub k dr.b) (P.dv lr)=l'.map ca:=by
   rw[sub_eq hP,H,mU];have e:P.jn lr (a:Int) (lr.length:Int)=(lr.take ((lr.length:Int)).toNat).drop ((a:Int)).toNat:=by subst hP;rfl
   rw[e,aA,aA,aM,jW,F,dm]
  have Ot:l'.length<=64:=by rw[F,aJ];omega
  have W3:∀r∈l',r.delta.length<=10000000:=λr hr=>z.dl r (bC (F▸hr));cbv
  repeat' first|(refine qA ?_;cbv)|(intro c;cbv)|(refine hJ (oq hP hy) ?_;cbv)|fail
  refine hJ (oq hP GK) ?_;cbv
  repeat' first|(refine qA ?_;cbv)|(intro c;cbv)|(refine UM 50 b2 dr tr lr k a s0 _ _ E G f H (aV PO yL) W2 rfl ?_;cbv)|fail
  refine hJ (Pq hP hx) ?_;cbv
  repeat' first|(refine qA ?_;cbv)|(intro c;cbv)|(refine UN l' n' i _ bo _ _ VI J ZZ Ot W3 rfl ?_;cbv)|fail
  refine⟨_,c6.refl _,⟨P.add k 1,by rw[add_eq hP];((try simp only[nc] at*);omega)⟩,⟨rfl,rfl,rfl,trivial⟩,⟨rfl,rfl,rfl,trivial⟩,?_⟩;show(d.b+(l.length:Int)+2-P.add k 1).toNat<(d.b+(l.length:Int)+2-k).toNat;rw[add_eq hP];((try simp only[nc] at*);omega)
 cbv
 repeat' first|(refine qA ?_;cbv)|(intro c;cbv)
 exact hR _ _ _ rfl (c6.refl _) rfl ⟨rfl,rfl,rfl,trivial⟩
def L9(bl b2:Nat)(d:SC)(ba:Option Nat)(n:Nat)(rows:List (List V))(mv:V)(dr:iq)(tr lr:List (List V)):List (Nat×Ob):=[(0,fx bl (fw d (.own 1000001 ba 3 n) mv)),(1000001,iw ba rows),(50,fI b2 dr (.sl false 1 tr) (.sl false 3 lr))]
theorem LC{bl b2:Nat}{d:SC}{ba:Option Nat}{n:Nat}{l:List eP}{km bm:Nat}{m:Option Mv}{dr:iq}{tx:List BS}{a:List eP}:∀p∈L9 bl b2 d ba n (l.map ca) (kS km bm m) dr (c7 tx) (a.map ca),p.2.Fz:=by
 intro p hp;simp only[L9,aw,aD,bw] at hp
 rcases hp with rfl|rfl|rfl
 ·exact jB (.own _ _ _ _) (th _ _ _) bl
 ·exact fL _
 ·exact lD (gY _) (fL _)
theorem O7(bl b2:Nat)(d:SC)(ba:Option Nat)(l:List eP)(km bm:Nat)(m:Option Mv)(hN:N4 0 1000001 km 1000300)(dr:iq)(tx:List BS)(f:O4 d l dr tx):Spec Tryz.prog 7 [.ptr 0 (some bl) 47 0 0,.ptr 50 (some b2) 31 0 0] (cp (L9 bl b2 d ba l.length (l.map ca) (kS km bm m) dr (c7 tx) (l.map ca)))
  λx h'=>∃a,(x=.bool true/\a=L9 bl b2 d ba l.length (l.map ca) (kS km bm m) dr (c7 tx) (l.map ca))/\h'=cp a:=
 fu iD O5 (L:=L9 bl b2 d ba l.length (l.map ca) (kS km bm m) dr (c7 tx) (l.map ca)) (λx a=>x=.bool true/\a=L9 bl b2 d ba l.length (l.map ca) (kS km bm m) dr (c7 tx) (l.map ca)) λR g=>
  O6 dn rfl _ _ RN RG Ct RH CP Kh pX La Cy Ly CS K9
   (λl' n' c rs i h K hn ds e hl hd hk hK=>by
    subst hn ds e;exact oT (RB l' (aV hl qD) hd) (.cons (.own 1000300 i 3 _ _ (jO (by simp) hk) (by simp)) (.cons (.mY _ _) .nil)) hK)
   bl b2 d ba l _ rfl _ rfl km bm m _ rfl hN dr tx _ _ rfl rfl f R λs s' b hb he hr ha=>g s s' _ _ he (eM _ _ _ (λx hx=>by rw[hx,hb];rfl) hr) ha (.bool _) LC ⟨rfl,rfl⟩
structure N5(k ka km kr:Nat):Prop where
 a:k≠ka
 b:k≠kr
 c:ka≠kr
 d:km≠k
 e:km≠ka
 f:km≠kr
 g:N4 0 1000001 km 1000300
 h:km≠50
def PX(T:c8):Prop:=∀(k ka km kr bl b2:Nat)(d:SC)(ba:Option Nat)(n:Nat)(rows:List (List V))(l:List eP)(mv:V)(bm:Nat)(m:Option Mv)(dr:iq)(tx:List BS)(tr lr:List (List V))(h:Hp)(K:V->Hp->Prop),N5 k ka km kr->n=l.length->rows=l.map ca->mv=kS km bm m->tr=c7 tx->lr=l.map ca->O4 d l dr tx->
 h k=some (fx bl (fw d (.own ka ba 3 n) mv))->h ka=some (iw ba rows)->h kr=some (fI b2 dr (.sl false 1 tr) (.sl false 3 lr))->K (.bool true) h->T 7 [.ptr k (some bl) 47 0 0,.ptr kr (some b2) 31 0 0] h K
theorem UO:PX (fm Tryz.prog):=by
 rintro k ka km kr bl b2 d ba n rows l mv bm m dr tx tr lr h K hN rfl rfl rfl rfl rfl t hk a yK hK;obtain⟨n1,n2,r,u,w,x,b,n8⟩:=hN;have c:¬ka=k:=λe=>n1 e.symm;have f:¬kr=k:=λe=>n2 e.symm;have g:¬kr=ka:=λe=>r e.symm;have m1:=Lx b.d;have m2:=Lx b.e;have b0:gW [(0,k),(1000001,ka),(50,kr)] k=0:=by simp[gW]
 have b1:gW [(0,k),(1000001,ka),(50,kr)] ka=1000001:=by simp[gW,c]
 have j:gW [(0,k),(1000001,ka),(50,kr)] kr=50:=by simp[gW,f,g]
 have q:gW [(0,k),(1000001,ka),(50,kr)] km=km:=by simp[gW,u,w,x]
 have y:gD [(0,k),(1000001,ka),(50,kr)] 0=k:=by simp[gD]
 have s:gD [(0,k),(1000001,ka),(50,kr)] 1000001=ka:=by simp[gD]
 have z:gD [(0,k),(1000001,ka),(50,kr)] 50=kr:=by simp[gD]
 have lm:gD [(0,k),(1000001,ka),(50,kr)] km=km:=by simp[gD,m1,m2,n8]
 refine xv [(0,k),(1000001,ka),(50,kr)] (O7 bl b2 d ba l km bm m b dr tx t) (.cons ?_ (.cons ?_ .nil)) (by show([0,1000001,50]:List Nat).Nodup;decide) (by simp[n1,n2,r]) (by simp) (λp hp=>?_) (λp hp=>?_) ?_ ?_
 ·have:=Arg.same (h:=h) (m:=[(0,k),(1000001,ka),(50,kr)]) (.ptr k (some bl) 47 0 0);simpa[V.gM,V.rl,b0] using this
 ·have:=Arg.same (h:=h) (m:=[(0,k),(1000001,ka),(50,kr)]) (.ptr kr (some b2) 31 0 0);simpa[V.gM,V.rl,j] using this
 ·simp only[L9,aw,aD,bw] at hp
  rcases hp with rfl|rfl|rfl<;>simp
 ·refine⟨?_,LC p hp⟩;simp only[L9,aw,aD,bw] at hp
  rcases hp with rfl|rfl|rfl
  ·show(h (gD _ 0)).map _=_;rw[y,hk,aE,iM,pP,q];show some (fx bl (fw d (.own (gW _ ka) ba 3 _) _))=_;rw[b1]
  ·show(h (gD _ 1000001)).map _=_;rw[s,a,aE,jA]
  ·show(h (gD _ 50)).map _=_;rw[z,yK];rfl
 ·rintro v A ⟨_,rfl⟩;rfl
 ·rintro v A ⟨rfl,rfl⟩;have e:mb [(0,k),(1000001,ka),(50,kr)] (Ob.gM (gD [(0,k),(1000001,ka),(50,kr)])) (L9 bl b2 d ba l.length (l.map ca) (kS km bm m) dr (c7 tx) (l.map ca))=[(k,fx bl (fw d (.own ka ba 3 l.length) (kS km bm m))),(ka,iw ba (l.map ca)),(kr,fI b2 dr (.sl false 1 (c7 tx)) (.sl false 3 (l.map ca)))]:=by
   simp only[L9,mb,cu,cB,iM,jA,pP,lm];show[(k,fx bl (fw d (.own (gD _ 1000001) ba 3 l.length) _)),_,_]=_;rw[s];rfl
  rw[e];have B:h.fK [(k,fx bl (fw d (.own ka ba 3 l.length) (kS km bm m))),(ka,iw ba (l.map ca)),(kr,fI b2 dr (.sl false 1 (c7 tx)) (.sl false 3 (l.map ca)))]=h:=by
   funext i
   show(match(if i=k then some _ else if i=ka then some _ else if i=kr then some _ else none) with|some o=>some o|none=>h i)=_
   by_cases h1:i=k
   ·rw[ae h1,h1,hk]
   ·rw[aa h1]
    by_cases h2:i=ka
    ·rw[ae h2,h2,a]
    ·rw[aa h2]
     by_cases h3:i=kr
     ·rw[ae h3,h3,yK]
     ·rw[aa h3]
  rw[B];exact hK
section
variable {P:Prim} {T:c8} {s:S} {d:Nat} {K:S->Prop}
theorem Bb{ty:Nat}(hn:s.h d=none)(hK:∀β:Nat,K ⟨gy s.t d (.ptr d (some β) 2 0 0),Hp.put s.h d ⟨some β,ty,2,[[.int .i64 0,.int .i64 0]]⟩⟩):eH P T ⟨some d,none,.alloc ty [.int .i64 0,.int .i64 0]⟩ s K:=⟨hn,rfl,hK⟩
end
def lV(bl b3:Nat)(hq who la lb:Int)(tb:Nat->Int)(β:Nat):List (Nat×Nat×V):=[(0,37,.ptr 0 (some bl) 31 0 0),(1,38,.ptr 0 (some bl) 31 0 0),(2,39,.int .i64 hq),(3,40,kC tb),(4,41,.ptr 3 (some b3) 4 0 1),(5,42,.int .i64 who),(6,43,.agg [.int .i64 la,.int .i64 lb]),(7,7,.ptr 7 (some β) 2 0 0)]
def PY(la lb:Int)(β:Nat)(done:List Nat):Option Ob:=if fq done 8=true then some ⟨some β,54,2,[[.int .i64 la,.int .i64 lb]]⟩ else if fq done 7=true then some ⟨some β,54,2,[[.int .i64 0,.int .i64 0]]⟩ else none
def ph(la lb:Int)(β:Nat)(done:List Nat)(h0:Hp)(k:Nat):Option Ob:=if k=7 then PY la lb β done else h0 k
def PZ:List (AO×List Nat):=[
 (⟨some 37,none,.mov (.t 0)⟩,[]),
 (⟨some 38,none,.mov (.t 0)⟩,[]),
 (⟨some 39,none,.call 35 [(.t 38)]⟩,[1]),
 (⟨some 40,none,.call 38 [(.t 37),(.t 39)]⟩,[0,2,2]),
 (⟨some 41,none,.faddr 1 (.t 3)⟩,[]),
 (⟨some 42,none,.load1 (.t 41)⟩,[4]),
 (⟨some 43,none,.ixa true 8 2 (.t 40) (.t 42)⟩,[3,5]),
 (⟨some 7,none,.alloc 54 [(.int .i64 0),(.int .i64 0)]⟩,[]),
 (⟨none,none,.store 2 (.t 7) (.t 43)⟩,[7,6,3,0,1,2,3,4,5,6,7])]
section
variable {bl b3 β:Nat} {hq who la lb:Int} {tb:Nat->Int}
theorem P0:((lV bl b3 hq who la lb tb β).map (·.1)).Nodup:=by show([0,1,2,3,4,5,6,7]:List Nat).Nodup;decide
theorem Bn:((lV bl b3 hq who la lb tb β).map (·.2.1)).Nodup:=by show([37,38,39,40,41,42,43,7]:List Nat).Nodup;decide
end
theorem SQ{P:Prim}(hP:P=dn){T:c8}{K:S->Prop}{t0:Nat->V}{h0:Hp}{bl b3 wn:Nat}{ob:Ob}{row:List V}{hq who la lb:Int}{tb:Nat->Int}(f:1<row.length/\row.getD 1 .iC=qI who)
  (g0:t0 0=.ptr 0 (some bl) 31 0 0)(g3:t0 3=.ptr 3 (some b3) 4 0 0)(g:h0 0=some ob)(h3:h0 3=some ⟨some b3,95,4,[row]⟩)(hz:h0 7=none)
  (hc1:∀(h:Hp)(K:V->Hp->Prop),h 0=some ob->K (qI hq) h->T 35 [.ptr 0 (some bl) 31 0 0] h K)(m:∀(h:Hp)(K:V->Hp->Prop),h 0=some ob->K (kC tb) h->T 38 [.ptr 0 (some bl) 31 0 0,qI hq] h K)
  (n:P.fC 0 who)(q:P.iO who 8)(t:P.nat who=wn)(l:((kC tb).cells.drop (wn*2)).take 2=[qI la,qI lb])
  (hK:∀β,K ⟨L8 (lV bl b3 hq who la lb tb β) t0,Gm [(7,some ⟨some β,54,2,[[qI la,qI lb]]⟩)] h0⟩):lL P T PZ 9 [] ⟨t0,h0⟩ K:=by
 refine pU rfl (λdone s=>∃β,s=⟨eO done (lV bl b3 hq who la lb tb β) t0,ph la lb β done h0⟩) (λdone i o ps s hj hf a u w K' c=>?_) (λdone s hd w=>?_) ?_
 ·obtain⟨β,rfl⟩:=w
  match i,hj with
  |0,hj=>
   cases hj;show eH P T _ ⟨eO done (lV bl b3 hq who la lb tb β) t0,ph la lb β done h0⟩ K';refine gR (v:=.ptr 0 (some bl) 31 0 0) ((gX (done:=done) (lV bl b3 hq who la lb tb β) t0 rfl).trans g0) ?_;refine c _ ⟨β,?_⟩;show(⟨gy (eO done (lV bl b3 hq who la lb tb β) t0) 37 _,ph la lb β done h0⟩:S)=⟨eO (0::done) (lV bl b3 hq who la lb tb β) t0,ph la lb β (0::done) h0⟩;rw[dS (k:=0) (lV bl b3 hq who la lb tb β) t0 P0 Bn (.head _)];rfl
  |1,hj=>
   cases hj;show eH P T _ ⟨eO done (lV bl b3 hq who la lb tb β) t0,ph la lb β done h0⟩ K';refine gR (v:=.ptr 0 (some bl) 31 0 0) ((gX (done:=done) (lV bl b3 hq who la lb tb β) t0 rfl).trans g0) ?_;refine c _ ⟨β,?_⟩;show(⟨gy (eO done (lV bl b3 hq who la lb tb β) t0) 38 _,ph la lb β done h0⟩:S)=⟨eO (1::done) (lV bl b3 hq who la lb tb β) t0,ph la lb β (1::done) h0⟩;rw[dS (k:=1) (lV bl b3 hq who la lb tb β) t0 P0 Bn (qM 1 rfl)];rfl
  |2,hj=>
   cases hj;show eH P T _ ⟨eO done (lV bl b3 hq who la lb tb β) t0,ph la lb β done h0⟩ K';refine vU (dF (done:=done) (a 1 qD) (lV bl b3 hq who la lb tb β) t0 Bn (qM 1 rfl)) ?_;refine hc1 _ _ g ?_;refine c _ ⟨β,?_⟩;show(⟨gy (eO done (lV bl b3 hq who la lb tb β) t0) 39 _,ph la lb β done h0⟩:S)=⟨eO (2::done) (lV bl b3 hq who la lb tb β) t0,ph la lb β (2::done) h0⟩;rw[dS (k:=2) (lV bl b3 hq who la lb tb β) t0 P0 Bn (qM 2 rfl)];rfl
  |3,hj=>
   cases hj;show eH P T _ ⟨eO done (lV bl b3 hq who la lb tb β) t0,ph la lb β done h0⟩ K';show T 38 [eO done (lV bl b3 hq who la lb tb β) t0 37,eO done (lV bl b3 hq who la lb tb β) t0 39] (ph la lb β done h0) _;rw[(dF (done:=done) (a 0 qD) (lV bl b3 hq who la lb tb β) t0 Bn (.head _)),(dF (done:=done) (a 2 qD) (lV bl b3 hq who la lb tb β) t0 Bn (qM 2 rfl))];refine m _ _ g ?_;refine c _ ⟨β,?_⟩;show(⟨gy (eO done (lV bl b3 hq who la lb tb β) t0) 40 _,ph la lb β done h0⟩:S)=⟨eO (3::done) (lV bl b3 hq who la lb tb β) t0,ph la lb β (3::done) h0⟩;rw[dS (k:=3) (lV bl b3 hq who la lb tb β) t0 P0 Bn (qM 3 rfl)];rfl
  |4,hj=>
   cases hj;show eH P T _ ⟨eO done (lV bl b3 hq who la lb tb β) t0,ph la lb β done h0⟩ K';refine jf ((gX (done:=done) (lV bl b3 hq who la lb tb β) t0 rfl).trans g3) ?_;refine c _ ⟨β,?_⟩;show(⟨gy (eO done (lV bl b3 hq who la lb tb β) t0) 41 _,ph la lb β done h0⟩:S)=⟨eO (4::done) (lV bl b3 hq who la lb tb β) t0,ph la lb β (4::done) h0⟩;rw[dS (k:=4) (lV bl b3 hq who la lb tb β) t0 P0 Bn (qM 4 rfl)];rfl
  |5,hj=>
   cases hj;show eH P T _ ⟨eO done (lV bl b3 hq who la lb tb β) t0,ph la lb β done h0⟩ K';refine jw (v:=qI who) (r:=row) (b:=some b3) (ty:=95) (dF (done:=done) (a 4 qD) (lV bl b3 hq who la lb tb β) t0 Bn (qM 4 rfl)) h3 qD f ?_;refine c _ ⟨β,?_⟩;show(⟨gy (eO done (lV bl b3 hq who la lb tb β) t0) 42 _,ph la lb β done h0⟩:S)=⟨eO (5::done) (lV bl b3 hq who la lb tb β) t0,ph la lb β (5::done) h0⟩;rw[dS (k:=5) (lV bl b3 hq who la lb tb β) t0 P0 Bn (qM 5 rfl)];rfl
  |6,hj=>
   cases hj;show eH P T _ ⟨eO done (lV bl b3 hq who la lb tb β) t0,ph la lb β done h0⟩ K';refine xF (dF (done:=done) (a 3 qD) (lV bl b3 hq who la lb tb β) t0 Bn (qM 3 rfl)) (dF (done:=done) (a 5 qD) (lV bl b3 hq who la lb tb β) t0 Bn (qM 5 rfl)) n q t l ?_;refine c _ ⟨β,?_⟩;show(⟨gy (eO done (lV bl b3 hq who la lb tb β) t0) 43 _,ph la lb β done h0⟩:S)=⟨eO (6::done) (lV bl b3 hq who la lb tb β) t0,ph la lb β (6::done) h0⟩;rw[dS (k:=6) (lV bl b3 hq who la lb tb β) t0 P0 Bn (qM 6 rfl)];rfl
  |7,hj=>
   cases hj;show eH P T _ ⟨eO done (lV bl b3 hq who la lb tb β) t0,ph la lb β done h0⟩ K';have A:fq done 8=false:=by
    cases B:fq done 8
    ·rfl
    ·exact absurd (u 8 _ _ rfl B 7 qD) (by rw[hf];decide)
   refine Bb (by show(if(7:Nat)=7 then PY la lb β done else h0 7)=none;rw[ae rfl];unfold PY;rw[A,hf];rfl) λd=>?_;refine c _ ⟨d,?_⟩;have e1:eO done (lV bl b3 hq who la lb tb β) t0=eO done (lV bl b3 hq who la lb tb d) t0:=by
    funext z
    simp only[eO,lV,hf];rfl
   have y:Hp.put (ph la lb β done h0) 7 ⟨some d,54,2,[[qI 0,qI 0]]⟩=ph la lb d (7::done) h0:=by
    funext z
    unfold Hp.put ph PY
    by_cases hz:z=7
    ·subst hz;rw[ae rfl,ae rfl,cm (i:=7) (j:=8) qD,A,ik];rfl
    ·rw[aa hz,aa hz,aa hz]
   show(⟨gy (eO done (lV bl b3 hq who la lb tb β) t0) 7 _,Hp.put (ph la lb β done h0) 7 _⟩:S)=_;rw[e1,y,<-dS (k:=7) (lV bl b3 hq who la lb tb d) t0 P0 Bn (qM 7 rfl)]
  |8,hj=>
   cases hj;show eH P T _ ⟨eO done (lV bl b3 hq who la lb tb β) t0,ph la lb β done h0⟩ K';have C:=a 7 qD;refine lT (v:=.agg [qI la,qI lb]) (r:=[qI 0,qI 0]) (b:=some β) (ty:=54) (dF (done:=done) (a 7 qD) (lV bl b3 hq who la lb tb β) t0 Bn (qM 7 rfl)) (dF (done:=done) (a 6 qD) (lV bl b3 hq who la lb tb β) t0 Bn (qM 6 rfl)) ⟨rfl,rfl⟩ (by show(if(7:Nat)=7 then PY la lb β done else h0 7)=_;rw[ae rfl];unfold PY;rw[hf,C];rfl) qD (by show(0:Nat)+2<=2;decide) ?_;refine c _ ⟨β,?_⟩;have y:Hp.put (ph la lb β done h0) 7 ⟨some β,54,2,[kf [qI 0,qI 0] 0 (V.cells (.agg [qI la,qI lb]))]⟩=ph la lb β (8::done) h0:=by
    funext z
    unfold Hp.put ph PY
    by_cases hz:z=7
    ·subst hz;rw[ae rfl,ae rfl,ik];rfl
    ·rw[aa hz,aa hz,aa hz]
   show(⟨eO done (lV bl b3 hq who la lb tb β) t0,Hp.put (ph la lb β done h0) 7 _⟩:S)=_;rw[y,<-mf (k:=8) (lV bl b3 hq who la lb tb β) t0 rfl]
  |i+9,hj=>exact absurd (aj.1 hj).1 (by show¬i+9<9;omega)
 ·obtain⟨β,rfl⟩:=w;rw[nX _ _ (λp hp=>hd p.1 ?_)]
  ·have e:ph la lb β done h0=Gm [(7,some ⟨some β,54,2,[[qI la,qI lb]]⟩)] h0:=by
    funext k
    unfold ph PY;rw[ae (hd 8 qD)];simp only[Gm]
    by_cases k1:k=7
    ·subst k1;rfl
    ·have:Nat.beq k 7=false:=by
      cases hb:Nat.beq k 7
      ·rfl
      ·exact absurd (bA hb) k1
     rw[aa k1,this];try rfl
   rw[e];exact hK β
  ·have hm:p.1∈(lV bl b3 hq who la lb tb β).map (·.1):=aC.2 ⟨p,hp,rfl⟩;have gf:∀x∈([0,1,2,3,4,5,6,7]:List Nat),x<9:=by decide
   exact gf _ hm
 ·refine⟨0,?_⟩;rw[nW];have e:ph la lb 0 [] h0=h0:=by
   funext k
   unfold ph
   by_cases k1:k=7
   ·rw[ae k1,k1,hz];rfl
   ·rw[aa k1]
  rw[e]
def sL(d:iq)(tx:List BS)(l:List eP)(base who seq:Int)(x:List Part):GM:=
 if who<0\/7<who\/seq<0\/2147483647<seq then⟨d,tx,l,0,1⟩
 else if ed x≠0 then⟨d,tx,l,0,ed x⟩
 else if 0<seq/\seq=gg d.fs d.b l (2*who.toNat) then⟨d,tx,l,gg d.fs d.b l (2*who.toNat+1),0⟩
 else if seq<=gg d.fs d.b l (2*who.toNat) then⟨d,tx,l,0,10⟩
 else if fZ d.b l.length base≠0 then⟨d,tx,l,0,fZ d.b l.length base⟩
 else if((tx.getD (base-d.b).toNat []).length:Int)≠kU x then⟨d,tx,l,0,4⟩
 else if(il x (l.drop (base-d.b).toNat)).2≠0 then⟨d,tx,l,0,(il x (l.drop (base-d.b).toNat)).2⟩
 else oL d tx l ⟨who,seq,(il x (l.drop (base-d.b).toNat)).1⟩
structure Yl(x0:List Part)(l':List eP) where
 i:Nat
 k:Int
 x:List Part
 dx:List (List V)
 hi:i<=l'.length
 hk:k=(i:Int)
 wc:dx=x.map bd
 hx:fH x
 hf:il x (l'.drop i)=il x0 l'
def qL:AC:=qr [qo 3 (.box 95 4 (.t 1)),qz 4 0,qz 5 0] (qq (qr [qf 13 1 3,ql 14 13,qc 15 .lss 14 0,qm 16 15,qg 17 16 false (.faddr 1 (.t 3)),qg 18 16 false (.load1 (.t 17)),qg 19 16 false (.bin .gtr (.t 18) (qk 7)),qo 20 (.pick (.t 16) (.c (.bool true)) (.t 19)),qm 21 20,qg 22 21 false (.faddr 2 (.t 3)),qg 23 21 false (.load1 (.t 22)),qg 24 21 false (.bin .lss (.t 23) (qk 0)),qo 25 (.pick (.t 21) (.c (.bool true)) (.t 24)),qm 26 25,qg 27 26 false (.faddr 2 (.t 3)),qg 28 26 false (.load1 (.t 27)),qg 29 26 false (.bin .gtr (.t 28) (qk 2147483647)),qo 30 (.pick (.t 26) (.c (.bool true)) (.t 29))] (qu 30 (qr [qz 4 0,qz 5 1] .ret) .skip)) (qq (qr [qf 31 3 3,ql 32 31,qa 33 89 [.t 32],qm 6 33] (qr [qm 34 6,qc 35 .neq 34 0] (qu 35 (qr [qm 36 6,qz 4 0,qm 5 36] .ret) .skip))) (qq (.jN [(qm 37 0,[]),(qm 38 0,[]),(qa 39 35 [.t 38],[1]),(qa 40 38 [.t 37,.t 39],[0,2,2]),(qf 41 1 3,[]),(ql 42 41,[4]),(qo 43 (.ixa true 8 2 (.t 40) (.t 42)),[3,5]),(qo 7 (.alloc 54 Bo),[]),(qs 2 7 43,[7,6,3,0,1,2,3,4,5,6,7])]) (qq (qr [qf 44 2 3,ql 45 44,qc 46 .gtr 45 0,qm 47 46,qg 48 47 true (.faddr 2 (.t 3)),qg 49 47 true (.load1 (.t 48)),qg 50 47 true (.faddr 0 (.t 7)),qg 51 47 true (.load1 (.t 50)),qg 52 47 true (.bin .eql (.t 49) (.t 51)),qo 53 (.pick (.t 47) (.t 52) (.c (.bool false)))] (qu 53 (qr [qf 54 1 7,ql 55 54,qm 4 55,qz 5 0] .ret) .skip)) (qq (qr [qf 56 2 3,ql 57 56,qf 58 0 7,ql 59 58,qb 60 .leq 57 59] (qu 60 (qr [qz 4 0,qz 5 10] .ret) .skip)) (qq (qr [qm 61 0,qf 62 0 3,ql 63 62,qa 64 41 [.t 61,.t 63],qm 8 64] (qr [qm 65 8,qc 66 .neq 65 0] (qu 66 (qr [qm 67 8,qz 4 0,qm 5 67] .ret) .skip))) (qq (qq (.region true [qm 68 0,qf 69 0 3,ql 70 69,qa 71 42 [.t 68,.t 70],qo 72 (.len true (.t 71)),qf 73 3 3,ql 74 73,qa 75 90 [.t 74],qb 76 .neq 72 75]) (qu 76 (qr [qz 4 0,qz 5 4] .ret) .skip)) (qr [qf 77 3 3,ql 78 77,qm 9 78,qz 10 0] (qq (qq (.region true [qm 79 0,qn 80 79,qf 81 24 80,ql 82 81,qf 83 0 3,ql 84 83,qm 85 0,qn 86 85,qf 87 6 86,ql 88 87,qb 89 .sub 84 88,qo 90 (.slsl 3 (.t 82) (some (.t 89)) none),qo 91 (.len false (.t 90)),qz 92 0]) (.block 0 (.loop (qr [qb 93 .lss 92 91] (qq (qu 93 .skip (.exit 0)) (qq (.block 1 (qr [qo 94 (.iaddr 3 (.t 90) (.t 92)),qd 95 3 94,qo 12 (.alloc 91 xI),qs 3 12 95] (qr [qf 97 2 12,ql 98 97,qm 99 9,qa 100 91 [.t 98,.t 99],qm 96 100,qx 101 0 96,qx 102 1 96,qx 103 2 96,qm 9 102,qm 10 103] (qr [qm 104 10,qc 105 .neq 104 0] (qu 105 (qr [qm 106 10,qz 4 0,qm 5 106] .ret) .skip))))) (qR [qc 107 .add 92 1,qm 92 107]))))))) (qr [qm 108 0,qf 109 1 3,ql 110 109,qf 111 2 3,ql 112 111,qm 113 9,qo 114 (.build xI [(0,1,(.t 110)),(1,1,(.t 112)),(2,1,(.t 113))]),qa 115 44 [.t 108,.t 114],qx 116 0 115,qx 117 1 115,qm 4 116,qm 5 117] .ret))))))))))
theorem O8:fF Tryz.prog 46 Tryz.f46 qL [.t 4,.t 5] 2 er:=⟨Tryz.func46,by decide+kernel,by kernel_rfl,by kernel_rfl,by decide+kernel⟩
def Ym(bl:Nat)(ob:Ob)(row:List V)(s:S):Prop:=∃b3:Nat,PI [(0,.ptr 0 (some bl) 31 0 0),(3,.ptr 3 (some b3) 4 0 0)] s/\PJ [(0,some ob),(3,some ⟨some b3,95,4,[row]⟩),(7,none),(12,none)] s
theorem LD(P:Prim)(hP:P=dn)(T i:c8)(bl:Nat)(ob:Ob)(base who seq:Int)(dr:List (List V))(c:Int)(b:gK T 89 [.sl false 3 dr] (qI c))
  (N R:S->Prop)(d:∀(s s':S)(e:Int),(((who<0\/7<who\/seq<0\/2147483647<seq)/\e=1)\/(¬(who<0\/7<who\/seq<0\/2147483647<seq)/\c≠0/\e=c))->c6 s s'->iH [.t 4,.t 5] [qI 0,qI e] s'->fG [(0,ob)] s'->R s)
  (hN:¬(who<0\/7<who\/seq<0\/2147483647<seq)->c=0->∀s,Ym bl ob [qI base,qI who,qI seq,.sl false 3 dr] s->N s):gj P T i (pV 3 qL .skip) (S0 [.ptr 0 (some bl) 31 0 0,.agg [qI base,qI who,qI seq,.sl false 3 dr]] (cp [(0,ob)])) N (λ_ _=>False) R:=by
 cbv
 repeat' first|(refine qA ?_;cbv)|(intro a;cbv)
 refine ab (λg=>?_) (λg=>?_)
 ·have g0:who<0:=fJ hP g;cbv
  repeat' first|(refine qA ?_;cbv)|(intro a;cbv)
  exact d _ _ _ (.inl ⟨.inl g0,rfl⟩) (c6.refl _) rfl ⟨rfl,trivial⟩
 have g0:¬who<0:=fM hP g;clear g;cbv
 repeat' first|(refine qA ?_;cbv)|(intro a;cbv)
 refine ab (λg=>?_) (λg=>?_)
 ·have g1:7<who:=fJ hP g;cbv
  repeat' first|(refine qA ?_;cbv)|(intro a;cbv)
  exact d _ _ _ (.inl ⟨.inr (.inl g1),rfl⟩) (c6.refl _) rfl ⟨rfl,trivial⟩
 have g1:¬7<who:=fM hP g;clear g;cbv
 repeat' first|(refine qA ?_;cbv)|(intro a;cbv)
 refine ab (λg=>?_) (λg=>?_)
 ·have g2:seq<0:=fJ hP g;cbv
  repeat' first|(refine qA ?_;cbv)|(intro a;cbv)
  exact d _ _ _ (.inl ⟨.inr (.inr (.inl g2)),rfl⟩) (c6.refl _) rfl ⟨rfl,trivial⟩
 have g2:¬seq<0:=fM hP g;clear g;cbv
 repeat' first|(refine qA ?_;cbv)|(intro a;cbv)
 refine ab (λg=>?_) (λg=>?_)
 ·have g3:2147483647<seq:=fJ hP g;cbv
  repeat' first|(refine qA ?_;cbv)|(intro a;cbv)
  exact d _ _ _ (.inl ⟨.inr (.inr (.inr g3)),rfl⟩) (c6.refl _) rfl ⟨rfl,trivial⟩
 have g3:¬2147483647<seq:=fM hP g;clear g;cbv
 repeat' first|(refine qA ?_;cbv)|(intro a;cbv)
 have f:¬(who<0\/7<who\/seq<0\/2147483647<seq):=λh=>h.elim g0 (λh=>h.elim g1 (λh=>h.elim g2 g3));refine b _ _ ?_;cbv
 repeat' first|(refine qA ?_;cbv)|(intro a;cbv)
 refine ab (λg=>?_) (λg=>?_)
 ·have g4:c≠0:=hH hP g;cbv
  repeat' first|(refine qA ?_;cbv)|(intro a;cbv)
  exact d _ _ _ (.inr ⟨f,g4,rfl⟩) (c6.refl _) rfl ⟨rfl,trivial⟩
 have g4:c=0:=gZ hP g;cbv;exact hN f g4 _ ⟨_,⟨rfl,rfl,trivial⟩,⟨rfl,rfl,rfl,rfl,trivial⟩⟩
theorem LF(P:Prim)(hP:P=dn)(T T1:c8)(WX:my T)(W4:vS T)(L:yG T)(UP:EL T1)(FE:Lw T)(bl:Nat)(d:iq)(tx:List BS)(tr:List (List V))(ld:tr=c7 tx)(l:List eP)(lr:List (List V))(jW:lr=l.map ca)(o:tX d tx l)
  (base who seq:Int)(hw:0<=who/\who<=7)(x0:List Part)(Ss:fH x0)(dr:List (List V))(SF:dr=x0.map bd)(ix:Int)(pd:gK T1 90 [.sl false 3 dr] (qI ix))
  (mC mD:List Part->List Part->List Part)(mE:List Part->List Part->Int)(O1:∀a x,mD a x=(iS a x).2.1)(O2:∀a x,mE a x=(iS a x).2.2)
  (M:∀a x D dx dc dd,fH a->fH x->D=a.map bd->dx=x.map bd->dc=(mC a x).map bd->dd=(mD a x).map bd->gK T 91 [.sl false 3 D,.sl false 3 dx] (.tup [.sl false 3 dc,.sl false 3 dd,qI (mE a x)]))
  (la lb:Int)(Vw:la=gg d.fs d.b l (2*who.toNat))(Vx:lb=gg d.fs d.b l (2*who.toNat+1))
  (Y:GM)(f:Y=if 0<seq/\seq=la then⟨d,tx,l,lb,0⟩
   else if seq<=la then⟨d,tx,l,0,10⟩
   else if fZ d.b l.length base≠0 then⟨d,tx,l,0,fZ d.b l.length base⟩
   else if((tx.getD (base-d.b).toNat []).length:Int)≠ix then⟨d,tx,l,0,4⟩
   else if(il x0 (l.drop (base-d.b).toNat)).2≠0 then⟨d,tx,l,0,(il x0 (l.drop (base-d.b).toNat)).2⟩
   else oL d tx l ⟨who,seq,(il x0 (l.drop (base-d.b).toNat)).1⟩)
  (R:S->Prop)(N:∀(s s':S)(d':iq)(Yn:List BS)(l':List eP)(Uf Ug:List (List V))(v e:Int),(⟨d',Yn,l',v,e⟩:GM)=Y->Uf=c7 Yn->Ug=l'.map ca->c6 s s'->iH [.t 4,.t 5] [qI v,qI e] s'->fG [(0,fI bl d' (.sl false 1 Uf) (.sl false 3 Ug))] s'->R s)
  (s:S)(hs:Ym bl (fI bl d (.sl false 1 tr) (.sl false 3 lr)) [qI base,qI who,qI seq,.sl false 3 dr] s):gj P T T1 (kJ 3 qL) s R (λ_ _=>False) R:=by
 obtain⟨b3,hs1,hs2⟩:=hs;refine lC (Q:=λs=>gj P T T1 (kJ 3 qL) s R (λ_ _=>False) R) _ _ hs1 hs2 (λt h=>?_);show lL P T PZ 9 [] _ (λs=>gj P T T1 (kJ 4 qL) s R (λ_ _=>False) R);have W5:lr.length=l.length:=by rw[jW,aF]
 have Z1:=o.n;have J:0<=d.b/\d.b<=4294967295:=⟨o.b.1,bZ o.b.2 qD⟩;have Px:=o.b;have ht:∀r∈tr,∀v∈r,Fz v:=by rw[ld];exact gY _
 have O:∀r∈lr,∀v∈r,Fz v:=by rw[jW];exact fL _
 have W0:gg d.fs d.b (l.take (d.b+(l.length:Int)-d.b).toNat)=gg d.fs d.b l:=by
  have e:(d.b+(l.length:Int)-d.b).toNat=l.length:=by omega
  rw[e,aM]
 have hcell:((kC (gg d.fs d.b l)).cells.drop (who.toNat*2)).take 2=[qI la,qI lb]:=by
  rw[xG _ _ qW,Vw,Vx]
 have WZ:(lr.length:Int)=(l.length:Int):=by rw[W5]
 have UQ:P.dv lr=(l.length:Int):=by rw[gE hP,W5]
 have UR:fZ d.b lr.length base=fZ d.b l.length base:=by rw[W5]
 refine SQ hP (bl:=bl) (b3:=b3) (ob:=fI bl d (.sl false 1 tr) (.sl false 3 lr)) (row:=[qI base,qI who,qI seq,.sl false 3 dr]) (hq:=d.b+(l.length:Int)) (who:=who) (la:=la) (lb:=lb) (tb:=gg d.fs d.b l) (wn:=who.toNat) ⟨by show(1:Nat)<4;decide,rfl⟩ rfl rfl rfl rfl rfl
  (λh K hk hK=>WX 0 bl d tr lr h K ht O J qW hk λq hq=>by
   have e:q=d.b+(l.length:Int):=by rw[hq,WZ]
   rw[e];exact hK)
  (λh K hk hK=>W4 0 bl d tr l lr _ h K ht jW J qW o.who ⟨qW,aN _⟩ hk λtb kH=>by rw[kH,W0];exact hK)
  (iu hP hw.1) (kN hP qW) (by subst hP;rfl) hcell λβ=>?_
 clear hcell;cbv
 repeat' first|(refine qA ?_;cbv)|(intro c;cbv)
 refine ab (λg=>?_) (λg=>?_)
 ·have g5:0<seq:=fJ hP g;clear g;cbv
  repeat' first|(refine qA ?_;cbv)|(intro c;cbv)
  refine ab (λg=>?_) (λg=>?_)
  ·have g6:seq=la:=nG hP g;rw[ae ⟨g5,g6⟩] at f;cbv
   repeat' first|(refine qA ?_;cbv)|(intro c;cbv)
   exact N _ _ d tx l tr lr _ _ f.symm ld jW (c6.refl _) rfl ⟨rfl,trivial⟩
  have g6:¬seq=la:=nH hP g;rw[aa (λh=>g6 h.2)] at f;clear g;cbv
  repeat' first|(refine qA ?_;cbv)|(intro c;cbv)
  refine ab (λg=>?_) (λg=>?_)
  ·have g7:seq<=la:=jP hP g;rw[ae g7] at f;cbv
   repeat' first|(refine qA ?_;cbv)|(intro c;cbv)
   exact N _ _ d tx l tr lr _ _ f.symm ld jW (c6.refl _) rfl ⟨rfl,trivial⟩
  have g7:¬seq<=la:=kg hP g;rw[aa g7] at f;clear g;cbv
  repeat' first|(refine qA ?_;cbv)|(intro c;cbv)
  refine L 0 bl d tr lr base _ _ ht O J qO rfl λwt F=>?_;rw[UR] at F;rw[<-F] at f;cbv
  repeat' first|(refine qA ?_;cbv)|(intro c;cbv)
  refine ab (λg=>?_) (λg=>?_)
  ·have g8:wt≠0:=hH hP g;rw[ae g8] at f;cbv
   repeat' first|(refine qA ?_;cbv)|(intro c;cbv)
   exact N _ _ d tx l tr lr _ _ f.symm ld jW (c6.refl _) rfl ⟨rfl,trivial⟩
  have g8:wt=0:=gZ hP g;rw[aa (λh=>h g8)] at f;clear g;have yK:d.b<=base/\base<=d.b+(l.length:Int):=by
   have p:fZ d.b l.length base=0:=by rw[<-F];exact g8
   unfold fZ at p
   split at p
   ·exact absurd p qD
   ·split at p
    ·exact absurd p qD
    ·omega
  obtain⟨a,ha⟩:∃a:Nat,(base-d.b).toNat=a:=⟨_,rfl⟩;have u:base-d.b=(a:Int):=by omega
  have PO:a<=l.length:=by omega
  rw[ha] at f;obtain⟨B,hs0⟩:∃B,tx[a]? =some B:=⟨_,af (by have:=o.EP;omega)⟩;have W6:tx.getD a []=B:=by rw[ar,hs0];rfl
  rw[W6] at f;have U:tr[a]? =some [.str B]:=by rw[ld,c7,av,hs0];rfl
  have W:P.c9 B=(B.length:Int):=da hP _;have i6:P.i64 (P.sub base d.b):=by rw[sub_eq hP,u];exact eR hP qO
  have i7:P.fC 0 (P.sub base d.b):=by rw[sub_eq hP,u];exact iu hP (aO _)
  have i8:P.fC (P.sub base d.b) (P.dv lr):=by rw[sub_eq hP,u,UQ];exact lE hP qO
  have i9:P.fC (P.dv lr) (P.dv lr):=lE hP (aN _);obtain⟨l',C⟩:∃l',l'=l.drop a:=⟨_,rfl⟩;rw[<-C] at f;have G:P.jn lr (P.sub base d.b) (P.dv lr)=l'.map ca:=by
   rw[sub_eq hP,u,gE hP];have e:P.jn lr (a:Int) (lr.length:Int)=(lr.take ((lr.length:Int)).toNat).drop ((a:Int)).toNat:=by subst hP;rfl
   rw[e,aA,aA,aM,jW,C,dm]
  obtain⟨rs,z⟩:∃rs,P.jn lr (P.sub base d.b) (P.dv lr)=rs:=⟨_,rfl⟩;rw[z] at G;have E:P.dv rs=(l'.length:Int):=by rw[gE hP,G,aF]
  have H:∀r∈l',r.Ok:=λr hr=>o.rv.2 r (bC (C▸hr));have CX:l'.length<=64:=by rw[C,aJ];omega
  cbv
  repeat' first|(refine qA ?_;cbv)|(intro c;cbv)
  refine UP 0 bl d tr lr base a B _ _ ht O J u qW U rfl ?_;cbv
  repeat' first|(refine qA ?_;cbv)|(intro c;cbv)|(refine pd _ _ ?_;cbv)|fail
  refine ab (λg=>?_) (λg=>?_)
  ·have g9:P.c9 B≠ix:=hH hP g;have f:=f.trans (ae (λe=>g9 (W.trans e)));cbv
   repeat' first|(refine qA ?_;cbv)|(intro c;cbv)
   exact N _ _ d tx l tr lr _ _ f.symm ld jW (c6.refl _) rfl ⟨rfl,trivial⟩
  have g9:P.c9 B=ix:=gZ hP g;have f:=f.trans (aa (λh=>h (W.symm.trans g9)));clear g;cbv
  repeat' first|(refine qA ?_;cbv)|(intro c;cbv)
  have US:=z;refine⟨Yl x0 l',λy=>[(0,.ptr 0 (some bl) 31 0 0),(3,.ptr 3 (some b3) 4 0 0),(9,.sl false 3 y.dx),(90,.sl false 3 (P.jn lr (P.sub base d.b) (P.dv lr))),(91,qI (P.dv (P.jn lr (P.sub base d.b) (P.dv lr)))),(92,qI y.k)],
   λy=>[(0,fI bl d (.sl false 1 tr) (.sl false 3 lr)),(3,⟨some b3,95,4,[[qI base,qI who,qI seq,.sl false 3 dr]]⟩)],λy=>l'.length-y.i,
   ⟨_,c6.refl _,⟨0,0,x0,dr,aP _,rfl,SF,Ss,rfl⟩,⟨rfl,rfl,rfl,rfl,rfl,rfl,trivial⟩,⟨rfl,rfl,trivial⟩⟩,?_⟩
  rw[z];rintro⟨i,k,j,dx,hi,hk,wc,X,hf⟩;cbv;refine ab (λg=>?_) (λg=>?_)
  ·have k1:k<P.dv rs:=fJ hP g;rw[E] at k1;clear g;have m:i<l'.length:=by((try simp only[nc] at*);omega)
   obtain⟨r,ku⟩:∃r,l'[i]? =some r:=⟨_,af m⟩;have A:P.row rs (P.nat k) [qI r.who,qI r.seq,.sl false 3 (r.delta.map bd)]:=ga hP hk (by rw[G,av,ku];rfl);have Z:=(H r (ax ku)).2.2;have SG:il j (l'.drop i)=if mE r.delta j≠0 then([],mE r.delta j) else il (mD r.delta j) (l'.drop (i+1)):=by
    have e:l'.drop i=r::l'.drop (i+1):=by rw[bH m];congr 1;rw[af m] at ku;exact cT ku
    rw[e,il,O2,O1]
   have I:mE r.delta j=0->fH (mD r.delta j):=by
    intro h0;rw[O2] at h0;rw[O1];obtain⟨_,_,_,u4,u5⟩:=sJ h0;rw[u5];exact sK u4
   rw[SG] at hf;obtain⟨WU,SH⟩:∃w,r.who=w:=⟨_,rfl⟩;obtain⟨rq,SI⟩:∃w,r.seq=w:=⟨_,rfl⟩;obtain⟨rd,UT⟩:∃w,r.delta=w:=⟨_,rfl⟩;rw[SH,SI,UT] at A;rw[UT] at hf I Z;obtain⟨D,UU⟩:∃D,D=rd.map bd:=⟨_,rfl⟩;rw[<-UU] at A;obtain⟨dc,SJ⟩:∃D,D=(mC rd j).map bd:=⟨_,rfl⟩;obtain⟨dd,UW⟩:∃D,D=(mD rd j).map bd:=⟨_,rfl⟩;obtain⟨me,SK⟩:∃e,mE rd j=e:=⟨_,rfl⟩;have hm:=M rd j D dx dc dd Z X UU wc SJ UW;rw[SK] at hm hf I;have q1:P.fC 0 k:=iu hP (by rw[hk];exact aO _);have q3:P.i64 (P.add k 1):=by rw[add_eq hP];exact eR hP qO
   have q4:P.add k 1=((i+1:Nat):Int):=by rw[add_eq hP,hk];simp
   cbv
   repeat' first|(refine qA ?_;cbv)|(intro c;cbv)
   refine⟨_,A,?_⟩;cbv
   repeat' first|(refine qA ?_;cbv)|(intro c;cbv)|(refine hm _ _ ?_;cbv)|fail
   refine ab (λg=>?_) (λg=>?_)
   ·have g10:me≠0:=hH hP g;rw[ae g10] at hf;have SL:Y=⟨d,tx,l,0,me⟩:=by rw[f,<-hf,ae g10]
    cbv
    repeat' first|(refine qA ?_;cbv)|(intro c;cbv)
    exact N _ _ d tx l tr lr _ _ SL.symm ld jW (c6.refl _) rfl ⟨rfl,trivial⟩
   have g10:me=0:=gZ hP g;rw[aa (λh=>h g10)] at hf;cbv
   repeat' first|(refine qA ?_;cbv)|(intro c;cbv)
   refine⟨_,c6.refl _,⟨i+1,_,mD rd j,dd,m,q4,UW,I g10,hf⟩,⟨rfl,rfl,rfl,rfl,rfl,rfl,trivial⟩,⟨rfl,rfl,trivial⟩,?_⟩;show l'.length-(i+1)<l'.length-i;omega
  have k1:¬k<P.dv rs:=fM hP g;rw[E] at k1;clear g;have m:i=l'.length:=by((try simp only[nc] at*);omega)
  have OA:il x0 l'=(j,0):=by
   have hf:il j (l'.drop i)=il x0 l':=hf;rw[m,dT] at hf;rw[<-hf];rfl
  rw[OA,aa (λh=>h rfl)] at f;cbv
  repeat' first|(refine qA ?_;cbv)|(intro c;cbv)|(refine FE 0 bl d tx l tr lr ⟨who,seq,j⟩ who seq dx _ _ ld jW o ⟨rfl,rfl,wc⟩ X rfl λd2 W7 l2 v e UX UY hA SR SS=>?_;cbv)|fail
  exact N _ _ d2 W7 l2 UX UY v e (by rw[f,hA]) SR SS (c6.refl _) rfl ⟨rfl,trivial⟩
 have g5:¬0<seq:=fM hP g;clear g;rw[aa (λh=>g5 h.1)] at f;cbv
 repeat' first|(refine qA ?_;cbv)|(intro c;cbv)
 refine ab (λg=>?_) (λg=>?_)
 ·have g7:seq<=la:=jP hP g;rw[ae g7] at f;cbv
  repeat' first|(refine qA ?_;cbv)|(intro c;cbv)
  exact N _ _ d tx l tr lr _ _ f.symm ld jW (c6.refl _) rfl ⟨rfl,trivial⟩
 have g7:¬seq<=la:=kg hP g;rw[aa g7] at f;clear g;cbv
 repeat' first|(refine qA ?_;cbv)|(intro c;cbv)
 refine L 0 bl d tr lr base _ _ ht O J qO rfl λwt F=>?_;rw[UR] at F;rw[<-F] at f;cbv
 repeat' first|(refine qA ?_;cbv)|(intro c;cbv)
 refine ab (λg=>?_) (λg=>?_)
 ·have g8:wt≠0:=hH hP g;rw[ae g8] at f;cbv
  repeat' first|(refine qA ?_;cbv)|(intro c;cbv)
  exact N _ _ d tx l tr lr _ _ f.symm ld jW (c6.refl _) rfl ⟨rfl,trivial⟩
 have g8:wt=0:=gZ hP g;rw[aa (λh=>h g8)] at f;clear g;have yK:d.b<=base/\base<=d.b+(l.length:Int):=by
  have p:fZ d.b l.length base=0:=by rw[<-F];exact g8
  unfold fZ at p
  split at p
  ·exact absurd p qD
  ·split at p
   ·exact absurd p qD
   ·omega
 obtain⟨a,ha⟩:∃a:Nat,(base-d.b).toNat=a:=⟨_,rfl⟩;have u:base-d.b=(a:Int):=by omega
 have PO:a<=l.length:=by omega
 rw[ha] at f;obtain⟨B,hs0⟩:∃B,tx[a]? =some B:=⟨_,af (by have:=o.EP;omega)⟩;have W6:tx.getD a []=B:=by rw[ar,hs0];rfl
 rw[W6] at f;have U:tr[a]? =some [.str B]:=by rw[ld,c7,av,hs0];rfl
 have W:P.c9 B=(B.length:Int):=da hP _;have i6:P.i64 (P.sub base d.b):=by rw[sub_eq hP,u];exact eR hP qO
 have i7:P.fC 0 (P.sub base d.b):=by rw[sub_eq hP,u];exact iu hP (aO _)
 have i8:P.fC (P.sub base d.b) (P.dv lr):=by rw[sub_eq hP,u,UQ];exact lE hP qO
 have i9:P.fC (P.dv lr) (P.dv lr):=lE hP (aN _);obtain⟨l',C⟩:∃l',l'=l.drop a:=⟨_,rfl⟩;rw[<-C] at f;have G:P.jn lr (P.sub base d.b) (P.dv lr)=l'.map ca:=by
  rw[sub_eq hP,u,gE hP];have e:P.jn lr (a:Int) (lr.length:Int)=(lr.take ((lr.length:Int)).toNat).drop ((a:Int)).toNat:=by subst hP;rfl
  rw[e,aA,aA,aM,jW,C,dm]
 obtain⟨rs,z⟩:∃rs,P.jn lr (P.sub base d.b) (P.dv lr)=rs:=⟨_,rfl⟩;rw[z] at G;have E:P.dv rs=(l'.length:Int):=by rw[gE hP,G,aF]
 have H:∀r∈l',r.Ok:=λr hr=>o.rv.2 r (bC (C▸hr));have CX:l'.length<=64:=by rw[C,aJ];omega
 cbv
 repeat' first|(refine qA ?_;cbv)|(intro c;cbv)
 refine UP 0 bl d tr lr base a B _ _ ht O J u qW U rfl ?_;cbv
 repeat' first|(refine qA ?_;cbv)|(intro c;cbv)|(refine pd _ _ ?_;cbv)|fail
 refine ab (λg=>?_) (λg=>?_)
 ·have g9:P.c9 B≠ix:=hH hP g;have f:=f.trans (ae (λe=>g9 (W.trans e)));cbv
  repeat' first|(refine qA ?_;cbv)|(intro c;cbv)
  exact N _ _ d tx l tr lr _ _ f.symm ld jW (c6.refl _) rfl ⟨rfl,trivial⟩
 have g9:P.c9 B=ix:=gZ hP g;have f:=f.trans (aa (λh=>h (W.symm.trans g9)));clear g;cbv
 repeat' first|(refine qA ?_;cbv)|(intro c;cbv)
 have US:=z;refine⟨Yl x0 l',λy=>[(0,.ptr 0 (some bl) 31 0 0),(3,.ptr 3 (some b3) 4 0 0),(9,.sl false 3 y.dx),(90,.sl false 3 (P.jn lr (P.sub base d.b) (P.dv lr))),(91,qI (P.dv (P.jn lr (P.sub base d.b) (P.dv lr)))),(92,qI y.k)],
  λy=>[(0,fI bl d (.sl false 1 tr) (.sl false 3 lr)),(3,⟨some b3,95,4,[[qI base,qI who,qI seq,.sl false 3 dr]]⟩)],λy=>l'.length-y.i,
  ⟨_,c6.refl _,⟨0,0,x0,dr,aP _,rfl,SF,Ss,rfl⟩,⟨rfl,rfl,rfl,rfl,rfl,rfl,trivial⟩,⟨rfl,rfl,trivial⟩⟩,?_⟩
 rw[z];rintro⟨i,k,j,dx,hi,hk,wc,X,hf⟩;cbv;refine ab (λg=>?_) (λg=>?_)
 ·have k1:k<P.dv rs:=fJ hP g;rw[E] at k1;clear g;have m:i<l'.length:=by((try simp only[nc] at*);omega)
  obtain⟨r,ku⟩:∃r,l'[i]? =some r:=⟨_,af m⟩;have A:P.row rs (P.nat k) [qI r.who,qI r.seq,.sl false 3 (r.delta.map bd)]:=ga hP hk (by rw[G,av,ku];rfl);have Z:=(H r (ax ku)).2.2;have SG:il j (l'.drop i)=if mE r.delta j≠0 then([],mE r.delta j) else il (mD r.delta j) (l'.drop (i+1)):=by
   have e:l'.drop i=r::l'.drop (i+1):=by rw[bH m];congr 1;rw[af m] at ku;exact cT ku
   rw[e,il,O2,O1]
  have I:mE r.delta j=0->fH (mD r.delta j):=by
   intro h0;rw[O2] at h0;rw[O1];obtain⟨_,_,_,u4,u5⟩:=sJ h0;rw[u5];exact sK u4
  rw[SG] at hf;obtain⟨WU,SH⟩:∃w,r.who=w:=⟨_,rfl⟩;obtain⟨rq,SI⟩:∃w,r.seq=w:=⟨_,rfl⟩;obtain⟨rd,UT⟩:∃w,r.delta=w:=⟨_,rfl⟩;rw[SH,SI,UT] at A;rw[UT] at hf I Z;obtain⟨D,UU⟩:∃D,D=rd.map bd:=⟨_,rfl⟩;rw[<-UU] at A;obtain⟨dc,SJ⟩:∃D,D=(mC rd j).map bd:=⟨_,rfl⟩;obtain⟨dd,UW⟩:∃D,D=(mD rd j).map bd:=⟨_,rfl⟩;obtain⟨me,SK⟩:∃e,mE rd j=e:=⟨_,rfl⟩;have hm:=M rd j D dx dc dd Z X UU wc SJ UW;rw[SK] at hm hf I;have q1:P.fC 0 k:=iu hP (by rw[hk];exact aO _);have q3:P.i64 (P.add k 1):=by rw[add_eq hP];exact eR hP qO
  have q4:P.add k 1=((i+1:Nat):Int):=by rw[add_eq hP,hk];simp
  cbv
  repeat' first|(refine qA ?_;cbv)|(intro c;cbv)
  refine⟨_,A,?_⟩;cbv
  repeat' first|(refine qA ?_;cbv)|(intro c;cbv)|(refine hm _ _ ?_;cbv)|fail
  refine ab (λg=>?_) (λg=>?_)
  ·have g10:me≠0:=hH hP g;rw[ae g10] at hf;have SL:Y=⟨d,tx,l,0,me⟩:=by rw[f,<-hf,ae g10]
   cbv
   repeat' first|(refine qA ?_;cbv)|(intro c;cbv)
   exact N _ _ d tx l tr lr _ _ SL.symm ld jW (c6.refl _) rfl ⟨rfl,trivial⟩
  have g10:me=0:=gZ hP g;rw[aa (λh=>h g10)] at hf;cbv
  repeat' first|(refine qA ?_;cbv)|(intro c;cbv)
  refine⟨_,c6.refl _,⟨i+1,_,mD rd j,dd,m,q4,UW,I g10,hf⟩,⟨rfl,rfl,rfl,rfl,rfl,rfl,trivial⟩,⟨rfl,rfl,trivial⟩,?_⟩;show l'.length-(i+1)<l'.length-i;omega
 have k1:¬k<P.dv rs:=fM hP g;rw[E] at k1;clear g;have m:i=l'.length:=by((try simp only[nc] at*);omega)
 have OA:il x0 l'=(j,0):=by
  have hf:il j (l'.drop i)=il x0 l':=hf;rw[m,dT] at hf;rw[<-hf];rfl
 rw[OA,aa (λh=>h rfl)] at f;cbv
 repeat' first|(refine qA ?_;cbv)|(intro c;cbv)|(refine FE 0 bl d tx l tr lr ⟨who,seq,j⟩ who seq dx _ _ ld jW o ⟨rfl,rfl,wc⟩ X rfl λd2 W7 l2 v e UX UY hA SR SS=>?_;cbv)|fail
 exact N _ _ d2 W7 l2 UX UY v e (by rw[f,hA]) SR SS (c6.refl _) rfl ⟨rfl,trivial⟩
theorem O9(bl:Nat)(d:iq)(tx:List BS)(l:List eP)(i:tX d tx l)(base who seq:Int)(x:List Part)(hx:fH x):Spec Tryz.prog 46 [.ptr 0 (some bl) 31 0 0,.agg [qI base,qI who,qI seq,.sl false 3 (x.map bd)]] (cp (kZ bl d tx l)) λv h'=>∃g,(∃d' b l',(∃n e,v=.tup [qI n,qI e]/\⟨d',b,l',n,e⟩=sL d tx l base who seq x)/\g=kZ bl d' b l')/\h'=cp g:=by
 refine fu iD O8 (L:=kZ bl d tx l) (λv g=>∃d' b l',(∃n e,v=.tup [qI n,qI e]/\⟨d',b,l',n,e⟩=sL d tx l base who seq x)/\g=kZ bl d' b l') λR m=>?_;have fin:∀(s s':S)(d':iq)(b:List BS)(l':List eP)(c f:List (List V))(v e:Int),(⟨d',b,l',v,e⟩:GM)=sL d tx l base who seq x->c=c7 b->f=l'.map ca->c6 s s'->iH [.t 4,.t 5] [qI v,qI e] s'->fG [(0,fI bl d' (.sl false 1 c) (.sl false 3 f))] s'->R s:=by
  rintro s s' d' b l' c f v e j rfl rfl he hr ha;exact m s s' (.tup [qI v,qI e]) (kZ bl d' b l') he (eM _ _ _ (λx hx=>by rw[hx];rfl) hr) ha (.tup _ (by simp;exact⟨.int _ _,.int _ _⟩)) o5 ⟨_,_,_,⟨v,e,rfl,j⟩,rfl⟩
 refine nE 3 qL _ ?_;refine LD dn rfl _ _ bl (fI bl d (.sl false 1 (c7 tx)) (.sl false 3 (l.map ca))) base who seq (x.map bd) (ed x) (oW (jZ x hx.1) rfl) _ R (λs s' e h he hr ha=>?_) (λk hc s hs=>?_)
 ·refine fin s s' d tx l _ _ 0 e ?_ rfl rfl he hr ha;unfold sL
  rcases h with⟨h,rfl⟩|⟨h,hc,rfl⟩
  ·rw[ae h]
  ·rw[aa h,ae hc]
 ·obtain⟨c1,o,_,_⟩:=fP hc;refine LF dn rfl _ _ pX La CS K9 PU bl d tx (c7 tx) rfl l (l.map ca) rfl i base who seq qW x hx _ rfl (kU x) (oh (rA x c1 o) (λ_=>.cons (.mY _ _) .nil) rfl) (λa x=>(iS a x).1) (λa x=>(iS a x).2.1) (λa x=>(iS a x).2.2) (λ_ _=>rfl) (λ_ _=>rfl) (λa x p dx q dd ha hx h1 h2 h3 h4=>by subst h1 h2 h3 h4;exact im (Ln a x ha.1 hx.1) rfl rfl)
   _ _ rfl rfl _ rfl R (λs s' d' b l' c f v e j h1 h2 he hr ha=>fin s s' d' b l' c f v e ?_ h1 h2 he hr ha) s hs
  rw[j];unfold sL;rw[aa k,aa (show¬ed x≠0 from λh=>h hc)]
def P1(T:c8):Prop:=∀(k bl:Nat)(d:iq)(tx:List BS)(l:List eP)(tr lr:List (List V))(base who seq:Int)(x:List Part)(dr:List (List V))(h:Hp)(K:V->Hp->Prop),tr=c7 tx->lr=l.map ca->tX d tx l->dr=x.map bd->fH x->h k=some (fI bl d (.sl false 1 tr) (.sl false 3 lr))->
 (∀d' a l' v e b c,⟨d',a,l',v,e⟩=sL d tx l base who seq x->b=c7 a->c=l'.map ca->K (.tup [qI v,qI e]) (h.fK [(k,fI bl d' (.sl false 1 b) (.sl false 3 c))]))->T 46 [.ptr k (some bl) 31 0 0,.agg [qI base,qI who,qI seq,.sl false 3 dr]] h K
theorem UZ:P1 (fm Tryz.prog):=by
 rintro k bl d tx l tr lr base who seq x dr h K rfl rfl b rfl hx hk hK;refine Lb (post:=λv d' a l'=>∃n e,v=.tup [.int .i64 n,.int .i64 e]/\⟨d',a,l',n,e⟩=sL d tx l base who seq x) (O9 bl d tx l b base who seq x hx) (λ_ _=>.cons (.same _) .nil) (λx d' a l' g hp=>by obtain⟨v,e,rfl,_⟩:=hp;rfl) hk ?_;rintro v d' a l' ⟨n,e,rfl,hp⟩;exact hK d' a l' n e _ _ hp rfl rfl
end Go.Proofs.YtobngncjflogcaaGreat.AM
