/-
  Part 17 of what the law WorldPlays reaches: the plain machine, contracts of the functions and plain laws; each lemma says its own condition.
-/
import Derived.Test.YtobngncjflogcaaGreatWorldPlays15
set_option linter.unusedVariables false
set_option linter.unusedSimpArgs false
namespace Go.Proofs.YtobngncjflogcaaGreat.AM
open Go Go.RowKit
set_option maxRecDepth 100000
set_option maxHeartbeats 2000000
section
variable {P:Prim} {T:cp} {s:S} {d:Nat} {K:S->Prop}
theorem AF{ty:Nat}(hn:s.h d=none)(hK:∀β:Nat,K ⟨iX s.t d (.ptr d (some β) 2 0 0),Hp.put s.h d ⟨some β,ty,2,[[.int .i64 0,.int .i64 0]]⟩⟩):fm P T ⟨some d,none,.alloc ty [.int .i64 0,.int .i64 0]⟩ s K:=⟨hn,rfl,hK⟩
end
def lf(bl b3:Nat)(hq who la lb:Int)(tb:Nat->Int)(β:Nat):List (Nat×Nat×V):=[(0,37,.ptr 0 (some bl) 31 0 0),(1,38,.ptr 0 (some bl) 31 0 0),(2,39,.int .i64 hq),(3,40,lY tb),(4,41,.ptr 3 (some b3) 4 0 1),(5,42,.int .i64 who),(6,43,.agg [.int .i64 la,.int .i64 lb]),(7,7,.ptr 7 (some β) 2 0 0)]
def Po(la lb:Int)(β:Nat)(done:List Nat):Option Ob:=if fG done 8=true then some ⟨some β,54,2,[[.int .i64 la,.int .i64 lb]]⟩ else if fG done 7=true then some ⟨some β,54,2,[[.int .i64 0,.int .i64 0]]⟩ else none
def oy(la lb:Int)(β:Nat)(done:List Nat)(h0:Hp)(k:Nat):Option Ob:=if k=7 then Po la lb β done else h0 k
def Pp:List (AO×List Nat):=[
 (⟨some 37,none,.mov (.t 0)⟩,[]),
 (⟨some 38,none,.mov (.t 0)⟩,[]),
 (⟨some 39,none,.call 35 [(.t 38)]⟩,[1]),
 (⟨some 40,none,.call 38 [(.t 37),(.t 39)]⟩,[0,2,2]),
 (⟨some 41,none,.faddr 1 (.t 3)⟩,[]),
 (⟨some 42,none,.load1 (.t 41)⟩,[4]),
 (⟨some 43,none,.ixa true 8 2 (.t 40) (.t 42)⟩,[3,5]),
 (⟨some 7,none,.alloc 54 [(.int .i64 0),(.int .i64 0)]⟩,[]),
 (⟨none,none,.store 2 (.t 7) (.t 43)⟩,[7,6,3,0,1,2,3,4,5,6,7])]
section
variable {bl b3 β:Nat} {hq who la lb:Int} {tb:Nat->Int}
theorem Pq:((lf bl b3 hq who la lb tb β).map (·.1)).Nodup:=by show([0,1,2,3,4,5,6,7]:List Nat).Nodup;decide
theorem Be:((lf bl b3 hq who la lb tb β).map (·.2.1)).Nodup:=by show([37,38,39,40,41,42,43,7]:List Nat).Nodup;decide
end
theorem RL{P:Prim}(hP:P=ca){T:cp}{K:S->Prop}{t0:Nat->V}{h0:Hp}{bl b3 wn:Nat}{ob:Ob}{row:List V}{hq who la lb:Int}{tb:Nat->Int}(f:1<row.length/\row.getD 1 .gS=qI who)
  (g0:t0 0=.ptr 0 (some bl) 31 0 0)(g3:t0 3=.ptr 3 (some b3) 4 0 0)(g:h0 0=some ob)(h3:h0 3=some ⟨some b3,95,4,[row]⟩)(hz:h0 7=none)
  (hc1:∀(h:Hp)(K:V->Hp->Prop),h 0=some ob->K (qI hq) h->T 35 [.ptr 0 (some bl) 31 0 0] h K)(n:∀(h:Hp)(K:V->Hp->Prop),h 0=some ob->K (lY tb) h->T 38 [.ptr 0 (some bl) 31 0 0,qI hq] h K)
  (q:P.fQ 0 who)(t:P.iw who 8)(u:P.nat who=wn)(l:((lY tb).cells.drop (wn*2)).take 2=[qI la,qI lb])
  (hK:∀β,K ⟨Ti (lf bl b3 hq who la lb tb β) t0,JK [(7,some ⟨some β,54,2,[[qI la,qI lb]]⟩)] h0⟩):lF P T Pp 9 [] ⟨t0,h0⟩ K:=by
 refine Ak rfl (λdone s=>∃β,s=⟨iJ done (lf bl b3 hq who la lb tb β) t0,oy la lb β done h0⟩) (λdone i o ps s hj hf a w y K' c=>?_) (λdone s hd y=>?_) ?_
 ·obtain⟨β,rfl⟩:=y
  match i,hj with
  |0,hj=>
   cases hj;show fm P T _ ⟨iJ done (lf bl b3 hq who la lb tb β) t0,oy la lb β done h0⟩ K';refine sj (v:=.ptr 0 (some bl) 31 0 0) ((n3 (done:=done) (lf bl b3 hq who la lb tb β) t0 rfl).trans g0) ?_;refine c _ ⟨β,?_⟩;show(⟨iX (iJ done (lf bl b3 hq who la lb tb β) t0) 37 _,oy la lb β done h0⟩:S)=⟨iJ (0::done) (lf bl b3 hq who la lb tb β) t0,oy la lb β (0::done) h0⟩;rw[ij (k:=0) (lf bl b3 hq who la lb tb β) t0 Pq Be (.head _)];rfl
  |1,hj=>
   cases hj;show fm P T _ ⟨iJ done (lf bl b3 hq who la lb tb β) t0,oy la lb β done h0⟩ K';refine sj (v:=.ptr 0 (some bl) 31 0 0) ((n3 (done:=done) (lf bl b3 hq who la lb tb β) t0 rfl).trans g0) ?_;refine c _ ⟨β,?_⟩;show(⟨iX (iJ done (lf bl b3 hq who la lb tb β) t0) 38 _,oy la lb β done h0⟩:S)=⟨iJ (1::done) (lf bl b3 hq who la lb tb β) t0,oy la lb β (1::done) h0⟩;rw[ij (k:=1) (lf bl b3 hq who la lb tb β) t0 Pq Be (qM 1 rfl)];rfl
  |2,hj=>
   cases hj;show fm P T _ ⟨iJ done (lf bl b3 hq who la lb tb β) t0,oy la lb β done h0⟩ K';refine vY (ik (done:=done) (a 1 qD) (lf bl b3 hq who la lb tb β) t0 Be (qM 1 rfl)) ?_;refine hc1 _ _ g ?_;refine c _ ⟨β,?_⟩;show(⟨iX (iJ done (lf bl b3 hq who la lb tb β) t0) 39 _,oy la lb β done h0⟩:S)=⟨iJ (2::done) (lf bl b3 hq who la lb tb β) t0,oy la lb β (2::done) h0⟩;rw[ij (k:=2) (lf bl b3 hq who la lb tb β) t0 Pq Be (qM 2 rfl)];rfl
  |3,hj=>
   cases hj;show fm P T _ ⟨iJ done (lf bl b3 hq who la lb tb β) t0,oy la lb β done h0⟩ K';show T 38 [iJ done (lf bl b3 hq who la lb tb β) t0 37,iJ done (lf bl b3 hq who la lb tb β) t0 39] (oy la lb β done h0) _;rw[(ik (done:=done) (a 0 qD) (lf bl b3 hq who la lb tb β) t0 Be (.head _)),(ik (done:=done) (a 2 qD) (lf bl b3 hq who la lb tb β) t0 Be (qM 2 rfl))];refine n _ _ g ?_;refine c _ ⟨β,?_⟩;show(⟨iX (iJ done (lf bl b3 hq who la lb tb β) t0) 40 _,oy la lb β done h0⟩:S)=⟨iJ (3::done) (lf bl b3 hq who la lb tb β) t0,oy la lb β (3::done) h0⟩;rw[ij (k:=3) (lf bl b3 hq who la lb tb β) t0 Pq Be (qM 3 rfl)];rfl
  |4,hj=>
   cases hj;show fm P T _ ⟨iJ done (lf bl b3 hq who la lb tb β) t0,oy la lb β done h0⟩ K';refine qG ((n3 (done:=done) (lf bl b3 hq who la lb tb β) t0 rfl).trans g3) ?_;refine c _ ⟨β,?_⟩;show(⟨iX (iJ done (lf bl b3 hq who la lb tb β) t0) 41 _,oy la lb β done h0⟩:S)=⟨iJ (4::done) (lf bl b3 hq who la lb tb β) t0,oy la lb β (4::done) h0⟩;rw[ij (k:=4) (lf bl b3 hq who la lb tb β) t0 Pq Be (qM 4 rfl)];rfl
  |5,hj=>
   cases hj;show fm P T _ ⟨iJ done (lf bl b3 hq who la lb tb β) t0,oy la lb β done h0⟩ K';refine vP (v:=qI who) (r:=row) (b:=some b3) (ty:=95) (ik (done:=done) (a 4 qD) (lf bl b3 hq who la lb tb β) t0 Be (qM 4 rfl)) h3 qD f ?_;refine c _ ⟨β,?_⟩;show(⟨iX (iJ done (lf bl b3 hq who la lb tb β) t0) 42 _,oy la lb β done h0⟩:S)=⟨iJ (5::done) (lf bl b3 hq who la lb tb β) t0,oy la lb β (5::done) h0⟩;rw[ij (k:=5) (lf bl b3 hq who la lb tb β) t0 Pq Be (qM 5 rfl)];rfl
  |6,hj=>
   cases hj;show fm P T _ ⟨iJ done (lf bl b3 hq who la lb tb β) t0,oy la lb β done h0⟩ K';refine Fm (ik (done:=done) (a 3 qD) (lf bl b3 hq who la lb tb β) t0 Be (qM 3 rfl)) (ik (done:=done) (a 5 qD) (lf bl b3 hq who la lb tb β) t0 Be (qM 5 rfl)) q t u l ?_;refine c _ ⟨β,?_⟩;show(⟨iX (iJ done (lf bl b3 hq who la lb tb β) t0) 43 _,oy la lb β done h0⟩:S)=⟨iJ (6::done) (lf bl b3 hq who la lb tb β) t0,oy la lb β (6::done) h0⟩;rw[ij (k:=6) (lf bl b3 hq who la lb tb β) t0 Pq Be (qM 6 rfl)];rfl
  |7,hj=>
   cases hj;show fm P T _ ⟨iJ done (lf bl b3 hq who la lb tb β) t0,oy la lb β done h0⟩ K';have A:fG done 8=false:=by
    cases hh:fG done 8
    ·rfl
    ·exact absurd (w 8 _ _ rfl hh 7 qD) (by rw[hf];decide)
   refine AF (by show(if(7:Nat)=7 then Po la lb β done else h0 7)=none;rw[ae rfl];unfold Po;rw[A,hf];rfl) λd=>?_;refine c _ ⟨d,?_⟩;have e1:iJ done (lf bl b3 hq who la lb tb β) t0=iJ done (lf bl b3 hq who la lb tb d) t0:=by
    funext z
    simp only[iJ,lf,hf];rfl
   have e2:Hp.put (oy la lb β done h0) 7 ⟨some d,54,2,[[qI 0,qI 0]]⟩=oy la lb d (7::done) h0:=by
    funext z
    unfold Hp.put oy Po
    by_cases hz:z=7
    ·subst hz;rw[ae rfl,ae rfl,hM (i:=7) (j:=8) qD,A,kH];rfl
    ·rw[aa hz,aa hz,aa hz]
   show(⟨iX (iJ done (lf bl b3 hq who la lb tb β) t0) 7 _,Hp.put (oy la lb β done h0) 7 _⟩:S)=_;rw[e1,e2,<-ij (k:=7) (lf bl b3 hq who la lb tb d) t0 Pq Be (qM 7 rfl)]
  |8,hj=>
   cases hj;show fm P T _ ⟨iJ done (lf bl b3 hq who la lb tb β) t0,oy la lb β done h0⟩ K';have B:=a 7 qD;refine vQ (v:=.agg [qI la,qI lb]) (r:=[qI 0,qI 0]) (b:=some β) (ty:=54) (ik (done:=done) (a 7 qD) (lf bl b3 hq who la lb tb β) t0 Be (qM 7 rfl)) (ik (done:=done) (a 6 qD) (lf bl b3 hq who la lb tb β) t0 Be (qM 6 rfl)) ⟨rfl,rfl⟩ (by show(if(7:Nat)=7 then Po la lb β done else h0 7)=_;rw[ae rfl];unfold Po;rw[hf,B];rfl) qD (by show(0:Nat)+2<=2;decide) ?_;refine c _ ⟨β,?_⟩;have e2:Hp.put (oy la lb β done h0) 7 ⟨some β,54,2,[kP [qI 0,qI 0] 0 (V.cells (.agg [qI la,qI lb]))]⟩=oy la lb β (8::done) h0:=by
    funext z
    unfold Hp.put oy Po
    by_cases hz:z=7
    ·subst hz;rw[ae rfl,ae rfl,kH];rfl
    ·rw[aa hz,aa hz,aa hz]
   show(⟨iJ done (lf bl b3 hq who la lb tb β) t0,Hp.put (oy la lb β done h0) 7 _⟩:S)=_;rw[e2,<-sh (k:=8) (lf bl b3 hq who la lb tb β) t0 rfl]
  |i+9,hj=>exact absurd (ah.1 hj).1 (by show¬i+9<9;omega)
 ·obtain⟨β,rfl⟩:=y;rw[yt _ _ (λp hp=>hd p.1 ?_)]
  ·have e:oy la lb β done h0=JK [(7,some ⟨some β,54,2,[[qI la,qI lb]]⟩)] h0:=by
    funext k
    unfold oy Po;rw[ae (hd 8 qD)];simp only[JK]
    by_cases k1:k=7
    ·subst k1;rfl
    ·have:Nat.beq k 7=false:=by
      cases hb:Nat.beq k 7
      ·rfl
      ·exact absurd (aY hb) k1
     rw[aa k1,this];try rfl
   rw[e];exact hK β
  ·have hm:p.1∈(lf bl b3 hq who la lb tb β).map (·.1):=aC.2 ⟨p,hp,rfl⟩;have m:∀x∈([0,1,2,3,4,5,6,7]:List Nat),x<9:=by decide
   exact m _ hm
 ·refine⟨0,?_⟩;rw[ys];have e:oy la lb 0 [] h0=h0:=by
   funext k
   unfold oy
   by_cases k1:k=7
   ·rw[ae k1,k1,hz];rfl
   ·rw[aa k1]
  rw[e]
def lM(d:im)(tx:List BS)(l:List eX)(base who seq:Int)(x:List Part):Fl:=
 if who<0\/7<who\/seq<0\/2147483647<seq then⟨d,tx,l,0,1⟩
 else if cF x≠0 then⟨d,tx,l,0,cF x⟩
 else if 0<seq/\seq=iK d.fs d.b l (2*who.toNat) then⟨d,tx,l,iK d.fs d.b l (2*who.toNat+1),0⟩
 else if seq<=iK d.fs d.b l (2*who.toNat) then⟨d,tx,l,0,10⟩
 else if gl d.b l.length base≠0 then⟨d,tx,l,0,gl d.b l.length base⟩
 else if((tx.getD (base-d.b).toNat []).length:Int)≠jy x then⟨d,tx,l,0,4⟩
 else if(fS x (l.drop (base-d.b).toNat)).2≠0 then⟨d,tx,l,0,(fS x (l.drop (base-d.b).toNat)).2⟩
 else n6 d tx l ⟨who,seq,(fS x (l.drop (base-d.b).toNat)).1⟩
structure W5(x0:List Part)(l':List eX) where
 i:Nat
 k:Int
 x:List Part
 dx:List (List V)
 hi:i<=l'.length
 hk:k=(i:Int)
 wJ:dx=x.map a6
 hx:fw x
 hf:fS x (l'.drop i)=fS x0 l'
def pH:AC:=qr [qo 3 (.box 95 4 (.t 1)),qz 4 0,qz 5 0] (qq (qr [qf 13 1 3,ql 14 13,qc 15 .lss 14 0,qm 16 15,qg 17 16 false (.faddr 1 (.t 3)),qg 18 16 false (.load1 (.t 17)),qg 19 16 false (.bin .gtr (.t 18) (qk 7)),qo 20 (.pick (.t 16) (.c (.bool true)) (.t 19)),qm 21 20,qg 22 21 false (.faddr 2 (.t 3)),qg 23 21 false (.load1 (.t 22)),qg 24 21 false (.bin .lss (.t 23) (qk 0)),qo 25 (.pick (.t 21) (.c (.bool true)) (.t 24)),qm 26 25,qg 27 26 false (.faddr 2 (.t 3)),qg 28 26 false (.load1 (.t 27)),qg 29 26 false (.bin .gtr (.t 28) (qk 2147483647)),qo 30 (.pick (.t 26) (.c (.bool true)) (.t 29))] (qu 30 (qr [qz 4 0,qz 5 1] .ret) .skip)) (qq (qr [qf 31 3 3,ql 32 31,qa 33 89 [.t 32],qm 6 33] (qr [qm 34 6,qc 35 .neq 34 0] (qu 35 (qr [qm 36 6,qz 4 0,qm 5 36] .ret) .skip))) (qq (.kO [(qm 37 0,[]),(qm 38 0,[]),(qa 39 35 [.t 38],[1]),(qa 40 38 [.t 37,.t 39],[0,2,2]),(qf 41 1 3,[]),(ql 42 41,[4]),(qo 43 (.ixa true 8 2 (.t 40) (.t 42)),[3,5]),(qo 7 (.alloc 54 D7),[]),(qs 2 7 43,[7,6,3,0,1,2,3,4,5,6,7])]) (qq (qr [qf 44 2 3,ql 45 44,qc 46 .gtr 45 0,qm 47 46,qg 48 47 true (.faddr 2 (.t 3)),qg 49 47 true (.load1 (.t 48)),qg 50 47 true (.faddr 0 (.t 7)),qg 51 47 true (.load1 (.t 50)),qg 52 47 true (.bin .eql (.t 49) (.t 51)),qo 53 (.pick (.t 47) (.t 52) (.c (.bool false)))] (qu 53 (qr [qf 54 1 7,ql 55 54,qm 4 55,qz 5 0] .ret) .skip)) (qq (qr [qf 56 2 3,ql 57 56,qf 58 0 7,ql 59 58,qb 60 .leq 57 59] (qu 60 (qr [qz 4 0,qz 5 10] .ret) .skip)) (qq (qr [qm 61 0,qf 62 0 3,ql 63 62,qa 64 41 [.t 61,.t 63],qm 8 64] (qr [qm 65 8,qc 66 .neq 65 0] (qu 66 (qr [qm 67 8,qz 4 0,qm 5 67] .ret) .skip))) (qq (qq (.region true [qm 68 0,qf 69 0 3,ql 70 69,qa 71 42 [.t 68,.t 70],qo 72 (.len true (.t 71)),qf 73 3 3,ql 74 73,qa 75 90 [.t 74],qb 76 .neq 72 75]) (qu 76 (qr [qz 4 0,qz 5 4] .ret) .skip)) (qr [qf 77 3 3,ql 78 77,qm 9 78,qz 10 0] (qq (qq (.region true [qm 79 0,qn 80 79,qf 81 24 80,ql 82 81,qf 83 0 3,ql 84 83,qm 85 0,qn 86 85,qf 87 6 86,ql 88 87,qb 89 .sub 84 88,qo 90 (.slsl 3 (.t 82) (some (.t 89)) none),qo 91 (.len false (.t 90)),qz 92 0]) (.block 0 (.loop (qr [qb 93 .lss 92 91] (qq (qu 93 .skip (.exit 0)) (qq (.block 1 (qr [qo 94 (.iaddr 3 (.t 90) (.t 92)),qd 95 3 94,qo 12 (.alloc 91 F4),qs 3 12 95] (qr [qf 97 2 12,ql 98 97,qm 99 9,qa 100 91 [.t 98,.t 99],qm 96 100,qx 101 0 96,qx 102 1 96,qx 103 2 96,qm 9 102,qm 10 103] (qr [qm 104 10,qc 105 .neq 104 0] (qu 105 (qr [qm 106 10,qz 4 0,qm 5 106] .ret) .skip))))) (qR [qc 107 .add 92 1,qm 92 107]))))))) (qr [qm 108 0,qf 109 1 3,ql 110 109,qf 111 2 3,ql 112 111,qm 113 9,qo 114 (.build F4 [(0,1,(.t 110)),(1,1,(.t 112)),(2,1,(.t 113))]),qa 115 44 [.t 108,.t 114],qx 116 0 115,qx 117 1 115,qm 4 116,qm 5 117] .ret))))))))))
theorem N6:fo Tryz.prog 46 Tryz.f46 pH [.t 4,.t 5] 2 eV:=⟨Tryz.func46,by decide+kernel,by kernel_rfl,by kernel_rfl,by decide+kernel⟩
def W6(bl:Nat)(ob:Ob)(row:List V)(s:S):Prop:=∃b3:Nat,Dt [(0,.ptr 0 (some bl) 31 0 0),(3,.ptr 3 (some b3) 4 0 0)] s/\Du [(0,some ob),(3,some ⟨some b3,95,4,[row]⟩),(7,none),(12,none)] s
theorem Kd(P:Prim)(hP:P=ca)(T f:cp)(bl:Nat)(ob:Ob)(base who seq:Int)(dr:List (List V))(c:Int)(b:fZ T 89 [.sl false 3 dr] (qI c))
  (N R:S->Prop)(d:∀(s s':S)(e:Int),(((who<0\/7<who\/seq<0\/2147483647<seq)/\e=1)\/(¬(who<0\/7<who\/seq<0\/2147483647<seq)/\c≠0/\e=c))->a7 s s'->hX [.t 4,.t 5] [qI 0,qI e] s'->fh [(0,ob)] s'->R s)
  (i:¬(who<0\/7<who\/seq<0\/2147483647<seq)->c=0->∀s,W6 bl ob [qI base,qI who,qI seq,.sl false 3 dr] s->N s):fX P T f (p0 3 pH .skip) (S0 [.ptr 0 (some bl) 31 0 0,.agg [qI base,qI who,qI seq,.sl false 3 dr]] (b7 [(0,ob)])) N (λ_ _=>False) R:=by
 cbv
 repeat' first|(refine qA ?_;cbv)|(intro a;cbv)
 refine ab (λg=>?_) (λg=>?_)
 ·have g0:who<0:=fA hP g;cbv
  repeat' first|(refine qA ?_;cbv)|(intro a;cbv)
  exact d _ _ _ (.inl ⟨.inl g0,rfl⟩) (a7.refl _) rfl ⟨rfl,trivial⟩
 have g0:¬who<0:=fg hP g;clear g;cbv
 repeat' first|(refine qA ?_;cbv)|(intro a;cbv)
 refine ab (λg=>?_) (λg=>?_)
 ·have g1:7<who:=fA hP g;cbv
  repeat' first|(refine qA ?_;cbv)|(intro a;cbv)
  exact d _ _ _ (.inl ⟨.inr (.inl g1),rfl⟩) (a7.refl _) rfl ⟨rfl,trivial⟩
 have g1:¬7<who:=fg hP g;clear g;cbv
 repeat' first|(refine qA ?_;cbv)|(intro a;cbv)
 refine ab (λg=>?_) (λg=>?_)
 ·have g2:seq<0:=fA hP g;cbv
  repeat' first|(refine qA ?_;cbv)|(intro a;cbv)
  exact d _ _ _ (.inl ⟨.inr (.inr (.inl g2)),rfl⟩) (a7.refl _) rfl ⟨rfl,trivial⟩
 have g2:¬seq<0:=fg hP g;clear g;cbv
 repeat' first|(refine qA ?_;cbv)|(intro a;cbv)
 refine ab (λg=>?_) (λg=>?_)
 ·have g3:2147483647<seq:=fA hP g;cbv
  repeat' first|(refine qA ?_;cbv)|(intro a;cbv)
  exact d _ _ _ (.inl ⟨.inr (.inr (.inr g3)),rfl⟩) (a7.refl _) rfl ⟨rfl,trivial⟩
 have g3:¬2147483647<seq:=fg hP g;clear g;cbv
 repeat' first|(refine qA ?_;cbv)|(intro a;cbv)
 have oA:¬(who<0\/7<who\/seq<0\/2147483647<seq):=λh=>h.elim g0 (λh=>h.elim g1 (λh=>h.elim g2 g3));refine b _ _ ?_;cbv
 repeat' first|(refine qA ?_;cbv)|(intro a;cbv)
 refine ab (λg=>?_) (λg=>?_)
 ·have g4:c≠0:=fE hP g;cbv
  repeat' first|(refine qA ?_;cbv)|(intro a;cbv)
  exact d _ _ _ (.inr ⟨oA,g4,rfl⟩) (a7.refl _) rfl ⟨rfl,trivial⟩
 have g4:c=0:=fD hP g;cbv;exact i oA g4 _ ⟨_,⟨rfl,rfl,trivial⟩,⟨rfl,rfl,rfl,rfl,trivial⟩⟩
theorem Ke(P:Prim)(hP:P=ca)(T T1:cp)(Yu:tj T)(VZ:DA T)(N:JT T)(T3:Pc T1)(ES:Pm T)(bl:Nat)(d:im)(tx:List BS)(u:List (List V))(m:u=ds tx)(l:List eX)(lr:List (List V))(j:lr=l.map a8)(iB:vS d tx l)
  (base who seq:Int)(hw:0<=who/\who<=7)(x0:List Part)(NO:fw x0)(dr:List (List V))(Ss:dr=x0.map a6)(ix:Int)(jF:fZ T1 90 [.sl false 3 dr] (qI ix))
  (mC mD:List Part->List Part->List Part)(mE:List Part->List Part->Int)(N1:∀a x,mD a x=(er a x).2.1)(N2:∀a x,mE a x=(er a x).2.2)
  (O:∀a x F dx dc dd,fw a->fw x->F=a.map a6->dx=x.map a6->dc=(mC a x).map a6->dd=(mD a x).map a6->fZ T 91 [.sl false 3 F,.sl false 3 dx] (.tup [.sl false 3 dc,.sl false 3 dd,qI (mE a x)]))
  (la lb:Int)(Sp:la=iK d.fs d.b l (2*who.toNat))(Rd:lb=iK d.fs d.b l (2*who.toNat+1))
  (Y:Fl)(f:Y=if 0<seq/\seq=la then⟨d,tx,l,lb,0⟩
   else if seq<=la then⟨d,tx,l,0,10⟩
   else if gl d.b l.length base≠0 then⟨d,tx,l,0,gl d.b l.length base⟩
   else if((tx.getD (base-d.b).toNat []).length:Int)≠ix then⟨d,tx,l,0,4⟩
   else if(fS x0 (l.drop (base-d.b).toNat)).2≠0 then⟨d,tx,l,0,(fS x0 (l.drop (base-d.b).toNat)).2⟩
   else n6 d tx l ⟨who,seq,(fS x0 (l.drop (base-d.b).toNat)).1⟩)
  (R:S->Prop)(U:∀(s s':S)(d':im)(iE:List BS)(l':List eX)(W7 W8:List (List V))(v e:Int),(⟨d',iE,l',v,e⟩:Fl)=Y->W7=ds iE->W8=l'.map a8->a7 s s'->hX [.t 4,.t 5] [qI v,qI e] s'->fh [(0,fV bl d' (.sl false 1 W7) (.sl false 3 W8))] s'->R s)
  (s:S)(hs:W6 bl (fV bl d (.sl false 1 u) (.sl false 3 lr)) [qI base,qI who,qI seq,.sl false 3 dr] s):fX P T T1 (kW 3 pH) s R (λ_ _=>False) R:=by
 obtain⟨b3,hs1,hs2⟩:=hs;refine pF (Q:=λs=>fX P T T1 (kW 3 pH) s R (λ_ _=>False) R) _ _ hs1 hs2 (λt h=>?_);show lF P T Pp 9 [] _ (λs=>fX P T T1 (kW 4 pH) s R (λ_ _=>False) R);have V0:lr.length=l.length:=by rw[j,aI]
 have Yv:=iB.n;have M:0<=d.b/\d.b<=4294967295:=⟨iB.b.1,ez iB.b.2 qD⟩;have W9:=iB.b;have ht:∀r∈u,∀v∈r,Fz v:=by rw[m];exact jl _
 have W:∀r∈lr,∀v∈r,Fz v:=by rw[j];exact fW _
 have Yw:iK d.fs d.b (l.take (d.b+(l.length:Int)-d.b).toNat)=iK d.fs d.b l:=by
  have e:(d.b+(l.length:Int)-d.b).toNat=l.length:=by omega
  rw[e,cj]
 have hcell:((lY (iK d.fs d.b l)).cells.drop (who.toNat*2)).take 2=[qI la,qI lb]:=by
  rw[Fo _ _ qW,Sp,Rd]
 have Yx:(lr.length:Int)=(l.length:Int):=by rw[V0]
 have T4:P.da lr=(l.length:Int):=by rw[gi hP,V0]
 have T5:gl d.b lr.length base=gl d.b l.length base:=by rw[V0]
 refine RL hP (bl:=bl) (b3:=b3) (ob:=fV bl d (.sl false 1 u) (.sl false 3 lr)) (row:=[qI base,qI who,qI seq,.sl false 3 dr]) (hq:=d.b+(l.length:Int)) (who:=who) (la:=la) (lb:=lb) (tb:=iK d.fs d.b l) (wn:=who.toNat) ⟨by show(1:Nat)<4;decide,rfl⟩ rfl rfl rfl rfl rfl
  (λh K hk hK=>Yu 0 bl d u lr h K ht W M qW hk λq hq=>by
   have e:q=d.b+(l.length:Int):=by rw[hq,Yx]
   rw[e];exact hK)
  (λh K hk hK=>VZ 0 bl d u l lr _ h K ht j M qW iB.who ⟨qW,bf _⟩ hk λtb wm=>by rw[wm,Yw];exact hK)
  (iQ hP hw.1) (kZ hP qW) (by subst hP;rfl) hcell λβ=>?_
 clear hcell;cbv
 repeat' first|(refine qA ?_;cbv)|(intro c;cbv)
 refine ab (λg=>?_) (λg=>?_)
 ·have g5:0<seq:=fA hP g;clear g;cbv
  repeat' first|(refine qA ?_;cbv)|(intro c;cbv)
  refine ab (λg=>?_) (λg=>?_)
  ·have g6:seq=la:=na hP g;rw[ae ⟨g5,g6⟩] at f;cbv
   repeat' first|(refine qA ?_;cbv)|(intro c;cbv)
   exact U _ _ d tx l u lr _ _ f.symm m j (a7.refl _) rfl ⟨rfl,trivial⟩
  have g6:¬seq=la:=nd hP g;rw[aa (λh=>g6 h.2)] at f;clear g;cbv
  repeat' first|(refine qA ?_;cbv)|(intro c;cbv)
  refine ab (λg=>?_) (λg=>?_)
  ·have g7:seq<=la:=iG hP g;rw[ae g7] at f;cbv
   repeat' first|(refine qA ?_;cbv)|(intro c;cbv)
   exact U _ _ d tx l u lr _ _ f.symm m j (a7.refl _) rfl ⟨rfl,trivial⟩
  have g7:¬seq<=la:=iA hP g;rw[aa g7] at f;clear g;cbv
  repeat' first|(refine qA ?_;cbv)|(intro c;cbv)
  refine N 0 bl d u lr base _ _ ht W M qO rfl λwt H=>?_;rw[T5] at H;rw[<-H] at f;cbv
  repeat' first|(refine qA ?_;cbv)|(intro c;cbv)
  refine ab (λg=>?_) (λg=>?_)
  ·have g8:wt≠0:=fE hP g;rw[ae g8] at f;cbv
   repeat' first|(refine qA ?_;cbv)|(intro c;cbv)
   exact U _ _ d tx l u lr _ _ f.symm m j (a7.refl _) rfl ⟨rfl,trivial⟩
  have g8:wt=0:=fD hP g;rw[aa (λh=>h g8)] at f;clear g;have vo:d.b<=base/\base<=d.b+(l.length:Int):=by
   have z:gl d.b l.length base=0:=by rw[<-H];exact g8
   unfold gl at z
   split at z
   ·exact absurd z qD
   ·split at z
    ·exact absurd z qD
    ·omega
  obtain⟨a,ha⟩:∃a:Nat,(base-d.b).toNat=a:=⟨_,rfl⟩;have A:base-d.b=(a:Int):=by omega
  have Yy:a<=l.length:=by omega
  rw[ha] at f;obtain⟨D,hs0⟩:∃D,tx[a]? =some D:=⟨_,af (by have:=iB.Pe;omega)⟩;have V1:tx.getD a []=D:=by rw[aA,hs0];rfl
  rw[V1] at f;have X:u[a]? =some [.str D]:=by rw[m,ds,av,hs0];rfl
  have Z:P.eP D=(D.length:Int):=eF hP _;have i6:P.i64 (P.sub base d.b):=by rw[sub_eq hP,A];exact ft hP qO
  have i7:P.fQ 0 (P.sub base d.b):=by rw[sub_eq hP,A];exact iQ hP (aT _)
  have i8:P.fQ (P.sub base d.b) (P.da lr):=by rw[sub_eq hP,A,T4];exact yK hP qO
  have i9:P.fQ (P.da lr) (P.da lr):=yK hP (bf _);obtain⟨l',E⟩:∃l',l'=l.drop a:=⟨_,rfl⟩;rw[<-E] at f;have I:P.pN lr (P.sub base d.b) (P.da lr)=l'.map a8:=by
   rw[sub_eq hP,A,gi hP];have e:P.pN lr (a:Int) (lr.length:Int)=(lr.take ((lr.length:Int)).toNat).drop ((a:Int)).toNat:=by subst hP;rfl
   rw[e,aM,aM,cj,j,E,eL]
  obtain⟨rs,B⟩:∃rs,P.pN lr (P.sub base d.b) (P.da lr)=rs:=⟨_,rfl⟩;rw[B] at I;have G:P.da rs=(l'.length:Int):=by rw[gi hP,I,aI]
  have J:∀r∈l',r.Ok:=λr hr=>iB.rv.2 r (cy (E▸hr));have Ce:l'.length<=64:=by rw[E,bA];omega
  cbv
  repeat' first|(refine qA ?_;cbv)|(intro c;cbv)
  refine T3 0 bl d u lr base a D _ _ ht W M A qW X rfl ?_;cbv
  repeat' first|(refine qA ?_;cbv)|(intro c;cbv)|(refine jF _ _ ?_;cbv)|fail
  refine ab (λg=>?_) (λg=>?_)
  ·have g9:P.eP D≠ix:=fE hP g;have f:=f.trans (ae (λe=>g9 (Z.trans e)));cbv
   repeat' first|(refine qA ?_;cbv)|(intro c;cbv)
   exact U _ _ d tx l u lr _ _ f.symm m j (a7.refl _) rfl ⟨rfl,trivial⟩
  have g9:P.eP D=ix:=fD hP g;have f:=f.trans (aa (λh=>h (Z.symm.trans g9)));clear g;cbv
  repeat' first|(refine qA ?_;cbv)|(intro c;cbv)
  have T6:=B;refine⟨W5 x0 l',λy=>[(0,.ptr 0 (some bl) 31 0 0),(3,.ptr 3 (some b3) 4 0 0),(9,.sl false 3 y.dx),(90,.sl false 3 (P.pN lr (P.sub base d.b) (P.da lr))),(91,qI (P.da (P.pN lr (P.sub base d.b) (P.da lr)))),(92,qI y.k)],
   λy=>[(0,fV bl d (.sl false 1 u) (.sl false 3 lr)),(3,⟨some b3,95,4,[[qI base,qI who,qI seq,.sl false 3 dr]]⟩)],λy=>l'.length-y.i,
   ⟨_,a7.refl _,⟨0,0,x0,dr,bd _,rfl,Ss,NO,rfl⟩,⟨rfl,rfl,rfl,rfl,rfl,rfl,trivial⟩,⟨rfl,rfl,trivial⟩⟩,?_⟩
  rw[B];rintro⟨i,k,o,dx,hi,hk,wJ,Pg,hf⟩;cbv;refine ab (λg=>?_) (λg=>?_)
  ·have k1:k<P.da rs:=fA hP g;rw[G] at k1;clear g;have p:i<l'.length:=by((try simp only[nc] at*);omega)
   obtain⟨r,ko⟩:∃r,l'[i]? =some r:=⟨_,af p⟩;have C:P.row rs (P.nat k) [qI r.who,qI r.seq,.sl false 3 (r.delta.map a6)]:=fL hP hk (by rw[I,av,ko];rfl);have Pr:=(J r (az ko)).2.2;have RE:fS o (l'.drop i)=if mE r.delta o≠0 then([],mE r.delta o) else fS (mD r.delta o) (l'.drop (i+1)):=by
    have e:l'.drop i=r::l'.drop (i+1):=by rw[bX p];congr 1;rw[af p] at ko;exact cL ko
    rw[e,fS,N2,N1]
   have L:mE r.delta o=0->fw (mD r.delta o):=by
    intro h0;rw[N2] at h0;rw[N1];obtain⟨_,_,_,u4,u5⟩:=oY h0;rw[u5];exact nJ u4
   rw[RE] at hf;obtain⟨VY,RF⟩:∃w,r.who=w:=⟨_,rfl⟩;obtain⟨rq,RG⟩:∃w,r.seq=w:=⟨_,rfl⟩;obtain⟨rd,T7⟩:∃w,r.delta=w:=⟨_,rfl⟩;rw[RF,RG,T7] at C;rw[T7] at hf L Pr;obtain⟨F,T8⟩:∃F,F=rd.map a6:=⟨_,rfl⟩;rw[<-T8] at C;obtain⟨dc,RH⟩:∃F,F=(mC rd o).map a6:=⟨_,rfl⟩;obtain⟨dd,T9⟩:∃F,F=(mD rd o).map a6:=⟨_,rfl⟩;obtain⟨me,RI⟩:∃e,mE rd o=e:=⟨_,rfl⟩;have hm:=O rd o F dx dc dd Pr Pg T8 wJ RH T9;rw[RI] at hm hf L;have q1:P.fQ 0 k:=iQ hP (by rw[hk];exact aT _);have q3:P.i64 (P.add k 1):=by rw[add_eq hP];exact ft hP qO
   have q4:P.add k 1=((i+1:Nat):Int):=by rw[add_eq hP,hk];simp
   cbv
   repeat' first|(refine qA ?_;cbv)|(intro c;cbv)
   refine⟨_,C,?_⟩;cbv
   repeat' first|(refine qA ?_;cbv)|(intro c;cbv)|(refine hm _ _ ?_;cbv)|fail
   refine ab (λg=>?_) (λg=>?_)
   ·have g10:me≠0:=fE hP g;rw[ae g10] at hf;have RJ:Y=⟨d,tx,l,0,me⟩:=by rw[f,<-hf,ae g10]
    cbv
    repeat' first|(refine qA ?_;cbv)|(intro c;cbv)
    exact U _ _ d tx l u lr _ _ RJ.symm m j (a7.refl _) rfl ⟨rfl,trivial⟩
   have g10:me=0:=fD hP g;rw[aa (λh=>h g10)] at hf;cbv
   repeat' first|(refine qA ?_;cbv)|(intro c;cbv)
   refine⟨_,a7.refl _,⟨i+1,_,mD rd o,dd,p,q4,T9,L g10,hf⟩,⟨rfl,rfl,rfl,rfl,rfl,rfl,trivial⟩,⟨rfl,rfl,trivial⟩,?_⟩;show l'.length-(i+1)<l'.length-i;omega
  have k1:¬k<P.da rs:=fg hP g;rw[G] at k1;clear g;have p:i=l'.length:=by((try simp only[nc] at*);omega)
  have Pf:fS x0 l'=(o,0):=by
   have hf:fS o (l'.drop i)=fS x0 l':=hf;rw[p,dJ] at hf;rw[<-hf];rfl
  rw[Pf,aa (λh=>h rfl)] at f;cbv
  repeat' first|(refine qA ?_;cbv)|(intro c;cbv)|(refine ES 0 bl d tx l u lr ⟨who,seq,o⟩ who seq dx _ _ m j iB ⟨rfl,rfl,wJ⟩ Pg rfl λd2 Ua l2 v e V2 V3 hA RM RN=>?_;cbv)|fail
  exact U _ _ d2 Ua l2 V2 V3 v e (by rw[f,hA]) RM RN (a7.refl _) rfl ⟨rfl,trivial⟩
 have g5:¬0<seq:=fg hP g;clear g;rw[aa (λh=>g5 h.1)] at f;cbv
 repeat' first|(refine qA ?_;cbv)|(intro c;cbv)
 refine ab (λg=>?_) (λg=>?_)
 ·have g7:seq<=la:=iG hP g;rw[ae g7] at f;cbv
  repeat' first|(refine qA ?_;cbv)|(intro c;cbv)
  exact U _ _ d tx l u lr _ _ f.symm m j (a7.refl _) rfl ⟨rfl,trivial⟩
 have g7:¬seq<=la:=iA hP g;rw[aa g7] at f;clear g;cbv
 repeat' first|(refine qA ?_;cbv)|(intro c;cbv)
 refine N 0 bl d u lr base _ _ ht W M qO rfl λwt H=>?_;rw[T5] at H;rw[<-H] at f;cbv
 repeat' first|(refine qA ?_;cbv)|(intro c;cbv)
 refine ab (λg=>?_) (λg=>?_)
 ·have g8:wt≠0:=fE hP g;rw[ae g8] at f;cbv
  repeat' first|(refine qA ?_;cbv)|(intro c;cbv)
  exact U _ _ d tx l u lr _ _ f.symm m j (a7.refl _) rfl ⟨rfl,trivial⟩
 have g8:wt=0:=fD hP g;rw[aa (λh=>h g8)] at f;clear g;have vo:d.b<=base/\base<=d.b+(l.length:Int):=by
  have z:gl d.b l.length base=0:=by rw[<-H];exact g8
  unfold gl at z
  split at z
  ·exact absurd z qD
  ·split at z
   ·exact absurd z qD
   ·omega
 obtain⟨a,ha⟩:∃a:Nat,(base-d.b).toNat=a:=⟨_,rfl⟩;have A:base-d.b=(a:Int):=by omega
 have Yy:a<=l.length:=by omega
 rw[ha] at f;obtain⟨D,hs0⟩:∃D,tx[a]? =some D:=⟨_,af (by have:=iB.Pe;omega)⟩;have V1:tx.getD a []=D:=by rw[aA,hs0];rfl
 rw[V1] at f;have X:u[a]? =some [.str D]:=by rw[m,ds,av,hs0];rfl
 have Z:P.eP D=(D.length:Int):=eF hP _;have i6:P.i64 (P.sub base d.b):=by rw[sub_eq hP,A];exact ft hP qO
 have i7:P.fQ 0 (P.sub base d.b):=by rw[sub_eq hP,A];exact iQ hP (aT _)
 have i8:P.fQ (P.sub base d.b) (P.da lr):=by rw[sub_eq hP,A,T4];exact yK hP qO
 have i9:P.fQ (P.da lr) (P.da lr):=yK hP (bf _);obtain⟨l',E⟩:∃l',l'=l.drop a:=⟨_,rfl⟩;rw[<-E] at f;have I:P.pN lr (P.sub base d.b) (P.da lr)=l'.map a8:=by
  rw[sub_eq hP,A,gi hP];have e:P.pN lr (a:Int) (lr.length:Int)=(lr.take ((lr.length:Int)).toNat).drop ((a:Int)).toNat:=by subst hP;rfl
  rw[e,aM,aM,cj,j,E,eL]
 obtain⟨rs,B⟩:∃rs,P.pN lr (P.sub base d.b) (P.da lr)=rs:=⟨_,rfl⟩;rw[B] at I;have G:P.da rs=(l'.length:Int):=by rw[gi hP,I,aI]
 have J:∀r∈l',r.Ok:=λr hr=>iB.rv.2 r (cy (E▸hr));have Ce:l'.length<=64:=by rw[E,bA];omega
 cbv
 repeat' first|(refine qA ?_;cbv)|(intro c;cbv)
 refine T3 0 bl d u lr base a D _ _ ht W M A qW X rfl ?_;cbv
 repeat' first|(refine qA ?_;cbv)|(intro c;cbv)|(refine jF _ _ ?_;cbv)|fail
 refine ab (λg=>?_) (λg=>?_)
 ·have g9:P.eP D≠ix:=fE hP g;have f:=f.trans (ae (λe=>g9 (Z.trans e)));cbv
  repeat' first|(refine qA ?_;cbv)|(intro c;cbv)
  exact U _ _ d tx l u lr _ _ f.symm m j (a7.refl _) rfl ⟨rfl,trivial⟩
 have g9:P.eP D=ix:=fD hP g;have f:=f.trans (aa (λh=>h (Z.symm.trans g9)));clear g;cbv
 repeat' first|(refine qA ?_;cbv)|(intro c;cbv)
 have T6:=B;refine⟨W5 x0 l',λy=>[(0,.ptr 0 (some bl) 31 0 0),(3,.ptr 3 (some b3) 4 0 0),(9,.sl false 3 y.dx),(90,.sl false 3 (P.pN lr (P.sub base d.b) (P.da lr))),(91,qI (P.da (P.pN lr (P.sub base d.b) (P.da lr)))),(92,qI y.k)],
  λy=>[(0,fV bl d (.sl false 1 u) (.sl false 3 lr)),(3,⟨some b3,95,4,[[qI base,qI who,qI seq,.sl false 3 dr]]⟩)],λy=>l'.length-y.i,
  ⟨_,a7.refl _,⟨0,0,x0,dr,bd _,rfl,Ss,NO,rfl⟩,⟨rfl,rfl,rfl,rfl,rfl,rfl,trivial⟩,⟨rfl,rfl,trivial⟩⟩,?_⟩
 rw[B];rintro⟨i,k,o,dx,hi,hk,wJ,Pg,hf⟩;cbv;refine ab (λg=>?_) (λg=>?_)
 ·have k1:k<P.da rs:=fA hP g;rw[G] at k1;clear g;have p:i<l'.length:=by((try simp only[nc] at*);omega)
  obtain⟨r,ko⟩:∃r,l'[i]? =some r:=⟨_,af p⟩;have C:P.row rs (P.nat k) [qI r.who,qI r.seq,.sl false 3 (r.delta.map a6)]:=fL hP hk (by rw[I,av,ko];rfl);have Pr:=(J r (az ko)).2.2;have RE:fS o (l'.drop i)=if mE r.delta o≠0 then([],mE r.delta o) else fS (mD r.delta o) (l'.drop (i+1)):=by
   have e:l'.drop i=r::l'.drop (i+1):=by rw[bX p];congr 1;rw[af p] at ko;exact cL ko
   rw[e,fS,N2,N1]
  have L:mE r.delta o=0->fw (mD r.delta o):=by
   intro h0;rw[N2] at h0;rw[N1];obtain⟨_,_,_,u4,u5⟩:=oY h0;rw[u5];exact nJ u4
  rw[RE] at hf;obtain⟨VY,RF⟩:∃w,r.who=w:=⟨_,rfl⟩;obtain⟨rq,RG⟩:∃w,r.seq=w:=⟨_,rfl⟩;obtain⟨rd,T7⟩:∃w,r.delta=w:=⟨_,rfl⟩;rw[RF,RG,T7] at C;rw[T7] at hf L Pr;obtain⟨F,T8⟩:∃F,F=rd.map a6:=⟨_,rfl⟩;rw[<-T8] at C;obtain⟨dc,RH⟩:∃F,F=(mC rd o).map a6:=⟨_,rfl⟩;obtain⟨dd,T9⟩:∃F,F=(mD rd o).map a6:=⟨_,rfl⟩;obtain⟨me,RI⟩:∃e,mE rd o=e:=⟨_,rfl⟩;have hm:=O rd o F dx dc dd Pr Pg T8 wJ RH T9;rw[RI] at hm hf L;have q1:P.fQ 0 k:=iQ hP (by rw[hk];exact aT _);have q3:P.i64 (P.add k 1):=by rw[add_eq hP];exact ft hP qO
  have q4:P.add k 1=((i+1:Nat):Int):=by rw[add_eq hP,hk];simp
  cbv
  repeat' first|(refine qA ?_;cbv)|(intro c;cbv)
  refine⟨_,C,?_⟩;cbv
  repeat' first|(refine qA ?_;cbv)|(intro c;cbv)|(refine hm _ _ ?_;cbv)|fail
  refine ab (λg=>?_) (λg=>?_)
  ·have g10:me≠0:=fE hP g;rw[ae g10] at hf;have RJ:Y=⟨d,tx,l,0,me⟩:=by rw[f,<-hf,ae g10]
   cbv
   repeat' first|(refine qA ?_;cbv)|(intro c;cbv)
   exact U _ _ d tx l u lr _ _ RJ.symm m j (a7.refl _) rfl ⟨rfl,trivial⟩
  have g10:me=0:=fD hP g;rw[aa (λh=>h g10)] at hf;cbv
  repeat' first|(refine qA ?_;cbv)|(intro c;cbv)
  refine⟨_,a7.refl _,⟨i+1,_,mD rd o,dd,p,q4,T9,L g10,hf⟩,⟨rfl,rfl,rfl,rfl,rfl,rfl,trivial⟩,⟨rfl,rfl,trivial⟩,?_⟩;show l'.length-(i+1)<l'.length-i;omega
 have k1:¬k<P.da rs:=fg hP g;rw[G] at k1;clear g;have p:i=l'.length:=by((try simp only[nc] at*);omega)
 have Pf:fS x0 l'=(o,0):=by
  have hf:fS o (l'.drop i)=fS x0 l':=hf;rw[p,dJ] at hf;rw[<-hf];rfl
 rw[Pf,aa (λh=>h rfl)] at f;cbv
 repeat' first|(refine qA ?_;cbv)|(intro c;cbv)|(refine ES 0 bl d tx l u lr ⟨who,seq,o⟩ who seq dx _ _ m j iB ⟨rfl,rfl,wJ⟩ Pg rfl λd2 Ua l2 v e V2 V3 hA RM RN=>?_;cbv)|fail
 exact U _ _ d2 Ua l2 V2 V3 v e (by rw[f,hA]) RM RN (a7.refl _) rfl ⟨rfl,trivial⟩
theorem N7(bl:Nat)(d:im)(tx:List BS)(l:List eX)(iB:vS d tx l)(base who seq:Int)(x:List Part)(hx:fw x):Spec Tryz.prog 46 [.ptr 0 (some bl) 31 0 0,.agg [qI base,qI who,qI seq,.sl false 3 (x.map a6)]] (b7 (oV bl d tx l)) λv h'=>∃f,(∃d' iE l',(∃n e,v=.tup [qI n,qI e]/\⟨d',iE,l',n,e⟩=lM d tx l base who seq x)/\f=oV bl d' iE l')/\h'=b7 f:=by
 refine fe gY N6 (L:=oV bl d tx l) (λv f=>∃d' iE l',(∃n e,v=.tup [qI n,qI e]/\⟨d',iE,l',n,e⟩=lM d tx l base who seq x)/\f=oV bl d' iE l') λR i=>?_;have fin:∀(s s':S)(d':im)(iE:List BS)(l':List eX)(b c:List (List V))(v e:Int),(⟨d',iE,l',v,e⟩:Fl)=lM d tx l base who seq x->b=ds iE->c=l'.map a8->a7 s s'->hX [.t 4,.t 5] [qI v,qI e] s'->fh [(0,fV bl d' (.sl false 1 b) (.sl false 3 c))] s'->R s:=by
  rintro s s' d' iE l' b c v e g rfl rfl he hr ha;exact i s s' (.tup [qI v,qI e]) (oV bl d' iE l') he (eS _ _ _ (λx hx=>by rw[hx];rfl) hr) ha (.tup _ (by simp;exact⟨.int _ _,.int _ _⟩)) uD ⟨_,_,_,⟨v,e,rfl,g⟩,rfl⟩
 refine sk 3 pH _ ?_;refine Kd ca rfl _ _ bl (fV bl d (.sl false 1 (ds tx)) (.sl false 3 (l.map a8))) base who seq (x.map a6) (cF x) (iV (gU x hx.1) rfl) _ R (λs s' e h he hr ha=>?_) (λoA hc s hs=>?_)
 ·refine fin s s' d tx l _ _ 0 e ?_ rfl rfl he hr ha;unfold lM
  rcases h with⟨h,rfl⟩|⟨h,hc,rfl⟩
  ·rw[ae h]
  ·rw[aa h,ae hc]
 ·obtain⟨c1,j,_,_⟩:=dv hc;refine Ke ca rfl _ _ B8 Tl Q8 Tk TZ bl d tx (ds tx) rfl l (l.map a8) rfl iB base who seq qW x hx _ rfl (jy x) (qi (lI x c1 j) (λ_=>.cons (.j8 _ _) .nil) rfl) (λa x=>(er a x).1) (λa x=>(er a x).2.1) (λa x=>(er a x).2.2) (λ_ _=>rfl) (λ_ _=>rfl) (λa x k dx m dd ha hx h1 h2 h3 h4=>by subst h1 h2 h3 h4;exact lU (vU a x ha.1 hx.1) rfl rfl)
   _ _ rfl rfl _ rfl R (λs s' d' iE l' b c v e g h1 h2 he hr ha=>fin s s' d' iE l' b c v e ?_ h1 h2 he hr ha) s hs
  rw[g];unfold lM;rw[aa oA,aa (show¬cF x≠0 from λh=>h hc)]
def Ps(T:cp):Prop:=∀(k bl:Nat)(d:im)(tx:List BS)(l:List eX)(c lr:List (List V))(base who seq:Int)(x:List Part)(dr:List (List V))(h:Hp)(K:V->Hp->Prop),c=ds tx->lr=l.map a8->vS d tx l->dr=x.map a6->fw x->h k=some (fV bl d (.sl false 1 c) (.sl false 3 lr))->
 (∀d' iE l' v e a b,⟨d',iE,l',v,e⟩=lM d tx l base who seq x->a=ds iE->b=l'.map a8->K (.tup [qI v,qI e]) (h.e9 [(k,fV bl d' (.sl false 1 a) (.sl false 3 b))]))->T 46 [.ptr k (some bl) 31 0 0,.agg [qI base,qI who,qI seq,.sl false 3 dr]] h K
theorem Ub:Ps (fa Tryz.prog):=by
 rintro k bl d tx l a lr base who seq x dr h K rfl rfl iB rfl hx hk hK;refine Tn (post:=λv d' iE l'=>∃n e,v=.tup [.int .i64 n,.int .i64 e]/\⟨d',iE,l',n,e⟩=lM d tx l base who seq x) (N7 bl d tx l iB base who seq x hx) (λ_ _=>.cons (.same _) .nil) (λx d' iE l' g hp=>by obtain⟨v,e,rfl,_⟩:=hp;rfl) hk ?_;rintro v d' iE l' ⟨n,e,rfl,hp⟩;exact hK d' iE l' n e _ _ hp rfl rfl
theorem Cf{b:Int}{a c:List eX}{t:Nat->Int}{i:Nat}{now:BS}(h:gj b t i now (a++c)):gj b t i now a:=((l9 a c t i now).1 h).1
theorem Kf{b:Int}{tb:Nat->Int}{i:Nat}{now:BS}{l:List eX}(hc:gj b tb i now l):∀r∈l,r.delta.length<=10000000:=λr hr=>by
 have:=(l7 (nH (ma l _ _ _ hc r hr)).2.2).1;omega
def Fp(d:im)(i:Int):BS:=if i=0 then d.x1 else d.x3
def Uc(d:im)(i:Int):Int:=if i=0 then d.x2 else d.x4
structure MP(d:SC)(l:List eX)(m:Option Mv)(dr:im)(tx:List BS):Prop where
 qL:Bb d l m
 LH:∀i,i=0\/i=1->gQ d i=Fp dr i
 Tf:∀i,i=0\/i=1->jh d i=Uc dr i
 gr:dr.gr=d.gr
 gn:dr.gn=d.gn
 b:dr.b=d.b
 fs:yi dr.fs d.fs
 sf:dr.sf=d.sf
 jq:dr.jq=d.jq
 sT:m=none->dr.mv=false
 Vc:∀x,m=some x->dr.mv=true/\dr.to=x.f/\dr.pt=x.c/\dr.wh=x.w
 Pe:tx.length=l.length+1
 Ud:∀i:Nat,i<=l.length->tx[i]? =some (lK d.tx (l.take i))
theorem two{a:Int}(h:a=0\/a=1){p:Int->Prop}(h1:p a)(h2:p (1-a)):∀i,i=0\/i=1->p i:=by
 rintro i (rfl|rfl)
 ·rcases h with rfl|rfl
  ·exact h1
  ·exact h2
 ·rcases h with rfl|rfl
  ·exact h2
  ·exact h1
theorem MP.Vd{d:SC}{l:List eX}{m:Option Mv}{dr:im}{tx:List BS}(h:MP d l m dr tx):yi (iK dr.fs dr.b l) d.tb:=by
 rw[h.b];exact(Ad l _ _ _ h.fs).trans h.qL.tb.symm
theorem MP.Yz{d:SC}{l:List eX}{m:Option Mv}{dr:im}{tx:List BS}(h:MP d l m dr tx):Yt d l dr tx:=by
 have hb:=h.qL.hd.b;unfold nX at hb;obtain⟨v1,v2,v3,v4⟩:=uC h.qL.ch;refine⟨h.LH 0 (.inl rfl),h.Tf 0 (.inl rfl),h.LH 1 (.inr rfl),h.Tf 1 (.inr rfl),h.b.symm,h.sf.symm,qW,v4,v1,v2,Kf h.qL.ch,λj hj=>(h.Vd j hj).symm,λi hi=>⟨_,h.Ud i hi,?_⟩⟩;rw[Ah h.qL ⟨qW,qW⟩];have e:(d.b+(i:Int)-d.b).toNat=i:=by omega
 unfold jN;rw[e]
theorem MP.ok{d:SC}{l:List eX}{m:Option Mv}{dr:im}{tx:List BS}(h:MP d l m dr tx):vS dr tx l:=by
 have hb:=h.qL.hd.b;have hg:=h.qL.hd.g;unfold nX at hb hg;obtain⟨v1,v2,v3,v4⟩:=uC h.qL.ch;have hs0:=(h.qL.dk.slot 0).1;have hs1:=(h.qL.dk.slot 1).1;rw[h.LH 0 (.inl rfl)] at hs0;rw[h.LH 1 (.inr rfl)] at hs1;refine⟨by rw[h.b];omega,v4,h.Pe,λs hs=>?_,v1,v2,by rw[h.gr];exact h.qL.gr,by rw[h.gn];omega,⟨hs0,hs1⟩,λhm=>?_⟩
 ·obtain⟨i,hi⟩:=dL hs;have hlt:=(ah.1 hi).1;have a:=h.Pe;rw[h.Ud i qW] at hi;cases hi;have hc:=h.qL.ch;rw[<-bL i l] at hc;have:=tf _ _ _ _ (Cf hc) h.qL.hd.tx;exact bG this qD
 ·obtain _|x:=m
  ·rw[h.sT rfl] at hm;cases hm
  ·obtain⟨_,h2,h3,_⟩:=h.Vc x rfl;obtain⟨_,hf,_,ho⟩:=h.qL.ot;rw[h2,h3,h.b];have hl:=h.qL.len;refine⟨hf,?_⟩
   rcases ho with⟨g1,_⟩|⟨g1,_,g2,_⟩|⟨g1,_,g2,_⟩<;>omega
theorem RO:MP kL [] none vR [[]]:=by
 have hz:th Z0:=by show j7 [] 0 [] 0=0;decide
 obtain⟨a1,a2,a3,a4,a5⟩:=Dr;have hl:((iu 1 0 [] λ_=>0).1++(gC 3 []).1).length<=1048576:=by
  have h1:=tg (g:=1) (b:=0) (tx:=[]) (t:=λ_=>0) qD;rw[vL yo,yl];show(qV (mF 1 0 [] λ_=>0)++qV kV).length<=_;have h2:=h1.2.2;have h3:kV.body.length=0:=rfl;rw[an,nY,nY];omega
 obtain⟨p1,p2,a,c⟩:=pE hz (.inl rfl) (t:=(iu 1 0 [] λ_=>0).1++(gC 3 []).1) (by show 0+_<=_;omega);obtain⟨q1,q2,d,f⟩:=Dn p1 (.inl rfl);have e:kL= {pS (kT Z0 0 ((iu 1 0 [] λ_=>0).1++(gC 3 []).1)) 0 with gn:=1,b:=0,tx:=[],fs:=λ_=>0,tb:=λ_=>0,wh:=true,gd:=0}:=rfl
 have d0:gQ kL 0=(iu 1 0 [] λ_=>0).1++(gC 3 []).1:=by rw[e];exact(q2 0).trans p2
 have d1:gQ kL 1=[]:=by rw[e];exact(q2 1).trans a
 have h:jh kL 0=(((iu 1 0 [] λ_=>0).1++(gC 3 []).1).length:Int):=by
  have h1:jh kL 0=((gQ (kT Z0 0 ((iu 1 0 [] λ_=>0).1++(gC 3 []).1)) 0).length:Int):=by rw[e];exact d
  rw[h1,p2];rfl
 have s1:jh kL 1=0:=by
  have h1:jh kL 1=jh (kT Z0 0 ((iu 1 0 [] λ_=>0).1++(gC 3 []).1)) 1:=by rw[e];exact f
  rw[h1,c];rfl
 refine⟨a1,?_,?_,by rw[e];rfl,by rw[a3];rfl,by rw[a2];rfl,λ_ _=>by rw[e];rfl,by rw[e];rfl,by rw[a4];rfl,λ_=>rfl,λx hx=>(by cases hx),rfl,λi hi=>?_⟩
 ·rintro i (rfl|rfl)
  ·rw[d0];rfl
  ·rw[d1];rfl
 ·rintro i (rfl|rfl)
  ·rw[h];rfl
  ·rw[s1];rfl
 ·have hi:i<=0:=hi;have e:i=0:=by omega
  subst e;rw[a5];rfl
theorem Kg{d:SC}{l:List eX}{m:Option Mv}(h:Bb d l m){t:BS}(ht:t.length<=4007):gQ (ld d m t) d.gr=gQ d d.gr++t/\(∀j,jh (ld d m t) j=jh d j)/\gQ (ld d m t) (1-d.gr)=vN m (gQ d (1-d.gr)) t:=by
 have n:=h.Tg;obtain⟨p1,p2,a,e⟩:=pE h.dk h.gr (t:=t) qW;obtain _|⟨f,c,w⟩:=m
 ·exact⟨p2,e,a⟩
 ·cases w with
  |false=>exact⟨p2,e,a⟩
  |true=>
   have i:ld d (some ⟨f,c,true⟩) t=kT (kT d d.gr t) (1-d.gr) t:=rfl;rw[i];have OO:(gQ (kT d d.gr t) (1-d.gr)).length+t.length<=1048576:=by
    rw[a];obtain⟨_,hf,hg,ho⟩:=h.ot
    rcases ho with⟨_,hw,_⟩|⟨_,hw,_⟩|⟨_,_,_,r1,r2,r,e1,e2,_⟩
    ·cases hw
    ·cases hw
    ·have e2:gQ d (1-d.gr)=ig (kM (d.gn+1) f (jN d l f) (nI d l f) r1 (some r2)):=e2;have e1:pZ d l f=r1++r2:=e1;have hf:d.b<=f/\f<=d.b+(l.length:Int):=hf;rw[e2];obtain⟨s1,s2,s,p⟩:=ti h hf;have hh:=h.len;have:=lZ (g:=d.gn+1) (b:=f) (t:=nI d l f) s2 (r1:=r1) (o:=some r2) (by rw[e1] at s1;exact ma _ _ _ _ s1) (by show(r1++r2).length<=64;rw[<-e1,p];omega);omega
   obtain⟨q1,q2,k,q⟩:=pE p1 h.UU (t:=t) OO;have e1:(1:Int)-(1-d.gr)=d.gr:=by omega
   rw[e1] at k;exact⟨by rw[k,p2],λj=>by rw[q,e],by rw[q2,a];rfl⟩
theorem AG(d:im){i:Int}(hi:i=0\/i=1)(t:BS):Fp (lL d i t) i=Fp d i++t/\Fp (lL d i t) (1-i)=Fp d (1-i)/\(∀j,Uc (lL d i t) j=Uc d j)/\(lL d i t).gr=d.gr/\(lL d i t).gn=d.gn/\(lL d i t).b=d.b/\(lL d i t).fs=d.fs/\(lL d i t).sf=d.sf/\(lL d i t).jq=d.jq/\(lL d i t).mv=d.mv/\(lL d i t).to=d.to/\(lL d i t).pt=d.pt/\(lL d i t).wh=d.wh:=by
 rcases hi with rfl|rfl
 ·exact⟨rfl,rfl,λj=>rfl,rfl,rfl,rfl,rfl,rfl,rfl,rfl,rfl,rfl,rfl⟩
 ·exact⟨rfl,rfl,λj=>rfl,rfl,rfl,rfl,rfl,rfl,rfl,rfl,rfl,rfl,rfl⟩
theorem AH(d:SC)(l:List eX)(m:Option Mv)(r:eX):(fN d l m r).d.gr=d.gr:=by
 have hp:∀t,(ld d m t).gr=d.gr:=by
  intro t;unfold ld
  split
  ·rfl
  ·split<;>rfl
 unfold fN
 split
 ·rfl
 ·split
  ·rfl
  ·exact hp _
theorem Kh{d:SC}{l:List eX}{m:Option Mv}{dr:im}{tx:List BS}(h:MP d l m dr tx):tx.getD l.length []=d.now:=by
 rw[aA,h.Ud l.length (ag _),cj,h.qL.now];rfl
theorem RP{d:SC}{l:List eX}{m:Option Mv}{dr:im}{tx:List BS}(h:MP d l m dr tx)(r:eX):(n6 dr tx l r).v=(fN d l m r).v/\(n6 dr tx l r).e=(fN d l m r).e/\(n6 dr tx l r).l=(fN d l m r).l/\MP (fN d l m r).d (fN d l m r).l m (n6 dr tx l r).d (n6 dr tx l r).tx:=by
 have hn:gL dr.b (iK dr.fs dr.b l) l.length (tx.getD l.length []).length r=gL d.b d.tb l.length d.now.length r:=by
  rw[Kh h,h.b];have:=h.Vd;rw[h.b] at this;exact Ae this _ _ _
 by_cases h0:gL d.b d.tb l.length d.now.length r=0
 ·have k:n6 dr tx l r=⟨ic dr (gN r).1,tx++[(gP r.delta (tx.getD l.length [])).1],l++[r],dr.b+((l.length+1:Nat):Int),0⟩:=by
   unfold n6;rw[aa (λg=>g (hn.trans h0))]
  obtain⟨y,t,z,A,B,C,D,u8,E⟩:=Ns h.qL h0;have h1:=(lB h0).1;have hr:=Dl h1;have hlt:(gN r).1.length<=4007:=by
   have:=(sd h1).2.2;rw[hr,nY];omega
  obtain⟨b1,b2,b3⟩:=Kg h.qL hlt;obtain⟨k1,k2,P,Q⟩:=yq d l m r;have F:=AH d l m r;have u:(fN d l m r).d=vI {ld d m (gN r).1 with now:=(gP r.delta d.now).1} l r:=by
   unfold fN;rw[aa (λx=>x h0),hr];exact aR qy.d (aa (λx=>x rfl))
  have c1:∀j,gQ (fN d l m r).d j=gQ (ld d m (gN r).1) j:=λj=>by rw[u];rfl
  have G:∀j,jh (fN d l m r).d j=jh d j:=λj=>by rw[<-b2,u];rfl
  obtain⟨r1,r2,r3,r4,r5,r6,r7,r8,r9,uq,ur,uu,uw⟩:=AG dr (i:=dr.gr) (by rw[h.gr];exact h.qL.gr) (gN r).1;have H:Fp (ic dr (gN r).1) d.gr=Fp dr d.gr++(gN r).1/\Fp (ic dr (gN r).1) (1-d.gr)=vN m (Fp dr (1-d.gr)) (gN r).1/\(∀j,Uc (ic dr (gN r).1) j=Uc dr j)/\(ic dr (gN r).1).gr=dr.gr/\(ic dr (gN r).1).gn=dr.gn/\(ic dr (gN r).1).b=dr.b/\(ic dr (gN r).1).fs=dr.fs/\(ic dr (gN r).1).sf=dr.sf/\(ic dr (gN r).1).jq=dr.jq/\(ic dr (gN r).1).mv=dr.mv/\(ic dr (gN r).1).to=dr.to/\(ic dr (gN r).1).pt=dr.pt/\(ic dr (gN r).1).wh=dr.wh:=by
   rw[<-h.gr];unfold ic
   by_cases hw:dr.mv=true/\dr.wh=true
   ·rw[ae hw];obtain⟨q1,q2,I,J,K,L,M,N,O,n,o,p,q⟩:=AG (lL dr dr.gr (gN r).1) (i:=1-dr.gr) (by rw[h.gr];exact h.qL.UU) (gN r).1;have e1:(1:Int)-(1-dr.gr)=dr.gr:=by omega
    rw[e1] at q2;have hm:vN m (Fp dr (1-dr.gr)) (gN r).1=Fp dr (1-dr.gr)++(gN r).1:=by
     obtain _|⟨f,c,w⟩:=m
     ·rw[h.sT rfl] at hw;exact absurd hw.1 qD
     ·have:=(h.Vc _ rfl).2.2.2;have hw2:w=true:=by rw[hw.2] at this;exact this.symm
      subst hw2;rfl
    exact⟨by rw[q2,r1],by rw[q1,r2,hm],λj=>by rw[I,r3],by rw[J,r4],by rw[K,r5],by rw[L,r6],by rw[M,r7],by rw[N,r8],by rw[O,r9],by rw[n,uq],by rw[o,ur],by rw[p,uu],by rw[q,uw]⟩
   ·rw[aa hw];have hm:vN m (Fp dr (1-dr.gr)) (gN r).1=Fp dr (1-dr.gr):=by
     obtain _|⟨f,c,w⟩:=m
     ·rfl
     ·obtain⟨g1,_,_,g4⟩:=h.Vc _ rfl;cases w with
      |true=>exact absurd ⟨g1,g4⟩ hw
      |false=>rfl
    exact⟨r1,by rw[r2,hm],r3,r4,r5,r6,r7,r8,r9,uq,ur,uu,uw⟩
  obtain⟨g1,g2,g3,g4,g5,g6,g7,g8,g9,g10,g11,g12,g13⟩:=H;rw[k];refine⟨?_,y.symm,t.symm,?_⟩
  ·show dr.b+((l.length+1:Nat):Int)=_;rw[z,h.b];omega
  ·show MP _ _ m (ic dr (gN r).1) (tx++[_]);rw[t];refine⟨E,?_,λj hj=>by rw[G,g3];exact h.Tf j hj,by rw[g4,F];exact h.gr,by rw[g5,C];exact h.gn,by rw[g6,A];exact h.b,by rw[g7,u8];exact h.fs,by rw[g8,D];exact h.sf,by rw[g9,k1];exact h.jq,λg=>by rw[g10];exact h.sT g,λx hx=>by rw[g10,g11,g12,g13];exact h.Vc x hx,by rw[an,an,h.Pe];rfl,λi hi=>?_⟩
   ·refine two h.qL.gr ?_ ?_
    ·rw[c1,b1,g1,h.LH _ h.qL.gr]
    ·rw[c1,b3,g2,h.LH _ h.qL.UU]
   ·rw[B];rw[an,cu] at hi;have s:=h.Pe
    by_cases a:i<=l.length
    ·rw[aW qW,h.Ud i a,kF a]
    ·have e:i=tx.length:=by omega
     rw[e,aV (ag _),eu];have e2:(l++[r]).take tx.length=l++[r]:=bD (by rw[an,s];exact ag _);rw[e2,sc,Kh h,h.qL.now];rfl
 ·have k:n6 dr tx l r=⟨dr,tx,l,0,gL d.b d.tb l.length d.now.length r⟩:=by
   unfold n6;rw[hn,ae h0]
  rw[k,JJ h0];exact⟨rfl,rfl,rfl,h⟩
theorem Ki{d:SC}{l:List eX}{m:Option Mv}{dr:im}{tx:List BS}(h:MP d l m dr tx)(base who seq:Int)(x:List Part):(lM dr tx l base who seq x).v=(lC d l m base who seq x).v/\(lM dr tx l base who seq x).e=(lC d l m base who seq x).e/\(lM dr tx l base who seq x).l=(lC d l m base who seq x).l/\MP (lC d l m base who seq x).d (lC d l m base who seq x).l m (lM dr tx l base who seq x).d (lM dr tx l base who seq x).tx:=by
 have same:∀v e,((⟨dr,tx,l,v,e⟩:Fl).v=(⟨d,l,v,e⟩:qy).v/\(⟨dr,tx,l,v,e⟩:Fl).e=(⟨d,l,v,e⟩:qy).e/\(⟨dr,tx,l,v,e⟩:Fl).l=(⟨d,l,v,e⟩:qy).l/\MP (⟨d,l,v,e⟩:qy).d (⟨d,l,v,e⟩:qy).l m (⟨dr,tx,l,v,e⟩:Fl).d (⟨dr,tx,l,v,e⟩:Fl).tx):=λv e=>⟨rfl,rfl,rfl,h⟩;unfold lC lM
 by_cases h1:who<0\/7<who\/seq<0\/2147483647<seq
 ·have h2:(jz d.tb who).e≠0\/seq<0\/2147483647<seq:=by
   by_cases hw:who<0\/7<who
   ·left
    unfold jz;rw[ae hw];decide
   ·omega
  rw[ae h1,ae h2];exact same _ _
 ·have hw:jz d.tb who=⟨d.tb (2*who.toNat),d.tb (2*who.toNat+1),0⟩:=by
   unfold jz;rw[aa qW]
  have e1:iK dr.fs dr.b l (2*who.toNat)=d.tb (2*who.toNat):=h.Vd _ qW;have e2:iK dr.fs dr.b l (2*who.toNat+1)=d.tb (2*who.toNat+1):=h.Vd _ qW;rw[aa h1,hw,e1,e2,h.b];rw[aa (show¬((⟨d.tb (2*who.toNat),d.tb (2*who.toNat+1),0⟩:L3).e≠0\/seq<0\/2147483647<seq) from λg=>g.elim (λg=>g rfl) (λg=>by omega))]
  by_cases h3:cF x=0
  ·have hs:lO x=(jy x,gX x,0):=by unfold lO;rw[ae h3]
   rw[hs,aa (show¬cF x≠0 from λg=>g h3),aa (show¬((jy x,gX x,(0:Int)):Int×Int×Int).2.2≠0 from λg=>g rfl)]
   by_cases h4:0<seq/\seq=d.tb (2*who.toNat)
   ·rw[ae h4,ae h4];exact same _ _
   ·rw[aa h4,aa h4]
    by_cases h5:seq<=d.tb (2*who.toNat)
    ·rw[ae h5,ae h5];exact same _ _
    ·rw[aa h5,aa h5]
     by_cases h6:gl d.b l.length base=0
     ·have vo:d.b<=base/\base<=d.b+(l.length:Int):=by
       unfold gl at h6
       split at h6
       ·exact absurd h6 qD
       ·split at h6
        ·exact absurd h6 qD
        ·omega
      have a:=Ah h.qL vo;have c:(gH d l base).1=l.drop (base-d.b).toNat:=by unfold gH;rw[aa (λg=>g h6)]
      have f:tx.getD (base-d.b).toNat []=jN d l base:=by
       rw[aA,h.Ud _ qW];rfl
      rw[aa (show¬gl d.b l.length base≠0 from λg=>g h6),a,c,f];rw[aa (show¬((jN d l base,(0:Int)):BS×Int).2≠0 from λg=>g rfl)]
      by_cases h7:((jN d l base).length:Int)=jy x
      ·rw[aa (show¬((jN d l base).length:Int)≠jy x from λg=>g h7),aa (show¬((jy x,gX x,(0:Int)):Int×Int×Int).1≠(((jN d l base,(0:Int)):BS×Int).1.length:Int) from λg=>g h7.symm)]
       by_cases h8:(fS x (l.drop (base-d.b).toNat)).2=0
       ·rw[aa (show¬(fS x (l.drop (base-d.b).toNat)).2≠0 from λg=>g h8),aa (show¬(fS x (l.drop (base-d.b).toNat)).2≠0 from λg=>g h8)];exact RP h _
       ·rw[ae h8,ae h8];exact same _ _
      ·rw[ae h7,ae (show((jy x,gX x,(0:Int)):Int×Int×Int).1≠(((jN d l base,(0:Int)):BS×Int).1.length:Int) from λg=>h7 g.symm)];exact same _ _
     ·have a:=JG (d:=d) (l:=l) h6;rw[ae h6,a];rw[ae (show((([],gl d.b l.length base):BS×Int)).2≠0 from h6)];exact same _ _
  ·have hs:lO x=(0,0,cF x):=by unfold lO;rw[aa h3]
   rw[hs,ae h3,ae (show(((0:Int),(0:Int),cF x):Int×Int×Int).2.2≠0 from h3)];exact same _ _
end Go.Proofs.YtobngncjflogcaaGreat.AM
