/-
  Part 24 of what the law ShopPlays reaches: the plain machine, contracts of the functions and plain laws; each lemma says its own condition.
-/
import Derived.Test.YtobngncjflogcaaGreatShopPlays23
import Derived.Test.YtobngncjflogcaaGreatShopPlays21
set_option linter.unusedVariables false
set_option linter.unusedSimpArgs false
namespace Go.Proofs.YtobngncjflogcaaGreat.AM
open Go Go.RowKit
set_option maxRecDepth 100000
set_option maxHeartbeats 2000000
section
variable {P:Prim} {T:c8} {s:S} {d x y:Nat} {K:S->Prop}
theorem Bj{i:Nat}{l:List V}{v:V}(hx:s.t x=.tup l)(hi:i<l.length/\l.getD i .iC=v)(hK:K ⟨gy s.t d v,s.h⟩):eH P T ⟨some d,none,.ext i (.t x)⟩ s K:=by
 simp only[eH,jh,fV,iI.ev,hx];refine⟨hi.1,?_⟩;rw[hi.2];exact hK
theorem LO{a b:Int}(hx:s.t x=.int .i64 a)(hy:s.t y=.int .i64 b)(c:P.eq a b=true)(hK:K ⟨gy s.t d (.bool true),s.h⟩):eH P T ⟨some d,none,.bin .eql (.t x) (.t y)⟩ s K:=by
 simp only[eH,jh,fV,iI.ev,hx,hy,BE];refine⟨trivial,?_⟩;rw[c];exact hK
theorem LP{a:Bool}(hx:s.t x=.bool a)(hy:s.t y=.bool a)(hK:K ⟨gy s.t d (.bool true),s.h⟩):eH P T ⟨some d,none,.eqb false (.t x) (.t y)⟩ s K:=by
 simp only[eH,jh,fV,iI.ev,hx,hy,Bp,beq_self_eq_true];exact hK
end
def ig(cell:Nat)(c:Nat)(d:Nat)(e:Nat)(p:V)(row:List V)(a:Int)(b:Int):List (Nat×Nat×V):=[(0,(c+1),.ptr cell (some e) 1 0 0),(1,(c+2),.ptr cell (some e) 1 0 0),(2,(c+3),p),(3,(c+4),.agg row),(4,(c+5),.tup [.int .i64 a,.int .i64 b]),(5,c,.tup [.int .i64 a,.int .i64 b]),(6,(c+6),.int .i64 a),(7,(c+7),.int .i64 b),(8,d,.int .i64 a),(9,(d+1),.int .i64 b)]
def jc(h1:Hp)(done:List Nat)(h0:Hp):Hp:=if fq done 4=true then h1 else h0
def vW(src c d x n f:Nat):List (AO×List Nat):=[
 (⟨some (c+1),none,.mov (.t src)⟩,[]),
 (⟨some (c+2),none,.nilchk (.t (c+1))⟩,[0]),
 (⟨some (c+3),none,.load1 (.t (c+2))⟩,[1]),
 (⟨some (c+4),none,.loadn n (.t x)⟩,[]),
 (⟨some (c+5),none,.call f [(.t (c+3)),(.t (c+4))]⟩,[2,3]),
 (⟨some c,none,.mov (.t (c+5))⟩,[4]),
 (⟨some (c+6),none,.ext 0 (.t c)⟩,[5]),
 (⟨some (c+7),none,.ext 1 (.t c)⟩,[5]),
 (⟨some d,none,.mov (.t (c+6))⟩,[6,4,0,1,2,3,4,5,6]),
 (⟨some (d+1),none,.mov (.t (c+7))⟩,[7,8,0,1,2,3,4,5,6,7,8])]
theorem wD{cell:Nat}{c:Nat}{d:Nat}{e:Nat}{p:V}{row:List V}{a:Int}{b:Int}:((ig cell c d e p row a b).map (·.1)).Nodup:=by show([0,1,2,3,4,5,6,7,8,9]:List Nat).Nodup;decide
theorem o7{cell:Nat}{c:Nat}{d:Nat}{e:Nat}{p:V}{row:List V}{a:Int}{b:Int}(h:([(c+1),(c+2),(c+3),(c+4),(c+5),c,(c+6),(c+7),d,(d+1)]:List Nat).Nodup):((ig cell c d e p row a b).map (·.2.1)).Nodup:=h
theorem uM{P:Prim}(hP:P=dn){T:c8}{K:S->Prop}{t0:Nat->V}{h0:Hp}{src cell c d x n f:Nat}(l:([c+1,c+2,c+3,c+4,c+5,c,c+6,c+7,d,d+1]:List Nat).Nodup)(D:∀{e p row a b},((ig cell c d e p row a b).map (·.2.1)).contains src=false)(E:∀{e p row a b},((ig cell c d e p row a b).map (·.2.1)).contains x=false)(lc:cell<1000000)(F:x<1000000)
  {e A ty w:Nat}{p:V}{row:List V}{Post:Int->Int->Hp->Prop}(mU:row.length=n)(G:t0 src=.ptr cell (some e) 1 0 0)(H:t0 x=.ptr x (some A) n 0 0)(I:h0 cell=some ⟨some e,ty,1,[[p]]⟩)(J:h0 x=some ⟨some A,w,n,[row]⟩)
  (hc1:∀K:V->Hp->Prop,(∀a b h1,Post a b h1->K (.tup [qI a,qI b]) h1)->T f [p,.agg row] h0 K)
  (hK:∀a b h1,Post a b h1->K ⟨L8 (ig cell c d e p row a b) t0,h1⟩):lL P T (vW src c d x n f) 10 [] ⟨t0,h0⟩ K:=by
 refine pU rfl (λdone s=>∃a b h1,(fq done 4=true->Post a b h1)/\s=⟨eO done (ig cell c d e p row a b) t0,(jc h1 done h0)⟩) (λdone i o ps s hj hf hq m y K' h=>?_) (λdone s hd y=>?_) ?_
 ·obtain⟨a,b,h1,w1,rfl⟩:=y
  match i,hj with
  |0,hj=>
   cases hj;show eH P T _ ⟨eO done (ig cell c d e p row a b) t0,(jc h1 done h0)⟩ K';refine gR (v:=.ptr cell (some e) 1 0 0) ((gX (done:=done) (ig cell c d e p row a b) t0 D).trans G) ?_;refine h _ ⟨a,b,h1,by rw[cm qD];exact w1,?_⟩;show(⟨gy (eO done (ig cell c d e p row a b) t0) (c+1) _,(jc h1 done h0)⟩:S)=⟨eO (0::done) (ig cell c d e p row a b) t0,(jc h1 (0::done) h0)⟩;unfold jc;rw[cm (i:=0) (j:=4) qD,dS (k:=0) (ig cell c d e p row a b) t0 wD (o7 l) (.head _)]
  |1,hj=>
   cases hj;show eH P T _ ⟨eO done (ig cell c d e p row a b) t0,(jc h1 done h0)⟩ K';refine iR (dF (done:=done) (hq 0 qD) (ig cell c d e p row a b) t0 (o7 l) (.head _)) ?_;refine h _ ⟨a,b,h1,by rw[cm qD];exact w1,?_⟩;show(⟨gy (eO done (ig cell c d e p row a b) t0) (c+2) _,(jc h1 done h0)⟩:S)=⟨eO (1::done) (ig cell c d e p row a b) t0,(jc h1 (1::done) h0)⟩;unfold jc;rw[cm (i:=1) (j:=4) qD,dS (k:=1) (ig cell c d e p row a b) t0 wD (o7 l) (qM 1 rfl)]
  |2,hj=>
   cases hj;show eH P T _ ⟨eO done (ig cell c d e p row a b) t0,(jc h1 done h0)⟩ K';have z4:fq done 4=false:=by
    cases q:fq done 4
    ·rfl
    ·exact absurd (m 4 _ _ rfl q 2 qD) (by rw[hf];decide)
   refine jw (v:=p) (r:=[p]) (dF (done:=done) (hq 1 qD) (ig cell c d e p row a b) t0 (o7 l) (qM 1 rfl)) (by show(jc h1 done h0) _=_;unfold jc;rw[z4];exact I) lc ⟨by show(0:Nat)<1;decide,rfl⟩ ?_;refine h _ ⟨a,b,h1,by rw[cm qD];exact w1,?_⟩;show(⟨gy (eO done (ig cell c d e p row a b) t0) (c+3) _,(jc h1 done h0)⟩:S)=⟨eO (2::done) (ig cell c d e p row a b) t0,(jc h1 (2::done) h0)⟩;unfold jc;rw[cm (i:=2) (j:=4) qD,dS (k:=2) (ig cell c d e p row a b) t0 wD (o7 l) (qM 2 rfl)]
  |3,hj=>
   cases hj;show eH P T _ ⟨eO done (ig cell c d e p row a b) t0,(jc h1 done h0)⟩ K';have z4:fq done 4=false:=by
    cases q:fq done 4
    ·rfl
    ·exact absurd (m 4 _ _ rfl q 3 qD) (by rw[hf];decide)
   refine o0 (cs:=row) (r:=row) ((gX (done:=done) (ig cell c d e p row a b) t0 E).trans H) (by show(jc h1 done h0) _=_;unfold jc;rw[z4];exact J) F ⟨by rw[mU];omega,by rw[fh];exact aY (by rw[mU];exact ah _)⟩ ?_;refine h _ ⟨a,b,h1,by rw[cm qD];exact w1,?_⟩;show(⟨gy (eO done (ig cell c d e p row a b) t0) (c+4) _,(jc h1 done h0)⟩:S)=⟨eO (3::done) (ig cell c d e p row a b) t0,(jc h1 (3::done) h0)⟩;unfold jc;rw[cm (i:=3) (j:=4) qD,dS (k:=3) (ig cell c d e p row a b) t0 wD (o7 l) (qM 3 rfl)]
  |4,hj=>
   cases hj;show eH P T _ ⟨eO done (ig cell c d e p row a b) t0,(jc h1 done h0)⟩ K';have z5:fq done 5=false:=by
    cases q:fq done 5
    ·rfl
    ·exact absurd (m 5 _ _ rfl q 4 qD) (by rw[hf];decide)
   have B:fq done 6=false:=by
    cases q:fq done 6
    ·rfl
    ·exact absurd (m 6 _ _ rfl q 5 qD) (by rw[z5];decide)
   have C:fq done 7=false:=by
    cases q:fq done 7
    ·rfl
    ·exact absurd (m 7 _ _ rfl q 5 qD) (by rw[z5];decide)
   have L:fq done 8=false:=by
    cases q:fq done 8
    ·rfl
    ·exact absurd (m 8 _ _ rfl q 6 qD) (by rw[B];decide)
   have z9:fq done 9=false:=by
    cases q:fq done 9
    ·rfl
    ·exact absurd (m 9 _ _ rfl q 7 qD) (by rw[C];decide)
   show T _ [eO done (ig cell c d e p row a b) t0 (c+3),eO done (ig cell c d e p row a b) t0 (c+4)] (jc h1 done h0) _;rw[(dF (done:=done) (hq 2 qD) (ig cell c d e p row a b) t0 (o7 l) (qM 2 rfl)),(dF (done:=done) (hq 3 qD) (ig cell c d e p row a b) t0 (o7 l) (qM 3 rfl))];have M:(jc h1 done h0)=h0:=by unfold jc;rw[hf];rfl
   rw[M];refine hc1 _ λu b' t hp=>?_;refine h _ ⟨u,b',t,λ_=>hp,?_⟩;have e1:eO done (ig cell c d e p row a b) t0=eO done (ig cell c d e p row u b') t0:=by
    funext z
    simp only[eO,ig,hf,z5,B,C,L,z9];rfl
   show(⟨gy (eO done (ig cell c d e p row a b) t0) (c+5) _,_⟩:S)=⟨eO (4::done) (ig cell c d e p row u b') t0,jc t (4::done) h0⟩;unfold jc;rw[e1,ik,dS (k:=4) (ig cell c d e p row u b') t0 wD (o7 l) (qM 4 rfl)];rfl
  |5,hj=>
   cases hj;show eH P T _ ⟨eO done (ig cell c d e p row a b) t0,(jc h1 done h0)⟩ K';refine gR (v:=.tup [qI a,qI b]) (dF (done:=done) (hq 4 qD) (ig cell c d e p row a b) t0 (o7 l) (qM 4 rfl)) ?_;refine h _ ⟨a,b,h1,by rw[cm qD];exact w1,?_⟩;show(⟨gy (eO done (ig cell c d e p row a b) t0) c _,(jc h1 done h0)⟩:S)=⟨eO (5::done) (ig cell c d e p row a b) t0,(jc h1 (5::done) h0)⟩;unfold jc;rw[cm (i:=5) (j:=4) qD,dS (k:=5) (ig cell c d e p row a b) t0 wD (o7 l) (qM 5 rfl)]
  |6,hj=>
   cases hj;show eH P T _ ⟨eO done (ig cell c d e p row a b) t0,(jc h1 done h0)⟩ K';refine Bj (v:=qI a) (dF (done:=done) (hq 5 qD) (ig cell c d e p row a b) t0 (o7 l) (qM 5 rfl)) ⟨by show(0:Nat)<2;decide,rfl⟩ ?_;refine h _ ⟨a,b,h1,by rw[cm qD];exact w1,?_⟩;show(⟨gy (eO done (ig cell c d e p row a b) t0) (c+6) _,(jc h1 done h0)⟩:S)=⟨eO (6::done) (ig cell c d e p row a b) t0,(jc h1 (6::done) h0)⟩;unfold jc;rw[cm (i:=6) (j:=4) qD,dS (k:=6) (ig cell c d e p row a b) t0 wD (o7 l) (qM 6 rfl)]
  |7,hj=>
   cases hj;show eH P T _ ⟨eO done (ig cell c d e p row a b) t0,(jc h1 done h0)⟩ K';refine Bj (v:=qI b) (dF (done:=done) (hq 5 qD) (ig cell c d e p row a b) t0 (o7 l) (qM 5 rfl)) ⟨by show(1:Nat)<2;decide,rfl⟩ ?_;refine h _ ⟨a,b,h1,by rw[cm qD];exact w1,?_⟩;show(⟨gy (eO done (ig cell c d e p row a b) t0) (c+7) _,(jc h1 done h0)⟩:S)=⟨eO (7::done) (ig cell c d e p row a b) t0,(jc h1 (7::done) h0)⟩;unfold jc;rw[cm (i:=7) (j:=4) qD,dS (k:=7) (ig cell c d e p row a b) t0 wD (o7 l) (qM 7 rfl)]
  |8,hj=>
   cases hj;show eH P T _ ⟨eO done (ig cell c d e p row a b) t0,(jc h1 done h0)⟩ K';refine gR (v:=qI a) (dF (done:=done) (hq 6 qD) (ig cell c d e p row a b) t0 (o7 l) (qM 6 rfl)) ?_;refine h _ ⟨a,b,h1,by rw[cm qD];exact w1,?_⟩;show(⟨gy (eO done (ig cell c d e p row a b) t0) d _,(jc h1 done h0)⟩:S)=⟨eO (8::done) (ig cell c d e p row a b) t0,(jc h1 (8::done) h0)⟩;unfold jc;rw[cm (i:=8) (j:=4) qD,dS (k:=8) (ig cell c d e p row a b) t0 wD (o7 l) (qM 8 rfl)]
  |9,hj=>
   cases hj;show eH P T _ ⟨eO done (ig cell c d e p row a b) t0,(jc h1 done h0)⟩ K';refine gR (v:=qI b) (dF (done:=done) (hq 7 qD) (ig cell c d e p row a b) t0 (o7 l) (qM 7 rfl)) ?_;refine h _ ⟨a,b,h1,by rw[cm qD];exact w1,?_⟩;show(⟨gy (eO done (ig cell c d e p row a b) t0) (d+1) _,(jc h1 done h0)⟩:S)=⟨eO (9::done) (ig cell c d e p row a b) t0,(jc h1 (9::done) h0)⟩;unfold jc;rw[cm (i:=9) (j:=4) qD,dS (k:=9) (ig cell c d e p row a b) t0 wD (o7 l) (qM 9 rfl)]
  |i+10,hj=>exact absurd (aj.1 hj).1 (by show¬i+10<10;omega)
 ·obtain⟨a,b,h1,w1,rfl⟩:=y;rw[nX _ _ (λz hz=>hd z.1 ?_)]
  ·unfold jc;rw[hd 4 (by show(4:Nat)<10;decide)];exact hK a b h1 (w1 (hd 4 (by show(4:Nat)<10;decide)))
  ·have hm:z.1∈(ig cell c d e p row a b).map (·.1):=aC.2 ⟨z,hz,rfl⟩;have gf:∀x∈([0,1,2,3,4,5,6,7,8,9]:List Nat),x<10:=by decide
   exact gf _ hm
 ·refine⟨0,0,h0,λg=>(by cases g),?_⟩;rw[nW];rfl
def gu(d:Nat)(c:Nat)(p:V)(p2:V)(cs:List (List V))(j:Int)(a:Int)(b:Int):List (Nat×Nat×V):=[(0,104,.ptr 5 (some d) 1 0 0),(1,105,.ptr 5 (some d) 1 0 0),(2,106,p),(3,107,.sl false 1 cs),(4,108,.int .i64 j),(5,109,.int .i64 a),(6,110,.ptr 6 (some c) 1 0 0),(7,111,.ptr 6 (some c) 1 0 0),(8,112,p2),(9,113,.sl false 1 cs),(10,114,.int .i64 j),(11,115,.int .i64 b),(12,116,.bool true),(13,8,.bool true)]
def hO(h1 h2:Hp)(done:List Nat)(h0:Hp):Hp:=if fq done 11=true then h2 else if fq done 5=true then h1 else h0
def LQ:List (AO×List Nat):=[
 (⟨some 104,none,.mov (.t 0)⟩,[]),
 (⟨some 105,none,.nilchk (.t 104)⟩,[0]),
 (⟨some 106,none,.load1 (.t 105)⟩,[1]),
 (⟨some 107,none,.mov (.t 2)⟩,[]),
 (⟨some 108,none,.call 11 [(.t 107),(.c (.int .i64 1))]⟩,[3]),
 (⟨some 109,none,.call 49 [(.t 106),(.t 108)]⟩,[2,4,4]),
 (⟨some 110,none,.mov (.t 1)⟩,[]),
 (⟨some 111,none,.nilchk (.t 110)⟩,[6]),
 (⟨some 112,none,.load1 (.t 111)⟩,[7]),
 (⟨some 113,none,.mov (.t 2)⟩,[]),
 (⟨some 114,none,.call 11 [(.t 113),(.c (.int .i64 1))]⟩,[9,5]),
 (⟨some 115,none,.call 50 [(.t 112),(.t 114)]⟩,[8,10,10]),
 (⟨some 116,none,.bin .eql (.t 109) (.t 115)⟩,[5,11]),
 (⟨some 8,none,.mov (.t 116)⟩,[12,11,0,1,2,3,4,5,6,7,8,9,10,11,12])]
theorem sM{d:Nat}{c:Nat}{p:V}{p2:V}{cs:List (List V)}{j:Int}{a:Int}{b:Int}:((gu d c p p2 cs j a b).map (·.1)).Nodup:=by show([0,1,2,3,4,5,6,7,8,9,10,11,12,13]:List Nat).Nodup;decide
theorem lW{d:Nat}{c:Nat}{p:V}{p2:V}{cs:List (List V)}{j:Int}{a:Int}{b:Int}:((gu d c p p2 cs j a b).map (·.2.1)).Nodup:=by show([104,105,106,107,108,109,110,111,112,113,114,115,116,8]:List Nat).Nodup;decide
theorem Pf{P:Prim}(hP:P=dn){T:c8}{K:S->Prop}{t0:Nat->V}{h0:Hp}{d c ty ty2:Nat}{p p2:V}{cs:List (List V)}{j:Int}{Post1:Int->Hp->Prop}{Post2:Int->Hp->Int->Hp->Prop}(g0:t0 0=.ptr 5 (some d) 1 0 0)(g1:t0 1=.ptr 6 (some c) 1 0 0)(g2:t0 2=.sl false 1 cs)(E:h0 5=some ⟨some d,ty,1,[[p]]⟩)(F:h0 6=some ⟨some c,ty2,1,[[p2]]⟩)
  (y:∀a h1,Post1 a h1->h1 6=some ⟨some c,ty2,1,[[p2]]⟩)(hat:∀(h:Hp)(K:V->Hp->Prop),K (qI j) h->T 11 [.sl false 1 cs,qI 1] h K)
  (hc1:∀K:V->Hp->Prop,(∀a h1,Post1 a h1->K (qI a) h1)->T 49 [p,qI j] h0 K)(A:∀a h1,Post1 a h1->∀K:V->Hp->Prop,(∀b h2,Post2 a h1 b h2->K (qI b) h2)->T 50 [p2,qI j] h1 K)
  (heq:∀a h1 b h2,Post1 a h1->Post2 a h1 b h2->P.eq a b=true)
  (hK:∀a h1 b h2,Post1 a h1->Post2 a h1 b h2->K ⟨L8 (gu d c p p2 cs j a b) t0,h2⟩):lL P T (LQ) 14 [] ⟨t0,h0⟩ K:=by
 refine pU rfl (λdone s=>∃a b h1 h2,(fq done 5=true->Post1 a h1)/\(fq done 11=true->Post2 a h1 b h2)/\s=⟨eO done (gu d c p p2 cs j a b) t0,(hO h1 h2 done h0)⟩) (λdone i o ps s hj hf hq f B K' e=>?_) (λdone s hd B=>?_) ?_
 ·obtain⟨a,b,h1,h2,w1,w2,rfl⟩:=B
  match i,hj with
  |0,hj=>
   cases hj;show eH P T _ ⟨eO done (gu d c p p2 cs j a b) t0,(hO h1 h2 done h0)⟩ K';refine gR (v:=.ptr 5 (some d) 1 0 0) ((gX (done:=done) (gu d c p p2 cs j a b) t0 rfl).trans g0) ?_;refine e _ ⟨a,b,h1,h2,by rw[cm qD];exact w1,by rw[cm qD];exact w2,?_⟩;show(⟨gy (eO done (gu d c p p2 cs j a b) t0) 104 _,(hO h1 h2 done h0)⟩:S)=⟨eO (0::done) (gu d c p p2 cs j a b) t0,(hO h1 h2 (0::done) h0)⟩;unfold hO;rw[cm (i:=0) (j:=5) qD,cm (i:=0) (j:=11) qD,dS (k:=0) (gu d c p p2 cs j a b) t0 sM lW (.head _)]
  |1,hj=>
   cases hj;show eH P T _ ⟨eO done (gu d c p p2 cs j a b) t0,(hO h1 h2 done h0)⟩ K';refine iR (dF (done:=done) (hq 0 qD) (gu d c p p2 cs j a b) t0 lW (.head _)) ?_;refine e _ ⟨a,b,h1,h2,by rw[cm qD];exact w1,by rw[cm qD];exact w2,?_⟩;show(⟨gy (eO done (gu d c p p2 cs j a b) t0) 105 _,(hO h1 h2 done h0)⟩:S)=⟨eO (1::done) (gu d c p p2 cs j a b) t0,(hO h1 h2 (1::done) h0)⟩;unfold hO;rw[cm (i:=1) (j:=5) qD,cm (i:=1) (j:=11) qD,dS (k:=1) (gu d c p p2 cs j a b) t0 sM lW (qM 1 rfl)]
  |2,hj=>
   cases hj;show eH P T _ ⟨eO done (gu d c p p2 cs j a b) t0,(hO h1 h2 done h0)⟩ K';have z5:fq done 5=false:=by
    cases l:fq done 5
    ·rfl
    ·exact absurd (f 5 _ _ rfl l 2 qD) (by rw[hf];decide)
   have n:fq done 10=false:=by
    cases l:fq done 10
    ·rfl
    ·exact absurd (f 10 _ _ rfl l 5 qD) (by rw[z5];decide)
   have m:fq done 11=false:=by
    cases l:fq done 11
    ·rfl
    ·exact absurd (f 11 _ _ rfl l 10 qD) (by rw[n];decide)
   refine jw (v:=p) (r:=[p]) (dF (done:=done) (hq 1 qD) (gu d c p p2 cs j a b) t0 lW (qM 1 rfl)) (by show(hO h1 h2 done h0) _=_;unfold hO;rw[z5,m];exact E) qD ⟨by show(0:Nat)<1;decide,rfl⟩ ?_;refine e _ ⟨a,b,h1,h2,by rw[cm qD];exact w1,by rw[cm qD];exact w2,?_⟩;show(⟨gy (eO done (gu d c p p2 cs j a b) t0) 106 _,(hO h1 h2 done h0)⟩:S)=⟨eO (2::done) (gu d c p p2 cs j a b) t0,(hO h1 h2 (2::done) h0)⟩;unfold hO;rw[cm (i:=2) (j:=5) qD,cm (i:=2) (j:=11) qD,dS (k:=2) (gu d c p p2 cs j a b) t0 sM lW (qM 2 rfl)]
  |3,hj=>
   cases hj;show eH P T _ ⟨eO done (gu d c p p2 cs j a b) t0,(hO h1 h2 done h0)⟩ K';refine gR (v:=.sl false 1 cs) ((gX (done:=done) (gu d c p p2 cs j a b) t0 rfl).trans g2) ?_;refine e _ ⟨a,b,h1,h2,by rw[cm qD];exact w1,by rw[cm qD];exact w2,?_⟩;show(⟨gy (eO done (gu d c p p2 cs j a b) t0) 107 _,(hO h1 h2 done h0)⟩:S)=⟨eO (3::done) (gu d c p p2 cs j a b) t0,(hO h1 h2 (3::done) h0)⟩;unfold hO;rw[cm (i:=3) (j:=5) qD,cm (i:=3) (j:=11) qD,dS (k:=3) (gu d c p p2 cs j a b) t0 sM lW (qM 3 rfl)]
  |4,hj=>
   cases hj;show eH P T _ ⟨eO done (gu d c p p2 cs j a b) t0,(hO h1 h2 done h0)⟩ K';show T _ [eO done (gu d c p p2 cs j a b) t0 107,_] (hO h1 h2 done h0) _;rw[(dF (done:=done) (hq 3 qD) (gu d c p p2 cs j a b) t0 lW (qM 3 rfl))];refine hat _ _ ?_;refine e _ ⟨a,b,h1,h2,by rw[cm qD];exact w1,by rw[cm qD];exact w2,?_⟩;show(⟨gy (eO done (gu d c p p2 cs j a b) t0) 108 _,(hO h1 h2 done h0)⟩:S)=⟨eO (4::done) (gu d c p p2 cs j a b) t0,(hO h1 h2 (4::done) h0)⟩;unfold hO;rw[cm (i:=4) (j:=5) qD,cm (i:=4) (j:=11) qD,dS (k:=4) (gu d c p p2 cs j a b) t0 sM lW (qM 4 rfl)]
  |5,hj=>
   cases hj;show eH P T _ ⟨eO done (gu d c p p2 cs j a b) t0,(hO h1 h2 done h0)⟩ K';have n:fq done 10=false:=by
    cases l:fq done 10
    ·rfl
    ·exact absurd (f 10 _ _ rfl l 5 qD) (by rw[hf];decide)
   have m:fq done 11=false:=by
    cases l:fq done 11
    ·rfl
    ·exact absurd (f 11 _ _ rfl l 10 qD) (by rw[n];decide)
   have z12:fq done 12=false:=by
    cases l:fq done 12
    ·rfl
    ·exact absurd (f 12 _ _ rfl l 5 qD) (by rw[hf];decide)
   have q:fq done 13=false:=by
    cases l:fq done 13
    ·rfl
    ·exact absurd (f 13 _ _ rfl l 12 qD) (by rw[z12];decide)
   show T _ [eO done (gu d c p p2 cs j a b) t0 106,eO done (gu d c p p2 cs j a b) t0 108] (hO h1 h2 done h0) _;rw[(dF (done:=done) (hq 2 qD) (gu d c p p2 cs j a b) t0 lW (qM 2 rfl)),(dF (done:=done) (hq 4 qD) (gu d c p p2 cs j a b) t0 lW (qM 4 rfl))];have C:(hO h1 h2 done h0)=h0:=by unfold hO;rw[hf,m];rfl
   rw[C];refine hc1 _ λw t hp=>?_;refine e _ ⟨w,b,t,h2,λ_=>hp,(λg=>by rw[cm qD,m] at g;cases g),?_⟩;have e1:eO done (gu d c p p2 cs j a b) t0=eO done (gu d c p p2 cs j w b) t0:=by
    funext z
    simp only[eO,gu,hf,n,m,z12,q];rfl
   show(⟨gy (eO done (gu d c p p2 cs j a b) t0) 109 _,_⟩:S)=⟨eO (5::done) (gu d c p p2 cs j w b) t0,hO t h2 (5::done) h0⟩;unfold hO;rw[e1,ik,cm (i:=5) (j:=11) qD,m,dS (k:=5) (gu d c p p2 cs j w b) t0 sM lW (qM 5 rfl)];rfl
  |6,hj=>
   cases hj;show eH P T _ ⟨eO done (gu d c p p2 cs j a b) t0,(hO h1 h2 done h0)⟩ K';refine gR (v:=.ptr 6 (some c) 1 0 0) ((gX (done:=done) (gu d c p p2 cs j a b) t0 rfl).trans g1) ?_;refine e _ ⟨a,b,h1,h2,by rw[cm qD];exact w1,by rw[cm qD];exact w2,?_⟩;show(⟨gy (eO done (gu d c p p2 cs j a b) t0) 110 _,(hO h1 h2 done h0)⟩:S)=⟨eO (6::done) (gu d c p p2 cs j a b) t0,(hO h1 h2 (6::done) h0)⟩;unfold hO;rw[cm (i:=6) (j:=5) qD,cm (i:=6) (j:=11) qD,dS (k:=6) (gu d c p p2 cs j a b) t0 sM lW (qM 6 rfl)]
  |7,hj=>
   cases hj;show eH P T _ ⟨eO done (gu d c p p2 cs j a b) t0,(hO h1 h2 done h0)⟩ K';refine iR (dF (done:=done) (hq 6 qD) (gu d c p p2 cs j a b) t0 lW (qM 6 rfl)) ?_;refine e _ ⟨a,b,h1,h2,by rw[cm qD];exact w1,by rw[cm qD];exact w2,?_⟩;show(⟨gy (eO done (gu d c p p2 cs j a b) t0) 111 _,(hO h1 h2 done h0)⟩:S)=⟨eO (7::done) (gu d c p p2 cs j a b) t0,(hO h1 h2 (7::done) h0)⟩;unfold hO;rw[cm (i:=7) (j:=5) qD,cm (i:=7) (j:=11) qD,dS (k:=7) (gu d c p p2 cs j a b) t0 sM lW (qM 7 rfl)]
  |8,hj=>
   cases hj;show eH P T _ ⟨eO done (gu d c p p2 cs j a b) t0,(hO h1 h2 done h0)⟩ K';have m:fq done 11=false:=by
    cases l:fq done 11
    ·rfl
    ·exact absurd (f 11 _ _ rfl l 8 qD) (by rw[hf];decide)
   have D:(hO h1 h2 done h0) 6=some ⟨some c,ty2,1,[[p2]]⟩:=by
    unfold hO;rw[m]
    by_cases hd:fq done 5=true
    ·rw[aa qD,ae hd];exact y a h1 (w1 hd)
    ·rw[aa qD,aa hd];exact F
   refine jw (v:=p2) (r:=[p2]) (dF (done:=done) (hq 7 qD) (gu d c p p2 cs j a b) t0 lW (qM 7 rfl)) D qD ⟨by show(0:Nat)<1;decide,rfl⟩ ?_;refine e _ ⟨a,b,h1,h2,by rw[cm qD];exact w1,by rw[cm qD];exact w2,?_⟩;show(⟨gy (eO done (gu d c p p2 cs j a b) t0) 112 _,(hO h1 h2 done h0)⟩:S)=⟨eO (8::done) (gu d c p p2 cs j a b) t0,(hO h1 h2 (8::done) h0)⟩;unfold hO;rw[cm (i:=8) (j:=5) qD,cm (i:=8) (j:=11) qD,dS (k:=8) (gu d c p p2 cs j a b) t0 sM lW (qM 8 rfl)]
  |9,hj=>
   cases hj;show eH P T _ ⟨eO done (gu d c p p2 cs j a b) t0,(hO h1 h2 done h0)⟩ K';refine gR (v:=.sl false 1 cs) ((gX (done:=done) (gu d c p p2 cs j a b) t0 rfl).trans g2) ?_;refine e _ ⟨a,b,h1,h2,by rw[cm qD];exact w1,by rw[cm qD];exact w2,?_⟩;show(⟨gy (eO done (gu d c p p2 cs j a b) t0) 113 _,(hO h1 h2 done h0)⟩:S)=⟨eO (9::done) (gu d c p p2 cs j a b) t0,(hO h1 h2 (9::done) h0)⟩;unfold hO;rw[cm (i:=9) (j:=5) qD,cm (i:=9) (j:=11) qD,dS (k:=9) (gu d c p p2 cs j a b) t0 sM lW (qM 9 rfl)]
  |10,hj=>
   cases hj;show eH P T _ ⟨eO done (gu d c p p2 cs j a b) t0,(hO h1 h2 done h0)⟩ K';show T _ [eO done (gu d c p p2 cs j a b) t0 113,_] (hO h1 h2 done h0) _;rw[(dF (done:=done) (hq 9 qD) (gu d c p p2 cs j a b) t0 lW (qM 9 rfl))];refine hat _ _ ?_;refine e _ ⟨a,b,h1,h2,by rw[cm qD];exact w1,by rw[cm qD];exact w2,?_⟩;show(⟨gy (eO done (gu d c p p2 cs j a b) t0) 114 _,(hO h1 h2 done h0)⟩:S)=⟨eO (10::done) (gu d c p p2 cs j a b) t0,(hO h1 h2 (10::done) h0)⟩;unfold hO;rw[cm (i:=10) (j:=5) qD,cm (i:=10) (j:=11) qD,dS (k:=10) (gu d c p p2 cs j a b) t0 sM lW (qM 10 rfl)]
  |11,hj=>
   cases hj;show eH P T _ ⟨eO done (gu d c p p2 cs j a b) t0,(hO h1 h2 done h0)⟩ K';have z12:fq done 12=false:=by
    cases l:fq done 12
    ·rfl
    ·exact absurd (f 12 _ _ rfl l 11 qD) (by rw[hf];decide)
   have q:fq done 13=false:=by
    cases l:fq done 13
    ·rfl
    ·exact absurd (f 13 _ _ rfl l 12 qD) (by rw[z12];decide)
   show T _ [eO done (gu d c p p2 cs j a b) t0 112,eO done (gu d c p p2 cs j a b) t0 114] (hO h1 h2 done h0) _;rw[(dF (done:=done) (hq 8 qD) (gu d c p p2 cs j a b) t0 lW (qM 8 rfl)),(dF (done:=done) (hq 10 qD) (gu d c p p2 cs j a b) t0 lW (qM 10 rfl))];have d1:=f 10 _ _ rfl (hq 10 qD) 5 qD;have C:(hO h1 h2 done h0)=h1:=by unfold hO;rw[hf,d1];rfl
   rw[C];refine A a h1 (w1 d1) _ λb' u hp=>?_;refine e _ ⟨a,b',h1,u,by rw[cm qD];exact w1,λ_=>hp,?_⟩;have e1:eO done (gu d c p p2 cs j a b) t0=eO done (gu d c p p2 cs j a b') t0:=by
    funext z
    simp only[eO,gu,hf,z12,q];rfl
   show(⟨gy (eO done (gu d c p p2 cs j a b) t0) 115 _,_⟩:S)=⟨eO (11::done) (gu d c p p2 cs j a b') t0,hO h1 u (11::done) h0⟩;unfold hO;rw[e1,ik,dS (k:=11) (gu d c p p2 cs j a b') t0 sM lW (qM 11 rfl)];rfl
  |12,hj=>
   cases hj;show eH P T _ ⟨eO done (gu d c p p2 cs j a b) t0,(hO h1 h2 done h0)⟩ K';refine LO (dF (done:=done) (hq 5 qD) (gu d c p p2 cs j a b) t0 lW (qM 5 rfl)) (dF (done:=done) (hq 11 qD) (gu d c p p2 cs j a b) t0 lW (qM 11 rfl)) (heq a h1 b h2 (w1 (hq 5 qD)) (w2 (hq 11 qD))) ?_;refine e _ ⟨a,b,h1,h2,by rw[cm qD];exact w1,by rw[cm qD];exact w2,?_⟩;show(⟨gy (eO done (gu d c p p2 cs j a b) t0) 116 _,(hO h1 h2 done h0)⟩:S)=⟨eO (12::done) (gu d c p p2 cs j a b) t0,(hO h1 h2 (12::done) h0)⟩;unfold hO;rw[cm (i:=12) (j:=5) qD,cm (i:=12) (j:=11) qD,dS (k:=12) (gu d c p p2 cs j a b) t0 sM lW (qM 12 rfl)]
  |13,hj=>
   cases hj;show eH P T _ ⟨eO done (gu d c p p2 cs j a b) t0,(hO h1 h2 done h0)⟩ K';refine gR (v:=.bool true) (dF (done:=done) (hq 12 qD) (gu d c p p2 cs j a b) t0 lW (qM 12 rfl)) ?_;refine e _ ⟨a,b,h1,h2,by rw[cm qD];exact w1,by rw[cm qD];exact w2,?_⟩;show(⟨gy (eO done (gu d c p p2 cs j a b) t0) 8 _,(hO h1 h2 done h0)⟩:S)=⟨eO (13::done) (gu d c p p2 cs j a b) t0,(hO h1 h2 (13::done) h0)⟩;unfold hO;rw[cm (i:=13) (j:=5) qD,cm (i:=13) (j:=11) qD,dS (k:=13) (gu d c p p2 cs j a b) t0 sM lW (qM 13 rfl)]
  |i+14,hj=>exact absurd (aj.1 hj).1 (by show¬i+14<14;omega)
 ·obtain⟨a,b,h1,h2,w1,w2,rfl⟩:=B;rw[nX _ _ (λz hz=>hd z.1 ?_)]
  ·unfold hO;rw[hd 11 qD];exact hK a h1 b h2 (w1 (hd 5 qD)) (w2 (hd 11 qD))
  ·have hm:z.1∈(gu d c p p2 cs j a b).map (·.1):=aC.2 ⟨z,hz,rfl⟩;have gf:∀x∈([0,1,2,3,4,5,6,7,8,9,10,11,12,13]:List Nat),x<14:=by decide
   exact gf _ hm
 ·refine⟨default,default,h0,h0,λg=>(by cases g),λg=>(by cases g),?_⟩;rw[nW];rfl
def ie(d:Nat)(c:Nat)(p:V)(p2:V)(a:Bool)(b:Bool):List (Nat×Nat×V):=[(0,119,.ptr 5 (some d) 1 0 0),(1,120,.ptr 5 (some d) 1 0 0),(2,121,p),(3,122,.bool a),(4,123,.ptr 6 (some c) 1 0 0),(5,124,.ptr 6 (some c) 1 0 0),(6,125,p2),(7,126,.bool b),(8,127,.bool true),(9,8,.bool true)]
def iW(h1 h2:Hp)(done:List Nat)(h0:Hp):Hp:=if fq done 7=true then h2 else if fq done 3=true then h1 else h0
def LR:List (AO×List Nat):=[
 (⟨some 119,none,.mov (.t 0)⟩,[]),
 (⟨some 120,none,.nilchk (.t 119)⟩,[0]),
 (⟨some 121,none,.load1 (.t 120)⟩,[1]),
 (⟨some 122,none,.call 51 [(.t 121)]⟩,[2]),
 (⟨some 123,none,.mov (.t 1)⟩,[]),
 (⟨some 124,none,.nilchk (.t 123)⟩,[4]),
 (⟨some 125,none,.load1 (.t 124)⟩,[5]),
 (⟨some 126,none,.call 52 [(.t 125)]⟩,[6,3]),
 (⟨some 127,none,.eqb false (.t 122) (.t 126)⟩,[3,7]),
 (⟨some 8,none,.mov (.t 127)⟩,[8,7,0,1,2,3,4,5,6,7,8])]
theorem wE{d:Nat}{c:Nat}{p:V}{p2:V}{a:Bool}{b:Bool}:((ie d c p p2 a b).map (·.1)).Nodup:=by show([0,1,2,3,4,5,6,7,8,9]:List Nat).Nodup;decide
theorem o8{d:Nat}{c:Nat}{p:V}{p2:V}{a:Bool}{b:Bool}:((ie d c p p2 a b).map (·.2.1)).Nodup:=by show([119,120,121,122,123,124,125,126,127,8]:List Nat).Nodup;decide
theorem Pg{P:Prim}(hP:P=dn){T:c8}{K:S->Prop}{t0:Nat->V}{h0:Hp}{d c ty ty2:Nat}{p p2:V}{Post1:Bool->Hp->Prop}{Post2:Bool->Hp->Bool->Hp->Prop}(g0:t0 0=.ptr 5 (some d) 1 0 0)(g1:t0 1=.ptr 6 (some c) 1 0 0)(D:h0 5=some ⟨some d,ty,1,[[p]]⟩)(E:h0 6=some ⟨some c,ty2,1,[[p2]]⟩)
  (u:∀a h1,Post1 a h1->h1 6=some ⟨some c,ty2,1,[[p2]]⟩)
  (hc1:∀K:V->Hp->Prop,(∀a h1,Post1 a h1->K (.bool a) h1)->T 51 [p] h0 K)(w:∀a h1,Post1 a h1->∀K:V->Hp->Prop,(∀b h2,Post2 a h1 b h2->K (.bool b) h2)->T 52 [p2] h1 K)
  (heq:∀a h1 b h2,Post1 a h1->Post2 a h1 b h2->b=a)
  (hK:∀a h1 b h2,Post1 a h1->Post2 a h1 b h2->K ⟨L8 (ie d c p p2 a b) t0,h2⟩):lL P T (LR) 10 [] ⟨t0,h0⟩ K:=by
 refine pU rfl (λdone s=>∃a b h1 h2,(fq done 3=true->Post1 a h1)/\(fq done 7=true->Post2 a h1 b h2)/\s=⟨eO done (ie d c p p2 a b) t0,(iW h1 h2 done h0)⟩) (λdone i o ps s hj hf hq f y K' e=>?_) (λdone s hd y=>?_) ?_
 ·obtain⟨a,b,h1,h2,w1,w2,rfl⟩:=y
  match i,hj with
  |0,hj=>
   cases hj;show eH P T _ ⟨eO done (ie d c p p2 a b) t0,(iW h1 h2 done h0)⟩ K';refine gR (v:=.ptr 5 (some d) 1 0 0) ((gX (done:=done) (ie d c p p2 a b) t0 rfl).trans g0) ?_;refine e _ ⟨a,b,h1,h2,by rw[cm qD];exact w1,by rw[cm qD];exact w2,?_⟩;show(⟨gy (eO done (ie d c p p2 a b) t0) 119 _,(iW h1 h2 done h0)⟩:S)=⟨eO (0::done) (ie d c p p2 a b) t0,(iW h1 h2 (0::done) h0)⟩;unfold iW;rw[cm (i:=0) (j:=3) qD,cm (i:=0) (j:=7) qD,dS (k:=0) (ie d c p p2 a b) t0 wE o8 (.head _)]
  |1,hj=>
   cases hj;show eH P T _ ⟨eO done (ie d c p p2 a b) t0,(iW h1 h2 done h0)⟩ K';refine iR (dF (done:=done) (hq 0 qD) (ie d c p p2 a b) t0 o8 (.head _)) ?_;refine e _ ⟨a,b,h1,h2,by rw[cm qD];exact w1,by rw[cm qD];exact w2,?_⟩;show(⟨gy (eO done (ie d c p p2 a b) t0) 120 _,(iW h1 h2 done h0)⟩:S)=⟨eO (1::done) (ie d c p p2 a b) t0,(iW h1 h2 (1::done) h0)⟩;unfold iW;rw[cm (i:=1) (j:=3) qD,cm (i:=1) (j:=7) qD,dS (k:=1) (ie d c p p2 a b) t0 wE o8 (qM 1 rfl)]
  |2,hj=>
   cases hj;show eH P T _ ⟨eO done (ie d c p p2 a b) t0,(iW h1 h2 done h0)⟩ K';have z3:fq done 3=false:=by
    cases h:fq done 3
    ·rfl
    ·exact absurd (f 3 _ _ rfl h 2 qD) (by rw[hf];decide)
   have l:fq done 7=false:=by
    cases h:fq done 7
    ·rfl
    ·exact absurd (f 7 _ _ rfl h 3 qD) (by rw[z3];decide)
   refine jw (v:=p) (r:=[p]) (dF (done:=done) (hq 1 qD) (ie d c p p2 a b) t0 o8 (qM 1 rfl)) (by show(iW h1 h2 done h0) _=_;unfold iW;rw[z3,l];exact D) qD ⟨by show(0:Nat)<1;decide,rfl⟩ ?_;refine e _ ⟨a,b,h1,h2,by rw[cm qD];exact w1,by rw[cm qD];exact w2,?_⟩;show(⟨gy (eO done (ie d c p p2 a b) t0) 121 _,(iW h1 h2 done h0)⟩:S)=⟨eO (2::done) (ie d c p p2 a b) t0,(iW h1 h2 (2::done) h0)⟩;unfold iW;rw[cm (i:=2) (j:=3) qD,cm (i:=2) (j:=7) qD,dS (k:=2) (ie d c p p2 a b) t0 wE o8 (qM 2 rfl)]
  |3,hj=>
   cases hj;show eH P T _ ⟨eO done (ie d c p p2 a b) t0,(iW h1 h2 done h0)⟩ K';have l:fq done 7=false:=by
    cases h:fq done 7
    ·rfl
    ·exact absurd (f 7 _ _ rfl h 3 qD) (by rw[hf];decide)
   have m:fq done 8=false:=by
    cases h:fq done 8
    ·rfl
    ·exact absurd (f 8 _ _ rfl h 3 qD) (by rw[hf];decide)
   have z9:fq done 9=false:=by
    cases h:fq done 9
    ·rfl
    ·exact absurd (f 9 _ _ rfl h 8 qD) (by rw[m];decide)
   show T _ [eO done (ie d c p p2 a b) t0 121] (iW h1 h2 done h0) _;rw[(dF (done:=done) (hq 2 qD) (ie d c p p2 a b) t0 o8 (qM 2 rfl))];have A:(iW h1 h2 done h0)=h0:=by unfold iW;rw[hf,l];rfl
   rw[A];refine hc1 _ λt n hp=>?_;refine e _ ⟨t,b,n,h2,λ_=>hp,(λg=>by rw[cm qD,l] at g;cases g),?_⟩;have e1:eO done (ie d c p p2 a b) t0=eO done (ie d c p p2 t b) t0:=by
    funext z
    simp only[eO,ie,hf,l,m,z9];rfl
   show(⟨gy (eO done (ie d c p p2 a b) t0) 122 _,_⟩:S)=⟨eO (3::done) (ie d c p p2 t b) t0,iW n h2 (3::done) h0⟩;unfold iW;rw[e1,ik,cm (i:=3) (j:=7) qD,l,dS (k:=3) (ie d c p p2 t b) t0 wE o8 (qM 3 rfl)];rfl
  |4,hj=>
   cases hj;show eH P T _ ⟨eO done (ie d c p p2 a b) t0,(iW h1 h2 done h0)⟩ K';refine gR (v:=.ptr 6 (some c) 1 0 0) ((gX (done:=done) (ie d c p p2 a b) t0 rfl).trans g1) ?_;refine e _ ⟨a,b,h1,h2,by rw[cm qD];exact w1,by rw[cm qD];exact w2,?_⟩;show(⟨gy (eO done (ie d c p p2 a b) t0) 123 _,(iW h1 h2 done h0)⟩:S)=⟨eO (4::done) (ie d c p p2 a b) t0,(iW h1 h2 (4::done) h0)⟩;unfold iW;rw[cm (i:=4) (j:=3) qD,cm (i:=4) (j:=7) qD,dS (k:=4) (ie d c p p2 a b) t0 wE o8 (qM 4 rfl)]
  |5,hj=>
   cases hj;show eH P T _ ⟨eO done (ie d c p p2 a b) t0,(iW h1 h2 done h0)⟩ K';refine iR (dF (done:=done) (hq 4 qD) (ie d c p p2 a b) t0 o8 (qM 4 rfl)) ?_;refine e _ ⟨a,b,h1,h2,by rw[cm qD];exact w1,by rw[cm qD];exact w2,?_⟩;show(⟨gy (eO done (ie d c p p2 a b) t0) 124 _,(iW h1 h2 done h0)⟩:S)=⟨eO (5::done) (ie d c p p2 a b) t0,(iW h1 h2 (5::done) h0)⟩;unfold iW;rw[cm (i:=5) (j:=3) qD,cm (i:=5) (j:=7) qD,dS (k:=5) (ie d c p p2 a b) t0 wE o8 (qM 5 rfl)]
  |6,hj=>
   cases hj;show eH P T _ ⟨eO done (ie d c p p2 a b) t0,(iW h1 h2 done h0)⟩ K';have l:fq done 7=false:=by
    cases h:fq done 7
    ·rfl
    ·exact absurd (f 7 _ _ rfl h 6 qD) (by rw[hf];decide)
   have B:(iW h1 h2 done h0) 6=some ⟨some c,ty2,1,[[p2]]⟩:=by
    unfold iW;rw[l]
    by_cases hd:fq done 3=true
    ·rw[aa qD,ae hd];exact u a h1 (w1 hd)
    ·rw[aa qD,aa hd];exact E
   refine jw (v:=p2) (r:=[p2]) (dF (done:=done) (hq 5 qD) (ie d c p p2 a b) t0 o8 (qM 5 rfl)) B qD ⟨by show(0:Nat)<1;decide,rfl⟩ ?_;refine e _ ⟨a,b,h1,h2,by rw[cm qD];exact w1,by rw[cm qD];exact w2,?_⟩;show(⟨gy (eO done (ie d c p p2 a b) t0) 125 _,(iW h1 h2 done h0)⟩:S)=⟨eO (6::done) (ie d c p p2 a b) t0,(iW h1 h2 (6::done) h0)⟩;unfold iW;rw[cm (i:=6) (j:=3) qD,cm (i:=6) (j:=7) qD,dS (k:=6) (ie d c p p2 a b) t0 wE o8 (qM 6 rfl)]
  |7,hj=>
   cases hj;show eH P T _ ⟨eO done (ie d c p p2 a b) t0,(iW h1 h2 done h0)⟩ K';have m:fq done 8=false:=by
    cases h:fq done 8
    ·rfl
    ·exact absurd (f 8 _ _ rfl h 7 qD) (by rw[hf];decide)
   have z9:fq done 9=false:=by
    cases h:fq done 9
    ·rfl
    ·exact absurd (f 9 _ _ rfl h 8 qD) (by rw[m];decide)
   show T _ [eO done (ie d c p p2 a b) t0 125] (iW h1 h2 done h0) _;rw[(dF (done:=done) (hq 6 qD) (ie d c p p2 a b) t0 o8 (qM 6 rfl))];have d1:=hq 3 qD;have A:(iW h1 h2 done h0)=h1:=by unfold iW;rw[hf,d1];rfl
   rw[A];refine w a h1 (w1 d1) _ λb' q hp=>?_;refine e _ ⟨a,b',h1,q,by rw[cm qD];exact w1,λ_=>hp,?_⟩;have e1:eO done (ie d c p p2 a b) t0=eO done (ie d c p p2 a b') t0:=by
    funext z
    simp only[eO,ie,hf,m,z9];rfl
   show(⟨gy (eO done (ie d c p p2 a b) t0) 126 _,_⟩:S)=⟨eO (7::done) (ie d c p p2 a b') t0,iW h1 q (7::done) h0⟩;unfold iW;rw[e1,ik,dS (k:=7) (ie d c p p2 a b') t0 wE o8 (qM 7 rfl)];rfl
  |8,hj=>
   cases hj;show eH P T _ ⟨eO done (ie d c p p2 a b) t0,(iW h1 h2 done h0)⟩ K';have C:=heq a h1 b h2 (w1 (hq 3 qD)) (w2 (hq 7 qD));refine LP (a:=a) (dF (done:=done) (hq 3 qD) (ie d c p p2 a b) t0 o8 (qM 3 rfl)) ((dF (done:=done) (hq 7 qD) (ie d c p p2 a b) t0 o8 (qM 7 rfl)).trans (by rw[C])) ?_;refine e _ ⟨a,b,h1,h2,by rw[cm qD];exact w1,by rw[cm qD];exact w2,?_⟩;show(⟨gy (eO done (ie d c p p2 a b) t0) 127 _,(iW h1 h2 done h0)⟩:S)=⟨eO (8::done) (ie d c p p2 a b) t0,(iW h1 h2 (8::done) h0)⟩;unfold iW;rw[cm (i:=8) (j:=3) qD,cm (i:=8) (j:=7) qD,dS (k:=8) (ie d c p p2 a b) t0 wE o8 (qM 8 rfl)]
  |9,hj=>
   cases hj;show eH P T _ ⟨eO done (ie d c p p2 a b) t0,(iW h1 h2 done h0)⟩ K';refine gR (v:=.bool true) (dF (done:=done) (hq 8 qD) (ie d c p p2 a b) t0 o8 (qM 8 rfl)) ?_;refine e _ ⟨a,b,h1,h2,by rw[cm qD];exact w1,by rw[cm qD];exact w2,?_⟩;show(⟨gy (eO done (ie d c p p2 a b) t0) 8 _,(iW h1 h2 done h0)⟩:S)=⟨eO (9::done) (ie d c p p2 a b) t0,(iW h1 h2 (9::done) h0)⟩;unfold iW;rw[cm (i:=9) (j:=3) qD,cm (i:=9) (j:=7) qD,dS (k:=9) (ie d c p p2 a b) t0 wE o8 (qM 9 rfl)]
  |i+10,hj=>exact absurd (aj.1 hj).1 (by show¬i+10<10;omega)
 ·obtain⟨a,b,h1,h2,w1,w2,rfl⟩:=y;rw[nX _ _ (λz hz=>hd z.1 ?_)]
  ·unfold iW;rw[hd 7 qD];exact hK a h1 b h2 (w1 (hd 3 qD)) (w2 (hd 7 qD))
  ·have hm:z.1∈(ie d c p p2 a b).map (·.1):=aC.2 ⟨z,hz,rfl⟩;have gf:∀x∈([0,1,2,3,4,5,6,7,8,9]:List Nat),x<10:=by decide
   exact gf _ hm
 ·refine⟨default,default,h0,h0,λg=>(by cases g),λg=>(by cases g),?_⟩;rw[nW];rfl
theorem c6.SX{s s':S}(g:Nat->Nat)(ht:∀i,(s'.t i).rl z0=(s.t i).rl z0\/s'.t i=.iC)(d:∀k o,s'.h k=some o->∃q,s.h (g k)=some q/\o.b=q.b/\o.gM z0=q.gM z0)(hg:∀k k' o o',s'.h k=some o->s'.h k'=some o'->g k=g k'->k=k'):c6 s s':=by
 intro C n a w p hs;obtain⟨F,h1,h2⟩:=hs.ex;refine⟨⟨F,⟨λk o hk=>?_,λk k' o o' b hk c hb hb'=>?_,λk o b hk hb=>?_,h1.gH,h1.new,h1.lt,h1.ev⟩,λi=>?_⟩,hs.df,hs.sz⟩
 ·obtain⟨q,q1,q2,e⟩:=d k o hk;have:=(h1.ob (g k) q q1).gM z0;rw[<-e] at this;exact this.Db z0
 ·obtain⟨q,q1,q2,e⟩:=d k o hk;obtain⟨l,f,j,m⟩:=d k' o' c;exact hg k k' o o' hk c (h1.inj _ _ q l b q1 f (q2.symm.trans hb) (j.symm.trans hb'))
 ·obtain⟨q,q1,q2,e⟩:=d k o hk;exact h1.live (g k) q b q1 (q2.symm.trans hb)
 ·rcases ht i with h|h
  ·have:=(h2 i).rl z0;rw[<-h] at this;exact this.Tj z0
  ·rw[h];exact .iC _
theorem c6.W9{s:S}(l:List (Nat×Nat×Ob))(t:Nat->V)(ht:∀i,(t i).rl z0=(s.t i).rl z0\/t i=.iC)(hn:(l.map (·.2.1)).Nodup)(ha:yv l s):c6 s ⟨t,cp (Oh l)⟩:=by
 refine c6.SX (wB l) ht (λk o hk=>(ny l s k o ha hk).1) (λk k' o o' hk a e=>?_);obtain⟨_,p,hp,p1,p2⟩:=ny l s k o ha hk;obtain⟨_,f,b,c,d⟩:=ny l s k' o' ha a;have:=tc hn p hp f b (by rw[p2,d,e]);rw[<-p1,<-c,this]
theorem Ph{bl k k' ka a:Nat}{d:SC}{ba:Option Nat}{n:Nat}:(fx bl (fw d (.own ka ba 3 n) .nil)).gM z0=(fx bl (fw d (.own a ba 3 n) .nil)).gM z0:=by
 rw[iM,iM];rfl
def EW(fs:List Nat):Array Oper->List AO->Bool:=λops al=>er ops al&& !(al.any λo=>match o.op with|.call g _=>fs.any (Nat.beq g)|_=>false)
theorem Xa(fs:List Nat):mi Tryz.prog (EW fs):=by
 have hd:∀ops al,EW fs ops al=true->er ops al=true:=λops al h=>by
  unfold EW at h;rw[aW] at h;exact h.1
 exact⟨iD.1,λC n id ops al s a w K Q h1 h2 h3=>iD.2.1 C n id ops al s a w K Q h1 h2 (hd _ _ h3),λC n id ops al s a w K Q h1 h2 h3=>iD.2.2 C n id ops al s a w K Q h1 h2 (hd _ _ h3)⟩
def Yo:List Nat:=[43,44,45,46,49,50,51,52]
def yJ:AC:=qr [qo 8 (.mov (.c (.bool false)))] (qq (qr [qm 24 2,qa 25 11 [.t 24,qk 0]] (.block 0 (qr [qc 27 .eql 25 1,qm 26 27] (qu 26 (qr [qm 28 2,qa 29 11 [.t 28,qk 1],qm 30 2,qa 31 11 [.t 30,qk 2],qm 32 3,qo 33 (.build xI [(0,1,(.t 29)),(1,1,(.t 31)),(2,1,(.t 32))]),qo 9 (.alloc 91 xI),qs 3 9 33] (qq (.jN [(qm 35 0,[]),(qn 36 35,[0]),(ql 37 36,[1]),(qd 38 3 9,[]),(qa 39 43 [.t 37,.t 38],[2,3]),(qm 34 39,[4]),(qx 40 0 34,[5]),(qx 41 1 34,[5]),(qm 10 40,[6,4,0,1,2,3,4,5,6]),(qm 11 41,[7,8,0,1,2,3,4,5,6,7,8])]) (qq (.jN [(qm 43 1,[]),(qn 44 43,[0]),(ql 45 44,[1]),(qd 46 3 9,[]),(qa 47 44 [.t 45,.t 46],[2,3]),(qm 42 47,[4]),(qx 48 0 42,[5]),(qx 49 1 42,[5]),(qm 12 48,[6,4,0,1,2,3,4,5,6]),(qm 13 49,[7,8,0,1,2,3,4,5,6,7,8])]) (qr [qm 50 10,qm 51 12,qb 52 .eql 50 51,qm 53 52,qg 54 53 true (.mov (.t 11)),qg 55 53 true (.mov (.t 13)),qg 56 53 true (.bin .eql (.t 54) (.t 55)),qo 57 (.pick (.t 53) (.t 56) (.c (.bool false))),qm 8 57] .ret)))) (qr [qc 59 .eql 25 2,qm 58 59] (qu 58 (qr [qm 60 2,qa 61 11 [.t 60,qk 1],qm 62 2,qa 63 11 [.t 62,qk 2],qm 64 2,qa 65 11 [.t 64,qk 3],qm 66 3,qo 67 (.build [q0,q0,q0,(.slice none 0 0)] [(1,1,(.t 61)),(2,1,(.t 63)),(0,1,(.t 65)),(3,1,(.t 66))]),qo 14 (.alloc 95 [q0,q0,q0,(.slice none 0 0)]),qs 4 14 67] (qq (.jN [(qm 69 0,[]),(qn 70 69,[0]),(ql 71 70,[1]),(qd 72 4 14,[]),(qa 73 45 [.t 71,.t 72],[2,3]),(qm 68 73,[4]),(qx 74 0 68,[5]),(qx 75 1 68,[5]),(qm 15 74,[6,4,0,1,2,3,4,5,6]),(qm 16 75,[7,8,0,1,2,3,4,5,6,7,8])]) (qq (.jN [(qm 77 1,[]),(qn 78 77,[0]),(ql 79 78,[1]),(qd 80 4 14,[]),(qa 81 46 [.t 79,.t 80],[2,3]),(qm 76 81,[4]),(qx 82 0 76,[5]),(qx 83 1 76,[5]),(qm 17 82,[6,4,0,1,2,3,4,5,6]),(qm 18 83,[7,8,0,1,2,3,4,5,6,7,8])]) (qr [qm 84 15,qm 85 17,qb 86 .eql 84 85,qm 87 86,qg 88 87 true (.mov (.t 16)),qg 89 87 true (.mov (.t 18)),qg 90 87 true (.bin .eql (.t 88) (.t 89)),qo 91 (.pick (.t 87) (.t 90) (.c (.bool false))),qm 8 91] .ret)))) (qr [qc 93 .eql 25 3,qm 92 93] (qu 92 (qr [qm 94 0,qn 95 94,ql 96 95,qa 97 47 [.t 96]] (qR [qm 98 1,qn 99 98,ql 100 99,qa 101 48 [.t 100]])) (qr [qc 103 .eql 25 4,qm 102 103] (qu 102 (qq (.jN [(qm 104 0,[]),(qn 105 104,[0]),(ql 106 105,[1]),(qm 107 2,[]),(qa 108 11 [.t 107,qk 1],[3]),(qa 109 49 [.t 106,.t 108],[2,4,4]),(qm 110 1,[]),(qn 111 110,[6]),(ql 112 111,[7]),(qm 113 2,[]),(qa 114 11 [.t 113,qk 1],[9,5]),(qa 115 50 [.t 112,.t 114],[8,10,10]),(qb 116 .eql 109 115,[5,11]),(qm 8 116,[12,11,0,1,2,3,4,5,6,7,8,9,10,11,12])]) .ret) (qr [qc 118 .eql 25 5,qm 117 118] (qu 117 (qq (.jN [(qm 119 0,[]),(qn 120 119,[0]),(ql 121 120,[1]),(qa 122 51 [.t 121],[2]),(qm 123 1,[]),(qn 124 123,[4]),(ql 125 124,[5]),(qa 126 52 [.t 125],[6,3]),(qo 127 (.eqb false (.t 122) (.t 126)),[3,7]),(qm 8 127,[8,7,0,1,2,3,4,5,6,7,8])]) .ret) (qr [qc 129 .eql 25 6,qm 128 129] (qu 128 (qr [qm 131 0,qn 132 131,ql 133 132,qa 134 32 [.t 133],qm 135 2,qa 136 11 [.t 135,qk 1],qm 137 2,qa 138 11 [.t 137,qk 2],qo 139 (.build Bo [(0,1,(.t 136)),(1,1,(.t 138))]),qa 140 53 [.t 134,.t 139],qm 130 140,qx 141 0 130,qx 142 1 130,qo 19 (.alloc 52 GA),qs 4 19 141,qm 20 142] (qq (qr [qm 143 20,qc 144 .neq 143 0] (qu 144 (qr [qo 8 (.mov (.c (.bool false)))] .ret) .skip)) (qr [qd 146 4 19,qa 147 54 [.t 146],qm 145 147,qx 148 0 145,qx 149 1 145,qm 21 148,qm 20 149] (qr [qd 151 4 19,qa 152 55 [.t 151],qm 150 152,qx 153 0 150,qx 154 1 150,qm 22 153,qm 23 154] (qq (qr [qm 155 20,qc 156 .neq 155 0,qm 157 156,qg 158 157 false (.mov (.t 23)),qg 159 157 false (.bin .neq (.t 158) (qk 0)),qo 160 (.pick (.t 157) (.c (.bool true)) (.t 159)),qm 161 160,qg 162 161 false (.mov (.t 21)),qg 163 161 false (.eqp false (.t 162) (.c (.pointer none))),qo 164 (.pick (.t 161) (.c (.bool true)) (.t 163))] (qu 164 (qr [qo 8 (.mov (.c (.bool false)))] .ret) .skip)) (qR [qm 165 0,qm 166 1,qm 167 21,qm 168 22,qn 169 165,qs 1 169 167,qn 170 166,qs 1 170 168])))))) .skip)))))))))))))) (qr [qo 8 (.mov (.c (.bool true)))] .ret))
theorem Pj:fF Tryz.prog 8 Tryz.f8 yJ [.t 8] 4 (EW Yo):=⟨Tryz.func8,by decide+kernel,by kernel_rfl,by kernel_rfl,by decide+kernel⟩
def Xb:AC->AC
 |.seq x _=>x
 |x=>x
def tw:AC->AC
 |.seq _ y=>y
 |x=>x
def Gx:AC->AC
 |.cond _ x _=>x
 |x=>x
def LS:AC->AC
 |.cond _ _ x=>x
 |x=>x
def Xc:AC->AC
 |.block _ x=>x
 |x=>x
def P2:AC:=Xc (tw (Xb (tw yJ)))
def vX:AC:=Gx (tw P2)
def P3:AC:=LS (tw P2)
def vY:AC:=Gx (tw P3)
def P4:AC:=LS (tw P3)
def LU:AC:=Gx (tw P4)
def P5:AC:=LS (tw P4)
def LV:AC:=Gx (tw P5)
def P6:AC:=LS (tw P5)
def LW:AC:=Gx (tw P6)
def U1:AC:=LS (tw P6)
def LX:AC:=Gx (tw U1)
def U2(x1 x2 x3 x4 a b:AC):AC:=.seq (.region false [⟨some 8,none,.mov (.c (.bool false))⟩]) (.seq (.seq (.region false [⟨some 24,none,.mov (.t 2)⟩,⟨some 25,none,.call 11 [(.t 24),(.c (.int .i64 0))]⟩]) (.block 0 (.seq (.region false [⟨some 27,none,.bin .eql (.t 25) (.c (.int .i64 1))⟩,⟨some 26,none,.mov (.t 27)⟩]) (.cond (.t 26) x1 (.seq (.region false [⟨some 59,none,.bin .eql (.t 25) (.c (.int .i64 2))⟩,⟨some 58,none,.mov (.t 59)⟩]) (.cond (.t 58) x2 (.seq (.region false [⟨some 93,none,.bin .eql (.t 25) (.c (.int .i64 3))⟩,⟨some 92,none,.mov (.t 93)⟩]) (.cond (.t 92) x3 (.seq (.region false [⟨some 103,none,.bin .eql (.t 25) (.c (.int .i64 4))⟩,⟨some 102,none,.mov (.t 103)⟩]) (.cond (.t 102) x4 (.seq (.region false [⟨some 118,none,.bin .eql (.t 25) (.c (.int .i64 5))⟩,⟨some 117,none,.mov (.t 118)⟩]) (.cond (.t 117) a (.seq (.region false [⟨some 129,none,.bin .eql (.t 25) (.c (.int .i64 6))⟩,⟨some 128,none,.mov (.t 129)⟩]) (.cond (.t 128) b .skip)))))))))))))) (.seq (.region false [⟨some 8,none,.mov (.c (.bool true))⟩]) .ret))
theorem C4:yJ=U2 vX vY LU LV LW LX:=rfl
def LY(c ty:Nat)(p:V):Ob:=⟨some c,ty,1,[[p]]⟩
def PL(c1 b a ty2 bl br:Nat)(d:SC)(ba:Option Nat)(n:Nat)(rows:List (List V))(mv:V)(mo:Ob)(dr:iq)(tr lr:List (List V)):List (Nat×Ob):=
 [(5,LY c1 a (.ptr 900 (some bl) 47 0 0)),(6,LY b ty2 (.ptr 930 (some br) 31 0 0)),(900,fx bl (fw d (.own 1000900 ba 3 n) mv)),(1000900,iw ba rows),(901,mo),(930,fI br dr (.sl false 1 tr) (.sl false 3 lr))]
def GO(c1 b a ty2 bl br:Nat)(d:SC)(ba:Option Nat)(n:Nat)(rows:List (List V))(mv:V)(mo:Ob)(dr:iq)(tr lr cs dx:List (List V))(s:S):Prop:=
 PI [(0,.ptr 5 (some c1) 1 0 0),(1,.ptr 6 (some b) 1 0 0),(2,.sl false 1 cs),(3,.sl false 3 dx)] s/\
 PJ [(5,some (LY c1 a (.ptr 900 (some bl) 47 0 0))),(6,some (LY b ty2 (.ptr 930 (some br) 31 0 0))),(900,some (fx bl (fw d (.own 1000900 ba 3 n) mv))),(1000900,some (iw ba rows)),(901,some mo),(930,some (fI br dr (.sl false 1 tr) (.sl false 3 lr))),(9,none),(14,none),(19,none),(920,none),(1000920,none),(921,none),(940,none)] s
def P7(c1 b a ty2:Nat)(g:Int)(R:S->Prop):Prop:=∀(s s':S)(bl br:Nat)(d:SC)(l:List eP)(m:Option Mv)(ba:Option Nat)(n:Nat)(rows:List (List V))(mv:V)(mo:Ob)(bm:Nat)(dr:iq)(tx:List BS)(tr lr:List (List V)),n=l.length->rows=l.map ca->mv=kS 901 bm m->mo=jk bm m->tr=c7 tx->lr=l.map ca->MP d l m dr tx->d.gn<=g+1->c6 s s'->iH [.t 8] [.bool true] s'->fG (PL c1 b a ty2 bl br d ba n rows mv mo dr tr lr) s'->R s
theorem Bk:N3 900 1000900 901:=⟨rfl,rfl,rfl⟩
theorem U3:N3 920 1000920 921:=⟨rfl,rfl,rfl⟩
theorem LZ{P:Prim}(hP:P=dn){T c:c8}{R:S->Prop}{g:Int}{c1 b a ty2 bl br:Nat}(e:P7 c1 b a ty2 g R){d:SC}{l:List eP}{m:Option Mv}{dr:iq}{tx:List BS}(h:MP d l m dr tx)(hg:d.gn<=g){ba:Option Nat}{n:Nat}{rows:List (List V)}{mv:V}{mo:Ob}{bm:Nat}{tr lr cs dx:List (List V)}(hn:n=l.length)(ds:rows=l.map ca)(od:mv=kS 901 bm m)(rf:mo=jk bm m)(ld:tr=c7 tx)(jW:lr=l.map ca)
  {a0:Int}(f:gK T 11 [.sl false 1 cs,qI 0] (qI a0))(x1 x2 x3 x4 i j:AC)
  (h1:∀(s:S)(N:S->Prop)(X:Nat->S->Prop),GO c1 b a ty2 bl br d ba n rows mv mo dr tr lr cs dx s->(∀t h,R ⟨gy t 8 (.bool true),h⟩->N ⟨t,h⟩)->gj P T c x1 s N X R)
  (h2:∀(s:S)(N:S->Prop)(X:Nat->S->Prop),GO c1 b a ty2 bl br d ba n rows mv mo dr tr lr cs dx s->(∀t h,R ⟨gy t 8 (.bool true),h⟩->N ⟨t,h⟩)->gj P T c x2 s N X R)
  (h3:∀(s:S)(N:S->Prop)(X:Nat->S->Prop),GO c1 b a ty2 bl br d ba n rows mv mo dr tr lr cs dx s->(∀t h,R ⟨gy t 8 (.bool true),h⟩->N ⟨t,h⟩)->gj P T c x3 s N X R)
  (h4:∀(s:S)(N:S->Prop)(X:Nat->S->Prop),GO c1 b a ty2 bl br d ba n rows mv mo dr tr lr cs dx s->(∀t h,R ⟨gy t 8 (.bool true),h⟩->N ⟨t,h⟩)->gj P T c x4 s N X R)
  (h5:∀(s:S)(N:S->Prop)(X:Nat->S->Prop),GO c1 b a ty2 bl br d ba n rows mv mo dr tr lr cs dx s->(∀t h,R ⟨gy t 8 (.bool true),h⟩->N ⟨t,h⟩)->gj P T c i s N X R)
  (h6:∀(s:S)(N:S->Prop)(X:Nat->S->Prop),GO c1 b a ty2 bl br d ba n rows mv mo dr tr lr cs dx s->(∀t h,R ⟨gy t 8 (.bool true),h⟩->N ⟨t,h⟩)->gj P T c j s N X R)
  :gj P T c (U2 x1 x2 x3 x4 i j) (S0 [.ptr 5 (some c1) 1 0 0,.ptr 6 (some b) 1 0 0,.sl false 1 cs,.sl false 3 dx] (cp (PL c1 b a ty2 bl br d ba n rows mv mo dr tr lr))) R (λ_ _=>False) R:=by
 cbv
 repeat' first|(refine qA ?_;cbv)|(intro k;cbv)|(refine f _ _ ?_;cbv)|fail
 refine ab (λg=>?_) (λg=>?_)
 ·exact h1 _ _ _ ⟨⟨rfl,rfl,rfl,rfl,trivial⟩,⟨rfl,rfl,rfl,rfl,rfl,rfl,rfl,rfl,rfl,rfl,rfl,rfl,rfl,trivial⟩⟩ λt h hr=>hr
 clear g
 try cbv
 refine ab (λg=>?_) (λg=>?_)
 ·exact h2 _ _ _ ⟨⟨rfl,rfl,rfl,rfl,trivial⟩,⟨rfl,rfl,rfl,rfl,rfl,rfl,rfl,rfl,rfl,rfl,rfl,rfl,rfl,trivial⟩⟩ λt h hr=>hr
 clear g
 try cbv
 refine ab (λg=>?_) (λg=>?_)
 ·exact h3 _ _ _ ⟨⟨rfl,rfl,rfl,rfl,trivial⟩,⟨rfl,rfl,rfl,rfl,rfl,rfl,rfl,rfl,rfl,rfl,rfl,rfl,rfl,trivial⟩⟩ λt h hr=>hr
 clear g
 try cbv
 refine ab (λg=>?_) (λg=>?_)
 ·exact h4 _ _ _ ⟨⟨rfl,rfl,rfl,rfl,trivial⟩,⟨rfl,rfl,rfl,rfl,rfl,rfl,rfl,rfl,rfl,rfl,rfl,rfl,rfl,trivial⟩⟩ λt h hr=>hr
 clear g
 try cbv
 refine ab (λg=>?_) (λg=>?_)
 ·exact h5 _ _ _ ⟨⟨rfl,rfl,rfl,rfl,trivial⟩,⟨rfl,rfl,rfl,rfl,rfl,rfl,rfl,rfl,rfl,rfl,rfl,rfl,rfl,trivial⟩⟩ λt h hr=>hr
 clear g
 try cbv
 refine ab (λg=>?_) (λg=>?_)
 ·exact h6 _ _ _ ⟨⟨rfl,rfl,rfl,rfl,trivial⟩,⟨rfl,rfl,rfl,rfl,rfl,rfl,rfl,rfl,rfl,rfl,rfl,rfl,rfl,trivial⟩⟩ λt h hr=>hr
 clear g
 try cbv
 exact e _ _ bl br d l m ba n rows mv mo bm dr tx tr lr hn ds od rf ld jW h qW (c6.refl _) rfl ⟨rfl,rfl,rfl,rfl,rfl,rfl,trivial⟩
theorem Pk(d:SC)(l:List eP)(m:Option Mv)(base who seq:Int)(x:List Part):(rI d l m base who seq x).d.gn=d.gn:=by
 unfold rI
 repeat' split
 all_goals first|rfl|exact(oZ d l m _).2.1
theorem U4{P:Prim}(hP:P=dn){T C:c8}{N R:S->Prop}{X:Nat->S->Prop}{g:Int}{c1 c2 D ty2 bl br:Nat}(M:P7 c1 c2 D ty2 g R){d:SC}{l:List eP}{m:Option Mv}{dr:iq}{tx:List BS}(h:MP d l m dr tx)(hg:d.gn<=g){ba:Option Nat}{n:Nat}{rows:List (List V)}{mv:V}{mo:Ob}{bm:Nat}{tr lr cs dx:List (List V)}(hn:n=l.length)(ds:rows=l.map ca)(od:mv=kS 901 bm m)(rf:mo=jk bm m)(ld:tr=c7 tx)(jW:lr=l.map ca)
  {s:S}(hB:GO c1 c2 D ty2 bl br d ba n rows mv mo dr tr lr cs dx s){x:List Part}(wc:dx=x.map bd)(hx:fH x)(E:KI T)(u:Lw T){a1 a2:Int}(O:gK T 11 [.sl false 1 cs,qI 1] (qI a1))(U:gK T 11 [.sl false 1 cs,qI 2] (qI a2)):gj P T C vX s N X R:=by
 obtain⟨b1,b2⟩:=hB;have t:=h.jL;have w:=t.CM;refine lC (Q:=λs=>gj P T C vX s N X R) _ _ b1 b2 λt0 h0=>?_;refine nE 1 vX _ ?_;obtain⟨N',F⟩:∃N',(λs=>gj P T C (kJ 1 vX) s N X R)=N':=⟨_,rfl⟩;rw[F];cbv
 repeat' first|(refine qA ?_;cbv)|(intro W;cbv)|(refine O _ _ ?_;cbv)|(refine U _ _ ?_;cbv)|fail
 subst F;show lL P T (vW 0 34 10 9 3 43) 10 [] _ (λs=>gj P T C (kJ 2 vX) s N X R);refine uM hP (Post:=λa b h1=>∃d' l' i n' c j k o,(⟨d',l',a,b⟩:rD)=gz d l m ⟨a1,a2,x⟩/\n'=l'.length/\c=l'.map ca/\k=kS 901 j m/\o=jk j m/\h1=Hp.fK _ [(900,fx bl (fw d' (.own 1000900 i 3 n') k)),(1000900,iw i c),(901,o)]) qD rfl rfl qD qD rfl rfl rfl rfl rfl
  (λK hK=>E 900 1000900 901 bl d ba n rows l mv mo bm m ⟨a1,a2,x⟩ a1 a2 dx _ K ⟨hn,ds,od,rf,rfl,rfl,rfl,Bk⟩ ⟨rfl,rfl,wc⟩ hx w.b t.dE λv e i d' l' n' c j k o B Y z2 z3 z4=>hK v e _ ⟨d',l',i,n',c,j,k,o,B,Y,z2,z3,z4,rfl⟩) λa b h1 hp=>?_
 obtain⟨d',l',i,n',c,j,k,o,B,Z,r,G,H,rfl⟩:=hp;show lL P T (vW 1 42 12 9 3 44) 10 [] _ (λs=>gj P T C (kJ 3 vX) s N X R);refine uM hP (Post:=λa b h1=>∃d2 f y p q,(⟨d2,f,y,a,b⟩:GM)=oL dr tx l ⟨a1,a2,x⟩/\p=c7 f/\q=y.map ca/\h1=Hp.fK _ [(930,fI br d2 (.sl false 1 p) (.sl false 3 q))]) qD rfl rfl qD qD rfl rfl rfl rfl rfl
  (λK hK=>u 930 br dr tx l tr lr ⟨a1,a2,x⟩ a1 a2 dx _ K ld jW h.ok ⟨rfl,rfl,wc⟩ hx rfl λd2 f y v e p q B Y z2=>hK v e _ ⟨d2,f,y,p,q,B,Y,z2,rfl⟩) λz A h2 hp=>?_
 obtain⟨d2,f,y,p,q,Xd,I,J,rfl⟩:=hp;have L:=LN h ⟨a1,a2,x⟩;rw[<-B,<-Xd] at L;obtain⟨y1,y2,y3,y4⟩:=L;have y1:z=a:=y1;have y2:A=b:=y2;have y3:y=l':=y3;have y4:MP d' l' m d2 f:=y4;have Wy:d'.gn=d.gn:=by
  have:=(oZ d l m ⟨a1,a2,x⟩).2.1;rw[<-B] at this;exact this
 subst y1 y2 y3;have q1:P.eq z z=true:=pC hP rfl;have q2:P.eq A A=true:=pC hP rfl;cbv
 repeat' first|(refine qA ?_;cbv)|(intro W;cbv)|(refine iv q1 ?_;cbv)|fail
 exact M _ _ bl br d' y m i n' c k o j d2 f p q Z r G H I J y4 qW (c6.refl _) (aB (λb=>[V.bool b]) q2) ⟨rfl,rfl,rfl,rfl,rfl,rfl,trivial⟩
theorem U5{P:Prim}(hP:P=dn){T B:c8}{N R:S->Prop}{X:Nat->S->Prop}{g:Int}{c1 c2 C ty2 bl br:Nat}(O:P7 c1 c2 C ty2 g R){d:SC}{l:List eP}{m:Option Mv}{dr:iq}{tx:List BS}(h:MP d l m dr tx)(hg:d.gn<=g){ba:Option Nat}{n:Nat}{rows:List (List V)}{mv:V}{mo:Ob}{bm:Nat}{tr lr cs dx:List (List V)}(hn:n=l.length)(ds:rows=l.map ca)(od:mv=kS 901 bm m)(rf:mo=jk bm m)(ld:tr=c7 tx)(jW:lr=l.map ca)
  {s:S}(hB:GO c1 c2 C ty2 bl br d ba n rows mv mo dr tr lr cs dx s){x:List Part}(wc:dx=x.map bd)(hx:fH x)(D:PV T)(t:P1 T){a1 a2 a3:Int}(U:gK T 11 [.sl false 1 cs,qI 1] (qI a1))(W:gK T 11 [.sl false 1 cs,qI 2] (qI a2))(Y:gK T 11 [.sl false 1 cs,qI 3] (qI a3)):gj P T B vY s N X R:=by
 obtain⟨b1,b2⟩:=hB;have E:=h.jL;have u:=E.CM;refine lC (Q:=λs=>gj P T B vY s N X R) _ _ b1 b2 λt0 h0=>?_;refine nE 1 vY _ ?_;obtain⟨N',F⟩:∃N',(λs=>gj P T B (kJ 1 vY) s N X R)=N':=⟨_,rfl⟩;rw[F];cbv
 repeat' first|(refine qA ?_;cbv)|(intro G;cbv)|(refine U _ _ ?_;cbv)|fail
 refine W _ _ ?_;cbv
 repeat' first|(refine qA ?_;cbv)|(intro G;cbv)|(refine Y _ _ ?_;cbv)|fail
 subst F;show lL P T (vW 0 68 15 14 4 45) 10 [] _ (λs=>gj P T B (kJ 2 vY) s N X R);refine uM hP (Post:=λa b h1=>∃d' l' i n' c j k o,(⟨d',l',a,b⟩:rD)=rI d l m a3 a1 a2 x/\n'=l'.length/\c=l'.map ca/\k=kS 901 j m/\o=jk j m/\h1=Hp.fK _ [(900,fx bl (fw d' (.own 1000900 i 3 n') k)),(1000900,iw i c),(901,o)]) qD rfl rfl qD qD rfl rfl rfl rfl rfl
  (λK hK=>D 900 1000900 901 bl d ba n rows l mv mo bm m a3 a1 a2 x dx _ K ⟨hn,ds,od,rf,rfl,rfl,rfl,Bk⟩ wc hx u λv e i d' l' n' c j k o A Z z2 z3 z4=>hK v e _ ⟨d',l',i,n',c,j,k,o,A,Z,z2,z3,z4,rfl⟩) λa b h1 hp=>?_
 obtain⟨d',l',i,n',c,j,k,o,A,VI,r,H,I,rfl⟩:=hp;show lL P T (vW 1 76 17 14 4 46) 10 [] _ (λs=>gj P T B (kJ 3 vY) s N X R);refine uM hP (Post:=λa b h1=>∃d2 f w p q,(⟨d2,f,w,a,b⟩:GM)=sL dr tx l a3 a1 a2 x/\p=c7 f/\q=w.map ca/\h1=Hp.fK _ [(930,fI br d2 (.sl false 1 p) (.sl false 3 q))]) qD rfl rfl qD qD rfl rfl rfl rfl rfl
  (λK hK=>t 930 br dr tx l tr lr a3 a1 a2 x dx _ K ld jW h.ok wc hx rfl λd2 f w v e p q A Z z2=>hK v e _ ⟨d2,f,w,p,q,A,Z,z2,rfl⟩) λy z h2 hp=>?_
 obtain⟨d2,f,w,p,q,Xd,J,L,rfl⟩:=hp;have M:=SW h a3 a1 a2 x;rw[<-A,<-Xd] at M;obtain⟨y1,y2,y3,y4⟩:=M;have y1:y=a:=y1;have y2:z=b:=y2;have y3:w=l':=y3;have y4:MP d' l' m d2 f:=y4;have Wy:d'.gn=d.gn:=by
  have:=Pk d l m a3 a1 a2 x;rw[<-A] at this;exact this
 subst y1 y2 y3;have q1:P.eq y y=true:=pC hP rfl;have q2:P.eq z z=true:=pC hP rfl;cbv
 repeat' first|(refine qA ?_;cbv)|(intro G;cbv)|(refine iv q1 ?_;cbv)|fail
 exact O _ _ bl br d' w m i n' c k o j d2 f p q VI r H I J L y4 qW (c6.refl _) (aB (λb=>[V.bool b]) q2) ⟨rfl,rfl,rfl,rfl,rfl,rfl,trivial⟩
theorem U6{P:Prim}(hP:P=dn){T F:c8}{N R:S->Prop}{X:Nat->S->Prop}{g:Int}{c1 G k ty2 bl br:Nat}(v:P7 c1 G k ty2 g R){d:SC}{l:List eP}{m:Option Mv}{dr:iq}{tx:List BS}(h:MP d l m dr tx)(hg:d.gn<=g){ba:Option Nat}{n:Nat}{rows:List (List V)}{mv:V}{mo:Ob}{bm:Nat}{tr lr cs dx:List (List V)}(hn:n=l.length)(ds:rows=l.map ca)(od:mv=kS 901 bm m)(rf:mo=jk bm m)(ld:tr=c7 tx)(jW:lr=l.map ca)
  {s:S}(hB:GO c1 G k ty2 bl br d ba n rows mv mo dr tr lr cs dx s)(i:Eu T)(e:Lf T)(hN:∀t h,R ⟨gy t 8 (.bool true),h⟩->N ⟨t,h⟩):gj P T F LU s N X R:=by
 obtain⟨b1,b2⟩:=hB;have c:=h.jL;have a:=c.CM;refine lC (Q:=λs=>gj P T F LU s N X R) _ _ b1 b2 λt0 h0=>?_;have w:0<=d.b/\d.b<=4294967295:=⟨a.b.1,bZ a.b.2 qD⟩;have o:l.length<=1000:=aV a.len qD;have p:=h.ok;have x:0<=dr.b/\dr.b<=4294967295:=⟨p.b.1,bZ p.b.2 qD⟩;have y:=(AP c).2.2.2.2.1;cbv
 repeat' first|(refine qA ?_;cbv)|(intro H;cbv)|(refine i 900 1000900 901 bl d ba n rows l mv mo bm m _ _ ⟨hn,ds,od,rf,rfl,rfl,rfl,Bk⟩ w o c.dE λz d' n' j A B C q D f r u=>?_;cbv)|(refine e 930 br dr tx l tr lr _ _ ld jW x o rfl λd2 E=>?_;cbv)|fail
 have I:MP d' l m d2 tx:=by rw[q,E];exact Pc h
 rw[<-q] at y;refine hN _ _ ?_;exact v _ _ bl br d' l m z n' j B C A d2 tx tr lr D f r u ld jW I qW (c6.refl _) rfl ⟨rfl,rfl,rfl,rfl,rfl,rfl,trivial⟩
theorem U7{P:Prim}(hP:P=dn){T I:c8}{N R:S->Prop}{X:Nat->S->Prop}{g:Int}{c1 J w ty2 bl br:Nat}(D:P7 c1 J w ty2 g R){d:SC}{l:List eP}{m:Option Mv}{dr:iq}{tx:List BS}(h:MP d l m dr tx)(hg:d.gn<=g){ba:Option Nat}{n:Nat}{rows:List (List V)}{mv:V}{mo:Ob}{bm:Nat}{tr lr cs dx:List (List V)}(hn:n=l.length)(ds:rows=l.map ca)(od:mv=kS 901 bm m)(rf:mo=jk bm m)(ld:tr=c7 tx)(jW:lr=l.map ca)
  {s:S}(hB:GO c1 J w ty2 bl br d ba n rows mv mo dr tr lr cs dx s)(u:Ew T)(q:Ld T)(L:g<2147483647){a1:Int}(E:gK T 11 [.sl false 1 cs,qI 1] (qI a1)):gj P T I LV s N X R:=by
 obtain⟨b1,b2⟩:=hB;have x:=h.jL;have o:=x.CM;refine lC (Q:=λs=>gj P T I LV s N X R) _ _ b1 b2 λt0 h0=>?_;have F:0<=d.b/\d.b<=4294967295:=⟨o.b.1,bZ o.b.2 qD⟩;have y:l.length<=1000:=aV o.len qD;have z:=h.ok;have G:0<=dr.b/\dr.b<=4294967295:=⟨z.b.1,bZ z.b.2 qD⟩;have r:=Pb h qW a1;show lL P T LQ 14 [] _ (λs=>R s);refine Pf hP (Post1:=λa h1=>∃m' f n' c i j k,(m',a)=kh d l.length m a1/\n'=l.length/\c=l.map ca/\j=kS 901 i m'/\k=jk i m'/\h1=Hp.fK _ [(900,fx bl (fw d (.own 1000900 f 3 n') j)),(1000900,iw f c),(901,k)])
  (Post2:=λa h1 b h2=>∃d2,(d2,b)=pY dr l.length a1/\h2=Hp.fK h1 [(930,fI br d2 (.sl false 1 tr) (.sl false 3 lr))]) rfl rfl rfl rfl rfl ?_ E
  (λK hK=>u 900 1000900 901 bl d ba n rows l mv mo bm m a1 _ K ⟨hn,ds,od,rf,rfl,rfl,rfl,Bk⟩ F y λe f n' c i m' j k v C z2 z3 z4=>hK e _ ⟨m',f,n',c,i,j,k,v,C,z2,z3,z4,rfl⟩) ?_ ?_ ?_
 ·rintro a h1 ⟨m',f,n',c,i,j,k,v,C,z2,z3,z4,rfl⟩;rfl
 ·rintro a h1 ⟨m',f,n',c,i,j,k,v,C,z2,z3,z4,rfl⟩ K hK;exact q 930 br dr tx l tr lr a1 _ K ld jW G y rfl λd2 e p=>hK e _ ⟨d2,p,rfl⟩
 ·rintro a h1 b h2 ⟨m',f,n',c,i,j,k,v,C,z2,z3,z4,rfl⟩ ⟨d2,p,rfl⟩;rw[<-v,<-p] at r;exact pC hP r.1.symm
 ·rintro a h1 b h2 ⟨m',f,n',c,i,j,k,v,H,t,A,B,rfl⟩ ⟨d2,p,rfl⟩;rw[<-v,<-p] at r;exact D _ _ bl br d l m' f n' c j k i d2 tx tr lr H t A B ld jW r.2 qW (c6.refl _) rfl ⟨rfl,rfl,rfl,rfl,rfl,rfl,trivial⟩
theorem U8{P:Prim}(hP:P=dn){T W:c8}{N R:S->Prop}{X:Nat->S->Prop}{g:Int}{c1 Y C ty2 bl br:Nat}(H:P7 c1 Y C ty2 g R){d:SC}{l:List eP}{m:Option Mv}{dr:iq}{tx:List BS}(h:MP d l m dr tx)(hg:d.gn<=g){ba:Option Nat}{n:Nat}{rows:List (List V)}{mv:V}{mo:Ob}{bm:Nat}{tr lr cs dx:List (List V)}(hn:n=l.length)(ds:rows=l.map ca)(od:mv=kS 901 bm m)(rf:mo=jk bm m)(ld:tr=c7 tx)(jW:lr=l.map ca)
  {s:S}(hB:GO c1 Y C ty2 bl br d ba n rows mv mo dr tr lr cs dx s)(z:Ex T)(t:Lh T):gj P T W LW s N X R:=by
 obtain⟨b1,b2⟩:=hB;have q:=h.jL;have I:=q.CM;refine lC (Q:=λs=>gj P T W LW s N X R) _ _ b1 b2 λt0 h0=>?_;have J:=h.ok;have u:=Pd h;have A:=(AQ q).gn;have L:=q.hd.tx;show lL P T LR 10 [] _ (λs=>R s);refine Pg hP (Post1:=λa h1=>∃d' l' m' e n' c f i j,(⟨d',l',m',a⟩:RR)=jl d l m/\n'=l'.length/\c=l'.map ca/\i=kS 901 f m'/\j=jk f m'/\h1=Hp.fK _ [(900,fx bl (fw d' (.own 1000900 e 3 n') i)),(1000900,iw e c),(901,j)])
  (Post2:=λa h1 b h2=>∃d2 k x o p,(⟨d2,k,x,b⟩:XT)=kt dr tx l/\o=c7 k/\p=x.map ca/\h2=Hp.fK h1 [(930,fI br d2 (.sl false 1 o) (.sl false 3 p))]) rfl rfl rfl rfl ?_
  (λK hK=>z 900 1000900 901 bl d ba n rows l mv mo bm m _ K ⟨hn,ds,od,rf,rfl,rfl,rfl,Bk⟩ (CN q) (aV L qD) λv e d' l' m' n' c f i j y B z2 z3 z4=>hK v _ ⟨d',l',m',e,n',c,f,i,j,y,B,z2,z3,z4,rfl⟩) ?_ ?_ ?_
 ·rintro a h1 ⟨d',l',m',e,n',c,f,i,j,y,B,z2,z3,z4,rfl⟩;rfl
 ·rintro a h1 ⟨d',l',m',e,n',c,f,i,j,y,B,z2,z3,z4,rfl⟩ K hK;exact t 930 br dr tx l tr lr _ K ld jW J rfl λd2 k x v o p r B z2=>hK v _ ⟨d2,k,x,o,p,r,B,z2,rfl⟩
 ·rintro a h1 b h2 ⟨d',l',m',e,n',c,f,i,j,y,B,z2,z3,z4,rfl⟩ ⟨d2,k,x,o,p,r,z5,Z,rfl⟩;rw[<-y,<-r] at u;exact u.1
 ·rintro a h1 b h2 ⟨d',l',m',e,n',c,f,i,j,y,M,w,D,E,rfl⟩ ⟨d2,k,x,o,p,r,F,G,rfl⟩;rw[<-y,<-r] at u;rw[<-y] at A;have A:d'.gn<=d.gn+1:=A;obtain⟨_,O,U⟩:=u;have O:x=l':=O;have U:MP d' l' m' d2 k:=U;subst O;exact H _ _ bl br d' x m' e n' c i j f d2 k o p M w D E F G U qW (c6.refl _) rfl ⟨rfl,rfl,rfl,rfl,rfl,rfl,trivial⟩
theorem c6.SY{s:S}{c1 b a ty2 bl br:Nat}{d:SC}{ba:Option Nat}{n:Nat}{rows:List (List V)}{mo:Ob}{dr:iq}{tr lr:List (List V)}(h8:s.t 8=.bool true)
  (c:s.h 5=some (LY c1 a (.ptr 920 (some bl) 47 0 0)))(e:s.h 6=some (LY b ty2 (.ptr 940 (some br) 31 0 0)))(f:s.h 920=some (fx bl (fw d (.own 1000920 ba 3 n) .nil)))(k1:s.h 1000920=some (iw ba rows))(k2:s.h 921=some mo)(g:s.h 940=some (fI br dr (.sl false 1 tr) (.sl false 3 lr))):
  c6 s ⟨gy (λ_=>.iC) 8 (.bool true),cp (PL c1 b a ty2 bl br d ba n rows .nil mo dr tr lr)⟩:=by
 refine c6.W9 [(5,5,LY c1 a (.ptr 900 (some bl) 47 0 0)),(6,6,LY b ty2 (.ptr 930 (some br) 31 0 0)),(900,920,fx bl (fw d (.own 1000900 ba 3 n) .nil)),(1000900,1000920,iw ba rows),(901,921,mo),(930,940,fI br dr (.sl false 1 tr) (.sl false 3 lr))] _ (λi=>?_) (by show([5,6,920,1000920,921,940]:List Nat).Nodup;decide) ⟨⟨_,c,rfl,rfl⟩,⟨_,e,rfl,rfl⟩,⟨_,f,rfl,Ph (k:=0) (k':=0)⟩,⟨_,k1,rfl,rfl⟩,⟨_,k2,rfl,rfl⟩,⟨_,g,rfl,rfl⟩,trivial⟩;unfold gy
 by_cases h:i=8
 ·subst h;rw[ae rfl,h8];exact .inl rfl
 ·rw[aa h];exact .inr rfl
theorem U9{P:Prim}(hP:P=dn){T T1:c8}{N R:S->Prop}{X:Nat->S->Prop}{g:Int}{c1 v w ty2 bl br:Nat}(J:P7 c1 v w ty2 g R){d:SC}{l:List eP}{m:Option Mv}{dr:iq}{tx:List BS}(h:MP d l m dr tx)(hg:d.gn<=g){ba:Option Nat}{n:Nat}{rows:List (List V)}{mv:V}{mo:Ob}{bm:Nat}{tr lr cs dx:List (List V)}(hn:n=l.length)(ds:rows=l.map ca)(od:mv=kS 901 bm m)(rf:mo=jk bm m)(ld:tr=c7 tx)(jW:lr=l.map ca)
  {s:S}(hB:GO c1 v w ty2 bl br d ba n rows mv mo dr tr lr cs dx s)(q:yu T)(r:KT T)(j:K5 T)(K:∀a1 a2 b1 b2 k0 k1 c1 s1 v s2,gS a1 a2 b1 b2=0->c1=jS a1 a2 k0->s1=a1.take c1.toNat->v=jS b1 b2 k1->s2=b1.take v.toNat->gK T 53 [.agg [.str a1,qI a2,.str b1,qI b2],.agg [qI k0,qI k1]] (.tup [.agg [.str s1,qI c1,.str s2,qI v],qI 0]))
  {a1 a2:Int}(L:gK T 11 [.sl false 1 cs,qI 1] (qI a1))(M:gK T 11 [.sl false 1 cs,qI 2] (qI a2))(hN:∀t h,R ⟨gy t 8 (.bool true),h⟩->N ⟨t,h⟩):gj P T T1 LX s N X R:=by
 obtain⟨b1,b2⟩:=hB;have f:=h.jL;have O:=f.CM;refine lC (Q:=λs=>gj P T T1 LX s N X R) _ _ b1 b2 λt0 h0=>?_;have U:MQ mv:=by rw[od];exact ti _ _ _
 have hr1:qT 900 mv=true:=by rw[od];exact Ua rfl
 obtain⟨d3,l3,d4,W,Y,u,Z,Wy⟩:=Pe f a1 a2;obtain⟨e1,x⟩:∃c,c=jS d.x1 d.x2 a1:=⟨_,rfl⟩;obtain⟨I,y⟩:∃c,c=jS d.x3 d.x4 a2:=⟨_,rfl⟩;obtain⟨z1,hz1⟩:∃z,z=d.x1.take e1.toNat:=⟨_,rfl⟩;obtain⟨z2,hz2⟩:∃z,z=d.x3.take I.toNat:=⟨_,rfl⟩;rw[<-x,<-y,<-hz1,<-hz2] at Y u;have k:=K d.x1 d.x2 d.x3 d.x4 a1 a2 e1 z1 I z2 f.dk x hz1 y hz2;cbv
 repeat' first|(refine qA ?_;cbv)|(intro a;cbv)|(refine q 900 bl d (.own 1000900 ba 3 n) mv _ _ ⟨⟨.own _ _ _ _,rfl⟩,U.1⟩ rfl hr1 rfl ?_;cbv)|fail
 refine L _ _ ?_;cbv
 repeat' first|(refine qA ?_;cbv)|(intro a;cbv)|(refine M _ _ ?_;cbv)|fail
 refine k _ _ ?_;cbv
 repeat' first|(refine qA ?_;cbv)|(intro a;cbv)|(refine hJ (oq hP rfl) ?_;cbv)|fail
 refine r 920 1000920 921 z1 e1 z2 I _ _ U3 rfl rfl rfl λA B e3 i=>⟨λhe=>?_,λhe Z2 Uv n2 ij Z3 BD o C=>?_⟩
 ·rw[Y] at i;exact absurd (aB PH.e i) he
 rw[Y] at i;obtain⟨Ux,Xs⟩:A=d3/\B=l3:=⟨aB PH.d i,aB PH.l i⟩;subst Ux Xs;cbv
 repeat' first|(refine qA ?_;cbv)|(intro a;cbv)
 refine j 940 z1 e1 z2 I _ _ rfl λD p E e4 b=>⟨λhe=>?_,λhe Z4 UX UY F G=>?_⟩
 ·rw[u] at b;exact absurd (aB yE.e b) he
 rw[u] at b;obtain⟨Uy,H,Z5⟩:D=d4/\p=W/\E=B:=⟨aB yE.d b,aB yE.tx b,aB yE.l b⟩;subst Uy H Z5;cbv
 repeat' first|(refine qA ?_;cbv)|(intro a;cbv)
 refine hJ (oq hP rfl) ?_;cbv
 repeat' first|(refine qA ?_;cbv)|(intro a;cbv)
 refine hJ (oq hP rfl) ?_;cbv
 repeat' first|(refine qA ?_;cbv)|(intro a;cbv)
 refine hN _ _ ?_;exact J _ _ Z2 Z4 A E none Uv n2 ij .nil Z3 0 D p UX UY BD o rfl C F G Z qW (c6.SY rfl rfl rfl rfl rfl rfl rfl) rfl ⟨rfl,rfl,rfl,rfl,rfl,rfl,trivial⟩
end Go.Proofs.YtobngncjflogcaaGreat.AM
