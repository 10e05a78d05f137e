/-
  Part 21 of what the law ShopPlays reaches: the plain machine, contracts of the functions and plain laws; each lemma says its own condition.
-/
import Derived.Test.YtobngncjflogcaaGreatShopPlays19
import Derived.Test.YtobngncjflogcaaGreatShopPlays20
import Derived.Test.YtobngncjflogcaaGreatShopPlays17
set_option linter.unusedVariables false
set_option linter.unusedSimpArgs false
namespace Go.Proofs.YtobngncjflogcaaGreat.AM
open Go Go.RowKit
set_option maxRecDepth 100000
set_option maxHeartbeats 2000000
section
variable {P:Prim} {T:c8} {s:S} {d x y:Nat} {K:S->Prop}
theorem vU{f:Nat}{v:V}(hx:s.t x=v)(hK:T f [v] s.h λv h=>K ⟨gy s.t d v,h⟩):eH P T ⟨some d,none,.call f [.t x]⟩ s K:=by
 show T f [s.t x] s.h _;rw[hx];exact hK
theorem yH{ty sz:Nat}{row:List V}(hx:s.t x=.agg row)(hl:row.length=sz)(ho:row.all V.one=true)(hn:s.h (1000000+d)=none)(hK:∀β:Nat,K ⟨gy s.t d (.own (1000000+d) (some β) sz 1),Hp.put s.h (1000000+d) ⟨some β,ty,sz,[row]⟩⟩):eH P T ⟨some d,none,.bslice ty sz [.t x]⟩ s K:=by
 show s.h (1000000+d)=none/\(([iI.t x]:List iI).all λq=>nM sz (iI.ev s q))=true/\∀β:Nat,K ⟨gy s.t d (.own (1000000+d) (some β) sz 1),Hp.put s.h (1000000+d) ⟨some β,ty,sz,[(s.t x).cells]⟩⟩;rw[hx];refine⟨hn,?_,hK⟩;show(nM sz (s.t x)&&true)=true;rw[hx];show((row.length==sz&&row.all V.one)&&true)=true;rw[hl,ho];simp
theorem A8{k k2 ty ty2 sz a n n2:Nat}{b b2:Option Nat}{rows news:List (List V)}(hx:s.t x=.own k b sz n)(hk:s.h k=some ⟨b,ty,sz,rows⟩)(hy:s.t y=.own k2 b2 sz n2)(hk2:s.h k2=some ⟨b2,ty2,sz,news⟩)(h1:P.nL news n2)(h2:P.nL rows n)(h3:P.bytes (P.add (P.int n) (P.dv news)) a)
  (hK:∀β:Option Nat,K ⟨gy s.t d (.own k β sz (P.hU n (P.fQ news))),Hp.put s.h k ⟨β,ty,sz,P.kB rows news⟩⟩):eH P T ⟨some d,none,.append ty sz a (.t x) (.t y)⟩ s K:=by
 simp only[eH,jh,fV,iI.ev,hx,hy,ln,m0,hk2,hk];exact⟨trivial,trivial,trivial,h1,trivial,trivial,trivial,trivial,h2,h3,hK⟩
end
def kz(bl:Nat)(lr:List (List V))(n:Nat)(row:List V)(ba:Option Nat)(β:Nat)(a:Option Nat)(n8:Nat):List (Nat×Nat×V):=[(0,112,.ptr 0 (some bl) 31 0 0),(1,113,.ptr 0 (some bl) 31 0 0),(2,114,.ptr 0 (some bl) 31 0 0),(3,115,.ptr 0 (some bl) 31 0 24),(4,116,.sl false 3 lr),(5,117,.own 1000300 ba 3 n),(6,118,.agg row),(7,119,.own 1000119 (some β) 3 1),(8,120,.own 1000300 a 3 n8),(9,121,.ptr 0 (some bl) 31 0 0),(10,122,.ptr 0 (some bl) 31 0 24)]
def A9(lr rows8:List (List V))(ba a:Option Nat)(done:List Nat):Option Ob:=if fq done 8=true then some (iw a rows8) else if fq done 5=true then some (iw ba lr) else none
def CV(row:List V)(β:Nat)(done:List Nat):Option Ob:=if fq done 7=true then some ⟨some β,91,3,[row]⟩ else none
def Ba(bl:Nat)(d:iq)(tv:V)(lr:List (List V))(n8:Nat)(a:Option Nat)(done:List Nat):Option Ob:=if fq done 11=true then some (fI bl d tv (.own 1000300 a 3 n8)) else some (fI bl d tv (.sl false 3 lr))
def mQ(bl:Nat)(d:iq)(tv:V)(lr rows8:List (List V))(row:List V)(n8:Nat)(ba:Option Nat)(β:Nat)(a:Option Nat)(done:List Nat)(h0:Hp)(k:Nat):Option Ob:=if k=1000300 then A9 lr rows8 ba a done else if k=1000119 then CV row β done else if k=0 then Ba bl d tv lr n8 a done else h0 k
def PT:List (AO×List Nat):=[
 (⟨some 112,none,.mov (.t 0)⟩,[]),
 (⟨some 113,none,.mov (.t 0)⟩,[]),
 (⟨some 114,none,.nilchk (.t 113)⟩,[1]),
 (⟨some 115,none,.faddr 24 (.t 114)⟩,[2]),
 (⟨some 116,none,.load1 (.t 115)⟩,[3]),
 (⟨some 117,none,.call 86 [(.t 116)]⟩,[4]),
 (⟨some 118,none,.loadn 3 (.t 3)⟩,[]),
 (⟨some 119,none,.bslice 91 3 [(.t 118)]⟩,[6]),
 (⟨some 120,none,.append 91 3 40 (.t 117) (.t 119)⟩,[5,7,5]),
 (⟨some 121,none,.nilchk (.t 112)⟩,[0,0,1,2,3,4,5,6,7,8]),
 (⟨some 122,none,.faddr 24 (.t 121)⟩,[9,0,1,2,3,4,5,6,7,8]),
 (⟨none,none,.store 1 (.t 122) (.t 120)⟩,[10,8,8,0,1,2,3,4,5,6,7,8])]
section
variable {bl n n8:Nat} {lr rows8:List (List V)} {row:List V} {ba b8:Option Nat} {β:Nat}
theorem Ls:((kz bl lr n row ba β b8 n8).map (·.1)).Nodup:=by show([0,1,2,3,4,5,6,7,8,9,10]:List Nat).Nodup;decide
theorem wb:((kz bl lr n row ba β b8 n8).map (·.2.1)).Nodup:=by show([112,113,114,115,116,117,118,119,120,121,122]:List Nat).Nodup;decide
end
theorem SA{P:Prim}(hP:P=dn){T:c8}{K:S->Prop}{t0:Nat->V}{h0:Hp}{bl b3 n n8:Nat}{d:iq}{tv:V}{lr rows8:List (List V)}{row:List V}(mU:row.length=3/\row.all V.one=true)(B:n=lr.length)(C:n8=P.hU n (P.fQ [row]))(D:rows8=P.kB lr [row])(E:P.bytes (P.add (P.int n) (P.dv [row])) 40)
  (g0:t0 0=.ptr 0 (some bl) 31 0 0)(g3:t0 3=.ptr 3 (some b3) 3 0 0)(F:h0 0=some (fI bl d tv (.sl false 3 lr)))(h3:h0 3=some ⟨some b3,91,3,[row]⟩)(hz1:h0 1000300=none)(hz2:h0 1000119=none)
  (m:∀(h:Hp)(K:V->Hp->Prop),h 1000300=none->(∀ba n,n=lr.length->K (.own 1000300 ba 3 n) (Hp.put h 1000300 (iw ba lr)))->T 86 [.sl false 3 lr] h K)
  (hK:∀ba β c,K ⟨L8 (kz bl lr n row ba β c n8) t0,Gm [(0,some (fI bl d tv (.own 1000300 c 3 n8))),(1000300,some (iw c rows8)),(1000119,some ⟨some β,91,3,[row]⟩)] h0⟩):lL P T PT 12 [] ⟨t0,h0⟩ K:=by
 refine pU rfl (λdone s=>∃ba β c,s=⟨eO done (kz bl lr n row ba β c n8) t0,mQ bl d tv lr rows8 row n8 ba β c done h0⟩) (λdone i o ps s hj hf hq q G K' f=>?_) (λdone s hd G=>?_) ?_
 ·obtain⟨ba,β,c,rfl⟩:=G
  match i,hj with
  |0,hj=>
   cases hj;show eH P T _ ⟨eO done (kz bl lr n row ba β c n8) t0,mQ bl d tv lr rows8 row n8 ba β c done h0⟩ K';refine gR (v:=.ptr 0 (some bl) 31 0 0) ((gX (done:=done) (kz bl lr n row ba β c n8) t0 rfl).trans g0) ?_;refine f _ ⟨ba,β,c,?_⟩;show(⟨gy (eO done (kz bl lr n row ba β c n8) t0) 112 _,mQ bl d tv lr rows8 row n8 ba β c done h0⟩:S)=⟨eO (0::done) (kz bl lr n row ba β c n8) t0,mQ bl d tv lr rows8 row n8 ba β c (0::done) h0⟩;rw[dS (k:=0) (kz bl lr n row ba β c n8) t0 Ls wb (.head _)];rfl
  |1,hj=>
   cases hj;show eH P T _ ⟨eO done (kz bl lr n row ba β c n8) t0,mQ bl d tv lr rows8 row n8 ba β c done h0⟩ K';refine gR (v:=.ptr 0 (some bl) 31 0 0) ((gX (done:=done) (kz bl lr n row ba β c n8) t0 rfl).trans g0) ?_;refine f _ ⟨ba,β,c,?_⟩;show(⟨gy (eO done (kz bl lr n row ba β c n8) t0) 113 _,mQ bl d tv lr rows8 row n8 ba β c done h0⟩:S)=⟨eO (1::done) (kz bl lr n row ba β c n8) t0,mQ bl d tv lr rows8 row n8 ba β c (1::done) h0⟩;rw[dS (k:=1) (kz bl lr n row ba β c n8) t0 Ls wb (qM 1 rfl)];rfl
  |2,hj=>
   cases hj;show eH P T _ ⟨eO done (kz bl lr n row ba β c n8) t0,mQ bl d tv lr rows8 row n8 ba β c done h0⟩ K';refine iR (dF (done:=done) (hq 1 qD) (kz bl lr n row ba β c n8) t0 wb (qM 1 rfl)) ?_;refine f _ ⟨ba,β,c,?_⟩;show(⟨gy (eO done (kz bl lr n row ba β c n8) t0) 114 _,mQ bl d tv lr rows8 row n8 ba β c done h0⟩:S)=⟨eO (2::done) (kz bl lr n row ba β c n8) t0,mQ bl d tv lr rows8 row n8 ba β c (2::done) h0⟩;rw[dS (k:=2) (kz bl lr n row ba β c n8) t0 Ls wb (qM 2 rfl)];rfl
  |3,hj=>
   cases hj;show eH P T _ ⟨eO done (kz bl lr n row ba β c n8) t0,mQ bl d tv lr rows8 row n8 ba β c done h0⟩ K';refine jf (dF (done:=done) (hq 2 qD) (kz bl lr n row ba β c n8) t0 wb (qM 2 rfl)) ?_;refine f _ ⟨ba,β,c,?_⟩;show(⟨gy (eO done (kz bl lr n row ba β c n8) t0) 115 _,mQ bl d tv lr rows8 row n8 ba β c done h0⟩:S)=⟨eO (3::done) (kz bl lr n row ba β c n8) t0,mQ bl d tv lr rows8 row n8 ba β c (3::done) h0⟩;rw[dS (k:=3) (kz bl lr n row ba β c n8) t0 Ls wb (qM 3 rfl)];rfl
  |4,hj=>
   cases hj;show eH P T _ ⟨eO done (kz bl lr n row ba β c n8) t0,mQ bl d tv lr rows8 row n8 ba β c done h0⟩ K';have t:fq done 11=false:=by
    cases u:fq done 11
    ·rfl
    ·exact absurd (q 11 _ _ rfl u 4 qD) (by rw[hf];decide)
   refine jw (v:=.sl false 3 lr) (r:=AX d tv (.sl false 3 lr)) (b:=some bl) (ty:=58) (dF (done:=done) (hq 3 qD) (kz bl lr n row ba β c n8) t0 wb (qM 3 rfl)) (by show Ba bl d tv lr n8 c done=_;unfold Ba;rw[t];rfl) qD ⟨by show(24:Nat)<31;decide,rfl⟩ ?_;refine f _ ⟨ba,β,c,?_⟩;show(⟨gy (eO done (kz bl lr n row ba β c n8) t0) 116 _,mQ bl d tv lr rows8 row n8 ba β c done h0⟩:S)=⟨eO (4::done) (kz bl lr n row ba β c n8) t0,mQ bl d tv lr rows8 row n8 ba β c (4::done) h0⟩;rw[dS (k:=4) (kz bl lr n row ba β c n8) t0 Ls wb (qM 4 rfl)];rfl
  |5,hj=>
   cases hj;show eH P T _ ⟨eO done (kz bl lr n row ba β c n8) t0,mQ bl d tv lr rows8 row n8 ba β c done h0⟩ K';have H:fq done 8=false:=by
    cases u:fq done 8
    ·rfl
    ·exact absurd (q 8 _ _ rfl u 5 qD) (by rw[hf];decide)
   refine vU (dF (done:=done) (hq 4 qD) (kz bl lr n row ba β c n8) t0 wb (qM 4 rfl)) ?_;refine m _ _ (by show A9 lr rows8 ba c done=none;unfold A9;rw[H,hf];rfl) λl n' w=>?_;have w:n=n':=(w.trans B.symm).symm;subst w;refine f _ ⟨l,β,c,?_⟩;have e1:eO done (kz bl lr n row ba β c n8) t0=eO done (kz bl lr n row l β c n8) t0:=by
    funext z
    simp only[eO,kz,hf];rfl
   have y:Hp.put (mQ bl d tv lr rows8 row n8 ba β c done h0) 1000300 (iw l lr)=mQ bl d tv lr rows8 row n8 l β c (5::done) h0:=by
    funext z
    unfold Hp.put mQ A9
    by_cases hz:z=1000300
    ·rw[ae hz,ae hz,cm (i:=5) (j:=8) qD,H,ik];rfl
    ·rw[aa hz,aa hz,aa hz];rfl
   show(⟨gy (eO done (kz bl lr n row ba β c n8) t0) 117 _,Hp.put (mQ bl d tv lr rows8 row n8 ba β c done h0) 1000300 (iw l lr)⟩:S)=_;rw[e1,y,dS (k:=5) (kz bl lr n row l β c n8) t0 Ls wb (qM 5 rfl)]
  |6,hj=>
   cases hj;show eH P T _ ⟨eO done (kz bl lr n row ba β c n8) t0,mQ bl d tv lr rows8 row n8 ba β c done h0⟩ K';refine o0 (cs:=row) (r:=row) (b:=some b3) (ty:=91) ((gX (done:=done) (kz bl lr n row ba β c n8) t0 rfl).trans g3) h3 qD ⟨by rw[mU.1];decide,by rw[fh];exact aY (by rw[mU.1];decide)⟩ ?_;refine f _ ⟨ba,β,c,?_⟩;show(⟨gy (eO done (kz bl lr n row ba β c n8) t0) 118 _,mQ bl d tv lr rows8 row n8 ba β c done h0⟩:S)=⟨eO (6::done) (kz bl lr n row ba β c n8) t0,mQ bl d tv lr rows8 row n8 ba β c (6::done) h0⟩;rw[dS (k:=6) (kz bl lr n row ba β c n8) t0 Ls wb (qM 6 rfl)];rfl
  |7,hj=>
   cases hj;show eH P T _ ⟨eO done (kz bl lr n row ba β c n8) t0,mQ bl d tv lr rows8 row n8 ba β c done h0⟩ K';have H:fq done 8=false:=by
    cases u:fq done 8
    ·rfl
    ·exact absurd (q 8 _ _ rfl u 7 qD) (by rw[hf];decide)
   refine yH (dF (done:=done) (hq 6 qD) (kz bl lr n row ba β c n8) t0 wb (qM 6 rfl)) mU.1 mU.2 (by show CV row β done=none;unfold CV;rw[hf];rfl) λg=>?_;refine f _ ⟨ba,g,c,?_⟩;have e1:eO done (kz bl lr n row ba β c n8) t0=eO done (kz bl lr n row ba g c n8) t0:=by
    funext z
    simp only[eO,kz,hf];rfl
   have y:Hp.put (mQ bl d tv lr rows8 row n8 ba β c done h0) 1000119 ⟨some g,91,3,[row]⟩=mQ bl d tv lr rows8 row n8 ba g c (7::done) h0:=by
    funext z
    unfold Hp.put mQ CV
    by_cases hz:z=1000119
    ·subst hz;rw[ae rfl,aa qD,ae rfl,ik];rfl
    ·rw[aa hz]
     by_cases hz2:z=1000300
     ·rw[ae hz2,ae hz2];rfl
     ·rw[aa hz2,aa hz2,aa hz,aa hz];rfl
   show(⟨gy (eO done (kz bl lr n row ba β c n8) t0) 119 _,Hp.put (mQ bl d tv lr rows8 row n8 ba β c done h0) 1000119 _⟩:S)=_;rw[e1,y,<-dS (k:=7) (kz bl lr n row ba g c n8) t0 Ls wb (qM 7 rfl)]
  |8,hj=>
   cases hj;show eH P T _ ⟨eO done (kz bl lr n row ba β c n8) t0,mQ bl d tv lr rows8 row n8 ba β c done h0⟩ K';have t:fq done 11=false:=by
    cases u:fq done 11
    ·rfl
    ·exact absurd (q 11 _ _ rfl u 8 qD) (by rw[hf];decide)
   have I:=hq 5 qD;have J:=hq 7 qD;refine A8 (ty:=91) (rows:=lr) (b:=ba) (ty2:=91) (b2:=some β) (news:=[row]) (dF (done:=done) (hq 5 qD) (kz bl lr n row ba β c n8) t0 wb (qM 5 rfl)) (by show A9 lr rows8 ba c done=_;unfold A9;rw[hf,I];rfl) (dF (done:=done) (hq 7 qD) (kz bl lr n row ba β c n8) t0 wb (qM 7 rfl)) (by show CV row β done=_;unfold CV;rw[J];rfl) (by subst hP;rfl) (by subst hP;exact B.symm) E λg=>?_;rw[<-C,<-D];refine f _ ⟨ba,β,g,?_⟩;have e1:eO done (kz bl lr n row ba β c n8) t0=eO done (kz bl lr n row ba β g n8) t0:=by
    funext z
    simp only[eO,kz,hf];rfl
   have y:Hp.put (mQ bl d tv lr rows8 row n8 ba β c done h0) 1000300 ⟨g,91,3,rows8⟩=mQ bl d tv lr rows8 row n8 ba β g (8::done) h0:=by
    funext z
    unfold Hp.put mQ A9 Ba
    by_cases hz:z=1000300
    ·rw[ae hz,ae hz,ik];rfl
    ·rw[aa hz,aa hz,aa hz];rw[cm (i:=8) (j:=11) qD,t];rfl
   show(⟨gy (eO done (kz bl lr n row ba β c n8) t0) 120 _,Hp.put (mQ bl d tv lr rows8 row n8 ba β c done h0) 1000300 _⟩:S)=_;rw[e1,y,<-dS (k:=8) (kz bl lr n row ba β g n8) t0 Ls wb (qM 8 rfl)]
  |9,hj=>
   cases hj;show eH P T _ ⟨eO done (kz bl lr n row ba β c n8) t0,mQ bl d tv lr rows8 row n8 ba β c done h0⟩ K';refine iR (dF (done:=done) (hq 0 qD) (kz bl lr n row ba β c n8) t0 wb (.head _)) ?_;refine f _ ⟨ba,β,c,?_⟩;show(⟨gy (eO done (kz bl lr n row ba β c n8) t0) 121 _,mQ bl d tv lr rows8 row n8 ba β c done h0⟩:S)=⟨eO (9::done) (kz bl lr n row ba β c n8) t0,mQ bl d tv lr rows8 row n8 ba β c (9::done) h0⟩;rw[dS (k:=9) (kz bl lr n row ba β c n8) t0 Ls wb (qM 9 rfl)];rfl
  |10,hj=>
   cases hj;show eH P T _ ⟨eO done (kz bl lr n row ba β c n8) t0,mQ bl d tv lr rows8 row n8 ba β c done h0⟩ K';refine jf (dF (done:=done) (hq 9 qD) (kz bl lr n row ba β c n8) t0 wb (qM 9 rfl)) ?_;refine f _ ⟨ba,β,c,?_⟩;show(⟨gy (eO done (kz bl lr n row ba β c n8) t0) 122 _,mQ bl d tv lr rows8 row n8 ba β c done h0⟩:S)=⟨eO (10::done) (kz bl lr n row ba β c n8) t0,mQ bl d tv lr rows8 row n8 ba β c (10::done) h0⟩;rw[dS (k:=10) (kz bl lr n row ba β c n8) t0 Ls wb (qM 10 rfl)];rfl
  |11,hj=>
   cases hj;show eH P T _ ⟨eO done (kz bl lr n row ba β c n8) t0,mQ bl d tv lr rows8 row n8 ba β c done h0⟩ K';refine lT (v:=.own 1000300 c 3 n8) (r:=AX d tv (.sl false 3 lr)) (b:=some bl) (ty:=58) (dF (done:=done) (hq 10 qD) (kz bl lr n row ba β c n8) t0 wb (qM 10 rfl)) (dF (done:=done) (hq 8 qD) (kz bl lr n row ba β c n8) t0 wb (qM 8 rfl)) ⟨rfl,rfl⟩ (by show Ba bl d tv lr n8 c done=_;unfold Ba;rw[hf];rfl) qD (by show(24:Nat)+1<=31;decide) ?_;refine f _ ⟨ba,β,c,?_⟩;have y:Hp.put (mQ bl d tv lr rows8 row n8 ba β c done h0) 0 ⟨some bl,58,31,[kf (AX d tv (.sl false 3 lr)) 24 (V.cells (.own 1000300 c 3 n8))]⟩=mQ bl d tv lr rows8 row n8 ba β c (11::done) h0:=by
    funext z
    unfold Hp.put mQ Ba
    by_cases hz:z=0
    ·subst hz;rw[ae rfl,aa qD,aa qD,ae rfl,ik];rfl
    ·rw[aa hz,aa hz,aa hz];rfl
   show(⟨eO done (kz bl lr n row ba β c n8) t0,Hp.put (mQ bl d tv lr rows8 row n8 ba β c done h0) 0 _⟩:S)=_;rw[y,<-mf (k:=11) (kz bl lr n row ba β c n8) t0 rfl]
  |i+12,hj=>exact absurd (aj.1 hj).1 (by show¬i+12<12;omega)
 ·obtain⟨ba,β,c,rfl⟩:=G;rw[nX _ _ (λp hp=>hd p.1 ?_)]
  ·have e:mQ bl d tv lr rows8 row n8 ba β c done h0=Gm [(0,some (fI bl d tv (.own 1000300 c 3 n8))),(1000300,some (iw c rows8)),(1000119,some ⟨some β,91,3,[row]⟩)] h0:=by
    funext k
    unfold mQ A9 CV Ba;rw[ae (hd 8 qD),ae (hd 7 qD),ae (hd 11 qD)];simp only[Gm];have nb:∀a b:Nat,a≠b->Nat.beq a b=false:=λa b h=>by
     cases hb:Nat.beq a b
     ·rfl
     ·exact absurd (bA hb) h
    by_cases k1:k=1000300
    ·subst k1;rfl
    ·by_cases k2:k=1000119
     ·subst k2;rfl
     ·by_cases A:k=0
      ·subst A;rfl
      ·rw[aa k1,aa k2,aa A,nb _ _ A,nb _ _ k1,nb _ _ k2]
   rw[e];exact hK ba β c
  ·have hm:p.1∈(kz bl lr n row ba β c n8).map (·.1):=aC.2 ⟨p,hp,rfl⟩;have gf:∀x∈([0,1,2,3,4,5,6,7,8,9,10]:List Nat),x<12:=by decide
   exact gf _ hm
 ·refine⟨none,0,none,?_⟩;rw[nW];have e:mQ bl d tv lr rows8 row n8 none 0 none [] h0=h0:=by
   funext k
   unfold mQ
   by_cases k1:k=1000300
   ·rw[ae k1,k1,hz1];rfl
   ·rw[aa k1]
    by_cases k2:k=1000119
    ·rw[ae k2,k2,hz2];rfl
    ·rw[aa k2]
     by_cases A:k=0
     ·rw[ae A,A,F];rfl
     ·rw[aa A]
  rw[e]
def ES(f:Nat):Array Oper->List AO->Bool:=λops al=>er ops al&& !(al.any λo=>match o.op with|.call g _=>Nat.beq g f|_=>false)
theorem WR(f:Nat):mi Tryz.prog (ES f):=by
 have hd:∀ops al,ES f ops al=true->er ops al=true:=λops al h=>by
  unfold ES at h;rw[aW] at h;exact h.1
 exact⟨iD.1,λC n id ops al s a w K Q h1 h2 h3=>iD.2.1 C n id ops al s a w K Q h1 h2 (hd _ _ h3),λC n id ops al s a w K Q h1 h2 h3=>iD.2.2 C n id ops al s a w K Q h1 h2 (hd _ _ h3)⟩
def Lt:AC:=qr [qo 2 (.mov (.c (.slice none 0 0)))] (qq (qr [qm 3 0,qo 4 (.eqn false (.t 3))] (qu 4 (qr [qo 2 (.mov (.c (.slice none 0 0)))] .ret) .skip)) (qr [qo 5 (.bslice 9 1 []),qm 6 0,qo 7 (.append 9 1 16 (.t 5) (.t 6)),qm 2 7] .ret))
theorem SB:fF Tryz.prog 85 Tryz.f85 Lt [.t 2] 1 er:=⟨Tryz.func85,by decide+kernel,by kernel_rfl,by kernel_rfl,by decide+kernel⟩
def Bm(ba:Option Nat)(rows:List (List V)):Ob:=⟨ba,9,1,rows⟩
theorem SD(P:Prim)(hP:P=dn)(T c:c8)(rows:List (List V))(hl:rows.length<=1000000)(R:S->Prop)
  (b:∀s s' ba n a,n=rows.length->a=rows->c6 s s'->iH [.t 2] [.own 1000005 ba 1 n] s'->fG [(1000005,Bm ba a)] s'->R s):gj P T c Lt (S0 [.sl true 1 rows] Hp.emp) R (λ_ _=>False) R:=by
 have f1:P.bytes (P.add (P.int 0) (P.dv rows)) 16:=by subst hP;show(((0:Nat):Int)+(rows.length:Int))*16<=_;omega
 have f2:P.nL [] 0:=by subst hP;rfl
 have f3:P.hU 0 (P.fQ rows)=rows.length:=by subst hP;exact bf _
 have f4:P.kB [] rows=rows:=by subst hP;rfl
 cbv;refine⟨?_,λh0=>?_⟩
 ·cbv
  repeat' first|(refine qA ?_;cbv)|(intro d;cbv)
  exact b _ _ _ _ _ f3 f4 (c6.refl _) rfl ⟨rfl,trivial⟩
 ·have e:rows=[]:=ay (by rw[gE hP] at h0;omega);subst e;cbv;exact b _ _ none 0 [] rfl rfl (c6.nil (i:=2) (k:=1000005) (ty:=9) (sz:=1) rfl rfl) rfl ⟨rfl,trivial⟩
theorem SE(l:List BS)(hl:l.length<=1000000):Spec Tryz.prog 85 [.sl true 1 (c7 l)] (cp []) λx h'=>∃a,(∃ba,x=.own 1000005 ba 1 l.length/\a=[(1000005,Bm ba (c7 l))])/\h'=cp a:=
 fu iD SB (L:=[]) (λx a=>∃ba,x=.own 1000005 ba 1 l.length/\a=[(1000005,Bm ba (c7 l))]) λR d=>
  SD dn rfl _ _ (c7 l) (by rw[c7,aF];exact hl) R λs s' ba n b hn ds he hr ha=>by
   subst ds;have c:n=l.length:=by rw[hn,c7,aF]
   subst c;exact d s s' _ _ he (eM _ _ _ (λx hx=>by rw[hx];rfl) hr) ha (.own _ _ _ _) (λp hp=>by rw[aq.1 hp];exact gY _) ⟨ba,rfl,rfl⟩
def UI(T:c8):Prop:=∀(k:Nat)(rows:List (List V))(l:List BS)(h:Hp)(K:V->Hp->Prop),rows=c7 l->l.length<=1000000->h k=none->(∀ba n,n=l.length->K (.own k ba 1 n) (Hp.put h k (Bm ba rows)))->T 85 [.sl false 1 rows] h K
theorem WS:UI (fm Tryz.prog):=by
 rintro k rows l h K rfl hl hk hK;refine mA (SE l hl) (m:=[(1000005,k)]) (.cons (.mY _ _) .nil) (λj o hj=>by cases hj) (λq hq=>?_) ?_
 ·simp only[aq] at hq;subst hq;exact⟨by simp[gD],by simp[gW],λo ho=>by cases ho⟩
 ·rintro v b ⟨ba,rfl,rfl⟩;have a:∀g,(Bm ba (c7 l)).gM g=Bm ba (c7 l):=λg=>by
   show Ob.mk ba _ 1 ((c7 l).map (·.map (V.rl g)))=_;have:(c7 l).map (·.map (V.rl g))=c7 l:=by simp[c7,V.rl]
   rw[this];rfl
  have e:h.gy [(1000005,k)] (cp [(1000005,Bm ba (c7 l))])=Hp.put h k (Bm ba (c7 l)):=by
   funext i
   by_cases h1:i=k
   ·subst h1;have hb:gW [(1000005,i)] i=1000005:=by simp[gW]
    simp only[Hp.gy,Hp.put,bK,bP,bN,decide_true,↓reduceIte,hb];show(some (Bm ba (c7 l))).map (Ob.gM (gD [(1000005,i)]))=_;rw[aE,a]
   ·have h2:¬k=i:=λe=>h1 e.symm;simp[Hp.gy,Hp.put,h1,h2]
  rw[e];have:(V.own 1000005 ba 1 l.length).gM (gD [(1000005,k)])=.own k ba 1 l.length:=by
   show V.own (gD [(1000005,k)] 1000005) ba 1 l.length=_;simp[gD]
  rw[this];exact hK ba _ rfl
def mz(d:iq)(i:Int)(t:BS):iq:=if i=0 then {d with x1:=d.x1++t} else {d with x3:=d.x3++t}
def iT(d:iq)(t:BS):iq:=if d.mv=true/\d.wh=true then mz (mz d d.dE t) (1-d.dE) t else mz d d.dE t
def qK:AC:=qr [qo 3 (.box 91 3 (.t 1)),qz 4 0,qz 5 0] (qq (.region true [qm 12 0,qn 13 12,qf 14 6 13,ql 15 14,qm 16 0,qn 17 16,qf 18 24 17,ql 19 18,qm 20 0,qm 21 0,qa 22 35 [.t 21],qa 23 38 [.t 20,.t 22],qo 24 (.build xJ [(1,1,(.t 15)),(35,1,(.t 19)),(19,16,(.t 23))]),qo 6 (.alloc 72 xJ),qs 38 6 24]) (qq (.region true [qm 25 0,qn 26 25,qf 27 23 26,ql 28 27,qm 29 0,qn 30 29,qf 31 24 30,ql 32 31,qo 33 (.len false (.t 32)),qo 34 (.iaddr 1 (.t 28) (.t 33)),ql 35 34,qm 7 35]) (qq (qr [qd 36 38 6,qm 37 7,qo 38 (.len true (.t 37)),qd 39 3 3,qa 40 81 [.t 36,.t 38,.t 39],qm 8 40] (qr [qm 41 8,qc 42 .neq 41 0] (qu 42 (qr [qm 43 8,qz 4 0,qm 5 43] .ret) .skip))) (qr [qd 45 3 3,qa 46 82 [.t 45],qm 44 46,qx 47 0 44,qx 48 1 44,qm 9 47,qm 10 48] (qq (.region true [qm 49 0,qm 50 0,qn 51 50,qf 52 4 51,ql 53 52,qn 54 49,qf 55 0 54,qf 56 0 55,qo 57 (.iarr 2 2 (.t 56) (.t 53)),qf 58 0 57,ql 59 58,qm 60 9,qb 61 .add 59 60,qn 62 49,qf 63 0 62,qf 64 0 63,qo 65 (.iarr 2 2 (.t 64) (.t 53)),qf 66 0 65,qs 1 66 61]) (qq (qr [qm 67 0,qn 68 67,qf 69 26 68,ql 70 69,qm 71 70,qg 72 71 true (.mov (.t 0)),qg 73 71 true (.nilchk (.t 72)),qg 74 71 true (.faddr 29 (.t 73)),qg 75 71 true (.load1 (.t 74)),qo 76 (.pick (.t 71) (.t 75) (.c (.bool false)))] (qu 76 (.region true [qm 77 0,qm 78 0,qn 79 78,qf 80 4 79,ql 81 80,qo 82 (.bin .sub (qk 1) (.t 81)),qn 83 77,qf 84 0 83,qf 85 0 84,qo 86 (.iarr 2 2 (.t 85) (.t 82)),qf 87 0 86,ql 88 87,qm 89 9,qb 90 .add 88 89,qn 91 77,qf 92 0 91,qf 93 0 92,qo 94 (.iarr 2 2 (.t 93) (.t 82)),qf 95 0 94,qs 1 95 90]) .skip)) (qr [qf 96 2 3,ql 97 96,qa 98 83 [.t 97],qm 99 7,qa 100 84 [.t 98,.t 99],qm 11 100] (qr [qm 101 0,qm 102 0,qn 103 102,qf 104 23 103,ql 105 104,qa 106 85 [.t 105],qm 107 11,qo 108 (.bslice 9 1 [.t 107]),qo 109 (.append 9 1 16 (.t 106) (.t 108)),qn 110 101,qf 111 23 110,qs 1 111 109] (qq (.jN [(qm 112 0,[]),(qm 113 0,[]),(qn 114 113,[1]),(qf 115 24 114,[2]),(ql 116 115,[3]),(qa 117 86 [.t 116],[4]),(qd 118 3 3,[]),(qo 119 (.bslice 91 3 [.t 118]),[6]),(qo 120 (.append 91 3 40 (.t 117) (.t 119)),[5,7,5]),(qn 121 112,[0,0,1,2,3,4,5,6,7,8]),(qf 122 24 121,[9,0,1,2,3,4,5,6,7,8]),(qs 1 122 120,[10,8,8,0,1,2,3,4,5,6,7,8])]) (qr [qm 123 0,qa 124 35 [.t 123],qm 4 124,qz 5 0] .ret))))))))))
theorem OW:fF Tryz.prog 44 Tryz.f44 qK [.t 4,.t 5] 2 (ES 86):=⟨Tryz.func44,by decide+kernel,by kernel_rfl,by kernel_rfl,by decide+kernel⟩
def Yh(bl:Nat)(d:iq)(a lr:List (List V))(row:List V)(s:S):Prop:=∃b3 b:Nat,∃bt:Option Nat,b=a.length/\PI [(0,.ptr 0 (some bl) 31 0 0),(3,.ptr 3 (some b3) 3 0 0)] s/\PJ [(0,some (fI bl d (.own 1000106 bt 1 b) (.sl false 3 lr))),(1000106,some (Bm bt a)),(3,some ⟨some b3,91,3,[row]⟩),(1000300,none),(1000119,none)] s
theorem Lu(P:Prim)(hP:P=dn)(T K:c8)(B:my K)(x:vS K)(j:UI T)(bl:Nat)(d:iq)(tx:List BS)(tr:List (List V))(ld:tr=c7 tx)(l:List eP)(lr:List (List V))(jW:lr=l.map ca)(W:tx.length=l.length+1)(hb:0<=d.b/\d.b<=2147483647)(hn:l.length<=500)(C:∀r∈l,0<=r.who/\r.who<=7)(hat:d.dE=0\/d.dE=1)(hx:d.x1.length<=1048576/\d.x3.length<=1048576)
  (w q:Int)(dr:List (List V))(J:BS)(L:tx[l.length]? =some J)(e1:Int)
  (y:∀tb,tb=gg d.fs d.b l->gK T 81 [.agg [qI 0,qI d.b,.str [],qI 0,qI 0,qI 0,qI 0,qI 0,qI 0,qI 0,qI 0,qI 0,qI 0,qI 0,qI 0,qI 0,qI 0,qI 0,qI 0,qI (tb 0),qI (tb 1),qI (tb 2),qI (tb 3),qI (tb 4),qI (tb 5),qI (tb 6),qI (tb 7),qI (tb 8),qI (tb 9),qI (tb 10),qI (tb 11),qI (tb 12),qI (tb 13),qI (tb 14),qI (tb 15),.sl false 3 lr,.bool false,qI 0],qI (P.c9 J),.agg [qI w,qI q,.sl false 3 dr]] (qI e1))
  (t:BS)(X:Int)(M:t.length<=1000000)(D:gK T 82 [.agg [qI w,qI q,.sl false 3 dr]] (.tup [.str t,qI X]))(pr kr:List (List V))(u:BS)
  (k:e1=0->gK T 83 [.sl false 3 dr] (.agg [.sl false 1 pr,.sl false 1 kr]))(m:e1=0->gK T 84 [.agg [.sl false 1 pr,.sl false 1 kr],.str J] (.str u))
  (N R:S->Prop)(Y:∀(s s':S),e1≠0->c6 s s'->iH [.t 4,.t 5] [qI 0,qI e1] s'->fG [(0,fI bl d (.sl false 1 tr) (.sl false 3 lr))] s'->R s)
  (hN:e1=0->∀s,Yh bl (iT d t) (tr++[[.str u]]) lr [qI w,qI q,.sl false 3 dr] s->N s):gj P T K (pV 9 qK .skip) (S0 [.ptr 0 (some bl) 31 0 0,.agg [qI w,qI q,.sl false 3 dr]] (cp [(0,fI bl d (.sl false 1 tr) (.sl false 3 lr))])) N (λ_ _=>False) R:=by
 have E:0<=d.b/\d.b<=4294967295:=⟨hb.1,bZ hb.2 qD⟩;have F:lr.length=l.length:=by rw[jW,aF]
 have G:tr.length=tx.length:=by rw[ld,c7,aF]
 have ht:∀r∈tr,∀v∈r,Fz v:=by rw[ld];exact gY _
 have O:∀r∈lr,∀v∈r,Fz v:=by rw[jW];exact fL _
 have Z:P.nat 0=0:=by subst hP;rfl
 have n1:P.nat 1=1:=by subst hP;rfl
 have p:P.dv lr=(l.length:Int):=by rw[gE hP,F]
 have H:P.row tr (P.nat (P.dv lr)) [.str J]:=ga hP p (by rw[ld,c7,av,L];rfl);have k0:P.fC 0 (P.dv lr):=by rw[p];exact iu hP (aO _)
 have k1:P.i64 (P.sub 1 d.dE):=by rw[sub_eq hP];exact eR hP qW
 have k2:P.fC 0 (P.sub 1 d.dE):=by rw[sub_eq hP];exact iu hP qW
 have k3:P.iO (P.sub 1 d.dE) 2:=by rw[sub_eq hP];exact kN hP qW
 have k4:P.fC 0 d.dE:=iu hP qW;have k5:P.iO d.dE 2:=kN hP qW;have i1:P.i64 (P.add (P.c9 d.x1) (P.c9 t)):=by rw[add_eq hP,da hP,da hP];exact eR hP qW
 have i3:P.i64 (P.add (P.c9 d.x3) (P.c9 t)):=by rw[add_eq hP,da hP,da hP];exact eR hP qW
 have s1:P.h9 d.x1 t=d.x1++t:=by subst hP;rfl
 have A:P.h9 d.x3 t=d.x3++t:=by subst hP;rfl
 have f4:∀n,n=tx.length->P.nL tr n:=λn h=>lx hP _ _ (by rw[G,h]);have f5:∀n r,n=tx.length->P.bytes (P.add (P.int n) (P.dv [r])) 16:=by intro n r h;subst hP;show((n:Int)+1)*16<=_;omega
 have f6:∀r,P.nL [r] 1:=by intro r;subst hP;rfl
 have f7:∀r,P.kB tr [r]=tr++[r]:=by intro r;subst hP;rfl
 have f8:∀n,∀r:List V,n=tx.length->P.hU n (P.fQ [r])=(tr++[[V.str u]]).length:=by intro n r h;subst hP;rw[ag,G,h];rfl
 cbv
 repeat' first|(refine qA ?_;cbv)|(intro c;cbv)
 refine B 0 bl d tr lr _ _ ht O E qO rfl λq1 Q=>?_;have z:q1=d.b+(l.length:Int):=by rw[Q,F]
 cbv
 repeat' first|(refine qA ?_;cbv)|(intro c;cbv)
 refine x 0 bl d tr l lr q1 _ _ ht jW E qO C ⟨by rw[z];((try simp only[nc] at*);omega),by rw[z];exact aN _⟩ rfl λtb kH=>?_;have kH:tb=gg d.fs d.b l:=by
  have e:(q1-d.b).toNat=l.length:=by rw[z];((try simp only[nc] at*);omega)
  rw[kH,e,aM]
 have U:=y tb kH;cbv
 repeat' first|(refine qA ?_;cbv)|(intro c;cbv)
 refine⟨_,H,?_⟩;cbv
 repeat' first|(refine qA ?_;cbv)|(intro c;cbv)|(refine U _ _ ?_;cbv)|fail
 refine ab (λg=>?_) (λg=>?_)
 ·have g1:e1≠0:=hH hP g;cbv
  repeat' first|(refine qA ?_;cbv)|(intro c;cbv)
  exact Y _ _ g1 (c6.refl _) rfl ⟨rfl,trivial⟩
 have g1:e1=0:=gZ hP g;clear g;have k:=k g1;have m:=m g1;have hN:=hN g1;cbv
 repeat' first|(refine qA ?_;cbv)|(intro c;cbv)|(refine D _ _ ?_;cbv)|fail
 rcases hat with hat|hat
 ·have hat:d.dE=0:=hat;have I:P.nat d.dE=0:=by rw[hat];subst hP;rfl
  have nb:P.nat (P.sub 1 d.dE)=1:=by rw[sub_eq hP,hat];subst hP;rfl
  refine⟨0,I,?_⟩;cbv
  repeat' first|(refine qA ?_;cbv)|(refine⟨0,I,?_⟩;cbv)|(intro c;cbv)
  refine ab (λg=>?_) (λg=>?_)
  ·have g2:d.mv=true:=g;clear g;cbv
   repeat' first|(refine qA ?_;cbv)|(intro c;cbv)
   refine ab (λg=>?_) (λg=>?_)
   ·have g3:d.wh=true:=g;clear g;cbv
    repeat' first|(refine qA ?_;cbv)|(intro c;cbv)
    refine⟨1,nb,?_⟩;cbv
    repeat' first|(refine qA ?_;cbv)|(refine⟨1,nb,?_⟩;cbv)|(intro c;cbv)
    have f:iT d t=(⟨(P.h9 d.x1 t),d.x2,(P.h9 d.x3 t),d.x4,d.dE,d.gn,d.b,d.fs,d.sf,d.mv,d.to,d.pt,d.wh,d.gH⟩:iq):=by unfold iT mz;rw[ae ⟨g2,g3⟩,hat];simp[s1,A]
    cbv
    repeat' first|(refine qA ?_;cbv)|(intro c;cbv)|(refine k _ _ ?_;cbv)|(refine m _ _ ?_;cbv)|fail
    refine j 1000106 tr tx _ _ ld qO rfl λbt o a=>?_;cbv
    repeat' first|(refine And.intro (by first|assumption|decide|exact f6 _|exact f5 _ _ a|exact f4 _ a) ?_;cbv)|(intro i;cbv)
    refine hN _ ⟨_,_,i,(f8 o [V.str u] a),⟨rfl,rfl,trivial⟩,⟨?_,?_,rfl,rfl,rfl,trivial⟩⟩
    ·rw[f];rfl
    ·exact aB (λr=>some (Bm _ r)) (f7 _)
   have g3:d.wh=false:=g;clear g;have f:iT d t=(⟨(P.h9 d.x1 t),d.x2,d.x3,d.x4,d.dE,d.gn,d.b,d.fs,d.sf,d.mv,d.to,d.pt,d.wh,d.gH⟩:iq):=by unfold iT mz;rw[aa (by rw[g3];simp),hat];simp[s1,A]
   cbv
   repeat' first|(refine qA ?_;cbv)|(intro c;cbv)|(refine k _ _ ?_;cbv)|(refine m _ _ ?_;cbv)|fail
   refine j 1000106 tr tx _ _ ld qO rfl λbt o a=>?_;cbv
   repeat' first|(refine And.intro (by first|assumption|decide|exact f6 _|exact f5 _ _ a|exact f4 _ a) ?_;cbv)|(intro i;cbv)
   refine hN _ ⟨_,_,i,(f8 o [V.str u] a),⟨rfl,rfl,trivial⟩,⟨?_,?_,rfl,rfl,rfl,trivial⟩⟩
   ·rw[f];rfl
   ·exact aB (λr=>some (Bm _ r)) (f7 _)
  have g2:d.mv=false:=g;clear g;have f:iT d t=(⟨(P.h9 d.x1 t),d.x2,d.x3,d.x4,d.dE,d.gn,d.b,d.fs,d.sf,d.mv,d.to,d.pt,d.wh,d.gH⟩:iq):=by unfold iT mz;rw[aa (by rw[g2];simp),hat];simp[s1,A]
  cbv
  repeat' first|(refine qA ?_;cbv)|(intro c;cbv)|(refine k _ _ ?_;cbv)|(refine m _ _ ?_;cbv)|fail
  refine j 1000106 tr tx _ _ ld qO rfl λbt o a=>?_;cbv
  repeat' first|(refine And.intro (by first|assumption|decide|exact f6 _|exact f5 _ _ a|exact f4 _ a) ?_;cbv)|(intro i;cbv)
  refine hN _ ⟨_,_,i,(f8 o [V.str u] a),⟨rfl,rfl,trivial⟩,⟨?_,?_,rfl,rfl,rfl,trivial⟩⟩
  ·rw[f];rfl
  ·exact aB (λr=>some (Bm _ r)) (f7 _)
 ·have hat:d.dE=1:=hat;have I:P.nat d.dE=1:=by rw[hat];subst hP;rfl
  have nb:P.nat (P.sub 1 d.dE)=0:=by rw[sub_eq hP,hat];subst hP;rfl
  refine⟨1,I,?_⟩;cbv
  repeat' first|(refine qA ?_;cbv)|(refine⟨1,I,?_⟩;cbv)|(intro c;cbv)
  refine ab (λg=>?_) (λg=>?_)
  ·have g2:d.mv=true:=g;clear g;cbv
   repeat' first|(refine qA ?_;cbv)|(intro c;cbv)
   refine ab (λg=>?_) (λg=>?_)
   ·have g3:d.wh=true:=g;clear g;cbv
    repeat' first|(refine qA ?_;cbv)|(intro c;cbv)
    refine⟨0,nb,?_⟩;cbv
    repeat' first|(refine qA ?_;cbv)|(refine⟨0,nb,?_⟩;cbv)|(intro c;cbv)
    have f:iT d t=(⟨(P.h9 d.x1 t),d.x2,(P.h9 d.x3 t),d.x4,d.dE,d.gn,d.b,d.fs,d.sf,d.mv,d.to,d.pt,d.wh,d.gH⟩:iq):=by unfold iT mz;rw[ae ⟨g2,g3⟩,hat];simp[s1,A]
    cbv
    repeat' first|(refine qA ?_;cbv)|(intro c;cbv)|(refine k _ _ ?_;cbv)|(refine m _ _ ?_;cbv)|fail
    refine j 1000106 tr tx _ _ ld qO rfl λbt o a=>?_;cbv
    repeat' first|(refine And.intro (by first|assumption|decide|exact f6 _|exact f5 _ _ a|exact f4 _ a) ?_;cbv)|(intro i;cbv)
    refine hN _ ⟨_,_,i,(f8 o [V.str u] a),⟨rfl,rfl,trivial⟩,⟨?_,?_,rfl,rfl,rfl,trivial⟩⟩
    ·rw[f];rfl
    ·exact aB (λr=>some (Bm _ r)) (f7 _)
   have g3:d.wh=false:=g;clear g;have f:iT d t=(⟨d.x1,d.x2,(P.h9 d.x3 t),d.x4,d.dE,d.gn,d.b,d.fs,d.sf,d.mv,d.to,d.pt,d.wh,d.gH⟩:iq):=by unfold iT mz;rw[aa (by rw[g3];simp),hat];simp[s1,A]
   cbv
   repeat' first|(refine qA ?_;cbv)|(intro c;cbv)|(refine k _ _ ?_;cbv)|(refine m _ _ ?_;cbv)|fail
   refine j 1000106 tr tx _ _ ld qO rfl λbt o a=>?_;cbv
   repeat' first|(refine And.intro (by first|assumption|decide|exact f6 _|exact f5 _ _ a|exact f4 _ a) ?_;cbv)|(intro i;cbv)
   refine hN _ ⟨_,_,i,(f8 o [V.str u] a),⟨rfl,rfl,trivial⟩,⟨?_,?_,rfl,rfl,rfl,trivial⟩⟩
   ·rw[f];rfl
   ·exact aB (λr=>some (Bm _ r)) (f7 _)
  have g2:d.mv=false:=g;clear g;have f:iT d t=(⟨d.x1,d.x2,(P.h9 d.x3 t),d.x4,d.dE,d.gn,d.b,d.fs,d.sf,d.mv,d.to,d.pt,d.wh,d.gH⟩:iq):=by unfold iT mz;rw[aa (by rw[g2];simp),hat];simp[s1,A]
  cbv
  repeat' first|(refine qA ?_;cbv)|(intro c;cbv)|(refine k _ _ ?_;cbv)|(refine m _ _ ?_;cbv)|fail
  refine j 1000106 tr tx _ _ ld qO rfl λbt o a=>?_;cbv
  repeat' first|(refine And.intro (by first|assumption|decide|exact f6 _|exact f5 _ _ a|exact f4 _ a) ?_;cbv)|(intro i;cbv)
  refine hN _ ⟨_,_,i,(f8 o [V.str u] a),⟨rfl,rfl,trivial⟩,⟨?_,?_,rfl,rfl,rfl,trivial⟩⟩
  ·rw[f];rfl
  ·exact aB (λr=>some (Bm _ r)) (f7 _)
theorem Lv(P:Prim)(hP:P=dn)(T y:c8)(g:∀f vs h h' K,jU h h'->T f vs h' K->T f vs h K)(z:my T)(e:Lr T)(bl:Nat)(d:iq)(a:List (List V))(I:∀r∈a,∀v∈r,Fz v)(l:List eP)(lr:List (List V))(jW:lr=l.map ca)(hb:0<=d.b/\d.b<=2147483647)(hn:l.length<=500)(w q:Int)(dr:List (List V))(A:∀x∈dr,∀v∈x,Fz v)
  (R:S->Prop)(J:∀(s s':S)(v:Int)(rows8:List (List V)),v=d.b+((l.length+1:Nat):Int)->rows8=lr++[[qI w,qI q,.sl false 3 dr]]->c6 s s'->iH [.t 4,.t 5] [qI v,qI 0] s'->fG [(0,fI bl d (.sl false 1 a) (.sl false 3 rows8))] s'->R s)
  (s:S)(hs:Yh bl d a lr [qI w,qI q,.sl false 3 dr] s):gj P T y (kJ 9 qK) s R (λ_ _=>False) R:=by
 obtain⟨b3,L,bt,B,hs1,hs2⟩:=hs;refine lC (Q:=λs=>gj P T y (kJ 9 qK) s R (λ_ _=>False) R) _ _ hs1 hs2 (λt h=>?_);show lL P T PT 12 [] _ (λs=>gj P T y (kJ 10 qK) s R (λ_ _=>False) R);have i:lr.length=l.length:=by rw[jW,aF]
 have C:∀r∈lr,∀v∈r,Fz v:=by rw[jW];exact fL _
 have j:P.kB lr [[qI w,qI q,.sl false 3 dr]]=lr++[[qI w,qI q,.sl false 3 dr]]:=by subst hP;rfl
 obtain⟨m,o⟩:∃n,n=lr.length:=⟨_,rfl⟩;have n8:P.hU m (P.fQ [[qI w,qI q,.sl false 3 dr]])=lr.length+1:=by rw[o];subst hP;rfl
 have p:∀r∈P.kB lr [[qI w,qI q,.sl false 3 dr]],∀v∈r,Fz v:=by
  rw[j];intro r hr v hv
  rcases bn.1 hr with h|h
  ·exact C r h v hv
  ·rw[aq.1 h] at hv;simp only[aw,aD,bw] at hv
   rcases hv with rfl|rfl|rfl
   ·exact .int _ _
   ·exact .int _ _
   ·exact .sl _ _ A
 have D:(P.kB lr [[qI w,qI q,.sl false 3 dr]]).length=P.hU m (P.fQ [[qI w,qI q,.sl false 3 dr]]):=by rw[j,n8,ag];rfl
 have E:0<=d.b/\d.b<=4294967295:=⟨hb.1,bZ hb.2 qD⟩;have F:(P.kB lr [[qI w,qI q,.sl false 3 dr]]).length<=1000:=by rw[j,ag,i];show l.length+1<=_;omega
 have u:((P.kB lr [[qI w,qI q,.sl false 3 dr]]).length:Int)=((l.length+1:Nat):Int):=by rw[j,ag,i];rfl
 refine SA hP (bl:=bl) (b3:=b3) (n:=m) (n8:=P.hU m (P.fQ [[qI w,qI q,.sl false 3 dr]])) (d:=d) (tv:=.own 1000106 bt 1 L) (lr:=lr) (rows8:=P.kB lr [[qI w,qI q,.sl false 3 dr]]) (row:=[qI w,qI q,.sl false 3 dr]) ⟨rfl,rfl⟩ o rfl rfl (by subst hP;show((m:Int)+1)*40<=_;omega) rfl rfl rfl rfl rfl rfl (λh K hk hK=>e 1000300 lr l h K jW qW hk (λba n hn=>hK ba n (by rw[hn,i]))) λba β M=>?_;cbv
 repeat' first|(refine qA ?_;cbv)|(intro G;cbv)
 refine g _ _ _ _ _ (jU.FA (k:=1000106) (q:=0) (c:=23) rfl rfl rfl rfl rfl rfl B.symm I) ?_;refine g _ _ _ _ _ (jU.FA (k:=1000300) (q:=0) (c:=24) rfl rfl rfl rfl rfl rfl D p) ?_;refine z 0 bl d a (P.kB lr [[qI w,qI q,.sl false 3 dr]]) _ _ I p E F rfl λv hv=>?_;have H:v=d.b+((l.length+1:Nat):Int):=hv.trans (aB (d.b+ ·) u);cbv
 repeat' first|(refine qA ?_;cbv)|(intro G;cbv)
 exact J _ _ v _ H j (c6.refl _) rfl ⟨rfl,trivial⟩
structure GM where
 d:iq
 tx:List BS
 l:List eP
 v:Int
 e:Int
def oL(d:iq)(tx:List BS)(l:List eP)(r:eP):GM:=
 if gw d.b (gg d.fs d.b l) l.length (tx.getD l.length []).length r≠0 then⟨d,tx,l,0,gw d.b (gg d.fs d.b l) l.length (tx.getD l.length []).length r⟩
 else⟨iT d (gQ r).1,tx++[(kl r.delta (tx.getD l.length [])).1],l++[r],d.b+((l.length+1:Nat):Int),0⟩
theorem OX(d:iq)(t:BS):(iT d t).b=d.b:=by
 have h:∀d i,(mz d i t).b=d.b:=λd i=>by unfold mz;split<;>rfl
 unfold iT
 split
 ·rw[h,h]
 ·rw[h]
theorem OY(bl:Nat)(d:iq)(tx:List BS)(l:List eP)(a:tX d tx l)(r:eP)(hr:fH r.delta):Spec Tryz.prog 44 [.ptr 0 (some bl) 31 0 0,.agg (ca r)] (cp (kZ bl d tx l)) λx h'=>∃q,(∃d' f l',(∃v e,x=.tup [qI v,qI e]/\⟨d',f,l',v,e⟩=oL d tx l r)/\q=kZ bl d' f l')/\h'=cp q:=by
 refine fu (WR _) OW (L:=kZ bl d tx l) (λx q=>∃d' f l',(∃v e,x=.tup [qI v,qI e]/\⟨d',f,l',v,e⟩=oL d tx l r)/\q=kZ bl d' f l') λR y=>?_;have A:=a.n;have t:=a.EP;obtain⟨c,m⟩:∃c,tx[l.length]? =some c:=⟨_,af qW⟩;have o:tx.getD l.length []=c:=by rw[ar,m];rfl
 obtain⟨e1,i⟩:∃e,gw d.b (gg d.fs d.b l) l.length c.length r=e:=⟨_,rfl⟩;have hlen:=sm r;have p:e1=0->gK (fm Tryz.prog) 83 [.sl false 3 (r.delta.map bd)] (.agg [.sl false 1 (c7 (fK (fb r.delta))),.sl false 1 (gP (fy (fb r.delta)))])/\gK (fm Tryz.prog) 84 [.agg [.sl false 1 (c7 (fK (fb r.delta))),.sl false 1 (gP (fy (fb r.delta)))],.str c] (.str (kl r.delta c).1):=by
  intro h;rw[h] at i;have hz:=(lz i).2.1;obtain⟨z,pd⟩:=r6 hz;obtain⟨h1,h2,h3,h4,_,_⟩:=fP z;have e1:=l9 r.delta h2;have B:(kl r.delta c).1=o9 (fb r.delta) c:=by unfold kl;rw[ae hz]
  rw[B];exact⟨oW (sY r.delta h1 (zG h2)) rfl,ia (Ix (fb r.delta) (zH z) c qW) (λh=>.cons (B4 h _ _) (.cons (.same _) .nil)) rfl⟩
 have u:e1≠0->oL d tx l r=⟨d,tx,l,0,e1⟩:=λh=>by unfold oL;rw[o,i,ae h]
 have w:e1=0->oL d tx l r=⟨iT d (gQ r).1,tx++[(kl r.delta c).1],l++[r],d.b+((l.length+1:Nat):Int),0⟩:=λh=>by unfold oL;rw[o,i,aa (λg=>g h)]
 refine nE 9 qK _ ?_;refine Lu dn rfl _ _ CP PM WS bl d tx (c7 tx) rfl l (l.map ca) rfl t a.b qW a.who a.dE a.x r.who r.seq (r.delta.map bd) c m e1
  (λtb kH=>by
   rw[kH,<-i];exact ia (IL 0 d.b [] (λ_=>0) (gg d.fs d.b l) l false 0 c.length r a.b hr) (λ_=>.cons (.same _) (.cons (.same _) (.cons (.same _) .nil))) rfl)
  (gQ r).1 (gQ r).2 qW (ia (J9 r hr) (λ_=>.cons (.same _) .nil) rfl) _ _ _ (λh=>(p h).1) (λh=>(p h).2) _ R (λs s' h he k ha=>?_) (λh s hs=>?_)
 ·exact y s s' (.tup [qI 0,qI e1]) (kZ bl d tx l) he (eM _ _ _ (λx hx=>by rw[hx];rfl) k) ha (.tup _ (by simp;exact⟨.int _ _,.int _ _⟩)) o5 ⟨d,tx,l,⟨0,e1,rfl,(u h).symm⟩,rfl⟩
 ·have rB:=OX d (gQ r).1;have j:c7 tx++[[.str (kl r.delta c).1]]=c7 (tx++[(kl r.delta c).1]):=by simp[c7]
  refine Lv dn rfl _ _ qB pX Sz bl (iT d (gQ r).1) (c7 tx++[[.str (kl r.delta c).1]]) (by rw[j];exact gY _) l (l.map ca) rfl (by rw[rB];exact a.b) qW r.who r.seq (r.delta.map bd) (gI _) R (λs s' v rows8 hv h8 he k ha=>?_) s hs;have C:rows8=(l++[r]).map ca:=by rw[h8,dq];rfl
  rw[rB] at hv;rw[j,C] at ha;exact y s s' (.tup [qI v,qI 0]) (kZ bl (iT d (gQ r).1) (tx++[(kl r.delta c).1]) (l++[r])) he (eM _ _ _ (λx hx=>by rw[hx];rfl) k) ha (.tup _ (by simp;exact⟨.int _ _,.int _ _⟩)) o5 ⟨_,_,_,⟨v,0,rfl,by rw[w h,hv]⟩,rfl⟩
def Lw(T:c8):Prop:=∀(k bl:Nat)(d:iq)(tx:List BS)(l:List eP)(tr lr:List (List V))(r:eP)(w q:Int)(dr:List (List V))(h:Hp)(K:V->Hp->Prop),tr=c7 tx->lr=l.map ca->tX d tx l->(w=r.who/\q=r.seq/\dr=r.delta.map bd)->fH r.delta->h k=some (fI bl d (.sl false 1 tr) (.sl false 3 lr))->
 (∀d' a l' v e b c,⟨d',a,l',v,e⟩=oL d tx l r->b=c7 a->c=l'.map ca->K (.tup [qI v,qI e]) (h.fK [(k,fI bl d' (.sl false 1 b) (.sl false 3 c))]))->T 44 [.ptr k (some bl) 31 0 0,.agg [qI w,qI q,.sl false 3 dr]] h K
theorem PU:Lw (fm Tryz.prog):=by
 rintro k bl d tx l tr lr r w q dr h K rfl rfl b ⟨rfl,rfl,rfl⟩ hr hk hK;refine Lb (post:=λx d' a l'=>∃v e,x=.tup [.int .i64 v,.int .i64 e]/\⟨d',a,l',v,e⟩=oL d tx l r) (OY bl d tx l b r hr) (λ_ _=>.cons (.same _) .nil) (λx d' a l' g hp=>by obtain⟨v,e,rfl,_⟩:=hp;rfl) hk ?_;rintro x d' a l' ⟨v,e,rfl,hp⟩;exact hK d' a l' v e _ _ hp rfl rfl
structure N4(k ka km kn:Nat):Prop where
 a:Nat.beq k ka=false
 b:Nat.beq k kn=false
 c:Nat.beq ka kn=false
 d:Nat.beq km 0=false
 e:Nat.beq km 1000001=false
 f:Nat.beq km 1000041=false
 g:Nat.beq km k=false
 h:Nat.beq km ka=false
 i:Nat.beq km kn=false
theorem Lx{a b:Nat}(h:Nat.beq a b=false):a≠b:=by intro e;subst e;rw[bO] at h;cases h
def CW(T:c8):Prop:=∀(k ka km kn bl:Nat)(d:SC)(ba:Option Nat)(n:Nat)(rows:List (List V))(l:List eP)(mv:V)(bm:Nat)(m:Option Mv)(j:Int)(h:Hp)(K:V->Hp->Prop),N4 k ka km kn->rows=l.map ca->n=l.length->mv=kS km bm m->(∀r∈l,r.delta.length<=1000000000)->(0<=d.b/\d.b<=4294967295)->l.length<=1000->h k=some (fx bl (fw d (.own ka ba 3 n) mv))->h ka=some (iw ba rows)->h kn=none->
 (∀x y,(x,y)=iG d l j->∀c n' a,n'=x.length->a=x.map ca->K (.tup [.own kn c 3 n',qI y]) (h.fK [(k,fx bl (fw d (.own ka ba 3 n) mv)),(ka,iw ba rows),(kn,iw c a)]))->T 40 [.ptr k (some bl) 47 0 0,qI j] h K
theorem Ly:CW (fm Tryz.prog):=by
 rintro k ka km kn bl d ba n rows l mv bm m j h K hN rfl rfl rfl q hb hn hk r x hK;have n1:=Lx hN.a;have n2:=Lx hN.b;have u:=Lx hN.c;have s:¬ka=k:=λe=>n1 e.symm;have y:¬kn=k:=λe=>n2 e.symm;have z:¬kn=ka:=λe=>u e.symm;have m1:=Lx hN.d;have m2:=Lx hN.e;have A:=Lx hN.f;have B:=Lx hN.g;have C:=Lx hN.h;have D:=Lx hN.i;have b0:gW [(0,k),(1000001,ka),(1000041,kn)] k=0:=by simp[gW]
 have b1:gW [(0,k),(1000001,ka),(1000041,kn)] ka=1000001:=by simp[gW,s]
 have t:gW [(0,k),(1000001,ka),(1000041,kn)] km=km:=by simp[gW,B,C,D]
 have E:gD [(0,k),(1000001,ka),(1000041,kn)] 0=k:=by simp[gD]
 have w:gD [(0,k),(1000001,ka),(1000041,kn)] 1000001=ka:=by simp[gD]
 have F:gD [(0,k),(1000001,ka),(1000041,kn)] 1000041=kn:=by simp[gD]
 have lm:gD [(0,k),(1000001,ka),(1000041,kn)] km=km:=by simp[gD,m1,m2,A]
 refine xv [(0,k),(1000001,ka),(1000041,kn)] (Km bl d ba l q hb hn j (kS km bm m) (ti _ _ _)) (.cons ?_ (fO rfl)) (by show([0,1000001,1000041]:List Nat).Nodup;decide) (by simp[n1,n2,u]) (by simp) (λp hp=>?_) (λp hp=>?_) ?_ ?_
 ·have:=Arg.same (h:=h) (m:=[(0,k),(1000001,ka),(1000041,kn)]) (.ptr k (some bl) 47 0 0);simpa[V.gM,V.rl,b0] using this
 ·simp only[S2,aw,aD,bw] at hp
  rcases hp with rfl|rfl<;>simp
 ·simp only[S2,aw,aD,bw] at hp
  rcases hp with rfl|rfl
  ·refine⟨?_,jB (.own _ _ _ _) (th _ _ _) bl⟩;show(h (gD _ 0)).map _=_;rw[E,hk,aE,iM,pP,t];show some (fx bl (fw d (.own (gW _ ka) ba 3 _) _))=_;rw[b1]
  ·refine⟨?_,fL _⟩;show(h (gD _ 1000001)).map _=_;rw[w,r,aE,jA]
 ·rintro v G ⟨o,_,rfl⟩;rfl
 ·rintro v G ⟨o,rfl,rfl⟩;have e:mb [(0,k),(1000001,ka),(1000041,kn)] (Ob.gM (gD [(0,k),(1000001,ka),(1000041,kn)])) [(0,fx bl (fw d (.own 1000001 ba 3 l.length) (kS km bm m))),(1000001,iw ba (l.map ca)),(1000041,iw o ((iG d l j).1.map ca))]=[(k,fx bl (fw d (.own ka ba 3 l.length) (kS km bm m))),(ka,iw ba (l.map ca)),(kn,iw o ((iG d l j).1.map ca))]:=by
   simp only[mb,cu,cB,iM,jA,pP,lm];show[(k,fx bl (fw d (.own (gD _ 1000001) ba 3 l.length) _)),_,_]=_;rw[w]
  rw[e];have H:(V.tup [.own 1000041 o 3 (iG d l j).1.length,.int .i64 (iG d l j).2]).gM (gD [(0,k),(1000001,ka),(1000041,kn)])=.tup [.own kn o 3 (iG d l j).1.length,.int .i64 (iG d l j).2]:=by
   show V.tup [.own (gD _ 1000041) o 3 _,_]=_;rw[F];rfl
  rw[H];exact hK _ _ rfl o _ _ rfl rfl
theorem sK{d:List Part}(h:ed d=0):fH d:=by
 have:iL ⟨0,0,d⟩=0:=by
  unfold iL;rw[aa (by show¬((0:Int)<0\/(7:Int)<0\/(0:Int)<0\/(2147483647:Int)<0);decide)];exact h
 exact(yx this).1.2.2
def rI(d:SC)(l:List eP)(m:Option Mv)(base who seq:Int)(x:List Part):rD:=
 if(iX d.tb who).e≠0\/seq<0\/2147483647<seq then⟨d,l,0,1⟩
 else if(vZ x).2.2≠0 then⟨d,l,0,(vZ x).2.2⟩
 else if 0<seq/\seq=(iX d.tb who).a then⟨d,l,(iX d.tb who).b,0⟩
 else if seq<=(iX d.tb who).a then⟨d,l,0,10⟩
 else if(iy d l base).2≠0 then⟨d,l,0,(iy d l base).2⟩
 else if(vZ x).1≠((iy d l base).1.length:Int) then⟨d,l,0,4⟩
 else if(il x (iG d l base).1).2≠0 then⟨d,l,0,(il x (iG d l base).1).2⟩
 else gz d l m ⟨who,seq,(il x (iG d l base).1).1⟩
structure Yi(x0:List Part)(l':List eP) where
 i:Nat
 k:Int
 x:List Part
 dx:List (List V)
 hi:i<=l'.length
 hk:k=(i:Int)
 wc:dx=x.map bd
 hx:fH x
 hf:il x (l'.drop i)=il x0 l'
def ET:AC:=qr [qo 3 (.box 95 4 (.t 1)),qz 4 0,qz 5 0] (qr [qm 17 0,qf 18 1 3,ql 19 18,qa 20 37 [.t 17,.t 19],qm 16 20,qx 21 0 16,qx 22 1 16,qo 6 (.alloc 54 Bo),qs 2 6 21,qm 7 22] (qq (qr [qm 23 7,qc 24 .neq 23 0,qm 25 24,qg 26 25 false (.faddr 2 (.t 3)),qg 27 25 false (.load1 (.t 26)),qg 28 25 false (.bin .lss (.t 27) (qk 0)),qo 29 (.pick (.t 25) (.c (.bool true)) (.t 28)),qm 30 29,qg 31 30 false (.faddr 2 (.t 3)),qg 32 30 false (.load1 (.t 31)),qg 33 30 false (.bin .gtr (.t 32) (qk 2147483647)),qo 34 (.pick (.t 30) (.c (.bool true)) (.t 33))] (qu 34 (qr [qz 4 0,qz 5 1] .ret) .skip)) (qr [qf 36 3 3,ql 37 36,qa 38 87 [.t 37],qm 35 38,qx 39 0 35,qx 40 1 35,qx 41 2 35,qm 8 39,qm 9 40,qm 7 41] (qq (qr [qm 42 7,qc 43 .neq 42 0] (qu 43 (qr [qm 44 7,qz 4 0,qm 5 44] .ret) .skip)) (qq (qr [qf 45 2 3,ql 46 45,qc 47 .gtr 46 0,qm 48 47,qg 49 48 true (.faddr 2 (.t 3)),qg 50 48 true (.load1 (.t 49)),qg 51 48 true (.faddr 0 (.t 6)),qg 52 48 true (.load1 (.t 51)),qg 53 48 true (.bin .eql (.t 50) (.t 52)),qo 54 (.pick (.t 48) (.t 53) (.c (.bool false)))] (qu 54 (qr [qf 55 1 6,ql 56 55,qm 4 56,qz 5 0] .ret) .skip)) (qq (qr [qf 57 2 3,ql 58 57,qf 59 0 6,ql 60 59,qb 61 .leq 58 60] (qu 61 (qr [qz 4 0,qz 5 10] .ret) .skip)) (qr [qm 63 0,qf 64 0 3,ql 65 64,qa 66 39 [.t 63,.t 65],qm 62 66,qx 67 0 62,qx 68 1 62,qm 10 67,qm 7 68] (qq (qr [qm 69 7,qc 70 .neq 69 0] (qu 70 (qr [qm 71 7,qz 4 0,qm 5 71] .ret) .skip)) (qq (qr [qm 72 8,qm 73 10,qo 74 (.len true (.t 73)),qb 75 .neq 72 74] (qu 75 (qr [qz 4 0,qz 5 4] .ret) .skip)) (qr [qm 77 0,qf 78 0 3,ql 79 78,qa 80 40 [.t 77,.t 79],qm 76 80,qx 81 0 76,qx 82 1 76,qm 11 81,qm 12 82] (qr [qf 83 3 3,ql 84 83,qm 13 84] (qq (qr [qm 85 11,qo 86 (.len false (.t 85)),qz 87 0] (.block 0 (.loop (qr [qb 88 .lss 87 86] (qq (qu 88 .skip (.exit 0)) (qq (.block 1 (qr [qo 89 (.iaddr 3 (.t 85) (.t 87)),qd 90 3 89,qo 15 (.alloc 91 xI),qs 3 15 90] (qr [qf 92 2 15,ql 93 92,qm 94 13,qa 95 88 [.t 93,.t 94],qm 91 95,qx 96 0 91,qx 97 1 91,qx 98 2 91,qm 13 97,qm 7 98] (qr [qm 99 7,qc 100 .neq 99 0] (qu 100 (qr [qm 101 7,qz 4 0,qm 5 101] .ret) .skip))))) (qR [qc 102 .add 87 1,qm 87 102]))))))) (qr [qm 103 0,qf 104 1 3,ql 105 104,qf 106 2 3,ql 107 106,qm 108 13,qo 109 (.build xI [(0,1,(.t 105)),(1,1,(.t 107)),(2,1,(.t 108))]),qa 110 43 [.t 103,.t 109],qx 111 0 110,qx 112 1 110,qm 4 111,qm 5 112] .ret)))))))))))))
theorem OZ:fF Tryz.prog 45 Tryz.f45 ET [.t 4,.t 5] 2 er:=⟨Tryz.func45,by decide+kernel,by kernel_rfl,by kernel_rfl,by decide+kernel⟩
theorem O0(P:Prim)(hP:P=dn)(T T1:c8)(UJ:CA T)(L:yt T)(M:CW T)(FE:KI T)(bl:Nat)(d:SC)(ba:Option Nat)(l:List eP)(n:Nat)(hn:n=l.length)(rows:List (List V))(ds:rows=l.map ca)(bm:Nat)(m:Option Mv)(mv:V)(mo:Ob)(od:mv=kS 1 bm m)(rf:mo=jk bm m)(o:KB d l)
  (base who seq:Int)(x0:List Part)(Ss:fH x0)(dr:List (List V))(SF:dr=x0.map bd)(si so se:Int)(h1:gK T 87 [.sl false 3 dr] (.tup [qI si,qI so,qI se]))(hsz:vZ x0=(si,so,se))
  (mC mD:List Part->List Part->List Part)(mE:List Part->List Part->Int)(O1:∀a x,mD a x=(iS a x).2.1)(O2:∀a x,mE a x=(iS a x).2.2)
  (N:∀a x B dx dc dd,fH a->fH x->B=a.map bd->dx=x.map bd->dc=(mC a x).map bd->dd=(mD a x).map bd->gK T 88 [.sl false 3 B,.sl false 3 dx] (.tup [.sl false 3 dc,.sl false 3 dd,qI (mE a x)]))
  (Y:rD)(f:Y=rI d l m base who seq x0)
  (R:S->Prop)(C:∀(s s':S)(H:Option Nat)(n':Nat)(j:List (List V))(I:Nat)(J:V)(K:Ob)(d':SC)(l':List eP)(v e:Int),(⟨d',l',v,e⟩:rD)=Y->n'=l'.length->j=l'.map ca->J=kS 1 I m->K=jk I m->c6 s s'->iH [.t 4,.t 5] [qI v,qI e] s'->
   fG [(0,fx bl (fw d' (.own 1000001 H 3 n') J)),(1000001,iw H j),(1,K)] s'->R s):gj P T T1 ET (S0 [.ptr 0 (some bl) 47 0 0,.agg [qI base,qI who,qI seq,.sl false 3 dr]] (cp [(0,fx bl (fw d (.own 1000001 ba 3 n) mv)),(1000001,iw ba rows),(1,mo)])) R (λ_ _=>False) R:=by
 have RC:0<=d.b/\d.b<=4294967295:=⟨o.b.1,bZ o.b.2 qD⟩;have VG:MQ mv:=by rw[od];exact ti _ _ _
 have hr1:qT 0 mv=true:=Ta VG.2;have Tc:ys 0 1000001 mv=true:=by rw[od];exact KH rfl
 have yL:l.length<=1000:=aV o.len qD;unfold rI at f;rw[hsz] at f;cbv
 repeat' first|(refine qA ?_;cbv)|(intro VH;cbv)
 refine UJ 0 bl d (.own 1000001 ba 3 n) mv who _ _ ⟨⟨.own _ _ _ _,rfl⟩,VG.1⟩ rfl hr1 rfl λla lb le Vw Vx hle=>?_;rw[<-Vw,<-Vx,<-hle] at f;cbv
 repeat' first|(refine qA ?_;cbv)|(intro c;cbv)
 refine ab (λg=>?_) (λg=>?_)
 ·have g1:le≠0:=hH hP g;rw[ae (.inl g1)] at f;cbv
  repeat' first|(refine qA ?_;cbv)|(intro c;cbv)
  exact C _ _ ba n rows bm mv mo d l _ _ (by rw[f]) hn ds od rf (c6.refl _) rfl ⟨rfl,rfl,rfl,trivial⟩
 have g1:le=0:=gZ hP g;cbv
 repeat' first|(refine qA ?_;cbv)|(intro c;cbv)
 refine ab (λg=>?_) (λg=>?_)
 ·have g2:seq<0:=fJ hP g;rw[ae (.inr (.inl g2))] at f;cbv
  repeat' first|(refine qA ?_;cbv)|(intro c;cbv)
  exact C _ _ ba n rows bm mv mo d l _ _ (by rw[f]) hn ds od rf (c6.refl _) rfl ⟨rfl,rfl,rfl,trivial⟩
 have g2:¬seq<0:=fM hP g;cbv
 repeat' first|(refine qA ?_;cbv)|(intro c;cbv)
 refine ab (λg=>?_) (λg=>?_)
 ·have g3:2147483647<seq:=fJ hP g;rw[ae (.inr (.inr g3))] at f;cbv
  repeat' first|(refine qA ?_;cbv)|(intro c;cbv)
  exact C _ _ ba n rows bm mv mo d l _ _ (by rw[f]) hn ds od rf (c6.refl _) rfl ⟨rfl,rfl,rfl,trivial⟩
 have g3:¬2147483647<seq:=fM hP g;rw[aa (λh=>h.elim (λh=>h g1) (λh=>h.elim g2 g3))] at f;cbv
 repeat' first|(refine qA ?_;cbv)|(intro c;cbv)|(refine h1 _ _ ?_;cbv)|fail
 refine ab (λg=>?_) (λg=>?_)
 ·have g4:se≠0:=hH hP g;rw[ae g4] at f;cbv
  repeat' first|(refine qA ?_;cbv)|(intro c;cbv)
  exact C _ _ ba n rows bm mv mo d l _ _ (by rw[f]) hn ds od rf (c6.refl _) rfl ⟨rfl,rfl,rfl,trivial⟩
 have g4:se=0:=gZ hP g;rw[aa (λh=>h g4)] at f;cbv
 repeat' first|(refine qA ?_;cbv)|(intro c;cbv)
 refine ab (λg=>?_) (λg=>?_)
 ·have g5:0<seq:=fJ hP g;cbv
  repeat' first|(refine qA ?_;cbv)|(intro c;cbv)
  refine ab (λg=>?_) (λg=>?_)
  ·have g6:seq=la:=nG hP g;rw[ae ⟨g5,g6⟩] at f;cbv
   repeat' first|(refine qA ?_;cbv)|(intro c;cbv)
   exact C _ _ ba n rows bm mv mo d l _ _ (by rw[f]) hn ds od rf (c6.refl _) rfl ⟨rfl,rfl,rfl,trivial⟩
  have g6:¬seq=la:=nH hP g;rw[aa (λh=>g6 h.2)] at f;clear g;cbv
  repeat' first|(refine qA ?_;cbv)|(intro c;cbv)
  refine ab (λg=>?_) (λg=>?_)
  ·have g7:seq<=la:=jP hP g;rw[ae g7] at f;cbv
   repeat' first|(refine qA ?_;cbv)|(intro c;cbv)
   exact C _ _ ba n rows bm mv mo d l _ _ (by rw[f]) hn ds od rf (c6.refl _) rfl ⟨rfl,rfl,rfl,trivial⟩
  have g7:¬seq<=la:=kg hP g;rw[aa g7] at f;cbv
  repeat' first|(refine qA ?_;cbv)|(intro c;cbv)
  refine L 0 1000001 bl d ba n rows l mv base _ _ ds hn o.rv RC yL VG rfl Tc rfl rfl λx y hx hy=>?_;rw[<-hx,<-hy] at f;cbv
  repeat' first|(refine qA ?_;cbv)|(intro c;cbv)
  refine ab (λg=>?_) (λg=>?_)
  ·have g8:y≠0:=hH hP g;rw[ae g8] at f;cbv
   repeat' first|(refine qA ?_;cbv)|(intro c;cbv)
   exact C _ _ ba n rows bm mv mo d l _ _ (by rw[f]) hn ds od rf (c6.refl _) rfl ⟨rfl,rfl,rfl,trivial⟩
  have g8:y=0:=gZ hP g;rw[aa (λh=>h g8)] at f;cbv
  repeat' first|(refine qA ?_;cbv)|(intro c;cbv)
  refine ab (λg=>?_) (λg=>?_)
  ·have g9:si≠P.c9 x:=hH hP g;rw[da hP] at g9;rw[ae g9] at f;cbv
   repeat' first|(refine qA ?_;cbv)|(intro c;cbv)
   exact C _ _ ba n rows bm mv mo d l _ _ (by rw[f]) hn ds od rf (c6.refl _) rfl ⟨rfl,rfl,rfl,trivial⟩
  have g9:si=P.c9 x:=gZ hP g;rw[da hP] at g9;rw[aa (λh=>h g9)] at f;cbv
  repeat' first|(refine qA ?_;cbv)|(intro c;cbv)
  refine M 0 1000001 1 1000300 bl d ba n rows l mv bm m base _ _ ⟨rfl,rfl,rfl,rfl,rfl,rfl,rfl,rfl,rfl⟩ ds hn od o.dl RC yL rfl rfl rfl λl' y' WT bo n' j D z=>?_;have E:(iG d l base).1=l':=by rw[<-WT]
  rw[E] at f;have CX:l'.length<=64:=by
   have:l'.length<=l.length:=by
    rw[<-E];unfold iG
    split
    ·exact aP _
    ·show(l.drop _).length<=_;rw[aJ];exact Nat.sub_le _ _
   exact aV this o.len
  have F:∀r∈l',r.Ok:=by
   intro r hr;rw[<-E] at hr;unfold iG at hr
   split at hr
   ·cases hr
   ·exact o.rv.2 r (bC hr)
  cbv
  repeat' first|(refine qA ?_;cbv)|(intro c;cbv)
  refine⟨Yi x0 l',λy=>[(0,.ptr 0 (some bl) 47 0 0),(3,.ptr 3 (some VH) 4 0 0),(13,.sl false 3 y.dx),(85,.own 1000300 bo 3 n'),(86,qI (P.int n')),(87,qI y.k)],
   λy=>[(0,fx bl (fw d (.own 1000001 ba 3 n) mv)),(1000001,iw ba rows),(1,mo),(1000300,iw bo j),(3,⟨some VH,95,4,[[qI base,qI who,qI seq,.sl false 3 dr]]⟩)],λy=>l'.length-y.i,
   ⟨_,c6.refl _,⟨0,0,x0,dr,aP _,rfl,SF,Ss,rfl⟩,⟨rfl,rfl,rfl,rfl,rfl,rfl,trivial⟩,⟨rfl,rfl,rfl,rfl,rfl,trivial⟩⟩,?_⟩
  rintro⟨i,k,p,dx,hi,hk,wc,O,hf⟩;cbv;refine ab (λg=>?_) (λg=>?_)
  ·have k1:k<P.int n':=fJ hP g;rw[int_eq hP,D] at k1;have q:i<l'.length:=by((try simp only[nc] at*);omega)
   obtain⟨r,ku⟩:∃r,l'[i]? =some r:=⟨_,af q⟩;have u:P.row j (P.nat k) [qI r.who,qI r.seq,.sl false 3 (r.delta.map bd)]:=ga hP hk (by rw[z,av,ku];rfl);have Q:=(F r (ax ku)).2.2;have SG:il p (l'.drop i)=if mE r.delta p≠0 then([],mE r.delta p) else il (mD r.delta p) (l'.drop (i+1)):=by
    have e:l'.drop i=r::l'.drop (i+1):=by rw[bH q];congr 1;rw[af q] at ku;exact cT ku
    rw[e,il,O2,O1]
   have G:mE r.delta p=0->fH (mD r.delta p):=by
    intro h0;rw[O2] at h0;rw[O1];obtain⟨_,_,_,u4,u5⟩:=sJ h0;rw[u5];exact sK u4
   rw[SG] at hf;obtain⟨WU,SH⟩:∃w,r.who=w:=⟨_,rfl⟩;obtain⟨rq,SI⟩:∃w,r.seq=w:=⟨_,rfl⟩;obtain⟨rd,U⟩:∃w,r.delta=w:=⟨_,rfl⟩;rw[SH,SI,U] at u;rw[U] at hf G Q;obtain⟨B,W⟩:∃B,B=rd.map bd:=⟨_,rfl⟩;rw[<-W] at u;obtain⟨dc,SJ⟩:∃B,B=(mC rd p).map bd:=⟨_,rfl⟩;obtain⟨dd,X⟩:∃B,B=(mD rd p).map bd:=⟨_,rfl⟩;obtain⟨me,SK⟩:∃e,mE rd p=e:=⟨_,rfl⟩;have hm:=N rd p B dx dc dd Q O W wc SJ X;rw[SK] at hm hf G;have q1:P.fC 0 k:=iu hP (by rw[hk];exact aO _);have q2:P.iO k (P.int n'):=kN hP (by rw[int_eq hP,D];exact k1);have q3:P.i64 (P.add k 1):=by rw[add_eq hP];exact eR hP qO
   have q4:P.add k 1=((i+1:Nat):Int):=by rw[add_eq hP,hk];simp
   cbv
   repeat' first|(refine qA ?_;cbv)|(intro c;cbv)
   refine⟨_,u,?_⟩;cbv
   repeat' first|(refine qA ?_;cbv)|(intro c;cbv)|(refine hm _ _ ?_;cbv)|fail
   refine ab (λg=>?_) (λg=>?_)
   ·have g10:me≠0:=hH hP g;rw[ae g10] at hf;have SL:Y=⟨d,l,0,me⟩:=by rw[f,<-hf,ae g10]
    cbv
    repeat' first|(refine qA ?_;cbv)|(intro c;cbv)
    exact C _ _ ba n rows bm mv mo d l _ _ (by rw[SL]) hn ds od rf (c6.refl _) rfl ⟨rfl,rfl,rfl,trivial⟩
   have g10:me=0:=gZ hP g;rw[aa (λh=>h g10)] at hf;cbv
   repeat' first|(refine qA ?_;cbv)|(intro c;cbv)
   refine⟨_,c6.refl _,⟨i+1,_,mD rd p,dd,q,q4,X,G g10,hf⟩,⟨rfl,rfl,rfl,rfl,rfl,rfl,trivial⟩,⟨rfl,rfl,rfl,rfl,rfl,trivial⟩,?_⟩;show l'.length-(i+1)<l'.length-i;omega
  have k1:¬k<P.int n':=fM hP g;rw[int_eq hP,D] at k1;have q:i=l'.length:=by((try simp only[nc] at*);omega)
  have OA:il x0 l'=(p,0):=by
   have hf:il p (l'.drop i)=il x0 l':=hf;rw[q,dT] at hf;rw[<-hf];rfl
  rw[OA,aa (λh=>h rfl)] at f;cbv
  repeat' first|(refine qA ?_;cbv)|(intro c;cbv)|(refine FE 0 1000001 1 bl d ba n rows l mv mo bm m ⟨who,seq,p⟩ who seq dx _ _ ⟨hn,ds,od,rf,rfl,rfl,rfl,⟨rfl,rfl,rfl⟩⟩ ⟨rfl,rfl,wc⟩ O o.b o.dE λv e H d' l2 n2 ij I J K hA BD A Z SM=>?_;cbv)|fail
  exact C _ _ H n2 ij I J K d' l2 v e (by rw[f,hA]) BD A Z SM (c6.refl _) rfl ⟨rfl,rfl,rfl,trivial⟩
 ·have g5:¬0<seq:=fM hP g;rw[aa (λh=>g5 h.1)] at f;clear g;cbv
  repeat' first|(refine qA ?_;cbv)|(intro c;cbv)
  refine ab (λg=>?_) (λg=>?_)
  ·have g7:seq<=la:=jP hP g;rw[ae g7] at f;cbv
   repeat' first|(refine qA ?_;cbv)|(intro c;cbv)
   exact C _ _ ba n rows bm mv mo d l _ _ (by rw[f]) hn ds od rf (c6.refl _) rfl ⟨rfl,rfl,rfl,trivial⟩
  have g7:¬seq<=la:=kg hP g;rw[aa g7] at f;cbv
  repeat' first|(refine qA ?_;cbv)|(intro c;cbv)
  refine L 0 1000001 bl d ba n rows l mv base _ _ ds hn o.rv RC yL VG rfl Tc rfl rfl λx y hx hy=>?_;rw[<-hx,<-hy] at f;cbv
  repeat' first|(refine qA ?_;cbv)|(intro c;cbv)
  refine ab (λg=>?_) (λg=>?_)
  ·have g8:y≠0:=hH hP g;rw[ae g8] at f;cbv
   repeat' first|(refine qA ?_;cbv)|(intro c;cbv)
   exact C _ _ ba n rows bm mv mo d l _ _ (by rw[f]) hn ds od rf (c6.refl _) rfl ⟨rfl,rfl,rfl,trivial⟩
  have g8:y=0:=gZ hP g;rw[aa (λh=>h g8)] at f;cbv
  repeat' first|(refine qA ?_;cbv)|(intro c;cbv)
  refine ab (λg=>?_) (λg=>?_)
  ·have g9:si≠P.c9 x:=hH hP g;rw[da hP] at g9;rw[ae g9] at f;cbv
   repeat' first|(refine qA ?_;cbv)|(intro c;cbv)
   exact C _ _ ba n rows bm mv mo d l _ _ (by rw[f]) hn ds od rf (c6.refl _) rfl ⟨rfl,rfl,rfl,trivial⟩
  have g9:si=P.c9 x:=gZ hP g;rw[da hP] at g9;rw[aa (λh=>h g9)] at f;cbv
  repeat' first|(refine qA ?_;cbv)|(intro c;cbv)
  refine M 0 1000001 1 1000300 bl d ba n rows l mv bm m base _ _ ⟨rfl,rfl,rfl,rfl,rfl,rfl,rfl,rfl,rfl⟩ ds hn od o.dl RC yL rfl rfl rfl λl' y' WT bo n' j D z=>?_;have E:(iG d l base).1=l':=by rw[<-WT]
  rw[E] at f;have CX:l'.length<=64:=by
   have:l'.length<=l.length:=by
    rw[<-E];unfold iG
    split
    ·exact aP _
    ·show(l.drop _).length<=_;rw[aJ];exact Nat.sub_le _ _
   exact aV this o.len
  have F:∀r∈l',r.Ok:=by
   intro r hr;rw[<-E] at hr;unfold iG at hr
   split at hr
   ·cases hr
   ·exact o.rv.2 r (bC hr)
  cbv
  repeat' first|(refine qA ?_;cbv)|(intro c;cbv)
  refine⟨Yi x0 l',λy=>[(0,.ptr 0 (some bl) 47 0 0),(3,.ptr 3 (some VH) 4 0 0),(13,.sl false 3 y.dx),(85,.own 1000300 bo 3 n'),(86,qI (P.int n')),(87,qI y.k)],
   λy=>[(0,fx bl (fw d (.own 1000001 ba 3 n) mv)),(1000001,iw ba rows),(1,mo),(1000300,iw bo j),(3,⟨some VH,95,4,[[qI base,qI who,qI seq,.sl false 3 dr]]⟩)],λy=>l'.length-y.i,
   ⟨_,c6.refl _,⟨0,0,x0,dr,aP _,rfl,SF,Ss,rfl⟩,⟨rfl,rfl,rfl,rfl,rfl,rfl,trivial⟩,⟨rfl,rfl,rfl,rfl,rfl,trivial⟩⟩,?_⟩
  rintro⟨i,k,p,dx,hi,hk,wc,O,hf⟩;cbv;refine ab (λg=>?_) (λg=>?_)
  ·have k1:k<P.int n':=fJ hP g;rw[int_eq hP,D] at k1;have q:i<l'.length:=by((try simp only[nc] at*);omega)
   obtain⟨r,ku⟩:∃r,l'[i]? =some r:=⟨_,af q⟩;have u:P.row j (P.nat k) [qI r.who,qI r.seq,.sl false 3 (r.delta.map bd)]:=ga hP hk (by rw[z,av,ku];rfl);have Q:=(F r (ax ku)).2.2;have SG:il p (l'.drop i)=if mE r.delta p≠0 then([],mE r.delta p) else il (mD r.delta p) (l'.drop (i+1)):=by
    have e:l'.drop i=r::l'.drop (i+1):=by rw[bH q];congr 1;rw[af q] at ku;exact cT ku
    rw[e,il,O2,O1]
   have G:mE r.delta p=0->fH (mD r.delta p):=by
    intro h0;rw[O2] at h0;rw[O1];obtain⟨_,_,_,u4,u5⟩:=sJ h0;rw[u5];exact sK u4
   rw[SG] at hf;obtain⟨WU,SH⟩:∃w,r.who=w:=⟨_,rfl⟩;obtain⟨rq,SI⟩:∃w,r.seq=w:=⟨_,rfl⟩;obtain⟨rd,U⟩:∃w,r.delta=w:=⟨_,rfl⟩;rw[SH,SI,U] at u;rw[U] at hf G Q;obtain⟨B,W⟩:∃B,B=rd.map bd:=⟨_,rfl⟩;rw[<-W] at u;obtain⟨dc,SJ⟩:∃B,B=(mC rd p).map bd:=⟨_,rfl⟩;obtain⟨dd,X⟩:∃B,B=(mD rd p).map bd:=⟨_,rfl⟩;obtain⟨me,SK⟩:∃e,mE rd p=e:=⟨_,rfl⟩;have hm:=N rd p B dx dc dd Q O W wc SJ X;rw[SK] at hm hf G;have q1:P.fC 0 k:=iu hP (by rw[hk];exact aO _);have q2:P.iO k (P.int n'):=kN hP (by rw[int_eq hP,D];exact k1);have q3:P.i64 (P.add k 1):=by rw[add_eq hP];exact eR hP qO
   have q4:P.add k 1=((i+1:Nat):Int):=by rw[add_eq hP,hk];simp
   cbv
   repeat' first|(refine qA ?_;cbv)|(intro c;cbv)
   refine⟨_,u,?_⟩;cbv
   repeat' first|(refine qA ?_;cbv)|(intro c;cbv)|(refine hm _ _ ?_;cbv)|fail
   refine ab (λg=>?_) (λg=>?_)
   ·have g10:me≠0:=hH hP g;rw[ae g10] at hf;have SL:Y=⟨d,l,0,me⟩:=by rw[f,<-hf,ae g10]
    cbv
    repeat' first|(refine qA ?_;cbv)|(intro c;cbv)
    exact C _ _ ba n rows bm mv mo d l _ _ (by rw[SL]) hn ds od rf (c6.refl _) rfl ⟨rfl,rfl,rfl,trivial⟩
   have g10:me=0:=gZ hP g;rw[aa (λh=>h g10)] at hf;cbv
   repeat' first|(refine qA ?_;cbv)|(intro c;cbv)
   refine⟨_,c6.refl _,⟨i+1,_,mD rd p,dd,q,q4,X,G g10,hf⟩,⟨rfl,rfl,rfl,rfl,rfl,rfl,trivial⟩,⟨rfl,rfl,rfl,rfl,rfl,trivial⟩,?_⟩;show l'.length-(i+1)<l'.length-i;omega
  have k1:¬k<P.int n':=fM hP g;rw[int_eq hP,D] at k1;have q:i=l'.length:=by((try simp only[nc] at*);omega)
  have OA:il x0 l'=(p,0):=by
   have hf:il p (l'.drop i)=il x0 l':=hf;rw[q,dT] at hf;rw[<-hf];rfl
  rw[OA,aa (λh=>h rfl)] at f;cbv
  repeat' first|(refine qA ?_;cbv)|(intro c;cbv)|(refine FE 0 1000001 1 bl d ba n rows l mv mo bm m ⟨who,seq,p⟩ who seq dx _ _ ⟨hn,ds,od,rf,rfl,rfl,rfl,⟨rfl,rfl,rfl⟩⟩ ⟨rfl,rfl,wc⟩ O o.b o.dE λv e H d' l2 n2 ij I J K hA BD A Z SM=>?_;cbv)|fail
  exact C _ _ H n2 ij I J K d' l2 v e (by rw[f,hA]) BD A Z SM (c6.refl _) rfl ⟨rfl,rfl,rfl,trivial⟩
theorem O3(bl bm:Nat)(d:SC)(ba:Option Nat)(l:List eP)(m:Option Mv)(base who seq:Int)(x:List Part)(hx:fH x)(g:KB d l):Spec Tryz.prog 45 [.ptr 0 (some bl) 47 0 0,.agg [qI base,qI who,qI seq,.sl false 3 (x.map bd)]] (cp (S3 bl d ba l.length (l.map ca) bm m))
  λv h'=>∃f,(∃b c d' l' m',(∃n e,v=.tup [qI n,qI e]/\⟨d',l',n,e⟩=rI d l m base who seq x/\m'=m)/\f=S3 bl d' b l'.length (l'.map ca) c m')/\h'=cp f:=by
 refine fu iD OZ (L:=S3 bl d ba l.length (l.map ca) bm m) (λv f=>∃b c d' l' m',(∃n e,v=.tup [qI n,qI e]/\⟨d',l',n,e⟩=rI d l m base who seq x/\m'=m)/\f=S3 bl d' b l'.length (l'.map ca) c m') λR i=>?_;refine O0 dn rfl _ _ Kh Cy Ly PF bl d ba l _ rfl _ rfl bm m _ _ rfl rfl g base who seq x hx _ rfl _ _ _ (oW (xW x hx.1) rfl) rfl (λa x=>(iS a x).1) (λa x=>(iS a x).2.1) (λa x=>(iS a x).2.2) (λ_ _=>rfl) (λ_ _=>rfl) (λa x p dx q dd ha hx h1 h2 h3 h4=>by subst h1 h2 h3 h4;exact im (OV a x ha.1 hx.1) rfl rfl) _ rfl R ?_;rintro s s' b n' h c j k d' l' v e o rfl rfl rfl rfl he hr ha;exact i s s' _ _ he (eM _ _ _ (λx hx=>by rw[hx];rfl) hr) ha (.tup _ (by simp;exact⟨.int _ _,.int _ _⟩)) tS ⟨b,c,d',l',m,⟨v,e,rfl,o,rfl⟩,rfl⟩
def PV(T:c8):Prop:=∀(k ka km bl:Nat)(d:SC)(ba:Option Nat)(n:Nat)(rows:List (List V))(l:List eP)(mv:V)(mo:Ob)(bm:Nat)(m:Option Mv)(base who seq:Int)(x:List Part)(dr:List (List V))(h:Hp)(K:V->Hp->Prop),Ub h k ka km bl d ba n rows l mv mo bm m->dr=x.map bd->fH x->KB d l->
 (∀v e b d' l' n' a c f g,⟨d',l',v,e⟩=rI d l m base who seq x->n'=l'.length->a=l'.map ca->f=kS km c m->g=jk c m->K (.tup [qI v,qI e]) (h.fK [(k,fx bl (fw d' (.own ka b 3 n') f)),(ka,iw b a),(km,g)]))->T 45 [.ptr k (some bl) 47 0 0,.agg [qI base,qI who,qI seq,.sl false 3 dr]] h K
theorem UK:PV (fm Tryz.prog):=by
 rintro k ka km bl d ba n rows l mv mo bm m base who seq x dr h K ⟨rfl,rfl,rfl,rfl,hk,a,b,hN⟩ rfl hx c hK;refine vL (rest:=[.agg [.int .i64 base,.int .i64 who,.int .i64 seq,.sl false 3 (x.map bd)]]) (post:=λv d' l' m'=>∃n e,v=.tup [.int .i64 n,.int .i64 e]/\⟨d',l',n,e⟩=rI d l m base who seq x/\m'=m) (O3 bl bm d ba l m base who seq x hx c) (λh m=>.cons (.same _) .nil) (λx d' l' m' g hp=>?_) hN hk a b ?_
 ·obtain⟨v,e,rfl,_⟩:=hp;rfl
 ·rintro x f i d' l' m' ⟨v,e,rfl,hp,rfl⟩;exact hK v e f d' l' _ _ i _ _ hp rfl rfl rfl rfl
end Go.Proofs.YtobngncjflogcaaGreat.AM
