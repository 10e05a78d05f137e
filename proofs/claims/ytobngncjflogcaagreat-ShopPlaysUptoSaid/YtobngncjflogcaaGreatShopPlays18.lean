/-
  Part 18 of what the law ShopPlays reaches: the plain machine, contracts of the functions and plain laws; each lemma says its own condition.
-/
import Derived.Test.YtobngncjflogcaaGreatShopPlays17
import Derived.Test.YtobngncjflogcaaGreatShopPlays14
import Derived.Test.YtobngncjflogcaaGreatShopPlays16
import Derived.Test.YtobngncjflogcaaGreatShopPlays7
set_option linter.unusedVariables false
set_option linter.unusedSimpArgs false
namespace Go.Proofs.YtobngncjflogcaaGreat.AM
open Go Go.RowKit
set_option maxRecDepth 100000
set_option maxHeartbeats 2000000
def Vo(fs:Nat->Int):List V:=[.int .i64 (fs 0),.int .i64 (fs 1),.int .i64 (fs 2),.int .i64 (fs 3),.int .i64 (fs 4),.int .i64 (fs 5),.int .i64 (fs 6),.int .i64 (fs 7),.int .i64 (fs 8),.int .i64 (fs 9),.int .i64 (fs 10),.int .i64 (fs 11),.int .i64 (fs 12),.int .i64 (fs 13),.int .i64 (fs 14),.int .i64 (fs 15)]
def AV(v0 v1 v2 v3 v4:V)(gn bs:Int)(fs:Nat->Int)(rv:V):List V:=[v0,v1,v2,v3,v4,.int .i64 0,.int .i64 0,.int .i64 0,.int .i64 0,.int .i64 0,.int .i64 0,.int .i64 0,.int .i64 0,.int .i64 0,.int .i64 0,.int .i64 0,.int .i64 0,.int .i64 0,.int .i64 0,.int .i64 0,.int .i64 0,.int .i64 0,.int .i64 0,.nilsl,.nilsl,.int .i64 0,.bool false,.int .i64 0,.int .i64 0,.bool false,.bool false]
def OB(v0 v1 v2 v3 v4:V)(gn bs:Int)(fs:Nat->Int)(rv:V):List V:=[v0,v1,v2,v3,v4,.int .i64 gn,.int .i64 0,.int .i64 0,.int .i64 0,.int .i64 0,.int .i64 0,.int .i64 0,.int .i64 0,.int .i64 0,.int .i64 0,.int .i64 0,.int .i64 0,.int .i64 0,.int .i64 0,.int .i64 0,.int .i64 0,.int .i64 0,.int .i64 0,.nilsl,.nilsl,.int .i64 0,.bool false,.int .i64 0,.int .i64 0,.bool false,.bool false]
def OC(v0 v1 v2 v3 v4:V)(gn bs:Int)(fs:Nat->Int)(rv:V):List V:=[v0,v1,v2,v3,v4,.int .i64 gn,.int .i64 bs,.int .i64 0,.int .i64 0,.int .i64 0,.int .i64 0,.int .i64 0,.int .i64 0,.int .i64 0,.int .i64 0,.int .i64 0,.int .i64 0,.int .i64 0,.int .i64 0,.int .i64 0,.int .i64 0,.int .i64 0,.int .i64 0,.nilsl,.nilsl,.int .i64 0,.bool false,.int .i64 0,.int .i64 0,.bool false,.bool false]
def OD(v0 v1 v2 v3 v4:V)(gn bs:Int)(fs:Nat->Int)(rv:V):List V:=[v0,v1,v2,v3,v4,.int .i64 gn,.int .i64 bs,.int .i64 (fs 0),.int .i64 (fs 1),.int .i64 (fs 2),.int .i64 (fs 3),.int .i64 (fs 4),.int .i64 (fs 5),.int .i64 (fs 6),.int .i64 (fs 7),.int .i64 (fs 8),.int .i64 (fs 9),.int .i64 (fs 10),.int .i64 (fs 11),.int .i64 (fs 12),.int .i64 (fs 13),.int .i64 (fs 14),.int .i64 (fs 15),.nilsl,.nilsl,.int .i64 0,.bool false,.int .i64 0,.int .i64 0,.bool false,.bool false]
def KX(v0 v1 v2 v3 v4:V)(gn bs:Int)(fs:Nat->Int)(rv:V):List V:=[v0,v1,v2,v3,v4,.int .i64 gn,.int .i64 bs,.int .i64 (fs 0),.int .i64 (fs 1),.int .i64 (fs 2),.int .i64 (fs 3),.int .i64 (fs 4),.int .i64 (fs 5),.int .i64 (fs 6),.int .i64 (fs 7),.int .i64 (fs 8),.int .i64 (fs 9),.int .i64 (fs 10),.int .i64 (fs 11),.int .i64 (fs 12),.int .i64 (fs 13),.int .i64 (fs 14),.int .i64 (fs 15),.nilsl,rv,.int .i64 0,.bool false,.int .i64 0,.int .i64 0,.bool false,.bool false]
def wC(v0 v1 v2 v3 v4:V)(gn bs:Int)(fs:Nat->Int)(rv:V)(done:List Nat):List V:=if fq done 23=true then KX v0 v1 v2 v3 v4 gn bs fs rv else if fq done 20=true then OD v0 v1 v2 v3 v4 gn bs fs rv else if fq done 17=true then OC v0 v1 v2 v3 v4 gn bs fs rv else if fq done 14=true then OB v0 v1 v2 v3 v4 gn bs fs rv else AV v0 v1 v2 v3 v4 gn bs fs rv
def jF(b11:Nat)(v0 v1 v2 v3 v4:V)(gn bs:Int)(fs:Nat->Int)(rv:V)(done:List Nat)(h0:Hp)(k:Nat):Option Ob:=if k=53 then some ⟨some b11,58,31,[wC v0 v1 v2 v3 v4 gn bs fs rv done]⟩ else h0 k
def ib(gn bs:Int)(fs:Nat->Int)(rv:V)(b11 a:Nat):List (Nat×Nat×V):=[(0,92,.ptr 53 (some b11) 31 0 0),(1,93,.ptr 53 (some b11) 31 0 0),(2,94,.ptr 53 (some b11) 31 0 0),(3,95,.ptr 53 (some b11) 31 0 0),(4,96,.ptr 12 (some a) 38 0 0),(5,97,.int .i64 gn),(6,98,.ptr 12 (some a) 38 0 1),(7,99,.int .i64 bs),(8,100,.ptr 12 (some a) 38 0 3),(9,101,.agg (Vo fs)),(10,102,.ptr 12 (some a) 38 0 35),(11,103,rv),(12,104,.ptr 53 (some b11) 31 0 0),(13,105,.ptr 53 (some b11) 31 0 5),(15,106,.ptr 53 (some b11) 31 0 0),(16,107,.ptr 53 (some b11) 31 0 6),(18,108,.ptr 53 (some b11) 31 0 0),(19,109,.ptr 53 (some b11) 31 0 7),(21,110,.ptr 53 (some b11) 31 0 0),(22,111,.ptr 53 (some b11) 31 0 24)]
def PK:List (AO×List Nat):=[
 (⟨some 92,none,.mov (.t 11)⟩,[]),
 (⟨some 93,none,.mov (.t 11)⟩,[]),
 (⟨some 94,none,.mov (.t 11)⟩,[]),
 (⟨some 95,none,.mov (.t 11)⟩,[]),
 (⟨some 96,none,.faddr 0 (.t 12)⟩,[]),
 (⟨some 97,none,.load1 (.t 96)⟩,[4]),
 (⟨some 98,none,.faddr 1 (.t 12)⟩,[]),
 (⟨some 99,none,.load1 (.t 98)⟩,[6]),
 (⟨some 100,none,.faddr 3 (.t 12)⟩,[]),
 (⟨some 101,none,.loadn 16 (.t 100)⟩,[8]),
 (⟨some 102,none,.faddr 35 (.t 12)⟩,[]),
 (⟨some 103,none,.load1 (.t 102)⟩,[10]),
 (⟨some 104,none,.nilchk (.t 92)⟩,[0,0,4,5]),
 (⟨some 105,none,.faddr 5 (.t 104)⟩,[12,0,4,5]),
 (⟨none,none,.store 1 (.t 105) (.t 97)⟩,[13,5,0,4,5]),
 (⟨some 106,none,.nilchk (.t 93)⟩,[1,0,1,4,5,6,7,12,13,14]),
 (⟨some 107,none,.faddr 6 (.t 106)⟩,[15,0,1,4,5,6,7,12,13,14]),
 (⟨none,none,.store 1 (.t 107) (.t 99)⟩,[16,7,14,0,1,4,5,6,7,12,13,14]),
 (⟨some 108,none,.nilchk (.t 94)⟩,[2,0,1,2,4,5,6,7,8,9,12,13,14,15,16,17]),
 (⟨some 109,none,.faddr 7 (.t 108)⟩,[18,0,1,2,4,5,6,7,8,9,12,13,14,15,16,17]),
 (⟨none,none,.store 16 (.t 109) (.t 101)⟩,[19,9,17,0,1,2,4,5,6,7,8,9,12,13,14,15,16,17]),
 (⟨some 110,none,.nilchk (.t 95)⟩,[3,0,1,2,3,4,5,6,7,8,9,10,11,12,13,14,15,16,17,18,19,20]),
 (⟨some 111,none,.faddr 24 (.t 110)⟩,[21,0,1,2,3,4,5,6,7,8,9,10,11,12,13,14,15,16,17,18,19,20]),
 (⟨none,none,.store 1 (.t 111) (.t 103)⟩,[22,11,20,0,1,2,3,4,5,6,7,8,9,10,11,12,13,14,15,16,17,18,19,20])]
section
variable {v0 v1 v2 v3 v4:V} {gn bs:Int} {fs:Nat->Int} {rv:V} {b11 hX:Nat}
theorem xE:((ib gn bs fs rv b11 hX).map (·.1)).Nodup:=by show([0,1,2,3,4,5,6,7,8,9,10,11,12,13,15,16,18,19,21,22]:List Nat).Nodup;decide
theorem oO:((ib gn bs fs rv b11 hX).map (·.2.1)).Nodup:=by show([92,93,94,95,96,97,98,99,100,101,102,103,104,105,106,107,108,109,110,111]:List Nat).Nodup;decide
theorem yD{done:List Nat}{h0:Hp}{r:List V}(h:wC v0 v1 v2 v3 v4 gn bs fs rv done=r):jF b11 v0 v1 v2 v3 v4 gn bs fs rv done h0 53=some ⟨some b11,58,31,[r]⟩:=by
 subst h;rfl
theorem uK{done:List Nat}{i:Nat}{h0:Hp}{r r':List V}(h:wC v0 v1 v2 v3 v4 gn bs fs rv (i::done)=r)(hr:r'=r):Hp.put (jF b11 v0 v1 v2 v3 v4 gn bs fs rv done h0) 53 ⟨some b11,58,31,[r']⟩=jF b11 v0 v1 v2 v3 v4 gn bs fs rv (i::done) h0:=by
 subst h;subst hr
 funext k
 unfold Hp.put jF
 by_cases hk:k=53
 ·rw[ae hk,ae hk]
 ·rw[aa hk,aa hk,aa hk]
structure Ww(v:V):Prop where
 a:v.cells.length=1
 b:v.cells.all V.one=true
 c:v.cells=[v]
theorem tl{v:V}(h:∃t n rows,v=.sl t n rows):Ww v:=by
 obtain⟨t,n,rows,rfl⟩:=h;exact⟨rfl,rfl,rfl⟩
theorem R0{P:Prim}{T:c8}{K:S->Prop}{t0:Nat->V}{h0:Hp}{tx:BS}{tb:Nat->Int}{wh:Bool}{gd:Int}(y:∃t n rows,rv=.sl t n rows)
  (w:t0 11=.ptr 53 (some b11) 31 0 0)(q:t0 12=.ptr 12 (some hX) 38 0 0)(z:h0 53=some ⟨some b11,58,31,[AV v0 v1 v2 v3 v4 gn bs fs rv]⟩)
  (r:h0 12=some ⟨some hX,72,38,[lF gn bs tx fs tb rv wh gd]⟩)
  (hK:K ⟨L8 (ib gn bs fs rv b11 hX) t0,Gm [(53,some ⟨some b11,58,31,[KX v0 v1 v2 v3 v4 gn bs fs rv]⟩)] h0⟩):lL P T PK 24 [] ⟨t0,h0⟩ K:=by
 refine AT rfl (λdone=>⟨eO done (ib gn bs fs rv b11 hX) t0,jF b11 v0 v1 v2 v3 v4 gn bs fs rv done h0⟩) (λdone i o ps hj hf hq s K' d=>?_) (λdone hd=>?_) ?_
 ·have r:=r
  match i,hj with
  |0,hj=>
   cases hj;have d:K' ⟨eO (0::done) (ib gn bs fs rv b11 hX) t0,jF b11 v0 v1 v2 v3 v4 gn bs fs rv (0::done) h0⟩:=d;show eH P T _ ⟨eO done (ib gn bs fs rv b11 hX) t0,jF b11 v0 v1 v2 v3 v4 gn bs fs rv done h0⟩ K';refine gR (v:=.ptr 53 (some b11) 31 0 0) ((gX (done:=done) (ib gn bs fs rv b11 hX) t0 rfl).trans w) ?_;show K' ⟨gy (eO done (ib gn bs fs rv b11 hX) t0) 92 _,jF b11 v0 v1 v2 v3 v4 gn bs fs rv done h0⟩;rw[dS (k:=0) (ib gn bs fs rv b11 hX) t0 xE oO (.head _)];exact d
  |1,hj=>
   cases hj;have d:K' ⟨eO (1::done) (ib gn bs fs rv b11 hX) t0,jF b11 v0 v1 v2 v3 v4 gn bs fs rv (1::done) h0⟩:=d;show eH P T _ ⟨eO done (ib gn bs fs rv b11 hX) t0,jF b11 v0 v1 v2 v3 v4 gn bs fs rv done h0⟩ K';refine gR (v:=.ptr 53 (some b11) 31 0 0) ((gX (done:=done) (ib gn bs fs rv b11 hX) t0 rfl).trans w) ?_;show K' ⟨gy (eO done (ib gn bs fs rv b11 hX) t0) 93 _,jF b11 v0 v1 v2 v3 v4 gn bs fs rv done h0⟩;rw[dS (k:=1) (ib gn bs fs rv b11 hX) t0 xE oO (qM 1 rfl)];exact d
  |2,hj=>
   cases hj;have d:K' ⟨eO (2::done) (ib gn bs fs rv b11 hX) t0,jF b11 v0 v1 v2 v3 v4 gn bs fs rv (2::done) h0⟩:=d;show eH P T _ ⟨eO done (ib gn bs fs rv b11 hX) t0,jF b11 v0 v1 v2 v3 v4 gn bs fs rv done h0⟩ K';refine gR (v:=.ptr 53 (some b11) 31 0 0) ((gX (done:=done) (ib gn bs fs rv b11 hX) t0 rfl).trans w) ?_;show K' ⟨gy (eO done (ib gn bs fs rv b11 hX) t0) 94 _,jF b11 v0 v1 v2 v3 v4 gn bs fs rv done h0⟩;rw[dS (k:=2) (ib gn bs fs rv b11 hX) t0 xE oO (qM 2 rfl)];exact d
  |3,hj=>
   cases hj;have d:K' ⟨eO (3::done) (ib gn bs fs rv b11 hX) t0,jF b11 v0 v1 v2 v3 v4 gn bs fs rv (3::done) h0⟩:=d;show eH P T _ ⟨eO done (ib gn bs fs rv b11 hX) t0,jF b11 v0 v1 v2 v3 v4 gn bs fs rv done h0⟩ K';refine gR (v:=.ptr 53 (some b11) 31 0 0) ((gX (done:=done) (ib gn bs fs rv b11 hX) t0 rfl).trans w) ?_;show K' ⟨gy (eO done (ib gn bs fs rv b11 hX) t0) 95 _,jF b11 v0 v1 v2 v3 v4 gn bs fs rv done h0⟩;rw[dS (k:=3) (ib gn bs fs rv b11 hX) t0 xE oO (qM 3 rfl)];exact d
  |4,hj=>
   cases hj;have d:K' ⟨eO (4::done) (ib gn bs fs rv b11 hX) t0,jF b11 v0 v1 v2 v3 v4 gn bs fs rv (4::done) h0⟩:=d;show eH P T _ ⟨eO done (ib gn bs fs rv b11 hX) t0,jF b11 v0 v1 v2 v3 v4 gn bs fs rv done h0⟩ K';refine jf ((gX (done:=done) (ib gn bs fs rv b11 hX) t0 rfl).trans q) ?_;show K' ⟨gy (eO done (ib gn bs fs rv b11 hX) t0) 96 _,jF b11 v0 v1 v2 v3 v4 gn bs fs rv done h0⟩;rw[dS (k:=4) (ib gn bs fs rv b11 hX) t0 xE oO (qM 4 rfl)];exact d
  |5,hj=>
   cases hj;have d:K' ⟨eO (5::done) (ib gn bs fs rv b11 hX) t0,jF b11 v0 v1 v2 v3 v4 gn bs fs rv (5::done) h0⟩:=d;show eH P T _ ⟨eO done (ib gn bs fs rv b11 hX) t0,jF b11 v0 v1 v2 v3 v4 gn bs fs rv done h0⟩ K';refine jw (v:=qI gn) (dF (done:=done) (hq 4 qD) (ib gn bs fs rv b11 hX) t0 oO (qM 4 rfl)) r qD ⟨by show(0:Nat)<38;decide,rfl⟩ ?_;show K' ⟨gy (eO done (ib gn bs fs rv b11 hX) t0) 97 _,jF b11 v0 v1 v2 v3 v4 gn bs fs rv done h0⟩;rw[dS (k:=5) (ib gn bs fs rv b11 hX) t0 xE oO (qM 5 rfl)];exact d
  |6,hj=>
   cases hj;have d:K' ⟨eO (6::done) (ib gn bs fs rv b11 hX) t0,jF b11 v0 v1 v2 v3 v4 gn bs fs rv (6::done) h0⟩:=d;show eH P T _ ⟨eO done (ib gn bs fs rv b11 hX) t0,jF b11 v0 v1 v2 v3 v4 gn bs fs rv done h0⟩ K';refine jf ((gX (done:=done) (ib gn bs fs rv b11 hX) t0 rfl).trans q) ?_;show K' ⟨gy (eO done (ib gn bs fs rv b11 hX) t0) 98 _,jF b11 v0 v1 v2 v3 v4 gn bs fs rv done h0⟩;rw[dS (k:=6) (ib gn bs fs rv b11 hX) t0 xE oO (qM 6 rfl)];exact d
  |7,hj=>
   cases hj;have d:K' ⟨eO (7::done) (ib gn bs fs rv b11 hX) t0,jF b11 v0 v1 v2 v3 v4 gn bs fs rv (7::done) h0⟩:=d;show eH P T _ ⟨eO done (ib gn bs fs rv b11 hX) t0,jF b11 v0 v1 v2 v3 v4 gn bs fs rv done h0⟩ K';refine jw (v:=qI bs) (dF (done:=done) (hq 6 qD) (ib gn bs fs rv b11 hX) t0 oO (qM 6 rfl)) r qD ⟨by show(1:Nat)<38;decide,rfl⟩ ?_;show K' ⟨gy (eO done (ib gn bs fs rv b11 hX) t0) 99 _,jF b11 v0 v1 v2 v3 v4 gn bs fs rv done h0⟩;rw[dS (k:=7) (ib gn bs fs rv b11 hX) t0 xE oO (qM 7 rfl)];exact d
  |8,hj=>
   cases hj;have d:K' ⟨eO (8::done) (ib gn bs fs rv b11 hX) t0,jF b11 v0 v1 v2 v3 v4 gn bs fs rv (8::done) h0⟩:=d;show eH P T _ ⟨eO done (ib gn bs fs rv b11 hX) t0,jF b11 v0 v1 v2 v3 v4 gn bs fs rv done h0⟩ K';refine jf ((gX (done:=done) (ib gn bs fs rv b11 hX) t0 rfl).trans q) ?_;show K' ⟨gy (eO done (ib gn bs fs rv b11 hX) t0) 100 _,jF b11 v0 v1 v2 v3 v4 gn bs fs rv done h0⟩;rw[dS (k:=8) (ib gn bs fs rv b11 hX) t0 xE oO (qM 8 rfl)];exact d
  |9,hj=>
   cases hj;have d:K' ⟨eO (9::done) (ib gn bs fs rv b11 hX) t0,jF b11 v0 v1 v2 v3 v4 gn bs fs rv (9::done) h0⟩:=d;show eH P T _ ⟨eO done (ib gn bs fs rv b11 hX) t0,jF b11 v0 v1 v2 v3 v4 gn bs fs rv done h0⟩ K';refine o0 (cs:=Vo fs) (dF (done:=done) (hq 8 qD) (ib gn bs fs rv b11 hX) t0 oO (qM 8 rfl)) r qD ⟨by show(3:Nat)+16<=38;decide,rfl⟩ ?_;show K' ⟨gy (eO done (ib gn bs fs rv b11 hX) t0) 101 _,jF b11 v0 v1 v2 v3 v4 gn bs fs rv done h0⟩;rw[dS (k:=9) (ib gn bs fs rv b11 hX) t0 xE oO (qM 9 rfl)];exact d
  |10,hj=>
   cases hj;have d:K' ⟨eO (10::done) (ib gn bs fs rv b11 hX) t0,jF b11 v0 v1 v2 v3 v4 gn bs fs rv (10::done) h0⟩:=d;show eH P T _ ⟨eO done (ib gn bs fs rv b11 hX) t0,jF b11 v0 v1 v2 v3 v4 gn bs fs rv done h0⟩ K';refine jf ((gX (done:=done) (ib gn bs fs rv b11 hX) t0 rfl).trans q) ?_;show K' ⟨gy (eO done (ib gn bs fs rv b11 hX) t0) 102 _,jF b11 v0 v1 v2 v3 v4 gn bs fs rv done h0⟩;rw[dS (k:=10) (ib gn bs fs rv b11 hX) t0 xE oO (qM 10 rfl)];exact d
  |11,hj=>
   cases hj;have d:K' ⟨eO (11::done) (ib gn bs fs rv b11 hX) t0,jF b11 v0 v1 v2 v3 v4 gn bs fs rv (11::done) h0⟩:=d;show eH P T _ ⟨eO done (ib gn bs fs rv b11 hX) t0,jF b11 v0 v1 v2 v3 v4 gn bs fs rv done h0⟩ K';refine jw (v:=rv) (dF (done:=done) (hq 10 qD) (ib gn bs fs rv b11 hX) t0 oO (qM 10 rfl)) r qD ⟨by show(35:Nat)<38;decide,rfl⟩ ?_;show K' ⟨gy (eO done (ib gn bs fs rv b11 hX) t0) 103 _,jF b11 v0 v1 v2 v3 v4 gn bs fs rv done h0⟩;rw[dS (k:=11) (ib gn bs fs rv b11 hX) t0 xE oO (qM 11 rfl)];exact d
  |12,hj=>
   cases hj;have d:K' ⟨eO (12::done) (ib gn bs fs rv b11 hX) t0,jF b11 v0 v1 v2 v3 v4 gn bs fs rv (12::done) h0⟩:=d;show eH P T _ ⟨eO done (ib gn bs fs rv b11 hX) t0,jF b11 v0 v1 v2 v3 v4 gn bs fs rv done h0⟩ K';refine iR (dF (done:=done) (hq 0 qD) (ib gn bs fs rv b11 hX) t0 oO (.head _)) ?_;show K' ⟨gy (eO done (ib gn bs fs rv b11 hX) t0) 104 _,jF b11 v0 v1 v2 v3 v4 gn bs fs rv done h0⟩;rw[dS (k:=12) (ib gn bs fs rv b11 hX) t0 xE oO (qM 12 rfl)];exact d
  |13,hj=>
   cases hj;have d:K' ⟨eO (13::done) (ib gn bs fs rv b11 hX) t0,jF b11 v0 v1 v2 v3 v4 gn bs fs rv (13::done) h0⟩:=d;show eH P T _ ⟨eO done (ib gn bs fs rv b11 hX) t0,jF b11 v0 v1 v2 v3 v4 gn bs fs rv done h0⟩ K';refine jf (dF (done:=done) (hq 12 qD) (ib gn bs fs rv b11 hX) t0 oO (qM 12 rfl)) ?_;show K' ⟨gy (eO done (ib gn bs fs rv b11 hX) t0) 105 _,jF b11 v0 v1 v2 v3 v4 gn bs fs rv done h0⟩;rw[dS (k:=13) (ib gn bs fs rv b11 hX) t0 xE oO (qM 13 rfl)];exact d
  |14,hj=>
   cases hj;have d:K' ⟨eO (14::done) (ib gn bs fs rv b11 hX) t0,jF b11 v0 v1 v2 v3 v4 gn bs fs rv (14::done) h0⟩:=d;show eH P T _ ⟨eO done (ib gn bs fs rv b11 hX) t0,jF b11 v0 v1 v2 v3 v4 gn bs fs rv done h0⟩ K';have h:fq done 17=false:=by
    cases u:fq done 17
    ·rfl
    ·exact absurd (s 17 _ _ rfl u 14 qD) (by rw[hf];decide)
   have z20:fq done 20=false:=by
    cases u:fq done 20
    ·rfl
    ·exact absurd (s 20 _ _ rfl u 14 qD) (by rw[hf];decide)
   have l:fq done 23=false:=by
    cases u:fq done 23
    ·rfl
    ·exact absurd (s 23 _ _ rfl u 14 qD) (by rw[hf];decide)
   have g:wC v0 v1 v2 v3 v4 gn bs fs rv done=AV v0 v1 v2 v3 v4 gn bs fs rv:=by
    unfold wC;simp[h,z20,l,hf]
   have f:wC v0 v1 v2 v3 v4 gn bs fs rv (14::done)=OB v0 v1 v2 v3 v4 gn bs fs rv:=by
    unfold wC;rw[cm (i:=14) (j:=17) qD,cm (i:=14) (j:=20) qD,cm (i:=14) (j:=23) qD,ik];simp[h,z20,l]
   refine lT (v:=qI gn) (dF (done:=done) (hq 13 qD) (ib gn bs fs rv b11 hX) t0 oO (qM 13 rfl)) (dF (done:=done) (hq 5 qD) (ib gn bs fs rv b11 hX) t0 oO (qM 5 rfl)) ⟨rfl,rfl⟩ (yD (b11:=b11) (done:=done) (h0:=h0) g) qD (by show(5:Nat)+1<=31;decide) ?_;show K' ⟨eO done (ib gn bs fs rv b11 hX) t0,Hp.put (jF b11 v0 v1 v2 v3 v4 gn bs fs rv done h0) 53 ⟨some b11,58,31,[kf (AV v0 v1 v2 v3 v4 gn bs fs rv) 5 (V.cells (qI gn))]⟩⟩;rw[<-mf (k:=14) (ib gn bs fs rv b11 hX) t0 rfl];rw[uK (b11:=b11) (h0:=h0) (i:=14) f (by rfl)];exact d
  |15,hj=>
   cases hj;have d:K' ⟨eO (15::done) (ib gn bs fs rv b11 hX) t0,jF b11 v0 v1 v2 v3 v4 gn bs fs rv (15::done) h0⟩:=d;show eH P T _ ⟨eO done (ib gn bs fs rv b11 hX) t0,jF b11 v0 v1 v2 v3 v4 gn bs fs rv done h0⟩ K';refine iR (dF (done:=done) (hq 1 qD) (ib gn bs fs rv b11 hX) t0 oO (qM 1 rfl)) ?_;show K' ⟨gy (eO done (ib gn bs fs rv b11 hX) t0) 106 _,jF b11 v0 v1 v2 v3 v4 gn bs fs rv done h0⟩;rw[dS (k:=15) (ib gn bs fs rv b11 hX) t0 xE oO (qM 14 rfl)];exact d
  |16,hj=>
   cases hj;have d:K' ⟨eO (16::done) (ib gn bs fs rv b11 hX) t0,jF b11 v0 v1 v2 v3 v4 gn bs fs rv (16::done) h0⟩:=d;show eH P T _ ⟨eO done (ib gn bs fs rv b11 hX) t0,jF b11 v0 v1 v2 v3 v4 gn bs fs rv done h0⟩ K';refine jf (dF (done:=done) (hq 15 qD) (ib gn bs fs rv b11 hX) t0 oO (qM 14 rfl)) ?_;show K' ⟨gy (eO done (ib gn bs fs rv b11 hX) t0) 107 _,jF b11 v0 v1 v2 v3 v4 gn bs fs rv done h0⟩;rw[dS (k:=16) (ib gn bs fs rv b11 hX) t0 xE oO (qM 15 rfl)];exact d
  |17,hj=>
   cases hj;have d:K' ⟨eO (17::done) (ib gn bs fs rv b11 hX) t0,jF b11 v0 v1 v2 v3 v4 gn bs fs rv (17::done) h0⟩:=d;show eH P T _ ⟨eO done (ib gn bs fs rv b11 hX) t0,jF b11 v0 v1 v2 v3 v4 gn bs fs rv done h0⟩ K';have z20:fq done 20=false:=by
    cases u:fq done 20
    ·rfl
    ·exact absurd (s 20 _ _ rfl u 17 qD) (by rw[hf];decide)
   have l:fq done 23=false:=by
    cases u:fq done 23
    ·rfl
    ·exact absurd (s 23 _ _ rfl u 17 qD) (by rw[hf];decide)
   have m:fq done 14=true:=hq 14 qD;have g:wC v0 v1 v2 v3 v4 gn bs fs rv done=OB v0 v1 v2 v3 v4 gn bs fs rv:=by
    unfold wC;simp[m,z20,l,hf]
   have f:wC v0 v1 v2 v3 v4 gn bs fs rv (17::done)=OC v0 v1 v2 v3 v4 gn bs fs rv:=by
    unfold wC;rw[cm (i:=17) (j:=14) qD,cm (i:=17) (j:=20) qD,cm (i:=17) (j:=23) qD,ik];simp[m,z20,l]
   refine lT (v:=qI bs) (dF (done:=done) (hq 16 qD) (ib gn bs fs rv b11 hX) t0 oO (qM 15 rfl)) (dF (done:=done) (hq 7 qD) (ib gn bs fs rv b11 hX) t0 oO (qM 7 rfl)) ⟨rfl,rfl⟩ (yD (b11:=b11) (done:=done) (h0:=h0) g) qD (by show(6:Nat)+1<=31;decide) ?_;show K' ⟨eO done (ib gn bs fs rv b11 hX) t0,Hp.put (jF b11 v0 v1 v2 v3 v4 gn bs fs rv done h0) 53 ⟨some b11,58,31,[kf (OB v0 v1 v2 v3 v4 gn bs fs rv) 6 (V.cells (qI bs))]⟩⟩;rw[<-mf (k:=17) (ib gn bs fs rv b11 hX) t0 rfl];rw[uK (b11:=b11) (h0:=h0) (i:=17) f (by rfl)];exact d
  |18,hj=>
   cases hj;have d:K' ⟨eO (18::done) (ib gn bs fs rv b11 hX) t0,jF b11 v0 v1 v2 v3 v4 gn bs fs rv (18::done) h0⟩:=d;show eH P T _ ⟨eO done (ib gn bs fs rv b11 hX) t0,jF b11 v0 v1 v2 v3 v4 gn bs fs rv done h0⟩ K';refine iR (dF (done:=done) (hq 2 qD) (ib gn bs fs rv b11 hX) t0 oO (qM 2 rfl)) ?_;show K' ⟨gy (eO done (ib gn bs fs rv b11 hX) t0) 108 _,jF b11 v0 v1 v2 v3 v4 gn bs fs rv done h0⟩;rw[dS (k:=18) (ib gn bs fs rv b11 hX) t0 xE oO (qM 16 rfl)];exact d
  |19,hj=>
   cases hj;have d:K' ⟨eO (19::done) (ib gn bs fs rv b11 hX) t0,jF b11 v0 v1 v2 v3 v4 gn bs fs rv (19::done) h0⟩:=d;show eH P T _ ⟨eO done (ib gn bs fs rv b11 hX) t0,jF b11 v0 v1 v2 v3 v4 gn bs fs rv done h0⟩ K';refine jf (dF (done:=done) (hq 18 qD) (ib gn bs fs rv b11 hX) t0 oO (qM 16 rfl)) ?_;show K' ⟨gy (eO done (ib gn bs fs rv b11 hX) t0) 109 _,jF b11 v0 v1 v2 v3 v4 gn bs fs rv done h0⟩;rw[dS (k:=19) (ib gn bs fs rv b11 hX) t0 xE oO (qM 17 rfl)];exact d
  |20,hj=>
   cases hj;have d:K' ⟨eO (20::done) (ib gn bs fs rv b11 hX) t0,jF b11 v0 v1 v2 v3 v4 gn bs fs rv (20::done) h0⟩:=d;show eH P T _ ⟨eO done (ib gn bs fs rv b11 hX) t0,jF b11 v0 v1 v2 v3 v4 gn bs fs rv done h0⟩ K';have l:fq done 23=false:=by
    cases u:fq done 23
    ·rfl
    ·exact absurd (s 23 _ _ rfl u 20 qD) (by rw[hf];decide)
   have m:fq done 14=true:=hq 14 qD;have h:fq done 17=true:=hq 17 qD;have g:wC v0 v1 v2 v3 v4 gn bs fs rv done=OC v0 v1 v2 v3 v4 gn bs fs rv:=by
    unfold wC;simp[m,h,l,hf]
   have f:wC v0 v1 v2 v3 v4 gn bs fs rv (20::done)=OD v0 v1 v2 v3 v4 gn bs fs rv:=by
    unfold wC;rw[cm (i:=20) (j:=14) qD,cm (i:=20) (j:=17) qD,cm (i:=20) (j:=23) qD,ik];simp[m,h,l]
   refine lT (v:=.agg (Vo fs)) (dF (done:=done) (hq 19 qD) (ib gn bs fs rv b11 hX) t0 oO (qM 17 rfl)) (dF (done:=done) (hq 9 qD) (ib gn bs fs rv b11 hX) t0 oO (qM 9 rfl)) ⟨rfl,rfl⟩ (yD (b11:=b11) (done:=done) (h0:=h0) g) qD (by show(7:Nat)+16<=31;decide) ?_;show K' ⟨eO done (ib gn bs fs rv b11 hX) t0,Hp.put (jF b11 v0 v1 v2 v3 v4 gn bs fs rv done h0) 53 ⟨some b11,58,31,[kf (OC v0 v1 v2 v3 v4 gn bs fs rv) 7 (V.cells (.agg (Vo fs)))]⟩⟩;rw[<-mf (k:=20) (ib gn bs fs rv b11 hX) t0 rfl];rw[uK (b11:=b11) (h0:=h0) (i:=20) f (by rfl)];exact d
  |21,hj=>
   cases hj;have d:K' ⟨eO (21::done) (ib gn bs fs rv b11 hX) t0,jF b11 v0 v1 v2 v3 v4 gn bs fs rv (21::done) h0⟩:=d;show eH P T _ ⟨eO done (ib gn bs fs rv b11 hX) t0,jF b11 v0 v1 v2 v3 v4 gn bs fs rv done h0⟩ K';refine iR (dF (done:=done) (hq 3 qD) (ib gn bs fs rv b11 hX) t0 oO (qM 3 rfl)) ?_;show K' ⟨gy (eO done (ib gn bs fs rv b11 hX) t0) 110 _,jF b11 v0 v1 v2 v3 v4 gn bs fs rv done h0⟩;rw[dS (k:=21) (ib gn bs fs rv b11 hX) t0 xE oO (qM 18 rfl)];exact d
  |22,hj=>
   cases hj;have d:K' ⟨eO (22::done) (ib gn bs fs rv b11 hX) t0,jF b11 v0 v1 v2 v3 v4 gn bs fs rv (22::done) h0⟩:=d;show eH P T _ ⟨eO done (ib gn bs fs rv b11 hX) t0,jF b11 v0 v1 v2 v3 v4 gn bs fs rv done h0⟩ K';refine jf (dF (done:=done) (hq 21 qD) (ib gn bs fs rv b11 hX) t0 oO (qM 18 rfl)) ?_;show K' ⟨gy (eO done (ib gn bs fs rv b11 hX) t0) 111 _,jF b11 v0 v1 v2 v3 v4 gn bs fs rv done h0⟩;rw[dS (k:=22) (ib gn bs fs rv b11 hX) t0 xE oO (qM 19 rfl)];exact d
  |23,hj=>
   cases hj;have d:K' ⟨eO (23::done) (ib gn bs fs rv b11 hX) t0,jF b11 v0 v1 v2 v3 v4 gn bs fs rv (23::done) h0⟩:=d;show eH P T _ ⟨eO done (ib gn bs fs rv b11 hX) t0,jF b11 v0 v1 v2 v3 v4 gn bs fs rv done h0⟩ K';have m:fq done 14=true:=hq 14 qD;have h:fq done 17=true:=hq 17 qD;have z20:fq done 20=true:=hq 20 qD;have g:wC v0 v1 v2 v3 v4 gn bs fs rv done=OD v0 v1 v2 v3 v4 gn bs fs rv:=by
    unfold wC;simp[m,h,z20,hf]
   have f:wC v0 v1 v2 v3 v4 gn bs fs rv (23::done)=KX v0 v1 v2 v3 v4 gn bs fs rv:=by
    unfold wC;rw[cm (i:=23) (j:=14) qD,cm (i:=23) (j:=17) qD,cm (i:=23) (j:=20) qD,ik];simp[m,h,z20]
   refine lT (v:=rv) (dF (done:=done) (hq 22 qD) (ib gn bs fs rv b11 hX) t0 oO (qM 19 rfl)) (dF (done:=done) (hq 11 qD) (ib gn bs fs rv b11 hX) t0 oO (qM 11 rfl)) ⟨(tl y).a,(tl y).b⟩ (yD (b11:=b11) (done:=done) (h0:=h0) g) qD (by show(24:Nat)+1<=31;decide) ?_;show K' ⟨eO done (ib gn bs fs rv b11 hX) t0,Hp.put (jF b11 v0 v1 v2 v3 v4 gn bs fs rv done h0) 53 ⟨some b11,58,31,[kf (OD v0 v1 v2 v3 v4 gn bs fs rv) 24 (V.cells (rv))]⟩⟩;rw[<-mf (k:=23) (ib gn bs fs rv b11 hX) t0 rfl];rw[(tl y).c];rw[uK (b11:=b11) (h0:=h0) (i:=23) f (by rfl)];exact d
  |i+24,hj=>exact absurd (aj.1 hj).1 (by show¬i+24<24;omega)
 ·show K ⟨eO done (ib gn bs fs rv b11 hX) t0,jF b11 v0 v1 v2 v3 v4 gn bs fs rv done h0⟩;rw[nX _ _ (λp hp=>hd p.1 ?_)]
  ·have e:jF b11 v0 v1 v2 v3 v4 gn bs fs rv done h0=Gm [(53,some ⟨some b11,58,31,[KX v0 v1 v2 v3 v4 gn bs fs rv]⟩)] h0:=by
    funext k
    unfold jF;simp only[Gm];have A:wC v0 v1 v2 v3 v4 gn bs fs rv done=KX v0 v1 v2 v3 v4 gn bs fs rv:=by
     unfold wC;rw[ae (hd 23 qD)]
    rw[A]
    by_cases hk:k=53
    ·subst hk;rfl
    ·have:Nat.beq k 53=false:=by
      cases hb:Nat.beq k 53
      ·rfl
      ·exact absurd (bA hb) hk
     rw[aa hk,this]
   rw[e];exact hK
  ·have hm:p.1∈(ib gn bs fs rv b11 hX).map (·.1):=aC.2 ⟨p,hp,rfl⟩;have gf:∀x∈([0,1,2,3,4,5,6,7,8,9,10,11,12,13,15,16,18,19,21,22]:List Nat),x<24:=by decide
   exact gf _ hm
 ·show(⟨t0,h0⟩:S)=⟨eO [] (ib gn bs fs rv b11 hX) t0,jF b11 v0 v1 v2 v3 v4 gn bs fs rv [] h0⟩;rw[nW]
  congr 1
  funext k
  unfold jF
  by_cases hk:k=53
  ·rw[ae hk,hk,z];rfl
  ·rw[aa hk]
end
def AW:AC:=qr [qo 2 (.alloc 49 Qb)] (qr [qm 3 0,qm 4 0,qo 5 (.len true (.t 4)),qo 6 (.build Qb [(0,1,(.t 3)),(1,1,(.t 5))]),qs 2 2 6] .ret)
theorem KY:fF Tryz.prog 30 Tryz.f30 AW [.cn 2 2] 1 er:=⟨Tryz.func30,by decide+kernel,by kernel_rfl,by kernel_rfl,by decide+kernel⟩
theorem KZ(P:Prim)(hP:P=dn)(T b:c8)(s:BS)(n:Int)(hn:P.c9 s=n)(R:S->Prop)(c:∀s' a m,m=n->c6 s' a->iH [.cn 2 2] [.agg [.str s,qI m]] a->R s'):gj P T b AW (S0 [.str s] Hp.emp) R (λ_ _=>False) R:=by
 cbv
 repeat' first|(refine qA ?_;cbv)|(intro d;cbv)
 exact c _ _ _ hn (c6.refl _) ⟨rfl,rfl,an 0,ah 2,rfl⟩
theorem pW(s:BS):Spec Tryz.prog 30 [.str s] Hp.emp (Is (.agg [.str s,.int .i64 (s.length:Int)])):=
 ep iD KY [.agg [.str s,.int .i64 (s.length:Int)]] (.agg _ (by simp;exact⟨.str _,.int _ _⟩)) λR b=>KZ dn rfl _ _ s _ rfl R λs' a m hm he hr=>by subst hm;exact b s' a he hr
structure iq where
 x1:BS
 x2:Int
 x3:BS
 x4:Int
 dE:Int
 gn:Int
 b:Int
 fs:Nat->Int
 sf:Int
 mv:Bool
 to:Int
 pt:Int
 wh:Bool
 gH:Bool
def AX(d:iq)(tv rv:V):List V:=[.str d.x1,.int .i64 d.x2,.str d.x3,.int .i64 d.x4,.int .i64 d.dE,.int .i64 d.gn,.int .i64 d.b,.int .i64 (d.fs 0),.int .i64 (d.fs 1),.int .i64 (d.fs 2),.int .i64 (d.fs 3),.int .i64 (d.fs 4),.int .i64 (d.fs 5),.int .i64 (d.fs 6),.int .i64 (d.fs 7),.int .i64 (d.fs 8),.int .i64 (d.fs 9),.int .i64 (d.fs 10),.int .i64 (d.fs 11),.int .i64 (d.fs 12),.int .i64 (d.fs 13),.int .i64 (d.fs 14),.int .i64 (d.fs 15),tv,rv,.int .i64 d.sf,.bool d.mv,.int .i64 d.to,.int .i64 d.pt,.bool d.wh,.bool d.gH]
def fI(bl:Nat)(d:iq)(tv rv:V):Ob:=⟨some bl,58,31,[AX d tv rv]⟩
theorem lD{bl:Nat}{d:iq}{tr lr:List (List V)}(ht:∀r∈tr,∀v∈r,Fz v)(hl:∀r∈lr,∀v∈r,Fz v):(fI bl d (.sl false 1 tr) (.sl false 3 lr)).Fz:=by
 intro r hr v hv;simp only[fI,aq] at hr;subst hr;simp only[AX,aw,aD,bw] at hv
 rcases hv with rfl|rfl|rfl|rfl|rfl|rfl|rfl|rfl|rfl|rfl|rfl|rfl|rfl|rfl|rfl|rfl|rfl|rfl|rfl|rfl|rfl|rfl|rfl|rfl|rfl|rfl|rfl|rfl|rfl|rfl|rfl<;>first|exact .sl _ _ ht|exact .sl _ _ hl|constructor
theorem R1{f k bl:Nat}{d:iq}{tr lr:List (List V)}(ht:∀r∈tr,∀v∈r,Fz v)(hl:∀r∈lr,∀v∈r,Fz v){rest a:List V}{v:V}(hs:Spec Tryz.prog f (.ptr 0 (some bl) 31 0 0::a) (cp [(0,fI bl d (.sl false 1 tr) (.sl false 3 lr))]) λx h'=>∃c,(x=v/\c=[(0,fI bl d (.sl false 1 tr) (.sl false 3 lr))])/\h'=cp c)(b:∀h m,mH h m rest a)(hv:∀g,v.gM g=v)
  {h:Hp}{K:V->Hp->Prop}(hk:h k=some (fI bl d (.sl false 1 tr) (.sl false 3 lr)))(hK:K v h):fX Tryz.prog f (.ptr k (some bl) 31 0 0::rest) h K:=by
 refine RQ [(0,k)] hs (.cons ?_ (b h _)) (by simp) (by simp) rfl (λp hp=>?_) (by rw[hv];exact hK)
 ·have:=Arg.same (h:=h) (m:=[(0,k)]) (.ptr k (some bl) 31 0 0);simpa[V.gM,V.rl,gW] using this
 ·simp only[aq] at hp;subst hp;exact⟨by show(h k).map _=_;rw[hk];rfl,lD ht hl⟩
theorem R3{f k bl:Nat}{d:iq}{tr lr:List (List V)}(ht:∀r∈tr,∀v∈r,Fz v)(hl:∀r∈lr,∀v∈r,Fz v){rest a:List V}{v:V}(hs:Spec Tryz.prog f (.ptr 0 (some bl) 31 0 0::a) (cp [(0,fI bl d (.sl false 1 tr) (.sl false 3 lr))]) λx h'=>∃c,(x=v/\c=[(0,fI bl d (.sl false 1 tr) (.sl false 3 lr))])/\h'=cp c)(b:∀h m,mH h m rest a)(hv:∀g,v.gM g=v)
  {h:Hp}{K:V->Hp->Prop}(hk:h k=some (fI bl d (.sl false 1 tr) (.sl false 3 lr)))(hK:K v h):fm Tryz.prog f (.ptr k (some bl) 31 0 0::rest) h K:=by
 refine xv [(0,k)] hs (.cons ?_ (b h _)) (by simp) (by simp) (by simp) (λp hp=>?_) (λp hp=>?_) ?_ ?_
 ·have:=Arg.same (h:=h) (m:=[(0,k)]) (.ptr k (some bl) 31 0 0);simpa[V.gM,V.rl,gW] using this
 ·simp only[aq] at hp;subst hp;exact⟨_,aq.2 rfl,rfl⟩
 ·simp only[aq] at hp;subst hp;exact⟨by show(h k).map _=_;rw[hk];rfl,lD ht hl⟩
 ·rintro x c ⟨rfl,rfl⟩;rfl
 ·rintro x c ⟨rfl,rfl⟩;rw[hv];have e:h.fK (mb [(0,k)] (Ob.gM (gD [(0,k)])) [(0,fI bl d (.sl false 1 tr) (.sl false 3 lr))])=h:=by
   funext i
   show(match(if i=k then some _ else none) with|some o=>some o|none=>h i)=_
   by_cases hi:i=k
   ·rw[ae hi,hi,hk];rfl
   ·rw[aa hi]
  rw[e];exact hK
def EG:AC:=qr [qz 2 0] (qq (.region true [qm 3 0,qn 4 3,qf 5 6 4,ql 6 5,qm 7 0,qn 8 7,qf 9 24 8,ql 10 9,qo 11 (.len false (.t 10)),qb 12 .add 6 11,qm 2 12]) .ret)
theorem OE:fF Tryz.prog 35 Tryz.f35 EG [.t 2] 1 er:=⟨Tryz.func35,by decide+kernel,by kernel_rfl,by kernel_rfl,by decide+kernel⟩
theorem OF(P:Prim)(hP:P=dn)(T a:c8)(bl:Nat)(d:iq)(tr lr:List (List V))(q1:P.i64 (P.add d.b (P.dv lr)))(r:Int)(hr:P.add d.b (P.dv lr)=r)
  (R:S->Prop)(c:∀s s' q,q=r->c6 s s'->iH [.t 2] [qI q] s'->fG [(0,fI bl d (.sl false 1 tr) (.sl false 3 lr))] s'->R s):gj P T a EG (S0 [.ptr 0 (some bl) 31 0 0] (cp [(0,fI bl d (.sl false 1 tr) (.sl false 3 lr))])) R (λ_ _=>False) R:=by
 cbv
 repeat' first|(refine qA ?_;cbv)|(intro e;cbv)
 exact c _ _ _ hr (c6.refl _) rfl ⟨rfl,trivial⟩
theorem EH(bl:Nat)(d:iq)(tr lr:List (List V))(ht:∀r∈tr,∀v∈r,Fz v)(hl:∀r∈lr,∀v∈r,Fz v)(hb:0<=d.b/\d.b<=4294967295)(hn:lr.length<=1000):Spec Tryz.prog 35 [.ptr 0 (some bl) 31 0 0] (cp [(0,fI bl d (.sl false 1 tr) (.sl false 3 lr))]) λx h'=>∃a,(x=qI (d.b+(lr.length:Int))/\a=[(0,fI bl d (.sl false 1 tr) (.sl false 3 lr))])/\h'=cp a:=
 fu iD OE (L:=[(0,fI bl d (.sl false 1 tr) (.sl false 3 lr))]) (λx a=>x=qI (d.b+(lr.length:Int))/\a=[(0,fI bl d (.sl false 1 tr) (.sl false 3 lr))]) λR c=>
  OF dn rfl _ _ bl d tr lr (by show-9223372036854775808<=d.b+(lr.length:Int)/\d.b+(lr.length:Int)<=9223372036854775807;omega) _ rfl R λs s' q hq he hr ha=>c s s' _ _ he (eM _ _ _ (λx hx=>by rw[hx,hq];rfl) hr) ha (.int _ _) (λp hp=>by simp only[aq] at hp;subst hp;exact lD ht hl) ⟨rfl,rfl⟩
def my(T:c8):Prop:=∀(k bl:Nat)(d:iq)(tr lr:List (List V))(h:Hp)(K:V->Hp->Prop),(∀r∈tr,∀v∈r,Fz v)->(∀r∈lr,∀v∈r,Fz v)->(0<=d.b/\d.b<=4294967295)->lr.length<=1000->h k=some (fI bl d (.sl false 1 tr) (.sl false 3 lr))->(∀q,q=d.b+(lr.length:Int)->K (qI q) h)->T 35 [.ptr k (some bl) 31 0 0] h K
theorem pX:my (fm Tryz.prog):=λk bl d tr lr h K ht hl hb hn hk hK=>R3 ht hl (EH bl d tr lr ht hl hb hn) (λ_ _=>.nil) (λ_=>rfl) hk (hK _ rfl)
theorem CP:my (fX Tryz.prog):=λk bl d tr lr h K ht hl hb hn hk hK=>R1 ht hl (EH bl d tr lr ht hl hb hn) (λ_ _=>.nil) (λ_=>rfl) hk (hK _ rfl)
def kY:AC:=qr [qo 1 (.box 52 4 (.t 0)),qo 2 (.mov (.c (.pointer none))),qz 3 0] (qq (qr [qd 13 4 1,qa 14 96 [.t 13],qm 4 14] (qr [qm 15 4,qc 16 .neq 15 0] (qu 16 (qr [qm 17 4,qo 2 (.mov (.c (.pointer none))),qm 3 17] .ret) .skip))) (qr [qf 19 0 1,qo 20 (.iarr 2 2 (.t 19) (qk 0)),qf 21 0 20,ql 22 21,qa 23 97 [.t 22],qm 18 23,qx 24 0 18,qx 25 1 18,qo 5 (.alloc 72 xJ),qs 38 5 24,qm 6 25] (qr [qf 27 0 1,qo 28 (.iarr 2 2 (.t 27) (qk 1)),qf 29 0 28,ql 30 29,qa 31 97 [.t 30],qm 26 31,qx 32 0 26,qx 33 1 26,qo 7 (.alloc 72 xJ),qs 38 7 32,qm 8 33] (qq (.region true [qm 34 6,qc 35 .eql 34 0,qm 36 35,qg 37 36 true (.faddr 36 (.t 5)),qg 38 36 true (.load1 (.t 37)),qo 39 (.pick (.t 36) (.t 38) (.c (.bool false))),qm 40 8,qc 41 .eql 40 0,qm 42 41,qg 43 42 true (.faddr 36 (.t 7)),qg 44 42 true (.load1 (.t 43)),qo 45 (.pick (.t 42) (.t 44) (.c (.bool false))),qm 9 39,qm 10 45]) (qq (qr [qm 46 9,qo 47 (.not (.t 46)),qm 48 47,qg 49 48 true (.mov (.t 10)),qg 50 48 true (.not (.t 49)),qo 51 (.pick (.t 48) (.t 50) (.c (.bool false)))] (qu 51 (qr [qo 2 (.mov (.c (.pointer none))),qz 3 12] .ret) .skip)) (qr [qo 52 (.build Tf []),qo 53 (.box 58 31 (.t 52)),qm 11 53] (qr [qd 54 38 5,qo 12 (.alloc 72 xJ),qs 38 12 54] (qq (qr [qm 55 9,qo 56 (.not (.t 55)),qm 57 56,qg 58 57 false (.mov (.t 10)),qg 59 57 false (.mov (.t 58)),qg 60 59 true (.faddr 0 (.t 7)),qg 61 59 true (.load1 (.t 60)),qg 62 59 true (.faddr 0 (.t 5)),qg 63 59 true (.load1 (.t 62)),qg 64 59 true (.bin .gtr (.t 61) (.t 63)),qg 65 57 false (.pick (.t 59) (.t 64) (.c (.bool false))),qo 66 (.pick (.t 57) (.c (.bool true)) (.t 65))] (qu 66 (.jN [(qm 67 11,[]),(qd 68 38 7,[]),(qn 69 67,[0,0]),(qf 70 4 69,[2,0]),(⟨none,none,.store 1 (.t 70) (qk 1)⟩,[3,0]),(qs 38 12 68,[1,4,0,1,2,3,4])]) .skip)) (qq (.region true [qm 71 11,qm 72 11,qn 73 72,qf 74 4 73,ql 75 74,qm 76 11,qn 77 76,qf 78 4 77,ql 79 78,qf 80 0 1,qo 81 (.iarr 2 2 (.t 80) (.t 79)),qf 82 0 81,ql 83 82,qf 84 37 12,ql 85 84,qo 86 (.slstr (.t 83) none (some (.t 85))),qa 87 30 [.t 86],qn 88 71,qf 89 0 88,qf 90 0 89,qo 91 (.iarr 2 2 (.t 90) (.t 75)),qs 2 91 87]) (qq (.jN [(qm 92 11,[]),(qm 93 11,[]),(qm 94 11,[]),(qm 95 11,[]),(qf 96 0 12,[]),(ql 97 96,[4]),(qf 98 1 12,[]),(ql 99 98,[6]),(qf 100 3 12,[]),(qd 101 16 100,[8]),(qf 102 35 12,[]),(ql 103 102,[10]),(qn 104 92,[0,0,4,5]),(qf 105 5 104,[12,0,4,5]),(qs 1 105 97,[13,5,0,4,5]),(qn 106 93,[1,0,1,4,5,6,7,12,13,14]),(qf 107 6 106,[15,0,1,4,5,6,7,12,13,14]),(qs 1 107 99,[16,7,14,0,1,4,5,6,7,12,13,14]),(qn 108 94,[2,0,1,2,4,5,6,7,8,9,12,13,14,15,16,17]),(qf 109 7 108,[18,0,1,2,4,5,6,7,8,9,12,13,14,15,16,17]),(qs 16 109 101,[19,9,17,0,1,2,4,5,6,7,8,9,12,13,14,15,16,17]),(qn 110 95,[3,0,1,2,3,4,5,6,7,8,9,10,11,12,13,14,15,16,17,18,19,20]),(qf 111 24 110,[21,0,1,2,3,4,5,6,7,8,9,10,11,12,13,14,15,16,17,18,19,20]),(qs 1 111 103,[22,11,20,0,1,2,3,4,5,6,7,8,9,10,11,12,13,14,15,16,17,18,19,20])]) (qr [qm 113 11,qf 114 2 12,ql 115 114,qf 116 35 12,ql 117 116,qa 118 98 [.t 115,.t 117],qm 112 118,qx 119 0 112,qx 120 1 112,qn 121 113,qf 122 23 121,qs 1 122 119] (qr [qm 123 11,qm 124 11,qa 125 35 [.t 124],qn 126 123,qf 127 25 126,qs 1 127 125] (qr [qm 128 11,qm 2 128,qz 3 0] .ret)))))))))))))
theorem K1:fF Tryz.prog 55 Tryz.f55 kY [.t 2,.t 3] 1 er:=⟨Tryz.func55,by decide+kernel,by kernel_rfl,by kernel_rfl,by decide+kernel⟩
def Vp(i:Int):List V:=AV (.str []) (.int .i64 0) (.str []) (.int .i64 0) (.int .i64 i) 0 0 (λ_=>0) .nilsl
def Vq(a1:BS)(a2:Int)(b1:BS)(b2:Int)(r0 c:List V)(s:S):Prop:=∃a b11 b:Nat,PI [(1,.ptr 1 (some a) 4 0 0),(11,.ptr 53 (some b11) 31 0 0),(12,.ptr 12 (some b) 38 0 0)] s/\PJ [(1,some ⟨some a,52,4,[[.str a1,.int .i64 a2,.str b1,.int .i64 b2]]⟩),(53,some ⟨some b11,58,31,[r0]⟩),(12,some ⟨some b,72,38,[c]⟩)] s
def Wx(r0 b:List V)(s:S):Prop:=∃b11 a:Nat,PI [(11,.ptr 53 (some b11) 31 0 0),(12,.ptr 12 (some a) 38 0 0)] s/\PJ [(53,some ⟨some b11,58,31,[r0]⟩),(12,some ⟨some a,72,38,[b]⟩)] s
theorem OG(P:Prim)(hP:P=dn)(T n:c8)(a1:BS)(a2:Int)(b1:BS)(b2:Int)(c:Int)(hc:gK T 96 [.agg [.str a1,qI a2,.str b1,qI b2]] (qI c))
  (LA LB:hI)(i f:Bool)(j d:Int)(ra rb:List (List V))(l:c=0->gK T 97 [.str a1] (.tup [.agg (lF LA.gen LA.base LA.text LA.first LA.table (.sl false 3 ra) i LA.eF),qI j]))(hB:c=0->gK T 97 [.str b1] (.tup [.agg (lF LB.gen LB.base LB.text LB.first LB.table (.sl false 3 rb) f LB.eF),qI d]))
  (N R:S->Prop)(k:∀(s s':S)(e:Int),(c≠0/\e=c)\/(c=0/\¬(j=0/\i=true)/\¬(d=0/\f=true)/\e=12)->c6 s s'->iH [.t 2,.t 3] [.nil,qI e] s'->R s)
  (h0:c=0->(j=0/\i=true)->¬((d=0/\f=true)/\LA.gen<LB.gen)->∀s,Vq a1 a2 b1 b2 (Vp 0) (lF LA.gen LA.base LA.text LA.first LA.table (.sl false 3 ra) i LA.eF) s->N s)
  (h1:c=0->(d=0/\f=true)->((j=0/\i=true)->LA.gen<LB.gen)->∀s,Vq a1 a2 b1 b2 (Vp 1) (lF LB.gen LB.base LB.text LB.first LB.table (.sl false 3 rb) f LB.eF) s->N s):
  gj P T n (pV 9 kY .skip) (S0 [.agg [.str a1,qI a2,.str b1,qI b2]] Hp.emp) N (λ_ _=>False) R:=by
 have b:P.nat 0=0:=by subst hP;rfl
 have n1:P.nat 1=1:=by subst hP;rfl
 have z0:P.fC 0 0:=iu hP qD;have o:P.fC 0 1:=iu hP qD;have p:P.iO 0 2:=kN hP qD;have q:P.iO 1 2:=kN hP qD;cbv
 repeat' first|(refine qA ?_;cbv)|(refine⟨0,b,?_⟩;cbv)|(refine⟨1,n1,?_⟩;cbv)|(intro a;cbv)
 refine hc _ _ ?_;cbv
 repeat' first|(refine qA ?_;cbv)|(refine⟨0,b,?_⟩;cbv)|(refine⟨1,n1,?_⟩;cbv)|(intro a;cbv)
 refine ab (λg=>?_) (λg=>?_)
 ·have g1:c≠0:=hH hP g;cbv
  repeat' first|(refine qA ?_;cbv)|(refine⟨0,b,?_⟩;cbv)|(refine⟨1,n1,?_⟩;cbv)|(intro a;cbv)
  exact k _ _ _ (.inl ⟨g1,rfl⟩) (c6.refl _) rfl
 have g1:c=0:=gZ hP g;have l:=l g1;have hB:=hB g1;have h0:=h0 g1;have h1:=h1 g1;cbv
 repeat' first|(refine qA ?_;cbv)|(refine⟨0,b,?_⟩;cbv)|(refine⟨1,n1,?_⟩;cbv)|(intro a;cbv)
 refine l _ _ ?_;cbv
 repeat' first|(refine qA ?_;cbv)|(refine⟨0,b,?_⟩;cbv)|(refine⟨1,n1,?_⟩;cbv)|(intro a;cbv)
 refine hB _ _ ?_;cbv
 repeat' first|(refine qA ?_;cbv)|(refine⟨0,b,?_⟩;cbv)|(refine⟨1,n1,?_⟩;cbv)|(intro a;cbv)
 refine ab (λg=>?_) (λg=>?_)
 ·have gA:j=0:=nG hP g;clear g;cbv
  repeat' first|(refine qA ?_;cbv)|(refine⟨0,b,?_⟩;cbv)|(refine⟨1,n1,?_⟩;cbv)|(intro a;cbv)
  cases i
  ·
   cbv
   repeat' first|(refine qA ?_;cbv)|(refine⟨0,b,?_⟩;cbv)|(refine⟨1,n1,?_⟩;cbv)|(intro a;cbv)
   refine ab (λg=>?_) (λg=>?_)
   ·have gB:d=0:=nG hP g;clear g;cbv
    repeat' first|(refine qA ?_;cbv)|(refine⟨0,b,?_⟩;cbv)|(refine⟨1,n1,?_⟩;cbv)|(intro a;cbv)
    cases f
    ·
     cbv
     repeat' first|(refine qA ?_;cbv)|(refine⟨0,b,?_⟩;cbv)|(refine⟨1,n1,?_⟩;cbv)|(intro a;cbv)
     exact k _ _ _ (.inr ⟨g1,(λh=>by have:=h.2;contradiction),(λh=>by have:=h.2;contradiction),rfl⟩) (c6.refl _) rfl
    ·
     cbv
     repeat' first|(refine qA ?_;cbv)|(refine⟨0,b,?_⟩;cbv)|(refine⟨1,n1,?_⟩;cbv)|(intro a;cbv)
     repeat' first|(refine BL.mk ?_ ?_;cbv)|(refine qA ?_;cbv)
     all_goals(refine h1 ⟨gB,rfl⟩ (λh=>absurd h (λh=>by have:=h.2;contradiction)) _ ?_;exact⟨_,_,_,⟨rfl,rfl,rfl,trivial⟩,⟨rfl,rfl,rfl,trivial⟩⟩)
   ·have gB:¬d=0:=nH hP g;clear g;cbv
    repeat' first|(refine qA ?_;cbv)|(refine⟨0,b,?_⟩;cbv)|(refine⟨1,n1,?_⟩;cbv)|(intro a;cbv)
    exact k _ _ _ (.inr ⟨g1,(λh=>by have:=h.2;contradiction),(λh=>gB h.1),rfl⟩) (c6.refl _) rfl
  ·
   cbv
   repeat' first|(refine qA ?_;cbv)|(refine⟨0,b,?_⟩;cbv)|(refine⟨1,n1,?_⟩;cbv)|(intro a;cbv)
   refine ab (λg=>?_) (λg=>?_)
   ·have gB:d=0:=nG hP g;clear g;cbv
    repeat' first|(refine qA ?_;cbv)|(refine⟨0,b,?_⟩;cbv)|(refine⟨1,n1,?_⟩;cbv)|(intro a;cbv)
    cases f
    ·
     cbv
     repeat' first|(refine qA ?_;cbv)|(refine⟨0,b,?_⟩;cbv)|(refine⟨1,n1,?_⟩;cbv)|(intro a;cbv)
     (refine h0 ⟨gA,rfl⟩ (λh=>absurd h.1 (λh=>by have:=h.2;contradiction)) _ ?_;exact⟨_,_,_,⟨rfl,rfl,rfl,trivial⟩,⟨rfl,rfl,rfl,trivial⟩⟩)
    ·
     cbv
     repeat' first|(refine qA ?_;cbv)|(refine⟨0,b,?_⟩;cbv)|(refine⟨1,n1,?_⟩;cbv)|(intro a;cbv)
     refine ab (λg=>?_) (λg=>?_)
     ·have m:LA.gen<LB.gen:=fJ hP g;cbv
      repeat' first|(refine qA ?_;cbv)|(refine⟨0,b,?_⟩;cbv)|(refine⟨1,n1,?_⟩;cbv)|(intro a;cbv)
      repeat' first|(refine BL.mk ?_ ?_;cbv)|(refine qA ?_;cbv)
      all_goals(refine h1 ⟨gB,rfl⟩ (λ_=>m) _ ?_;exact⟨_,_,_,⟨rfl,rfl,rfl,trivial⟩,⟨rfl,rfl,rfl,trivial⟩⟩)
     ·have m:¬LA.gen<LB.gen:=fM hP g;cbv
      repeat' first|(refine qA ?_;cbv)|(refine⟨0,b,?_⟩;cbv)|(refine⟨1,n1,?_⟩;cbv)|(intro a;cbv)
      (refine h0 ⟨gA,rfl⟩ (λh=>m h.2) _ ?_;exact⟨_,_,_,⟨rfl,rfl,rfl,trivial⟩,⟨rfl,rfl,rfl,trivial⟩⟩)
   ·have gB:¬d=0:=nH hP g;clear g;cbv
    repeat' first|(refine qA ?_;cbv)|(refine⟨0,b,?_⟩;cbv)|(refine⟨1,n1,?_⟩;cbv)|(intro a;cbv)
    (refine h0 ⟨gA,rfl⟩ (λh=>absurd h.1 (λh=>gB h.1)) _ ?_;exact⟨_,_,_,⟨rfl,rfl,rfl,trivial⟩,⟨rfl,rfl,rfl,trivial⟩⟩)
 ·have gA:¬j=0:=nH hP g;clear g;cbv
  repeat' first|(refine qA ?_;cbv)|(refine⟨0,b,?_⟩;cbv)|(refine⟨1,n1,?_⟩;cbv)|(intro a;cbv)
  refine ab (λg=>?_) (λg=>?_)
  ·have gB:d=0:=nG hP g;clear g;cbv
   repeat' first|(refine qA ?_;cbv)|(refine⟨0,b,?_⟩;cbv)|(refine⟨1,n1,?_⟩;cbv)|(intro a;cbv)
   cases f
   ·
    cbv
    repeat' first|(refine qA ?_;cbv)|(refine⟨0,b,?_⟩;cbv)|(refine⟨1,n1,?_⟩;cbv)|(intro a;cbv)
    exact k _ _ _ (.inr ⟨g1,(λh=>gA h.1),(λh=>by have:=h.2;contradiction),rfl⟩) (c6.refl _) rfl
   ·
    cbv
    repeat' first|(refine qA ?_;cbv)|(refine⟨0,b,?_⟩;cbv)|(refine⟨1,n1,?_⟩;cbv)|(intro a;cbv)
    repeat' first|(refine BL.mk ?_ ?_;cbv)|(refine qA ?_;cbv)
    all_goals(refine h1 ⟨gB,rfl⟩ (λh=>absurd h (λh=>gA h.1)) _ ?_;exact⟨_,_,_,⟨rfl,rfl,rfl,trivial⟩,⟨rfl,rfl,rfl,trivial⟩⟩)
  ·have gB:¬d=0:=nH hP g;clear g;cbv
   repeat' first|(refine qA ?_;cbv)|(refine⟨0,b,?_⟩;cbv)|(refine⟨1,n1,?_⟩;cbv)|(intro a;cbv)
   exact k _ _ _ (.inr ⟨g1,(λh=>gA h.1),(λh=>gB h.1),rfl⟩) (c6.refl _) rfl
theorem K2(P:Prim)(hP:P=dn)(T b:c8)(a1:BS)(a2:Int)(b1:BS)(b2:Int)(LA:hI)(d:Bool)(ra:List (List V))(hg:0<=LA.eF/\LA.eF<=(a1.length:Int))(z:BS)(e:Int)(hz:z=P.jy a1 0 LA.eF)
  (a:gK b 30 [.str z] (.agg [.str z,qI e]))(N R:S->Prop)
  (hN:∀s,Wx (AV (.str z) (qI e) (.str []) (qI 0) (qI 0) 0 0 (λ_=>0) .nilsl) (lF LA.gen LA.base LA.text LA.first LA.table (.sl false 3 ra) d LA.eF) s->N s)
  (s:S)(hs:Vq a1 a2 b1 b2 (Vp 0) (lF LA.gen LA.base LA.text LA.first LA.table (.sl false 3 ra) d LA.eF) s):gj P T b (pV 1 (kJ 9 kY) .skip) s N (λ_ _=>False) R:=by
 obtain⟨g,b11,i,hs1,hs2⟩:=hs;refine lC (Q:=λs=>gj P T b (pV 1 (kJ 9 kY) .skip) s N (λ_ _=>False) R) _ _ hs1 hs2 (λt h=>?_);have f:P.nat 0=0:=by subst hP;rfl
 have n1:P.nat 1=1:=by subst hP;rfl
 have z0:P.fC 0 0:=iu hP qD;have j:P.fC 0 1:=iu hP qD;have k:P.iO 0 2:=kN hP qD;have l:P.iO 1 2:=kN hP qD;have g1:P.fC 0 LA.eF:=iu hP hg.1;have g2:P.fC LA.eF (P.c9 a1):=lE hP (by rw[da hP];exact hg.2);rw[hz] at a;cbv
 repeat' first|(refine qA ?_;cbv)|(refine⟨0,f,?_⟩;cbv)|(refine⟨1,n1,?_⟩;cbv)|(intro c;cbv)
 refine a _ _ ?_;cbv
 repeat' first|(refine qA ?_;cbv)|(refine⟨0,f,?_⟩;cbv)|(refine⟨1,n1,?_⟩;cbv)|(intro c;cbv)
 exact hN _ ⟨_,_,⟨rfl,rfl,trivial⟩,⟨by rw[hz];rfl,rfl,trivial⟩⟩
theorem K3(P:Prim)(hP:P=dn)(T b:c8)(a1:BS)(a2:Int)(b1:BS)(b2:Int)(LB:hI)(d:Bool)(rb:List (List V))(hg:0<=LB.eF/\LB.eF<=(b1.length:Int))(z:BS)(e:Int)(hz:z=P.jy b1 0 LB.eF)
  (a:gK b 30 [.str z] (.agg [.str z,qI e]))(N R:S->Prop)
  (hN:∀s,Wx (AV (.str []) (qI 0) (.str z) (qI e) (qI 1) 0 0 (λ_=>0) .nilsl) (lF LB.gen LB.base LB.text LB.first LB.table (.sl false 3 rb) d LB.eF) s->N s)
  (s:S)(hs:Vq a1 a2 b1 b2 (Vp 1) (lF LB.gen LB.base LB.text LB.first LB.table (.sl false 3 rb) d LB.eF) s):gj P T b (pV 1 (kJ 9 kY) .skip) s N (λ_ _=>False) R:=by
 obtain⟨g,b11,i,hs1,hs2⟩:=hs;refine lC (Q:=λs=>gj P T b (pV 1 (kJ 9 kY) .skip) s N (λ_ _=>False) R) _ _ hs1 hs2 (λt h=>?_);have f:P.nat 0=0:=by subst hP;rfl
 have n1:P.nat 1=1:=by subst hP;rfl
 have z0:P.fC 0 0:=iu hP qD;have j:P.fC 0 1:=iu hP qD;have k:P.iO 0 2:=kN hP qD;have l:P.iO 1 2:=kN hP qD;have g1:P.fC 0 LB.eF:=iu hP hg.1;have g2:P.fC LB.eF (P.c9 b1):=lE hP (by rw[da hP];exact hg.2);rw[hz] at a;cbv
 repeat' first|(refine qA ?_;cbv)|(refine⟨0,f,?_⟩;cbv)|(refine⟨1,n1,?_⟩;cbv)|(intro c;cbv)
 refine a _ _ ?_;cbv
 repeat' first|(refine qA ?_;cbv)|(refine⟨0,f,?_⟩;cbv)|(refine⟨1,n1,?_⟩;cbv)|(intro c;cbv)
 exact hN _ ⟨_,_,⟨rfl,rfl,trivial⟩,⟨by rw[hz];rfl,rfl,trivial⟩⟩
theorem EI(P:Prim)(hP:P=dn)(T a:c8)(b:my T)(x1 x3:BS)(x2 x4 i:Int)(L:hI)(w:Bool)(lr:List (List V))(hl:lr.length<=1000)(hb:0<=L.base/\L.base<=4294967295)(tr:List (List V))(f:Int)(ht:∀r∈tr,∀v∈r,Fz v)(c:∀r∈lr,∀v∈r,Fz v)
  (d:gK T 98 [.str L.text,.sl false 3 lr] (.tup [.sl false 1 tr,qI f]))
  (R:S->Prop)(e:∀(s s':S)(bl:Nat)(q:Int),q=L.base+(lr.length:Int)->c6 s s'->iH [.t 2,.t 3] [.ptr 53 (some bl) 31 0 0,qI 0] s'->fG [(53,fI bl ⟨x1,x2,x3,x4,i,L.gen,L.base,L.first,q,false,0,0,false,false⟩ (.sl false 1 tr) (.sl false 3 lr))] s'->R s)
  (s:S)(hs:Wx (AV (.str x1) (qI x2) (.str x3) (qI x4) (qI i) 0 0 (λ_=>0) .nilsl) (lF L.gen L.base L.text L.first L.table (.sl false 3 lr) w L.eF) s):gj P T a (kJ 10 kY) s R (λ_ _=>False) R:=by
 obtain⟨b11,g,hs1,hs2⟩:=hs;refine lC (Q:=λs=>gj P T a (kJ 10 kY) s R (λ_ _=>False) R) _ _ hs1 hs2 (λt h=>?_);show lL P T PK 24 [] _ (λs=>gj P T a (kJ 11 kY) s R (λ_ _=>False) R);refine R0 (v0:=.str x1) (v1:=qI x2) (v2:=.str x3) (v3:=qI x4) (v4:=qI i) (gn:=L.gen) (bs:=L.base) (fs:=L.first) (rv:=.sl false 3 lr) ⟨_,_,_,rfl⟩ rfl rfl rfl rfl ?_;cbv
 repeat' first|(refine qA ?_;cbv)|(intro j;cbv)|(refine d _ _ ?_;cbv)|(refine b 53 b11 ⟨x1,x2,x3,x4,i,L.gen,L.base,L.first,0,false,0,0,false,false⟩ tr lr _ _ ht c hb hl rfl λq hq=>?_;cbv)|fail
 exact e _ _ b11 q hq (c6.refl _) rfl ⟨rfl,trivial⟩
theorem nE{P:Prim}{T a:c8}{N:S->Prop}{X:Nat->S->Prop}{R:S->Prop}:∀(n:Nat)(ac:AC)(s:S),gj P T a (pV n ac .skip) s (λs=>gj P T a (kJ n ac) s N X R) X R->gj P T a ac s N X R:=by
 have key:∀(n:Nat)(ac:AC),(λs=>gj P T a (pV n ac .skip) s (λs=>gj P T a (kJ n ac) s N X R) X R)=λs=>gj P T a ac s N X R:=by
  intro n
  induction n with
  |zero=>intro ac;rfl
  |succ n ih=>
   intro ac;cases ac with
   |seq x y=>
    funext s
    show gj P T a x s (λs=>gj P T a (pV n y .skip) s (λs=>gj P T a (kJ n y) s N X R) X R) X R=gj P T a x s (λs=>gj P T a y s N X R) X R;rw[ih y]
   |_=>rfl
 intro n ac s h;have:=eZ (key n ac) s;exact this▸h
def tm:List Frame->Int
 |[]=>0
 |f::l=>(f.body.length:Int)+7+tm l
theorem AY:∀(n:Nat)(s:BS),tm (nu n s).1<=(s.length:Int)
 |0,s=>by simp[nu,tm]
 |n+1,s=>by
  unfold nu
  split
  ·show(0:Int)<=_;omega
  ·rename_i h;have hk:=kX (az h);have ih:=AY n (s.drop (fR s).2.1.toNat);rw[aJ] at ih;show((fR s).1.body.length:Int)+7+tm (nu n (s.drop (fR s).2.1.toNat)).1<=_;omega
theorem CQ:∀l:List Frame,0<=tm l
 |[]=>aN _
 |f::l=>by have:=CQ l;show 0<=(f.body.length:Int)+7+tm l;omega
theorem Gn{L:hI}{now:BS}{f:Frame}{q:hI×BS}(h:nv L now f=some q):q.1.eF=L.eF+((f.body.length:Int)+7):=by
 unfold nv at h
 split at h
 ·split at h
  ·cases h
  ·cases h;rfl
 ·split at h
  ·split at h
   ·cases h;rfl
   ·cases h
  ·cases h
theorem AZ:∀(fs:List Frame)(L:hI)(now:BS),L.eF<=(kI fs L now).eF/\(kI fs L now).eF<=L.eF+tm fs
 |[],L,now=>⟨aN _,by show L.eF<=L.eF+0;omega⟩
 |f::fs,L,now=>by
  rw[kI];have ht:=CQ fs;cases hs:nv L now f with
  |none=>exact⟨aN _,by show L.eF<=L.eF+((f.body.length:Int)+7+tm fs);omega⟩
  |some q=>
   have h1:=Gn hs;obtain⟨h2,h3⟩:=AZ fs q.1 q.2;refine⟨?_,?_⟩
   ·show L.eF<=(kI fs q.1 q.2).eF;omega
   ·show(kI fs q.1 q.2).eF<=L.eF+((f.body.length:Int)+7+tm fs);omega
theorem Gp(fs:List Frame):0<=(fW fs).1.eF/\(fW fs).1.eF<=tm fs:=by
 have key:∀(hg a:BS->Int)(ht:BS->BS)(hf:BS->Nat->Int)(ho:BS->Bool),0<=(ly hg a ht hf ho fs).1.eF/\(ly hg a ht hf ho fs).1.eF<=tm fs:=by
  intro hg a ht hf ho;cases fs with
  |nil=>exact⟨aN _,aN _⟩
  |cons f fs=>
   have e:ly hg a ht hf ho (f::fs)=if f.kind≠1\/ho f.body=false then(xo,3) else(kI fs (pL (hg f.body) (a f.body) (ht f.body) (hf f.body) ((f.body.length:Int)+7)) (ht f.body),0):=rfl;have b:=CQ fs;rw[e]
   split
   ·exact⟨aN _,by show(0:Int)<=(f.body.length:Int)+7+tm fs;omega⟩
   ·obtain⟨h2,h3⟩:=AZ fs (pL (hg f.body) (a f.body) (ht f.body) (hf f.body) ((f.body.length:Int)+7)) (ht f.body);have h4:(pL (hg f.body) (a f.body) (ht f.body) (hf f.body) ((f.body.length:Int)+7)).eF=(f.body.length:Int)+7:=rfl;rw[h4] at h2 h3;refine⟨?_,?_⟩
    ·show 0<=(kI fs _ _).eF;omega
    ·show(kI fs _ _).eF<=(f.body.length:Int)+7+tm fs;omega
 exact key _ _ _ _ _
theorem vR(s:BS):0<=(fW (fk s).1).1.eF/\(fW (fk s).1).1.eF<=(s.length:Int):=by
 obtain⟨h1,h2⟩:=Gp (fk s).1;have:=AY (s.length+1) s;exact⟨h1,bZ h2 this⟩
structure yE where
 d:iq
 tx:List BS
 l:List eP
 e:Int
def kj(a1 b1:BS)(i:Int)(L:hI):iq:=
 if i=0 then⟨a1.take L.eF.toNat,((a1.take L.eF.toNat).length:Int),[],0,0,L.gen,L.base,L.first,L.base+(L.e8.length:Int),false,0,0,false,false⟩
 else⟨[],0,b1.take L.eF.toNat,((b1.take L.eF.toNat).length:Int),1,L.gen,L.base,L.first,L.base+(L.e8.length:Int),false,0,0,false,false⟩
def yF(a1 b1:BS)(i:Int)(L:hI):yE:=⟨kj a1 b1 i L,(gG L.text L.e8).1,L.e8,0⟩
def CR(e:Int):yE:=⟨⟨[],0,[],0,0,0,0,λ_=>0,0,false,0,0,false,false⟩,[],[],e⟩
def tn(A B:hI×Int)(a1 b1:BS):yE:=
 if hG A then(if hG B/\A.1.gen<B.1.gen then yF a1 b1 1 B.1 else yF a1 b1 0 A.1)
 else if hG B then yF a1 b1 1 B.1 else CR 12
def kT(a1:BS)(a2:Int)(b1:BS)(b2:Int):yE:=if gS a1 a2 b1 b2≠0 then CR (gS a1 a2 b1 b2) else tn (fW (fk a1).1) (fW (fk b1).1) a1 b1
def EJ(y:yE)(x:V)(a:List (Nat×Ob)):Prop:=(y.e≠0/\x=.tup [.nil,.int .i64 y.e]/\a=[])\/(y.e=0/\∃bl,x=.tup [.ptr 53 (some bl) 31 0 0,.int .i64 0]/\a=[(53,fI bl y.d (.sl false 1 (c7 y.tx)) (.sl false 3 (y.l.map ca)))])
theorem lU(l:List eP):∀r∈l.map ca,∀v∈r,Fz v:=λr hr v hv=>fL l r hr v hv
theorem K4(a1:BS)(a2:Int)(b1:BS)(b2:Int):Spec Tryz.prog 55 [.agg [.str a1,qI a2,.str b1,qI b2]] (cp []) λx h'=>∃r,EJ (kT a1 a2 b1 b2) x r/\h'=cp r:=by
 refine fu iD K1 (L:=[]) (EJ (kT a1 a2 b1 b2)) λR o=>?_;obtain⟨LA,g,k⟩:∃L e,fW (fk a1).1=(L,e):=⟨_,_,rfl⟩;obtain⟨LB,m,hB⟩:∃L e,fW (fk b1).1=(L,e):=⟨_,_,rfl⟩;have i:=vR a1;have j:=vR b1;rw[k] at i;rw[hB] at j;obtain⟨y,hy⟩:∃y,kT a1 a2 b1 b2=y:=⟨_,rfl⟩;rw[hy] at o;unfold kT at hy;rw[k,hB] at hy;have u:∀(s s':S)(e:Int),y=CR e->e≠0->c6 s s'->iH [.t 2,.t 3] [.nil,qI e] s'->R s:=by
  rintro s s' e rfl he a hr;exact o s s' (.tup [.nil,qI e]) [] a (eM _ _ _ (λx hx=>by rw[hx];rfl) hr) trivial (.tup _ (by simp;exact⟨.nil,.int _ _⟩)) (λp hp=>by cases hp) (.inl ⟨he,rfl,rfl⟩)
 have v:∀(s s':S)(bl:Nat)(d:iq)(tx:List BS)(l:List eP),y=⟨d,tx,l,0⟩->c6 s s'->iH [.t 2,.t 3] [.ptr 53 (some bl) 31 0 0,qI 0] s'->fG [(53,fI bl d (.sl false 1 (c7 tx)) (.sl false 3 (l.map ca)))] s'->R s:=by
  rintro s s' bl d tx l rfl a hr ha;exact o s s' (.tup [.ptr 53 (some bl) 31 0 0,qI 0]) _ a (eM _ _ _ (λx hx=>by rw[hx];rfl) hr) ha (.tup _ (by simp;exact⟨.ptr _ _ _ _ _,.int _ _⟩)) (λp hp=>by simp only[aq] at hp;subst hp;exact lD (gY _) (lU _)) (.inr ⟨rfl,bl,rfl,rfl⟩)
 refine nE 9 kY _ ?_;refine OG dn rfl _ _ a1 a2 b1 b2 (gS a1 a2 b1 b2) (ia (QM a1 a2 b1 b2) (λh=>.cons (.same _) .nil) rfl) LA LB LA.whole LB.whole g m (LA.e8.map ca) (LB.e8.map ca) (λhc=>?_) (λhc=>?_) _ R ?_ ?_ ?_
 ·have:=im (En a1 (qH hc).1) rfl rfl;rw[k] at this;exact this
 ·have:=im (En b1 (qH hc).2) rfl rfl;rw[hB] at this;exact this
 ·rintro s s' e (⟨hc,rfl⟩|⟨hc,n1,n2,rfl⟩) a hr
  ·rw[ae hc] at hy;exact u s s' _ hy.symm hc a hr
  ·rw[aa (λh=>h hc)] at hy;unfold tn at hy;have n1:¬hG (LA,g):=n1;have n2:¬hG (LB,m):=n2;rw[aa n1,aa n2] at hy;exact u s s' 12 hy.symm qD a hr
 ·intro hc hg hn s hs;rw[aa (λh=>h hc)] at hy;unfold tn at hy;have gA:hG (LA,g):=hg;have w:¬(hG (LB,m)/\LA.gen<LB.gen):=hn;rw[ae gA,aa w] at hy;have c:=sE k hg.1;have f:0<=LA.eF/\LA.eF<=(a1.length:Int):=i;obtain⟨z,hz⟩:∃z,z=a1.take LA.eF.toNat:=⟨_,rfl⟩;have hz2:z=dn.jy a1 0 LA.eF:=hz;refine nE 1 _ _ ?_;refine K2 dn rfl _ _ a1 a2 b1 b2 LA LA.whole (LA.e8.map ca) f z (z.length:Int) hz2 (oh (pW z) (λ_=>.cons (.same _) .nil) rfl) _ R (λs hs=>?_) s hs;refine EI dn rfl _ _ pX z [] (z.length:Int) 0 0 LA LA.whole (LA.e8.map ca) (by rw[aF];exact c.n) c.b (c7 (gG LA.text LA.e8).1) (gG LA.text LA.e8).2 (gY _) (lU _) (II (xc LA.text LA.e8 c.rv) rfl rfl) R (λs s' bl q hq he hr ha=>?_) s hs;refine v s s' bl _ _ _ ?_ he hr ha;rw[<-hy,hq,aF,hz];rfl
 ·intro hc hg hn s hs;rw[aa (λh=>h hc)] at hy;unfold tn at hy;have gB:hG (LB,m):=hg;have hn:hG (LA,g)->LA.gen<LB.gen:=hn;have hy:yF a1 b1 1 LB=y:=by
   by_cases gA:hG (LA,g)
   ·rw[ae gA,ae ⟨gB,hn gA⟩] at hy;exact hy
   ·rw[aa gA,ae gB] at hy;exact hy
  have c:=sE hB hg.1;have f:0<=LB.eF/\LB.eF<=(b1.length:Int):=j;obtain⟨z,hz⟩:∃z,z=b1.take LB.eF.toNat:=⟨_,rfl⟩;have hz2:z=dn.jy b1 0 LB.eF:=hz;refine nE 1 _ _ ?_;refine K3 dn rfl _ _ a1 a2 b1 b2 LB LB.whole (LB.e8.map ca) f z (z.length:Int) hz2 (oh (pW z) (λ_=>.cons (.same _) .nil) rfl) _ R (λs hs=>?_) s hs;refine EI dn rfl _ _ pX [] z 0 (z.length:Int) 1 LB LB.whole (LB.e8.map ca) (by rw[aF];exact c.n) c.b (c7 (gG LB.text LB.e8).1) (gG LB.text LB.e8).2 (gY _) (lU _) (II (xc LB.text LB.e8 c.rv) rfl rfl) R (λs s' bl q hq he hr ha=>?_) s hs;refine v s s' bl _ _ _ ?_ he hr ha;rw[<-hy,hq,aF,hz];rfl
def K5(T:c8):Prop:=∀(k:Nat)(a1:BS)(a2:Int)(b1:BS)(b2:Int)(h:Hp)(K:V->Hp->Prop),h k=none->
 (∀d tx l e,⟨d,tx,l,e⟩=kT a1 a2 b1 b2->(e≠0->K (.tup [.nil,qI e]) h)/\(e=0->∀bl tr lr,tr=c7 tx->lr=l.map ca->K (.tup [.ptr k (some bl) 31 0 0,qI 0]) (h.fK [(k,fI bl d (.sl false 1 tr) (.sl false 3 lr))])))->T 55 [.agg [.str a1,qI a2,.str b1,qI b2]] h K
theorem R4:K5 (fm Tryz.prog):=by
 intro k a1 a2 b1 b2 h K hk hK;have c:gD [(53,k)] 53=k:=by simp[gD]
 have a:([(53,k)].map (·.1)).Nodup:=by simp
 have b:([(53,k)].map (·.2)).Nodup:=by simp
 refine mA (K4 a1 a2 b1 b2) (m:=[(53,k)]) (.cons (.same _) .nil) (λj o hj=>by cases hj) (λq hq=>⟨nU a q hq,nV b q hq,λo ho=>by cases ho⟩) ?_;obtain⟨y,hy⟩:∃y,kT a1 a2 b1 b2=y:=⟨_,rfl⟩;rw[hy] at hK⊢;obtain⟨d,tx,l,e⟩:=y;rintro x n (⟨he,rfl,rfl⟩|⟨he,bl,rfl,rfl⟩)
 ·have f:h.gy [(53,k)] (cp [])=h:=by
   funext i
   simp only[Hp.gy,bK,bP,bN,bc]
   split
   ·rename_i hi;show(none:Option Ob)=_;rw[<-hi,hk]
   ·rfl
  rw[f];exact(hK d tx l e rfl).1 he
 ·rw[sr h _ _ rfl a b (by simp)];have e1:mb [(53,k)] (Ob.gM (gD [(53,k)])) [(53,fI bl d (.sl false 1 (c7 tx)) (.sl false 3 (l.map ca)))]=[(k,fI bl d (.sl false 1 (c7 tx)) (.sl false 3 (l.map ca)))]:=rfl;rw[e1];have g:(V.tup [.ptr 53 (some bl) 31 0 0,qI 0]).gM (gD [(53,k)])=.tup [.ptr k (some bl) 31 0 0,qI 0]:=by
   show V.tup [.ptr (gD _ 53) (some bl) 31 0 0,qI 0]=_;rw[c]
  rw[g];exact(hK d tx l e rfl).2 he bl _ _ rfl rfl
def A0:AC:=qr [qz 4 0] (qq (qr [qm 5 1,qm 6 0,qn 7 6,qf 8 6 7,ql 9 8,qb 10 .lss 5 9] (qu 10 (qr [qz 4 9] .ret) .skip)) (qq (qr [qm 11 1,qm 12 0,qa 13 35 [.t 12],qb 14 .gtr 11 13] (qu 14 (qr [qz 4 8] .ret) .skip)) (qr [qz 4 0] .ret)))
theorem K6:fF Tryz.prog 41 Tryz.f41 A0 [.t 4] 2 er:=⟨Tryz.func41,by decide+kernel,by kernel_rfl,by kernel_rfl,by decide+kernel⟩
theorem K7(P:Prim)(hP:P=dn)(T f:c8)(c:my T)(bl:Nat)(d:iq)(tr lr:List (List V))(ht:∀r∈tr,∀v∈r,Fz v)(hl:∀r∈lr,∀v∈r,Fz v)(hb:0<=d.b/\d.b<=4294967295)(hn:lr.length<=1000)(j:Int)(y:Int)(hy:y=fZ d.b lr.length j)
  (R:S->Prop)(e:∀s s' q,q=y->c6 s s'->iH [.t 4] [qI q] s'->fG [(0,fI bl d (.sl false 1 tr) (.sl false 3 lr))] s'->R s):gj P T f A0 (S0 [.ptr 0 (some bl) 31 0 0,qI j] (cp [(0,fI bl d (.sl false 1 tr) (.sl false 3 lr))])) R (λ_ _=>False) R:=by
 unfold fZ at hy;cbv
 repeat' first|(refine qA ?_;cbv)|(intro a;cbv)
 refine ab (λg=>?_) (λg=>?_)
 ·have g1:j<d.b:=fJ hP g;rw[ae g1] at hy;cbv
  repeat' first|(refine qA ?_;cbv)|(intro a;cbv)
  exact e _ _ _ hy.symm (c6.refl _) rfl ⟨rfl,trivial⟩
 have g1:¬j<d.b:=fM hP g;rw[aa g1] at hy;cbv
 repeat' first|(refine qA ?_;cbv)|(intro a;cbv)|(refine c 0 bl d tr lr _ _ ht hl hb hn rfl λq hq=>?_;cbv)|fail
 refine ab (λg=>?_) (λg=>?_)
 ·have g2:q<j:=fJ hP g;rw[hq] at g2;rw[ae g2] at hy;cbv
  repeat' first|(refine qA ?_;cbv)|(intro a;cbv)
  exact e _ _ _ hy.symm (c6.refl _) rfl ⟨rfl,trivial⟩
 have g2:¬q<j:=fM hP g;rw[hq] at g2;rw[aa g2] at hy;cbv
 repeat' first|(refine qA ?_;cbv)|(intro a;cbv)
 exact e _ _ _ hy.symm (c6.refl _) rfl ⟨rfl,trivial⟩
theorem K8(bl:Nat)(d:iq)(tr lr:List (List V))(ht:∀r∈tr,∀v∈r,Fz v)(hl:∀r∈lr,∀v∈r,Fz v)(hb:0<=d.b/\d.b<=4294967295)(hn:lr.length<=1000)(j:Int):Spec Tryz.prog 41 [.ptr 0 (some bl) 31 0 0,qI j] (cp [(0,fI bl d (.sl false 1 tr) (.sl false 3 lr))]) λx h'=>∃a,(x=qI (fZ d.b lr.length j)/\a=[(0,fI bl d (.sl false 1 tr) (.sl false 3 lr))])/\h'=cp a:=
 fu iD K6 (L:=[(0,fI bl d (.sl false 1 tr) (.sl false 3 lr))]) (λx a=>x=qI (fZ d.b lr.length j)/\a=[(0,fI bl d (.sl false 1 tr) (.sl false 3 lr))]) λR c=>
  K7 dn rfl _ _ pX bl d tr lr ht hl hb hn j _ rfl R λs s' q hq he hr ha=>c s s' _ _ he (eM _ _ _ (λx hx=>by rw[hx,hq];rfl) hr) ha (.int _ _) (λp hp=>by simp only[aq] at hp;subst hp;exact lD ht hl) ⟨rfl,rfl⟩
def yG(T:c8):Prop:=∀(k bl:Nat)(d:iq)(tr lr:List (List V))(j:Int)(h:Hp)(K:V->Hp->Prop),(∀r∈tr,∀v∈r,Fz v)->(∀r∈lr,∀v∈r,Fz v)->(0<=d.b/\d.b<=4294967295)->lr.length<=1000->h k=some (fI bl d (.sl false 1 tr) (.sl false 3 lr))->(∀q,q=fZ d.b lr.length j->K (qI q) h)->T 41 [.ptr k (some bl) 31 0 0,qI j] h K
theorem CS:yG (fm Tryz.prog):=λk bl d tr lr j h K ht hl hb hn hk hK=>R3 ht hl (K8 bl d tr lr ht hl hb hn j) (λ_ _=>.cons (.same _) .nil) (λ_=>rfl) hk (hK _ rfl)
def EK:AC:=qr [qo 4 (.mov (.c qe))] (qq (.region true [qm 5 0,qn 6 5,qf 7 23 6,ql 8 7,qm 9 1,qm 10 0,qn 11 10,qf 12 6 11,ql 13 12,qb 14 .sub 9 13,qo 15 (.iaddr 1 (.t 8) (.t 14)),ql 16 15,qm 4 16]) .ret)
theorem OH:fF Tryz.prog 42 Tryz.f42 EK [.t 4] 2 er:=⟨Tryz.func42,by decide+kernel,by kernel_rfl,by kernel_rfl,by decide+kernel⟩
theorem OI(P:Prim)(hP:P=dn)(T f:c8)(bl:Nat)(d:iq)(tr lr:List (List V))(j:Int)(m1:P.i64 (P.sub j d.b))(m2:P.fC 0 (P.sub j d.b))(e:BS)(a:P.row tr (P.nat (P.sub j d.b)) [.str e])
  (R:S->Prop)(g:∀s s' q,q=e->c6 s s'->iH [.t 4] [.str q] s'->fG [(0,fI bl d (.sl false 1 tr) (.sl false 3 lr))] s'->R s):gj P T f EK (S0 [.ptr 0 (some bl) 31 0 0,qI j] (cp [(0,fI bl d (.sl false 1 tr) (.sl false 3 lr))])) R (λ_ _=>False) R:=by
 cbv
 repeat' first|(refine qA ?_;cbv)|(intro c;cbv)
 refine⟨_,a,?_⟩;cbv
 repeat' first|(refine qA ?_;cbv)|(intro c;cbv)
 exact g _ _ _ rfl (c6.refl _) rfl ⟨rfl,trivial⟩
theorem OJ(bl:Nat)(d:iq)(tr lr:List (List V))(ht:∀r∈tr,∀v∈r,Fz v)(hl:∀r∈lr,∀v∈r,Fz v)(hb:0<=d.b/\d.b<=4294967295)(j:Int)(i:Nat)(hj:j-d.b=(i:Int))(hi:i<=1000)(a:BS)(h0:tr[i]? =some [.str a]):Spec Tryz.prog 42 [.ptr 0 (some bl) 31 0 0,qI j] (cp [(0,fI bl d (.sl false 1 tr) (.sl false 3 lr))]) λx h'=>∃c,(x=.str a/\c=[(0,fI bl d (.sl false 1 tr) (.sl false 3 lr))])/\h'=cp c:=
 fu iD OH (L:=[(0,fI bl d (.sl false 1 tr) (.sl false 3 lr))]) (λx c=>x=.str a/\c=[(0,fI bl d (.sl false 1 tr) (.sl false 3 lr))]) λR e=>
  OI dn rfl _ _ bl d tr lr j (by show-9223372036854775808<=j-d.b/\j-d.b<=9223372036854775807;omega) (by show 0<=j-d.b;omega) a (ga rfl hj h0) R λs s' q hq he hr ha=>e s s' _ _ he (eM _ _ _ (λx hx=>by rw[hx,hq];rfl) hr) ha (.str _) (λp hp=>by simp only[aq] at hp;subst hp;exact lD ht hl) ⟨rfl,rfl⟩
def EL(T:c8):Prop:=∀(k bl:Nat)(d:iq)(tr lr:List (List V))(j:Int)(i:Nat)(a:BS)(h:Hp)(K:V->Hp->Prop),(∀r∈tr,∀v∈r,Fz v)->(∀r∈lr,∀v∈r,Fz v)->(0<=d.b/\d.b<=4294967295)->j-d.b=(i:Int)->i<=1000->tr[i]? =some [.str a]->h k=some (fI bl d (.sl false 1 tr) (.sl false 3 lr))->K (.str a) h->T 42 [.ptr k (some bl) 31 0 0,qI j] h K
theorem K9:EL (fX Tryz.prog):=λk bl d tr lr j i a h K ht hl hb hj hi h0 hk hK=>R1 ht hl (OJ bl d tr lr ht hl hb j i hj hi a h0) (λ_ _=>.cons (.same _) .nil) (λ_=>rfl) hk hK
def EM:AC:=qr [qo 4 (.alloc 55 Te)] (qr [qm 8 0,qn 9 8,qf 10 7 9,qd 11 16 10,qo 5 (.alloc 55 Te),qs 16 5 11] (qq (qr [qm 12 1,qm 13 0,qn 14 13,qf 15 6 14,ql 16 15,qb 17 .sub 12 16,qz 18 0] (.block 0 (.loop (qr [qb 19 .lss 18 17] (qq (qu 19 .skip (.exit 0)) (qq (.block 1 (qr [qm 20 18,qm 6 20] (qr [qm 21 0,qn 22 21,qf 23 24 22,ql 24 23,qm 25 6,qo 26 (.iaddr 3 (.t 24) (.t 25)),qd 27 3 26,qo 7 (.alloc 91 xI),qs 3 7 27] (.region true [qf 28 0 7,ql 29 28,qf 30 1 7,ql 31 30,qm 32 0,qn 33 32,qf 34 6 33,ql 35 34,qm 36 6,qb 37 .add 35 36,qc 38 .add 37 1,qo 39 (.build Bo [(0,1,(.t 31)),(1,1,(.t 38))]),qo 40 (.iarr 8 2 (.t 5) (.t 29)),qs 2 40 39])))) (qR [qc 41 .add 18 1,qm 18 41]))))))) (qr [qd 42 16 5,qs 16 4 42] .ret)))
theorem OK:fF Tryz.prog 38 Tryz.f38 EM [.cn 4 16] 2 er:=⟨Tryz.func38,by decide+kernel,by kernel_rfl,by kernel_rfl,by decide+kernel⟩
theorem OL(P:Prim)(hP:P=dn)(T D:c8)(bl:Nat)(d:iq)(tr:List (List V))(l:List eP)(lr:List (List V))(jW:lr=l.map ca)(hb:0<=d.b/\d.b<=4294967295)(E:l.length<=1000)(t:∀r∈l,0<=r.who/\r.who<=7)(j:Int)(hj:d.b<=j/\j<=d.b+(l.length:Int))(a:Nat)(A:j-d.b=(a:Int))
  (R:S->Prop)(F:∀(s s':S)(tb:Nat->Int),tb=gg d.fs d.b (l.take a)->c6 s s'->iH [.cn 4 16] [kC tb] s'->fG [(0,fI bl d (.sl false 1 tr) (.sl false 3 lr))] s'->R s):gj P T D EM (S0 [.ptr 0 (some bl) 31 0 0,qI j] (cp [(0,fI bl d (.sl false 1 tr) (.sl false 3 lr))])) R (λ_ _=>False) R:=by
 have m1:P.i64 (P.sub j d.b):=by rw[sub_eq hP];exact eR hP qW
 obtain⟨hi,u⟩:∃hi,hi=P.sub j d.b:=⟨_,rfl⟩;have C:hi=(a:Int):=by rw[u,sub_eq hP];exact A
 have yL:P.dv lr=(l.length:Int):=by rw[gE hP,jW];simp
 cbv
 repeat' first|(refine qA ?_;cbv)|(intro n;cbv)
 rename_i v;rw[<-u];refine⟨XR d.fs d.b l a,λy=>[(0,.ptr 0 (some bl) 31 0 0),(4,.ptr 4 (some v) 16 0 0),(5,.ptr 5 (some n) 16 0 0),(17,qI hi),(18,qI y.k)],
  λy=>[(0,fI bl d (.sl false 1 tr) (.sl false 3 lr)),(4,⟨some v,55,16,[[qI 0,qI 0,qI 0,qI 0,qI 0,qI 0,qI 0,qI 0,qI 0,qI 0,qI 0,qI 0,qI 0,qI 0,qI 0,qI 0]]⟩),(5,⟨some n,55,16,[[qI (y.tb 0),qI (y.tb 1),qI (y.tb 2),qI (y.tb 3),qI (y.tb 4),qI (y.tb 5),qI (y.tb 6),qI (y.tb 7),qI (y.tb 8),qI (y.tb 9),qI (y.tb 10),qI (y.tb 11),qI (y.tb 12),qI (y.tb 13),qI (y.tb 14),qI (y.tb 15)]]⟩)],λy=>l.length-y.i,
  ⟨_,c6.refl _,⟨0,0,d.fs,qW,rfl,by simp[gg]⟩,⟨rfl,rfl,rfl,rfl,rfl,trivial⟩,⟨rfl,rfl,rfl,trivial⟩⟩,?_⟩
 rintro⟨i,k,tb,hi2,hk,kH⟩;cbv;refine ab (λg=>?_) (λg=>?_)
 ·have g3:k<hi:=fJ hP g;have q:i<l.length:=by((try simp only[nc] at*);omega)
  have e:i+1<=a:=by((try simp only[nc] at*);omega)
  obtain⟨r,ku⟩:∃r,l[i]? =some r:=⟨_,af q⟩;have m:P.row lr (P.nat k) [qI r.who,qI r.seq,.sl false 3 (r.delta.map bd)]:=ga hP hk (by rw[jW,av,ku];rfl);have c:=xD d.fs d.b l i r ku;have x:=t r (ax ku);obtain⟨w,hw⟩:∃w,r.who=w:=⟨_,rfl⟩;obtain⟨o,B⟩:∃w,r.seq=w:=⟨_,rfl⟩;rw[hw,B] at m c;rw[hw] at x
  generalize r.delta.map bd=dr at m
  obtain⟨wn,z⟩:∃wn,w.toNat=wn:=⟨_,rfl⟩;have q1:P.fC 0 k:=iu hP (by rw[hk];exact aO _);have H:P.i64 (P.add k 1):=by rw[add_eq hP];exact eR hP qO
  have p:P.add k 1=((i+1:Nat):Int):=by rw[add_eq hP,hk];simp
  have I:P.i64 (P.add d.b k):=by rw[add_eq hP];exact eR hP qO
  have J:P.i64 (P.add (P.add d.b k) 1):=by rw[add_eq hP,add_eq hP];exact eR hP qO
  have K:P.fC 0 w:=iu hP x.1;have L:P.iO w 8:=kN hP qW;have f:P.nat w=wn:=by rw[<-z];subst hP;rfl
  rw[z] at c;cbv
  repeat' first|(refine qA ?_;cbv)|(intro n;cbv)
  refine⟨_,m,?_⟩;cbv
  repeat' first|(refine qA ?_;cbv)|(intro G;cbv)
  have hc:wn=0\/wn=1\/wn=2\/wn=3\/wn=4\/wn=5\/wn=6\/wn=7:=by omega
  rcases hc with rfl|rfl|rfl|rfl|rfl|rfl|rfl|rfl
  ·refine⟨0,f,?_⟩;cbv
   repeat' first|(refine qA ?_;cbv)|(intro h;cbv)
   refine⟨_,c6.refl _,⟨i+1,_,gJ tb 0 o (P.add (P.add d.b k) 1),e,p,?_⟩,⟨rfl,rfl,rfl,rfl,rfl,trivial⟩,⟨rfl,rfl,rfl,trivial⟩,?_⟩
   ·rw[c,kH,add_eq hP,add_eq hP,hk]
   ·show l.length-(i+1)<l.length-i;omega
  ·refine⟨1,f,?_⟩;cbv
   repeat' first|(refine qA ?_;cbv)|(intro h;cbv)
   refine⟨_,c6.refl _,⟨i+1,_,gJ tb 1 o (P.add (P.add d.b k) 1),e,p,?_⟩,⟨rfl,rfl,rfl,rfl,rfl,trivial⟩,⟨rfl,rfl,rfl,trivial⟩,?_⟩
   ·rw[c,kH,add_eq hP,add_eq hP,hk]
   ·show l.length-(i+1)<l.length-i;omega
  ·refine⟨2,f,?_⟩;cbv
   repeat' first|(refine qA ?_;cbv)|(intro h;cbv)
   refine⟨_,c6.refl _,⟨i+1,_,gJ tb 2 o (P.add (P.add d.b k) 1),e,p,?_⟩,⟨rfl,rfl,rfl,rfl,rfl,trivial⟩,⟨rfl,rfl,rfl,trivial⟩,?_⟩
   ·rw[c,kH,add_eq hP,add_eq hP,hk]
   ·show l.length-(i+1)<l.length-i;omega
  ·refine⟨3,f,?_⟩;cbv
   repeat' first|(refine qA ?_;cbv)|(intro h;cbv)
   refine⟨_,c6.refl _,⟨i+1,_,gJ tb 3 o (P.add (P.add d.b k) 1),e,p,?_⟩,⟨rfl,rfl,rfl,rfl,rfl,trivial⟩,⟨rfl,rfl,rfl,trivial⟩,?_⟩
   ·rw[c,kH,add_eq hP,add_eq hP,hk]
   ·show l.length-(i+1)<l.length-i;omega
  ·refine⟨4,f,?_⟩;cbv
   repeat' first|(refine qA ?_;cbv)|(intro h;cbv)
   refine⟨_,c6.refl _,⟨i+1,_,gJ tb 4 o (P.add (P.add d.b k) 1),e,p,?_⟩,⟨rfl,rfl,rfl,rfl,rfl,trivial⟩,⟨rfl,rfl,rfl,trivial⟩,?_⟩
   ·rw[c,kH,add_eq hP,add_eq hP,hk]
   ·show l.length-(i+1)<l.length-i;omega
  ·refine⟨5,f,?_⟩;cbv
   repeat' first|(refine qA ?_;cbv)|(intro h;cbv)
   refine⟨_,c6.refl _,⟨i+1,_,gJ tb 5 o (P.add (P.add d.b k) 1),e,p,?_⟩,⟨rfl,rfl,rfl,rfl,rfl,trivial⟩,⟨rfl,rfl,rfl,trivial⟩,?_⟩
   ·rw[c,kH,add_eq hP,add_eq hP,hk]
   ·show l.length-(i+1)<l.length-i;omega
  ·refine⟨6,f,?_⟩;cbv
   repeat' first|(refine qA ?_;cbv)|(intro h;cbv)
   refine⟨_,c6.refl _,⟨i+1,_,gJ tb 6 o (P.add (P.add d.b k) 1),e,p,?_⟩,⟨rfl,rfl,rfl,rfl,rfl,trivial⟩,⟨rfl,rfl,rfl,trivial⟩,?_⟩
   ·rw[c,kH,add_eq hP,add_eq hP,hk]
   ·show l.length-(i+1)<l.length-i;omega
  ·refine⟨7,f,?_⟩;cbv
   repeat' first|(refine qA ?_;cbv)|(intro h;cbv)
   refine⟨_,c6.refl _,⟨i+1,_,gJ tb 7 o (P.add (P.add d.b k) 1),e,p,?_⟩,⟨rfl,rfl,rfl,rfl,rfl,trivial⟩,⟨rfl,rfl,rfl,trivial⟩,?_⟩
   ·rw[c,kH,add_eq hP,add_eq hP,hk]
   ·show l.length-(i+1)<l.length-i;omega
 ·have g3:¬k<hi:=fM hP g;have q:i=a:=by((try simp only[nc] at*);omega)
  subst q;cbv
  repeat' first|(refine qA ?_;cbv)|(intro n;cbv)
  exact F _ _ tb kH (c6.refl _) ⟨rfl,rfl,an 0,ah 16,rfl⟩ ⟨rfl,trivial⟩
theorem EN(bl:Nat)(d:iq)(tr:List (List V))(ht:∀r∈tr,∀v∈r,Fz v)(l:List eP)(hb:0<=d.b/\d.b<=4294967295)(e:l.length<=1000)(a:∀r∈l,0<=r.who/\r.who<=7)(j:Int)(hj:d.b<=j/\j<=d.b+(l.length:Int)):Spec Tryz.prog 38 [.ptr 0 (some bl) 31 0 0,qI j] (cp [(0,fI bl d (.sl false 1 tr) (.sl false 3 (l.map ca)))])
  λx h'=>∃c,(x=kC (gg d.fs d.b (l.take (j-d.b).toNat))/\c=[(0,fI bl d (.sl false 1 tr) (.sl false 3 (l.map ca)))])/\h'=cp c:=
 fu iD OK (L:=[(0,fI bl d (.sl false 1 tr) (.sl false 3 (l.map ca)))]) (λx c=>x=kC (gg d.fs d.b (l.take (j-d.b).toNat))/\c=[(0,fI bl d (.sl false 1 tr) (.sl false 3 (l.map ca)))]) λR f=>
  OL dn rfl _ _ bl d tr l _ rfl hb e a j hj (j-d.b).toNat qW R λs s' tb kH he hr ha=>f s s' _ _ he (eM _ _ _ (λx hx=>by rw[hx,kH];rfl) hr) ha (Et _) (λp hp=>by simp only[aq] at hp;subst hp;exact lD ht (lU _)) ⟨rfl,rfl⟩
def vS(T:c8):Prop:=∀(k bl:Nat)(d:iq)(tr:List (List V))(l:List eP)(lr:List (List V))(j:Int)(h:Hp)(K:V->Hp->Prop),(∀r∈tr,∀v∈r,Fz v)->lr=l.map ca->(0<=d.b/\d.b<=4294967295)->l.length<=1000->(∀r∈l,0<=r.who/\r.who<=7)->(d.b<=j/\j<=d.b+(l.length:Int))->h k=some (fI bl d (.sl false 1 tr) (.sl false 3 lr))->(∀tb,tb=gg d.fs d.b (l.take (j-d.b).toNat)->K (kC tb) h)->T 38 [.ptr k (some bl) 31 0 0,qI j] h K
theorem La:vS (fm Tryz.prog):=λk bl d tr l lr j h K ht jW hb hn hw hj hk hK=>by
 subst jW;exact R3 ht (lU _) (EN bl d tr ht l hb hn hw j hj) (λ_ _=>.cons (.same _) .nil) (λ_=>rfl) hk (hK _ rfl)
theorem c6.ZA{s:S}{h':Hp}(c:jU s.h h'):c6 s ⟨s.t,h'⟩:=by
 intro C n a w d hs;obtain⟨F,h1,h2⟩:=hs.ex;obtain⟨F',h3,h4⟩:=c C F w d h1;exact⟨⟨F',h4,λi=>(h2 i).mono h3 (λb hb=>.inr hb)⟩,hs.df,hs.sz⟩
theorem c6.cells{s:S}{k ty sz:Nat}{b:Option Nat}{r r':List V}(hk:s.h k=some ⟨b,ty,sz,[r]⟩)(hl:r'.length=r.length)(hv:∀(i:Nat)(v v':V),r[i]? =some v->r'[i]? =some v'->v'=v\/(v=.nilsl/\∃t z,v'=.sl t z [])):c6 s ⟨s.t,Hp.put s.h k ⟨b,ty,sz,[r']⟩⟩:=by
 intro C n a w I hs;obtain⟨F,h1,h2⟩:=hs.ex;have one:fU F C.B w ⟨b,ty,sz,[r]⟩->fU F C.B w ⟨b,ty,sz,[r']⟩:=by
  intro h;unfold fU at h⊢;cases b with
  |none=>exact absurd (show([r]:List (List V))=[] from h) (by simp)
  |some b=>
   obtain⟨c,cap,hc,h1,h2,h3,h4,h5⟩:=h;refine⟨c,cap,hc,h1,h2,h3,λq hq=>?_,λi j q v hi hj=>?_⟩
   ·have hq:q=r':=aq.1 hq;rw[hq,hl];exact h4 r (aq.2 rfl)
   ·have hi:([r']:List (List V))[i]? =some q:=hi;cases i with
    |succ i=>simp at hi
    |zero=>
     simp only[bT,aH] at hi;subst hi;have d:j<r.length:=by rw[<-hl];exact(aj.1 hj).1
     obtain⟨u,y,A,f⟩:=h5 0 j r r[j] rfl (af d);refine⟨u,y,A,?_⟩
     rcases hv j r[j] v (af d) hj with e|⟨e,t,z,D⟩
     ·rw[e];exact f
     ·rw[e] at f;rw[D];cases f;exact .slnil _ _
 have look:∀j q,Hp.put s.h k ⟨b,ty,sz,[r']⟩ j=some q->∃p,s.h j=some p/\p.b=q.b/\(fU F C.B w p->fU F C.B w q):=by
  intro j q hj;simp only[Hp.put] at hj
  by_cases h:j=k
  ·rw[ae h] at hj;cases hj;subst h;exact⟨_,hk,rfl,one⟩
  ·rw[aa h] at hj;exact⟨q,hj,rfl,id⟩
 refine⟨⟨F,⟨λj q hj=>?_,λj x q E b' hj g hb hb'=>?_,λj q b' hj hb=>?_,h1.gH,h1.new,h1.lt,h1.ev⟩,h2⟩,hs.df,hs.sz⟩
 ·obtain⟨p,p1,p2,l⟩:=look j q hj;exact l (h1.ob j p p1)
 ·obtain⟨p,p1,p2,l⟩:=look j q hj;obtain⟨G,m,o,H⟩:=look x E g;exact h1.inj j x p G b' p1 m (p2.trans hb) (o.trans hb')
 ·obtain⟨p,p1,p2,l⟩:=look j q hj;exact h1.live j p b' p1 (p2.trans hb)
theorem c6.OM{s:S}{k ty sz c z:Nat}{t:Bool}{b:Option Nat}{r:List V}(hk:s.h k=some ⟨b,ty,sz,[r]⟩)(hc:r[c]? =some .nilsl):c6 s ⟨s.t,Hp.put s.h k ⟨b,ty,sz,[r.set c (.sl t z [])]⟩⟩:=by
 refine c6.cells hk (List.length_set ..) λi v v' hi hv=>?_;rw[cX] at hv
 by_cases h:c=i
 ·subst h;rw[ae rfl] at hv;rw[hc] at hi;cases hi
  split at hv
  ·cases hv;exact .inr ⟨rfl,t,z,rfl⟩
  ·cases hv
 ·rw[aa h,hi] at hv;cases hv;exact .inl rfl
theorem c6.Ud{s:S}{q k bl n:Nat}{b:Option Nat}{d:iq}{rows lr:List (List V)}(hq:s.h q=some (fI bl d (.own k b 1 n) (.sl false 3 lr)))(hk:s.h k=some ⟨b,9,1,rows⟩)(hn:rows.length=n)(hz:∀r∈rows,∀v∈r,Fz v)(hne:q≠k):
  ∃s',c6 s s'/\s'.t=s.t/\s'.h q=some (fI bl d (.sl false 1 rows) (.sl false 3 lr))/\∀j,j≠q->j≠k->s'.h j=s.h j:=by
 refine⟨_,c6.ZA (jU.FA (c:=23) hk hq rfl rfl rfl rfl hn hz),rfl,?_,λj h1 h2=>?_⟩
 ·show Hp.del (Hp.put s.h q _) k q=_;simp only[Hp.del,Hp.put];rw[aa hne,ae trivial];rfl
 ·show Hp.del (Hp.put s.h q _) k j=_;simp only[Hp.del,Hp.put];rw[aa h2,aa h1]
end Go.Proofs.YtobngncjflogcaaGreat.AM
