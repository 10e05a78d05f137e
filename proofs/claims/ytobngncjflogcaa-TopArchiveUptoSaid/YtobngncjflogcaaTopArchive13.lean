/-
  Texts of the plain machine, put together: what the law TopArchive reaches.
-/
import Derived.Test.YtobngncjflogcaaTopArchive12
import Derived.Test.YtobngncjflogcaaTopArchive6
import Derived.Test.YtobngncjflogcaaTopArchive8
import Derived.Test.YtobngncjflogcaaTopArchive5
set_option linter.unusedVariables false
set_option linter.unusedSimpArgs false
namespace Go.Proofs.Ytobngncjflogcaa.AM
open Go Go.RowKit
set_option maxRecDepth 100000
set_option maxHeartbeats 2000000
structure OpR where
  d : SC
  l : List Rev
  e : Int
def openD (a1 : List UInt8) (a2 : Int) (b1 : List UInt8) (b2 i : Int) (L : LogD) : SC :=
  { synS (trmS (trmS ⟨a1, a2, b1, b2, i, L.gen, L.base, L.text, L.first, L.table, L.whole, L.good, [], 0, false⟩ i L.good) (1 - i) 0) i with now := (textF L.text L.revs (L.revs.length : Int)).1, sf := L.base + (L.revs.length : Int) }
def goodL (q : LogD × Int) : Prop := q.2 = 0 ∧ q.1.whole = true
instance (q : LogD × Int) : Decidable (goodL q) := inferInstanceAs (Decidable (_ ∧ _))
def openG (A B : LogD × Int) (a1 : List UInt8) (a2 : Int) (b1 : List UInt8) (b2 : Int) : OpR :=
  if goodL A then (if goodL B ∧ A.1.gen < B.1.gen then ⟨openD a1 a2 b1 b2 1 B.1, B.1.revs, 0⟩ else ⟨openD a1 a2 b1 b2 0 A.1, A.1.revs, 0⟩)
  else if goodL B then ⟨openD a1 a2 b1 b2 1 B.1, B.1.revs, 0⟩ else ⟨Z0, [], 12⟩
def openF (a1 : List UInt8) (a2 : Int) (b1 : List UInt8) (b2 : Int) : OpR := if diskT a1 a2 b1 b2 ≠ 0 then ⟨Z0, [], diskT a1 a2 b1 b2⟩ else openG (readL (scanF a1).1) (readL (scanF b1).1) a1 a2 b1 b2
structure GL (L : LogD) where
  ba : Option Nat
  n : Nat
  rows : List (List V)
  hn : n = L.revs.length
  hrows : rows = L.revs.map encRev
inductive YOp (gA gB : Prop) (LA LB : LogD) where
  | y0
  | n1 (h : ¬ gA)
  | s1 (G : GL LA) (h : gA)
  | nn (h : ¬ gA) (h' : ¬ gB)
  | ns (h : ¬ gA) (G : GL LB) (h' : gB)
  | sn (G : GL LA) (h : gA) (h' : ¬ gB)
  | ss (G : GL LA) (G' : GL LB) (h : gA) (h' : gB) (hg : ¬ LA.gen < LB.gen)
  | st (G : GL LA) (G' : GL LB) (h : gA) (h' : gB) (hg : LA.gen < LB.gen)
structure LogOk (L : LogD) : Prop where
  b : 0 ≤ L.base ∧ L.base ≤ 4294967295
  n : L.revs.length ≤ 1000
  rv : RevsOk L.revs
def ac_sopen : AC := .seq (.region false [
    ⟨some 1, none, .box 26 4 (.t 0)⟩,
    ⟨some 2, none, .mov (.c (.pointer none))⟩,
    ⟨some 3, none, .mov (.c (.int .i64 0))⟩])
  (.seq (.seq (.region false [
    ⟨some 12, none, .loadn 4 (.t 1)⟩,
    ⟨some 13, none, .call 33 [(.t 12)]⟩,
    ⟨some 4, none, .mov (.t 13)⟩])
  (.seq (.region false [
    ⟨some 14, none, .mov (.t 4)⟩,
    ⟨some 15, none, .bin .neq (.t 14) (.c (.int .i64 0))⟩])
  (.cond (.t 15)
    (.seq (.region false [
      ⟨some 16, none, .mov (.t 4)⟩,
      ⟨some 2, none, .mov (.c (.pointer none))⟩,
      ⟨some 3, none, .mov (.t 16)⟩])
    (.ret))
    (.skip))))
  (.seq (.region false [
    ⟨some 5, none, .mov (.c (.int .i64 (-1)))⟩])
  (.seq (.region false [
    ⟨some 6, none, .alloc 82 [(.int .i64 0), (.int .i64 0), (.string ⟨#[]⟩), (.int .i64 0), (.int .i64 0), (.int .i64 0), (.int .i64 0), (.int .i64 0), (.int .i64 0), (.int .i64 0), (.int .i64 0), (.int .i64 0), (.int .i64 0), (.int .i64 0), (.int .i64 0), (.int .i64 0), (.int .i64 0), (.int .i64 0), (.int .i64 0), (.int .i64 0), (.int .i64 0), (.int .i64 0), (.int .i64 0), (.int .i64 0), (.int .i64 0), (.int .i64 0), (.int .i64 0), (.int .i64 0), (.int .i64 0), (.int .i64 0), (.int .i64 0), (.int .i64 0), (.int .i64 0), (.int .i64 0), (.int .i64 0), (.slice none 0 0), (.bool false), (.int .i64 0), (.int .i64 0), (.int .i64 0), (.string ⟨#[]⟩), (.int .i64 0), (.int .i64 0), (.int .i64 0), (.int .i64 0), (.int .i64 0), (.int .i64 0), (.int .i64 0), (.int .i64 0), (.int .i64 0), (.int .i64 0), (.int .i64 0), (.int .i64 0), (.int .i64 0), (.int .i64 0), (.int .i64 0), (.int .i64 0), (.int .i64 0), (.int .i64 0), (.int .i64 0), (.int .i64 0), (.int .i64 0), (.int .i64 0), (.int .i64 0), (.int .i64 0), (.int .i64 0), (.int .i64 0), (.int .i64 0), (.int .i64 0), (.int .i64 0), (.int .i64 0), (.int .i64 0), (.int .i64 0), (.slice none 0 0), (.bool false), (.int .i64 0)]⟩])
  (.seq (.seq (.region false [
    ⟨some 17, none, .faddr 0 (.t 1)⟩,
    ⟨some 18, none, .loadn 4 (.t 17)⟩,
    ⟨some 19, none, .mov (.c (.int .i64 0))⟩])
  (.block 0 (.loop (.seq (.region false [
      ⟨some 20, none, .bin .lss (.t 19) (.c (.int .i64 2))⟩])
    (.seq (.cond (.t 20)
      (.skip)
      (.exit 0))
    (.seq (.block 1 (.seq (.region false [
      ⟨some 21, none, .mov (.t 19)⟩,
      ⟨some 22, none, .ixa true 2 2 (.t 18) (.t 19)⟩,
      ⟨some 8, none, .alloc 23 [(.string ⟨#[]⟩), (.int .i64 0)]⟩,
      ⟨some 7, none, .mov (.t 21)⟩,
      ⟨none, none, .store 2 (.t 8) (.t 22)⟩])
    (.seq (.region false [
      ⟨some 24, none, .faddr 0 (.t 8)⟩,
      ⟨some 25, none, .load1 (.t 24)⟩,
      ⟨some 26, none, .call 34 [(.t 25)]⟩,
      ⟨some 23, none, .mov (.t 26)⟩,
      ⟨some 27, none, .ext 0 (.t 23)⟩,
      ⟨some 28, none, .ext 1 (.t 23)⟩,
      ⟨some 9, none, .alloc 81 [(.int .i64 0), (.int .i64 0), (.string ⟨#[]⟩), (.int .i64 0), (.int .i64 0), (.int .i64 0), (.int .i64 0), (.int .i64 0), (.int .i64 0), (.int .i64 0), (.int .i64 0), (.int .i64 0), (.int .i64 0), (.int .i64 0), (.int .i64 0), (.int .i64 0), (.int .i64 0), (.int .i64 0), (.int .i64 0), (.int .i64 0), (.int .i64 0), (.int .i64 0), (.int .i64 0), (.int .i64 0), (.int .i64 0), (.int .i64 0), (.int .i64 0), (.int .i64 0), (.int .i64 0), (.int .i64 0), (.int .i64 0), (.int .i64 0), (.int .i64 0), (.int .i64 0), (.int .i64 0), (.slice none 0 0), (.bool false), (.int .i64 0)]⟩,
      ⟨none, none, .store 38 (.t 9) (.t 27)⟩,
      ⟨some 10, none, .mov (.t 28)⟩])
    (.seq (.seq (.region false [
      ⟨some 29, none, .mov (.t 10)⟩,
      ⟨some 30, none, .bin .neq (.t 29) (.c (.int .i64 0))⟩,
      ⟨some 31, none, .mov (.t 30)⟩,
      ⟨some 32, some (31, false), .faddr 36 (.t 9)⟩,
      ⟨some 33, some (31, false), .load1 (.t 32)⟩,
      ⟨some 34, some (31, false), .not (.t 33)⟩,
      ⟨some 35, none, .pick (.t 31) (.c (.bool true)) (.t 34)⟩])
    (.cond (.t 35)
      (.exit 1)
      (.skip)))
    (.seq (.region false [
      ⟨some 36, none, .mov (.t 7)⟩,
      ⟨some 37, none, .loadn 38 (.t 9)⟩,
      ⟨some 38, none, .iarr 2 38 (.t 6) (.t 36)⟩,
      ⟨none, none, .store 38 (.t 38) (.t 37)⟩])
    (.seq (.region true [
      ⟨some 39, none, .mov (.t 5)⟩,
      ⟨some 40, none, .bin .lss (.t 39) (.c (.int .i64 0))⟩,
      ⟨some 41, none, .mov (.t 40)⟩,
      ⟨some 42, some (41, false), .faddr 0 (.t 9)⟩,
      ⟨some 43, some (41, false), .load1 (.t 42)⟩,
      ⟨some 44, some (41, false), .mov (.t 5)⟩,
      ⟨some 45, some (41, false), .iarr 2 38 (.t 6) (.t 44)⟩,
      ⟨some 46, some (41, false), .faddr 0 (.t 45)⟩,
      ⟨some 47, some (41, false), .load1 (.t 46)⟩,
      ⟨some 48, some (41, false), .bin .gtr (.t 43) (.t 47)⟩,
      ⟨some 49, none, .pick (.t 41) (.c (.bool true)) (.t 48)⟩])
    (.cond (.t 49)
      (.region false [
        ⟨some 50, none, .mov (.t 7)⟩,
        ⟨some 5, none, .mov (.t 50)⟩])
      (.skip))))))))
    (.region false [
      ⟨some 51, none, .bin .add (.t 19) (.c (.int .i64 1))⟩,
      ⟨some 19, none, .mov (.t 51)⟩])))))))
  (.seq (.seq (.region false [
    ⟨some 52, none, .mov (.t 5)⟩,
    ⟨some 53, none, .bin .lss (.t 52) (.c (.int .i64 0))⟩])
  (.cond (.t 53)
    (.seq (.region false [
      ⟨some 2, none, .mov (.c (.pointer none))⟩,
      ⟨some 3, none, .mov (.c (.int .i64 12))⟩])
    (.ret))
    (.skip)))
  (.seq (.region true [
    ⟨some 54, none, .loadn 4 (.t 1)⟩,
    ⟨some 55, none, .mov (.t 5)⟩,
    ⟨some 56, none, .mov (.t 5)⟩,
    ⟨some 57, none, .iarr 2 38 (.t 6) (.t 56)⟩,
    ⟨some 58, none, .loadn 38 (.t 57)⟩,
    ⟨some 59, none, .build [(.string ⟨#[]⟩), (.int .i64 0), (.string ⟨#[]⟩), (.int .i64 0), (.int .i64 0), (.int .i64 0), (.int .i64 0), (.string ⟨#[]⟩), (.int .i64 0), (.int .i64 0), (.int .i64 0), (.int .i64 0), (.int .i64 0), (.int .i64 0), (.int .i64 0), (.int .i64 0), (.int .i64 0), (.int .i64 0), (.int .i64 0), (.int .i64 0), (.int .i64 0), (.int .i64 0), (.int .i64 0), (.int .i64 0), (.int .i64 0), (.int .i64 0), (.int .i64 0), (.int .i64 0), (.int .i64 0), (.int .i64 0), (.int .i64 0), (.int .i64 0), (.int .i64 0), (.int .i64 0), (.int .i64 0), (.int .i64 0), (.int .i64 0), (.int .i64 0), (.int .i64 0), (.int .i64 0), (.slice none 0 0), (.bool false), (.int .i64 0), (.string ⟨#[]⟩), (.int .i64 0), (.pointer none), (.bool false)] [(0, 4, (.t 54)), (4, 1, (.t 55)), (5, 38, (.t 58))]⟩,
    ⟨some 60, none, .box 87 47 (.t 59)⟩,
    ⟨some 11, none, .mov (.t 60)⟩])
  (.seq (.region false [
    ⟨some 61, none, .mov (.t 11)⟩,
    ⟨some 62, none, .mov (.t 5)⟩,
    ⟨some 63, none, .mov (.t 11)⟩,
    ⟨some 64, none, .nilchk (.t 63)⟩,
    ⟨some 65, none, .faddr 5 (.t 64)⟩,
    ⟨some 66, none, .faddr 37 (.t 65)⟩,
    ⟨some 67, none, .load1 (.t 66)⟩,
    ⟨some 68, none, .call 35 [(.t 61), (.t 62), (.t 67)]⟩])
  (.seq (.region false [
    ⟨some 69, none, .mov (.t 11)⟩,
    ⟨some 70, none, .mov (.t 5)⟩,
    ⟨some 71, none, .bin .sub (.c (.int .i64 1)) (.t 70)⟩,
    ⟨some 72, none, .call 35 [(.t 69), (.t 71), (.c (.int .i64 0))]⟩])
  (.seq (.region false [
    ⟨some 73, none, .mov (.t 11)⟩,
    ⟨some 74, none, .mov (.t 5)⟩,
    ⟨some 75, none, .call 36 [(.t 73), (.t 74)]⟩])
  (.seq (.region true [
    ⟨some 77, none, .mov (.t 11)⟩,
    ⟨some 78, none, .mov (.t 11)⟩,
    ⟨some 79, none, .nilchk (.t 78)⟩,
    ⟨some 80, none, .faddr 5 (.t 79)⟩,
    ⟨some 81, none, .faddr 2 (.t 80)⟩,
    ⟨some 82, none, .load1 (.t 81)⟩,
    ⟨some 83, none, .mov (.t 11)⟩,
    ⟨some 84, none, .nilchk (.t 83)⟩,
    ⟨some 85, none, .faddr 5 (.t 84)⟩,
    ⟨some 86, none, .faddr 35 (.t 85)⟩,
    ⟨some 87, none, .load1 (.t 86)⟩,
    ⟨some 88, none, .mov (.t 11)⟩,
    ⟨some 89, none, .nilchk (.t 88)⟩,
    ⟨some 90, none, .faddr 5 (.t 89)⟩,
    ⟨some 91, none, .faddr 35 (.t 90)⟩,
    ⟨some 92, none, .load1 (.t 91)⟩,
    ⟨some 93, none, .len false (.t 92)⟩,
    ⟨some 94, none, .call 12 [(.t 82), (.t 87), (.t 93)]⟩,
    ⟨some 76, none, .mov (.t 94)⟩,
    ⟨some 95, none, .ext 0 (.t 76)⟩,
    ⟨some 96, none, .ext 1 (.t 76)⟩,
    ⟨some 97, none, .nilchk (.t 77)⟩,
    ⟨some 98, none, .faddr 43 (.t 97)⟩,
    ⟨none, none, .store 1 (.t 98) (.t 95)⟩])
  (.seq (.region false [
    ⟨some 99, none, .mov (.t 11)⟩,
    ⟨some 100, none, .mov (.t 11)⟩,
    ⟨some 101, none, .call 20 [(.t 100)]⟩,
    ⟨some 102, none, .nilchk (.t 99)⟩,
    ⟨some 103, none, .faddr 44 (.t 102)⟩,
    ⟨none, none, .store 1 (.t 103) (.t 101)⟩])
  (.seq (.region false [
    ⟨some 104, none, .mov (.t 11)⟩,
    ⟨some 2, none, .mov (.t 104)⟩,
    ⟨some 3, none, .mov (.c (.int .i64 0))⟩])
  (.ret)))))))))))))
theorem ok_sopen : FnOk Try.prog 7 Try.f7 ac_sopen [.t 2, .t 3] 1 drawD := ⟨Try.func7, by decide +kernel, by kernel_rfl, by kernel_rfl, by decide +kernel⟩
theorem vc_sopen (P : Prim) (hP : P = std) (T T1 : CallT) (hrd : HReadC T) (htrm : STrmC T) (hsyn : SSynC T) (hhd : SHeadC T) (htx : RTextC T1) (a1 : List UInt8) (a2 : Int) (b1 : List UInt8) (b2 : Int) (c : Int) (h1 : Ans T 33 [.agg [.str a1, .int .i64 a2, .str b1, .int .i64 b2]] (.int .i64 c))
    (hla : c = 0 → a1.length ≤ 1048576) (hlb : c = 0 → b1.length ≤ 1048576) (LA LB : LogD) (eA eB : Int) (hA : readL (scanF a1).1 = (LA, eA)) (hB : readL (scanF b1).1 = (LB, eB)) (oA : eA = 0 → LogOk LA) (oB : eB = 0 → LogOk LB)
    (Y : OpR) (hY : Y = if c ≠ 0 then ⟨Z0, [], c⟩ else openG (LA, eA) (LB, eB) a1 a2 b1 b2)
    (R : S → Prop) (hE : ∀ (s s' : S) (e : Int), e = Y.e → e ≠ 0 → Ent s s' → Ret [.t 2, .t 3] [.nil, .int .i64 e] s' → R s)
    (hR : ∀ (s s' : S) (bl : Nat) (ba : Option Nat) (n : Nat) (rows : List (List V)) (d : SC), d = Y.d → Y.e = 0 → n = Y.l.length → rows = Y.l.map encRev → Ent s s' → Ret [.t 2, .t 3] [.ptr 60 (some bl) 47 0 0, .int .i64 0] s' →
      agreeH [(60, obSh bl (rowS d (.own 1000200 ba 3 n) .nil)), (1000200, obV ba rows), (999, ⟨none, 124, 3, []⟩)] s' → R s) : awp P T T1 ac_sopen (S0 [.agg [.str a1, .int .i64 a2, .str b1, .int .i64 b2]] Hp.emp) R (fun _ _ => False) R := by
  have a0 : P.leP 0 0 := le0 hP (by decide)
  have a01 : P.leP 0 1 := le0 hP (by decide)
  have l0 : P.ltP 0 2 := ltI hP (by decide)
  have l1 : P.ltP 1 2 := ltI hP (by decide)
  have n0 : P.nat 0 = 0 := by subst hP; rfl
  have n1 : P.nat 1 = 1 := by subst hP; rfl
  have c1 : P.i64 (P.add 0 1) := by rw [add_eq hP]; exact i64I hP (by decide)
  have c2 : P.i64 (P.add 1 1) := by rw [add_eq hP]; exact i64I hP (by decide)
  have c3 : P.add 0 1 = 1 := by rw [add_eq hP]; rfl
  have c4 : P.add 1 1 = 2 := by rw [add_eq hP]; rfl
  cbv
  repeat' (first
    | (refine And.intro (by first | assumption | decide) ?_; try cbv)
    | (intro β2; try cbv))
  refine h1 _ _ ?_
  cbv
  repeat' (first
    | (refine And.intro (by first | assumption | decide) ?_; try cbv)
    | (intro β2; try cbv))
  refine br_cases (fun g => ?_) (fun g => ?_)
  · have g1 : c ≠ 0 := ne_t hP g
    rw [if_pos g1] at hY
    cbv
    repeat' (first
    | (refine And.intro (by first | assumption | decide) ?_; try cbv)
    | (intro β2; try cbv))
    exact hE _ _ _ (by rw [hY]) g1 (Ent.refl _) rfl
  have g1 : c = 0 := ne_f hP g
  rw [if_neg (fun h => h g1)] at hY
  have hla := hla g1
  have hlb := hlb g1
  cbv
  repeat' (first
    | (refine And.intro (by first | assumption | decide) ?_; try cbv)
    | (intro β2; try cbv))
  rename_i βa
  refine ⟨YOp (goodL (LA, eA)) (goodL (LB, eB)) LA LB, fun y => match y with
      | .y0 => [(1, .ptr 1 (some βa) 4 0 0), (5, .int .i64 (-1)), (6, .ptr 6 (some β2) 76 0 0), (18, .agg [.str a1, .int .i64 a2, .str b1, .int .i64 b2]), (19, .int .i64 0)]
      | .n1 _ => [(1, .ptr 1 (some βa) 4 0 0), (5, .int .i64 (-1)), (6, .ptr 6 (some β2) 76 0 0), (18, .agg [.str a1, .int .i64 a2, .str b1, .int .i64 b2]), (19, .int .i64 1)]
      | .s1 GA _ => [(1, .ptr 1 (some βa) 4 0 0), (5, .int .i64 (0)), (6, .ptr 6 (some β2) 76 0 0), (18, .agg [.str a1, .int .i64 a2, .str b1, .int .i64 b2]), (19, .int .i64 1)]
      | .nn _ _ => [(1, .ptr 1 (some βa) 4 0 0), (5, .int .i64 (-1)), (6, .ptr 6 (some β2) 76 0 0), (18, .agg [.str a1, .int .i64 a2, .str b1, .int .i64 b2]), (19, .int .i64 2)]
      | .ns _ GB _ => [(1, .ptr 1 (some βa) 4 0 0), (5, .int .i64 (1)), (6, .ptr 6 (some β2) 76 0 0), (18, .agg [.str a1, .int .i64 a2, .str b1, .int .i64 b2]), (19, .int .i64 2)]
      | .sn GA _ _ => [(1, .ptr 1 (some βa) 4 0 0), (5, .int .i64 (0)), (6, .ptr 6 (some β2) 76 0 0), (18, .agg [.str a1, .int .i64 a2, .str b1, .int .i64 b2]), (19, .int .i64 2)]
      | .ss GA GB _ _ _ => [(1, .ptr 1 (some βa) 4 0 0), (5, .int .i64 (0)), (6, .ptr 6 (some β2) 76 0 0), (18, .agg [.str a1, .int .i64 a2, .str b1, .int .i64 b2]), (19, .int .i64 2)]
      | .st GA GB _ _ _ => [(1, .ptr 1 (some βa) 4 0 0), (5, .int .i64 (1)), (6, .ptr 6 (some β2) 76 0 0), (18, .agg [.str a1, .int .i64 a2, .str b1, .int .i64 b2]), (19, .int .i64 2)],
    fun y => match y with
      | .y0 => [(1, ⟨some βa, 26, 4, [[.str a1, .int .i64 a2, .str b1, .int .i64 b2]]⟩), (6, ⟨some β2, 82, 76, [[.int .i64 0, .int .i64 0, .str [], .int .i64 0, .int .i64 0, .int .i64 0, .int .i64 0, .int .i64 0, .int .i64 0, .int .i64 0, .int .i64 0, .int .i64 0, .int .i64 0, .int .i64 0, .int .i64 0, .int .i64 0, .int .i64 0, .int .i64 0, .int .i64 0, .int .i64 0, .int .i64 0, .int .i64 0, .int .i64 0, .int .i64 0, .int .i64 0, .int .i64 0, .int .i64 0, .int .i64 0, .int .i64 0, .int .i64 0, .int .i64 0, .int .i64 0, .int .i64 0, .int .i64 0, .int .i64 0, .nilsl, .bool false, .int .i64 0, .int .i64 0, .int .i64 0, .str [], .int .i64 0, .int .i64 0, .int .i64 0, .int .i64 0, .int .i64 0, .int .i64 0, .int .i64 0, .int .i64 0, .int .i64 0, .int .i64 0, .int .i64 0, .int .i64 0, .int .i64 0, .int .i64 0, .int .i64 0, .int .i64 0, .int .i64 0, .int .i64 0, .int .i64 0, .int .i64 0, .int .i64 0, .int .i64 0, .int .i64 0, .int .i64 0, .int .i64 0, .int .i64 0, .int .i64 0, .int .i64 0, .int .i64 0, .int .i64 0, .int .i64 0, .int .i64 0, .nilsl, .bool false, .int .i64 0]]⟩)]
      | .n1 _ => [(1, ⟨some βa, 26, 4, [[.str a1, .int .i64 a2, .str b1, .int .i64 b2]]⟩), (6, ⟨some β2, 82, 76, [[.int .i64 0, .int .i64 0, .str [], .int .i64 0, .int .i64 0, .int .i64 0, .int .i64 0, .int .i64 0, .int .i64 0, .int .i64 0, .int .i64 0, .int .i64 0, .int .i64 0, .int .i64 0, .int .i64 0, .int .i64 0, .int .i64 0, .int .i64 0, .int .i64 0, .int .i64 0, .int .i64 0, .int .i64 0, .int .i64 0, .int .i64 0, .int .i64 0, .int .i64 0, .int .i64 0, .int .i64 0, .int .i64 0, .int .i64 0, .int .i64 0, .int .i64 0, .int .i64 0, .int .i64 0, .int .i64 0, .nilsl, .bool false, .int .i64 0, .int .i64 0, .int .i64 0, .str [], .int .i64 0, .int .i64 0, .int .i64 0, .int .i64 0, .int .i64 0, .int .i64 0, .int .i64 0, .int .i64 0, .int .i64 0, .int .i64 0, .int .i64 0, .int .i64 0, .int .i64 0, .int .i64 0, .int .i64 0, .int .i64 0, .int .i64 0, .int .i64 0, .int .i64 0, .int .i64 0, .int .i64 0, .int .i64 0, .int .i64 0, .int .i64 0, .int .i64 0, .int .i64 0, .int .i64 0, .int .i64 0, .int .i64 0, .int .i64 0, .int .i64 0, .int .i64 0, .nilsl, .bool false, .int .i64 0]]⟩)]
      | .s1 GA _ => [(1, ⟨some βa, 26, 4, [[.str a1, .int .i64 a2, .str b1, .int .i64 b2]]⟩), (6, ⟨some β2, 82, 76, [[.int .i64 LA.gen, .int .i64 LA.base, .str LA.text, .int .i64 (LA.first 0), .int .i64 (LA.first 1), .int .i64 (LA.first 2), .int .i64 (LA.first 3), .int .i64 (LA.first 4), .int .i64 (LA.first 5), .int .i64 (LA.first 6), .int .i64 (LA.first 7), .int .i64 (LA.first 8), .int .i64 (LA.first 9), .int .i64 (LA.first 10), .int .i64 (LA.first 11), .int .i64 (LA.first 12), .int .i64 (LA.first 13), .int .i64 (LA.first 14), .int .i64 (LA.first 15), .int .i64 (LA.table 0), .int .i64 (LA.table 1), .int .i64 (LA.table 2), .int .i64 (LA.table 3), .int .i64 (LA.table 4), .int .i64 (LA.table 5), .int .i64 (LA.table 6), .int .i64 (LA.table 7), .int .i64 (LA.table 8), .int .i64 (LA.table 9), .int .i64 (LA.table 10), .int .i64 (LA.table 11), .int .i64 (LA.table 12), .int .i64 (LA.table 13), .int .i64 (LA.table 14), .int .i64 (LA.table 15), .own 1000200 GA.ba 3 GA.n, .bool LA.whole, .int .i64 LA.good, .int .i64 0, .int .i64 0, .str [], .int .i64 0, .int .i64 0, .int .i64 0, .int .i64 0, .int .i64 0, .int .i64 0, .int .i64 0, .int .i64 0, .int .i64 0, .int .i64 0, .int .i64 0, .int .i64 0, .int .i64 0, .int .i64 0, .int .i64 0, .int .i64 0, .int .i64 0, .int .i64 0, .int .i64 0, .int .i64 0, .int .i64 0, .int .i64 0, .int .i64 0, .int .i64 0, .int .i64 0, .int .i64 0, .int .i64 0, .int .i64 0, .int .i64 0, .int .i64 0, .int .i64 0, .int .i64 0, .nilsl, .bool false, .int .i64 0]]⟩), (1000200, obV GA.ba GA.rows)]
      | .nn _ _ => [(1, ⟨some βa, 26, 4, [[.str a1, .int .i64 a2, .str b1, .int .i64 b2]]⟩), (6, ⟨some β2, 82, 76, [[.int .i64 0, .int .i64 0, .str [], .int .i64 0, .int .i64 0, .int .i64 0, .int .i64 0, .int .i64 0, .int .i64 0, .int .i64 0, .int .i64 0, .int .i64 0, .int .i64 0, .int .i64 0, .int .i64 0, .int .i64 0, .int .i64 0, .int .i64 0, .int .i64 0, .int .i64 0, .int .i64 0, .int .i64 0, .int .i64 0, .int .i64 0, .int .i64 0, .int .i64 0, .int .i64 0, .int .i64 0, .int .i64 0, .int .i64 0, .int .i64 0, .int .i64 0, .int .i64 0, .int .i64 0, .int .i64 0, .nilsl, .bool false, .int .i64 0, .int .i64 0, .int .i64 0, .str [], .int .i64 0, .int .i64 0, .int .i64 0, .int .i64 0, .int .i64 0, .int .i64 0, .int .i64 0, .int .i64 0, .int .i64 0, .int .i64 0, .int .i64 0, .int .i64 0, .int .i64 0, .int .i64 0, .int .i64 0, .int .i64 0, .int .i64 0, .int .i64 0, .int .i64 0, .int .i64 0, .int .i64 0, .int .i64 0, .int .i64 0, .int .i64 0, .int .i64 0, .int .i64 0, .int .i64 0, .int .i64 0, .int .i64 0, .int .i64 0, .int .i64 0, .int .i64 0, .nilsl, .bool false, .int .i64 0]]⟩)]
      | .ns _ GB _ => [(1, ⟨some βa, 26, 4, [[.str a1, .int .i64 a2, .str b1, .int .i64 b2]]⟩), (6, ⟨some β2, 82, 76, [[.int .i64 0, .int .i64 0, .str [], .int .i64 0, .int .i64 0, .int .i64 0, .int .i64 0, .int .i64 0, .int .i64 0, .int .i64 0, .int .i64 0, .int .i64 0, .int .i64 0, .int .i64 0, .int .i64 0, .int .i64 0, .int .i64 0, .int .i64 0, .int .i64 0, .int .i64 0, .int .i64 0, .int .i64 0, .int .i64 0, .int .i64 0, .int .i64 0, .int .i64 0, .int .i64 0, .int .i64 0, .int .i64 0, .int .i64 0, .int .i64 0, .int .i64 0, .int .i64 0, .int .i64 0, .int .i64 0, .nilsl, .bool false, .int .i64 0, .int .i64 LB.gen, .int .i64 LB.base, .str LB.text, .int .i64 (LB.first 0), .int .i64 (LB.first 1), .int .i64 (LB.first 2), .int .i64 (LB.first 3), .int .i64 (LB.first 4), .int .i64 (LB.first 5), .int .i64 (LB.first 6), .int .i64 (LB.first 7), .int .i64 (LB.first 8), .int .i64 (LB.first 9), .int .i64 (LB.first 10), .int .i64 (LB.first 11), .int .i64 (LB.first 12), .int .i64 (LB.first 13), .int .i64 (LB.first 14), .int .i64 (LB.first 15), .int .i64 (LB.table 0), .int .i64 (LB.table 1), .int .i64 (LB.table 2), .int .i64 (LB.table 3), .int .i64 (LB.table 4), .int .i64 (LB.table 5), .int .i64 (LB.table 6), .int .i64 (LB.table 7), .int .i64 (LB.table 8), .int .i64 (LB.table 9), .int .i64 (LB.table 10), .int .i64 (LB.table 11), .int .i64 (LB.table 12), .int .i64 (LB.table 13), .int .i64 (LB.table 14), .int .i64 (LB.table 15), .own 1000201 GB.ba 3 GB.n, .bool LB.whole, .int .i64 LB.good]]⟩), (1000201, obV GB.ba GB.rows)]
      | .sn GA _ _ => [(1, ⟨some βa, 26, 4, [[.str a1, .int .i64 a2, .str b1, .int .i64 b2]]⟩), (6, ⟨some β2, 82, 76, [[.int .i64 LA.gen, .int .i64 LA.base, .str LA.text, .int .i64 (LA.first 0), .int .i64 (LA.first 1), .int .i64 (LA.first 2), .int .i64 (LA.first 3), .int .i64 (LA.first 4), .int .i64 (LA.first 5), .int .i64 (LA.first 6), .int .i64 (LA.first 7), .int .i64 (LA.first 8), .int .i64 (LA.first 9), .int .i64 (LA.first 10), .int .i64 (LA.first 11), .int .i64 (LA.first 12), .int .i64 (LA.first 13), .int .i64 (LA.first 14), .int .i64 (LA.first 15), .int .i64 (LA.table 0), .int .i64 (LA.table 1), .int .i64 (LA.table 2), .int .i64 (LA.table 3), .int .i64 (LA.table 4), .int .i64 (LA.table 5), .int .i64 (LA.table 6), .int .i64 (LA.table 7), .int .i64 (LA.table 8), .int .i64 (LA.table 9), .int .i64 (LA.table 10), .int .i64 (LA.table 11), .int .i64 (LA.table 12), .int .i64 (LA.table 13), .int .i64 (LA.table 14), .int .i64 (LA.table 15), .own 1000200 GA.ba 3 GA.n, .bool LA.whole, .int .i64 LA.good, .int .i64 0, .int .i64 0, .str [], .int .i64 0, .int .i64 0, .int .i64 0, .int .i64 0, .int .i64 0, .int .i64 0, .int .i64 0, .int .i64 0, .int .i64 0, .int .i64 0, .int .i64 0, .int .i64 0, .int .i64 0, .int .i64 0, .int .i64 0, .int .i64 0, .int .i64 0, .int .i64 0, .int .i64 0, .int .i64 0, .int .i64 0, .int .i64 0, .int .i64 0, .int .i64 0, .int .i64 0, .int .i64 0, .int .i64 0, .int .i64 0, .int .i64 0, .int .i64 0, .int .i64 0, .int .i64 0, .nilsl, .bool false, .int .i64 0]]⟩), (1000200, obV GA.ba GA.rows)]
      | .ss GA GB _ _ _ => [(1, ⟨some βa, 26, 4, [[.str a1, .int .i64 a2, .str b1, .int .i64 b2]]⟩), (6, ⟨some β2, 82, 76, [[.int .i64 LA.gen, .int .i64 LA.base, .str LA.text, .int .i64 (LA.first 0), .int .i64 (LA.first 1), .int .i64 (LA.first 2), .int .i64 (LA.first 3), .int .i64 (LA.first 4), .int .i64 (LA.first 5), .int .i64 (LA.first 6), .int .i64 (LA.first 7), .int .i64 (LA.first 8), .int .i64 (LA.first 9), .int .i64 (LA.first 10), .int .i64 (LA.first 11), .int .i64 (LA.first 12), .int .i64 (LA.first 13), .int .i64 (LA.first 14), .int .i64 (LA.first 15), .int .i64 (LA.table 0), .int .i64 (LA.table 1), .int .i64 (LA.table 2), .int .i64 (LA.table 3), .int .i64 (LA.table 4), .int .i64 (LA.table 5), .int .i64 (LA.table 6), .int .i64 (LA.table 7), .int .i64 (LA.table 8), .int .i64 (LA.table 9), .int .i64 (LA.table 10), .int .i64 (LA.table 11), .int .i64 (LA.table 12), .int .i64 (LA.table 13), .int .i64 (LA.table 14), .int .i64 (LA.table 15), .own 1000200 GA.ba 3 GA.n, .bool LA.whole, .int .i64 LA.good, .int .i64 LB.gen, .int .i64 LB.base, .str LB.text, .int .i64 (LB.first 0), .int .i64 (LB.first 1), .int .i64 (LB.first 2), .int .i64 (LB.first 3), .int .i64 (LB.first 4), .int .i64 (LB.first 5), .int .i64 (LB.first 6), .int .i64 (LB.first 7), .int .i64 (LB.first 8), .int .i64 (LB.first 9), .int .i64 (LB.first 10), .int .i64 (LB.first 11), .int .i64 (LB.first 12), .int .i64 (LB.first 13), .int .i64 (LB.first 14), .int .i64 (LB.first 15), .int .i64 (LB.table 0), .int .i64 (LB.table 1), .int .i64 (LB.table 2), .int .i64 (LB.table 3), .int .i64 (LB.table 4), .int .i64 (LB.table 5), .int .i64 (LB.table 6), .int .i64 (LB.table 7), .int .i64 (LB.table 8), .int .i64 (LB.table 9), .int .i64 (LB.table 10), .int .i64 (LB.table 11), .int .i64 (LB.table 12), .int .i64 (LB.table 13), .int .i64 (LB.table 14), .int .i64 (LB.table 15), .own 1000201 GB.ba 3 GB.n, .bool LB.whole, .int .i64 LB.good]]⟩), (1000200, obV GA.ba GA.rows), (1000201, obV GB.ba GB.rows)]
      | .st GA GB _ _ _ => [(1, ⟨some βa, 26, 4, [[.str a1, .int .i64 a2, .str b1, .int .i64 b2]]⟩), (6, ⟨some β2, 82, 76, [[.int .i64 LA.gen, .int .i64 LA.base, .str LA.text, .int .i64 (LA.first 0), .int .i64 (LA.first 1), .int .i64 (LA.first 2), .int .i64 (LA.first 3), .int .i64 (LA.first 4), .int .i64 (LA.first 5), .int .i64 (LA.first 6), .int .i64 (LA.first 7), .int .i64 (LA.first 8), .int .i64 (LA.first 9), .int .i64 (LA.first 10), .int .i64 (LA.first 11), .int .i64 (LA.first 12), .int .i64 (LA.first 13), .int .i64 (LA.first 14), .int .i64 (LA.first 15), .int .i64 (LA.table 0), .int .i64 (LA.table 1), .int .i64 (LA.table 2), .int .i64 (LA.table 3), .int .i64 (LA.table 4), .int .i64 (LA.table 5), .int .i64 (LA.table 6), .int .i64 (LA.table 7), .int .i64 (LA.table 8), .int .i64 (LA.table 9), .int .i64 (LA.table 10), .int .i64 (LA.table 11), .int .i64 (LA.table 12), .int .i64 (LA.table 13), .int .i64 (LA.table 14), .int .i64 (LA.table 15), .own 1000200 GA.ba 3 GA.n, .bool LA.whole, .int .i64 LA.good, .int .i64 LB.gen, .int .i64 LB.base, .str LB.text, .int .i64 (LB.first 0), .int .i64 (LB.first 1), .int .i64 (LB.first 2), .int .i64 (LB.first 3), .int .i64 (LB.first 4), .int .i64 (LB.first 5), .int .i64 (LB.first 6), .int .i64 (LB.first 7), .int .i64 (LB.first 8), .int .i64 (LB.first 9), .int .i64 (LB.first 10), .int .i64 (LB.first 11), .int .i64 (LB.first 12), .int .i64 (LB.first 13), .int .i64 (LB.first 14), .int .i64 (LB.first 15), .int .i64 (LB.table 0), .int .i64 (LB.table 1), .int .i64 (LB.table 2), .int .i64 (LB.table 3), .int .i64 (LB.table 4), .int .i64 (LB.table 5), .int .i64 (LB.table 6), .int .i64 (LB.table 7), .int .i64 (LB.table 8), .int .i64 (LB.table 9), .int .i64 (LB.table 10), .int .i64 (LB.table 11), .int .i64 (LB.table 12), .int .i64 (LB.table 13), .int .i64 (LB.table 14), .int .i64 (LB.table 15), .own 1000201 GB.ba 3 GB.n, .bool LB.whole, .int .i64 LB.good]]⟩), (1000200, obV GA.ba GA.rows), (1000201, obV GB.ba GB.rows)],
    fun y => match y with | .y0 => 2 | .n1 _ => 1 | .s1 _ _ => 1 | _ => 0,
    ⟨_, Ent.refl _, .y0, ⟨rfl, rfl, rfl, rfl, rfl, trivial⟩, ⟨rfl, rfl, trivial⟩⟩, ?_⟩
  rintro (_ | hnA | ⟨GA, hgA⟩ | ⟨hnA, hnB⟩ | ⟨hnA, GB, hgB⟩ | ⟨GA, hgA, hnB⟩ | ⟨GA, GB, hgA, hgB, hlt⟩ | ⟨GA, GB, hgA, hgB, hlt⟩)
  · cbv
    refine br_tt (lt_T hP (by decide)) ?_
    cbv
    repeat' (first
    | (refine And.intro (by first | assumption | decide) ?_; try cbv)
    | (refine ⟨0, n0, ?_⟩; try cbv)
    | (intro β9; try cbv))
    refine hrd 1000200 _ _ _ hla rfl fun L' e' ba n rows hLe hn hrows => ?_
    rw [hA] at hLe
    obtain ⟨rfl, rfl⟩ : L' = LA ∧ e' = eA := ⟨congrArg Prod.fst hLe, congrArg Prod.snd hLe⟩
    refine ⟨fun he => ?_, fun he => ?_, fun he => ?_⟩
    · cbv
      repeat' (first
    | (refine And.intro (by first | assumption | decide) ?_; try cbv)
    | (intro β9; try cbv))
      refine br_ff (ne_F hP he) ?_
      cbv
      repeat' (first
    | (refine And.intro (by first | assumption | decide) ?_; try cbv)
    | (intro β9; try cbv))
      refine br_cases (fun g => ?_) (fun g => ?_)
      · have hw : L'.whole = true := g
        have hg0 : goodL (L', e') := ⟨he, hw⟩
        cbv
        repeat' (first
    | (refine And.intro (by first | assumption | decide) ?_; try cbv)
    | (refine ⟨0, n0, ?_⟩; try cbv)
    | (intro β9; try cbv))
        refine br_tt (lt_T hP (by decide)) ?_
        cbv
        repeat' (first
    | (refine And.intro (by first | assumption | decide) ?_; try cbv)
    | (intro β9; try cbv))
        rw [c3]
        exact ⟨_, Ent.refl _, .s1 ⟨ba, n, rows, hn, hrows⟩ hg0, ⟨rfl, rfl, rfl, rfl, rfl, trivial⟩, ⟨rfl, rfl, rfl, trivial⟩, Nat.lt_add_one 1⟩
      · have hw : L'.whole = false := g
        have hg0 : ¬ goodL (L', e') := fun hh => by have := hh.2; rw [hw] at this; cases this
        cbv
        repeat' (first
    | (refine And.intro (by first | assumption | decide) ?_; try cbv)
    | (intro β9; try cbv))
        rw [c3]
        exact ⟨_, Ent.refl _, .n1 hg0, ⟨rfl, rfl, rfl, rfl, rfl, trivial⟩, ⟨rfl, rfl, trivial⟩, Nat.lt_add_one 1⟩
    · have hg0 : ¬ goodL (L', e') := fun hh => he hh.1
      cbv
      repeat' (first
    | (refine And.intro (by first | assumption | decide) ?_; try cbv)
    | (intro β9; try cbv))
      refine br_tt (ne_T hP he) ?_
      cbv
      repeat' (first
    | (refine And.intro (by first | assumption | decide) ?_; try cbv)
    | (intro β9; try cbv))
      rw [c3]
      exact ⟨_, Ent.refl _, .n1 hg0, ⟨rfl, rfl, rfl, rfl, rfl, trivial⟩, ⟨rfl, rfl, trivial⟩, Nat.lt_add_one 1⟩
    · have hg0 : ¬ goodL (L', e') := fun hh => he hh.1
      cbv
      repeat' (first
    | (refine And.intro (by first | assumption | decide) ?_; try cbv)
    | (intro β9; try cbv))
      refine br_tt (ne_T hP he) ?_
      cbv
      repeat' (first
    | (refine And.intro (by first | assumption | decide) ?_; try cbv)
    | (intro β9; try cbv))
      rw [c3]
      exact ⟨_, Ent.refl _, .n1 hg0, ⟨rfl, rfl, rfl, rfl, rfl, trivial⟩, ⟨rfl, rfl, trivial⟩, Nat.lt_add_one 1⟩
  · cbv
    refine br_tt (lt_T hP (by decide)) ?_
    cbv
    repeat' (first
    | (refine And.intro (by first | assumption | decide) ?_; try cbv)
    | (refine ⟨1, n1, ?_⟩; try cbv)
    | (intro β9; try cbv))
    refine hrd 1000201 _ _ _ hlb rfl fun L' e' ba n rows hLe hn hrows => ?_
    rw [hB] at hLe
    obtain ⟨rfl, rfl⟩ : L' = LB ∧ e' = eB := ⟨congrArg Prod.fst hLe, congrArg Prod.snd hLe⟩
    refine ⟨fun he => ?_, fun he => ?_, fun he => ?_⟩
    · cbv
      repeat' (first
    | (refine And.intro (by first | assumption | decide) ?_; try cbv)
    | (intro β9; try cbv))
      refine br_ff (ne_F hP he) ?_
      cbv
      repeat' (first
    | (refine And.intro (by first | assumption | decide) ?_; try cbv)
    | (intro β9; try cbv))
      refine br_cases (fun g => ?_) (fun g => ?_)
      · have hw : L'.whole = true := g
        have hg0 : goodL (L', e') := ⟨he, hw⟩
        cbv
        repeat' (first
    | (refine And.intro (by first | assumption | decide) ?_; try cbv)
    | (refine ⟨1, n1, ?_⟩; try cbv)
    | (intro β9; try cbv))
        refine br_tt (lt_T hP (by decide)) ?_
        cbv
        repeat' (first
    | (refine And.intro (by first | assumption | decide) ?_; try cbv)
    | (intro β9; try cbv))
        rw [c4]
        exact ⟨_, Ent.refl _, .ns hnA ⟨ba, n, rows, hn, hrows⟩ hg0, ⟨rfl, rfl, rfl, rfl, rfl, trivial⟩, ⟨rfl, rfl, rfl, trivial⟩, Nat.lt_add_one 0⟩
      · have hw : L'.whole = false := g
        have hg0 : ¬ goodL (L', e') := fun hh => by have := hh.2; rw [hw] at this; cases this
        cbv
        repeat' (first
    | (refine And.intro (by first | assumption | decide) ?_; try cbv)
    | (intro β9; try cbv))
        rw [c4]
        exact ⟨_, Ent.refl _, .nn hnA hg0, ⟨rfl, rfl, rfl, rfl, rfl, trivial⟩, ⟨rfl, rfl, trivial⟩, Nat.lt_add_one 0⟩
    · have hg0 : ¬ goodL (L', e') := fun hh => he hh.1
      cbv
      repeat' (first
    | (refine And.intro (by first | assumption | decide) ?_; try cbv)
    | (intro β9; try cbv))
      refine br_tt (ne_T hP he) ?_
      cbv
      repeat' (first
    | (refine And.intro (by first | assumption | decide) ?_; try cbv)
    | (intro β9; try cbv))
      rw [c4]
      exact ⟨_, Ent.refl _, .nn hnA hg0, ⟨rfl, rfl, rfl, rfl, rfl, trivial⟩, ⟨rfl, rfl, trivial⟩, Nat.lt_add_one 0⟩
    · have hg0 : ¬ goodL (L', e') := fun hh => he hh.1
      cbv
      repeat' (first
    | (refine And.intro (by first | assumption | decide) ?_; try cbv)
    | (intro β9; try cbv))
      refine br_tt (ne_T hP he) ?_
      cbv
      repeat' (first
    | (refine And.intro (by first | assumption | decide) ?_; try cbv)
    | (intro β9; try cbv))
      rw [c4]
      exact ⟨_, Ent.refl _, .nn hnA hg0, ⟨rfl, rfl, rfl, rfl, rfl, trivial⟩, ⟨rfl, rfl, trivial⟩, Nat.lt_add_one 0⟩
  · cbv
    refine br_tt (lt_T hP (by decide)) ?_
    cbv
    repeat' (first
    | (refine And.intro (by first | assumption | decide) ?_; try cbv)
    | (refine ⟨1, n1, ?_⟩; try cbv)
    | (intro β9; try cbv))
    refine hrd 1000201 _ _ _ hlb rfl fun L' e' ba n rows hLe hn hrows => ?_
    rw [hB] at hLe
    obtain ⟨rfl, rfl⟩ : L' = LB ∧ e' = eB := ⟨congrArg Prod.fst hLe, congrArg Prod.snd hLe⟩
    refine ⟨fun he => ?_, fun he => ?_, fun he => ?_⟩
    · cbv
      repeat' (first
    | (refine And.intro (by first | assumption | decide) ?_; try cbv)
    | (intro β9; try cbv))
      refine br_ff (ne_F hP he) ?_
      cbv
      repeat' (first
    | (refine And.intro (by first | assumption | decide) ?_; try cbv)
    | (intro β9; try cbv))
      refine br_cases (fun g => ?_) (fun g => ?_)
      · have hw : L'.whole = true := g
        have hg0 : goodL (L', e') := ⟨he, hw⟩
        cbv
        repeat' (first
    | (refine And.intro (by first | assumption | decide) ?_; try cbv)
    | (refine ⟨1, n1, ?_⟩; try cbv)
    | (intro β9; try cbv))
        refine br_ff (lt_F hP (by decide)) ?_
        cbv
        repeat' (first
    | (refine And.intro (by first | assumption | decide) ?_; try cbv)
    | (refine ⟨0, n0, ?_⟩; try cbv)
    | (intro β9; try cbv))
        refine br_cases (fun g => ?_) (fun g => ?_)
        · have hlt : LA.gen < L'.gen := lt_t hP g
          cbv
          repeat' (first
    | (refine And.intro (by first | assumption | decide) ?_; try cbv)
    | (intro β9; try cbv))
          rw [c4]
          exact ⟨_, Ent.refl _, .st GA ⟨ba, n, rows, hn, hrows⟩ hgA hg0 hlt, ⟨rfl, rfl, rfl, rfl, rfl, trivial⟩, ⟨rfl, rfl, rfl, rfl, trivial⟩, Nat.lt_add_one 0⟩
        · have hlt : ¬ LA.gen < L'.gen := lt_f hP g
          cbv
          repeat' (first
    | (refine And.intro (by first | assumption | decide) ?_; try cbv)
    | (intro β9; try cbv))
          rw [c4]
          exact ⟨_, Ent.refl _, .ss GA ⟨ba, n, rows, hn, hrows⟩ hgA hg0 hlt, ⟨rfl, rfl, rfl, rfl, rfl, trivial⟩, ⟨rfl, rfl, rfl, rfl, trivial⟩, Nat.lt_add_one 0⟩
      · have hw : L'.whole = false := g
        have hg0 : ¬ goodL (L', e') := fun hh => by have := hh.2; rw [hw] at this; cases this
        cbv
        repeat' (first
    | (refine And.intro (by first | assumption | decide) ?_; try cbv)
    | (intro β9; try cbv))
        rw [c4]
        exact ⟨_, Ent.refl _, .sn GA hgA hg0, ⟨rfl, rfl, rfl, rfl, rfl, trivial⟩, ⟨rfl, rfl, rfl, trivial⟩, Nat.lt_add_one 0⟩
    · have hg0 : ¬ goodL (L', e') := fun hh => he hh.1
      cbv
      repeat' (first
    | (refine And.intro (by first | assumption | decide) ?_; try cbv)
    | (intro β9; try cbv))
      refine br_tt (ne_T hP he) ?_
      cbv
      repeat' (first
    | (refine And.intro (by first | assumption | decide) ?_; try cbv)
    | (intro β9; try cbv))
      rw [c4]
      exact ⟨_, Ent.refl _, .sn GA hgA hg0, ⟨rfl, rfl, rfl, rfl, rfl, trivial⟩, ⟨rfl, rfl, rfl, trivial⟩, Nat.lt_add_one 0⟩
    · have hg0 : ¬ goodL (L', e') := fun hh => he hh.1
      cbv
      repeat' (first
    | (refine And.intro (by first | assumption | decide) ?_; try cbv)
    | (intro β9; try cbv))
      refine br_tt (ne_T hP he) ?_
      cbv
      repeat' (first
    | (refine And.intro (by first | assumption | decide) ?_; try cbv)
    | (intro β9; try cbv))
      rw [c4]
      exact ⟨_, Ent.refl _, .sn GA hgA hg0, ⟨rfl, rfl, rfl, rfl, rfl, trivial⟩, ⟨rfl, rfl, rfl, trivial⟩, Nat.lt_add_one 0⟩
  · have hY2 : Y = ⟨Z0, [], 12⟩ := by rw [hY]; unfold openG; rw [if_neg hnA, if_neg hnB]
    cbv
    refine br_ff (lt_F hP (by decide)) ?_
    cbv
    repeat' (first
    | (refine And.intro (by first | assumption | decide) ?_; try cbv)
    | (intro β9; try cbv))
    refine br_tt (lt_T hP (by decide)) ?_
    cbv
    repeat' (first
    | (refine And.intro (by first | assumption | decide) ?_; try cbv)
    | (intro β9; try cbv))
    exact hE _ _ _ (by rw [hY2]) (by decide) (Ent.refl _) rfl
  · have hY2 : Y = ⟨openD a1 a2 b1 b2 1 LB, LB.revs, 0⟩ := by rw [hY]; unfold openG; rw [if_neg hnA, if_pos hgB]
    have hok := oB hgB.1
    obtain ⟨gba, gn, grows, ghn, ghrows⟩ := GB
    have p1 : P.i64 (P.sub 1 1) := by rw [sub_eq hP]; exact i64I hP (by decide)
    have p2 : P.sub 1 1 = 1 - 1 := sub_eq hP _ _
    have hgn2 : gn ≤ 1000 := by rw [ghn]; exact hok.n
    cbv
    refine br_ff (lt_F hP (by decide)) ?_
    cbv
    repeat' (first
    | (refine And.intro (by first | assumption | decide) ?_; try cbv)
    | (intro β9; try cbv))
    refine br_ff (lt_F hP (by decide)) ?_
    cbv
    repeat' (first
    | (refine And.intro (by first | assumption | decide) ?_; try cbv)
    | (refine ⟨1, n1, ?_⟩; try cbv)
    | (intro β9; try cbv))
    refine htrm 60 _ (⟨a1, a2, b1, b2, 1, LB.gen, LB.base, LB.text, LB.first, LB.table, LB.whole, LB.good, [], 0, false⟩ : SC) (.own 1000201 gba 3 gn) .nil _ _ _ _ ⟨⟨.own _ _ _ _, rfl⟩, .nil, rfl⟩ rfl rfl rfl fun d1 hd1 => ?_
    cbv
    repeat' (first
    | (refine And.intro (by first | assumption | decide) ?_; try cbv)
    | (intro β9; try cbv))
    refine htrm 60 _ d1 (.own 1000201 gba 3 gn) .nil _ _ _ _ ⟨⟨.own _ _ _ _, rfl⟩, .nil, rfl⟩ rfl rfl rfl fun d2 hd2 => ?_
    have hd2 : d2 = trmS d1 (P.sub 1 1) 0 := hd2
    rw [p2] at hd2
    cbv
    repeat' (first
    | (refine And.intro (by first | assumption | decide) ?_; try cbv)
    | (intro β9; try cbv))
    refine hsyn 60 _ d2 (.own 1000201 gba 3 gn) .nil _ _ _ ⟨⟨.own _ _ _ _, rfl⟩, .nil, rfl⟩ rfl rfl rfl fun d3 hd3 => ?_
    have htx3 : d3.tx = LB.text := by rw [hd3, hd2, hd1]; rfl
    have hb3 : d3.b = LB.base := by rw [hd3, hd2, hd1]; rfl
    cbv
    repeat' (first
    | (refine And.intro (by first | assumption | decide) ?_; try cbv)
    | (intro β9; try cbv))
    refine htx 1000201 gba gn grows LB.revs _ _ _ _ ghrows ghn hok.rv rfl fun x y hx hy => ?_
    have hx : x = (textF d3.tx LB.revs (P.int gn)).1 := hx
    rw [htx3, int_eq hP, ghn] at hx
    cbv
    repeat' (first
    | (refine And.intro (by first | assumption | decide) ?_; try cbv)
    | (intro β9; try cbv))
    refine hhd 60 _ { d3 with now := x } 1000201 gba gn .nil _ _ (by rw [show ({ d3 with now := x } : SC).b = LB.base from hb3]; exact hok.b) hgn2 ⟨.nil, rfl⟩ rfl rfl rfl fun q hq => ?_
    have hq : q = d3.b + (gn : Int) := hq
    rw [hb3, ghn] at hq
    cbv
    repeat' (first
    | (refine And.intro (by first | assumption | decide) ?_; try cbv)
    | (intro β9; try cbv))
    refine hR _ _ _ gba gn grows { d3 with now := x, sf := q } (by rw [hY2, hq, hx, hd3, hd2, hd1]; rfl) (by rw [hY2]) (by rw [hY2]; exact ghn) (by rw [hY2]; exact ghrows)
      (Ent.trans (Ent.nilOb _ 999 124 3) (Ent.renL [(60, 60, obSh _ (rowS { d3 with now := x, sf := q } (.own 1000200 gba 3 gn) .nil)), (1000200, 1000201, obV gba grows), (999, 999, ⟨none, 124, 3, []⟩)] (by show ([60, 1000201, 999] : List Nat).Nodup; decide) ⟨⟨_, rfl, rfl, rfl⟩, ⟨_, rfl, rfl, rfl⟩, ⟨_, rfl, rfl, rfl⟩, trivial⟩)) rfl ⟨rfl, rfl, rfl, trivial⟩
  · have hY2 : Y = ⟨openD a1 a2 b1 b2 0 LA, LA.revs, 0⟩ := by rw [hY]; unfold openG; rw [if_pos hgA, if_neg (fun hh => hnB hh.1)]
    have hok := oA hgA.1
    obtain ⟨gba, gn, grows, ghn, ghrows⟩ := GA
    have p1 : P.i64 (P.sub 1 0) := by rw [sub_eq hP]; exact i64I hP (by decide)
    have p2 : P.sub 1 0 = 1 - 0 := sub_eq hP _ _
    have hgn2 : gn ≤ 1000 := by rw [ghn]; exact hok.n
    cbv
    refine br_ff (lt_F hP (by decide)) ?_
    cbv
    repeat' (first
    | (refine And.intro (by first | assumption | decide) ?_; try cbv)
    | (intro β9; try cbv))
    refine br_ff (lt_F hP (by decide)) ?_
    cbv
    repeat' (first
    | (refine And.intro (by first | assumption | decide) ?_; try cbv)
    | (refine ⟨0, n0, ?_⟩; try cbv)
    | (intro β9; try cbv))
    refine htrm 60 _ (⟨a1, a2, b1, b2, 0, LA.gen, LA.base, LA.text, LA.first, LA.table, LA.whole, LA.good, [], 0, false⟩ : SC) (.own 1000200 gba 3 gn) .nil _ _ _ _ ⟨⟨.own _ _ _ _, rfl⟩, .nil, rfl⟩ rfl rfl rfl fun d1 hd1 => ?_
    cbv
    repeat' (first
    | (refine And.intro (by first | assumption | decide) ?_; try cbv)
    | (intro β9; try cbv))
    refine htrm 60 _ d1 (.own 1000200 gba 3 gn) .nil _ _ _ _ ⟨⟨.own _ _ _ _, rfl⟩, .nil, rfl⟩ rfl rfl rfl fun d2 hd2 => ?_
    have hd2 : d2 = trmS d1 (P.sub 1 0) 0 := hd2
    rw [p2] at hd2
    cbv
    repeat' (first
    | (refine And.intro (by first | assumption | decide) ?_; try cbv)
    | (intro β9; try cbv))
    refine hsyn 60 _ d2 (.own 1000200 gba 3 gn) .nil _ _ _ ⟨⟨.own _ _ _ _, rfl⟩, .nil, rfl⟩ rfl rfl rfl fun d3 hd3 => ?_
    have htx3 : d3.tx = LA.text := by rw [hd3, hd2, hd1]; rfl
    have hb3 : d3.b = LA.base := by rw [hd3, hd2, hd1]; rfl
    cbv
    repeat' (first
    | (refine And.intro (by first | assumption | decide) ?_; try cbv)
    | (intro β9; try cbv))
    refine htx 1000200 gba gn grows LA.revs _ _ _ _ ghrows ghn hok.rv rfl fun x y hx hy => ?_
    have hx : x = (textF d3.tx LA.revs (P.int gn)).1 := hx
    rw [htx3, int_eq hP, ghn] at hx
    cbv
    repeat' (first
    | (refine And.intro (by first | assumption | decide) ?_; try cbv)
    | (intro β9; try cbv))
    refine hhd 60 _ { d3 with now := x } 1000200 gba gn .nil _ _ (by rw [show ({ d3 with now := x } : SC).b = LA.base from hb3]; exact hok.b) hgn2 ⟨.nil, rfl⟩ rfl rfl rfl fun q hq => ?_
    have hq : q = d3.b + (gn : Int) := hq
    rw [hb3, ghn] at hq
    cbv
    repeat' (first
    | (refine And.intro (by first | assumption | decide) ?_; try cbv)
    | (intro β9; try cbv))
    refine hR _ _ _ gba gn grows { d3 with now := x, sf := q } (by rw [hY2, hq, hx, hd3, hd2, hd1]; rfl) (by rw [hY2]) (by rw [hY2]; exact ghn) (by rw [hY2]; exact ghrows)
      (Ent.trans (Ent.nilOb _ 999 124 3) (Ent.renL [(60, 60, obSh _ (rowS { d3 with now := x, sf := q } (.own 1000200 gba 3 gn) .nil)), (1000200, 1000200, obV gba grows), (999, 999, ⟨none, 124, 3, []⟩)] (by show ([60, 1000200, 999] : List Nat).Nodup; decide) ⟨⟨_, rfl, rfl, rfl⟩, ⟨_, rfl, rfl, rfl⟩, ⟨_, rfl, rfl, rfl⟩, trivial⟩)) rfl ⟨rfl, rfl, rfl, trivial⟩
  · have hY2 : Y = ⟨openD a1 a2 b1 b2 0 LA, LA.revs, 0⟩ := by rw [hY]; unfold openG; rw [if_pos hgA, if_neg (fun hh => hlt hh.2)]
    have hok := oA hgA.1
    obtain ⟨gba, gn, grows, ghn, ghrows⟩ := GA
    have p1 : P.i64 (P.sub 1 0) := by rw [sub_eq hP]; exact i64I hP (by decide)
    have p2 : P.sub 1 0 = 1 - 0 := sub_eq hP _ _
    have hgn2 : gn ≤ 1000 := by rw [ghn]; exact hok.n
    cbv
    refine br_ff (lt_F hP (by decide)) ?_
    cbv
    repeat' (first
    | (refine And.intro (by first | assumption | decide) ?_; try cbv)
    | (intro β9; try cbv))
    refine br_ff (lt_F hP (by decide)) ?_
    cbv
    repeat' (first
    | (refine And.intro (by first | assumption | decide) ?_; try cbv)
    | (refine ⟨0, n0, ?_⟩; try cbv)
    | (intro β9; try cbv))
    refine htrm 60 _ (⟨a1, a2, b1, b2, 0, LA.gen, LA.base, LA.text, LA.first, LA.table, LA.whole, LA.good, [], 0, false⟩ : SC) (.own 1000200 gba 3 gn) .nil _ _ _ _ ⟨⟨.own _ _ _ _, rfl⟩, .nil, rfl⟩ rfl rfl rfl fun d1 hd1 => ?_
    cbv
    repeat' (first
    | (refine And.intro (by first | assumption | decide) ?_; try cbv)
    | (intro β9; try cbv))
    refine htrm 60 _ d1 (.own 1000200 gba 3 gn) .nil _ _ _ _ ⟨⟨.own _ _ _ _, rfl⟩, .nil, rfl⟩ rfl rfl rfl fun d2 hd2 => ?_
    have hd2 : d2 = trmS d1 (P.sub 1 0) 0 := hd2
    rw [p2] at hd2
    cbv
    repeat' (first
    | (refine And.intro (by first | assumption | decide) ?_; try cbv)
    | (intro β9; try cbv))
    refine hsyn 60 _ d2 (.own 1000200 gba 3 gn) .nil _ _ _ ⟨⟨.own _ _ _ _, rfl⟩, .nil, rfl⟩ rfl rfl rfl fun d3 hd3 => ?_
    have htx3 : d3.tx = LA.text := by rw [hd3, hd2, hd1]; rfl
    have hb3 : d3.b = LA.base := by rw [hd3, hd2, hd1]; rfl
    cbv
    repeat' (first
    | (refine And.intro (by first | assumption | decide) ?_; try cbv)
    | (intro β9; try cbv))
    refine htx 1000200 gba gn grows LA.revs _ _ _ _ ghrows ghn hok.rv rfl fun x y hx hy => ?_
    have hx : x = (textF d3.tx LA.revs (P.int gn)).1 := hx
    rw [htx3, int_eq hP, ghn] at hx
    cbv
    repeat' (first
    | (refine And.intro (by first | assumption | decide) ?_; try cbv)
    | (intro β9; try cbv))
    refine hhd 60 _ { d3 with now := x } 1000200 gba gn .nil _ _ (by rw [show ({ d3 with now := x } : SC).b = LA.base from hb3]; exact hok.b) hgn2 ⟨.nil, rfl⟩ rfl rfl rfl fun q hq => ?_
    have hq : q = d3.b + (gn : Int) := hq
    rw [hb3, ghn] at hq
    cbv
    repeat' (first
    | (refine And.intro (by first | assumption | decide) ?_; try cbv)
    | (intro β9; try cbv))
    refine hR _ _ _ gba gn grows { d3 with now := x, sf := q } (by rw [hY2, hq, hx, hd3, hd2, hd1]; rfl) (by rw [hY2]) (by rw [hY2]; exact ghn) (by rw [hY2]; exact ghrows)
      (Ent.trans (Ent.nilOb _ 999 124 3) (Ent.renL [(60, 60, obSh _ (rowS { d3 with now := x, sf := q } (.own 1000200 gba 3 gn) .nil)), (1000200, 1000200, obV gba grows), (999, 999, ⟨none, 124, 3, []⟩)] (by show ([60, 1000200, 999] : List Nat).Nodup; decide) ⟨⟨_, rfl, rfl, rfl⟩, ⟨_, rfl, rfl, rfl⟩, ⟨_, rfl, rfl, rfl⟩, trivial⟩)) rfl ⟨rfl, rfl, rfl, trivial⟩
  · have hY2 : Y = ⟨openD a1 a2 b1 b2 1 LB, LB.revs, 0⟩ := by rw [hY]; unfold openG; rw [if_pos hgA, if_pos ⟨hgB, hlt⟩]
    have hok := oB hgB.1
    obtain ⟨gba, gn, grows, ghn, ghrows⟩ := GB
    have p1 : P.i64 (P.sub 1 1) := by rw [sub_eq hP]; exact i64I hP (by decide)
    have p2 : P.sub 1 1 = 1 - 1 := sub_eq hP _ _
    have hgn2 : gn ≤ 1000 := by rw [ghn]; exact hok.n
    cbv
    refine br_ff (lt_F hP (by decide)) ?_
    cbv
    repeat' (first
    | (refine And.intro (by first | assumption | decide) ?_; try cbv)
    | (intro β9; try cbv))
    refine br_ff (lt_F hP (by decide)) ?_
    cbv
    repeat' (first
    | (refine And.intro (by first | assumption | decide) ?_; try cbv)
    | (refine ⟨1, n1, ?_⟩; try cbv)
    | (intro β9; try cbv))
    refine htrm 60 _ (⟨a1, a2, b1, b2, 1, LB.gen, LB.base, LB.text, LB.first, LB.table, LB.whole, LB.good, [], 0, false⟩ : SC) (.own 1000201 gba 3 gn) .nil _ _ _ _ ⟨⟨.own _ _ _ _, rfl⟩, .nil, rfl⟩ rfl rfl rfl fun d1 hd1 => ?_
    cbv
    repeat' (first
    | (refine And.intro (by first | assumption | decide) ?_; try cbv)
    | (intro β9; try cbv))
    refine htrm 60 _ d1 (.own 1000201 gba 3 gn) .nil _ _ _ _ ⟨⟨.own _ _ _ _, rfl⟩, .nil, rfl⟩ rfl rfl rfl fun d2 hd2 => ?_
    have hd2 : d2 = trmS d1 (P.sub 1 1) 0 := hd2
    rw [p2] at hd2
    cbv
    repeat' (first
    | (refine And.intro (by first | assumption | decide) ?_; try cbv)
    | (intro β9; try cbv))
    refine hsyn 60 _ d2 (.own 1000201 gba 3 gn) .nil _ _ _ ⟨⟨.own _ _ _ _, rfl⟩, .nil, rfl⟩ rfl rfl rfl fun d3 hd3 => ?_
    have htx3 : d3.tx = LB.text := by rw [hd3, hd2, hd1]; rfl
    have hb3 : d3.b = LB.base := by rw [hd3, hd2, hd1]; rfl
    cbv
    repeat' (first
    | (refine And.intro (by first | assumption | decide) ?_; try cbv)
    | (intro β9; try cbv))
    refine htx 1000201 gba gn grows LB.revs _ _ _ _ ghrows ghn hok.rv rfl fun x y hx hy => ?_
    have hx : x = (textF d3.tx LB.revs (P.int gn)).1 := hx
    rw [htx3, int_eq hP, ghn] at hx
    cbv
    repeat' (first
    | (refine And.intro (by first | assumption | decide) ?_; try cbv)
    | (intro β9; try cbv))
    refine hhd 60 _ { d3 with now := x } 1000201 gba gn .nil _ _ (by rw [show ({ d3 with now := x } : SC).b = LB.base from hb3]; exact hok.b) hgn2 ⟨.nil, rfl⟩ rfl rfl rfl fun q hq => ?_
    have hq : q = d3.b + (gn : Int) := hq
    rw [hb3, ghn] at hq
    cbv
    repeat' (first
    | (refine And.intro (by first | assumption | decide) ?_; try cbv)
    | (intro β9; try cbv))
    refine hR _ _ _ gba gn grows { d3 with now := x, sf := q } (by rw [hY2, hq, hx, hd3, hd2, hd1]; rfl) (by rw [hY2]) (by rw [hY2]; exact ghn) (by rw [hY2]; exact ghrows)
      (Ent.trans (Ent.nilOb _ 999 124 3) (Ent.renL [(60, 60, obSh _ (rowS { d3 with now := x, sf := q } (.own 1000200 gba 3 gn) .nil)), (1000200, 1000201, obV gba grows), (999, 999, ⟨none, 124, 3, []⟩)] (by show ([60, 1000201, 999] : List Nat).Nodup; decide) ⟨⟨_, rfl, rfl, rfl⟩, ⟨_, rfl, rfl, rfl⟩, ⟨_, rfl, rfl, rfl⟩, trivial⟩)) rfl ⟨rfl, rfl, rfl, trivial⟩
end Go.Proofs.Ytobngncjflogcaa.AM

set_option linter.unusedVariables false
set_option linter.unusedSimpArgs false
namespace Go.Proofs.Ytobngncjflogcaa.AM
open Go Go.RowKit
set_option maxRecDepth 100000
set_option maxHeartbeats 2000000
def safOf (d : SC) (i : Int) : Int := if i = 0 then d.x2 else d.x4
def DkOk (d : SC) : Prop := diskT d.x1 d.x2 d.x3 d.x4 = 0
theorem slotT_iff {x : List UInt8} {n : Int} : slotT x n = 0 ↔ x.length ≤ 1048576 ∧ 0 ≤ n ∧ n ≤ (x.length : Int) := by
  constructor
  · exact slot_ok
  · intro h
    unfold slotT
    rw [if_neg (by omega), if_neg (by omega)]
theorem dk_iff {a1 b1 : List UInt8} {a2 b2 : Int} : diskT a1 a2 b1 b2 = 0 ↔ slotT a1 a2 = 0 ∧ slotT b1 b2 = 0 := by
  constructor
  · exact disk_ok
  · rintro ⟨h1, h2⟩
    unfold diskT
    rw [if_neg (fun h => h h1)]
    exact h2
theorem DkOk.slot {d : SC} (h : DkOk d) (i : Int) : (datOf d i).length ≤ 1048576 ∧ 0 ≤ safOf d i ∧ safOf d i ≤ ((datOf d i).length : Int) := by
  obtain ⟨h1, h2⟩ := dk_iff.1 h
  unfold datOf safOf
  split
  · exact slotT_iff.1 h1
  · exact slotT_iff.1 h2
theorem look_in {d : SC} (h : DkOk d) {i : Int} (hi : i = 0 ∨ i = 1) : lookT d.x1 d.x2 d.x3 d.x4 i = 0 := by
  unfold lookT
  rw [if_neg (fun g => g h), if_neg (by omega)]
theorem put_ok2 {d : SC} {i : Int} {t : List UInt8} (h : DkOk d) (hi : i = 0 ∨ i = 1) (hl : (datOf d i).length + t.length ≤ 1048576) :
    DkOk (putS d i t) ∧ datOf (putS d i t) i = datOf d i ++ t ∧ datOf (putS d i t) (1 - i) = datOf d (1 - i) ∧ ∀ j, safOf (putS d i t) j = safOf d j := by
  have hk := look_in h hi
  obtain ⟨h1, h2⟩ := dk_iff.1 h
  have s1 := slotT_iff.1 h1
  have s2 := slotT_iff.1 h2
  rcases hi with rfl | rfl
  · have hl : d.x1.length + t.length ≤ 1048576 := hl
    have e : appT d.x1 d.x2 d.x3 d.x4 0 t = ⟨d.x1 ++ t, d.x2, d.x3, d.x4, 0⟩ := by
      unfold appT
      rw [if_neg (fun g => g hk), if_pos rfl, if_neg (by omega)]
    have e2 : putS d 0 t = { d with x1 := d.x1 ++ t } := by
      unfold putS
      rw [e]
    rw [e2]
    exact ⟨dk_iff.2 ⟨(slotT_iff (x := d.x1 ++ t) (n := d.x2)).2 (by rw [List.length_append]; omega), h2⟩, rfl, rfl, fun j => rfl⟩
  · have hl : d.x3.length + t.length ≤ 1048576 := hl
    have e : appT d.x1 d.x2 d.x3 d.x4 1 t = ⟨d.x1, d.x2, d.x3 ++ t, d.x4, 0⟩ := by
      unfold appT
      rw [if_neg (fun g => g hk), if_neg (by decide), if_neg (by omega)]
    have e2 : putS d 1 t = { d with x3 := d.x3 ++ t } := by
      unfold putS
      rw [e]
    rw [e2]
    exact ⟨dk_iff.2 ⟨h1, (slotT_iff (x := d.x3 ++ t) (n := d.x4)).2 (by rw [List.length_append]; omega)⟩, rfl, rfl, fun j => rfl⟩
theorem syn_ok2 {d : SC} {i : Int} (h : DkOk d) (hi : i = 0 ∨ i = 1) :
    DkOk (synS d i) ∧ (∀ j, datOf (synS d i) j = datOf d j) ∧ safOf (synS d i) i = ((datOf d i).length : Int) ∧ safOf (synS d i) (1 - i) = safOf d (1 - i) := by
  have hk := look_in h hi
  obtain ⟨h1, h2⟩ := dk_iff.1 h
  have s1 := slotT_iff.1 h1
  have s2 := slotT_iff.1 h2
  rcases hi with rfl | rfl
  · have e : synT d.x1 d.x2 d.x3 d.x4 0 = ⟨d.x1, d.x1.length, d.x3, d.x4, 0⟩ := by
      unfold synT
      rw [if_neg (fun g => g hk), if_pos rfl]
    have e2 : synS d 0 = { d with x2 := d.x1.length } := by
      unfold synS
      rw [e]
    rw [e2]
    exact ⟨dk_iff.2 ⟨(slotT_iff (x := d.x1) (n := (d.x1.length : Int))).2 (by omega), h2⟩, fun j => rfl, rfl, rfl⟩
  · have e : synT d.x1 d.x2 d.x3 d.x4 1 = ⟨d.x1, d.x2, d.x3, d.x3.length, 0⟩ := by
      unfold synT
      rw [if_neg (fun g => g hk), if_neg (by decide)]
    have e2 : synS d 1 = { d with x4 := d.x3.length } := by
      unfold synS
      rw [e]
    rw [e2]
    exact ⟨dk_iff.2 ⟨h1, (slotT_iff (x := d.x3) (n := (d.x3.length : Int))).2 (by omega)⟩, fun j => rfl, rfl, rfl⟩
theorem trm_ok2 {d : SC} {i : Int} {n : Nat} (h : DkOk d) (hi : i = 0 ∨ i = 1) (hn : n ≤ (datOf d i).length) :
    DkOk (trmS d i n) ∧ datOf (trmS d i n) i = (datOf d i).take n ∧ datOf (trmS d i n) (1 - i) = datOf d (1 - i) ∧ safOf (trmS d i n) i = min (safOf d i) n ∧ safOf (trmS d i n) (1 - i) = safOf d (1 - i) := by
  have hk := look_in h hi
  obtain ⟨h1, h2⟩ := dk_iff.1 h
  have s1 := slotT_iff.1 h1
  have s2 := slotT_iff.1 h2
  rcases hi with rfl | rfl
  · have hn : n ≤ d.x1.length := hn
    have e : trmT d.x1 d.x2 d.x3 d.x4 0 n = ⟨d.x1.take n, min d.x2 n, d.x3, d.x4, 0⟩ := by
      unfold trmT
      rw [if_neg (fun g => g hk), if_pos rfl, if_neg (by omega), Int.toNat_natCast]
    have e2 : trmS d 0 n = { d with x1 := d.x1.take n, x2 := min d.x2 n } := by
      unfold trmS
      rw [e]
    rw [e2]
    exact ⟨dk_iff.2 ⟨(slotT_iff (x := d.x1.take n) (n := min d.x2 n)).2 (by rw [List.length_take]; omega), h2⟩, rfl, rfl, rfl, rfl⟩
  · have hn : n ≤ d.x3.length := hn
    have e : trmT d.x1 d.x2 d.x3 d.x4 1 n = ⟨d.x1, d.x2, d.x3.take n, min d.x4 n, 0⟩ := by
      unfold trmT
      rw [if_neg (fun g => g hk), if_neg (by decide), if_neg (by omega), Int.toNat_natCast]
    have e2 : trmS d 1 n = { d with x3 := d.x3.take n, x4 := min d.x4 n } := by
      unfold trmS
      rw [e]
    rw [e2]
    exact ⟨dk_iff.2 ⟨h1, (slotT_iff (x := d.x3.take n) (n := min d.x4 n)).2 (by rw [List.length_take]; omega)⟩, rfl, rfl, rfl, rfl⟩
theorem flat_eqT {g b : Int} {f k : Nat → Int} (h : EqT f k) : flatL g b f = flatL g b k := by
  unfold flatL
  rw [h 0 (by decide), h 1 (by decide), h 2 (by decide), h 3 (by decide), h 4 (by decide), h 5 (by decide), h 6 (by decide), h 7 (by decide), h 8 (by decide), h 9 (by decide), h 10 (by decide), h 11 (by decide), h 12 (by decide), h 13 (by decide), h 14 (by decide), h 15 (by decide)]
theorem flOf_eqT {g b : Int} {tx : List UInt8} {f k : Nat → Int} (h : EqT f k) (r1 : List Rev) (o : Option (List Rev)) : flOf g b tx f r1 o = flOf g b tx k r1 o := by
  unfold flOf headFr headBody
  rw [flat_eqT h]
theorem HdOk.eqT {g b : Int} {tx : List UInt8} {f k : Nat → Int} (h : HdOk g b tx f) (he : EqT f k) : HdOk g b tx k := ⟨h.g, h.b, h.tx, fun j hj => by rw [← he j hj]; exact h.t j hj⟩
theorem chain_shift {b : Int} (i : Nat) : ∀ (c : List Rev) (tb : Nat → Int) (k : Nat) (now : List UInt8), chainOk b tb (i + k) now c → chainOk (b + (i : Int)) tb k now c
  | [], _, _, _, _ => trivial
  | r :: c, tb, k, now, h => by
    refine ⟨?_, ?_⟩
    · have h1 := h.1
      unfold nextF at h1 ⊢
      by_cases g1 : oneF r ≠ 0
      · rw [if_pos g1] at h1; exact absurd h1 g1
      rw [if_neg g1] at h1 ⊢
      by_cases g2 : r.seq ≤ tb (2 * r.who.toNat)
      · rw [if_pos g2] at h1; exact absurd h1 (by decide)
      rw [if_neg g2] at h1 ⊢
      by_cases g3 : 64 ≤ ((i + k : Nat) : Int) ∨ 2147483647 ≤ b + ((i + k : Nat) : Int)
      · rw [if_pos g3] at h1; exact absurd h1 (by decide)
      rw [if_neg g3] at h1
      rw [if_neg (by omega)]
      exact h1
    · have h2 := h.2
      have e : b + (i : Int) + (k : Int) + 1 = b + ((i + k : Nat) : Int) + 1 := by omega
      rw [e]
      exact chain_shift i c _ (k + 1) _ h2
theorem addTb_inR {tb : Nat → Int} (h : ∀ j, j < 16 → inR (tb j)) {w : Nat} {q n : Int} (hq : inR q) (hn : inR n) : ∀ j, j < 16 → inR (addTb tb w q n j) := by
  intro j hj
  unfold addTb
  split
  · exact hq
  · split
    · exact hn
    · exact h j hj
theorem tab_inR {b : Int} (hb : 0 ≤ b) : ∀ (l : List Rev) (tb : Nat → Int) (i : Nat) (now : List UInt8), chainOk b tb i now l → (∀ j, j < 16 → inR (tb j)) → ∀ j, j < 16 → inR (tabG tb (b + (i : Int)) l j)
  | [], _, _, _, _, h => h
  | r :: l, tb, i, now, hc, h => by
    have h1 := next_one hc.1
    have h2 := oneF_all h1.1
    have := tab_inR hb l _ (i + 1) _ hc.2 (addTb_inR h ⟨h2.2.1.1, h2.2.1.2⟩ ⟨by omega, by omega⟩)
    have e : b + ((i + 1 : Nat) : Int) = b + (i : Int) + 1 := by omega
    rw [e] at this
    exact this
theorem enc_len : ∀ (l : List Frame), (∀ f ∈ l, FrOk f) → (encFs l).length ≤ 4007 * l.length
  | [], _ => Nat.le_refl _
  | f :: l, h => by
    have h1 := (h f (by simp)).2.2
    have h2 := enc_len l fun g hg => h g (by simp [hg])
    rw [encFs_cons, List.length_append, frB_len, List.length_cons]
    omega
theorem revs_ok {b : Int} {tb : Nat → Int} {i : Nat} {now : List UInt8} {l : List Rev} (hc : chainOk b tb i now l) : RevsOk l ∧ (∀ r ∈ l, 0 ≤ r.who ∧ r.who ≤ 7) ∧ (∀ r ∈ l, r.delta.length ≤ 1000000000) ∧ l.length ≤ 64 := by
  have h64 : l.length ≤ 64 := by
    rcases chain_len l _ _ _ hc with rfl | h
    · simp
    · omega
  have h1 := chain_one l _ _ _ hc
  have hm : maxLen = 9223372036854775807 := by decide
  exact ⟨⟨by omega, fun r hr => (rev_ok (h1 r hr)).1⟩, fun r hr => (oneF_all (h1 r hr)).1, fun r hr => (rev_ok (h1 r hr)).2, h64⟩
end Go.Proofs.Ytobngncjflogcaa.AM

set_option linter.unusedVariables false
set_option linter.unusedSimpArgs false
namespace Go.Proofs.Ytobngncjflogcaa.AM
open Go Go.RowKit
set_option maxRecDepth 100000
set_option maxHeartbeats 2000000
def tabAt (d : SC) (l : List Rev) (f : Int) : Nat → Int := tabG d.fs d.b (l.take (f - d.b).toNat)
def txtAt (d : SC) (l : List Rev) (f : Int) : List UInt8 := nowG d.tx (l.take (f - d.b).toNat)
def sufAt (d : SC) (l : List Rev) (f : Int) : List Rev := l.drop (f - d.b).toNat
/-- a slot that is whole: its log; what is safe holds it up to a revision -/
def Main (dat : List UInt8) (saf sf g b : Int) (tx : List UInt8) (fs : Nat → Int) (l : List Rev) : Prop :=
  ∃ r1 r2 js, l = r1 ++ r2 ∧ dat = encFs (flOf g b tx fs r1 (some r2)) ∧ js ≤ r2.length ∧ saf = ((encFs (flOf g b tx fs r1 (some (r2.take js)))).length : Int) ∧ sf ≤ b + (r1.length : Int) + js
/-- the other slot -/
def Low (dat : List UInt8) (gn : Int) : Prop := ∃ g b tx t r1 o, HdOk g b tx t ∧ chainOk b t 0 tx (r1 ++ o.getD []) ∧ dat = encFs (flOf g b tx t r1 o) ∧ g < gn
def OthM (d : SC) (l : List Rev) (m : Mv) : Prop :=
  (m.c = -1 ∧ m.w = false ∧ datOf d (1 - d.at') = []) ∨
  (0 ≤ m.c ∧ m.w = false ∧ m.f + m.c ≤ d.b + (l.length : Int) ∧ datOf d (1 - d.at') = encFs (flOf (d.gn + 1) m.f (txtAt d l m.f) (tabAt d l m.f) ((sufAt d l m.f).take m.c.toNat) none)) ∨
  (0 ≤ m.c ∧ m.w = true ∧ m.c ≤ 64 ∧ ∃ r1 r2 js, sufAt d l m.f = r1 ++ r2 ∧ datOf d (1 - d.at') = encFs (flOf (d.gn + 1) m.f (txtAt d l m.f) (tabAt d l m.f) r1 (some r2)) ∧ js ≤ r2.length ∧
    (js = 0 ∨ safOf d (1 - d.at') = ((encFs (flOf (d.gn + 1) m.f (txtAt d l m.f) (tabAt d l m.f) r1 (some (r2.take js)))).length : Int)) ∧ d.sf ≤ m.f + (r1.length : Int) + js)
def Oth (d : SC) (l : List Rev) : Option Mv → Prop
  | none => (d.old = true ∧ Low (datOf d (1 - d.at')) d.gn) ∨ (d.old = false ∧ datOf d (1 - d.at') = [])
  | some m => d.old = false ∧ (d.b ≤ m.f ∧ m.f ≤ d.b + (l.length : Int)) ∧ d.gn < 2147483647 ∧ OthM d l m
structure Arc (d : SC) (l : List Rev) (m : Option Mv) : Prop where
  at' : d.at' = 0 ∨ d.at' = 1
  dk : DkOk d
  hd : HdOk d.gn d.b d.tx d.fs
  ch : chainOk d.b d.fs 0 d.tx l
  tb : EqT d.tb (tabG d.fs d.b l)
  now : d.now = nowG d.tx l
  sf : d.sf ≤ d.b + (l.length : Int)
  mn : Main (datOf d d.at') (safOf d d.at') d.sf d.gn d.b d.tx d.fs l
  ot : Oth d l m
theorem Arc.oat {d : SC} {l : List Rev} {m : Option Mv} (h : Arc d l m) : 1 - d.at' = 0 ∨ 1 - d.at' = 1 := by rcases h.at' with h | h <;> omega
theorem Arc.len {d : SC} {l : List Rev} {m : Option Mv} (h : Arc d l m) : l.length ≤ 64 ∧ d.b + (l.length : Int) ≤ 2147483647 ∧ 0 ≤ d.b := by
  have hb := h.hd.b
  unfold inR at hb
  rcases chain_len l _ _ _ h.ch with rfl | g
  · simp only [List.length_nil]; omega
  · omega
theorem Arc.shOk {d : SC} {l : List Rev} {m : Option Mv} (h : Arc d l m) : ShOk d l := by
  obtain ⟨h1, h2, h3, h4⟩ := revs_ok h.ch
  have hb := h.hd.b
  have hg := h.hd.g
  unfold inR at hb hg
  exact ⟨h.at', hb, by omega, h4, h1, h2, h3⟩
theorem flOf_enc_len {g b : Int} {tx : List UInt8} {t : Nat → Int} (htx : tx.length ≤ 500) {r1 : List Rev} {o : Option (List Rev)} (hc : ∀ r ∈ r1 ++ o.getD [], oneF r = 0) (hl : (r1 ++ o.getD []).length ≤ 64) : (encFs (flOf g b tx t r1 o)).length ≤ 264462 := by
  have h1 := enc_len _ (flOf_ok (g := g) (b := b) (t := t) htx hc)
  rw [flOf_len] at h1
  rw [List.length_append] at hl
  cases o with
  | none => simp only at h1; omega
  | some r2 => simp only [Option.getD_some] at h1 hl; omega
theorem Arc.mlen {d : SC} {l : List Rev} {m : Option Mv} (h : Arc d l m) : (datOf d d.at').length ≤ 264462 := by
  obtain ⟨r1, r2, js, h1, h2, _⟩ := h.mn
  rw [h2]
  refine flOf_enc_len h.hd.tx (o := some r2) ?_ ?_
  · show ∀ r ∈ r1 ++ r2, _
    rw [← h1]; exact chain_one _ _ _ _ h.ch
  · show (r1 ++ r2).length ≤ 64
    rw [← h1]; exact h.len.1
theorem suf_chain {d : SC} {l : List Rev} {m : Option Mv} (h : Arc d l m) {f : Int} (hf : d.b ≤ f ∧ f ≤ d.b + (l.length : Int)) : chainOk f (tabAt d l f) 0 (txtAt d l f) (sufAt d l f) ∧ (txtAt d l f).length ≤ 500 ∧ (∀ j, j < 16 → inR (tabAt d l f j)) ∧ (sufAt d l f).length = (d.b + (l.length : Int) - f).toNat := by
  obtain ⟨a, ha⟩ : ∃ a : Nat, (f - d.b).toNat = a := ⟨_, rfl⟩
  have haf : f = d.b + (a : Int) := by omega
  have hal : a ≤ l.length := by omega
  have hc := h.ch
  rw [← List.take_append_drop a l] at hc
  obtain ⟨c1, c2⟩ := (chain_app (l.take a) (l.drop a) d.fs 0 d.tx).1 hc
  have e0 : d.b + ((0 : Nat) : Int) = d.b := by omega
  have e1 : 0 + (l.take a).length = a + 0 := by rw [List.length_take]; omega
  rw [e0, e1] at c2
  have c3 := chain_shift a _ _ _ _ c2
  have t1 := tab_inR h.len.2.2 (l.take a) d.fs 0 d.tx c1 h.hd.t
  rw [e0] at t1
  unfold tabAt txtAt sufAt
  rw [ha]
  refine ⟨by rw [haf]; exact c3, chain_now _ _ _ _ c1 h.hd.tx, t1, by rw [List.length_drop]; omega⟩
theorem suf_hd {d : SC} {l : List Rev} {m : Option Mv} (h : Arc d l m) {f : Int} (hf : d.b ≤ f ∧ f ≤ d.b + (l.length : Int)) (hg : d.gn < 2147483647) : HdOk (d.gn + 1) f (txtAt d l f) (tabAt d l f) := by
  obtain ⟨_, h2, h3, _⟩ := suf_chain h hf
  have := h.len
  have hg2 := h.hd.g
  unfold inR at hg2
  exact ⟨⟨by omega, by omega⟩, ⟨by omega, by omega⟩, h2, h3⟩
theorem stext_at {d : SC} {l : List Rev} {m : Option Mv} (h : Arc d l m) {f : Int} (hf : d.b ≤ f ∧ f ≤ d.b + (l.length : Int)) : stextT d l f = (txtAt d l f, 0) := by
  obtain ⟨a, ha⟩ : ∃ a : Nat, f - d.b = a := ⟨(f - d.b).toNat, by omega⟩
  have ht : thereT d.b l.length f = 0 := by
    unfold thereT
    rw [if_neg (by omega), if_neg (by omega)]
  unfold stextT txtAt
  rw [if_neg (fun x => x ht), ha, text_at h.ch h.hd.tx a (by omega), Int.toNat_natCast]
/-- two archives that tell the same texts -/
structure Same (d : SC) (l : List Rev) (d' : SC) (l' : List Rev) : Prop where
  hd : d'.b + (l'.length : Int) = d.b + (l.length : Int)
  b : d.b ≤ d'.b
  tx : ∀ r, d'.b ≤ r → r ≤ d'.b + (l'.length : Int) → txtAt d' l' r = txtAt d l r
theorem Same.of {d d' : SC} {l : List Rev} (hb : d'.b = d.b) (ht : d'.tx = d.tx) : Same d l d' l := ⟨by rw [hb], by omega, fun r _ _ => by unfold txtAt; rw [hb, ht]⟩
theorem enc_snoc (g b : Int) (tx : List UInt8) (t : Nat → Int) (r1 r2 : List Rev) (r : Rev) : encFs (flOf g b tx t r1 (some r2)) ++ frB (revFr r) = encFs (flOf g b tx t r1 (some (r2 ++ [r]))) := by
  have e : flOf g b tx t r1 (some (r2 ++ [r])) = flOf g b tx t r1 (some r2) ++ [revFr r] := by
    show headFr g b tx t :: (r1.map revFr ++ doneFr :: (r2 ++ [r]).map revFr) = headFr g b tx t :: (r1.map revFr ++ doneFr :: r2.map revFr) ++ [revFr r]
    rw [List.map_append, List.cons_append, List.append_assoc, List.cons_append]; rfl
  rw [e, encFs_app]
  have : encFs [revFr r] = frB (revFr r) := by simp [encFs]
  rw [this]
theorem enc_snoc1 (g b : Int) (tx : List UInt8) (t : Nat → Int) (r1 : List Rev) (r : Rev) : encFs (flOf g b tx t r1 none) ++ frB (revFr r) = encFs (flOf g b tx t (r1 ++ [r]) none) := by
  have e : flOf g b tx t (r1 ++ [r]) none = flOf g b tx t r1 none ++ [revFr r] := by
    show headFr g b tx t :: ((r1 ++ [r]).map revFr ++ []) = headFr g b tx t :: (r1.map revFr ++ []) ++ [revFr r]
    rw [List.map_append, List.append_nil, List.append_nil, List.cons_append]; rfl
  rw [e, encFs_app]
  have : encFs [revFr r] = frB (revFr r) := by simp [encFs]
  rw [this]
theorem enc_done (g b : Int) (tx : List UInt8) (t : Nat → Int) (r1 : List Rev) : encFs (flOf g b tx t r1 none) ++ frB doneFr = encFs (flOf g b tx t r1 (some [])) := by
  have e : flOf g b tx t r1 (some []) = flOf g b tx t r1 none ++ [doneFr] := by
    show headFr g b tx t :: (r1.map revFr ++ [doneFr]) = headFr g b tx t :: (r1.map revFr ++ []) ++ [doneFr]
    rw [List.append_nil, List.cons_append]
  rw [e, encFs_app]
  have : encFs [doneFr] = frB doneFr := by simp [encFs]
  rw [this]
theorem enc_head (g b : Int) (tx : List UInt8) (t : Nat → Int) : frB (headFr g b tx t) = encFs (flOf g b tx t [] none) := by
  have : flOf g b tx t [] none = [headFr g b tx t] := rfl
  rw [this]
  simp [encFs]
theorem take_snoc {l : List Rev} {r : Rev} {a : Nat} (h : a ≤ l.length) : (l ++ [r]).take a = l.take a := List.take_append_of_le_length h
theorem drop_snoc {l : List Rev} {r : Rev} {a : Nat} (h : a ≤ l.length) : (l ++ [r]).drop a = l.drop a ++ [r] := List.drop_append_of_le_length h
/-- where the text of a revision lies behind an Add -/
theorem at_snoc {d d' : SC} {l : List Rev} {r : Rev} (hb : d'.b = d.b) (ht : d'.tx = d.tx) (hfs : d'.fs = d.fs) {f : Int} (hf : d.b ≤ f ∧ f ≤ d.b + (l.length : Int)) :
    txtAt d' (l ++ [r]) f = txtAt d l f ∧ tabAt d' (l ++ [r]) f = tabAt d l f ∧ sufAt d' (l ++ [r]) f = sufAt d l f ++ [r] := by
  have ha : (f - d.b).toNat ≤ l.length := by omega
  unfold txtAt tabAt sufAt
  rw [hb, ht, hfs, take_snoc ha, drop_snoc ha]
  exact ⟨rfl, rfl, rfl⟩
theorem at_same {d d' : SC} (l : List Rev) (hb : d'.b = d.b) (ht : d'.tx = d.tx) (hfs : d'.fs = d.fs) (f : Int) : txtAt d' l f = txtAt d l f ∧ tabAt d' l f = tabAt d l f ∧ sufAt d' l f = sufAt d l f := by
  unfold txtAt tabAt sufAt
  rw [hb, ht, hfs]
  exact ⟨rfl, rfl, rfl⟩
def othAdd (m : Option Mv) (x t : List UInt8) : List UInt8 := match m with
  | none => x
  | some m => if m.w = true then x ++ t else x
theorem arc_add {d : SC} {l : List Rev} {m : Option Mv} (h : Arc d l m) {r : Rev} (hn : nextF d.b d.tb l.length d.now.length r = 0) :
    (shAddM d l m r).e = 0 ∧ (shAddM d l m r).l = l ++ [r] ∧ (shAddM d l m r).v = d.b + (l.length : Int) + 1 ∧ (shAddM d l m r).d.b = d.b ∧ (shAddM d l m r).d.tx = d.tx ∧ (shAddM d l m r).d.gn = d.gn ∧ (shAddM d l m r).d.sf = d.sf ∧ (shAddM d l m r).d.fs = d.fs ∧ Arc (shAddM d l m r).d (l ++ [r]) m := by
  have h1 := (next_one hn).1
  have hr := revF_fr h1
  have hlt : (frB (revFr r)).length ≤ 4007 := by
    have := (revFr_ok h1).2.2
    rw [frB_len]; omega
  have eY : shAddM d l m r = ⟨addD { put2 d m (frB (revFr r)) with now := (doF r.delta d.now).1 } l r, l ++ [r], d.b + (l.length + 1 : Nat), 0⟩ := by
    unfold shAddM
    rw [if_neg (fun x => x hn), hr]
    exact if_neg (fun x => x rfl)
  have hP : ∀ D : SC, D = put2 d m (frB (revFr r)) → D.b = d.b ∧ D.tx = d.tx ∧ D.gn = d.gn ∧ D.sf = d.sf ∧ D.fs = d.fs ∧ D.at' = d.at' ∧ D.tb = d.tb ∧ D.old = d.old := by
    rintro D rfl
    unfold put2
    split
    · exact ⟨rfl, rfl, rfl, rfl, rfl, rfl, rfl, rfl⟩
    · split <;> exact ⟨rfl, rfl, rfl, rfl, rfl, rfl, rfl, rfl⟩
  have hml := h.mlen
  obtain ⟨p1, p2, p3, p4⟩ := put_ok2 h.dk h.at' (t := frB (revFr r)) (by omega)
  -- what is in the slots
  have hD : ∀ D : SC, D = put2 d m (frB (revFr r)) → DkOk D ∧ datOf D d.at' = datOf d d.at' ++ frB (revFr r) ∧ (∀ j, safOf D j = safOf d j) ∧ datOf D (1 - d.at') = othAdd m (datOf d (1 - d.at')) (frB (revFr r)) := by
    rintro D rfl
    obtain _ | ⟨f, c, w⟩ := m
    · exact ⟨p1, p2, p4, p3⟩
    · cases w with
      | false => exact ⟨p1, p2, p4, p3⟩
      | true =>
        have hp2 : put2 d (some ⟨f, c, true⟩) (frB (revFr r)) = putS (putS d d.at' (frB (revFr r))) (1 - d.at') (frB (revFr r)) := rfl
        rw [hp2]
        have hol : (datOf (putS d d.at' (frB (revFr r))) (1 - d.at')).length + (frB (revFr r)).length ≤ 1048576 := by
          rw [p3]
          obtain ⟨_, hf, hg, ho⟩ := h.ot
          rcases ho with ⟨_, hw, _⟩ | ⟨_, hw, _⟩ | ⟨_, _, _, r1, r2, js, e1, e2, _⟩
          · cases hw
          · cases hw
          · have e2 : datOf d (1 - d.at') = encFs (flOf (d.gn + 1) f (txtAt d l f) (tabAt d l f) r1 (some r2)) := e2
            have e1 : sufAt d l f = r1 ++ r2 := e1
            have hf : d.b ≤ f ∧ f ≤ d.b + (l.length : Int) := hf
            rw [e2]
            obtain ⟨s1, s2, s3, s4⟩ := suf_chain h hf
            have hh := h.len
            have := flOf_enc_len (g := d.gn + 1) (b := f) (t := tabAt d l f) s2 (r1 := r1) (o := some r2) (by rw [e1] at s1; exact chain_one _ _ _ _ s1) (by show (r1 ++ r2).length ≤ 64; rw [← e1, s4]; omega)
            omega
        obtain ⟨q1, q2, q3, q4⟩ := put_ok2 p1 h.oat (t := frB (revFr r)) hol
        have e1 : (1 : Int) - (1 - d.at') = d.at' := by omega
        rw [e1] at q3
        exact ⟨q1, by rw [q3, p2], fun j => by rw [q4, p4], by rw [q2, p3]; rfl⟩
  obtain ⟨a1, a2, a3, a4, a5, a6, a7, a8⟩ := hP _ rfl
  obtain ⟨b1, b2, b3, b4⟩ := hD _ rfl
  obtain ⟨D, hDe⟩ : ∃ D, put2 d m (frB (revFr r)) = D := ⟨_, rfl⟩
  rw [hDe] at eY a1 a2 a3 a4 a5 a6 a7 a8 b1 b2 b3 b4
  obtain ⟨D', hD'⟩ : ∃ D', addD { D with now := (doF r.delta d.now).1 } l r = D' := ⟨_, rfl⟩
  have k1 : D'.b = d.b := by rw [← hD']; exact a1
  have k2 : D'.tx = d.tx := by rw [← hD']; exact a2
  have k3 : D'.gn = d.gn := by rw [← hD']; exact a3
  have k4 : D'.sf = d.sf := by rw [← hD']; exact a4
  have k5 : D'.fs = d.fs := by rw [← hD']; exact a5
  have k6 : D'.at' = d.at' := by rw [← hD']; exact a6
  have k7 : D'.tb = addTb d.tb r.who.toNat r.seq (d.b + (l.length : Int) + 1) := by rw [← hD', ← a7, ← a1]; rfl
  have k8 : D'.old = d.old := by rw [← hD']; exact a8
  have k9 : D'.now = (doF r.delta d.now).1 := by rw [← hD']; rfl
  have c1 : DkOk D' := by rw [← hD']; exact b1
  have c2 : ∀ j, datOf D' j = datOf D j := fun j => by rw [← hD']; rfl
  have c3 : ∀ j, safOf D' j = safOf D j := fun j => by rw [← hD']; rfl
  rw [eY, hD']
  refine ⟨rfl, rfl, by show d.b + ((l.length + 1 : Nat) : Int) = _; omega, k1, k2, k3, k4, k5, ?_⟩
  show Arc D' (l ++ [r]) m
  have hx : nextF d.b (tabG d.fs d.b l) l.length (nowG d.tx l).length r = 0 := by rw [← next_eqT h.tb, ← h.now]; exact hn
  have hnew : chainOk d.b d.fs 0 d.tx (l ++ [r]) := by
    rw [chain_app]
    refine ⟨h.ch, ?_, trivial⟩
    have e0 : d.b + ((0 : Nat) : Int) = d.b := by omega
    rw [e0, Nat.zero_add]
    exact hx
  obtain ⟨r1, r2, js, m1, m2, m3, m4, m5⟩ := h.mn
  refine ⟨by rw [k6]; exact h.at', c1, by rw [k3, k1, k2, k5]; exact h.hd, by rw [k1, k5, k2]; exact hnew, ?_, ?_, ?_, ⟨r1, r2 ++ [r], js, ?_, ?_, ?_, ?_, ?_⟩, ?_⟩
  · rw [k7, k5, k1, tabG_app]
    exact h.tb.add _ _ _
  · rw [k9, k2, nowG_app, h.now]; rfl
  · rw [k4, k1, List.length_append]
    have := h.sf
    omega
  · rw [m1, List.append_assoc]
  · rw [k6, c2, b2, m2, k3, k1, k2, k5, enc_snoc]
  · rw [List.length_append]; omega
  · rw [k6, c3, b3, m4, k3, k1, k2, k5, take_snoc m3]
  · rw [k4, k1]; exact m5
  · have ho := h.ot
    obtain _ | ⟨f, c, w⟩ := m
    · show (_ ∧ _) ∨ (_ ∧ _)
      rw [k8, k6, c2, b4, k3]
      exact ho
    · obtain ⟨o1, o2, o3, o4⟩ := ho
      obtain ⟨t1, t2, t3⟩ := at_snoc (r := r) k1 k2 k5 o2
      have hf1 : d.b ≤ f := o2.1
      have hf2 : f ≤ d.b + (l.length : Int) := o2.2
      refine ⟨by rw [k8]; exact o1, by rw [k1, List.length_append]; exact ⟨hf1, by show f ≤ _; omega⟩, by rw [k3]; exact o3, ?_⟩
      rcases o4 with ⟨w1, w2, w3⟩ | ⟨w1, w2, w3, w4⟩ | ⟨w1, w2, w0, s1, s2, ks, w3, w4, w5, w6, w7⟩
      · have w2 : w = false := w2
        subst w2
        exact .inl ⟨w1, rfl, by rw [k6, c2, b4]; exact w3⟩
      · have w2 : w = false := w2
        subst w2
        refine .inr (.inl ⟨w1, rfl, by rw [k1, List.length_append]; have w3 : f + c ≤ d.b + (l.length : Int) := w3; show f + c ≤ _; omega, ?_⟩)
        rw [k6, c2, b4, k3, t1, t2, t3]
        have hs := (suf_chain h o2).2.2.2
        have w1 : 0 ≤ c := w1
        have w3 : f + c ≤ d.b + (l.length : Int) := w3
        rw [take_snoc (by show c.toNat ≤ _; rw [hs]; show c.toNat ≤ (d.b + (l.length : Int) - f).toNat; omega)]
        exact w4
      · have w2 : w = true := w2
        subst w2
        refine .inr (.inr ⟨w1, rfl, w0, s1, s2 ++ [r], ks, ?_, ?_, ?_, ?_, ?_⟩)
        · rw [t3, w3, List.append_assoc]
        · rw [k6, c2, b4, k3, t1, t2, ← enc_snoc, ← w4]; rfl
        · rw [List.length_append]; omega
        · rw [k6, c3, b3, k3, t1, t2, take_snoc w5]; exact w6
        · rw [k4]; exact w7
end Go.Proofs.Ytobngncjflogcaa.AM

set_option linter.unusedVariables false
set_option linter.unusedSimpArgs false
namespace Go.Proofs.Ytobngncjflogcaa.AM
open Go Go.RowKit
set_option maxRecDepth 100000
set_option maxHeartbeats 2000000
theorem arc_addE {d : SC} {l : List Rev} {m : Option Mv} {r : Rev} (hn : nextF d.b d.tb l.length d.now.length r ≠ 0) : shAddM d l m r = ⟨d, l, 0, nextF d.b d.tb l.length d.now.length r⟩ := by
  unfold shAddM
  rw [if_pos hn]
theorem arc_sync {d : SC} {l : List Rev} {m : Option Mv} (h : Arc d l m) : Arc (shSync d l.length m) l m ∧ (shSync d l.length m).sf = d.b + (l.length : Int) ∧ (shSync d l.length m).b = d.b ∧ (shSync d l.length m).tx = d.tx ∧ (shSync d l.length m).gn = d.gn ∧ (shSync d l.length m).fs = d.fs := by
  have hW : DkOk (synW d m) ∧ (∀ j, datOf (synW d m) j = datOf d j) ∧ safOf (synW d m) d.at' = safOf d d.at' ∧ (safOf (synW d m) (1 - d.at') = (match m with | some ⟨_, _, true⟩ => ((datOf d (1 - d.at')).length : Int) | _ => safOf d (1 - d.at'))) ∧ (synW d m).at' = d.at' ∧ (synW d m).b = d.b ∧ (synW d m).tx = d.tx ∧ (synW d m).gn = d.gn ∧ (synW d m).fs = d.fs ∧ (synW d m).tb = d.tb ∧ (synW d m).now = d.now ∧ (synW d m).old = d.old := by
    obtain _ | ⟨f, c, w⟩ := m
    · exact ⟨h.dk, fun _ => rfl, rfl, rfl, rfl, rfl, rfl, rfl, rfl, rfl, rfl, rfl⟩
    · cases w with
      | false => exact ⟨h.dk, fun _ => rfl, rfl, rfl, rfl, rfl, rfl, rfl, rfl, rfl, rfl, rfl⟩
      | true =>
        have e : synW d (some ⟨f, c, true⟩) = synS d (1 - d.at') := rfl
        rw [e]
        obtain ⟨q1, q2, q3, q4⟩ := syn_ok2 h.dk h.oat
        have e1 : (1 : Int) - (1 - d.at') = d.at' := by omega
        rw [e1] at q4
        exact ⟨q1, q2, q4, q3, rfl, rfl, rfl, rfl, rfl, rfl, rfl, rfl⟩
  obtain ⟨w1, w2, w3, w4, w5, w6, w7, w8, w9, w10, w11, w12⟩ := hW
  obtain ⟨D, hD⟩ : ∃ D, synW d m = D := ⟨_, rfl⟩
  rw [hD] at w1 w2 w3 w4 w5 w6 w7 w8 w9 w10 w11 w12
  obtain ⟨q1, q2, q3, q4⟩ := syn_ok2 w1 (i := D.at') (by rw [w5]; exact h.at')
  obtain ⟨E, hE⟩ : ∃ E, shSync d l.length m = E := ⟨_, rfl⟩
  have hE2 : E = { synS D D.at' with sf := d.b + (l.length : Int) } := by rw [← hE, ← hD]; rfl
  have k1 : E.b = d.b := by rw [hE2]; exact w6
  have k2 : E.tx = d.tx := by rw [hE2]; exact w7
  have k3 : E.gn = d.gn := by rw [hE2]; exact w8
  have k4 : E.sf = d.b + (l.length : Int) := by rw [hE2]
  have k5 : E.fs = d.fs := by rw [hE2]; exact w9
  have k6 : E.at' = d.at' := by rw [hE2]; exact w5
  have k7 : E.tb = d.tb := by rw [hE2]; exact w10
  have k8 : E.old = d.old := by rw [hE2]; exact w12
  have k9 : E.now = d.now := by rw [hE2]; exact w11
  have c1 : DkOk E := by rw [hE2]; exact q1
  have c2 : ∀ j, datOf E j = datOf d j := fun j => by rw [hE2, ← w2 j]; exact q2 j
  have c3 : safOf E d.at' = ((datOf d d.at').length : Int) := by rw [hE2, ← w5, ← w2 D.at']; exact q3
  have c4 : safOf E (1 - d.at') = safOf D (1 - d.at') := by rw [hE2, ← w5]; exact q4
  rw [hE]
  refine ⟨?_, k4, k1, k2, k3, k5⟩
  obtain ⟨r1, r2, js, m1, m2, m3, m4, m5⟩ := h.mn
  refine ⟨by rw [k6]; exact h.at', c1, by rw [k3, k1, k2, k5]; exact h.hd, by rw [k1, k5, k2]; exact h.ch, by rw [k7, k5, k1]; exact h.tb, by rw [k9, k2]; exact h.now, by rw [k4, k1]; exact Int.le_refl _, ⟨r1, r2, r2.length, m1, ?_, Nat.le_refl _, ?_, ?_⟩, ?_⟩
  · rw [k6, c2, k3, k1, k2, k5]; exact m2
  · rw [k6, c3, m2, k3, k1, k2, k5, List.take_length]
  · rw [k4, k1, m1, List.length_append]; omega
  · have ho := h.ot
    obtain _ | ⟨f, c, w⟩ := m
    · show (_ ∧ _) ∨ (_ ∧ _)
      rw [k8, k6, c2, k3]
      exact ho
    · obtain ⟨o1, o2, o3, o4⟩ := ho
      obtain ⟨t1, t2, t3⟩ := at_same l k1 k2 k5 f
      refine ⟨by rw [k8]; exact o1, by rw [k1]; exact o2, by rw [k3]; exact o3, ?_⟩
      rcases o4 with ⟨v1, v2, v3⟩ | ⟨v1, v2, v3, v4⟩ | ⟨v1, v2, v0, s1, s2, ks, v3, v4, v5, v6, v7⟩
      · exact .inl ⟨v1, v2, by rw [k6, c2]; exact v3⟩
      · refine .inr (.inl ⟨v1, v2, by rw [k1]; exact v3, ?_⟩)
        rw [k6, c2, k3, t1, t2, t3]
        exact v4
      · have v2 : w = true := v2
        subst v2
        have o2 : d.b ≤ f ∧ f ≤ d.b + (l.length : Int) := o2
        have v3 : sufAt d l f = s1 ++ s2 := v3
        have hs := (suf_chain h o2).2.2.2
        refine .inr (.inr ⟨v1, rfl, v0, s1, s2, s2.length, by rw [t3]; exact v3, by rw [k6, c2, k3, t1, t2]; exact v4, Nat.le_refl _, .inr ?_, ?_⟩)
        · rw [k6, c4, w4, k3, t1, t2, List.take_length]
          show ((datOf d (1 - d.at')).length : Int) = _
          rw [v4]
        · rw [k4]
          have : (sufAt d l f).length = s1.length + s2.length := by rw [v3, List.length_append]
          rw [hs] at this
          have o2b : f ≤ d.b + (l.length : Int) := o2.2
          show d.b + (l.length : Int) ≤ f + (s1.length : Int) + (s2.length : Int)
          omega
theorem arc_keep {d : SC} {l : List Rev} {m : Option Mv} (h : Arc d l m) (hg : d.gn < 2147483647) (j : Int) : Arc d l (shKeep d l.length m j).1 := by
  unfold shKeep
  split
  · exact h
  · rename_i h1
    split
    · exact h
    · rename_i h2
      obtain _ | ⟨f, c, w⟩ := m
      · have ho : d.old = false := by
          cases he : d.old
          · rfl
          · exact absurd (.inr he) h1
        refine ⟨h.at', h.dk, h.hd, h.ch, h.tb, h.now, h.sf, h.mn, ho, ?_, hg, .inl ⟨rfl, rfl, ?_⟩⟩
        · have ht : thereT d.b l.length j = 0 := Decidable.of_not_not h2
          unfold thereT at ht
          split at ht
          · exact absurd ht (by decide)
          · split at ht
            · exact absurd ht (by decide)
            · show d.b ≤ j ∧ j ≤ d.b + (l.length : Int); omega
        · rcases h.ot with ⟨h3, _⟩ | ⟨_, h3⟩
          · rw [ho] at h3; cases h3
          · exact h3
      · exact absurd (.inl rfl) h1
theorem arc_read {d : SC} {l : List Rev} {f c : Int} (h : Arc d l (some ⟨f, c, true⟩)) :
    ∃ F, EqT F (tabAt d l f) ∧ readL (scanF (datOf d (1 - d.at'))).1 = (⟨d.gn + 1, f, txtAt d l f, F, tabG F f (sufAt d l f), sufAt d l f, true, ((datOf d (1 - d.at')).length : Int)⟩, 0) := by
  obtain ⟨_, hf, hg, ho⟩ := h.ot
  have hf : d.b ≤ f ∧ f ≤ d.b + (l.length : Int) := hf
  rcases ho with ⟨_, hw, _⟩ | ⟨_, hw, _⟩ | ⟨_, _, _, r1, r2, js, e1, e2, _⟩
  · cases hw
  · cases hw
  · have e1 : sufAt d l f = r1 ++ r2 := e1
    have e2 : datOf d (1 - d.at') = encFs (flOf (d.gn + 1) f (txtAt d l f) (tabAt d l f) r1 (some r2)) := e2
    obtain ⟨s1, s2, s3, s4⟩ := suf_chain h hf
    have hh := suf_hd h hf hg
    have hc : chainOk f (tabAt d l f) 0 (txtAt d l f) (r1 ++ (some r2).getD []) := by show chainOk _ _ _ _ (r1 ++ r2); rw [← e1]; exact s1
    obtain ⟨F, hF, hr⟩ := readL_flOf hh hc
    refine ⟨F, hF, ?_⟩
    rw [e2, scan_all _ (flOf_ok s2 (chain_one _ _ _ _ hc)), hr]
    show (LogD.mk _ _ _ _ (tabG F f (r1 ++ r2)) (r1 ++ r2) true _, (0 : Int)) = _
    rw [e1]
theorem arc_stepOk {d : SC} {l : List Rev} {m : Option Mv} (h : Arc d l m) : StepOk d l m := by
  refine ⟨h.shOk, fun f c w hm => ?_⟩
  subst hm
  obtain ⟨_, hf, hg, ho⟩ := h.ot
  have hf : d.b ≤ f ∧ f ≤ d.b + (l.length : Int) := hf
  have hl := h.len
  refine ⟨hf, ?_, fun hc hw => ?_⟩
  · rcases ho with ⟨h1, _⟩ | ⟨_, _, h1, _⟩ | ⟨_, _, h1, _⟩
    · have h1 : c = -1 := h1
      omega
    · have h1 : f + c ≤ d.b + (l.length : Int) := h1
      omega
    · have h1 : c ≤ 64 := h1
      omega
  · subst hw
    have e := (syn_ok2 h.dk h.oat).2.1 (1 - d.at')
    obtain ⟨F, _, hr⟩ := arc_read h
    rw [e, hr]
    obtain ⟨_, _, _, s4⟩ := suf_chain h hf
    refine ⟨(h.dk.slot (1 - d.at')).1, rfl, ⟨by show 0 ≤ f; omega, by show f ≤ _; omega⟩, by show (sufAt d l f).length ≤ 64; rw [s4]; omega⟩
theorem suf_get {d : SC} {l : List Rev} {f c : Int} (hf : d.b ≤ f) (hc : 0 ≤ c) (hlt : f + c < d.b + (l.length : Int)) : ∃ r, l[(f + c - d.b).toNat]? = some r ∧ l.getD (f + c - d.b).toNat rev0 = r ∧ (sufAt d l f).take (c + 1).toNat = (sufAt d l f).take c.toNat ++ [r] := by
  have hi : (f + c - d.b).toNat < l.length := by omega
  refine ⟨l[(f + c - d.b).toNat], List.getElem?_eq_getElem hi, by rw [List.getD_eq_getElem?_getD, List.getElem?_eq_getElem hi]; rfl, ?_⟩
  have e : (c + 1).toNat = c.toNat + 1 := by omega
  unfold sufAt
  rw [e, List.take_add_one, List.getElem?_drop]
  have e2 : (f - d.b).toNat + c.toNat = (f + c - d.b).toNat := by omega
  rw [e2, List.getElem?_eq_getElem hi]
  rfl
theorem shStep_neg {d : SC} {l : List Rev} {f c : Int} {w : Bool} (hc : c < 0) : shStep d l (some ⟨f, c, w⟩) = step1 d l f w (headF (d.gn + 1) f (stextT d l f).1 (tabAt d l f)).1 := by
  show (if c < 0 then _ else _) = _
  rw [if_pos hc]; rfl
/-- what a step does to the texts -/
structure StepS (d : SC) (l : List Rev) (m : Option Mv) (y : StR) : Prop where
  arc : Arc y.d y.l y.m
  same : Same d l y.d y.l
  gn : y.d.gn ≤ d.gn + 1
  sf : d.sf ≤ y.d.sf
theorem step_same {d d' : SC} {l : List Rev} {m m' : Option Mv} {v : Bool} (h : Arc d' l m') (hb : d'.b = d.b) (ht : d'.tx = d.tx) (hg : d'.gn = d.gn) (hs : d'.sf = d.sf) : StepS d l m ⟨d', l, m', v⟩ := ⟨h, .of hb ht, by show d'.gn ≤ _; omega, by show _ ≤ d'.sf; omega⟩
theorem arc_step {d : SC} {l : List Rev} {m : Option Mv} (h : Arc d l m) : StepS d l m (shStep d l m) := by
  obtain ⟨r1, r2, js, m1, m2, m3, m4, m5⟩ := h.mn
  have e1 : (1 : Int) - (1 - d.at') = d.at' := by omega
  obtain _ | ⟨f, c, w⟩ := m
  · -- no move
    show StepS d l none (step0 d l)
    unfold step0
    split
    · rename_i ho
      obtain ⟨q1, q2, q3, q4, q5⟩ := trm_ok2 (n := 0) h.dk h.oat (Nat.zero_le _)
      rw [e1] at q3 q5
      have q2 : datOf (trmS d (1 - d.at') 0) (1 - d.at') = [] := q2
      refine step_same ⟨h.at', q1, h.hd, h.ch, h.tb, h.now, h.sf, ⟨r1, r2, js, m1, ?_, m3, ?_, m5⟩, .inr ⟨rfl, q2⟩⟩ rfl rfl rfl rfl
      · show datOf (trmS d (1 - d.at') 0) d.at' = _
        have q3 : datOf (trmS d (1 - d.at') 0) d.at' = datOf d d.at' := q3
        rw [q3]; exact m2
      · show safOf (trmS d (1 - d.at') 0) d.at' = _
        have q5 : safOf (trmS d (1 - d.at') 0) d.at' = safOf d d.at' := q5
        rw [q5]; exact m4
    · exact step_same h rfl rfl rfl rfl
  obtain ⟨o1, hf, hg, ho⟩ := h.ot
  have hf : d.b ≤ f ∧ f ≤ d.b + (l.length : Int) := hf
  obtain ⟨s1, s2, s3, s4⟩ := suf_chain h hf
  have hh := suf_hd h hf hg
  have hlen := h.len
  rcases ho with ⟨v1, v2, v3⟩ | ⟨v1, v2, v3, v4⟩ | ⟨v1, v2, v0, t1, t2, ks, v3, v4, v5, v6, v7⟩
  · -- the head
    have v1 : c = -1 := v1
    have v2 : w = false := v2
    subst v1 v2
    have hst : shStep d l (some ⟨f, -1, false⟩) = step1 d l f false (headF (d.gn + 1) f (stextT d l f).1 (tabAt d l f)).1 := shStep_neg (by decide)
    rw [hst, stext_at h hf, headF_fr hh]
    unfold step1
    obtain ⟨q1, q2, q3, q4, q5⟩ := trm_ok2 (n := 0) h.dk h.oat (Nat.zero_le _)
    rw [e1] at q3 q5
    have q2 : datOf (trmS d (1 - d.at') 0) (1 - d.at') = [] := q2
    have q3 : datOf (trmS d (1 - d.at') 0) d.at' = datOf d d.at' := q3
    have q5 : safOf (trmS d (1 - d.at') 0) d.at' = safOf d d.at' := q5
    have q1 : DkOk (trmS d (1 - d.at') 0) := q1
    have hfl := (headFr_ok (g := d.gn + 1) (b := f) (t := tabAt d l f) s2).2.2
    obtain ⟨p1, p2, p3, p4⟩ := put_ok2 q1 h.oat (t := frB (headFr (d.gn + 1) f (txtAt d l f) (tabAt d l f))) (by rw [q2, frB_len]; show 0 + _ ≤ _; omega)
    rw [e1] at p3
    refine step_same ⟨h.at', p1, h.hd, h.ch, h.tb, h.now, h.sf, ⟨r1, r2, js, m1, ?_, m3, ?_, m5⟩, o1, hf, hg, .inr (.inl ⟨by show (0 : Int) ≤ 0; decide, rfl, by show f + 0 ≤ d.b + (l.length : Int); omega, ?_⟩)⟩ rfl rfl rfl rfl
    · show datOf (putS (trmS d (1 - d.at') 0) (1 - d.at') _) d.at' = _
      rw [p3, q3]; exact m2
    · show safOf (putS (trmS d (1 - d.at') 0) (1 - d.at') _) d.at' = _
      rw [p4, q5]; exact m4
    · show datOf (putS (trmS d (1 - d.at') 0) (1 - d.at') _) (1 - d.at') = encFs (flOf (d.gn + 1) f (txtAt d l f) (tabAt d l f) ((sufAt d l f).take (0 : Int).toNat) none)
      rw [p2, q2, List.nil_append, enc_head]; rfl
  · have v1 : 0 ≤ c := v1
    have v2 : w = false := v2
    have v3 : f + c ≤ d.b + (l.length : Int) := v3
    have v4 : datOf d (1 - d.at') = encFs (flOf (d.gn + 1) f (txtAt d l f) (tabAt d l f) ((sufAt d l f).take c.toNat) none) := v4
    subst v2
    have hol : (datOf d (1 - d.at')).length ≤ 264462 := by
      rw [v4]
      refine flOf_enc_len s2 (o := none) (fun r hr => ?_) ?_
      · rw [Option.getD_none, List.append_nil] at hr
        exact chain_one _ _ _ _ s1 r (List.mem_of_mem_take hr)
      · rw [Option.getD_none, List.append_nil, List.length_take, s4]; omega
    have hst : shStep d l (some ⟨f, c, false⟩) = step2 d l f c (fun r => (revF r).1) (putFr 3 []).1 := by
      show (if c < 0 then _ else _) = _
      rw [if_neg (by omega), if_pos rfl]
    rw [hst]
    unfold step2
    by_cases hlt : f + c < d.b + (l.length : Int)
    · -- a revision
      rw [if_pos hlt]
      obtain ⟨r, g1, g2, g3⟩ := suf_get hf.1 v1 hlt
      have hr1 := chain_one _ _ _ _ h.ch r (List.mem_of_getElem? g1)
      rw [g2]
      have er : (fun r => (revF r).1) r = frB (revFr r) := by show (revF r).1 = _; rw [revF_fr hr1]
      rw [er]
      have hrl := (revFr_ok hr1).2.2
      obtain ⟨p1, p2, p3, p4⟩ := put_ok2 h.dk h.oat (t := frB (revFr r)) (by rw [frB_len]; omega)
      rw [e1] at p3
      refine step_same ⟨h.at', p1, h.hd, h.ch, h.tb, h.now, h.sf, ⟨r1, r2, js, m1, ?_, m3, ?_, m5⟩, o1, hf, hg, .inr (.inl ⟨by show (0 : Int) ≤ c + 1; omega, rfl, by show f + (c + 1) ≤ d.b + (l.length : Int); omega, ?_⟩)⟩ rfl rfl rfl rfl
      · show datOf (putS d (1 - d.at') _) d.at' = _
        rw [p3]; exact m2
      · show safOf (putS d (1 - d.at') _) d.at' = _
        rw [p4]; exact m4
      · show datOf (putS d (1 - d.at') _) (1 - d.at') = encFs (flOf (d.gn + 1) f (txtAt d l f) (tabAt d l f) ((sufAt d l f).take (c + 1).toNat) none)
        rw [p2, v4, g3, enc_snoc1]
    · -- Done
      rw [if_neg hlt, done_fr]
      have hdl : (frB doneFr).length = 7 := by rw [frB_len]; rfl
      obtain ⟨p1, p2, p3, p4⟩ := put_ok2 h.dk h.oat (t := frB doneFr) (by omega)
      rw [e1] at p3
      have hall : (sufAt d l f).take c.toNat = sufAt d l f := List.take_of_length_le (by rw [s4]; omega)
      refine step_same ⟨h.at', p1, h.hd, h.ch, h.tb, h.now, h.sf, ⟨r1, r2, js, m1, ?_, m3, ?_, m5⟩, o1, hf, hg, .inr (.inr ⟨v1, rfl, by show c ≤ 64; omega, sufAt d l f, [], 0, ?_, ?_, Nat.zero_le _, .inl rfl, ?_⟩)⟩ rfl rfl rfl rfl
      · show datOf (putS d (1 - d.at') _) d.at' = _
        rw [p3]; exact m2
      · show safOf (putS d (1 - d.at') _) d.at' = _
        rw [p4]; exact m4
      · show sufAt d l f = _
        rw [List.append_nil]
      · show datOf (putS d (1 - d.at') _) (1 - d.at') = encFs (flOf (d.gn + 1) f (txtAt d l f) (tabAt d l f) (sufAt d l f) (some []))
        rw [p2, v4, hall, enc_done]
      · show d.sf ≤ f + ((sufAt d l f).length : Int) + ((0 : Nat) : Int)
        have := h.sf
        rw [s4]; omega
  · -- over
    have v1 : 0 ≤ c := v1
    have v2 : w = true := v2
    subst v2
    have v3 : sufAt d l f = t1 ++ t2 := v3
    have v4 : datOf d (1 - d.at') = encFs (flOf (d.gn + 1) f (txtAt d l f) (tabAt d l f) t1 (some t2)) := v4
    obtain ⟨q1, q2, q3, q4⟩ := syn_ok2 h.dk h.oat
    rw [e1] at q4
    obtain ⟨F, hF, hr⟩ := arc_read h
    have hst : shStep d l (some ⟨f, c, true⟩) = step3 d ⟨d.gn + 1, f, txtAt d l f, F, tabG F f (sufAt d l f), sufAt d l f, true, ((datOf d (1 - d.at')).length : Int)⟩ := by
      show (if c < 0 then _ else _) = _
      rw [if_neg (by omega), if_neg (by simp), q2, hr]
    rw [hst]
    have hsl : d.b + (l.length : Int) = f + ((sufAt d l f).length : Int) := by rw [s4]; omega
    have hsl2 : (sufAt d l f).length = t1.length + t2.length := by rw [v3, List.length_append]
    refine ⟨⟨h.oat, q1, hh.eqT hF.symm, chain_eqT _ _ _ _ _ hF.symm s1, EqT.refl _, ?_, Int.le_refl _, ⟨t1, t2, t2.length, v3, ?_, Nat.le_refl _, ?_, ?_⟩, .inl ⟨rfl, ?_⟩⟩, ⟨?_, hf.1, fun r hr1 hr2 => ?_⟩, Int.le_refl _, ?_⟩
    · show d.now = nowG (txtAt d l f) (sufAt d l f)
      rw [h.now]
      unfold txtAt sufAt
      rw [← nowG_app, List.take_append_drop]
    · show datOf (synS d (1 - d.at')) (1 - d.at') = encFs (flOf (d.gn + 1) f (txtAt d l f) F t1 (some t2))
      rw [q2, v4, flOf_eqT hF]
    · show safOf (synS d (1 - d.at')) (1 - d.at') = ((encFs (flOf (d.gn + 1) f (txtAt d l f) F t1 (some (t2.take t2.length)))).length : Int)
      rw [q3, v4, flOf_eqT hF, List.take_length]
    · show f + ((sufAt d l f).length : Int) ≤ f + (t1.length : Int) + (t2.length : Int)
      omega
    · show Low (datOf (synS d (1 - d.at')) (1 - (1 - d.at'))) (d.gn + 1)
      rw [e1, q2]
      exact ⟨d.gn, d.b, d.tx, d.fs, r1, some r2, h.hd, by show chainOk _ _ _ _ (r1 ++ r2); rw [← m1]; exact h.ch, m2, by omega⟩
    · show f + ((sufAt d l f).length : Int) = _
      exact hsl.symm
    · show nowG (txtAt d l f) ((sufAt d l f).take (r - f).toNat) = txtAt d l r
      have hr1 : f ≤ r := hr1
      unfold txtAt sufAt
      rw [← nowG_app]
      congr 1
      have e2 : (r - d.b).toNat = (f - d.b).toNat + (r - f).toNat := by omega
      rw [e2, List.take_add]
    · show d.sf ≤ f + ((sufAt d l f).length : Int)
      have := h.sf
      omega
end Go.Proofs.Ytobngncjflogcaa.AM

set_option linter.unusedVariables false
set_option linter.unusedSimpArgs false
namespace Go.Proofs.Ytobngncjflogcaa.AM
open Go Go.RowKit
set_option maxRecDepth 100000
set_option maxHeartbeats 2000000
theorem hd_new : HdOk 1 0 [] fun _ => 0 := ⟨by decide, by decide, by decide, fun _ _ => by decide⟩
theorem arc_new : Arc newD [] none ∧ newD.b = 0 ∧ newD.gn = 1 ∧ newD.old = false ∧ newD.tx = [] := by
  have hz : DkOk Z0 := by show diskT [] 0 [] 0 = 0; decide
  have ht : (headF 1 0 [] fun _ => 0).1 ++ (putFr 3 []).1 = encFs (flOf 1 0 [] (fun _ => 0) [] (some [])) := by
    rw [headF_fr hd_new, done_fr]
    show frB (headFr 1 0 [] fun _ => 0) ++ frB doneFr = _
    rw [enc_head, enc_done]
  have hl : (encFs (flOf 1 0 [] (fun _ => 0) [] (some []))).length ≤ 264462 := flOf_enc_len (o := some []) (by decide) (fun r hr => by cases hr) (by decide)
  obtain ⟨p1, p2, p3, p4⟩ := put_ok2 hz (.inl rfl) (t := encFs (flOf 1 0 [] (fun _ => 0) [] (some []))) (by show 0 + _ ≤ _; omega)
  obtain ⟨q1, q2, q3, q4⟩ := syn_ok2 p1 (.inl rfl)
  have e : newD = { synS (putS Z0 0 (encFs (flOf 1 0 [] (fun _ => 0) [] (some [])))) 0 with gn := 1, b := 0, tx := [], fs := fun _ => 0, tb := fun _ => 0, wh := true, gd := 0 } := by
    unfold newD
    rw [ht]; rfl
  obtain ⟨D, hD⟩ : ∃ D, newD = D := ⟨_, rfl⟩
  rw [e] at hD
  have k1 : D.b = 0 := by rw [← hD]
  have k2 : D.tx = [] := by rw [← hD]
  have k3 : D.gn = 1 := by rw [← hD]
  have k4 : D.sf = 0 := by rw [← hD]; rfl
  have k5 : D.fs = fun _ => 0 := by rw [← hD]
  have k6 : D.at' = 0 := by rw [← hD]; rfl
  have k7 : D.tb = fun _ => 0 := by rw [← hD]
  have k8 : D.old = false := by rw [← hD]; rfl
  have k9 : D.now = [] := by rw [← hD]; rfl
  have c1 : DkOk D := by rw [← hD]; exact q1
  have c2 : datOf D 0 = encFs (flOf 1 0 [] (fun _ => 0) [] (some [])) := by rw [← hD]; exact (q2 0).trans p2
  have c3 : safOf D 0 = ((encFs (flOf 1 0 [] (fun _ => 0) [] (some []))).length : Int) := by
    rw [← hD]
    have : safOf (synS (putS Z0 0 (encFs (flOf 1 0 [] (fun _ => 0) [] (some [])))) 0) 0 = _ := q3
    rw [p2] at this
    exact this
  have c4 : datOf D 1 = [] := by rw [← hD]; exact (q2 1).trans p3
  rw [e, hD]
  refine ⟨⟨.inl k6, c1, by rw [k3, k1, k2, k5]; exact hd_new, trivial, by rw [k7, k5]; exact EqT.refl _, by rw [k9, k2]; rfl, by rw [k4, k1]; decide, ⟨[], [], 0, rfl, ?_, Nat.le_refl _, ?_, ?_⟩, .inr ⟨k8, ?_⟩⟩, k1, k3, k8, k2⟩
  · rw [k6, k3, k1, k2, k5]; exact c2
  · rw [k6, k3, k1, k2, k5]; exact c3
  · rw [k4, k1]; decide
  · rw [k6]; exact c4
end Go.Proofs.Ytobngncjflogcaa.AM

set_option linter.unusedVariables false
set_option linter.unusedSimpArgs false
namespace Go.Proofs.Ytobngncjflogcaa.AM
open Go Go.RowKit
set_option maxRecDepth 100000
set_option maxHeartbeats 2000000
/-- a log whose revisions came one behind the other -/
structure LogIn (L : LogD) (now : List UInt8) : Prop where
  ch : chainOk L.base L.first 0 L.text L.revs
  tb : L.table = tabG L.first L.base L.revs
  now : now = nowG L.text L.revs
theorem stepL_in {L : LogD} {now : List UInt8} {f : Frame} {q : LogD × List UInt8} (h : stepL L now f = some q) (hi : LogIn L now) : LogIn q.1 q.2 ∧ q.1.base = L.base ∧ q.1.gen = L.gen ∧ q.1.text = L.text ∧ q.1.first = L.first := by
  unfold stepL at h
  split at h
  · split at h
    · cases h
    · cases h; exact ⟨⟨hi.ch, hi.tb, hi.now⟩, rfl, rfl, rfl, rfl⟩
  · split at h
    · split at h
      · rename_i hc
        cases h
        refine ⟨⟨?_, ?_, ?_⟩, rfl, rfl, rfl, rfl⟩
        · show chainOk L.base L.first 0 L.text (L.revs ++ [revB f.body])
          rw [chain_app]
          have e0 : L.base + ((0 : Nat) : Int) = L.base := by omega
          refine ⟨hi.ch, ?_, trivial⟩
          rw [e0, Nat.zero_add, ← hi.tb, ← hi.now]
          exact hc.2
        · show addTb L.table _ _ _ = tabG L.first L.base (L.revs ++ [revB f.body])
          rw [tabG_app, ← hi.tb]; rfl
        · show _ = nowG L.text (L.revs ++ [revB f.body])
          rw [nowG_app, ← hi.now]; rfl
      · cases h
    · cases h
theorem allL_in : ∀ (fs : List Frame) (L : LogD) (now : List UInt8), LogIn L now → (∃ n, LogIn (allL fs L now) n) ∧ (allL fs L now).base = L.base ∧ (allL fs L now).gen = L.gen ∧ (allL fs L now).text = L.text ∧ (allL fs L now).first = L.first
  | [], L, now, h => ⟨⟨now, h⟩, rfl, rfl, rfl, rfl⟩
  | f :: fs, L, now, h => by
    rw [allL]
    cases hs : stepL L now f with
    | none => exact ⟨⟨now, h⟩, rfl, rfl, rfl, rfl⟩
    | some q =>
      obtain ⟨h1, h2, h3, h4, h5⟩ := stepL_in hs h
      obtain ⟨g1, g2, g3, g4, g5⟩ := allL_in fs q.1 q.2 h1
      exact ⟨g1, g2.trans h2, g3.trans h3, g4.trans h4, g5.trans h5⟩
theorem readL_in {fs : List Frame} (h : (readL fs).2 = 0) : (∃ n, LogIn (readL fs).1 n) ∧ HdOk (readL fs).1.gen (readL fs).1.base (readL fs).1.text (readL fs).1.first := by
  have hb := tkN_bd
  have key : ∀ (hg hbs : List UInt8 → Int) (ht : List UInt8 → List UInt8) (hf : List UInt8 → Nat → Int) (ho : List UInt8 → Bool), (∀ x, inR (hg x)) → (∀ x, inR (hbs x)) → (∀ x, ho x = true → (ht x).length ≤ 500) → (∀ x j, inR (hf x j)) → (readG hg hbs ht hf ho fs).2 = 0 →
      (∃ n, LogIn (readG hg hbs ht hf ho fs).1 n) ∧ HdOk (readG hg hbs ht hf ho fs).1.gen (readG hg hbs ht hf ho fs).1.base (readG hg hbs ht hf ho fs).1.text (readG hg hbs ht hf ho fs).1.first := by
    intro hg hbs ht hf ho k1 k2 k3 k4 h
    cases fs with
    | nil => exact absurd (show (7 : Int) = 0 from h) (by decide)
    | cons f fs =>
      have e : readG hg hbs ht hf ho (f :: fs) = if f.kind ≠ 1 ∨ ho f.body = false then (zeroL, 3) else (allL fs (headG (hg f.body) (hbs f.body) (ht f.body) (hf f.body) ((f.body.length : Int) + 7)) (ht f.body), 0) := rfl
      rw [e] at h ⊢
      split at h
      · exact absurd h (by decide)
      · rename_i hc
        rw [if_neg hc]
        have hoo : ho f.body = true := by cases hx : ho f.body; exact absurd (.inr hx) hc; rfl
        obtain ⟨g1, g2, g3, g4, g5⟩ := allL_in fs (headG (hg f.body) (hbs f.body) (ht f.body) (hf f.body) ((f.body.length : Int) + 7)) (ht f.body) ⟨trivial, rfl, rfl⟩
        refine ⟨g1, ?_⟩
        show HdOk (allL _ _ _).gen (allL _ _ _).base (allL _ _ _).text (allL _ _ _).first
        rw [g2, g3, g4, g5]
        exact ⟨k1 _, k2 _, k3 _ hoo, fun j _ => k4 _ j⟩
  have hlen : ∀ x, headOk x = true → (tkS x 18).1.length ≤ 500 := by
    intro x hx
    unfold headOk at hx
    generalize tkS x 18 = q at hx ⊢
    simp only [Bool.and_eq_true, decide_eq_true_eq] at hx
    exact hx.2
  exact key _ _ _ _ _ (fun x => hb x 0) (fun x => hb x 1) hlen (fun x j => hb x (j + 2)) h
theorem LogIn.ok {L : LogD} {now : List UInt8} (h : LogIn L now) (hd : HdOk L.gen L.base L.text L.first) : LogOk L := by
  obtain ⟨h1, h2, h3, h4⟩ := revs_ok h.ch
  have := hd.b
  unfold inR at this
  exact ⟨by omega, by omega, h1⟩
theorem readL_ok {fs : List Frame} {L : LogD} {e : Int} (h : readL fs = (L, e)) (he : e = 0) : LogOk L := by
  have h2 : (readL fs).2 = 0 := by rw [h]; exact he
  obtain ⟨⟨n, h3⟩, h4⟩ := readL_in h2
  rw [h] at h3 h4
  exact h3.ok h4
def OpenPost (y : OpR) (x : V) (L' : List (Nat × Ob)) : Prop := (y.e ≠ 0 ∧ x = .tup [.nil, .int .i64 y.e] ∧ L' = []) ∨ (y.e = 0 ∧ ∃ bl ba, x = .tup [.ptr 60 (some bl) 47 0 0, .int .i64 0] ∧ L' = [(60, obSh bl (rowS y.d (.own 1000200 ba 3 y.l.length) .nil)), (1000200, obV ba (y.l.map encRev)), (999, obMv 0 none)])
theorem diskT_len {a1 b1 : List UInt8} {a2 b2 : Int} (h : diskT a1 a2 b1 b2 = 0) : a1.length ≤ 1048576 ∧ b1.length ≤ 1048576 := by
  obtain ⟨h1, h2⟩ := disk_ok h
  exact ⟨(slot_ok h1).1, (slot_ok h2).1⟩
theorem sp_sopen (a1 : List UInt8) (a2 : Int) (b1 : List UInt8) (b2 : Int) : Spec Try.prog 7 [.agg [.str a1, .int .i64 a2, .str b1, .int .i64 b2]] (lookH []) fun x h' => ∃ L', OpenPost (openF a1 a2 b1 b2) x L' ∧ h' = lookH L' := by
  refine spec_meth dOk ok_sopen (L := []) (OpenPost (openF a1 a2 b1 b2)) fun R hR => ?_
  obtain ⟨LA, eA, hA⟩ : ∃ L e, readL (scanF a1).1 = (L, e) := ⟨_, _, rfl⟩
  obtain ⟨LB, eB, hB⟩ : ∃ L e, readL (scanF b1).1 = (L, e) := ⟨_, _, rfl⟩
  refine vc_sopen std rfl _ _ hreadC strmC ssynC sheadE rtextP a1 a2 b1 b2 (diskT a1 a2 b1 b2) (ansW (sp_dck a1 a2 b1 b2) (fun h => .cons (.same _) .nil) rfl) (fun h => (diskT_len h).1) (fun h => (diskT_len h).2) LA LB eA eB hA hB (readL_ok hA) (readL_ok hB) (openF a1 a2 b1 b2) (by unfold openF; rw [hA, hB]) R ?_ ?_
  · intro s s' e he hne hent hr
    subst he
    exact hR s s' (.tup [.nil, .int .i64 _]) [] hent (resV_mono _ _ _ (fun x hx => by rw [hx]; rfl) hr) trivial (.tup _ (by simp; exact ⟨.nil, .int _ _⟩)) (fun p hp => by cases hp) (.inl ⟨hne, rfl, rfl⟩)
  · intro s s' bl ba n rows d hd he hn hrows hent hr ha
    subst hd hn hrows
    refine hR s s' (.tup [.ptr 60 (some bl) 47 0 0, .int .i64 0]) _ hent (resV_mono _ _ _ (fun x hx => by rw [hx]; rfl) hr) ha (.tup _ (by simp; exact ⟨.ptr _ _ _ _ _, .int _ _⟩)) (fun p hp => ?_) (.inr ⟨he, bl, ba, rfl, rfl⟩)
    simp only [List.mem_cons, List.not_mem_nil, or_false] at hp
    rcases hp with rfl | rfl | rfl
    · exact rowS_fz (.own _ _ _ _) .nil bl
    · exact encRevs_fz _
    · exact obMv_fz 0 none
def SOpenC (T : CallT) : Prop := ∀ (k ka km : Nat) (a1 : List UInt8) (a2 : Int) (b1 : List UInt8) (b2 : Int) (h : Hp) (K : V → Hp → Prop), N3 k ka km → h k = none → h ka = none → h km = none →
  (∀ d l e, ⟨d, l, e⟩ = openF a1 a2 b1 b2 → (e ≠ 0 → K (.tup [.nil, .int .i64 e]) h) ∧ (e = 0 → ∀ bl ba n rows mo, n = l.length → rows = l.map encRev → mo = obMv 0 none → K (.tup [.ptr k (some bl) 47 0 0, .int .i64 0]) (h.puts [(k, obSh bl (rowS d (.own ka ba 3 n) .nil)), (ka, obV ba rows), (km, mo)]))) → T 7 [.agg [.str a1, .int .i64 a2, .str b1, .int .i64 b2]] h K
theorem sopenC : SOpenC (CallE Try.prog) := by
  intro k ka km a1 a2 b1 b2 h K hN hk hka hkm hK
  obtain ⟨n1, n2, n3⟩ := hN.ne
  have n1' : ¬ ka = k := fun e => n1 e.symm
  have n2' : ¬ km = k := fun e => n2 e.symm
  have n3' : ¬ km = ka := fun e => n3 e.symm
  have l0 : lab [(60, k), (1000200, ka), (999, km)] 60 = k := by simp [lab]
  have l1 : lab [(60, k), (1000200, ka), (999, km)] 1000200 = ka := by simp [lab]
  have nd1 : ([(60, k), (1000200, ka), (999, km)].map (·.1)).Nodup := by show ([60, 1000200, 999] : List Nat).Nodup; decide
  have nd2 : ([(60, k), (1000200, ka), (999, km)].map (·.2)).Nodup := by simp [n1, n2, n3]
  refine callG (sp_sopen a1 a2 b1 b2) (m := [(60, k), (1000200, ka), (999, km)]) (.cons (.same _) .nil) (fun j o hj => by cases hj) (fun q hq => ⟨lab_mem nd1 q hq, bal_mem nd2 q hq, fun o ho => by cases ho⟩) ?_
  obtain ⟨y, hy⟩ : ∃ y, openF a1 a2 b1 b2 = y := ⟨_, rfl⟩
  rw [hy] at hK ⊢
  obtain ⟨d, l, e⟩ := y
  rintro x L' (⟨he, rfl, rfl⟩ | ⟨he, bl, ba, rfl, rfl⟩)
  · have e0 : h.upd [(60, k), (1000200, ka), (999, km)] (lookH []) = h := by
      funext i
      simp only [Hp.upd, List.any_cons, List.any_nil, Bool.or_false, Bool.or_eq_true, decide_eq_true_eq]
      split
      · rename_i hi
        show (none : Option Ob) = _
        rcases hi with hi | hi | hi <;> subst hi
        · rw [hk]
        · rw [hka]
        · rw [hkm]
      · rfl
    rw [e0]
    exact (hK d l e rfl).1 he
  · rw [upd_puts h _ _ rfl nd1 nd2 (by simp)]
    have e1 : backL [(60, k), (1000200, ka), (999, km)] (Ob.ren (lab [(60, k), (1000200, ka), (999, km)])) [(60, obSh bl (rowS d (.own 1000200 ba 3 l.length) .nil)), (1000200, obV ba (l.map encRev)), (999, obMv 0 none)] = [(k, obSh bl (rowS d (.own ka ba 3 l.length) .nil)), (ka, obV ba (l.map encRev)), (km, obMv 0 none)] := by
      simp only [backL, List.zipWith_cons_cons, List.zipWith_nil_left, obSh_ren, obV_ren, obMv_ren]
      show [(k, obSh bl (rowS d (.own (lab _ 1000200) ba 3 l.length) _)), _, _] = _
      rw [l1]; rfl
    rw [e1]
    have e2 : (V.tup [.ptr 60 (some bl) 47 0 0, .int .i64 0]).ren (lab [(60, k), (1000200, ka), (999, km)]) = .tup [.ptr k (some bl) 47 0 0, .int .i64 0] := by
      show V.tup [.ptr (lab _ 60) (some bl) 47 0 0, .int .i64 0] = _
      rw [l0]
    rw [e2]
    exact (hK d l e rfl).2 he bl ba _ _ _ rfl rfl rfl
end Go.Proofs.Ytobngncjflogcaa.AM

set_option linter.unusedVariables false
set_option linter.unusedSimpArgs false
namespace Go.Proofs.Ytobngncjflogcaa.AM
open Go
set_option maxRecDepth 100000
set_option maxHeartbeats 2000000
theorem inT_chunk (p : Part) (u k : Int) (hp : okP p) : inT (chunk p u k) = if p.kind = 2 then 0 else k.toNat := by
  have h1 := okP_bd hp
  unfold chunk
  split
  · unfold inT; rw [kepts_put]; rfl
  · have := kepts_app_n [] (if p.kind = 1 then Tok.keep else Tok.cut) (by split <;> simp) k.toNat
    simp only [List.nil_append, kepts] at this
    simp [inT, this]

end Go.Proofs.Ytobngncjflogcaa.AM
