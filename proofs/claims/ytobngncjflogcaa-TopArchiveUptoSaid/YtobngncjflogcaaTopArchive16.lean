/-
  Texts of the plain machine, put together: what the law TopArchive reaches.
-/
import Derived.Test.YtobngncjflogcaaTopArchive15
set_option linter.unusedVariables false
set_option linter.unusedSimpArgs false
namespace Go.Proofs.Ytobngncjflogcaa.AM
open Go Go.RowKit
set_option maxRecDepth 100000
set_option maxHeartbeats 2000000
theorem N920 : N3 920 1000920 921 := ⟨rfl, rfl, rfl⟩
theorem fs_new : FsLe newD := fun w _ => by show (0 : Int) ≤ 0; decide
/-- an archive, its memory, and the texts there were -/
structure TA (bl : Nat) (d : SC) (l : List Rev) (m : Option Mv) (n : Nat) (rows : List (List V)) (mv : V) (mo : Ob) (bm nt : Nat) (rt : List (List V)) (tx : List (List UInt8)) (i : Nat) : Prop where
  hn : n = l.length
  hrows : rows = l.map encRev
  hmv : mv = mvN 901 bm m
  hmo : mo = obMv bm m
  arc : Arc d l m
  hnt : nt = tx.length
  hrt : rt = strRows tx
  htl : (tx.length : Int) = d.b + (l.length : Int) + 1
  htx : ∀ r : Nat, d.b ≤ (r : Int) → (r : Int) ≤ d.b + (l.length : Int) → tx[r]? = some (txtAt d l r)
  hg : d.gn ≤ (i : Int) + 1
  fs : FsLe d
structure YA (L : List (List Int)) where
  bl : Nat
  d : SC
  l : List Rev
  m : Option Mv
  ba : Option Nat
  n : Nat
  rows : List (List V)
  mv : V
  mo : Ob
  bm : Nat
  bt : Option Nat
  nt : Nat
  rt : List (List V)
  tx : List (List UInt8)
  i : Nat
  k : Int
  h : TA bl d l m n rows mv mo bm nt rt tx i
  hi : i ≤ L.length
  hk : k = (i : Int)
structure YB (d : SC) (l : List Rev) where
  r : Int
  h : d.b ≤ r ∧ r ≤ d.b + (l.length : Int) + 1
theorem same_tx {d d' : SC} {l l' : List Rev} {tx : List (List UInt8)} (hs : Same d l d' l') (htl : (tx.length : Int) = d.b + (l.length : Int) + 1) (htx : ∀ r : Nat, d.b ≤ (r : Int) → (r : Int) ≤ d.b + (l.length : Int) → tx[r]? = some (txtAt d l r)) :
    (tx.length : Int) = d'.b + (l'.length : Int) + 1 ∧ ∀ r : Nat, d'.b ≤ (r : Int) → (r : Int) ≤ d'.b + (l'.length : Int) → tx[r]? = some (txtAt d' l' r) := by
  have h1 := hs.hd
  have h2 := hs.b
  refine ⟨by omega, fun r r1 r2 => ?_⟩
  rw [hs.tx r r1 r2]
  exact htx r (by omega) (by omega)
theorem snoc_tx {d d' : SC} {l : List Rev} {r : Rev} {tx : List (List UInt8)} (hb : d'.b = d.b) (ht : d'.tx = d.tx) (h0 : 0 ≤ d.b) (htl : (tx.length : Int) = d.b + (l.length : Int) + 1) (htx : ∀ r : Nat, d.b ≤ (r : Int) → (r : Int) ≤ d.b + (l.length : Int) → tx[r]? = some (txtAt d l r)) :
    ((tx ++ [txtAt d' (l ++ [r]) (d.b + (l.length : Int) + 1)]).length : Int) = d'.b + ((l ++ [r]).length : Int) + 1 ∧ ∀ k : Nat, d'.b ≤ (k : Int) → (k : Int) ≤ d'.b + ((l ++ [r]).length : Int) → (tx ++ [txtAt d' (l ++ [r]) (d.b + (l.length : Int) + 1)])[k]? = some (txtAt d' (l ++ [r]) k) := by
  rw [hb, List.length_append, List.length_append, List.length_singleton, List.length_singleton]
  refine ⟨by omega, fun k k1 k2 => ?_⟩
  by_cases hk : k < tx.length
  · rw [List.getElem?_append_left hk, htx k k1 (by omega)]
    unfold txtAt
    rw [hb, ht, take_snoc (by omega)]
  · have e : k = tx.length := by omega
    have e2 : d.b + (l.length : Int) + 1 = (k : Int) := by omega
    rw [e2, e, List.getElem?_append_right (Nat.le_refl _), Nat.sub_self]
    rfl
theorem open_tx {d d' : SC} {l l' : List Rev} {tx : List (List UInt8)} (h : Opened d l d' l') (h0 : 0 ≤ d'.b) {n : Nat} (hn : (n : Int) = d'.b + (l'.length : Int) + 1) (htl : (tx.length : Int) = d.b + (l.length : Int) + 1) (htx : ∀ r : Nat, d.b ≤ (r : Int) → (r : Int) ≤ d.b + (l.length : Int) → tx[r]? = some (txtAt d l r)) :
    (tx.take n).length = n ∧ ∀ r : Nat, d'.b ≤ (r : Int) → (r : Int) ≤ d'.b + (l'.length : Int) → (tx.take n)[r]? = some (txtAt d' l' r) := by
  have h1 := h.hi
  have h2 := h.b
  refine ⟨by rw [List.length_take]; omega, fun r r1 r2 => ?_⟩
  rw [List.getElem?_take, if_pos (by omega), h.tx r r1 r2]
  exact htx r (by omega) (by omega)
def ac_tar : AC := .seq (.region false [
    ⟨some 4, none, .mov (.c (.bool false))⟩])
  (.seq (.region false [
    ⟨some 20, none, .call 17 []⟩,
    ⟨some 5, none, .mov (.t 20)⟩])
  (.seq (.seq (.region false [
    ⟨some 21, none, .call 11 []⟩,
    ⟨some 22, none, .not (.t 21)⟩,
    ⟨some 23, none, .mov (.t 22)⟩,
    ⟨some 24, some (23, false), .mov (.t 5)⟩,
    ⟨some 25, some (23, false), .eqp false (.t 24) (.c (.pointer none))⟩,
    ⟨some 26, none, .pick (.t 23) (.c (.bool true)) (.t 25)⟩])
  (.cond (.t 26)
    (.seq (.region false [
      ⟨some 4, none, .mov (.c (.bool false))⟩])
    (.ret))
    (.skip)))
  (.seq (.region false [
    ⟨some 27, none, .bslice 9 1 [(.c (.string ⟨#[]⟩))]⟩,
    ⟨some 6, none, .mov (.t 27)⟩])
  (.seq (.seq (.region false [
    ⟨some 28, none, .mov (.t 0)⟩,
    ⟨some 29, none, .len false (.t 28)⟩,
    ⟨some 30, none, .mov (.c (.int .i64 0))⟩])
  (.block 0 (.loop (.seq (.region false [
      ⟨some 31, none, .bin .lss (.t 30) (.t 29)⟩])
    (.seq (.cond (.t 31)
      (.skip)
      (.exit 0))
    (.seq (.block 1 (.seq (.region false [
      ⟨some 32, none, .mov (.t 30)⟩,
      ⟨some 33, none, .iaddr 1 (.t 28) (.t 30)⟩,
      ⟨some 34, none, .load1 (.t 33)⟩,
      ⟨some 7, none, .mov (.t 32)⟩,
      ⟨some 8, none, .mov (.t 34)⟩])
    (.seq (.region false [
      ⟨some 9, none, .mov (.c (.slice none 0 0))⟩])
    (.seq (.seq (.region false [
      ⟨some 35, none, .mov (.t 7)⟩,
      ⟨some 36, none, .mov (.t 1)⟩,
      ⟨some 37, none, .len false (.t 36)⟩,
      ⟨some 38, none, .bin .lss (.t 35) (.t 37)⟩])
    (.cond (.t 38)
      (.region false [
        ⟨some 39, none, .mov (.t 1)⟩,
        ⟨some 40, none, .mov (.t 7)⟩,
        ⟨some 41, none, .iaddr 1 (.t 39) (.t 40)⟩,
        ⟨some 42, none, .load1 (.t 41)⟩,
        ⟨some 9, none, .mov (.t 42)⟩])
      (.skip)))
    (.seq (.seq (.region false [
      ⟨some 43, none, .mov (.t 8)⟩,
      ⟨some 44, none, .call 27 [(.t 43), (.c (.int .i64 0))]⟩,
      ⟨some 45, none, .call 26 [(.t 44), (.c (.int .i64 5))]⟩])
    (.block 2 (.seq (.region false [
      ⟨some 91, none, .bin .eql (.t 45) (.c (.int .i64 0))⟩,
      ⟨some 90, none, .mov (.t 91)⟩])
    (.cond (.t 90)
      (.seq (.region false [
        ⟨some 93, none, .mov (.t 5)⟩,
        ⟨some 94, none, .mov (.t 8)⟩,
        ⟨some 95, none, .call 27 [(.t 94), (.c (.int .i64 1))]⟩,
        ⟨some 96, none, .call 26 [(.t 95), (.c (.int .i64 8))]⟩,
        ⟨some 97, none, .mov (.t 8)⟩,
        ⟨some 98, none, .call 27 [(.t 97), (.c (.int .i64 2))]⟩,
        ⟨some 99, none, .mov (.t 8)⟩,
        ⟨some 100, none, .call 27 [(.t 99), (.c (.int .i64 3))]⟩,
        ⟨some 101, none, .mov (.t 9)⟩,
        ⟨some 102, none, .build [(.int .i64 0), (.int .i64 0), (.int .i64 0), (.slice none 0 0)] [(1, 1, (.t 96)), (2, 1, (.t 98)), (0, 1, (.t 100)), (3, 1, (.t 101))]⟩,
        ⟨some 103, none, .call 28 [(.t 93), (.t 102)]⟩,
        ⟨some 92, none, .mov (.t 103)⟩,
        ⟨some 104, none, .ext 0 (.t 92)⟩,
        ⟨some 105, none, .ext 1 (.t 92)⟩,
        ⟨some 10, none, .mov (.t 104)⟩,
        ⟨some 11, none, .mov (.t 105)⟩])
      (.seq (.region false [
        ⟨some 106, none, .mov (.t 11)⟩,
        ⟨some 107, none, .bin .eql (.t 106) (.c (.int .i64 0))⟩,
        ⟨some 108, none, .mov (.t 107)⟩,
        ⟨some 109, some (108, true), .mov (.t 10)⟩,
        ⟨some 110, some (108, true), .mov (.t 6)⟩,
        ⟨some 111, some (108, true), .len false (.t 110)⟩,
        ⟨some 112, some (108, true), .bin .eql (.t 109) (.t 111)⟩,
        ⟨some 113, none, .pick (.t 108) (.t 112) (.c (.bool false))⟩])
      (.cond (.t 113)
        (.seq (.region false [
          ⟨some 115, none, .mov (.t 5)⟩,
          ⟨some 116, none, .mov (.t 10)⟩,
          ⟨some 117, none, .call 22 [(.t 115), (.t 116)]⟩,
          ⟨some 114, none, .mov (.t 117)⟩,
          ⟨some 118, none, .ext 0 (.t 114)⟩,
          ⟨some 119, none, .ext 1 (.t 114)⟩,
          ⟨some 12, none, .mov (.t 118)⟩,
          ⟨some 13, none, .mov (.t 119)⟩])
        (.seq (.seq (.region false [
          ⟨some 120, none, .mov (.t 13)⟩,
          ⟨some 121, none, .bin .neq (.t 120) (.c (.int .i64 0))⟩])
        (.cond (.t 121)
          (.seq (.region false [
            ⟨some 4, none, .mov (.c (.bool false))⟩])
          (.ret))
          (.skip)))
        (.region false [
          ⟨some 122, none, .mov (.t 6)⟩,
          ⟨some 123, none, .mov (.t 12)⟩,
          ⟨some 124, none, .bslice 9 1 [(.t 123)]⟩,
          ⟨some 125, none, .append 9 1 16 (.t 122) (.t 124)⟩,
          ⟨some 6, none, .mov (.t 125)⟩])))
        (.skip))))
      (.seq (.region false [
        ⟨some 127, none, .bin .eql (.t 45) (.c (.int .i64 1))⟩,
        ⟨some 126, none, .mov (.t 127)⟩])
      (.cond (.t 126)
        (.region false [
          ⟨some 128, none, .mov (.t 5)⟩,
          ⟨some 129, none, .call 29 [(.t 128)]⟩])
        (.seq (.region false [
          ⟨some 131, none, .bin .eql (.t 45) (.c (.int .i64 2))⟩,
          ⟨some 130, none, .mov (.t 131)⟩])
        (.cond (.t 130)
          (.region false [
            ⟨some 132, none, .mov (.t 5)⟩,
            ⟨some 133, none, .mov (.t 5)⟩,
            ⟨some 134, none, .call 25 [(.t 133)]⟩,
            ⟨some 135, none, .mov (.t 8)⟩,
            ⟨some 136, none, .call 27 [(.t 135), (.c (.int .i64 1))]⟩,
            ⟨some 137, none, .mov (.t 5)⟩,
            ⟨some 138, none, .call 20 [(.t 137)]⟩,
            ⟨some 139, none, .mov (.t 5)⟩,
            ⟨some 140, none, .call 25 [(.t 139)]⟩,
            ⟨some 141, none, .bin .sub (.t 138) (.t 140)⟩,
            ⟨some 142, none, .bin .add (.t 141) (.c (.int .i64 1))⟩,
            ⟨some 143, none, .call 26 [(.t 136), (.t 142)]⟩,
            ⟨some 144, none, .bin .add (.t 134) (.t 143)⟩,
            ⟨some 145, none, .call 23 [(.t 132), (.t 144)]⟩])
          (.seq (.region false [
            ⟨some 147, none, .bin .eql (.t 45) (.c (.int .i64 3))⟩,
            ⟨some 146, none, .mov (.t 147)⟩])
          (.cond (.t 146)
            (.region false [
              ⟨some 148, none, .mov (.t 5)⟩,
              ⟨some 149, none, .call 24 [(.t 148)]⟩])
            (.seq (.region false [
              ⟨some 47, none, .mov (.t 5)⟩,
              ⟨some 48, none, .call 31 [(.t 47)]⟩,
              ⟨some 49, none, .mov (.t 8)⟩,
              ⟨some 50, none, .call 27 [(.t 49), (.c (.int .i64 1))]⟩,
              ⟨some 51, none, .mov (.t 8)⟩,
              ⟨some 52, none, .call 27 [(.t 51), (.c (.int .i64 2))]⟩,
              ⟨some 53, none, .build [(.int .i64 0), (.int .i64 0)] [(0, 1, (.t 50)), (1, 1, (.t 52))]⟩,
              ⟨some 54, none, .call 30 [(.t 48), (.t 53)]⟩,
              ⟨some 46, none, .mov (.t 54)⟩,
              ⟨some 55, none, .ext 0 (.t 46)⟩,
              ⟨some 56, none, .ext 1 (.t 46)⟩,
              ⟨some 14, none, .alloc 26 [(.string ⟨#[]⟩), (.int .i64 0), (.string ⟨#[]⟩), (.int .i64 0)]⟩,
              ⟨none, none, .store 4 (.t 14) (.t 55)⟩,
              ⟨some 15, none, .mov (.t 56)⟩])
            (.seq (.seq (.region false [
              ⟨some 57, none, .mov (.t 15)⟩,
              ⟨some 58, none, .bin .neq (.t 57) (.c (.int .i64 0))⟩])
            (.cond (.t 58)
              (.seq (.region false [
                ⟨some 4, none, .mov (.c (.bool false))⟩])
              (.ret))
              (.skip)))
            (.seq (.region false [
              ⟨some 60, none, .loadn 4 (.t 14)⟩,
              ⟨some 61, none, .call 7 [(.t 60)]⟩,
              ⟨some 59, none, .mov (.t 61)⟩,
              ⟨some 62, none, .ext 0 (.t 59)⟩,
              ⟨some 63, none, .ext 1 (.t 59)⟩,
              ⟨some 16, none, .mov (.t 62)⟩,
              ⟨some 15, none, .mov (.t 63)⟩])
            (.seq (.seq (.region false [
              ⟨some 64, none, .mov (.t 15)⟩,
              ⟨some 65, none, .bin .neq (.t 64) (.c (.int .i64 0))⟩,
              ⟨some 66, none, .mov (.t 65)⟩,
              ⟨some 67, some (66, false), .mov (.t 16)⟩,
              ⟨some 68, some (66, false), .eqp false (.t 67) (.c (.pointer none))⟩,
              ⟨some 69, none, .pick (.t 66) (.c (.bool true)) (.t 68)⟩,
              ⟨some 70, none, .mov (.t 69)⟩,
              ⟨some 71, some (70, false), .mov (.t 16)⟩,
              ⟨some 72, some (70, false), .call 20 [(.t 71)]⟩,
              ⟨some 73, some (70, false), .mov (.t 5)⟩,
              ⟨some 74, some (70, false), .call 32 [(.t 73)]⟩,
              ⟨some 75, some (70, false), .bin .lss (.t 72) (.t 74)⟩,
              ⟨some 76, none, .pick (.t 70) (.c (.bool true)) (.t 75)⟩,
              ⟨some 77, none, .mov (.t 76)⟩,
              ⟨some 78, some (77, false), .mov (.t 16)⟩,
              ⟨some 79, some (77, false), .call 20 [(.t 78)]⟩,
              ⟨some 80, some (77, false), .mov (.t 5)⟩,
              ⟨some 81, some (77, false), .call 20 [(.t 80)]⟩,
              ⟨some 82, some (77, false), .bin .gtr (.t 79) (.t 81)⟩,
              ⟨some 83, none, .pick (.t 77) (.c (.bool true)) (.t 82)⟩])
            (.cond (.t 83)
              (.seq (.region false [
                ⟨some 4, none, .mov (.c (.bool false))⟩])
              (.ret))
              (.skip)))
            (.seq (.region false [
              ⟨some 84, none, .mov (.t 16)⟩,
              ⟨some 5, none, .mov (.t 84)⟩])
            (.region false [
              ⟨some 85, none, .mov (.t 6)⟩,
              ⟨some 86, none, .mov (.t 5)⟩,
              ⟨some 87, none, .call 20 [(.t 86)]⟩,
              ⟨some 88, none, .bin .add (.t 87) (.c (.int .i64 1))⟩,
              ⟨some 89, none, .slsl 1 (.t 85) none (some (.t 88))⟩,
              ⟨some 6, none, .mov (.t 89)⟩]))))))))))))))))
    (.seq (.seq (.region false [
      ⟨some 150, none, .mov (.t 5)⟩,
      ⟨some 151, none, .call 20 [(.t 150)]⟩,
      ⟨some 152, none, .mov (.t 6)⟩,
      ⟨some 153, none, .len false (.t 152)⟩,
      ⟨some 154, none, .bin .sub (.t 153) (.c (.int .i64 1))⟩,
      ⟨some 155, none, .bin .neq (.t 151) (.t 154)⟩])
    (.cond (.t 155)
      (.seq (.region false [
        ⟨some 4, none, .mov (.c (.bool false))⟩])
      (.ret))
      (.skip)))
    (.seq (.region false [
      ⟨some 156, none, .mov (.t 5)⟩,
      ⟨some 157, none, .call 25 [(.t 156)]⟩,
      ⟨some 17, none, .mov (.t 157)⟩])
    (.block 3 (.loop (.seq (.seq (.region false [
        ⟨some 158, none, .mov (.t 17)⟩,
        ⟨some 159, none, .mov (.t 5)⟩,
        ⟨some 160, none, .call 20 [(.t 159)]⟩,
        ⟨some 161, none, .bin .leq (.t 158) (.t 160)⟩])
      (.cond (.t 161)
        (.skip)
        (.exit 3)))
      (.seq (.block 4 (.seq (.region false [
        ⟨some 165, none, .mov (.t 5)⟩,
        ⟨some 166, none, .mov (.t 17)⟩,
        ⟨some 167, none, .call 22 [(.t 165), (.t 166)]⟩,
        ⟨some 164, none, .mov (.t 167)⟩,
        ⟨some 168, none, .ext 0 (.t 164)⟩,
        ⟨some 169, none, .ext 1 (.t 164)⟩,
        ⟨some 18, none, .mov (.t 168)⟩,
        ⟨some 19, none, .mov (.t 169)⟩])
      (.seq (.region false [
        ⟨some 170, none, .mov (.t 19)⟩,
        ⟨some 171, none, .bin .neq (.t 170) (.c (.int .i64 0))⟩,
        ⟨some 172, none, .mov (.t 171)⟩,
        ⟨some 173, some (172, false), .mov (.t 18)⟩,
        ⟨some 174, some (172, false), .mov (.t 6)⟩,
        ⟨some 175, some (172, false), .mov (.t 17)⟩,
        ⟨some 176, some (172, false), .iaddr 1 (.t 174) (.t 175)⟩,
        ⟨some 177, some (172, false), .load1 (.t 176)⟩,
        ⟨some 178, some (172, false), .bin .neq (.t 173) (.t 177)⟩,
        ⟨some 179, none, .pick (.t 172) (.c (.bool true)) (.t 178)⟩])
      (.cond (.t 179)
        (.seq (.region false [
          ⟨some 4, none, .mov (.c (.bool false))⟩])
        (.ret))
        (.skip)))))
      (.region false [
        ⟨some 162, none, .mov (.t 17)⟩,
        ⟨some 163, none, .bin .add (.t 162) (.c (.int .i64 1))⟩,
        ⟨some 17, none, .mov (.t 163)⟩]))))))))))))
    (.region false [
      ⟨some 180, none, .bin .add (.t 30) (.c (.int .i64 1))⟩,
      ⟨some 30, none, .mov (.t 180)⟩])))))))
  (.seq (.region false [
    ⟨some 4, none, .mov (.c (.bool true))⟩])
  (.ret))))))
theorem ok_tar : FnOk Try.prog 6 Try.f6 ac_tar [.t 4] 2 drawD := ⟨Try.func6, by decide +kernel, by kernel_rfl, by kernel_rfl, by decide +kernel⟩
def SSubN (T : CallT) : Prop := ∀ (k ka km bl : Nat) (d : SC) (ba : Option Nat) (n : Nat) (rows : List (List V)) (l : List Rev) (mv : V) (mo : Ob) (bm : Nat) (m : Option Mv) (base who seq : Int) (h : Hp) (K : V → Hp → Prop), InH h k ka km bl d ba n rows l mv mo bm m → ShOk d l →
  (∀ v e ba' d' l' n' rows' bm' mv' mo', ⟨d', l', v, e⟩ = subF d l m base who seq [] → n' = l'.length → rows' = l'.map encRev → mv' = mvN km bm' m → mo' = obMv bm' m → K (.tup [.int .i64 v, .int .i64 e]) (h.puts [(k, obSh bl (rowS d' (.own ka ba' 3 n') mv')), (ka, obV ba' rows'), (km, mo')])) → T 28 [.ptr k (some bl) 47 0 0, .agg [.int .i64 base, .int .i64 who, .int .i64 seq, .nilsl]] h K
theorem callS3a {f k ka km bl bm : Nat} {rest rest' : List V} {d : SC} {ba : Option Nat} {n : Nat} {l : List Rev} {m : Option Mv} {post : V → SC → List Rev → Option Mv → Prop} (hs : Spec Try.prog f (.ptr 0 (some bl) 47 0 0 :: rest') (lookH (S3 bl d ba n (l.map encRev) bm m)) fun x h' => ∃ L', (∃ ba' bm' d' l' m', post x d' l' m' ∧ L' = S3 bl d' ba' l'.length (l'.map encRev) bm' m') ∧ h' = lookH L')
    (hrest : ∀ h m, Args h m rest rest') (hv : ∀ x d' l' m' g, post x d' l' m' → x.ren g = x) (hN : N3 k ka km) {h : Hp} {K : V → Hp → Prop} (hk : h k = some (obSh bl (rowS d (.own ka ba 3 n) (mvN km bm m)))) (hka : h ka = some (obV ba (l.map encRev))) (hkm : h km = some (obMv bm m))
    (hK : ∀ x ba' bm' d' l' m', post x d' l' m' → K x (h.puts [(k, obSh bl (rowS d' (.own ka ba' 3 l'.length) (mvN km bm' m'))), (ka, obV ba' (l'.map encRev)), (km, obMv bm' m')])) : CallE Try.prog f (.ptr k (some bl) 47 0 0 :: rest) h K := by
  obtain ⟨n1, n2, n3⟩ := hN.ne
  have n1' : ¬ ka = k := fun e => n1 e.symm
  have n2' : ¬ km = k := fun e => n2 e.symm
  have n3' : ¬ km = ka := fun e => n3 e.symm
  have b0 : bal [(0, k), (1000001, ka), (1, km)] k = 0 := by simp [bal]
  have b1 : bal [(0, k), (1000001, ka), (1, km)] ka = 1000001 := by simp [bal, n1']
  have b2 : bal [(0, k), (1000001, ka), (1, km)] km = 1 := by simp [bal, n2', n3']
  have l0 : lab [(0, k), (1000001, ka), (1, km)] 0 = k := by simp [lab]
  have l1 : lab [(0, k), (1000001, ka), (1, km)] 1000001 = ka := by simp [lab]
  have l2 : lab [(0, k), (1000001, ka), (1, km)] 1 = km := by simp [lab]
  refine callN [(0, k), (1000001, ka), (1, km)] hs (.cons ?_ (hrest h _)) (by simp) (by simp [n1, n2, n3]) (by simp) (fun p hp => ?_) (fun p hp => ?_) ?_ ?_
  · have := Arg.same (h := h) (m := [(0, k), (1000001, ka), (1, km)]) (.ptr k (some bl) 47 0 0)
    simpa [V.ren, V.rl, b0] using this
  · simp only [S3, List.mem_cons, List.not_mem_nil, or_false] at hp
    rcases hp with rfl | rfl | rfl <;> simp
  · simp only [S3, List.mem_cons, List.not_mem_nil, or_false] at hp
    rcases hp with rfl | rfl | rfl
    · refine ⟨?_, rowS_fz (.own _ _ _ _) (mvN_fz _ _ _) bl⟩
      show (h (lab _ 0)).map _ = _
      rw [l0, hk, Option.map_some, obSh_ren, mvN_rl, b2]
      show some (obSh bl (rowS d (.own (bal _ ka) ba 3 n) _)) = _
      rw [b1]
    · refine ⟨?_, encRevs_fz _⟩
      show (h (lab _ 1000001)).map _ = _
      rw [l1, hka, Option.map_some, obV_ren]
    · refine ⟨?_, obMv_fz _ _⟩
      show (h (lab _ 1)).map _ = _
      rw [l2, hkm, Option.map_some, obMv_ren]
  · rintro v L' ⟨ba', bm', d', l', m', _, rfl⟩; rfl
  · rintro v L' ⟨ba', bm', d', l', m', hp, rfl⟩
    rw [hv v d' l' m' _ hp]
    have e : backL [(0, k), (1000001, ka), (1, km)] (Ob.ren (lab [(0, k), (1000001, ka), (1, km)])) (S3 bl d' ba' l'.length (l'.map encRev) bm' m') = [(k, obSh bl (rowS d' (.own ka ba' 3 l'.length) (mvN km bm' m'))), (ka, obV ba' (l'.map encRev)), (km, obMv bm' m')] := by
      simp only [backL, S3, List.zipWith_cons_cons, List.zipWith_nil_left, obSh_ren, obV_ren, obMv_ren, mvN_rl, l2]
      show [(k, obSh bl (rowS d' (.own (lab _ 1000001) ba' 3 l'.length) _)), _, _] = _
      rw [l1]
    rw [e]
    exact hK v ba' bm' d' l' m' hp
theorem ssubN : SSubN (CallE Try.prog) := by
  rintro k ka km bl d ba n rows l mv mo bm m base who seq h K ⟨rfl, rfl, rfl, rfl, hk, hka, hkm, hN⟩ hok hK
  refine callS3a (rest := [.agg [.int .i64 base, .int .i64 who, .int .i64 seq, .nilsl]]) (rest' := [.agg [.int .i64 base, .int .i64 who, .int .i64 seq, .sl false 3 (([] : List Part).map encPart)]]) (post := fun v d' l' m' => ∃ n e, v = .tup [.int .i64 n, .int .i64 e] ∧ ⟨d', l', n, e⟩ = subF d l m base who seq [] ∧ m' = m) (sp_ssub bl bm d ba l m base who seq [] ⟨Nat.zero_le _, fun p hp => by cases hp⟩ hok) (fun h m => ?_) (fun x d' l' m' g hp => ?_) hN hk hka hkm ?_
  · obtain ⟨a1, a2⟩ := arg_agg (h := h) (m := m) (l := [.int .i64 base, .int .i64 who, .int .i64 seq, .nilsl]) (l' := [.int .i64 base, .int .i64 who, .int .i64 seq, .sl false 3 []]) (.cons (.same _) (.cons (.same _) (.cons (.same _) (.cons (.nil _ _) .nil))))
    exact .cons (.agg _ _ a1 a2) .nil
  · obtain ⟨v, e, rfl, _⟩ := hp; rfl
  · rintro x ba' bm' d' l' m' ⟨v, e, rfl, hp, rfl⟩
    exact hK v e ba' d' l' _ _ bm' _ _ hp rfl rfl rfl rfl

theorem vc_tar (P : Prim) (hP : P = std) (T T1 : CallT) (hnew : SNewC T) (hbeg : Ans T 11 [] (.bool true)) (hsub : SSubC T) (hsubn : SSubN T) (hhd : SHeadC T) (htext : STextC T) (hsync : SSync3C T) (hkeep : SKeep3C T) (hstep : SStep3C T) (hbase : SBaseC T) (hsafe : SSafeC T) (hdisk : SDiskC T) (hopen : SOpenC T)
    (L : List (List Int)) (hLm : L.length ≤ 1048576) (rowsL : List (List V)) (hrowsL : rowsL = L.map fun c => [.sl false 1 (iRows c)]) (D : List (List Part)) (hD : D.length ≤ maxLen ∧ ∀ x ∈ D, PartsOk x) (rowsD : List (List V)) (hrowsD : rowsD = D.map fun x => [.sl false 3 (x.map encPart)])
    (aF : List Int → Nat → Int) (wF : Int → Int → Int) (hwb : ∀ n m, 0 < m → m ≤ 4611686018427387904 → 0 ≤ wF n m ∧ wF n m < m)
    (hat0 : ∀ c cs, c ∈ L → cs = iRows c → Ans T 27 [.sl false 1 cs, .int .i64 0] (.int .i64 (aF c 0)))
    (hat1 : ∀ c cs, c ∈ L → cs = iRows c → Ans T 27 [.sl false 1 cs, .int .i64 1] (.int .i64 (aF c 1)))
    (hat2 : ∀ c cs, c ∈ L → cs = iRows c → Ans T 27 [.sl false 1 cs, .int .i64 2] (.int .i64 (aF c 2)))
    (hat3 : ∀ c cs, c ∈ L → cs = iRows c → Ans T 27 [.sl false 1 cs, .int .i64 3] (.int .i64 (aF c 3)))
    (hwi : ∀ n m, 0 < m → m ≤ 4611686018427387904 → Ans T 26 [.int .i64 n, .int .i64 m] (.int .i64 (wF n m)))
    (hcr : ∀ a1 a2 b1 b2 k0 k1 c1 s1 c2 s2, diskT a1 a2 b1 b2 = 0 → c1 = cutN a1 a2 k0 → s1 = a1.take c1.toNat → c2 = cutN b1 b2 k1 → s2 = b1.take c2.toNat → Ans T 30 [.agg [.str a1, .int .i64 a2, .str b1, .int .i64 b2], .agg [.int .i64 k0, .int .i64 k1]] (.tup [.agg [.str s1, .int .i64 c1, .str s2, .int .i64 c2], .int .i64 0]))
    (R : S → Prop) (hR : ∀ s s' b, b = true → Ent s s' → Ret [.t 4] [.bool b] s' → R s) : awp P T T1 ac_tar (S0 [.sl false 1 rowsL, .sl false 1 rowsD] Hp.emp) R (fun _ _ => False) R := by
  have hl1 : P.rlen rowsL = (L.length : Int) := by rw [rlen_eq hP, hrowsL]; simp
  have hd1 : P.rlen rowsD = (D.length : Int) := by rw [rlen_eq hP, hrowsD]; simp
  have hmx : maxLen = 9223372036854775807 := by decide
  cbv
  repeat' (first
    | (refine And.intro (by first | assumption | decide) ?_; try cbv)
    | (intro β4; try cbv))
  refine hnew 900 1000900 _ _ rfl rfl rfl rfl fun bl d0 hd0 => ?_
  obtain ⟨a1, a2, a3, a4, a5⟩ := arc_new
  have a6 := fs_new
  rw [← hd0] at a1 a2 a3 a4 a5 a6
  cbv
  repeat' (first
    | (refine And.intro (by first | assumption | decide) ?_; try cbv)
    | (intro β4; try cbv))
  refine hbeg _ _ ?_
  cbv
  repeat' (first
    | (refine And.intro (by first | assumption | decide) ?_; try cbv)
    | (intro β4; try cbv))
  refine ⟨YA L, fun y => [(1, .sl false 1 rowsD), (5, .ptr 900 (some y.bl) 47 0 0), (6, .own 1000027 y.bt 1 y.nt), (28, .sl false 1 rowsL), (29, .int .i64 (P.rlen rowsL)), (30, .int .i64 y.k)],
    fun y => [(900, obSh y.bl (rowS y.d (.own 1000900 y.ba 3 y.n) y.mv)), (1000900, obV y.ba y.rows), (901, y.mo), (1000027, ⟨y.bt, 9, 1, y.rt⟩)], fun y => L.length - y.i,
    ⟨_, Ent.nilOb _ 901 124 3, ⟨bl, d0, [], none, none, 0, [], .nil, ⟨none, 124, 3, []⟩, 0, _, 1, [[.str []]], [[]], 0, 0, ⟨rfl, rfl, rfl, rfl, a1, rfl, rfl, by rw [a2]; rfl, fun r r1 r2 => ?_, by rw [a3]; decide, a6⟩, Nat.zero_le _, rfl⟩, ⟨rfl, rfl, rfl, rfl, rfl, rfl, trivial⟩, ⟨rfl, rfl, rfl, rfl, trivial⟩⟩, ?_⟩
  · rw [a2] at r2
    have r2 : (r : Int) ≤ 0 + ((0 : Nat) : Int) := r2
    have e : r = 0 := by ((try simp only [nc] at *); omega)
    subst e
    show some [] = some (nowG d0.tx _)
    rw [a5]
    show _ = some (nowG [] (([] : List Rev).take _))
    rw [List.take_nil]; rfl
  rintro ⟨bl, d, ls, m, ba, n, rows, mv, mo, bm, bt, nt, rt, tx, i, k, h, hi, hk⟩
  cbv
  have h : TA bl d ls m n rows mv mo bm nt rt tx i := h
  have hn := h.hn
  have hrows := h.hrows
  have hmv := h.hmv
  have hmo := h.hmo
  have harc := h.arc
  have hnt := h.hnt
  have hrt := h.hrt
  have htl := h.htl
  have htx := h.htx
  have hgn := h.hg
  have hfs := h.fs
  have hshok := harc.shOk
  have hlen := harc.len
  have hb4 : 0 ≤ d.b ∧ d.b ≤ 4294967295 := ⟨hshok.b.1, Int.le_trans hshok.b.2 (by decide)⟩
  have hmq : MQ mv := by rw [hmv]; exact mvN_mq _ _ _
  have hr1 : rtB 900 mv = true := by rw [hmv]; exact rt_mv rfl
  have hr2 : rt2B 900 1000900 mv = true := by rw [hmv]; exact rt2_mv rfl
  have hn2 : n ≤ 1000 := by rw [hn]; exact Nat.le_trans hshok.len (by decide)
  have hnl : (n : Int) = (ls.length : Int) := by rw [hn]
  have hni : (nt : Int) = d.b + (ls.length : Int) + 1 := by rw [hnt]; exact htl
  refine br_cases (fun g => ?_) (fun g => ?_)
  · have g1 : k < P.rlen rowsL := lt_t hP g
    rw [hl1] at g1
    have hil : i < L.length := by ((try simp only [nc] at *); omega)
    obtain ⟨c, hc⟩ : ∃ c, L[i]? = some c := ⟨_, List.getElem?_eq_getElem hil⟩
    have hcm := List.mem_of_getElem? hc
    have hrow : P.row rowsL (P.nat k) [.sl false 1 (iRows c)] := row_of hP hk (by rw [hrowsL, List.getElem?_map, hc]; rfl)
    obtain ⟨cs, hcs⟩ : ∃ cs, cs = iRows c := ⟨_, rfl⟩
    rw [← hcs] at hrow
    obtain ⟨x0, hx0⟩ : ∃ x, aF c 0 = x := ⟨_, rfl⟩
    obtain ⟨x1, hx1⟩ : ∃ x, aF c 1 = x := ⟨_, rfl⟩
    obtain ⟨x2, hx2⟩ : ∃ x, aF c 2 = x := ⟨_, rfl⟩
    obtain ⟨x3, hx3⟩ : ∃ x, aF c 3 = x := ⟨_, rfl⟩
    have at0 := hat0 c cs hcm hcs
    have at1 := hat1 c cs hcm hcs
    have at2 := hat2 c cs hcm hcs
    have at3 := hat3 c cs hcm hcs
    rw [hx0] at at0
    rw [hx1] at at1
    rw [hx2] at at2
    rw [hx3] at at3
    have w0 := hwi x0 5 (by decide) (by decide)
    obtain ⟨y0, hy0⟩ : ∃ y, wF x0 5 = y := ⟨_, rfl⟩
    rw [hy0] at w0
    have w1 := hwi x1 8 (by decide) (by decide)
    have w1b := hwb x1 8 (by decide) (by decide)
    obtain ⟨y1, hy1⟩ : ∃ y, wF x1 8 = y := ⟨_, rfl⟩
    rw [hy1] at w1 w1b
    clear hx0 hx1 hx2 hx3 hy0 hy1 hrowsL
    have q1 : P.leP 0 k := le0 hP (by rw [hk]; exact Int.natCast_nonneg _)
    have q2 : P.ltP k (P.rlen rowsL) := ltI hP (by rw [hl1]; exact g1)
    have q3 : P.i64 (P.add k 1) := by rw [add_eq hP]; exact i64I hP (by ((try simp only [nc] at *); omega))
    have q4 : P.add k 1 = ((i + 1 : Nat) : Int) := by rw [add_eq hP, hk]; simp
    cbv
    repeat' (first
    | (refine And.intro (by first | assumption | decide) ?_; try cbv)
    | (intro β4; try cbv))
    refine ⟨_, hrow, ?_⟩
    cbv
    repeat' (first
    | (refine And.intro (by first | assumption | decide) ?_; try cbv)
    | (intro β4; try cbv))
    refine br_cases (fun g => ?_) (fun g => ?_)
    focus
      have g2 : k < P.rlen rowsD := lt_t hP g
      rw [hd1] at g2
      have hid : i < D.length := by ((try simp only [nc] at *); omega)
      obtain ⟨x, hx⟩ : ∃ c, D[i]? = some c := ⟨_, List.getElem?_eq_getElem hid⟩
      have hxp := hD.2 x (List.mem_of_getElem? hx)
      have hrowd : P.row rowsD (P.nat k) [.sl false 3 (x.map encPart)] := row_of hP hk (by rw [hrowsD, List.getElem?_map, hx]; rfl)
      obtain ⟨dr, hdr⟩ : ∃ dr, dr = x.map encPart := ⟨_, rfl⟩
      rw [← hdr] at hrowd
      have q5 : P.ltP k (P.rlen rowsD) := ltI hP (by rw [hd1]; exact g2)
      cbv
      repeat' (first
    | (refine And.intro (by first | assumption | decide) ?_; try cbv)
    | (intro β4; try cbv))
      refine ⟨_, hrowd, ?_⟩
      cbv
      repeat' (first
    | (refine And.intro (by first | assumption | decide) ?_; try cbv)
    | (intro β4; try cbv))
      refine at0 _ _ ?_
      cbv
      repeat' (first
    | (refine And.intro (by first | assumption | decide) ?_; try cbv)
    | (intro β4; try cbv))
      refine w0 _ _ ?_
      cbv
      repeat' (first
    | (refine And.intro (by first | assumption | decide) ?_; try cbv)
    | (intro β4; try cbv))
      refine br_cases (fun g => ?_) (fun g => ?_)
      · clear g
        cbv
        repeat' (first
    | (refine And.intro (by first | assumption | decide) ?_; try cbv)
    | (intro β4; try cbv))
        refine at1 _ _ ?_
        cbv
        repeat' (first
    | (refine And.intro (by first | assumption | decide) ?_; try cbv)
    | (intro β4; try cbv))
        refine w1 _ _ ?_
        cbv
        repeat' (first
    | (refine And.intro (by first | assumption | decide) ?_; try cbv)
    | (intro β4; try cbv))
        refine at2 _ _ ?_
        cbv
        repeat' (first
    | (refine And.intro (by first | assumption | decide) ?_; try cbv)
    | (intro β4; try cbv))
        refine at3 _ _ ?_
        cbv
        repeat' (first
    | (refine And.intro (by first | assumption | decide) ?_; try cbv)
    | (intro β4; try cbv))
        refine hsub 900 1000900 901 bl d ba n rows ls mv mo bm m x3 y1 x2 x dr _ _ ⟨hn, hrows, hmv, hmo, rfl, rfl, rfl, N900⟩ hdr hxp hshok fun v e ba' d' l' n' rows' bm' mv' mo' hS hn' hrows' hmv' hmo' => ?_
        rcases sub_cases harc hfs x3 y1 x2 x w1b with ⟨v0, e0, h1, h2⟩ | ⟨r, h1, h2⟩
        · rw [h1] at hS
          obtain ⟨hd', hl', hv', he'⟩ : d' = d ∧ l' = ls ∧ v = v0 ∧ e = e0 := by cases hS; exact ⟨rfl, rfl, rfl, rfl⟩
          subst hd' hl' hv' he'
          have H2 : TA bl d' l' m n' rows' mv' mo' bm' nt rt tx (i + 1) := ⟨hn', hrows', hmv', hmo', harc, hnt, hrt, htl, htx, Int.le_trans hgn (by ((try simp only [nc] at *); omega)), hfs⟩
          have g4 : e = 0 → ¬ v = P.int nt := fun g => by rw [int_eq hP]; have := h2 g; ((try simp only [nc] at *); omega)
          cbv
          repeat' (first
    | (refine And.intro (by first | assumption | decide) ?_; try cbv)
    | (intro β4; try cbv))
          refine br_cases (fun g => ?_) (fun g => ?_)
          focus
            have g3 : e = 0 := eq_t hP g
            clear g
            cbv
            repeat' (first
    | (refine And.intro (by first | assumption | decide) ?_; try cbv)
    | (intro β4; try cbv))
            refine br_ff (eq_F hP (g4 g3)) ?_
            clear g3
          rotate_left
          focus
            clear g
          all_goals
            -- what is there: H2
            have hb4t : 0 ≤ d'.b ∧ d'.b ≤ 4294967295 := ⟨(H2.arc).shOk.b.1, Int.le_trans (H2.arc).shOk.b.2 (by decide)⟩
            have hlent := (H2.arc).len
            have hmqt : MQ mv' := by rw [H2.hmv]; exact mvN_mq _ _ _
            have hr1t : rtB 900 mv' = true := by rw [H2.hmv]; exact rt_mv rfl
            have hn2t : n' ≤ 1000 := by rw [H2.hn]; exact Nat.le_trans (H2.arc).shOk.len (by decide)
            have hnlt : (n' : Int) = (l'.length : Int) := by rw [H2.hn]
            have hntt : P.int nt = d'.b + (l'.length : Int) + 1 := by rw [int_eq hP, H2.hnt]; exact H2.htl
            have t1 : P.i64 (P.sub (P.int nt) 1) := by rw [sub_eq hP, hntt]; exact i64I hP (by ((try simp only [nc] at *); omega))
            have t2 : ∀ q, q = d'.b + (n' : Int) → q = P.sub (P.int nt) 1 := fun q hq => by rw [sub_eq hP, hntt, hq, hnlt]; ((try simp only [nc] at *); omega)
            cbv
            repeat' (first
    | (refine And.intro (by first | assumption | decide) ?_; try cbv)
    | (intro β4; try cbv))
            refine hhd 900 bl d' 1000900 ba' n' mv' _ _ hb4t hn2t hmqt.1 rfl hr1t rfl fun qh hqh => ?_
            cbv
            repeat' (first
    | (refine And.intro (by first | assumption | decide) ?_; try cbv)
    | (intro β4; try cbv))
            refine br_ff (ne_F hP (t2 _ hqh)) ?_
            cbv
            repeat' (first
    | (refine And.intro (by first | assumption | decide) ?_; try cbv)
    | (intro β4; try cbv))
            refine hbase 900 bl d' (.own 1000900 ba' 3 n') mv' _ _ ⟨⟨.own _ _ _ _, rfl⟩, hmqt.1⟩ rfl hr1t rfl ?_
            cbv
            repeat' (first
    | (refine And.intro (by first | assumption | decide) ?_; try cbv)
    | (intro β4; try cbv))
            refine ⟨YB d' l', fun y => [(1, .sl false 1 rowsD), (5, .ptr 900 (some bl) 47 0 0), (6, .own 1000027 bt 1 nt), (17, .int .i64 y.r), (28, .sl false 1 rowsL), (29, .int .i64 (P.rlen rowsL)), (30, .int .i64 k)],
              fun y => [(900, obSh bl (rowS d' (.own 1000900 ba' 3 n') mv')), (1000900, obV ba' rows'), (901, mo'), (1000027, ⟨bt, 9, 1, rt⟩)], fun y => (d'.b + (l'.length : Int) + 1 - y.r).toNat,
              ⟨_, Ent.refl _, ⟨d'.b, by ((try simp only [nc] at *); omega), by ((try simp only [nc] at *); omega)⟩, ⟨rfl, rfl, rfl, rfl, rfl, rfl, rfl, trivial⟩, ⟨rfl, rfl, rfl, rfl, trivial⟩⟩, ?_⟩
            rintro ⟨r, hr⟩
            cbv
            have hr : d'.b ≤ r ∧ r ≤ d'.b + (l'.length : Int) + 1 := hr
            have hr3 : rtB 900 mv' = true := by rw [H2.hmv]; exact rt_mv rfl
            have hr4 : rt2B 900 1000900 mv' = true := by rw [H2.hmv]; exact rt2_mv rfl
            repeat' (first
    | (refine And.intro (by first | assumption | decide) ?_; try cbv)
    | (intro β4; try cbv))
            refine hhd 900 bl d' 1000900 ba' n' mv' _ _ hb4t hn2t hmqt.1 rfl hr3 rfl fun qh2 hqh2 => ?_
            cbv
            repeat' (first
    | (refine And.intro (by first | assumption | decide) ?_; try cbv)
    | (intro β4; try cbv))
            refine br_cases (fun g => ?_) (fun g => ?_)
            · have g9 : r ≤ qh2 := le_t hP g
              rw [hqh2, hnlt] at g9
              have hst := stext_at (H2.arc) (f := r) ⟨hr.1, g9⟩
              obtain ⟨rn, hrn⟩ : ∃ a : Nat, r = (a : Int) := ⟨r.toNat, by ((try simp only [nc] at *); omega)⟩
              have htr := (H2).htx rn (by rw [← hrn]; exact hr.1) (by rw [← hrn]; exact g9)
              rw [← hrn] at htr
              obtain ⟨tt, htt⟩ : ∃ t, txtAt d' l' r = t := ⟨_, rfl⟩
              rw [htt] at hst htr
              have hrowt : P.row rt (P.nat r) [.str tt] := row_of hP hrn (by rw [(H2).hrt, strRows, List.getElem?_map, htr]; rfl)
              have u1 : P.leP 0 r := le0 hP (by rw [hrn]; exact Int.natCast_nonneg _)
              have u2 : P.ltP r (P.int nt) := ltI hP (by rw [int_eq hP]; have := (H2).hnt; have := (H2).htl; ((try simp only [nc] at *); omega))
              have u3 : P.i64 (P.add r 1) := by rw [add_eq hP]; exact i64I hP (by ((try simp only [nc] at *); omega))
              cbv
              repeat' (first
    | (refine And.intro (by first | assumption | decide) ?_; try cbv)
    | (intro β4; try cbv))
              refine htext 900 1000900 bl d' ba' n' rows' l' mv' r _ _ H2.hrows H2.hn (H2.arc).shOk.rv hb4t (by rw [← H2.hn]; exact hn2t) hmqt rfl hr4 rfl rfl fun x' y' hx' hy' => ?_
              rw [hst] at hx' hy'
              have hx' : x' = tt := hx'
              have hy' : y' = 0 := hy'
              subst hx'
              cbv
              repeat' (first
    | (refine And.intro (by first | assumption | decide) ?_; try cbv)
    | (intro β4; try cbv))
              refine br_ff (ne_F hP hy') ?_
              cbv
              repeat' (first
    | (refine And.intro (by first | assumption | decide) ?_; try cbv)
    | (intro β4; try cbv))
              refine ⟨_, hrowt, ?_⟩
              cbv
              repeat' (first
    | (refine And.intro (by first | assumption | decide) ?_; try cbv)
    | (intro β4; try cbv))
              refine br_ff (sne_F hP rfl) ?_
              cbv
              repeat' (first
    | (refine And.intro (by first | assumption | decide) ?_; try cbv)
    | (intro β4; try cbv))
              refine ⟨_, Ent.refl _, ⟨P.add r 1, by rw [add_eq hP]; ((try simp only [nc] at *); omega)⟩, ⟨rfl, rfl, rfl, rfl, rfl, rfl, rfl, trivial⟩, ⟨rfl, rfl, rfl, rfl, trivial⟩, ?_⟩
              show (d'.b + (l'.length : Int) + 1 - P.add r 1).toNat < (d'.b + (l'.length : Int) + 1 - r).toNat
              rw [add_eq hP]; ((try simp only [nc] at *); omega)
            cbv
            repeat' (first
    | (refine And.intro (by first | assumption | decide) ?_; try cbv)
    | (intro β4; try cbv))
            refine ⟨_, Ent.refl _, ⟨bl, d', l', m, ba', n', rows', mv', mo', bm', bt, nt, rt, tx, i + 1, _, H2, hil, q4⟩, ⟨rfl, rfl, rfl, rfl, rfl, rfl, trivial⟩, ⟨rfl, rfl, rfl, rfl, trivial⟩, ?_⟩
            show L.length - (i + 1) < L.length - i; ((try simp only [nc] at *); omega)
        · rw [h2] at hS
          obtain ⟨u1, u2, u3, u4, u5, u6, u7, u8, u9⟩ := arc_add harc h1
          rw [← hS] at u1 u2 u3 u4 u5 u6 u7 u8 u9
          have u1 : e = 0 := u1
          have u2 : l' = ls ++ [r] := u2
          have u3 : v = d.b + (ls.length : Int) + 1 := u3
          have u4 : d'.b = d.b := u4
          have u5 : d'.tx = d.tx := u5
          have u6 : d'.gn = d.gn := u6
          have u8 : d'.fs = d.fs := u8
          have u9 : Arc d' (ls ++ [r]) m := u9
          rw [← u2] at u9
          have hlen2 := u9.len
          have hll : (l'.length : Int) = (ls.length : Int) + 1 := by rw [u2, List.length_append]; rfl
          have hb42 : 0 ≤ d'.b ∧ d'.b ≤ 4294967295 := ⟨u9.shOk.b.1, Int.le_trans u9.shOk.b.2 (by decide)⟩
          have hmq2 : MQ mv' := by rw [hmv']; exact mvN_mq _ _ _
          have hr22 : rt2B 900 1000900 mv' = true := by rw [hmv']; exact rt2_mv rfl
          have hn22 : l'.length ≤ 1000 := Nat.le_trans u9.shOk.len (by decide)
          have hst := stext_at u9 (f := v) ⟨by ((try simp only [nc] at *); omega), by ((try simp only [nc] at *); omega)⟩
          obtain ⟨s1, s2⟩ := snoc_tx (r := r) u4 u5 hlen.2.2 htl htx
          rw [← u2, ← u3] at s1 s2
          obtain ⟨tn, htn⟩ : ∃ t, txtAt d' l' v = t := ⟨_, rfl⟩
          rw [htn] at hst s1 s2
          have f4 : P.neP rt nt := neP_of hP _ _ (by rw [hrt, hnt]; simp [strRows])
          have f5 : ∀ r, P.bytes (P.add (P.int nt) (P.rlen [r])) 16 := by intro r; subst hP; show ((nt : Int) + 1) * 16 ≤ _; ((try simp only [nc] at *); omega)
          have f6 : ∀ r, P.neP [r] 1 := by intro r; subst hP; rfl
          have f7 : ∀ r, P.rapp rt [r] = rt ++ [r] := by intro r; subst hP; rfl
          have f8 : ∀ r : List V, P.nadd nt (P.rlenN [r]) = nt + 1 := by intro r; subst hP; rfl
          have H2 : TA bl d' l' m n' rows' mv' mo' bm' (P.nadd nt (P.rlenN [[V.str tn]])) (P.rapp rt [[V.str tn]]) (tx ++ [tn]) (i + 1) := ⟨hn', hrows', hmv', hmo', u9, by rw [f8, hnt, List.length_append]; rfl, by rw [f7, hrt]; simp [strRows], s1, s2, by rw [u6]; exact Int.le_trans hgn (by ((try simp only [nc] at *); omega)), fun w hw => by rw [u8, u4]; exact hfs w hw⟩
          have g5 : v = P.int nt := by rw [int_eq hP]; ((try simp only [nc] at *); omega)
          cbv
          repeat' (first
    | (refine And.intro (by first | assumption | decide) ?_; try cbv)
    | (intro β4; try cbv))
          refine br_tt (eq_T hP u1) ?_
          cbv
          repeat' (first
    | (refine And.intro (by first | assumption | decide) ?_; try cbv)
    | (intro β4; try cbv))
          refine br_tt (eq_T hP g5) ?_
          cbv
          repeat' (first
    | (refine And.intro (by first | assumption | decide) ?_; try cbv)
    | (intro β4; try cbv))
          refine htext 900 1000900 bl d' ba' n' rows' l' mv' v _ _ hrows' hn' u9.shOk.rv hb42 hn22 hmq2 rfl hr22 rfl rfl fun x' y' hx' hy' => ?_
          rw [hst] at hx' hy'
          have hx' : x' = tn := hx'
          have hy' : y' = 0 := hy'
          subst hx'
          cbv
          repeat' (first
    | (refine And.intro (by first | assumption | decide) ?_; try cbv)
    | (intro β4; try cbv))
          refine br_ff (ne_F hP hy') ?_
          cbv
          repeat' (first
            | (refine And.intro (by first | assumption | decide | exact f6 _ | exact f5 _) ?_; try cbv)
            | (intro β5; try cbv))
          -- what is there: H2
          have hb4t : 0 ≤ d'.b ∧ d'.b ≤ 4294967295 := ⟨(H2.arc).shOk.b.1, Int.le_trans (H2.arc).shOk.b.2 (by decide)⟩
          have hlent := (H2.arc).len
          have hmqt : MQ mv' := by rw [H2.hmv]; exact mvN_mq _ _ _
          have hr1t : rtB 900 mv' = true := by rw [H2.hmv]; exact rt_mv rfl
          have hn2t : n' ≤ 1000 := by rw [H2.hn]; exact Nat.le_trans (H2.arc).shOk.len (by decide)
          have hnlt : (n' : Int) = (l'.length : Int) := by rw [H2.hn]
          have hntt : P.int (P.nadd nt (P.rlenN [[V.str x']])) = d'.b + (l'.length : Int) + 1 := by rw [int_eq hP, H2.hnt]; exact H2.htl
          have t1 : P.i64 (P.sub (P.int (P.nadd nt (P.rlenN [[V.str x']]))) 1) := by rw [sub_eq hP, hntt]; exact i64I hP (by ((try simp only [nc] at *); omega))
          have t2 : ∀ q, q = d'.b + (n' : Int) → q = P.sub (P.int (P.nadd nt (P.rlenN [[V.str x']]))) 1 := fun q hq => by rw [sub_eq hP, hntt, hq, hnlt]; ((try simp only [nc] at *); omega)
          cbv
          repeat' (first
    | (refine And.intro (by first | assumption | decide) ?_; try cbv)
    | (intro β4; try cbv))
          refine hhd 900 bl d' 1000900 ba' n' mv' _ _ hb4t hn2t hmqt.1 rfl hr1t rfl fun qh hqh => ?_
          cbv
          repeat' (first
    | (refine And.intro (by first | assumption | decide) ?_; try cbv)
    | (intro β4; try cbv))
          refine br_ff (ne_F hP (t2 _ hqh)) ?_
          cbv
          repeat' (first
    | (refine And.intro (by first | assumption | decide) ?_; try cbv)
    | (intro β4; try cbv))
          refine hbase 900 bl d' (.own 1000900 ba' 3 n') mv' _ _ ⟨⟨.own _ _ _ _, rfl⟩, hmqt.1⟩ rfl hr1t rfl ?_
          cbv
          repeat' (first
    | (refine And.intro (by first | assumption | decide) ?_; try cbv)
    | (intro β4; try cbv))
          refine ⟨YB d' l', fun y => [(1, .sl false 1 rowsD), (5, .ptr 900 (some bl) 47 0 0), (6, .own 1000027 _ 1 (P.nadd nt (P.rlenN [[V.str x']]))), (17, .int .i64 y.r), (28, .sl false 1 rowsL), (29, .int .i64 (P.rlen rowsL)), (30, .int .i64 k)],
            fun y => [(900, obSh bl (rowS d' (.own 1000900 ba' 3 n') mv')), (1000900, obV ba' rows'), (901, mo'), (1000027, ⟨_, 9, 1, (P.rapp rt [[V.str x']])⟩)], fun y => (d'.b + (l'.length : Int) + 1 - y.r).toNat,
            ⟨_, Ent.refl _, ⟨d'.b, by ((try simp only [nc] at *); omega), by ((try simp only [nc] at *); omega)⟩, ⟨rfl, rfl, rfl, rfl, rfl, rfl, rfl, trivial⟩, ⟨rfl, rfl, rfl, rfl, trivial⟩⟩, ?_⟩
          rintro ⟨r, hr⟩
          cbv
          have hr : d'.b ≤ r ∧ r ≤ d'.b + (l'.length : Int) + 1 := hr
          have hr3 : rtB 900 mv' = true := by rw [H2.hmv]; exact rt_mv rfl
          have hr4 : rt2B 900 1000900 mv' = true := by rw [H2.hmv]; exact rt2_mv rfl
          repeat' (first
    | (refine And.intro (by first | assumption | decide) ?_; try cbv)
    | (intro β4; try cbv))
          refine hhd 900 bl d' 1000900 ba' n' mv' _ _ hb4t hn2t hmqt.1 rfl hr3 rfl fun qh2 hqh2 => ?_
          cbv
          repeat' (first
    | (refine And.intro (by first | assumption | decide) ?_; try cbv)
    | (intro β4; try cbv))
          refine br_cases (fun g => ?_) (fun g => ?_)
          · have g9 : r ≤ qh2 := le_t hP g
            rw [hqh2, hnlt] at g9
            have hst := stext_at (H2.arc) (f := r) ⟨hr.1, g9⟩
            obtain ⟨rn, hrn⟩ : ∃ a : Nat, r = (a : Int) := ⟨r.toNat, by ((try simp only [nc] at *); omega)⟩
            have htr := (H2).htx rn (by rw [← hrn]; exact hr.1) (by rw [← hrn]; exact g9)
            rw [← hrn] at htr
            obtain ⟨tt, htt⟩ : ∃ t, txtAt d' l' r = t := ⟨_, rfl⟩
            rw [htt] at hst htr
            have hrowt : P.row (P.rapp rt [[V.str x']]) (P.nat r) [.str tt] := row_of hP hrn (by rw [(H2).hrt, strRows, List.getElem?_map, htr]; rfl)
            have u1 : P.leP 0 r := le0 hP (by rw [hrn]; exact Int.natCast_nonneg _)
            have u2 : P.ltP r (P.int (P.nadd nt (P.rlenN [[V.str x']]))) := ltI hP (by rw [int_eq hP]; have := (H2).hnt; have := (H2).htl; ((try simp only [nc] at *); omega))
            have u3 : P.i64 (P.add r 1) := by rw [add_eq hP]; exact i64I hP (by ((try simp only [nc] at *); omega))
            cbv
            repeat' (first
    | (refine And.intro (by first | assumption | decide) ?_; try cbv)
    | (intro β4; try cbv))
            refine htext 900 1000900 bl d' ba' n' rows' l' mv' r _ _ H2.hrows H2.hn (H2.arc).shOk.rv hb4t (by rw [← H2.hn]; exact hn2t) hmqt rfl hr4 rfl rfl fun x' y' hx' hy' => ?_
            rw [hst] at hx' hy'
            have hx' : x' = tt := hx'
            have hy' : y' = 0 := hy'
            subst hx'
            cbv
            repeat' (first
    | (refine And.intro (by first | assumption | decide) ?_; try cbv)
    | (intro β4; try cbv))
            refine br_ff (ne_F hP hy') ?_
            cbv
            repeat' (first
    | (refine And.intro (by first | assumption | decide) ?_; try cbv)
    | (intro β4; try cbv))
            refine ⟨_, hrowt, ?_⟩
            cbv
            repeat' (first
    | (refine And.intro (by first | assumption | decide) ?_; try cbv)
    | (intro β4; try cbv))
            refine br_ff (sne_F hP rfl) ?_
            cbv
            repeat' (first
    | (refine And.intro (by first | assumption | decide) ?_; try cbv)
    | (intro β4; try cbv))
            refine ⟨_, Ent.refl _, ⟨P.add r 1, by rw [add_eq hP]; ((try simp only [nc] at *); omega)⟩, ⟨rfl, rfl, rfl, rfl, rfl, rfl, rfl, trivial⟩, ⟨rfl, rfl, rfl, rfl, trivial⟩, ?_⟩
            show (d'.b + (l'.length : Int) + 1 - P.add r 1).toNat < (d'.b + (l'.length : Int) + 1 - r).toNat
            rw [add_eq hP]; ((try simp only [nc] at *); omega)
          cbv
          repeat' (first
    | (refine And.intro (by first | assumption | decide) ?_; try cbv)
    | (intro β4; try cbv))
          refine ⟨_, Ent.refl _, ⟨bl, d', l', m, ba', n', rows', mv', mo', bm', _, (P.nadd nt (P.rlenN [[V.str x']])), (P.rapp rt [[V.str x']]), (tx ++ [x']), i + 1, _, H2, hil, q4⟩, ⟨rfl, rfl, rfl, rfl, rfl, rfl, trivial⟩, ⟨rfl, rfl, rfl, rfl, trivial⟩, ?_⟩
          show L.length - (i + 1) < L.length - i; ((try simp only [nc] at *); omega)
    rotate_left
    focus
      clear g
      cbv
      repeat' (first
    | (refine And.intro (by first | assumption | decide) ?_; try cbv)
    | (intro β4; try cbv))
      refine at0 _ _ ?_
      cbv
      repeat' (first
    | (refine And.intro (by first | assumption | decide) ?_; try cbv)
    | (intro β4; try cbv))
      refine w0 _ _ ?_
      cbv
      repeat' (first
    | (refine And.intro (by first | assumption | decide) ?_; try cbv)
    | (intro β4; try cbv))
      refine br_cases (fun g => ?_) (fun g => ?_)
      · clear g
        cbv
        repeat' (first
    | (refine And.intro (by first | assumption | decide) ?_; try cbv)
    | (intro β4; try cbv))
        refine at1 _ _ ?_
        cbv
        repeat' (first
    | (refine And.intro (by first | assumption | decide) ?_; try cbv)
    | (intro β4; try cbv))
        refine w1 _ _ ?_
        cbv
        repeat' (first
    | (refine And.intro (by first | assumption | decide) ?_; try cbv)
    | (intro β4; try cbv))
        refine at2 _ _ ?_
        cbv
        repeat' (first
    | (refine And.intro (by first | assumption | decide) ?_; try cbv)
    | (intro β4; try cbv))
        refine at3 _ _ ?_
        cbv
        repeat' (first
    | (refine And.intro (by first | assumption | decide) ?_; try cbv)
    | (intro β4; try cbv))
        refine hsubn 900 1000900 901 bl d ba n rows ls mv mo bm m x3 y1 x2 _ _ ⟨hn, hrows, hmv, hmo, rfl, rfl, rfl, N900⟩ hshok fun v e ba' d' l' n' rows' bm' mv' mo' hS hn' hrows' hmv' hmo' => ?_
        rcases sub_cases harc hfs x3 y1 x2 [] w1b with ⟨v0, e0, h1, h2⟩ | ⟨r, h1, h2⟩
        · rw [h1] at hS
          obtain ⟨hd', hl', hv', he'⟩ : d' = d ∧ l' = ls ∧ v = v0 ∧ e = e0 := by cases hS; exact ⟨rfl, rfl, rfl, rfl⟩
          subst hd' hl' hv' he'
          have H2 : TA bl d' l' m n' rows' mv' mo' bm' nt rt tx (i + 1) := ⟨hn', hrows', hmv', hmo', harc, hnt, hrt, htl, htx, Int.le_trans hgn (by ((try simp only [nc] at *); omega)), hfs⟩
          have g4 : e = 0 → ¬ v = P.int nt := fun g => by rw [int_eq hP]; have := h2 g; ((try simp only [nc] at *); omega)
          cbv
          repeat' (first
    | (refine And.intro (by first | assumption | decide) ?_; try cbv)
    | (intro β4; try cbv))
          refine br_cases (fun g => ?_) (fun g => ?_)
          focus
            have g3 : e = 0 := eq_t hP g
            clear g
            cbv
            repeat' (first
    | (refine And.intro (by first | assumption | decide) ?_; try cbv)
    | (intro β4; try cbv))
            refine br_ff (eq_F hP (g4 g3)) ?_
            clear g3
          rotate_left
          focus
            clear g
          all_goals
            -- what is there: H2
            have hb4t : 0 ≤ d'.b ∧ d'.b ≤ 4294967295 := ⟨(H2.arc).shOk.b.1, Int.le_trans (H2.arc).shOk.b.2 (by decide)⟩
            have hlent := (H2.arc).len
            have hmqt : MQ mv' := by rw [H2.hmv]; exact mvN_mq _ _ _
            have hr1t : rtB 900 mv' = true := by rw [H2.hmv]; exact rt_mv rfl
            have hn2t : n' ≤ 1000 := by rw [H2.hn]; exact Nat.le_trans (H2.arc).shOk.len (by decide)
            have hnlt : (n' : Int) = (l'.length : Int) := by rw [H2.hn]
            have hntt : P.int nt = d'.b + (l'.length : Int) + 1 := by rw [int_eq hP, H2.hnt]; exact H2.htl
            have t1 : P.i64 (P.sub (P.int nt) 1) := by rw [sub_eq hP, hntt]; exact i64I hP (by ((try simp only [nc] at *); omega))
            have t2 : ∀ q, q = d'.b + (n' : Int) → q = P.sub (P.int nt) 1 := fun q hq => by rw [sub_eq hP, hntt, hq, hnlt]; ((try simp only [nc] at *); omega)
            cbv
            repeat' (first
    | (refine And.intro (by first | assumption | decide) ?_; try cbv)
    | (intro β4; try cbv))
            refine hhd 900 bl d' 1000900 ba' n' mv' _ _ hb4t hn2t hmqt.1 rfl hr1t rfl fun qh hqh => ?_
            cbv
            repeat' (first
    | (refine And.intro (by first | assumption | decide) ?_; try cbv)
    | (intro β4; try cbv))
            refine br_ff (ne_F hP (t2 _ hqh)) ?_
            cbv
            repeat' (first
    | (refine And.intro (by first | assumption | decide) ?_; try cbv)
    | (intro β4; try cbv))
            refine hbase 900 bl d' (.own 1000900 ba' 3 n') mv' _ _ ⟨⟨.own _ _ _ _, rfl⟩, hmqt.1⟩ rfl hr1t rfl ?_
            cbv
            repeat' (first
    | (refine And.intro (by first | assumption | decide) ?_; try cbv)
    | (intro β4; try cbv))
            refine ⟨YB d' l', fun y => [(1, .sl false 1 rowsD), (5, .ptr 900 (some bl) 47 0 0), (6, .own 1000027 bt 1 nt), (17, .int .i64 y.r), (28, .sl false 1 rowsL), (29, .int .i64 (P.rlen rowsL)), (30, .int .i64 k)],
              fun y => [(900, obSh bl (rowS d' (.own 1000900 ba' 3 n') mv')), (1000900, obV ba' rows'), (901, mo'), (1000027, ⟨bt, 9, 1, rt⟩)], fun y => (d'.b + (l'.length : Int) + 1 - y.r).toNat,
              ⟨_, Ent.refl _, ⟨d'.b, by ((try simp only [nc] at *); omega), by ((try simp only [nc] at *); omega)⟩, ⟨rfl, rfl, rfl, rfl, rfl, rfl, rfl, trivial⟩, ⟨rfl, rfl, rfl, rfl, trivial⟩⟩, ?_⟩
            rintro ⟨r, hr⟩
            cbv
            have hr : d'.b ≤ r ∧ r ≤ d'.b + (l'.length : Int) + 1 := hr
            have hr3 : rtB 900 mv' = true := by rw [H2.hmv]; exact rt_mv rfl
            have hr4 : rt2B 900 1000900 mv' = true := by rw [H2.hmv]; exact rt2_mv rfl
            repeat' (first
    | (refine And.intro (by first | assumption | decide) ?_; try cbv)
    | (intro β4; try cbv))
            refine hhd 900 bl d' 1000900 ba' n' mv' _ _ hb4t hn2t hmqt.1 rfl hr3 rfl fun qh2 hqh2 => ?_
            cbv
            repeat' (first
    | (refine And.intro (by first | assumption | decide) ?_; try cbv)
    | (intro β4; try cbv))
            refine br_cases (fun g => ?_) (fun g => ?_)
            · have g9 : r ≤ qh2 := le_t hP g
              rw [hqh2, hnlt] at g9
              have hst := stext_at (H2.arc) (f := r) ⟨hr.1, g9⟩
              obtain ⟨rn, hrn⟩ : ∃ a : Nat, r = (a : Int) := ⟨r.toNat, by ((try simp only [nc] at *); omega)⟩
              have htr := (H2).htx rn (by rw [← hrn]; exact hr.1) (by rw [← hrn]; exact g9)
              rw [← hrn] at htr
              obtain ⟨tt, htt⟩ : ∃ t, txtAt d' l' r = t := ⟨_, rfl⟩
              rw [htt] at hst htr
              have hrowt : P.row rt (P.nat r) [.str tt] := row_of hP hrn (by rw [(H2).hrt, strRows, List.getElem?_map, htr]; rfl)
              have u1 : P.leP 0 r := le0 hP (by rw [hrn]; exact Int.natCast_nonneg _)
              have u2 : P.ltP r (P.int nt) := ltI hP (by rw [int_eq hP]; have := (H2).hnt; have := (H2).htl; ((try simp only [nc] at *); omega))
              have u3 : P.i64 (P.add r 1) := by rw [add_eq hP]; exact i64I hP (by ((try simp only [nc] at *); omega))
              cbv
              repeat' (first
    | (refine And.intro (by first | assumption | decide) ?_; try cbv)
    | (intro β4; try cbv))
              refine htext 900 1000900 bl d' ba' n' rows' l' mv' r _ _ H2.hrows H2.hn (H2.arc).shOk.rv hb4t (by rw [← H2.hn]; exact hn2t) hmqt rfl hr4 rfl rfl fun x' y' hx' hy' => ?_
              rw [hst] at hx' hy'
              have hx' : x' = tt := hx'
              have hy' : y' = 0 := hy'
              subst hx'
              cbv
              repeat' (first
    | (refine And.intro (by first | assumption | decide) ?_; try cbv)
    | (intro β4; try cbv))
              refine br_ff (ne_F hP hy') ?_
              cbv
              repeat' (first
    | (refine And.intro (by first | assumption | decide) ?_; try cbv)
    | (intro β4; try cbv))
              refine ⟨_, hrowt, ?_⟩
              cbv
              repeat' (first
    | (refine And.intro (by first | assumption | decide) ?_; try cbv)
    | (intro β4; try cbv))
              refine br_ff (sne_F hP rfl) ?_
              cbv
              repeat' (first
    | (refine And.intro (by first | assumption | decide) ?_; try cbv)
    | (intro β4; try cbv))
              refine ⟨_, Ent.refl _, ⟨P.add r 1, by rw [add_eq hP]; ((try simp only [nc] at *); omega)⟩, ⟨rfl, rfl, rfl, rfl, rfl, rfl, rfl, trivial⟩, ⟨rfl, rfl, rfl, rfl, trivial⟩, ?_⟩
              show (d'.b + (l'.length : Int) + 1 - P.add r 1).toNat < (d'.b + (l'.length : Int) + 1 - r).toNat
              rw [add_eq hP]; ((try simp only [nc] at *); omega)
            cbv
            repeat' (first
    | (refine And.intro (by first | assumption | decide) ?_; try cbv)
    | (intro β4; try cbv))
            refine ⟨_, Ent.refl _, ⟨bl, d', l', m, ba', n', rows', mv', mo', bm', bt, nt, rt, tx, i + 1, _, H2, hil, q4⟩, ⟨rfl, rfl, rfl, rfl, rfl, rfl, trivial⟩, ⟨rfl, rfl, rfl, rfl, trivial⟩, ?_⟩
            show L.length - (i + 1) < L.length - i; ((try simp only [nc] at *); omega)
        · rw [h2] at hS
          obtain ⟨u1, u2, u3, u4, u5, u6, u7, u8, u9⟩ := arc_add harc h1
          rw [← hS] at u1 u2 u3 u4 u5 u6 u7 u8 u9
          have u1 : e = 0 := u1
          have u2 : l' = ls ++ [r] := u2
          have u3 : v = d.b + (ls.length : Int) + 1 := u3
          have u4 : d'.b = d.b := u4
          have u5 : d'.tx = d.tx := u5
          have u6 : d'.gn = d.gn := u6
          have u8 : d'.fs = d.fs := u8
          have u9 : Arc d' (ls ++ [r]) m := u9
          rw [← u2] at u9
          have hlen2 := u9.len
          have hll : (l'.length : Int) = (ls.length : Int) + 1 := by rw [u2, List.length_append]; rfl
          have hb42 : 0 ≤ d'.b ∧ d'.b ≤ 4294967295 := ⟨u9.shOk.b.1, Int.le_trans u9.shOk.b.2 (by decide)⟩
          have hmq2 : MQ mv' := by rw [hmv']; exact mvN_mq _ _ _
          have hr22 : rt2B 900 1000900 mv' = true := by rw [hmv']; exact rt2_mv rfl
          have hn22 : l'.length ≤ 1000 := Nat.le_trans u9.shOk.len (by decide)
          have hst := stext_at u9 (f := v) ⟨by ((try simp only [nc] at *); omega), by ((try simp only [nc] at *); omega)⟩
          obtain ⟨s1, s2⟩ := snoc_tx (r := r) u4 u5 hlen.2.2 htl htx
          rw [← u2, ← u3] at s1 s2
          obtain ⟨tn, htn⟩ : ∃ t, txtAt d' l' v = t := ⟨_, rfl⟩
          rw [htn] at hst s1 s2
          have f4 : P.neP rt nt := neP_of hP _ _ (by rw [hrt, hnt]; simp [strRows])
          have f5 : ∀ r, P.bytes (P.add (P.int nt) (P.rlen [r])) 16 := by intro r; subst hP; show ((nt : Int) + 1) * 16 ≤ _; ((try simp only [nc] at *); omega)
          have f6 : ∀ r, P.neP [r] 1 := by intro r; subst hP; rfl
          have f7 : ∀ r, P.rapp rt [r] = rt ++ [r] := by intro r; subst hP; rfl
          have f8 : ∀ r : List V, P.nadd nt (P.rlenN [r]) = nt + 1 := by intro r; subst hP; rfl
          have H2 : TA bl d' l' m n' rows' mv' mo' bm' (P.nadd nt (P.rlenN [[V.str tn]])) (P.rapp rt [[V.str tn]]) (tx ++ [tn]) (i + 1) := ⟨hn', hrows', hmv', hmo', u9, by rw [f8, hnt, List.length_append]; rfl, by rw [f7, hrt]; simp [strRows], s1, s2, by rw [u6]; exact Int.le_trans hgn (by ((try simp only [nc] at *); omega)), fun w hw => by rw [u8, u4]; exact hfs w hw⟩
          have g5 : v = P.int nt := by rw [int_eq hP]; ((try simp only [nc] at *); omega)
          cbv
          repeat' (first
    | (refine And.intro (by first | assumption | decide) ?_; try cbv)
    | (intro β4; try cbv))
          refine br_tt (eq_T hP u1) ?_
          cbv
          repeat' (first
    | (refine And.intro (by first | assumption | decide) ?_; try cbv)
    | (intro β4; try cbv))
          refine br_tt (eq_T hP g5) ?_
          cbv
          repeat' (first
    | (refine And.intro (by first | assumption | decide) ?_; try cbv)
    | (intro β4; try cbv))
          refine htext 900 1000900 bl d' ba' n' rows' l' mv' v _ _ hrows' hn' u9.shOk.rv hb42 hn22 hmq2 rfl hr22 rfl rfl fun x' y' hx' hy' => ?_
          rw [hst] at hx' hy'
          have hx' : x' = tn := hx'
          have hy' : y' = 0 := hy'
          subst hx'
          cbv
          repeat' (first
    | (refine And.intro (by first | assumption | decide) ?_; try cbv)
    | (intro β4; try cbv))
          refine br_ff (ne_F hP hy') ?_
          cbv
          repeat' (first
            | (refine And.intro (by first | assumption | decide | exact f6 _ | exact f5 _) ?_; try cbv)
            | (intro β5; try cbv))
          -- what is there: H2
          have hb4t : 0 ≤ d'.b ∧ d'.b ≤ 4294967295 := ⟨(H2.arc).shOk.b.1, Int.le_trans (H2.arc).shOk.b.2 (by decide)⟩
          have hlent := (H2.arc).len
          have hmqt : MQ mv' := by rw [H2.hmv]; exact mvN_mq _ _ _
          have hr1t : rtB 900 mv' = true := by rw [H2.hmv]; exact rt_mv rfl
          have hn2t : n' ≤ 1000 := by rw [H2.hn]; exact Nat.le_trans (H2.arc).shOk.len (by decide)
          have hnlt : (n' : Int) = (l'.length : Int) := by rw [H2.hn]
          have hntt : P.int (P.nadd nt (P.rlenN [[V.str x']])) = d'.b + (l'.length : Int) + 1 := by rw [int_eq hP, H2.hnt]; exact H2.htl
          have t1 : P.i64 (P.sub (P.int (P.nadd nt (P.rlenN [[V.str x']]))) 1) := by rw [sub_eq hP, hntt]; exact i64I hP (by ((try simp only [nc] at *); omega))
          have t2 : ∀ q, q = d'.b + (n' : Int) → q = P.sub (P.int (P.nadd nt (P.rlenN [[V.str x']]))) 1 := fun q hq => by rw [sub_eq hP, hntt, hq, hnlt]; ((try simp only [nc] at *); omega)
          cbv
          repeat' (first
    | (refine And.intro (by first | assumption | decide) ?_; try cbv)
    | (intro β4; try cbv))
          refine hhd 900 bl d' 1000900 ba' n' mv' _ _ hb4t hn2t hmqt.1 rfl hr1t rfl fun qh hqh => ?_
          cbv
          repeat' (first
    | (refine And.intro (by first | assumption | decide) ?_; try cbv)
    | (intro β4; try cbv))
          refine br_ff (ne_F hP (t2 _ hqh)) ?_
          cbv
          repeat' (first
    | (refine And.intro (by first | assumption | decide) ?_; try cbv)
    | (intro β4; try cbv))
          refine hbase 900 bl d' (.own 1000900 ba' 3 n') mv' _ _ ⟨⟨.own _ _ _ _, rfl⟩, hmqt.1⟩ rfl hr1t rfl ?_
          cbv
          repeat' (first
    | (refine And.intro (by first | assumption | decide) ?_; try cbv)
    | (intro β4; try cbv))
          refine ⟨YB d' l', fun y => [(1, .sl false 1 rowsD), (5, .ptr 900 (some bl) 47 0 0), (6, .own 1000027 _ 1 (P.nadd nt (P.rlenN [[V.str x']]))), (17, .int .i64 y.r), (28, .sl false 1 rowsL), (29, .int .i64 (P.rlen rowsL)), (30, .int .i64 k)],
            fun y => [(900, obSh bl (rowS d' (.own 1000900 ba' 3 n') mv')), (1000900, obV ba' rows'), (901, mo'), (1000027, ⟨_, 9, 1, (P.rapp rt [[V.str x']])⟩)], fun y => (d'.b + (l'.length : Int) + 1 - y.r).toNat,
            ⟨_, Ent.refl _, ⟨d'.b, by ((try simp only [nc] at *); omega), by ((try simp only [nc] at *); omega)⟩, ⟨rfl, rfl, rfl, rfl, rfl, rfl, rfl, trivial⟩, ⟨rfl, rfl, rfl, rfl, trivial⟩⟩, ?_⟩
          rintro ⟨r, hr⟩
          cbv
          have hr : d'.b ≤ r ∧ r ≤ d'.b + (l'.length : Int) + 1 := hr
          have hr3 : rtB 900 mv' = true := by rw [H2.hmv]; exact rt_mv rfl
          have hr4 : rt2B 900 1000900 mv' = true := by rw [H2.hmv]; exact rt2_mv rfl
          repeat' (first
    | (refine And.intro (by first | assumption | decide) ?_; try cbv)
    | (intro β4; try cbv))
          refine hhd 900 bl d' 1000900 ba' n' mv' _ _ hb4t hn2t hmqt.1 rfl hr3 rfl fun qh2 hqh2 => ?_
          cbv
          repeat' (first
    | (refine And.intro (by first | assumption | decide) ?_; try cbv)
    | (intro β4; try cbv))
          refine br_cases (fun g => ?_) (fun g => ?_)
          · have g9 : r ≤ qh2 := le_t hP g
            rw [hqh2, hnlt] at g9
            have hst := stext_at (H2.arc) (f := r) ⟨hr.1, g9⟩
            obtain ⟨rn, hrn⟩ : ∃ a : Nat, r = (a : Int) := ⟨r.toNat, by ((try simp only [nc] at *); omega)⟩
            have htr := (H2).htx rn (by rw [← hrn]; exact hr.1) (by rw [← hrn]; exact g9)
            rw [← hrn] at htr
            obtain ⟨tt, htt⟩ : ∃ t, txtAt d' l' r = t := ⟨_, rfl⟩
            rw [htt] at hst htr
            have hrowt : P.row (P.rapp rt [[V.str x']]) (P.nat r) [.str tt] := row_of hP hrn (by rw [(H2).hrt, strRows, List.getElem?_map, htr]; rfl)
            have u1 : P.leP 0 r := le0 hP (by rw [hrn]; exact Int.natCast_nonneg _)
            have u2 : P.ltP r (P.int (P.nadd nt (P.rlenN [[V.str x']]))) := ltI hP (by rw [int_eq hP]; have := (H2).hnt; have := (H2).htl; ((try simp only [nc] at *); omega))
            have u3 : P.i64 (P.add r 1) := by rw [add_eq hP]; exact i64I hP (by ((try simp only [nc] at *); omega))
            cbv
            repeat' (first
    | (refine And.intro (by first | assumption | decide) ?_; try cbv)
    | (intro β4; try cbv))
            refine htext 900 1000900 bl d' ba' n' rows' l' mv' r _ _ H2.hrows H2.hn (H2.arc).shOk.rv hb4t (by rw [← H2.hn]; exact hn2t) hmqt rfl hr4 rfl rfl fun x' y' hx' hy' => ?_
            rw [hst] at hx' hy'
            have hx' : x' = tt := hx'
            have hy' : y' = 0 := hy'
            subst hx'
            cbv
            repeat' (first
    | (refine And.intro (by first | assumption | decide) ?_; try cbv)
    | (intro β4; try cbv))
            refine br_ff (ne_F hP hy') ?_
            cbv
            repeat' (first
    | (refine And.intro (by first | assumption | decide) ?_; try cbv)
    | (intro β4; try cbv))
            refine ⟨_, hrowt, ?_⟩
            cbv
            repeat' (first
    | (refine And.intro (by first | assumption | decide) ?_; try cbv)
    | (intro β4; try cbv))
            refine br_ff (sne_F hP rfl) ?_
            cbv
            repeat' (first
    | (refine And.intro (by first | assumption | decide) ?_; try cbv)
    | (intro β4; try cbv))
            refine ⟨_, Ent.refl _, ⟨P.add r 1, by rw [add_eq hP]; ((try simp only [nc] at *); omega)⟩, ⟨rfl, rfl, rfl, rfl, rfl, rfl, rfl, trivial⟩, ⟨rfl, rfl, rfl, rfl, trivial⟩, ?_⟩
            show (d'.b + (l'.length : Int) + 1 - P.add r 1).toNat < (d'.b + (l'.length : Int) + 1 - r).toNat
            rw [add_eq hP]; ((try simp only [nc] at *); omega)
          cbv
          repeat' (first
    | (refine And.intro (by first | assumption | decide) ?_; try cbv)
    | (intro β4; try cbv))
          refine ⟨_, Ent.refl _, ⟨bl, d', l', m, ba', n', rows', mv', mo', bm', _, (P.nadd nt (P.rlenN [[V.str x']])), (P.rapp rt [[V.str x']]), (tx ++ [x']), i + 1, _, H2, hil, q4⟩, ⟨rfl, rfl, rfl, rfl, rfl, rfl, trivial⟩, ⟨rfl, rfl, rfl, rfl, trivial⟩, ?_⟩
          show L.length - (i + 1) < L.length - i; ((try simp only [nc] at *); omega)
    all_goals
      focus
        have gA := eq_f hP g
        clear g
        cbv
        repeat' (first
    | (refine And.intro (by first | assumption | decide) ?_; try cbv)
    | (intro β4; try cbv))
        refine br_cases (fun g => ?_) (fun g => ?_)
      focus
        clear g
        cbv
        repeat' (first
    | (refine And.intro (by first | assumption | decide) ?_; try cbv)
    | (intro β4; try cbv))
        refine hsync 900 1000900 901 bl d ba n rows ls mv mo bm m _ _ ⟨hn, hrows, hmv, hmo, rfl, rfl, rfl, N900⟩ hb4 (by rw [← hn]; exact hn2) hshok.at' fun ba' d' n' rows' bm' mv' mo' hS hn' hrows' hmv' hmo' => ?_
        obtain ⟨u1, u2, u3, u4, u5, u6⟩ := arc_sync harc
        rw [← hS] at u1 u2 u3 u4 u5 u6
        obtain ⟨s1, s2⟩ := same_tx (.of u3 u4) htl htx
        have H2 : TA bl d' ls m n' rows' mv' mo' bm' nt rt tx (i + 1) := ⟨hn', hrows', hmv', hmo', u1, hnt, hrt, s1, s2, by rw [u5]; have := hgn; push_cast; ((try simp only [nc] at *); omega), fun w hw => by rw [u6, u3]; exact hfs w hw⟩
        obtain ⟨l', hl'⟩ : ∃ x, x = ls := ⟨_, rfl⟩
        obtain ⟨m', hm'⟩ : ∃ x, x = m := ⟨_, rfl⟩
        subst hl' hm'
      rotate_left
      focus
        have gB := eq_f hP g
        clear g
        cbv
        repeat' (first
    | (refine And.intro (by first | assumption | decide) ?_; try cbv)
    | (intro β4; try cbv))
        refine br_cases (fun g => ?_) (fun g => ?_)
      focus
        clear g
        cbv
        repeat' (first
    | (refine And.intro (by first | assumption | decide) ?_; try cbv)
    | (intro β4; try cbv))
        refine hbase 900 bl d (.own 1000900 ba 3 n) mv _ _ ⟨⟨.own _ _ _ _, rfl⟩, hmq.1⟩ rfl hr1 rfl ?_
        cbv
        repeat' (first
    | (refine And.intro (by first | assumption | decide) ?_; try cbv)
    | (intro β4; try cbv))
        refine at1 _ _ ?_
        cbv
        repeat' (first
    | (refine And.intro (by first | assumption | decide) ?_; try cbv)
    | (intro β4; try cbv))
        refine hhd 900 bl d 1000900 ba n mv _ _ hb4 hn2 hmq.1 rfl hr1 rfl fun q hq => ?_
        cbv
        repeat' (first
    | (refine And.intro (by first | assumption | decide) ?_; try cbv)
    | (intro β4; try cbv))
        refine hbase 900 bl d (.own 1000900 ba 3 n) mv _ _ ⟨⟨.own _ _ _ _, rfl⟩, hmq.1⟩ rfl hr1 rfl ?_
        have v1 : P.i64 (P.sub q d.b) := by rw [sub_eq hP, hq]; exact i64I hP (by ((try simp only [nc] at *); omega))
        have v2 : P.i64 (P.add (P.sub q d.b) 1) := by rw [add_eq hP, sub_eq hP, hq]; exact i64I hP (by ((try simp only [nc] at *); omega))
        have v3 : 0 < P.add (P.sub q d.b) 1 ∧ P.add (P.sub q d.b) 1 ≤ 4611686018427387904 := by rw [add_eq hP, sub_eq hP, hq]; ((try simp only [nc] at *); omega)
        have v4 := hwi x1 _ v3.1 v3.2
        have v5 := hwb x1 _ v3.1 v3.2
        obtain ⟨y2, hy2⟩ : ∃ y, wF x1 (P.add (P.sub q d.b) 1) = y := ⟨_, rfl⟩
        rw [hy2] at v4 v5
        have v6 : P.i64 (P.add d.b y2) := by
          rw [add_eq hP, sub_eq hP, hq] at v5
          rw [add_eq hP]; exact i64I hP (by ((try simp only [nc] at *); omega))
        cbv
        repeat' (first
    | (refine And.intro (by first | assumption | decide) ?_; try cbv)
    | (intro β4; try cbv))
        refine v4 _ _ ?_
        cbv
        repeat' (first
    | (refine And.intro (by first | assumption | decide) ?_; try cbv)
    | (intro β4; try cbv))
        refine hkeep 900 1000900 901 bl d ba n rows ls mv mo bm m _ _ _ ⟨hn, hrows, hmv, hmo, rfl, rfl, rfl, N900⟩ hb4 (by rw [← hn]; exact hn2) fun e' ba' n' rows' bm' m' mv' mo' hK hn' hrows' hmv' hmo' => ?_
        have u1 := arc_keep harc (by have := hgn; ((try simp only [nc] at *); omega)) (P.add d.b y2)
        rw [← hK] at u1
        have u1 : Arc d ls m' := u1
        have H2 : TA bl d ls m' n' rows' mv' mo' bm' nt rt tx (i + 1) := ⟨hn', hrows', hmv', hmo', u1, hnt, hrt, htl, htx, Int.le_trans hgn (by ((try simp only [nc] at *); omega)), hfs⟩
        obtain ⟨l', hl'⟩ : ∃ x, x = ls := ⟨_, rfl⟩
        obtain ⟨d', hd'⟩ : ∃ x, x = d := ⟨_, rfl⟩
        subst hl' hd'
      rotate_left
      focus
        have gC := eq_f hP g
        clear g
        cbv
        repeat' (first
    | (refine And.intro (by first | assumption | decide) ?_; try cbv)
    | (intro β4; try cbv))
        refine br_cases (fun g => ?_) (fun g => ?_)
      focus
        clear g
        have htx1 : d.tx.length ≤ maxLen := Nat.le_trans harc.hd.tx (by decide)
        cbv
        repeat' (first
    | (refine And.intro (by first | assumption | decide) ?_; try cbv)
    | (intro β4; try cbv))
        refine hstep 900 1000900 901 bl d ba n rows ls mv mo bm m _ _ ⟨hn, hrows, hmv, hmo, rfl, rfl, rfl, N900⟩ (arc_stepOk harc) htx1 fun v ba' d' l' m' n' rows' bm' mv' mo' hS hn' hrows' hmv' hmo' => ?_
        have hss := arc_step harc
        have hsf := step_fs harc hfs
        rw [← hS] at hss hsf
        have u1 : Arc d' l' m' := hss.arc
        have u2 : Same d ls d' l' := hss.same
        have u3 : d'.gn ≤ d.gn + 1 := hss.gn
        have hsf : FsLe d' := hsf
        obtain ⟨s1, s2⟩ := same_tx u2 htl htx
        have H2 : TA bl d' l' m' n' rows' mv' mo' bm' nt rt tx (i + 1) := ⟨hn', hrows', hmv', hmo', u1, hnt, hrt, s1, s2, Int.le_trans u3 (by have := hgn; ((try simp only [nc] at *); omega)), hsf⟩
      rotate_left
      focus
        clear g
        obtain ⟨d2, l2, hO, hop⟩ := crash_ok harc x1 x2
        obtain ⟨c1, hc1⟩ : ∃ c, c = cutN d.x1 d.x2 x1 := ⟨_, rfl⟩
        obtain ⟨c2, hc2⟩ : ∃ c, c = cutN d.x3 d.x4 x2 := ⟨_, rfl⟩
        obtain ⟨z1, hz1⟩ : ∃ z, z = d.x1.take c1.toNat := ⟨_, rfl⟩
        obtain ⟨z2, hz2⟩ : ∃ z, z = d.x3.take c2.toNat := ⟨_, rfl⟩
        rw [← hc1, ← hc2, ← hz1, ← hz2] at hO
        have hcrash := hcr d.x1 d.x2 d.x3 d.x4 x1 x2 c1 z1 c2 z2 harc.dk hc1 hz1 hc2 hz2
        cbv
        repeat' (first
    | (refine And.intro (by first | assumption | decide) ?_; try cbv)
    | (intro β4; try cbv))
        refine hdisk 900 bl d (.own 1000900 ba 3 n) mv _ _ ⟨⟨.own _ _ _ _, rfl⟩, hmq.1⟩ rfl hr1 rfl ?_
        cbv
        repeat' (first
    | (refine And.intro (by first | assumption | decide) ?_; try cbv)
    | (intro β4; try cbv))
        refine at1 _ _ ?_
        cbv
        repeat' (first
    | (refine And.intro (by first | assumption | decide) ?_; try cbv)
    | (intro β4; try cbv))
        refine at2 _ _ ?_
        cbv
        repeat' (first
    | (refine And.intro (by first | assumption | decide) ?_; try cbv)
    | (intro β4; try cbv))
        refine hcrash _ _ ?_
        cbv
        repeat' (first
            | (refine And.intro (by first | assumption | decide) ?_; try cbv)
            | (intro β5; try cbv))
        refine br_ff (ne_F hP rfl) ?_
        cbv
        repeat' (first
    | (refine And.intro (by first | assumption | decide) ?_; try cbv)
    | (intro β4; try cbv))
        refine hopen 920 1000920 921 z1 c1 z2 c2 _ _ N920 rfl rfl rfl fun d3 l3 e3 hO3 => ⟨fun he => ?_, fun he bl2 ba2 n2 rows2 mo2 hn2' hrows2 hmo2 => ?_⟩
        · rw [hO] at hO3
          exact absurd (congrArg OpR.e hO3) he
        rw [hO] at hO3
        obtain ⟨hd3, hl3⟩ : d3 = d2 ∧ l3 = l2 := ⟨congrArg OpR.d hO3, congrArg OpR.l hO3⟩
        subst hd3 hl3
        have harc2 := hop.arc
        have hshok2 := harc2.shOk
        have hlen3 := harc2.len
        have hlo := hop.lo
        have hhi := hop.hi
        have hb42 : 0 ≤ d3.b ∧ d3.b ≤ 4294967295 := ⟨hshok2.b.1, Int.le_trans hshok2.b.2 (by decide)⟩
        have hn22 : n2 ≤ 1000 := by rw [hn2']; exact Nat.le_trans hshok2.len (by decide)
        have hnl2 : (n2 : Int) = (l3.length : Int) := by rw [hn2']
        have k1 : ∀ q, q = d3.b + (n2 : Int) → ¬ q < d.sf := fun q hq => by rw [hq]; ((try simp only [nc] at *); omega)
        have k2 : ∀ q q', q = d3.b + (n2 : Int) → q' = d.b + (n : Int) → ¬ q' < q := fun q q' hq hq' => by rw [hq, hq']; ((try simp only [nc] at *); omega)
        cbv
        repeat' (first
    | (refine And.intro (by first | assumption | decide) ?_; try cbv)
    | (intro β4; try cbv))
        refine br_ff (ne_F hP rfl) ?_
        cbv
        repeat' (first
    | (refine And.intro (by first | assumption | decide) ?_; try cbv)
    | (intro β4; try cbv))
        refine hhd 920 bl2 d3 1000920 ba2 n2 .nil _ _ hb42 hn22 ⟨.nil, rfl⟩ rfl rfl rfl fun q hq => ?_
        cbv
        repeat' (first
    | (refine And.intro (by first | assumption | decide) ?_; try cbv)
    | (intro β4; try cbv))
        refine hsafe 900 bl d (.own 1000900 ba 3 n) mv _ _ ⟨⟨.own _ _ _ _, rfl⟩, hmq.1⟩ rfl hr1 rfl ?_
        cbv
        repeat' (first
    | (refine And.intro (by first | assumption | decide) ?_; try cbv)
    | (intro β4; try cbv))
        refine br_ff (lt_F hP (k1 _ hq)) ?_
        cbv
        repeat' (first
    | (refine And.intro (by first | assumption | decide) ?_; try cbv)
    | (intro β4; try cbv))
        refine hhd 920 bl2 d3 1000920 ba2 n2 .nil _ _ hb42 hn22 ⟨.nil, rfl⟩ rfl rfl rfl fun q' hq' => ?_
        cbv
        repeat' (first
    | (refine And.intro (by first | assumption | decide) ?_; try cbv)
    | (intro β4; try cbv))
        refine hhd 900 bl d 1000900 ba n mv _ _ hb4 hn2 hmq.1 rfl hr1 rfl fun q2 hq2 => ?_
        cbv
        repeat' (first
    | (refine And.intro (by first | assumption | decide) ?_; try cbv)
    | (intro β4; try cbv))
        refine br_ff (lt_F hP (k2 _ _ hq' hq2)) ?_
        cbv
        repeat' (first
    | (refine And.intro (by first | assumption | decide) ?_; try cbv)
    | (intro β4; try cbv))
        refine hhd 920 bl2 d3 1000920 ba2 n2 .nil _ _ hb42 hn22 ⟨.nil, rfl⟩ rfl rfl rfl fun q3 hq3 => ?_
        have v1 : P.i64 (P.add q3 1) := by rw [add_eq hP, hq3]; exact i64I hP (by ((try simp only [nc] at *); omega))
        have v2 : P.leP 0 0 := le0 hP (by decide)
        have v3 : P.leP 0 (P.add q3 1) := le0 hP (by rw [add_eq hP, hq3]; ((try simp only [nc] at *); omega))
        have v4 : P.leP (P.add q3 1) (P.int nt) := leI hP (by rw [add_eq hP, hq3, int_eq hP]; ((try simp only [nc] at *); omega))
        have v5 : 0 < P.add q3 1 := by rw [add_eq hP, hq3]; ((try simp only [nc] at *); omega)
        have v6 : (((P.add q3 1).toNat : Nat) : Int) = d3.b + (l3.length : Int) + 1 := by rw [add_eq hP, hq3]; ((try simp only [nc] at *); omega)
        obtain ⟨nt3, hnt3⟩ : ∃ n, n = (P.add q3 1).toNat := ⟨_, rfl⟩
        obtain ⟨rt3, hrt3⟩ : ∃ n, n = rt.take nt3 := ⟨_, rfl⟩
        rw [← hnt3] at v6
        obtain ⟨s1, s2⟩ := open_tx hop hlen3.2.2 v6 htl htx
        obtain ⟨tx3, htx3⟩ : ∃ n, n = tx.take nt3 := ⟨_, rfl⟩
        rw [← htx3] at s1 s2
        have H2 : TA bl2 d3 l3 none n2 rows2 .nil mo2 0 nt3 rt3 tx3 (i + 1) := ⟨hn2', hrows2, rfl, hmo2, harc2, s1.symm, by rw [hrt3, hrt, htx3]; simp [strRows, List.map_take], by rw [s1]; exact v6, s2, Int.le_trans hop.gn (by have := hgn; ((try simp only [nc] at *); omega)), hop.fs hfs⟩
        -- what is there: H2
        have hb4t : 0 ≤ d3.b ∧ d3.b ≤ 4294967295 := ⟨(H2.arc).shOk.b.1, Int.le_trans (H2.arc).shOk.b.2 (by decide)⟩
        have hlent := (H2.arc).len
        have hmqt : MQ .nil := by exact ⟨⟨.nil, rfl⟩, rfl⟩
        have hr1t : rtB 920 .nil = true := by rfl
        have hn2t : n2 ≤ 1000 := by rw [H2.hn]; exact Nat.le_trans (H2.arc).shOk.len (by decide)
        have hnlt : (n2 : Int) = (l3.length : Int) := by rw [H2.hn]
        have hntt : P.sub (P.add q3 1) 0 = d3.b + (l3.length : Int) + 1 := by rw [sub_eq hP, add_eq hP, hq3]; ((try simp only [nc] at *); omega)
        have t1 : P.i64 (P.sub (P.sub (P.add q3 1) 0) 1) := by rw [sub_eq hP, hntt]; exact i64I hP (by ((try simp only [nc] at *); omega))
        have t2 : ∀ q, q = d3.b + (n2 : Int) → q = P.sub (P.sub (P.add q3 1) 0) 1 := fun q hq => by rw [sub_eq hP, hntt, hq, hnlt]; ((try simp only [nc] at *); omega)
        cbv
        repeat' (first
    | (refine And.intro (by first | assumption | decide) ?_; try cbv)
    | (intro β4; try cbv))
        refine hhd 920 bl2 d3 1000920 ba2 n2 .nil _ _ hb4t hn2t hmqt.1 rfl hr1t rfl fun qh hqh => ?_
        cbv
        repeat' (first
    | (refine And.intro (by first | assumption | decide) ?_; try cbv)
    | (intro β4; try cbv))
        refine br_ff (ne_F hP (t2 _ hqh)) ?_
        cbv
        repeat' (first
    | (refine And.intro (by first | assumption | decide) ?_; try cbv)
    | (intro β4; try cbv))
        refine hbase 920 bl2 d3 (.own 1000920 ba2 3 n2) .nil _ _ ⟨⟨.own _ _ _ _, rfl⟩, hmqt.1⟩ rfl hr1t rfl ?_
        cbv
        repeat' (first
    | (refine And.intro (by first | assumption | decide) ?_; try cbv)
    | (intro β4; try cbv))
        refine ⟨YB d3 l3, fun y => [(1, .sl false 1 rowsD), (5, .ptr 900 (some bl2) 47 0 0), (6, .own 1000027 bt 1 nt3), (17, .int .i64 y.r), (28, .sl false 1 rowsL), (29, .int .i64 (P.rlen rowsL)), (30, .int .i64 k)],
          fun y => [(900, obSh bl2 (rowS d3 (.own 1000900 ba2 3 n2) .nil)), (1000900, obV ba2 rows2), (901, mo2), (1000027, ⟨bt, 9, 1, rt3⟩)], fun y => (d3.b + (l3.length : Int) + 1 - y.r).toNat,
          ⟨_, Ent.crash v5 rfl rfl rfl rfl rfl rfl rfl hmo2 hnt3 hrt3, ⟨d3.b, by ((try simp only [nc] at *); omega), by ((try simp only [nc] at *); omega)⟩, ⟨rfl, rfl, rfl, rfl, rfl, rfl, rfl, trivial⟩, ⟨rfl, rfl, rfl, rfl, trivial⟩⟩, ?_⟩
        rintro ⟨r, hr⟩
        cbv
        have hr : d3.b ≤ r ∧ r ≤ d3.b + (l3.length : Int) + 1 := hr
        have hr3 : rtB 900 .nil = true := by rfl
        have hr4 : rt2B 900 1000900 .nil = true := by rfl
        repeat' (first
    | (refine And.intro (by first | assumption | decide) ?_; try cbv)
    | (intro β4; try cbv))
        refine hhd 900 bl2 d3 1000900 ba2 n2 .nil _ _ hb4t hn2t hmqt.1 rfl hr3 rfl fun qh2 hqh2 => ?_
        cbv
        repeat' (first
    | (refine And.intro (by first | assumption | decide) ?_; try cbv)
    | (intro β4; try cbv))
        refine br_cases (fun g => ?_) (fun g => ?_)
        · have g9 : r ≤ qh2 := le_t hP g
          rw [hqh2, hnlt] at g9
          have hst := stext_at (H2.arc) (f := r) ⟨hr.1, g9⟩
          obtain ⟨rn, hrn⟩ : ∃ a : Nat, r = (a : Int) := ⟨r.toNat, by ((try simp only [nc] at *); omega)⟩
          have htr := (H2).htx rn (by rw [← hrn]; exact hr.1) (by rw [← hrn]; exact g9)
          rw [← hrn] at htr
          obtain ⟨tt, htt⟩ : ∃ t, txtAt d3 l3 r = t := ⟨_, rfl⟩
          rw [htt] at hst htr
          have hrowt : P.row rt3 (P.nat r) [.str tt] := row_of hP hrn (by rw [(H2).hrt, strRows, List.getElem?_map, htr]; rfl)
          have u1 : P.leP 0 r := le0 hP (by rw [hrn]; exact Int.natCast_nonneg _)
          have u2 : P.ltP r (P.int nt3) := ltI hP (by rw [int_eq hP]; have := (H2).hnt; have := (H2).htl; ((try simp only [nc] at *); omega))
          have u3 : P.i64 (P.add r 1) := by rw [add_eq hP]; exact i64I hP (by ((try simp only [nc] at *); omega))
          cbv
          repeat' (first
    | (refine And.intro (by first | assumption | decide) ?_; try cbv)
    | (intro β4; try cbv))
          refine htext 900 1000900 bl2 d3 ba2 n2 rows2 l3 .nil r _ _ H2.hrows H2.hn (H2.arc).shOk.rv hb4t (by rw [← H2.hn]; exact hn2t) hmqt rfl hr4 rfl rfl fun x' y' hx' hy' => ?_
          rw [hst] at hx' hy'
          have hx' : x' = tt := hx'
          have hy' : y' = 0 := hy'
          subst hx'
          cbv
          repeat' (first
    | (refine And.intro (by first | assumption | decide) ?_; try cbv)
    | (intro β4; try cbv))
          refine br_ff (ne_F hP hy') ?_
          cbv
          repeat' (first
    | (refine And.intro (by first | assumption | decide) ?_; try cbv)
    | (intro β4; try cbv))
          refine ⟨_, hrowt, ?_⟩
          cbv
          repeat' (first
    | (refine And.intro (by first | assumption | decide) ?_; try cbv)
    | (intro β4; try cbv))
          refine br_ff (sne_F hP rfl) ?_
          cbv
          repeat' (first
    | (refine And.intro (by first | assumption | decide) ?_; try cbv)
    | (intro β4; try cbv))
          refine ⟨_, Ent.refl _, ⟨P.add r 1, by rw [add_eq hP]; ((try simp only [nc] at *); omega)⟩, ⟨rfl, rfl, rfl, rfl, rfl, rfl, rfl, trivial⟩, ⟨rfl, rfl, rfl, rfl, trivial⟩, ?_⟩
          show (d3.b + (l3.length : Int) + 1 - P.add r 1).toNat < (d3.b + (l3.length : Int) + 1 - r).toNat
          rw [add_eq hP]; ((try simp only [nc] at *); omega)
        cbv
        repeat' (first
    | (refine And.intro (by first | assumption | decide) ?_; try cbv)
    | (intro β4; try cbv))
        refine ⟨_, Ent.refl _, ⟨bl2, d3, l3, none, ba2, n2, rows2, .nil, mo2, 0, bt, nt3, rt3, tx3, i + 1, _, H2, hil, q4⟩, ⟨rfl, rfl, rfl, rfl, rfl, rfl, trivial⟩, ⟨rfl, rfl, rfl, rfl, trivial⟩, ?_⟩
        show L.length - (i + 1) < L.length - i; ((try simp only [nc] at *); omega)
      all_goals
        -- what is there: H2
        have hb4t : 0 ≤ d'.b ∧ d'.b ≤ 4294967295 := ⟨(H2.arc).shOk.b.1, Int.le_trans (H2.arc).shOk.b.2 (by decide)⟩
        have hlent := (H2.arc).len
        have hmqt : MQ mv' := by rw [H2.hmv]; exact mvN_mq _ _ _
        have hr1t : rtB 900 mv' = true := by rw [H2.hmv]; exact rt_mv rfl
        have hn2t : n' ≤ 1000 := by rw [H2.hn]; exact Nat.le_trans (H2.arc).shOk.len (by decide)
        have hnlt : (n' : Int) = (l'.length : Int) := by rw [H2.hn]
        have hntt : P.int nt = d'.b + (l'.length : Int) + 1 := by rw [int_eq hP, H2.hnt]; exact H2.htl
        have t1 : P.i64 (P.sub (P.int nt) 1) := by rw [sub_eq hP, hntt]; exact i64I hP (by ((try simp only [nc] at *); omega))
        have t2 : ∀ q, q = d'.b + (n' : Int) → q = P.sub (P.int nt) 1 := fun q hq => by rw [sub_eq hP, hntt, hq, hnlt]; ((try simp only [nc] at *); omega)
        cbv
        repeat' (first
    | (refine And.intro (by first | assumption | decide) ?_; try cbv)
    | (intro β4; try cbv))
        refine hhd 900 bl d' 1000900 ba' n' mv' _ _ hb4t hn2t hmqt.1 rfl hr1t rfl fun qh hqh => ?_
        cbv
        repeat' (first
    | (refine And.intro (by first | assumption | decide) ?_; try cbv)
    | (intro β4; try cbv))
        refine br_ff (ne_F hP (t2 _ hqh)) ?_
        cbv
        repeat' (first
    | (refine And.intro (by first | assumption | decide) ?_; try cbv)
    | (intro β4; try cbv))
        refine hbase 900 bl d' (.own 1000900 ba' 3 n') mv' _ _ ⟨⟨.own _ _ _ _, rfl⟩, hmqt.1⟩ rfl hr1t rfl ?_
        cbv
        repeat' (first
    | (refine And.intro (by first | assumption | decide) ?_; try cbv)
    | (intro β4; try cbv))
        refine ⟨YB d' l', fun y => [(1, .sl false 1 rowsD), (5, .ptr 900 (some bl) 47 0 0), (6, .own 1000027 bt 1 nt), (17, .int .i64 y.r), (28, .sl false 1 rowsL), (29, .int .i64 (P.rlen rowsL)), (30, .int .i64 k)],
          fun y => [(900, obSh bl (rowS d' (.own 1000900 ba' 3 n') mv')), (1000900, obV ba' rows'), (901, mo'), (1000027, ⟨bt, 9, 1, rt⟩)], fun y => (d'.b + (l'.length : Int) + 1 - y.r).toNat,
          ⟨_, Ent.refl _, ⟨d'.b, by ((try simp only [nc] at *); omega), by ((try simp only [nc] at *); omega)⟩, ⟨rfl, rfl, rfl, rfl, rfl, rfl, rfl, trivial⟩, ⟨rfl, rfl, rfl, rfl, trivial⟩⟩, ?_⟩
        rintro ⟨r, hr⟩
        cbv
        have hr : d'.b ≤ r ∧ r ≤ d'.b + (l'.length : Int) + 1 := hr
        have hr3 : rtB 900 mv' = true := by rw [H2.hmv]; exact rt_mv rfl
        have hr4 : rt2B 900 1000900 mv' = true := by rw [H2.hmv]; exact rt2_mv rfl
        repeat' (first
    | (refine And.intro (by first | assumption | decide) ?_; try cbv)
    | (intro β4; try cbv))
        refine hhd 900 bl d' 1000900 ba' n' mv' _ _ hb4t hn2t hmqt.1 rfl hr3 rfl fun qh2 hqh2 => ?_
        cbv
        repeat' (first
    | (refine And.intro (by first | assumption | decide) ?_; try cbv)
    | (intro β4; try cbv))
        refine br_cases (fun g => ?_) (fun g => ?_)
        · have g9 : r ≤ qh2 := le_t hP g
          rw [hqh2, hnlt] at g9
          have hst := stext_at (H2.arc) (f := r) ⟨hr.1, g9⟩
          obtain ⟨rn, hrn⟩ : ∃ a : Nat, r = (a : Int) := ⟨r.toNat, by ((try simp only [nc] at *); omega)⟩
          have htr := (H2).htx rn (by rw [← hrn]; exact hr.1) (by rw [← hrn]; exact g9)
          rw [← hrn] at htr
          obtain ⟨tt, htt⟩ : ∃ t, txtAt d' l' r = t := ⟨_, rfl⟩
          rw [htt] at hst htr
          have hrowt : P.row rt (P.nat r) [.str tt] := row_of hP hrn (by rw [(H2).hrt, strRows, List.getElem?_map, htr]; rfl)
          have u1 : P.leP 0 r := le0 hP (by rw [hrn]; exact Int.natCast_nonneg _)
          have u2 : P.ltP r (P.int nt) := ltI hP (by rw [int_eq hP]; have := (H2).hnt; have := (H2).htl; ((try simp only [nc] at *); omega))
          have u3 : P.i64 (P.add r 1) := by rw [add_eq hP]; exact i64I hP (by ((try simp only [nc] at *); omega))
          cbv
          repeat' (first
    | (refine And.intro (by first | assumption | decide) ?_; try cbv)
    | (intro β4; try cbv))
          refine htext 900 1000900 bl d' ba' n' rows' l' mv' r _ _ H2.hrows H2.hn (H2.arc).shOk.rv hb4t (by rw [← H2.hn]; exact hn2t) hmqt rfl hr4 rfl rfl fun x' y' hx' hy' => ?_
          rw [hst] at hx' hy'
          have hx' : x' = tt := hx'
          have hy' : y' = 0 := hy'
          subst hx'
          cbv
          repeat' (first
    | (refine And.intro (by first | assumption | decide) ?_; try cbv)
    | (intro β4; try cbv))
          refine br_ff (ne_F hP hy') ?_
          cbv
          repeat' (first
    | (refine And.intro (by first | assumption | decide) ?_; try cbv)
    | (intro β4; try cbv))
          refine ⟨_, hrowt, ?_⟩
          cbv
          repeat' (first
    | (refine And.intro (by first | assumption | decide) ?_; try cbv)
    | (intro β4; try cbv))
          refine br_ff (sne_F hP rfl) ?_
          cbv
          repeat' (first
    | (refine And.intro (by first | assumption | decide) ?_; try cbv)
    | (intro β4; try cbv))
          refine ⟨_, Ent.refl _, ⟨P.add r 1, by rw [add_eq hP]; ((try simp only [nc] at *); omega)⟩, ⟨rfl, rfl, rfl, rfl, rfl, rfl, rfl, trivial⟩, ⟨rfl, rfl, rfl, rfl, trivial⟩, ?_⟩
          show (d'.b + (l'.length : Int) + 1 - P.add r 1).toNat < (d'.b + (l'.length : Int) + 1 - r).toNat
          rw [add_eq hP]; ((try simp only [nc] at *); omega)
        cbv
        repeat' (first
    | (refine And.intro (by first | assumption | decide) ?_; try cbv)
    | (intro β4; try cbv))
        refine ⟨_, Ent.refl _, ⟨bl, d', l', m', ba', n', rows', mv', mo', bm', bt, nt, rt, tx, i + 1, _, H2, hil, q4⟩, ⟨rfl, rfl, rfl, rfl, rfl, rfl, trivial⟩, ⟨rfl, rfl, rfl, rfl, trivial⟩, ?_⟩
        show L.length - (i + 1) < L.length - i; ((try simp only [nc] at *); omega)
  -- the end
  cbv
  repeat' (first
    | (refine And.intro (by first | assumption | decide) ?_; try cbv)
    | (intro β4; try cbv))
  exact hR _ _ _ rfl (Ent.refl _) rfl
theorem sp_law_topArchive (L : List (List Int)) (D : List (List Part)) (hL : L.length ≤ maxLen ∧ ∀ c ∈ L, c.length ≤ maxLen ∧ ∀ a ∈ c, I64 a) (hD : D.length ≤ maxLen ∧ ∀ x ∈ D, PartsOk x) (hl : L.length ≤ 1048576) (hd : D.length ≤ 1048576) : Spec Try.prog 6 [.sl false 1 (L.map fun c => [.sl false 1 (c.map fun n => [.int .i64 n])]), .sl false 1 (D.map fun d => [encParts d])] Hp.emp (Is (.bool true)) :=
  spec_pure dOk ok_tar [.bool true] (.bool _) fun R hR => vc_tar std rfl _ _ snewC (ansSame sp_begun rfl rfl) ssubC ssubN sheadE stextE ssync3C skeep3C sstep3C sbaseE ssafeE sdiskE sopenC L hl _ rfl D hD _ rfl atL withF (fun n m h0 h1 => withF_bd n h0 h1)
    (fun c cs _ hcs => by subst hcs; exact ansIn (sp_tat c 0) rfl rfl) (fun c cs _ hcs => by subst hcs; exact ansIn (sp_tat c 1) rfl rfl) (fun c cs _ hcs => by subst hcs; exact ansIn (sp_tat c 2) rfl rfl) (fun c cs _ hcs => by subst hcs; exact ansIn (sp_tat c 3) rfl rfl)
    (fun n m h0 h1 => ansSame (sp_with n m h0 h1) rfl rfl)
    (fun a1 a2 b1 b2 k0 k1 c1 s1 c2 s2 hd h1 h2 h3 h4 => by subst h1 h2 h3 h4; exact ansW (sp_dcr a1 a2 b1 b2 k0 k1 hd) (fun _ => .cons (.same _) (.cons (.same _) .nil)) rfl) R fun s s' b hb he hr => by subst hb; exact hR s s' he hr
end Go.Proofs.Ytobngncjflogcaa.AM
