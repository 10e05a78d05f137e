/-
  diff.Of on the plain machine.
-/
import Derived.Test.YtlomnjlfmbolkaaMDiff0
import Derived.Test.YtlomnjlfmbolkaaMTab
import Derived.Test.YtlomnjlfmbolkaaMTurn
set_option linter.unusedVariables false
set_option linter.unusedSimpArgs false
namespace Go.Proofs.Ytlomnjlfmbolkaa.AM
open Go
set_option maxRecDepth 100000
set_option maxHeartbeats 2000000
def ac_diff : AC := .seq (.region false [
    ⟨some 4, none, .mov (.c (.slice none 0 0))⟩,
    ⟨some 5, none, .mov (.c (.int .i64 0))⟩])
  (.seq (.seq (.region false [
    ⟨some 13, none, .mov (.t 0)⟩,
    ⟨some 14, none, .len true (.t 13)⟩,
    ⟨some 15, none, .bin .gtr (.t 14) (.c (.int .i64 500))⟩,
    ⟨some 16, none, .mov (.t 15)⟩,
    ⟨some 17, some (16, false), .mov (.t 1)⟩,
    ⟨some 18, some (16, false), .len true (.t 17)⟩,
    ⟨some 19, some (16, false), .bin .gtr (.t 18) (.c (.int .i64 500))⟩,
    ⟨some 20, none, .pick (.t 16) (.c (.bool true)) (.t 19)⟩])
  (.cond (.t 20)
    (.seq (.region false [
      ⟨some 4, none, .mov (.c (.slice none 0 0))⟩,
      ⟨some 5, none, .mov (.c (.int .i64 2))⟩])
    (.ret))
    (.skip)))
  (.seq (.region false [
    ⟨some 21, none, .mov (.t 0)⟩,
    ⟨some 22, none, .len true (.t 21)⟩,
    ⟨some 23, none, .bin .add (.t 22) (.c (.int .i64 1))⟩,
    ⟨some 24, none, .mkslice 49 1 24 [(.slice none 0 0)] (.t 23) (.t 23)⟩,
    ⟨some 6, none, .mov (.t 24)⟩])
  (.seq (.seq (.region false [
    ⟨some 25, none, .mov (.t 6)⟩,
    ⟨some 26, none, .len false (.t 25)⟩,
    ⟨some 27, none, .mov (.c (.int .i64 0))⟩])
  (.block 0 (.loop (.seq (.region false [
      ⟨some 28, none, .bin .lss (.t 27) (.t 26)⟩])
    (.seq (.cond (.t 28)
      (.skip)
      (.exit 0))
    (.seq (.block 1 (.seq (.region false [
      ⟨some 29, none, .mov (.t 27)⟩,
      ⟨some 7, none, .mov (.t 29)⟩])
    (.region false [
      ⟨some 30, none, .mov (.t 6)⟩,
      ⟨some 31, none, .mov (.t 7)⟩,
      ⟨some 32, none, .mov (.t 1)⟩,
      ⟨some 33, none, .len true (.t 32)⟩,
      ⟨some 34, none, .bin .add (.t 33) (.c (.int .i64 1))⟩,
      ⟨some 35, none, .mkslice 3 1 8 [(.int .i64 0)] (.t 34) (.t 34)⟩,
      ⟨some 36, none, .iaddr 1 (.t 30) (.t 31)⟩,
      ⟨none, none, .store 1 (.t 36) (.t 35)⟩])))
    (.region false [
      ⟨some 37, none, .bin .add (.t 27) (.c (.int .i64 1))⟩,
      ⟨some 27, none, .mov (.t 37)⟩])))))))
  (.seq (.seq (.region false [
    ⟨some 38, none, .mov (.t 0)⟩,
    ⟨some 39, none, .len true (.t 38)⟩,
    ⟨some 40, none, .bin .sub (.t 39) (.c (.int .i64 1))⟩,
    ⟨some 8, none, .mov (.t 40)⟩])
  (.block 2 (.loop (.seq (.seq (.region false [
      ⟨some 41, none, .mov (.t 8)⟩,
      ⟨some 42, none, .bin .geq (.t 41) (.c (.int .i64 0))⟩])
    (.cond (.t 42)
      (.skip)
      (.exit 2)))
    (.seq (.block 3 (.seq (.region false [
      ⟨some 45, none, .mov (.t 1)⟩,
      ⟨some 46, none, .len true (.t 45)⟩,
      ⟨some 47, none, .bin .sub (.t 46) (.c (.int .i64 1))⟩,
      ⟨some 9, none, .mov (.t 47)⟩])
    (.block 4 (.loop (.seq (.seq (.region false [
        ⟨some 48, none, .mov (.t 9)⟩,
        ⟨some 49, none, .bin .geq (.t 48) (.c (.int .i64 0))⟩])
      (.cond (.t 49)
        (.skip)
        (.exit 4)))
      (.seq (.block 5 (.seq (.region true [
        ⟨some 52, none, .mov (.t 0)⟩,
        ⟨some 53, none, .mov (.t 8)⟩,
        ⟨some 54, none, .ixs (.t 52) (.t 53)⟩,
        ⟨some 55, none, .mov (.t 1)⟩,
        ⟨some 56, none, .mov (.t 9)⟩,
        ⟨some 57, none, .ixs (.t 55) (.t 56)⟩,
        ⟨some 58, none, .bin .eql (.t 54) (.t 57)⟩])
      (.cond (.t 58)
        (.region true [
          ⟨some 59, none, .mov (.t 6)⟩,
          ⟨some 60, none, .mov (.t 8)⟩,
          ⟨some 61, none, .iaddr 1 (.t 59) (.t 60)⟩,
          ⟨some 62, none, .load1 (.t 61)⟩,
          ⟨some 63, none, .mov (.t 9)⟩,
          ⟨some 64, none, .mov (.t 6)⟩,
          ⟨some 65, none, .mov (.t 8)⟩,
          ⟨some 66, none, .bin .add (.t 65) (.c (.int .i64 1))⟩,
          ⟨some 67, none, .iaddr 1 (.t 64) (.t 66)⟩,
          ⟨some 68, none, .load1 (.t 67)⟩,
          ⟨some 69, none, .mov (.t 9)⟩,
          ⟨some 70, none, .bin .add (.t 69) (.c (.int .i64 1))⟩,
          ⟨some 71, none, .iaddr 1 (.t 68) (.t 70)⟩,
          ⟨some 72, none, .load1 (.t 71)⟩,
          ⟨some 73, none, .bin .add (.c (.int .i64 1)) (.t 72)⟩,
          ⟨some 74, none, .iaddr 1 (.t 62) (.t 63)⟩,
          ⟨none, none, .store 1 (.t 74) (.t 73)⟩])
        (.region true [
          ⟨some 75, none, .mov (.t 6)⟩,
          ⟨some 76, none, .mov (.t 8)⟩,
          ⟨some 77, none, .iaddr 1 (.t 75) (.t 76)⟩,
          ⟨some 78, none, .load1 (.t 77)⟩,
          ⟨some 79, none, .mov (.t 9)⟩,
          ⟨some 80, none, .mov (.t 6)⟩,
          ⟨some 81, none, .mov (.t 8)⟩,
          ⟨some 82, none, .bin .add (.t 81) (.c (.int .i64 1))⟩,
          ⟨some 83, none, .iaddr 1 (.t 80) (.t 82)⟩,
          ⟨some 84, none, .load1 (.t 83)⟩,
          ⟨some 85, none, .mov (.t 9)⟩,
          ⟨some 86, none, .iaddr 1 (.t 84) (.t 85)⟩,
          ⟨some 87, none, .load1 (.t 86)⟩,
          ⟨some 88, none, .mov (.t 6)⟩,
          ⟨some 89, none, .mov (.t 8)⟩,
          ⟨some 90, none, .iaddr 1 (.t 88) (.t 89)⟩,
          ⟨some 91, none, .load1 (.t 90)⟩,
          ⟨some 92, none, .mov (.t 9)⟩,
          ⟨some 93, none, .bin .add (.t 92) (.c (.int .i64 1))⟩,
          ⟨some 94, none, .iaddr 1 (.t 91) (.t 93)⟩,
          ⟨some 95, none, .load1 (.t 94)⟩,
          ⟨some 96, none, .mm true (.t 87) (.t 95)⟩,
          ⟨some 97, none, .iaddr 1 (.t 78) (.t 79)⟩,
          ⟨none, none, .store 1 (.t 97) (.t 96)⟩]))))
      (.region false [
        ⟨some 50, none, .mov (.t 9)⟩,
        ⟨some 51, none, .bin .sub (.t 50) (.c (.int .i64 1))⟩,
        ⟨some 9, none, .mov (.t 51)⟩])))))))
    (.region false [
      ⟨some 43, none, .mov (.t 8)⟩,
      ⟨some 44, none, .bin .sub (.t 43) (.c (.int .i64 1))⟩,
      ⟨some 8, none, .mov (.t 44)⟩]))))))
  (.seq (.region false [
    ⟨some 10, none, .alloc 100 [(.slice none 0 0), (.string ⟨#[]⟩), (.int .i64 0)]⟩])
  (.seq (.region false [
    ⟨some 11, none, .mov (.c (.int .i64 0))⟩,
    ⟨some 12, none, .mov (.c (.int .i64 0))⟩])
  (.seq (.block 6 (.loop (.seq (.seq (.region false [
      ⟨some 98, none, .mov (.t 11)⟩,
      ⟨some 99, none, .mov (.t 0)⟩,
      ⟨some 100, none, .len true (.t 99)⟩,
      ⟨some 101, none, .bin .lss (.t 98) (.t 100)⟩,
      ⟨some 102, none, .mov (.t 101)⟩,
      ⟨some 103, some (102, true), .mov (.t 12)⟩,
      ⟨some 104, some (102, true), .mov (.t 1)⟩,
      ⟨some 105, some (102, true), .len true (.t 104)⟩,
      ⟨some 106, some (102, true), .bin .lss (.t 103) (.t 105)⟩,
      ⟨some 107, none, .pick (.t 102) (.t 106) (.c (.bool false))⟩])
    (.cond (.t 107)
      (.skip)
      (.exit 6)))
    (.block 7 (.block 8 (.seq (.region true [
      ⟨some 117, none, .mov (.t 0)⟩,
      ⟨some 118, none, .mov (.t 11)⟩,
      ⟨some 119, none, .ixs (.t 117) (.t 118)⟩,
      ⟨some 120, none, .mov (.t 1)⟩,
      ⟨some 121, none, .mov (.t 12)⟩,
      ⟨some 122, none, .ixs (.t 120) (.t 121)⟩,
      ⟨some 123, none, .bin .eql (.t 119) (.t 122)⟩,
      ⟨some 116, none, .mov (.t 123)⟩])
    (.cond (.t 116)
      (.seq (.region false [
        ⟨some 124, none, .call 57 [(.t 10), (.c (.int .i64 1))]⟩])
      (.seq (.region false [
        ⟨some 125, none, .mov (.t 11)⟩,
        ⟨some 126, none, .bin .add (.t 125) (.c (.int .i64 1))⟩,
        ⟨some 11, none, .mov (.t 126)⟩])
      (.region false [
        ⟨some 127, none, .mov (.t 12)⟩,
        ⟨some 128, none, .bin .add (.t 127) (.c (.int .i64 1))⟩,
        ⟨some 12, none, .mov (.t 128)⟩])))
      (.seq (.region true [
        ⟨some 130, none, .mov (.t 6)⟩,
        ⟨some 131, none, .mov (.t 11)⟩,
        ⟨some 132, none, .bin .add (.t 131) (.c (.int .i64 1))⟩,
        ⟨some 133, none, .iaddr 1 (.t 130) (.t 132)⟩,
        ⟨some 134, none, .load1 (.t 133)⟩,
        ⟨some 135, none, .mov (.t 12)⟩,
        ⟨some 136, none, .iaddr 1 (.t 134) (.t 135)⟩,
        ⟨some 137, none, .load1 (.t 136)⟩,
        ⟨some 138, none, .mov (.t 6)⟩,
        ⟨some 139, none, .mov (.t 11)⟩,
        ⟨some 140, none, .iaddr 1 (.t 138) (.t 139)⟩,
        ⟨some 141, none, .load1 (.t 140)⟩,
        ⟨some 142, none, .mov (.t 12)⟩,
        ⟨some 143, none, .bin .add (.t 142) (.c (.int .i64 1))⟩,
        ⟨some 144, none, .iaddr 1 (.t 141) (.t 143)⟩,
        ⟨some 145, none, .load1 (.t 144)⟩,
        ⟨some 146, none, .bin .geq (.t 137) (.t 145)⟩,
        ⟨some 129, none, .mov (.t 146)⟩])
      (.cond (.t 129)
        (.seq (.region false [
          ⟨some 147, none, .call 58 [(.t 10), (.c (.int .i64 1))]⟩])
        (.region false [
          ⟨some 148, none, .mov (.t 11)⟩,
          ⟨some 149, none, .bin .add (.t 148) (.c (.int .i64 1))⟩,
          ⟨some 11, none, .mov (.t 149)⟩]))
        (.seq (.region false [
          ⟨some 108, none, .mov (.t 1)⟩,
          ⟨some 109, none, .mov (.t 12)⟩,
          ⟨some 110, none, .mov (.t 12)⟩,
          ⟨some 111, none, .bin .add (.t 110) (.c (.int .i64 1))⟩,
          ⟨some 112, none, .slstr (.t 108) (some (.t 109)) (some (.t 111))⟩,
          ⟨some 113, none, .call 59 [(.t 10), (.t 112)]⟩])
        (.region false [
          ⟨some 114, none, .mov (.t 12)⟩,
          ⟨some 115, none, .bin .add (.t 114) (.c (.int .i64 1))⟩,
          ⟨some 12, none, .mov (.t 115)⟩])))))))))))
  (.seq (.region false [
    ⟨some 150, none, .mov (.t 0)⟩,
    ⟨some 151, none, .len true (.t 150)⟩,
    ⟨some 152, none, .mov (.t 11)⟩,
    ⟨some 153, none, .bin .sub (.t 151) (.t 152)⟩,
    ⟨some 154, none, .call 58 [(.t 10), (.t 153)]⟩])
  (.seq (.region false [
    ⟨some 155, none, .mov (.t 1)⟩,
    ⟨some 156, none, .mov (.t 12)⟩,
    ⟨some 157, none, .slstr (.t 155) (some (.t 156)) none⟩,
    ⟨some 158, none, .call 59 [(.t 10), (.t 157)]⟩])
  (.seq (.region false [
    ⟨some 159, none, .call 60 [(.t 10)]⟩,
    ⟨some 4, none, .mov (.t 159)⟩,
    ⟨some 5, none, .mov (.c (.int .i64 0))⟩])
  (.ret)))))))))))
theorem ok_diff : FnOk Try.prog 27 Try.f27 ac_diff [.t 4, .t 5] 2 drawD := ⟨Try.func27, by decide +kernel, by kernel_rfl, by kernel_rfl, by decide +kernel⟩
theorem sat_eqN {P : Prim} (hP : P = std) (s : List UInt8) (k : Nat) : P.sat s (k : Int) = ((s.getD k 0).toNat : Int) := by subst hP; rfl
structure YD1 (N : Nat) where
  m : Nat
  k : Int
  bs : Nat → Option Nat
  hm : m ≤ N
  hk : k = (m : Int)
structure YD4 (s t : List UInt8) where
  i : Nat
  j : Nat
  ki : Int
  kj : Int
  m : Mk
  n : Nat
  put : List UInt8
  cut : Int
  rows : List (List V)
  ba : Option Nat
  hi : i ≤ s.length
  hj : j ≤ t.length
  hki : ki = (i : Int)
  hkj : kj = (j : Int)
  hm : n = m.out.length ∧ rows = m.out.map encPart ∧ put = m.put ∧ cut = m.cut
  hrun : mkD (diffT s t) = (m.run (diffT (s.drop i) (t.drop j))).flush
  hb : m.Bd (i + j) (i + j)
/-- the table is a value, and what is being made has a name -/
theorem tb_start {bb : Option Nat} {bm N w : Nat} {bs : Nat → Option Nat} {tab : Nat → List Int} (hw : ∀ j, j < N → (tab j).length = w) {s : S} (hi : s.t 6 = .own 1000024 bb 1 N) (h0 : s.h 1000024 = some ⟨bb, 49, 1, tbRows N N w bs⟩)
    (hr : ∀ j, j < N → s.h (tbKey j) = some ⟨bs j, 3, 1, iRows (tab j)⟩) (h10 : s.h 10 = some ⟨some bm, 100, 3, [[.nilsl, .str [], .int .i64 0]]⟩) (h999 : s.h 1000999 = none) :
    ∃ s1, Ent s s1 ∧ s1.t = upd s.t 6 (.sl false 1 (tbV N tab)) ∧ s1.h 10 = some ⟨some bm, 100, 3, [[.own 1000999 none 3 0, .str [], .int .i64 0]]⟩ ∧ s1.h 1000999 = some ⟨none, 111, 3, []⟩ := by
  obtain ⟨s1, e1, e2, e3⟩ := tb_freeze hw hi h0 hr
  have g := Ent.nilcell (s := s1) (k := 10) (k' := 1000999) (ty := 111) (sz := 3) (r := 0) (c := 0) ((e3 10 (by decide) (by decide)).trans h10) rfl rfl ((e3 1000999 (by decide) (by decide)).trans h999)
  exact ⟨_, e1.trans g, e2, rfl, rfl⟩
structure YD2 (n : Nat) where
  i : Nat
  k : Int
  hi : i ≤ n
  hk : k = (i : Int) - 1
/-- the table when row i is done from place k on -/
def tabF (s t : List UInt8) (i k : Nat) : Nat → List Int := fun j => (List.range (t.length + 1)).map fun c => if i < j ∨ (j = i ∧ k ≤ c) then (lcs (s.drop j) (t.drop c) : Int) else 0
theorem tabF_len (s t : List UInt8) (i k j : Nat) : (tabF s t i k j).length = t.length + 1 := by simp [tabF]
theorem tabF_get {s t : List UInt8} {i k j c : Nat} (h : c < t.length + 1) : (tabF s t i k j)[c]? = some (if i < j ∨ (j = i ∧ k ≤ c) then (lcs (s.drop j) (t.drop c) : Int) else 0) := by
  unfold tabF
  rw [List.getElem?_map, List.getElem?_range h]; rfl
theorem tabF_ext {s t : List UInt8} {i k j : Nat} {l : List Int} (hl : l.length = t.length + 1) (h : ∀ c, c < t.length + 1 → l[c]? = some (if i < j ∨ (j = i ∧ k ≤ c) then (lcs (s.drop j) (t.drop c) : Int) else 0)) : tabF s t i k j = l := by
  refine List.ext_getElem? fun c => ?_
  by_cases hc : c < t.length + 1
  · rw [tabF_get hc, h c hc]
  · rw [List.getElem?_eq_none (by rw [tabF_len]; omega), List.getElem?_eq_none (by omega)]
theorem tabF_start (s t : List UInt8) (j : Nat) (hj : j < s.length + 1) : tabF s t s.length 0 j = List.replicate (t.length + 1) 0 := by
  refine tabF_ext (by simp) fun c hc => ?_
  rw [List.getElem?_replicate, if_pos hc]
  split
  · rename_i h
    have : j = s.length := by omega
    subst this
    rw [List.drop_length, lcs_nil_left]; rfl
  · rfl
theorem tabF_row (s t : List UInt8) (i j : Nat) : tabF s t i t.length j = tabF s t (i + 1) 0 j := by
  refine tabF_ext (tabF_len _ _ _ _ _) fun c hc => ?_
  rw [tabF_get hc]
  by_cases h : i < j
  · rw [if_pos (by omega), if_pos (.inl h)]
  · rw [if_neg (by omega)]
    split
    · rename_i h2
      have : c = t.length := by omega
      subst this
      rw [List.drop_length, lcs_nil_right]; rfl
    · rfl
theorem tabF_other {s t : List UInt8} {i k k' j : Nat} (h : j ≠ i) : tabF s t i k j = tabF s t i k' j := by
  refine tabF_ext (tabF_len _ _ _ _ _) fun c hc => ?_
  rw [tabF_get hc]
  by_cases g : i < j
  · rw [if_pos (.inl g), if_pos (.inl g)]
  · rw [if_neg (by omega), if_neg (by omega)]
theorem tabF_set {s t : List UInt8} {i k : Nat} (hk : k < t.length) {v : Int} (hv : v = (lcs (s.drop i) (t.drop k) : Int)) : (tabF s t i (k + 1) i).set k v = tabF s t i k i := by
  symm
  refine tabF_ext (by rw [List.length_set, tabF_len]) fun c hc => ?_
  by_cases h : c = k
  · subst h
    rw [List.getElem?_set_self (by rw [tabF_len]; omega), if_pos (.inr ⟨rfl, Nat.le_refl _⟩), hv]
  · rw [List.getElem?_set_ne (fun e => h e.symm), tabF_get hc]
    by_cases g : k ≤ c
    · rw [if_pos (.inr ⟨rfl, by omega⟩), if_pos (.inr ⟨rfl, g⟩)]
    · rw [if_neg (by omega), if_neg (by omega)]
theorem lcs_step {s t : List UInt8} {i k : Nat} (hi : i < s.length) (hk : k < t.length) : lcs (s.drop i) (t.drop k) = if s.getD i 0 = t.getD k 0 then 1 + lcs (s.drop (i + 1)) (t.drop (k + 1)) else max (lcs (s.drop (i + 1)) (t.drop k)) (lcs (s.drop i) (t.drop (k + 1))) := by
  have e1 : s.getD i 0 = s[i] := by rw [List.getD_eq_getElem?_getD, List.getElem?_eq_getElem hi]; rfl
  have e2 : t.getD k 0 = t[k] := by rw [List.getD_eq_getElem?_getD, List.getElem?_eq_getElem hk]; rfl
  rw [List.drop_eq_getElem_cons hi, List.drop_eq_getElem_cons hk, lcs_cons, e1, e2]
theorem diff_step {s t : List UInt8} {i k : Nat} (hi : i < s.length) (hk : k < t.length) : diffT (s.drop i) (t.drop k) = if s.getD i 0 = t.getD k 0 then .keep :: diffT (s.drop (i + 1)) (t.drop (k + 1))
    else if lcs (s.drop i) (t.drop (k + 1)) ≤ lcs (s.drop (i + 1)) (t.drop k) then .cut :: diffT (s.drop (i + 1)) (t.drop k) else .put (t.getD k 0) :: diffT (s.drop i) (t.drop (k + 1)) := by
  have e1 : s.getD i 0 = s[i] := by rw [List.getD_eq_getElem?_getD, List.getElem?_eq_getElem hi]; rfl
  have e2 : t.getD k 0 = t[k] := by rw [List.getD_eq_getElem?_getD, List.getElem?_eq_getElem hk]; rfl
  rw [List.drop_eq_getElem_cons hi, List.drop_eq_getElem_cons hk, diffT_cons, e1, e2]
def zeroTb (w : Nat) : Nat → List Int := fun _ => List.replicate w 0
theorem vc_diff (P : Prim) (hP : P = std) (T T1 : CallT) (s t : List UInt8)
    (hkeep : ∀ k : Int, 0 ≤ k ∧ k ≤ 1000000 → MkC T 57 [.int .i64 k] (fun m => ∃ j w, m.Bd j w ∧ j ≤ 2000000) (fun m => m.doKeep k) unitR)
    (hput : ∀ s : List UInt8, s.length ≤ 1000000000 → MkC T 59 [.str s] (fun m => m.put.length + s.length ≤ 1000000000) (fun m => m.doPut s) unitR)
    (hcut : ∀ k : Int, 0 ≤ k ∧ k ≤ 1000000 → MkC T 58 [.int .i64 k] (fun m => ∃ j w, m.Bd j w ∧ j ≤ 2000000) (fun m => m.doCut k) unitR)
    (hdone : MkC T 60 [] (fun m => m.out.length ≤ 100000000) (fun m => ⟨m.flush, [], 0⟩) doneR)
    (r : List Part) (e : Int) (hr : diffF s t = (r, e)) (rr : List (List V)) (hrr : rr = r.map encPart)
    (R : S → Prop) (hR : ∀ e2, e2 = e → RetSl [.t 4, .t 5] 3 rr [.int .i64 e2] R) : awp P T T1 ac_diff (S0 [.str s, .str t] Hp.emp) R (fun _ _ => False) R := by
  have hsp : P.slen s = (s.length : Int) := slen_eq hP s
  have htp : P.slen t = (t.length : Int) := slen_eq hP t
  unfold diffF at hr
  have bad : 500 < s.length ∨ 500 < t.length → rr = [] ∧ 2 = e := fun h => by
    rw [if_pos h] at hr
    simp only [Prod.mk.injEq] at hr
    exact ⟨by rw [hrr, ← hr.1]; rfl, hr.2⟩
  cbv
  refine br_cases (fun g => ?_) (fun g => ?_)
  · have g1 : 500 < P.slen s := lt_t hP g
    rw [hsp] at g1
    have hb := bad (.inl (by ((try simp only [nc] at *); omega)))
    cbv
    exact (hR _ hb.2).1 _ _ (Ent.refl _) rfl hb.1
  have g1 : ¬ 500 < P.slen s := lt_f hP g
  rw [hsp] at g1
  cbv
  refine br_cases (fun g => ?_) (fun g => ?_)
  · have g2 : 500 < P.slen t := lt_t hP g
    rw [htp] at g2
    have hb := bad (.inr (by ((try simp only [nc] at *); omega)))
    cbv
    exact (hR _ hb.2).1 _ _ (Ent.refl _) rfl hb.1
  have g2 : ¬ 500 < P.slen t := lt_f hP g
  rw [htp] at g2
  rw [if_neg (by ((try simp only [nc] at *); omega))] at hr
  simp only [Prod.mk.injEq] at hr
  clear bad g
  have hsl : s.length ≤ 500 := by ((try simp only [nc] at *); omega)
  have htl : t.length ≤ 500 := by ((try simp only [nc] at *); omega)
  obtain ⟨N, hN⟩ : ∃ N, N = s.length + 1 := ⟨_, rfl⟩
  obtain ⟨w, hw⟩ : ∃ w, w = t.length + 1 := ⟨_, rfl⟩
  have sn : P.add (P.slen s) 1 = (N : Int) := by rw [add_eq hP, hsp, hN]; ((try simp only [nc] at *); omega)
  have tn : P.add (P.slen t) 1 = (w : Int) := by rw [add_eq hP, htp, hw]; ((try simp only [nc] at *); omega)
  have s1 : P.i64 (P.add (P.slen s) 1) := by rw [sn]; exact i64I hP (by ((try simp only [nc] at *); omega))
  have t1 : P.i64 (P.add (P.slen t) 1) := by rw [tn]; exact i64I hP (by ((try simp only [nc] at *); omega))
  have s2 : P.leP 0 (P.add (P.slen s) 1) := le0 hP (by rw [sn]; ((try simp only [nc] at *); omega))
  have t2 : P.leP 0 (P.add (P.slen t) 1) := le0 hP (by rw [tn]; ((try simp only [nc] at *); omega))
  have s3 : P.bytes (P.add (P.slen s) 1) 24 := by rw [sn]; subst hP; show (N : Int) * 24 ≤ _; ((try simp only [nc] at *); omega)
  have t3 : P.bytes (P.add (P.slen t) 1) 8 := by rw [tn]; subst hP; show (w : Int) * 8 ≤ _; ((try simp only [nc] at *); omega)
  have s4 : P.leP (P.add (P.slen s) 1) 140737488355328 := leI hP (by rw [sn]; ((try simp only [nc] at *); omega))
  have t4 : P.leP (P.add (P.slen t) 1) 140737488355328 := leI hP (by rw [tn]; ((try simp only [nc] at *); omega))
  have s5 : P.nat (P.add (P.slen s) 1) = N := by rw [sn]; subst hP; rfl
  have t5 : P.nat (P.add (P.slen t) 1) = w := by rw [tn]; subst hP; rfl
  have s6 : ∀ bs, P.rrep (P.add (P.slen s) 1) [.nilsl] = tbRows N 0 w bs := by
    intro bs; rw [sn]; subst hP
    show List.replicate N [V.nilsl] = _
    refine List.ext_getElem? fun i => ?_
    by_cases hi : i < N
    · rw [tbRows_get hi, if_neg (Nat.not_lt_zero _), List.getElem?_replicate, if_pos hi]
    · rw [List.getElem?_eq_none (by simp; omega), List.getElem?_eq_none (by rw [tbRows_len]; omega)]
  have t6 : P.rrep (P.add (P.slen t) 1) [.int .i64 0] = iRows (List.replicate w 0) := by rw [tn]; subst hP; simp [std, iRows]
  have s7 : P.int N = (N : Int) := int_eq hP N
  cbv
  repeat' (first
    | (refine And.intro (by first | assumption | rfl) ?_; try cbv)
    | (intro β; try cbv))
  refine ⟨YD1 N, fun y => [(0, .str s), (1, .str t), (6, .own 1000024 (some β) 1 (P.nat (P.add (P.slen s) 1))), (25, .own 1000024 (some β) 1 (P.nat (P.add (P.slen s) 1))), (26, .int .i64 (P.int (P.nat (P.add (P.slen s) 1)))), (27, .int .i64 y.k)],
    fun y => tbH (some β) N y.m w y.bs (zeroTb w), fun y => N - y.m,
    ⟨_, Ent.refl _, ⟨0, 0, fun _ => none, by omega, rfl⟩, ⟨rfl, rfl, rfl, rfl, rfl, rfl, trivial⟩, agree_tb (congrArg (fun r => some (⟨some β, 49, 1, r⟩ : Ob)) (s6 _)) (fun j h => absurd h (Nat.not_lt_zero _))⟩, ?_⟩
  rintro ⟨m, k, bs, hm, hk⟩
  obtain ⟨heap, hheap⟩ : ∃ heap, lookH (tbH (some β) N m w bs (zeroTb w)) = heap := ⟨_, rfl⟩
  show awp P T T1 _ ⟨look _, lookH (tbH (some β) N m w bs (zeroTb w))⟩ _ _ _
  rw [hheap]
  have hk24 : heap 1000024 = some ⟨some β, 49, 1, tbRows N m w bs⟩ := by rw [← hheap]; exact tbH_top _ _ _ _ _ _
  obtain ⟨tr, htr⟩ : ∃ tr, tr = tbRows N m w bs := ⟨_, rfl⟩
  rw [← htr] at hk24
  have hk35 : heap 1000035 = none := by rw [← hheap]; exact tbH_none (by decide) (fun j _ => by unfold tbKey; omega)
  cbv
  refine br_cases (fun g => ?_) (fun g => ?_)
  · have h5 : k < P.int (P.nat (P.add (P.slen s) 1)) := lt_t hP g
    rw [s5, s7, hk] at h5
    have hmN : m < N := by ((try simp only [nc] at *); omega)
    have k0 : P.leP 0 k := le0 hP (by ((try simp only [nc] at *); omega))
    have k1 : P.ltP k (P.int (P.nat (P.add (P.slen s) 1))) := ltI hP (lt_t hP g)
    have k2 : P.i64 (P.add k 1) := by rw [add_eq hP]; exact i64I hP (by ((try simp only [nc] at *); omega))
    have k3 : P.add k 1 = ((m + 1 : Nat) : Int) := by rw [add_eq hP, hk]; ((try simp only [nc] at *); omega)
    have k4 : P.row tr (P.nat k) [.nilsl] := row_of hP hk (by rw [htr, tbRows_get hmN, if_neg (by omega)])
    cbv
    repeat' (first
      | (refine And.intro (by first | assumption | rfl) ?_; try cbv)
      | (intro βi; try cbv))
    rw [hk24]
    refine ⟨rfl, rfl, _, k4, Nat.le_refl 1, ⟨rfl, rfl⟩, ?_⟩
    cbv
    refine ⟨k2, ?_⟩
    refine (tb_step (bi := some βi) (rows2 := P.rset tr (P.nat k) [.own 1000035 (some βi) 1 (P.nat (P.add (P.slen t) 1))]) (inner := P.rrep (P.add (P.slen t) 1) [.int .i64 0]) hheap hmN ?hs ?hin ?hrows).elim fun s1 h => ⟨s1, h.1, ⟨m + 1, P.add k 1, fun i => if i = m then some βi else bs i, hmN, k3⟩, ⟨(congrFun h.2.1 0).trans rfl, (congrFun h.2.1 1).trans rfl, (congrFun h.2.1 6).trans rfl, (congrFun h.2.1 25).trans rfl, (congrFun h.2.1 26).trans rfl, (congrFun h.2.1 27).trans rfl, trivial⟩, h.2.2, by show N - (m + 1) < N - m; omega⟩
    case hs => rfl
    case hin => exact t6
    case hrows =>
      have : P.nat k = m := by rw [hk]; subst hP; rfl
      show P.rset tr (P.nat k) [.own 1000035 (some _) 1 (P.nat (P.add (P.slen t) 1))] = _
      rw [this, t5, htr]; subst hP; rfl
  have h5 : ¬ k < P.int (P.nat (P.add (P.slen s) 1)) := lt_f hP g
  rw [s5, s7, hk] at h5
  have hmN : m = N := by ((try simp only [nc] at *); omega)
  subst hmN
  have sm : P.i64 (P.sub (P.slen s) 1) := by rw [sub_eq hP, hsp]; exact i64I hP (by ((try simp only [nc] at *); omega))
  have tm : P.i64 (P.sub (P.slen t) 1) := by rw [sub_eq hP, htp]; exact i64I hP (by ((try simp only [nc] at *); omega))
  have hz : ∀ j, j < m → heap (tbKey j) = some ⟨bs j, 3, 1, iRows (tabF s t s.length 0 j)⟩ := fun j hj => by
    rw [← hheap, tbH_row hj, tabF_start s t j (by omega)]
    show some (⟨bs j, 3, 1, iRows (List.replicate w 0)⟩ : Ob) = _
    rw [hw]
  clear h5 g s6 t6
  cbv
  refine ⟨sm, ?_⟩
  refine ⟨YD2 s.length, fun y => [(0, .str s), (1, .str t), (6, .own 1000024 (some β) 1 (P.nat (P.add (P.slen s) 1))), (8, .int .i64 y.k)],
    fun y => tbH (some β) m m w bs (tabF s t y.i 0), fun y => y.i,
    ⟨_, Ent.refl _, ⟨s.length, P.sub (P.slen s) 1, Nat.le_refl _, by rw [sub_eq hP, hsp]⟩, ⟨rfl, rfl, rfl, rfl, trivial⟩, agree_tb (by rw [← htr]; exact hk24) hz⟩, ?_⟩
  clear hz hk24 hk35 hheap htr
  clear heap
  rintro ⟨i, k8, hi, hk8⟩
  replace hk8 : k8 = (i : Int) - 1 := hk8
  show awp P T T1 _ ⟨look _, lookH (tbH (some β) m m w bs (tabF s t i 0))⟩ _ _ _
  obtain ⟨heap, hheap⟩ : ∃ heap, lookH (tbH (some β) m m w bs (tabF s t i 0)) = heap := ⟨_, rfl⟩
  rw [hheap]
  cbv
  refine br_cases (fun g => ?_) (fun g => ?_)
  · have g5 := le_t hP g
    obtain ⟨i, rfl⟩ : ∃ i', i = i' + 1 := ⟨i - 1, by ((try simp only [nc] at *); omega)⟩
    have k80 : P.leP 0 k8 := le0 hP (by ((try simp only [nc] at *); omega))
    have k8e : k8 = (i : Int) := by ((try simp only [nc] at *); omega)
    have k8s : P.i64 (P.sub k8 1) := by rw [sub_eq hP]; exact i64I hP (by ((try simp only [nc] at *); omega))
    have k8n : P.sub k8 1 = (i : Int) - 1 := by rw [sub_eq hP, k8e]
    have hz : ∀ j, j < m → heap (tbKey j) = some ⟨bs j, 3, 1, iRows (tabF s t i t.length j)⟩ := fun j hj => by
      rw [← hheap, tbH_row hj, tabF_row]
    have hk24 : heap 1000024 = some ⟨some β, 49, 1, tbRows m m w bs⟩ := by rw [← hheap]; exact tbH_top _ _ _ _ _ _
    cbv
    refine ⟨tm, ?_⟩
    refine ⟨YD2 t.length, fun y => [(0, .str s), (1, .str t), (6, .own 1000024 (some β) 1 (P.nat (P.add (P.slen s) 1))), (8, .int .i64 k8), (9, .int .i64 y.k)],
      fun y => tbH (some β) m m w bs (tabF s t i y.i), fun y => y.i,
      ⟨_, Ent.refl _, ⟨t.length, P.sub (P.slen t) 1, Nat.le_refl _, by rw [sub_eq hP, htp]⟩, ⟨rfl, rfl, rfl, rfl, rfl, trivial⟩, agree_tb hk24 hz⟩, ?_⟩
    clear hz hk24 hheap
    clear heap
    rintro ⟨j, k9, hj, hk9⟩
    replace hk9 : k9 = (j : Int) - 1 := hk9
    show awp P T T1 _ ⟨look _, lookH (tbH (some β) m m w bs (tabF s t i j))⟩ _ _ _
    obtain ⟨heap, hheap⟩ : ∃ heap, lookH (tbH (some β) m m w bs (tabF s t i j)) = heap := ⟨_, rfl⟩
    rw [hheap]
    cbv
    refine br_cases (fun g => ?_) (fun g => ?_)
    · have g6 := le_t hP g
      obtain ⟨j, rfl⟩ : ∃ j', j = j' + 1 := ⟨j - 1, by ((try simp only [nc] at *); omega)⟩
      have k9e : k9 = (j : Int) := by ((try simp only [nc] at *); omega)
      have k90 : P.leP 0 k9 := le0 hP (by ((try simp only [nc] at *); omega))
      have k8l : P.ltP k8 (P.slen s) := ltI hP (by rw [hsp]; ((try simp only [nc] at *); omega))
      have k9l : P.ltP k9 (P.slen t) := ltI hP (by rw [htp]; ((try simp only [nc] at *); omega))
      have k9s : P.i64 (P.sub k9 1) := by rw [sub_eq hP]; exact i64I hP (by ((try simp only [nc] at *); omega))
      have k9n : P.sub k9 1 = (j : Int) - 1 := by rw [sub_eq hP, k9e]
      have k8a : P.i64 (P.add k8 1) := by rw [add_eq hP]; exact i64I hP (by ((try simp only [nc] at *); omega))
      have k9a : P.i64 (P.add k9 1) := by rw [add_eq hP]; exact i64I hP (by ((try simp only [nc] at *); omega))
      have k8p : P.add k8 1 = ((i + 1 : Nat) : Int) := by rw [add_eq hP, k8e]; ((try simp only [nc] at *); omega)
      have k9p : P.add k9 1 = ((j + 1 : Nat) : Int) := by rw [add_eq hP, k9e]; ((try simp only [nc] at *); omega)
      have k8q : P.leP 0 (P.add k8 1) := le0 hP (by rw [k8p]; ((try simp only [nc] at *); omega))
      have k9q : P.leP 0 (P.add k9 1) := le0 hP (by rw [k9p]; ((try simp only [nc] at *); omega))
      have k8r : P.ltP k8 (P.int (P.nat (P.add (P.slen s) 1))) := ltI hP (by rw [s5, s7]; ((try simp only [nc] at *); omega))
      have k8t : P.ltP (P.add k8 1) (P.int (P.nat (P.add (P.slen s) 1))) := ltI hP (by rw [s5, s7, k8p]; ((try simp only [nc] at *); omega))
      have w7 : P.int w = (w : Int) := int_eq hP w
      have k9r : P.ltP k9 (P.int w) := ltI hP (by rw [w7]; ((try simp only [nc] at *); omega))
      have k9t : P.ltP (P.add k9 1) (P.int w) := ltI hP (by rw [w7, k9p]; ((try simp only [nc] at *); omega))
      obtain ⟨tr, htr⟩ : ∃ tr, tr = tbRows m m w bs := ⟨_, rfl⟩
      obtain ⟨q0, hq0⟩ : ∃ q, q = tbKey i := ⟨_, rfl⟩
      obtain ⟨q1, hq1⟩ : ∃ q, q = tbKey (i + 1) := ⟨_, rfl⟩
      obtain ⟨b0, hb0⟩ : ∃ b, b = bs i := ⟨_, rfl⟩
      obtain ⟨b1, hb1⟩ : ∃ b, b = bs (i + 1) := ⟨_, rfl⟩
      obtain ⟨r0, hr0⟩ : ∃ r, r = iRows (tabF s t i (j + 1) i) := ⟨_, rfl⟩
      obtain ⟨r1, hr1⟩ : ∃ r, r = iRows (tabF s t i (j + 1) (i + 1)) := ⟨_, rfl⟩
      have big0 : 1000000 ≤ q0 := by rw [hq0]; unfold tbKey; omega
      have big1 : 1000000 ≤ q1 := by rw [hq1]; unfold tbKey; omega
      have hk24 : heap 1000024 = some ⟨some β, 49, 1, tr⟩ := by rw [← hheap, htr]; exact tbH_top _ _ _ _ _ _
      have hkq0 : heap q0 = some ⟨b0, 3, 1, r0⟩ := by rw [← hheap, hq0, hb0, hr0]; exact tbH_row (by omega)
      have hkq1 : heap q1 = some ⟨b1, 3, 1, r1⟩ := by rw [← hheap, hq1, hb1, hr1]; exact tbH_row (by omega)
      have row0 : P.row tr (P.nat k8) [.own q0 b0 1 w] := row_of hP k8e (by rw [htr, tbRows_get (by omega), if_pos (by omega), hq0, hb0])
      have row1 : P.row tr (P.nat (P.add k8 1)) [.own q1 b1 1 w] := row_of hP k8p (by rw [htr, tbRows_get (by omega), if_pos (by omega), hq1, hb1])
      have c0 : P.row r0 (P.nat (P.add k9 1)) [.int .i64 (lcs (s.drop i) (t.drop (j + 1)) : Int)] := row_of hP k9p (by rw [hr0, iRows, List.getElem?_map, tabF_get (by omega), if_pos (.inr ⟨rfl, Nat.le_refl _⟩)]; rfl)
      have c1 : P.row r1 (P.nat (P.add k9 1)) [.int .i64 (lcs (s.drop (i + 1)) (t.drop (j + 1)) : Int)] := row_of hP k9p (by rw [hr1, iRows, List.getElem?_map, tabF_get (by omega), if_pos (.inl (Nat.lt_succ_self i))]; rfl)
      have c2 : P.row r1 (P.nat k9) [.int .i64 (lcs (s.drop (i + 1)) (t.drop j) : Int)] := row_of hP k9e (by rw [hr1, iRows, List.getElem?_map, tabF_get (by omega), if_pos (.inl (Nat.lt_succ_self i))]; rfl)
      have cz : ∃ z, P.row r0 (P.nat k9) [.int .i64 z] := ⟨_, row_of hP k9e (by rw [hr0, iRows, List.getElem?_map, tabF_get (by omega)]; rfl)⟩
      obtain ⟨z, cz⟩ := cz
      have hst := lcs_step (s := s) (t := t) (i := i) (k := j) (by omega) (by omega)
      have lb : ∀ a b : List UInt8, a.length ≤ 500 → lcs a b ≤ 500 := fun a b h => by
        obtain ⟨l, h1, _, h3⟩ := lcs_ex a b
        have := h1.length_le
        omega
      have lb1 := lb (s.drop (i + 1)) (t.drop (j + 1)) (by rw [List.length_drop]; omega)
      clear lb
      generalize (lcs (s.drop i) (t.drop (j + 1))) = x01 at c0 hst
      generalize (lcs (s.drop (i + 1)) (t.drop (j + 1))) = x11 at c1 hst lb1
      generalize (lcs (s.drop (i + 1)) (t.drop j)) = x10 at c2 hst
      cbv
      repeat' (first
        | (refine And.intro (by assumption) ?_; try cbv)
        | (intro βi; try cbv))
      have satE : P.sat s k8 = P.sat t k9 ↔ s.getD i 0 = t.getD j 0 := by
        rw [k8e, k9e, sat_eqN hP, sat_eqN hP]
        exact ⟨fun h => UInt8.toNat.inj (by ((try simp only [nc] at *); omega)), fun h => by rw [h]⟩
      have newr : ∀ v : Int, v = (lcs (s.drop i) (t.drop j) : Int) → P.rset r0 (P.nat k9) [.int .i64 v] = iRows (tabF s t i j i) := fun v hv => by
        have hn : P.nat k9 = j := by rw [k9e]; subst hP; rfl
        rw [hr0, hn, ← tabF_set (by omega) hv]
        subst hP
        show (iRows _).set j _ = _
        unfold iRows
        rw [List.map_set]
      refine br_cases (fun g => ?_) (fun g => ?_)
      · have heq : s.getD i 0 = t.getD j 0 := satE.1 (eq_t hP g)
        cbv
        repeat' (first
          | (refine And.intro (by assumption) ?_; try cbv)
          | (intro βi; try cbv))
        rw [hk24]
        refine ⟨rfl, rfl, _, row0, ?_⟩
        cbv
        repeat' (first
          | (refine And.intro (by assumption) ?_; try cbv)
          | (intro βi; try cbv))
        rw [hk24]
        refine ⟨rfl, rfl, _, row1, ?_⟩
        cbv
        repeat' (first
          | (refine And.intro (by assumption) ?_; try cbv)
          | (intro βi; try cbv))
        refine rowP_big hkq1 big1 rfl rfl c1 ?_
        have a1 : P.add 1 (x11 : Int) = ((1 + x11 : Nat) : Int) := by rw [add_eq hP]; ((try simp only [nc] at *); omega)
        have a2 : P.i64 (P.add 1 (x11 : Int)) := by rw [a1]; exact i64I hP (by ((try simp only [nc] at *); omega))
        cbv
        repeat' (first
          | (refine And.intro (by assumption) ?_; try cbv)
          | (intro βi; try cbv))
        refine rowP_big hkq0 big0 rfl rfl cz ⟨Nat.le_refl 1, ⟨rfl, rfl⟩, ?_⟩
        rw [setR_big big0]
        cbv
        repeat' (first
          | (refine And.intro (by assumption) ?_; try cbv)
          | (intro βi; try cbv))
        exact ⟨_, Ent.refl _, ⟨j, P.sub k9 1, by omega, k9n⟩, ⟨rfl, rfl, rfl, rfl, rfl, trivial⟩,
          tb_put (i := i) (b := b0) (rows := P.rset r0 (P.nat k9) [.int .i64 (P.add 1 (x11 : Int))]) (tab' := tabF s t i j) hheap (by omega) (by rw [← hq0]; rfl) hb0 (newr _ (by rw [a1, hst, if_pos heq])) (fun q _ hq => tabF_other hq), Nat.lt_succ_self j⟩
      · have hne : ¬ s.getD i 0 = t.getD j 0 := fun x => eq_f hP g (satE.2 x)
        cbv
        repeat' (first
          | (refine And.intro (by assumption) ?_; try cbv)
          | (intro βi; try cbv))
        rw [hk24]
        refine ⟨rfl, rfl, _, row0, ?_⟩
        cbv
        repeat' (first
          | (refine And.intro (by assumption) ?_; try cbv)
          | (intro βi; try cbv))
        rw [hk24]
        refine ⟨rfl, rfl, _, row1, ?_⟩
        cbv
        repeat' (first
          | (refine And.intro (by assumption) ?_; try cbv)
          | (intro βi; try cbv))
        refine rowP_big hkq1 big1 rfl rfl c2 ?_
        cbv
        repeat' (first
          | (refine And.intro (by assumption) ?_; try cbv)
          | (intro βi; try cbv))
        rw [hk24]
        refine ⟨rfl, rfl, _, row0, ?_⟩
        cbv
        repeat' (first
          | (refine And.intro (by assumption) ?_; try cbv)
          | (intro βi; try cbv))
        refine rowP_big hkq0 big0 rfl rfl c0 ?_
        have a1 : P.mx (x10 : Int) (x01 : Int) = ((max x10 x01 : Nat) : Int) := by rw [mx_eq hP]; ((try simp only [nc] at *); omega)
        cbv
        repeat' (first
          | (refine And.intro (by assumption) ?_; try cbv)
          | (intro βi; try cbv))
        refine rowP_big hkq0 big0 rfl rfl cz ⟨Nat.le_refl 1, ⟨rfl, rfl⟩, ?_⟩
        rw [setR_big big0]
        cbv
        repeat' (first
          | (refine And.intro (by assumption) ?_; try cbv)
          | (intro βi; try cbv))
        exact ⟨_, Ent.refl _, ⟨j, P.sub k9 1, by omega, k9n⟩, ⟨rfl, rfl, rfl, rfl, rfl, trivial⟩,
          tb_put (i := i) (b := b0) (rows := P.rset r0 (P.nat k9) [.int .i64 (P.mx (x10 : Int) (x01 : Int))]) (tab' := tabF s t i j) hheap (by omega) (by rw [← hq0]; rfl) hb0 (newr _ (by rw [a1, hst, if_neg hne])) (fun q _ hq => tabF_other hq), Nat.lt_succ_self j⟩
    · have g6 := le_f hP g
      have hj0 : j = 0 := by ((try simp only [nc] at *); omega)
      subst hj0
      have hk24 : heap 1000024 = some ⟨some β, 49, 1, tbRows m m w bs⟩ := by rw [← hheap]; exact tbH_top _ _ _ _ _ _
      have hz : ∀ j, j < m → heap (tbKey j) = some ⟨bs j, 3, 1, iRows (tabF s t i 0 j)⟩ := fun j hj => by rw [← hheap, tbH_row hj]
      cbv
      refine ⟨k8s, ?_⟩
      exact ⟨_, Ent.refl _, ⟨i, P.sub k8 1, by omega, k8n⟩, ⟨rfl, rfl, rfl, rfl, trivial⟩, agree_tb hk24 hz, Nat.lt_succ_self i⟩
  have g5 := le_f hP g
  have hi0 : i = 0 := by ((try simp only [nc] at *); omega)
  subst hi0
  have hk24 : heap 1000024 = some ⟨some β, 49, 1, tbRows m m w bs⟩ := by rw [← hheap]; exact tbH_top _ _ _ _ _ _
  have hz : ∀ j, j < m → heap (tbKey j) = some ⟨bs j, 3, 1, iRows (tabF s t 0 0 j)⟩ := fun j hj => by rw [← hheap, tbH_row hj]
  have hk10 : heap 10 = none := by rw [← hheap]; exact tbH_none (by decide) (fun j _ => by unfold tbKey; omega)
  have hk999 : heap 1000999 = none := by rw [← hheap]; exact tbH_none (by decide) (fun j _ => by unfold tbKey; omega)
  clear hheap g5 g
  cbv
  repeat' (first
    | (refine And.intro (by assumption) ?_; try cbv)
    | (intro βm; try cbv))
  obtain ⟨tv, htv⟩ : ∃ tv, tv = tbV m (tabF s t 0 0) := ⟨_, rfl⟩
  refine ⟨YD4 s t, fun y => [(0, .str s), (1, .str t), (6, .sl false 1 tv), (10, .ptr 10 (some βm) 3 0 0), (11, .int .i64 y.ki), (12, .int .i64 y.kj)],
    fun y => [(10, ⟨some βm, 100, 3, [[.own 1000999 y.ba 3 y.n, .str y.put, .int .i64 y.cut]]⟩), (1000999, ⟨y.ba, 111, 3, y.rows⟩)], fun y => (s.length - y.i) + (t.length - y.j),
    (tb_start (bb := some β) (bm := βm) (N := m) (w := w) (bs := bs) (tab := tabF s t 0 0) (fun j _ => by rw [tabF_len, hw]) ?hi hk24 ?hr rfl hk999).elim fun s1 h =>
      ⟨s1, h.1, ⟨0, 0, 0, 0, Mk.new, _, _, _, _, none, by omega, by omega, rfl, rfl, ⟨rfl, rfl, rfl, rfl⟩, rfl, Mk.bd_new⟩,
        ⟨(congrFun h.2.1 0).trans rfl, (congrFun h.2.1 1).trans rfl, (congrFun h.2.1 6).trans (by rw [← htv]; rfl), (congrFun h.2.1 10).trans rfl, (congrFun h.2.1 11).trans rfl, (congrFun h.2.1 12).trans rfl, trivial⟩, ⟨h.2.2.1, h.2.2.2, trivial⟩⟩, ?_⟩
  case hi => exact congrArg (fun n => V.own 1000024 (some β) 1 n) s5
  case hr =>
    intro j hj
    show (if tbKey j = 10 then _ else heap (tbKey j)) = _
    rw [if_neg (by unfold tbKey; omega)]
    exact hz j hj
  clear hz hk24 hk10 hk999
  clear heap
  rintro ⟨i, j, ki, kj, mk, n, put, cut, mrows, ba, hi, hj, hki, hkj, hm, hrun, hb⟩
  have hpb := hb.put
  have hcb := hb.cut
  have hlb := hb.len
  have ki0 : P.leP 0 ki := le0 hP (by ((try simp only [nc] at *); omega))
  have kj0 : P.leP 0 kj := le0 hP (by ((try simp only [nc] at *); omega))
  have ki1 : P.i64 (P.add ki 1) := by rw [add_eq hP]; exact i64I hP (by ((try simp only [nc] at *); omega))
  have kj1 : P.i64 (P.add kj 1) := by rw [add_eq hP]; exact i64I hP (by ((try simp only [nc] at *); omega))
  have ki2 : P.add ki 1 = ((i + 1 : Nat) : Int) := by rw [add_eq hP, hki]; ((try simp only [nc] at *); omega)
  have kj2 : P.add kj 1 = ((j + 1 : Nat) : Int) := by rw [add_eq hP, hkj]; ((try simp only [nc] at *); omega)
  have fin : i = s.length ∨ j = t.length → mkD (diffT s t) = ((mk.doCut (P.sub (P.slen s) ki)).doPut (P.ssub t kj (P.slen t))).flush := fun h => by
    have e1 : P.sub (P.slen s) ki = ((s.length - i : Nat) : Int) := by rw [sub_eq hP, hsp, hki]; ((try simp only [nc] at *); omega)
    have e2 : P.ssub t kj (P.slen t) = t.drop j := by
      rw [htp, hkj]; subst hP
      show (t.take ((t.length : Int)).toNat).drop j = _
      rw [Int.toNat_natCast, List.take_length]
    rw [hrun, e1, e2]
    rcases h with h | h
    · rw [h, List.drop_length, diffT_nil_left, Mk.run_put]
      simp [Mk.doCut]
    · rw [h, List.drop_length, diffT_nil_right, Mk.run_cut, List.length_drop]
      simp [Mk.doPut]
  have e5 : P.i64 (P.sub (P.slen s) ki) := by rw [sub_eq hP, hsp]; exact i64I hP (by ((try simp only [nc] at *); omega))
  have e6 : 0 ≤ P.sub (P.slen s) ki := by rw [sub_eq hP, hsp]; ((try simp only [nc] at *); omega)
  have e7 : P.sub (P.slen s) ki ≤ 1000000 := by rw [sub_eq hP, hsp]; ((try simp only [nc] at *); omega)
  have ek : P.ssub t kj (P.slen t) = t.drop j := by
    rw [htp, hkj]; subst hP
    show (t.take ((t.length : Int)).toNat).drop j = _
    rw [Int.toNat_natCast, List.take_length]
  have e8 : (P.ssub t kj (P.slen t)).length ≤ 1000000000 := by rw [ek, List.length_drop]; omega
  have e9 : (mk.doCut (P.sub (P.slen s) ki)).put.length + (P.ssub t kj (P.slen t)).length ≤ 1000000000 := by
    show mk.put.length + _ ≤ _
    rw [ek, List.length_drop]; omega
  have ea : (((mk.doCut (P.sub (P.slen s) ki)).doPut (P.ssub t kj (P.slen t)))).out.length ≤ 100000000 := by show mk.out.length ≤ _; omega
  have eb : P.leP kj (P.slen t) := leI hP (by rw [htp, hkj]; ((try simp only [nc] at *); omega))
  have ec : P.leP (P.slen t) (P.slen t) := leI hP (Int.le_refl _)
  cbv
  refine br_cases (fun g => ?_) (fun g => ?_)
  rotate_left
  · have g1 : ¬ ki < P.slen s := lt_f hP g
    rw [hsp] at g1
    have g4 := fin (.inl (by ((try simp only [nc] at *); omega)))
    clear fin
    cbv
    refine ⟨e5, ?_⟩
    refine hcut _ ⟨e6, e7⟩ _ _ _ _ _ _ _ _ mk _ _ hm ⟨_, _, hb, by omega⟩ rfl rfl rfl fun ba' n' put' cut' rows' hm' => ?_
    cbv
    repeat' (first
      | (refine And.intro (by assumption) ?_; try cbv)
      | (intro βi; try cbv))
    refine hput _ e8 _ _ _ _ _ _ _ _ (mk.doCut (P.sub (P.slen s) ki)) _ _ hm' e9 rfl rfl rfl fun ba2 n2 put2 cut2 rows2 hm2 => ?_
    cbv
    refine hdone _ _ _ _ _ _ _ _ _ _ _ hm2 ea rfl rfl rfl fun ba3 n3 put3 cut3 rows3 hm3 => ?_
    obtain ⟨hn3, hr3, _, _⟩ := hm3
    cbv
    exact (hR _ hr.2).2.1 _ _ _ _ _ _ _ (Ent.refl _) rfl rfl ⟨by rw [hn3, hrr, ← hr.1, g4, List.length_map], by rw [hr3, hrr, ← hr.1, g4]⟩
  · have g1 : ki < P.slen s := lt_t hP g
    rw [hsp] at g1
    cbv
    refine br_cases (fun g => ?_) (fun g => ?_)
    rotate_left
    · have g3 : ¬ kj < P.slen t := lt_f hP g
      rw [htp] at g3
      have g4 := fin (.inr (by ((try simp only [nc] at *); omega)))
      clear fin
      cbv
      refine ⟨e5, ?_⟩
      refine hcut _ ⟨e6, e7⟩ _ _ _ _ _ _ _ _ mk _ _ hm ⟨_, _, hb, by omega⟩ rfl rfl rfl fun ba' n' put' cut' rows' hm' => ?_
      cbv
      repeat' (first
        | (refine And.intro (by assumption) ?_; try cbv)
        | (intro βi; try cbv))
      refine hput _ e8 _ _ _ _ _ _ _ _ (mk.doCut (P.sub (P.slen s) ki)) _ _ hm' e9 rfl rfl rfl fun ba2 n2 put2 cut2 rows2 hm2 => ?_
      cbv
      refine hdone _ _ _ _ _ _ _ _ _ _ _ hm2 ea rfl rfl rfl fun ba3 n3 put3 cut3 rows3 hm3 => ?_
      obtain ⟨hn3, hr3, _, _⟩ := hm3
      cbv
      exact (hR _ hr.2).2.1 _ _ _ _ _ _ _ (Ent.refl _) rfl rfl ⟨by rw [hn3, hrr, ← hr.1, g4, List.length_map], by rw [hr3, hrr, ← hr.1, g4]⟩
    · have g3 : kj < P.slen t := lt_t hP g
      rw [htp] at g3
      have hil : i < s.length := by ((try simp only [nc] at *); omega)
      have hjl : j < t.length := by ((try simp only [nc] at *); omega)
      have k8l : P.ltP ki (P.slen s) := ltI hP (by rw [hsp]; ((try simp only [nc] at *); omega))
      have k9l : P.ltP kj (P.slen t) := ltI hP (by rw [htp]; ((try simp only [nc] at *); omega))
      have satE : P.sat s ki = P.sat t kj ↔ s.getD i 0 = t.getD j 0 := by
        rw [hki, hkj, sat_eqN hP, sat_eqN hP]
        exact ⟨fun h => UInt8.toNat.inj (by ((try simp only [nc] at *); omega)), fun h => by rw [h]⟩
      cbv
      repeat' (first
        | (refine And.intro (by assumption) ?_; try cbv)
        | (intro βi; try cbv))
      have kc := hkeep 1 (by decide)
      have cc := hcut 1 (by decide)
      have pc := hput (P.ssub t kj (P.add kj 1))
      have hst := diff_step hil hjl
      have eu : P.ssub t kj (P.add kj 1) = [t.getD j 0] := by
        rw [kj2, hkj]; subst hP
        show (t.take (j + 1)).drop j = _
        rw [List.take_succ_eq_append_getElem hjl, List.drop_left' (by rw [List.length_take]; omega), List.getD_eq_getElem?_getD, List.getElem?_eq_getElem hjl]; rfl
      have pc2 := pc (by rw [eu]; simp)
      have pc3 : mk.put.length + (P.ssub t kj (P.add kj 1)).length ≤ 1000000000 := by rw [eu]; simp; omega
      have kq : P.leP 0 (P.add ki 1) := le0 hP (by rw [ki2]; ((try simp only [nc] at *); omega))
      have kr : P.leP 0 (P.add kj 1) := le0 hP (by rw [kj2]; ((try simp only [nc] at *); omega))
      have ks : P.leP kj (P.add kj 1) := leI hP (by rw [kj2, hkj]; ((try simp only [nc] at *); omega))
      have kt : P.leP (P.add kj 1) (P.slen t) := leI hP (by rw [kj2, htp]; ((try simp only [nc] at *); omega))
      have tvg : ∀ q, q < m → tv[q]? = some [.sl false 1 (iRows (tabF s t 0 0 q))] := fun q hq => by
        rw [htv]; unfold tbV; rw [List.getElem?_map, List.getElem?_range hq]; rfl
      obtain ⟨r0, hr0⟩ : ∃ r, r = iRows (tabF s t 0 0 i) := ⟨_, rfl⟩
      obtain ⟨r1, hr1⟩ : ∃ r, r = iRows (tabF s t 0 0 (i + 1)) := ⟨_, rfl⟩
      have row0 : P.row tv (P.nat ki) [.sl false 1 r0] := row_of hP hki (by rw [tvg i (by omega), hr0])
      have row1 : P.row tv (P.nat (P.add ki 1)) [.sl false 1 r1] := row_of hP ki2 (by rw [tvg (i + 1) (by omega), hr1])
      have c0 : P.row r0 (P.nat (P.add kj 1)) [.int .i64 (lcs (s.drop i) (t.drop (j + 1)) : Int)] := row_of hP kj2 (by rw [hr0, iRows, List.getElem?_map, tabF_get (by omega), if_pos (by omega)]; rfl)
      have c1 : P.row r1 (P.nat kj) [.int .i64 (lcs (s.drop (i + 1)) (t.drop j) : Int)] := row_of hP hkj (by rw [hr1, iRows, List.getElem?_map, tabF_get (by omega), if_pos (by omega)]; rfl)
      generalize lcs (s.drop i) (t.drop (j + 1)) = x01 at c0 hst
      generalize lcs (s.drop (i + 1)) (t.drop j) = x10 at c1 hst
      clear fin htv tvg
      refine br_cases (fun g => ?_) (fun g => ?_)
      · rw [if_pos (satE.1 (eq_t hP g))] at hst
        cbv
        refine kc _ _ _ _ _ _ _ _ mk _ _ hm ⟨_, _, hb, by omega⟩ rfl rfl rfl fun ba' n' put' cut' rows' hm' => ?_
        cbv
        repeat' (first
          | (refine And.intro (by assumption) ?_; try cbv)
          | (intro βi; try cbv))
        exact ⟨_, Ent.refl _, ⟨i + 1, j + 1, _, _, _, _, _, _, _, _, hil, hjl, ki2, kj2, hm', by rw [hrun, hst]; rfl, (hb.doKeep 1 (by decide)).mono (by show i + j + 1 ≤ _; omega) (by omega)⟩, ⟨rfl, rfl, rfl, rfl, rfl, rfl, trivial⟩, ⟨rfl, rfl, trivial⟩, by show (s.length - (i + 1)) + (t.length - (j + 1)) < (s.length - i) + (t.length - j); omega⟩
      · rw [if_neg (fun x => eq_f hP g (satE.2 x))] at hst
        cbv
        repeat' (first
          | (refine And.intro (by assumption) ?_; try cbv)
          | (intro βi; try cbv))
        refine ⟨_, row1, ?_⟩
        cbv
        repeat' (first
          | (refine And.intro (by assumption) ?_; try cbv)
          | (intro βi; try cbv))
        refine ⟨_, c1, ?_⟩
        cbv
        repeat' (first
          | (refine And.intro (by assumption) ?_; try cbv)
          | (intro βi; try cbv))
        refine ⟨_, row0, ?_⟩
        cbv
        repeat' (first
          | (refine And.intro (by assumption) ?_; try cbv)
          | (intro βi; try cbv))
        refine ⟨_, c0, ?_⟩
        cbv
        refine br_cases (fun g => ?_) (fun g => ?_)
        · have g7 : (x01 : Int) ≤ (x10 : Int) := le_t hP g
          rw [if_pos (by ((try simp only [nc] at *); omega))] at hst
          cbv
          refine cc _ _ _ _ _ _ _ _ mk _ _ hm ⟨_, _, hb, by omega⟩ rfl rfl rfl fun ba' n' put' cut' rows' hm' => ?_
          cbv
          repeat' (first
            | (refine And.intro (by assumption) ?_; try cbv)
            | (intro βi; try cbv))
          exact ⟨_, Ent.refl _, ⟨i + 1, j, _, _, _, _, _, _, _, _, hil, hj, ki2, hkj, hm', by rw [hrun, hst]; rfl, (hb.doCut 1 (by decide)).mono (by show i + j + 1 ≤ _; omega) (by omega)⟩, ⟨rfl, rfl, rfl, rfl, rfl, rfl, trivial⟩, ⟨rfl, rfl, trivial⟩, by show (s.length - (i + 1)) + (t.length - j) < (s.length - i) + (t.length - j); omega⟩
        · have g7 : ¬ (x01 : Int) ≤ (x10 : Int) := le_f hP g
          rw [if_neg (by ((try simp only [nc] at *); omega))] at hst
          cbv
          repeat' (first
            | (refine And.intro (by assumption) ?_; try cbv)
            | (intro βi; try cbv))
          refine pc2 _ _ _ _ _ _ _ _ mk _ _ hm pc3 rfl rfl rfl fun ba' n' put' cut' rows' hm' => ?_
          cbv
          repeat' (first
            | (refine And.intro (by assumption) ?_; try cbv)
            | (intro βi; try cbv))
          exact ⟨_, Ent.refl _, ⟨i, j + 1, _, _, _, _, _, _, _, _, hi, hjl, hki, kj2, hm', by rw [hrun, hst]; show _ = ((mk.doPut (P.ssub t kj (P.add kj 1))).run _).flush; rw [eu]; rfl, (hb.doPut _).mono (by omega) (by rw [eu]; show i + j + 1 ≤ _; omega)⟩, ⟨rfl, rfl, rfl, rfl, rfl, rfl, trivial⟩, ⟨rfl, rfl, trivial⟩, by show (s.length - i) + (t.length - (j + 1)) < (s.length - i) + (t.length - j); omega⟩
theorem sp_diff (s t : List UInt8) : Spec Try.prog 27 [.str s, .str t] Hp.emp (Is (.tup [encParts (diffF s t).1, .int .i64 (diffF s t).2])) :=
  spec_frz dOk ok_diff fun R hR => vc_diff std rfl _ _ s t (fun k hk => keepC k hk) (fun s hs => putC s hs) (fun k hk => cutC k hk) doneC (diffF s t).1 (diffF s t).2 rfl _ rfl R
    fun x hx => by subst hx; exact retSl_of (parts_sz _) (encParts_fz _) (int_fz _) hR
end Go.Proofs.Ytlomnjlfmbolkaa.AM
