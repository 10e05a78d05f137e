/-
  The two slots: disk.Check, look, Append, Sync, Trim and the document's Disk, as contracts on the plain machine. (Printed by gen_disk.py.)
-/
import Derived.Test.YtobngncjflogcaaMU
import Derived.Test.YtobngncjflogcaaBC
set_option linter.unusedVariables false
set_option linter.unusedSimpArgs false
namespace Go.Proofs.Ytobngncjflogcaa.AM
open Go Go.RowKit
set_option maxRecDepth 100000
set_option maxHeartbeats 2000000
/-! the plain law -/
def slotT (x : List UInt8) (n : Int) : Int := if 1048576 < x.length then 2 else if n < 0 ∨ (x.length : Int) < n then 3 else 0
def diskT (a1 : List UInt8) (a2 : Int) (b1 : List UInt8) (b2 : Int) : Int := if slotT a1 a2 ≠ 0 then slotT a1 a2 else slotT b1 b2
def lookT (a1 : List UInt8) (a2 : Int) (b1 : List UInt8) (b2 : Int) (i : Int) : Int := if diskT a1 a2 b1 b2 ≠ 0 then diskT a1 a2 b1 b2 else if i < 0 ∨ 2 ≤ i then 1 else 0
structure D4 where
  x1 : List UInt8
  x2 : Int
  x3 : List UInt8
  x4 : Int
  e : Int
def noD (e : Int) : D4 := ⟨[], 0, [], 0, e⟩
def appT (a1 : List UInt8) (a2 : Int) (b1 : List UInt8) (b2 : Int) (i : Int) (s : List UInt8) : D4 := if lookT a1 a2 b1 b2 i ≠ 0 then noD (lookT a1 a2 b1 b2 i)
  else if i = 0 then (if 1048576 < a1.length + s.length then noD 2 else ⟨a1 ++ s, a2, b1, b2, 0⟩)
  else (if 1048576 < b1.length + s.length then noD 2 else ⟨a1, a2, b1 ++ s, b2, 0⟩)
def synT (a1 : List UInt8) (a2 : Int) (b1 : List UInt8) (b2 : Int) (i : Int) : D4 := if lookT a1 a2 b1 b2 i ≠ 0 then noD (lookT a1 a2 b1 b2 i)
  else if i = 0 then ⟨a1, a1.length, b1, b2, 0⟩ else ⟨a1, a2, b1, b1.length, 0⟩
def trmT (a1 : List UInt8) (a2 : Int) (b1 : List UInt8) (b2 : Int) (i n : Int) : D4 := if lookT a1 a2 b1 b2 i ≠ 0 then noD (lookT a1 a2 b1 b2 i)
  else if i = 0 then (if n < 0 ∨ (a1.length : Int) < n then noD 1 else ⟨a1.take n.toNat, min a2 n, b1, b2, 0⟩)
  else (if n < 0 ∨ (b1.length : Int) < n then noD 1 else ⟨a1, a2, b1.take n.toNat, min b2 n, 0⟩)
theorem slot_ok {x : List UInt8} {n : Int} (h : slotT x n = 0) : x.length ≤ 1048576 ∧ 0 ≤ n ∧ n ≤ (x.length : Int) := by
  unfold slotT at h
  split at h
  · exact absurd h (by decide)
  · split at h
    · exact absurd h (by decide)
    · omega
theorem disk_ok {a1 b1 : List UInt8} {a2 b2 : Int} (h : diskT a1 a2 b1 b2 = 0) : slotT a1 a2 = 0 ∧ slotT b1 b2 = 0 := by
  unfold diskT at h
  by_cases g : slotT a1 a2 ≠ 0
  · rw [if_pos g] at h; exact absurd h g
  · rw [if_neg g] at h; exact ⟨Decidable.of_not_not g, h⟩
theorem look_ok {a1 b1 : List UInt8} {a2 b2 i : Int} (h : lookT a1 a2 b1 b2 i = 0) : diskT a1 a2 b1 b2 = 0 ∧ (i = 0 ∨ i = 1) := by
  unfold lookT at h
  by_cases g : diskT a1 a2 b1 b2 ≠ 0
  · rw [if_pos g] at h; exact absurd h g
  · rw [if_neg g] at h
    refine ⟨Decidable.of_not_not g, ?_⟩
    split at h
    · exact absurd h (by decide)
    · omega
structure YDk (a1 : List UInt8) (a2 : Int) (b1 : List UInt8) (b2 : Int) where
  m : Nat
  k : Int
  hm : m ≤ 2
  hk : k = (m : Int)
  h0 : 0 < m → slotT a1 a2 = 0
  h1 : 1 < m → slotT b1 b2 = 0
/-! scrivenry/disk.Check -/
def ac_dck : AC := .seq (.region false [
    ⟨some 1, none, .box 26 4 (.t 0)⟩,
    ⟨some 2, none, .mov (.c (.int .i64 0))⟩])
  (.seq (.seq (.region false [
    ⟨some 5, none, .faddr 0 (.t 1)⟩,
    ⟨some 6, none, .loadn 4 (.t 5)⟩,
    ⟨some 7, none, .mov (.c (.int .i64 0))⟩])
  (.block 0 (.loop (.seq (.region false [
      ⟨some 8, none, .bin .lss (.t 7) (.c (.int .i64 2))⟩])
    (.seq (.cond (.t 8)
      (.skip)
      (.exit 0))
    (.seq (.block 1 (.seq (.region false [
      ⟨some 9, none, .ixa true 2 2 (.t 6) (.t 7)⟩,
      ⟨some 4, none, .alloc 23 [(.string ⟨#[]⟩), (.int .i64 0)]⟩,
      ⟨none, none, .store 2 (.t 4) (.t 9)⟩])
    (.seq (.seq (.region false [
      ⟨some 10, none, .faddr 0 (.t 4)⟩,
      ⟨some 11, none, .load1 (.t 10)⟩,
      ⟨some 12, none, .len true (.t 11)⟩,
      ⟨some 13, none, .bin .gtr (.t 12) (.c (.int .i64 1048576))⟩])
    (.cond (.t 13)
      (.seq (.region false [
        ⟨some 2, none, .mov (.c (.int .i64 2))⟩])
      (.ret))
      (.skip)))
    (.seq (.region false [
      ⟨some 14, none, .faddr 1 (.t 4)⟩,
      ⟨some 15, none, .load1 (.t 14)⟩,
      ⟨some 16, none, .bin .lss (.t 15) (.c (.int .i64 0))⟩,
      ⟨some 17, none, .mov (.t 16)⟩,
      ⟨some 18, some (17, false), .faddr 1 (.t 4)⟩,
      ⟨some 19, some (17, false), .load1 (.t 18)⟩,
      ⟨some 20, some (17, false), .faddr 0 (.t 4)⟩,
      ⟨some 21, some (17, false), .load1 (.t 20)⟩,
      ⟨some 22, some (17, false), .len true (.t 21)⟩,
      ⟨some 23, some (17, false), .bin .gtr (.t 19) (.t 22)⟩,
      ⟨some 24, none, .pick (.t 17) (.c (.bool true)) (.t 23)⟩])
    (.cond (.t 24)
      (.seq (.region false [
        ⟨some 2, none, .mov (.c (.int .i64 3))⟩])
      (.ret))
      (.skip))))))
    (.region false [
      ⟨some 25, none, .bin .add (.t 7) (.c (.int .i64 1))⟩,
      ⟨some 7, none, .mov (.t 25)⟩])))))))
  (.seq (.region false [
    ⟨some 2, none, .mov (.c (.int .i64 0))⟩])
  (.ret)))
theorem ok_dck : FnOk Try.prog 33 Try.f33 ac_dck [.t 2] 1 drawD := ⟨Try.func33, by decide +kernel, by kernel_rfl, by kernel_rfl, by decide +kernel⟩
theorem vc_dck (P : Prim) (hP : P = std) (T T1 : CallT) (a1 : List UInt8) (a2 : Int) (b1 : List UInt8) (b2 : Int)
    (R : S → Prop) (hR : ∀ s0 s' x, x = diskT a1 a2 b1 b2 → Ent s0 s' → Ret [.t 2] [.int .i64 x] s' → R s0) : awp P T T1 ac_dck (S0 [.agg [.str a1, .int .i64 a2, .str b1, .int .i64 b2]] Hp.emp) R (fun _ _ => False) R := by
  cbv
  intro β
  cbv
  repeat' (first
    | (refine And.intro (by first | assumption | decide) ?_; try cbv)
    | (intro β2; try cbv))
  refine ⟨YDk a1 a2 b1 b2, fun y => [(6, .agg [.str a1, .int .i64 a2, .str b1, .int .i64 b2]), (7, .int .i64 y.k)], fun y => [], fun y => 2 - y.m,
    ⟨_, Ent.refl _, ⟨0, 0, by decide, rfl, fun h => absurd h (by decide), fun h => absurd h (by decide)⟩, ⟨rfl, rfl, trivial⟩, trivial⟩, ?_⟩
  rintro ⟨m, k, hm, hk, h0, h1⟩
  cbv
  refine br_cases (fun g => ?_) (fun g => ?_)
  · have h5 : k < 2 := lt_t hP g
    replace hm : m < 2 := by ((try simp only [nc] at *); omega)
    have k0 : P.leP 0 k := le0 hP (by ((try simp only [nc] at *); omega))
    have k1 : P.ltP k 2 := ltI hP (by ((try simp only [nc] at *); omega))
    have k2 : P.i64 (P.add k 1) := by rw [add_eq hP]; exact i64I hP (by ((try simp only [nc] at *); omega))
    have k3 : P.add k 1 = ((m + 1 : Nat) : Int) := by rw [add_eq hP, hk]; ((try simp only [nc] at *); omega)
    have hc : m = 0 ∨ m = 1 := by omega
    rcases hc with rfl | rfl
    · cbv
      have k4 : P.nat k = 0 := by rw [hk]; subst hP; rfl
      refine ⟨k0, k1, 0, k4, ?_⟩
      cbv
      repeat' (first
        | (refine And.intro (by first | assumption | decide) ?_; try cbv)
        | (intro β2; try cbv))
      refine br_cases (fun g => ?_) (fun g => ?_)
      · have g1 : 1048576 < P.slen a1 := lt_t hP g
        rw [slen_eq hP] at g1
        have hx : slotT a1 a2 = 2 := by unfold slotT; rw [if_pos (by ((try simp only [nc] at *); omega))]
        cbv
        exact hR _ _ _ (by unfold diskT; rw [if_pos (by rw [hx]; decide), hx]) (Ent.refl _) rfl
      have g1 : ¬ 1048576 < P.slen a1 := lt_f hP g
      rw [slen_eq hP] at g1
      cbv
      repeat' (first
        | (refine And.intro (by first | assumption | decide) ?_; try cbv)
        | (intro β2; try cbv))
      refine br_cases (fun g => ?_) (fun g => ?_)
      · have g2 : a2 < 0 := lt_t hP g
        have hx : slotT a1 a2 = 3 := by unfold slotT; rw [if_neg (by ((try simp only [nc] at *); omega)), if_pos (.inl g2)]
        cbv
        exact hR _ _ _ (by unfold diskT; rw [if_pos (by rw [hx]; decide), hx]) (Ent.refl _) rfl
      have g2 : ¬ a2 < 0 := lt_f hP g
      cbv
      repeat' (first
        | (refine And.intro (by first | assumption | decide) ?_; try cbv)
        | (intro β2; try cbv))
      refine br_cases (fun g => ?_) (fun g => ?_)
      · have g3 : P.slen a1 < a2 := lt_t hP g
        rw [slen_eq hP] at g3
        have hx : slotT a1 a2 = 3 := by unfold slotT; rw [if_neg (by ((try simp only [nc] at *); omega)), if_pos (.inr g3)]
        cbv
        exact hR _ _ _ (by unfold diskT; rw [if_pos (by rw [hx]; decide), hx]) (Ent.refl _) rfl
      have g3 : ¬ P.slen a1 < a2 := lt_f hP g
      rw [slen_eq hP] at g3
      have hx : slotT a1 a2 = 0 := by unfold slotT; rw [if_neg (by ((try simp only [nc] at *); omega)), if_neg (by ((try simp only [nc] at *); omega))]
      cbv
      repeat' (first
        | (refine And.intro (by first | assumption | decide) ?_; try cbv)
        | (intro β2; try cbv))
      exact ⟨_, Ent.refl _, ⟨1, _, by decide, k3, fun _ => hx, fun h => absurd h (by decide)⟩, ⟨rfl, rfl, trivial⟩, trivial, by show 2 - (0 + 1) < 2 - 0; decide⟩
    · cbv
      have k4 : P.nat k = 1 := by rw [hk]; subst hP; rfl
      refine ⟨k0, k1, 1, k4, ?_⟩
      cbv
      repeat' (first
        | (refine And.intro (by first | assumption | decide) ?_; try cbv)
        | (intro β2; try cbv))
      refine br_cases (fun g => ?_) (fun g => ?_)
      · have g1 : 1048576 < P.slen b1 := lt_t hP g
        rw [slen_eq hP] at g1
        have hx : slotT b1 b2 = 2 := by unfold slotT; rw [if_pos (by ((try simp only [nc] at *); omega))]
        cbv
        exact hR _ _ _ (by unfold diskT; rw [if_neg (fun g => g (h0 (by decide))), hx]) (Ent.refl _) rfl
      have g1 : ¬ 1048576 < P.slen b1 := lt_f hP g
      rw [slen_eq hP] at g1
      cbv
      repeat' (first
        | (refine And.intro (by first | assumption | decide) ?_; try cbv)
        | (intro β2; try cbv))
      refine br_cases (fun g => ?_) (fun g => ?_)
      · have g2 : b2 < 0 := lt_t hP g
        have hx : slotT b1 b2 = 3 := by unfold slotT; rw [if_neg (by ((try simp only [nc] at *); omega)), if_pos (.inl g2)]
        cbv
        exact hR _ _ _ (by unfold diskT; rw [if_neg (fun g => g (h0 (by decide))), hx]) (Ent.refl _) rfl
      have g2 : ¬ b2 < 0 := lt_f hP g
      cbv
      repeat' (first
        | (refine And.intro (by first | assumption | decide) ?_; try cbv)
        | (intro β2; try cbv))
      refine br_cases (fun g => ?_) (fun g => ?_)
      · have g3 : P.slen b1 < b2 := lt_t hP g
        rw [slen_eq hP] at g3
        have hx : slotT b1 b2 = 3 := by unfold slotT; rw [if_neg (by ((try simp only [nc] at *); omega)), if_pos (.inr g3)]
        cbv
        exact hR _ _ _ (by unfold diskT; rw [if_neg (fun g => g (h0 (by decide))), hx]) (Ent.refl _) rfl
      have g3 : ¬ P.slen b1 < b2 := lt_f hP g
      rw [slen_eq hP] at g3
      have hx : slotT b1 b2 = 0 := by unfold slotT; rw [if_neg (by ((try simp only [nc] at *); omega)), if_neg (by ((try simp only [nc] at *); omega))]
      cbv
      repeat' (first
        | (refine And.intro (by first | assumption | decide) ?_; try cbv)
        | (intro β2; try cbv))
      exact ⟨_, Ent.refl _, ⟨2, _, by decide, k3, fun _ => h0 (by decide), fun _ => hx⟩, ⟨rfl, rfl, trivial⟩, trivial, by show 2 - (1 + 1) < 2 - 1; decide⟩
  · have h5 : ¬ k < 2 := lt_f hP g
    have hm2 : m = 2 := by ((try simp only [nc] at *); omega)
    have e : diskT a1 a2 b1 b2 = 0 := by unfold diskT; rw [if_neg (fun g => g (h0 (by omega))), h1 (by omega)]
    cbv
    exact hR _ _ _ e.symm (Ent.refl _) rfl
theorem sp_dck (a1 : List UInt8) (a2 : Int) (b1 : List UInt8) (b2 : Int) : Spec Try.prog 33 [.agg [.str a1, .int .i64 a2, .str b1, .int .i64 b2]] Hp.emp (Is (.int .i64 (diskT a1 a2 b1 b2))) :=
  spec_pure dOk ok_dck [.int .i64 (diskT a1 a2 b1 b2)] (.int _ _) fun R hR => vc_dck std rfl _ _ a1 a2 b1 b2 R fun s s' b h he hr => by subst h; exact hR s s' he hr
/-! scrivenry/scrivref.Disk -/
def ac_rdk : AC := .seq (.region false [
    ⟨some 1, none, .box 26 4 (.t 0)⟩,
    ⟨some 2, none, .mov (.c (.int .i64 0))⟩])
  (.seq (.seq (.region false [
    ⟨some 5, none, .faddr 0 (.t 1)⟩,
    ⟨some 6, none, .loadn 4 (.t 5)⟩,
    ⟨some 7, none, .mov (.c (.int .i64 0))⟩])
  (.block 0 (.loop (.seq (.region false [
      ⟨some 8, none, .bin .lss (.t 7) (.c (.int .i64 2))⟩])
    (.seq (.cond (.t 8)
      (.skip)
      (.exit 0))
    (.seq (.block 1 (.seq (.region false [
      ⟨some 9, none, .ixa true 2 2 (.t 6) (.t 7)⟩,
      ⟨some 4, none, .alloc 23 [(.string ⟨#[]⟩), (.int .i64 0)]⟩,
      ⟨none, none, .store 2 (.t 4) (.t 9)⟩])
    (.seq (.seq (.region false [
      ⟨some 10, none, .faddr 0 (.t 4)⟩,
      ⟨some 11, none, .load1 (.t 10)⟩,
      ⟨some 12, none, .len true (.t 11)⟩,
      ⟨some 13, none, .bin .gtr (.t 12) (.c (.int .i64 1048576))⟩])
    (.cond (.t 13)
      (.seq (.region false [
        ⟨some 2, none, .mov (.c (.int .i64 2))⟩])
      (.ret))
      (.skip)))
    (.seq (.region false [
      ⟨some 14, none, .faddr 1 (.t 4)⟩,
      ⟨some 15, none, .load1 (.t 14)⟩,
      ⟨some 16, none, .bin .lss (.t 15) (.c (.int .i64 0))⟩,
      ⟨some 17, none, .mov (.t 16)⟩,
      ⟨some 18, some (17, false), .faddr 1 (.t 4)⟩,
      ⟨some 19, some (17, false), .load1 (.t 18)⟩,
      ⟨some 20, some (17, false), .faddr 0 (.t 4)⟩,
      ⟨some 21, some (17, false), .load1 (.t 20)⟩,
      ⟨some 22, some (17, false), .len true (.t 21)⟩,
      ⟨some 23, some (17, false), .bin .gtr (.t 19) (.t 22)⟩,
      ⟨some 24, none, .pick (.t 17) (.c (.bool true)) (.t 23)⟩])
    (.cond (.t 24)
      (.seq (.region false [
        ⟨some 2, none, .mov (.c (.int .i64 3))⟩])
      (.ret))
      (.skip))))))
    (.region false [
      ⟨some 25, none, .bin .add (.t 7) (.c (.int .i64 1))⟩,
      ⟨some 7, none, .mov (.t 25)⟩])))))))
  (.seq (.region false [
    ⟨some 2, none, .mov (.c (.int .i64 0))⟩])
  (.ret)))
theorem ok_rdk : FnOk Try.prog 37 Try.f37 ac_rdk [.t 2] 1 drawD := ⟨Try.func37, by decide +kernel, by kernel_rfl, by kernel_rfl, by decide +kernel⟩
theorem vc_rdk (P : Prim) (hP : P = std) (T T1 : CallT) (a1 : List UInt8) (a2 : Int) (b1 : List UInt8) (b2 : Int)
    (R : S → Prop) (hR : ∀ s0 s' x, x = diskT a1 a2 b1 b2 → Ent s0 s' → Ret [.t 2] [.int .i64 x] s' → R s0) : awp P T T1 ac_rdk (S0 [.agg [.str a1, .int .i64 a2, .str b1, .int .i64 b2]] Hp.emp) R (fun _ _ => False) R := by
  cbv
  intro β
  cbv
  repeat' (first
    | (refine And.intro (by first | assumption | decide) ?_; try cbv)
    | (intro β2; try cbv))
  refine ⟨YDk a1 a2 b1 b2, fun y => [(6, .agg [.str a1, .int .i64 a2, .str b1, .int .i64 b2]), (7, .int .i64 y.k)], fun y => [], fun y => 2 - y.m,
    ⟨_, Ent.refl _, ⟨0, 0, by decide, rfl, fun h => absurd h (by decide), fun h => absurd h (by decide)⟩, ⟨rfl, rfl, trivial⟩, trivial⟩, ?_⟩
  rintro ⟨m, k, hm, hk, h0, h1⟩
  cbv
  refine br_cases (fun g => ?_) (fun g => ?_)
  · have h5 : k < 2 := lt_t hP g
    replace hm : m < 2 := by ((try simp only [nc] at *); omega)
    have k0 : P.leP 0 k := le0 hP (by ((try simp only [nc] at *); omega))
    have k1 : P.ltP k 2 := ltI hP (by ((try simp only [nc] at *); omega))
    have k2 : P.i64 (P.add k 1) := by rw [add_eq hP]; exact i64I hP (by ((try simp only [nc] at *); omega))
    have k3 : P.add k 1 = ((m + 1 : Nat) : Int) := by rw [add_eq hP, hk]; ((try simp only [nc] at *); omega)
    have hc : m = 0 ∨ m = 1 := by omega
    rcases hc with rfl | rfl
    · cbv
      have k4 : P.nat k = 0 := by rw [hk]; subst hP; rfl
      refine ⟨k0, k1, 0, k4, ?_⟩
      cbv
      repeat' (first
        | (refine And.intro (by first | assumption | decide) ?_; try cbv)
        | (intro β2; try cbv))
      refine br_cases (fun g => ?_) (fun g => ?_)
      · have g1 : 1048576 < P.slen a1 := lt_t hP g
        rw [slen_eq hP] at g1
        have hx : slotT a1 a2 = 2 := by unfold slotT; rw [if_pos (by ((try simp only [nc] at *); omega))]
        cbv
        exact hR _ _ _ (by unfold diskT; rw [if_pos (by rw [hx]; decide), hx]) (Ent.refl _) rfl
      have g1 : ¬ 1048576 < P.slen a1 := lt_f hP g
      rw [slen_eq hP] at g1
      cbv
      repeat' (first
        | (refine And.intro (by first | assumption | decide) ?_; try cbv)
        | (intro β2; try cbv))
      refine br_cases (fun g => ?_) (fun g => ?_)
      · have g2 : a2 < 0 := lt_t hP g
        have hx : slotT a1 a2 = 3 := by unfold slotT; rw [if_neg (by ((try simp only [nc] at *); omega)), if_pos (.inl g2)]
        cbv
        exact hR _ _ _ (by unfold diskT; rw [if_pos (by rw [hx]; decide), hx]) (Ent.refl _) rfl
      have g2 : ¬ a2 < 0 := lt_f hP g
      cbv
      repeat' (first
        | (refine And.intro (by first | assumption | decide) ?_; try cbv)
        | (intro β2; try cbv))
      refine br_cases (fun g => ?_) (fun g => ?_)
      · have g3 : P.slen a1 < a2 := lt_t hP g
        rw [slen_eq hP] at g3
        have hx : slotT a1 a2 = 3 := by unfold slotT; rw [if_neg (by ((try simp only [nc] at *); omega)), if_pos (.inr g3)]
        cbv
        exact hR _ _ _ (by unfold diskT; rw [if_pos (by rw [hx]; decide), hx]) (Ent.refl _) rfl
      have g3 : ¬ P.slen a1 < a2 := lt_f hP g
      rw [slen_eq hP] at g3
      have hx : slotT a1 a2 = 0 := by unfold slotT; rw [if_neg (by ((try simp only [nc] at *); omega)), if_neg (by ((try simp only [nc] at *); omega))]
      cbv
      repeat' (first
        | (refine And.intro (by first | assumption | decide) ?_; try cbv)
        | (intro β2; try cbv))
      exact ⟨_, Ent.refl _, ⟨1, _, by decide, k3, fun _ => hx, fun h => absurd h (by decide)⟩, ⟨rfl, rfl, trivial⟩, trivial, by show 2 - (0 + 1) < 2 - 0; decide⟩
    · cbv
      have k4 : P.nat k = 1 := by rw [hk]; subst hP; rfl
      refine ⟨k0, k1, 1, k4, ?_⟩
      cbv
      repeat' (first
        | (refine And.intro (by first | assumption | decide) ?_; try cbv)
        | (intro β2; try cbv))
      refine br_cases (fun g => ?_) (fun g => ?_)
      · have g1 : 1048576 < P.slen b1 := lt_t hP g
        rw [slen_eq hP] at g1
        have hx : slotT b1 b2 = 2 := by unfold slotT; rw [if_pos (by ((try simp only [nc] at *); omega))]
        cbv
        exact hR _ _ _ (by unfold diskT; rw [if_neg (fun g => g (h0 (by decide))), hx]) (Ent.refl _) rfl
      have g1 : ¬ 1048576 < P.slen b1 := lt_f hP g
      rw [slen_eq hP] at g1
      cbv
      repeat' (first
        | (refine And.intro (by first | assumption | decide) ?_; try cbv)
        | (intro β2; try cbv))
      refine br_cases (fun g => ?_) (fun g => ?_)
      · have g2 : b2 < 0 := lt_t hP g
        have hx : slotT b1 b2 = 3 := by unfold slotT; rw [if_neg (by ((try simp only [nc] at *); omega)), if_pos (.inl g2)]
        cbv
        exact hR _ _ _ (by unfold diskT; rw [if_neg (fun g => g (h0 (by decide))), hx]) (Ent.refl _) rfl
      have g2 : ¬ b2 < 0 := lt_f hP g
      cbv
      repeat' (first
        | (refine And.intro (by first | assumption | decide) ?_; try cbv)
        | (intro β2; try cbv))
      refine br_cases (fun g => ?_) (fun g => ?_)
      · have g3 : P.slen b1 < b2 := lt_t hP g
        rw [slen_eq hP] at g3
        have hx : slotT b1 b2 = 3 := by unfold slotT; rw [if_neg (by ((try simp only [nc] at *); omega)), if_pos (.inr g3)]
        cbv
        exact hR _ _ _ (by unfold diskT; rw [if_neg (fun g => g (h0 (by decide))), hx]) (Ent.refl _) rfl
      have g3 : ¬ P.slen b1 < b2 := lt_f hP g
      rw [slen_eq hP] at g3
      have hx : slotT b1 b2 = 0 := by unfold slotT; rw [if_neg (by ((try simp only [nc] at *); omega)), if_neg (by ((try simp only [nc] at *); omega))]
      cbv
      repeat' (first
        | (refine And.intro (by first | assumption | decide) ?_; try cbv)
        | (intro β2; try cbv))
      exact ⟨_, Ent.refl _, ⟨2, _, by decide, k3, fun _ => h0 (by decide), fun _ => hx⟩, ⟨rfl, rfl, trivial⟩, trivial, by show 2 - (1 + 1) < 2 - 1; decide⟩
  · have h5 : ¬ k < 2 := lt_f hP g
    have hm2 : m = 2 := by ((try simp only [nc] at *); omega)
    have e : diskT a1 a2 b1 b2 = 0 := by unfold diskT; rw [if_neg (fun g => g (h0 (by omega))), h1 (by omega)]
    cbv
    exact hR _ _ _ e.symm (Ent.refl _) rfl
theorem sp_rdk (a1 : List UInt8) (a2 : Int) (b1 : List UInt8) (b2 : Int) : Spec Try.prog 37 [.agg [.str a1, .int .i64 a2, .str b1, .int .i64 b2]] Hp.emp (Is (.int .i64 (diskT a1 a2 b1 b2))) :=
  spec_pure dOk ok_rdk [.int .i64 (diskT a1 a2 b1 b2)] (.int _ _) fun R hR => vc_rdk std rfl _ _ a1 a2 b1 b2 R fun s s' b h he hr => by subst h; exact hR s s' he hr
/-! look -/
def ac_dlk : AC := .seq (.region false [
    ⟨some 2, none, .box 26 4 (.t 0)⟩,
    ⟨some 4, none, .mov (.c (.int .i64 0))⟩])
  (.seq (.seq (.region false [
    ⟨some 6, none, .loadn 4 (.t 2)⟩,
    ⟨some 7, none, .call 33 [(.t 6)]⟩,
    ⟨some 5, none, .mov (.t 7)⟩])
  (.seq (.region false [
    ⟨some 8, none, .mov (.t 5)⟩,
    ⟨some 9, none, .bin .neq (.t 8) (.c (.int .i64 0))⟩])
  (.cond (.t 9)
    (.seq (.region false [
      ⟨some 10, none, .mov (.t 5)⟩,
      ⟨some 4, none, .mov (.t 10)⟩])
    (.ret))
    (.skip))))
  (.seq (.seq (.region false [
    ⟨some 11, none, .mov (.t 1)⟩,
    ⟨some 12, none, .bin .lss (.t 11) (.c (.int .i64 0))⟩,
    ⟨some 13, none, .mov (.t 12)⟩,
    ⟨some 14, some (13, false), .mov (.t 1)⟩,
    ⟨some 15, some (13, false), .bin .geq (.t 14) (.c (.int .i64 2))⟩,
    ⟨some 16, none, .pick (.t 13) (.c (.bool true)) (.t 15)⟩])
  (.cond (.t 16)
    (.seq (.region false [
      ⟨some 4, none, .mov (.c (.int .i64 1))⟩])
    (.ret))
    (.skip)))
  (.seq (.region false [
    ⟨some 4, none, .mov (.c (.int .i64 0))⟩])
  (.ret))))
theorem ok_dlk : FnOk Try.prog 101 Try.f101 ac_dlk [.t 4] 2 drawD := ⟨Try.func101, by decide +kernel, by kernel_rfl, by kernel_rfl, by decide +kernel⟩
theorem vc_dlk (P : Prim) (hP : P = std) (T T1 : CallT) (a1 : List UInt8) (a2 : Int) (b1 : List UInt8) (b2 i c : Int) (h1 : Ans T 33 [.agg [.str a1, .int .i64 a2, .str b1, .int .i64 b2]] (.int .i64 c)) (r : Int) (hr : (if c ≠ 0 then c else if i < 0 ∨ 2 ≤ i then 1 else 0) = r)
    (R : S → Prop) (hR : ∀ s0 s' x, x = r → Ent s0 s' → Ret [.t 4] [.int .i64 x] s' → R s0) : awp P T T1 ac_dlk (S0 [.agg [.str a1, .int .i64 a2, .str b1, .int .i64 b2], .int .i64 i] Hp.emp) R (fun _ _ => False) R := by
  cbv
  intro β
  cbv
  repeat' (first
    | (refine And.intro (by first | assumption | decide) ?_; try cbv)
    | (intro β2; try cbv))
  refine h1 _ _ ?_
  cbv
  refine br_cases (fun g => ?_) (fun g => ?_)
  · rw [if_pos (ne_t hP g)] at hr
    cbv
    exact hR _ _ _ hr (Ent.refl _) rfl
  rw [if_neg (fun x => x (ne_f hP g))] at hr
  cbv
  refine br_cases (fun g => ?_) (fun g => ?_)
  · rw [if_pos (.inl (lt_t hP g))] at hr
    cbv
    exact hR _ _ _ hr (Ent.refl _) rfl
  have g1 := lt_f hP g
  cbv
  refine br_cases (fun g => ?_) (fun g => ?_)
  · rw [if_pos (.inr (le_t hP g))] at hr
    cbv
    exact hR _ _ _ hr (Ent.refl _) rfl
  have g2 := le_f hP g
  rw [if_neg (by omega)] at hr
  cbv
  exact hR _ _ _ hr (Ent.refl _) rfl
theorem sp_dlk (a1 : List UInt8) (a2 : Int) (b1 : List UInt8) (b2 i : Int) : Spec Try.prog 101 [.agg [.str a1, .int .i64 a2, .str b1, .int .i64 b2], .int .i64 i] Hp.emp (Is (.int .i64 (lookT a1 a2 b1 b2 i))) :=
  spec_pure dOk ok_dlk [.int .i64 (lookT a1 a2 b1 b2 i)] (.int _ _) fun R hR => vc_dlk std rfl _ _ a1 a2 b1 b2 i _ (ansW (sp_dck a1 a2 b1 b2) (fun h => .cons (.same _) .nil) rfl) _ rfl R fun s s' b h he hr => by subst h; exact hR s s' he hr
/-! scrivenry/disk.Append -/
def ac_dap : AC := .seq (.region false [
    ⟨some 3, none, .box 26 4 (.t 0)⟩,
    ⟨some 6, none, .alloc 26 [(.string ⟨#[]⟩), (.int .i64 0), (.string ⟨#[]⟩), (.int .i64 0)]⟩,
    ⟨some 7, none, .mov (.c (.int .i64 0))⟩])
  (.seq (.seq (.region false [
    ⟨some 9, none, .loadn 4 (.t 3)⟩,
    ⟨some 10, none, .mov (.t 1)⟩,
    ⟨some 11, none, .call 101 [(.t 9), (.t 10)]⟩,
    ⟨some 8, none, .mov (.t 11)⟩])
  (.seq (.region false [
    ⟨some 12, none, .mov (.t 8)⟩,
    ⟨some 13, none, .bin .neq (.t 12) (.c (.int .i64 0))⟩])
  (.cond (.t 13)
    (.seq (.region false [
      ⟨some 14, none, .build [(.string ⟨#[]⟩), (.int .i64 0), (.string ⟨#[]⟩), (.int .i64 0)] []⟩,
      ⟨some 15, none, .mov (.t 8)⟩,
      ⟨none, none, .store 4 (.t 6) (.t 14)⟩,
      ⟨some 7, none, .mov (.t 15)⟩])
    (.ret))
    (.skip))))
  (.seq (.seq (.region false [
    ⟨some 16, none, .mov (.t 1)⟩,
    ⟨some 17, none, .faddr 0 (.t 3)⟩,
    ⟨some 18, none, .iarr 2 2 (.t 17) (.t 16)⟩,
    ⟨some 19, none, .faddr 0 (.t 18)⟩,
    ⟨some 20, none, .load1 (.t 19)⟩,
    ⟨some 21, none, .len true (.t 20)⟩,
    ⟨some 22, none, .mov (.t 2)⟩,
    ⟨some 23, none, .len true (.t 22)⟩,
    ⟨some 24, none, .bin .add (.t 21) (.t 23)⟩,
    ⟨some 25, none, .bin .gtr (.t 24) (.c (.int .i64 1048576))⟩])
  (.cond (.t 25)
    (.seq (.region false [
      ⟨some 26, none, .build [(.string ⟨#[]⟩), (.int .i64 0), (.string ⟨#[]⟩), (.int .i64 0)] []⟩,
      ⟨none, none, .store 4 (.t 6) (.t 26)⟩,
      ⟨some 7, none, .mov (.c (.int .i64 2))⟩])
    (.ret))
    (.skip)))
  (.seq (.region false [
    ⟨some 27, none, .mov (.t 1)⟩,
    ⟨some 28, none, .faddr 0 (.t 3)⟩,
    ⟨some 29, none, .iarr 2 2 (.t 28) (.t 27)⟩,
    ⟨some 30, none, .faddr 0 (.t 29)⟩,
    ⟨some 31, none, .load1 (.t 30)⟩,
    ⟨some 32, none, .mov (.t 2)⟩,
    ⟨some 33, none, .bin .add (.t 31) (.t 32)⟩,
    ⟨some 34, none, .faddr 0 (.t 3)⟩,
    ⟨some 35, none, .iarr 2 2 (.t 34) (.t 27)⟩,
    ⟨some 36, none, .faddr 0 (.t 35)⟩,
    ⟨none, none, .store 1 (.t 36) (.t 33)⟩])
  (.seq (.region false [
    ⟨some 37, none, .loadn 4 (.t 3)⟩,
    ⟨none, none, .store 4 (.t 6) (.t 37)⟩,
    ⟨some 7, none, .mov (.c (.int .i64 0))⟩])
  (.ret)))))
theorem ok_dap : FnOk Try.prog 95 Try.f95 ac_dap [.cn 6 4, .t 7] 3 drawD := ⟨Try.func95, by decide +kernel, by kernel_rfl, by kernel_rfl, by decide +kernel⟩
theorem vc_dap (P : Prim) (hP : P = std) (T T1 : CallT) (a1 : List UInt8) (a2 : Int) (b1 : List UInt8) (b2 i : Int) (s : List UInt8) (hs : s.length ≤ 140737488355328) (c : Int) (hc : c = lookT a1 a2 b1 b2 i) (h1 : Ans T 101 [.agg [.str a1, .int .i64 a2, .str b1, .int .i64 b2], .int .i64 i] (.int .i64 c)) (r : D4) (hr : appT a1 a2 b1 b2 i s = r)
    (R : S → Prop) (hR : ∀ s0 s' x1 x2 x3 x4 e, (⟨x1, x2, x3, x4, e⟩ : D4) = r → Ent s0 s' → Ret [.cn 6 4, .t 7] [.agg [.str x1, .int .i64 x2, .str x3, .int .i64 x4], .int .i64 e] s' → R s0) : awp P T T1 ac_dap (S0 [.agg [.str a1, .int .i64 a2, .str b1, .int .i64 b2], .int .i64 i, .str s] Hp.emp) R (fun _ _ => False) R := by
  have a0 : P.leP 0 0 := le0 hP (by decide)
  have a01 : P.leP 0 1 := le0 hP (by decide)
  have l0 : P.ltP 0 2 := ltI hP (by decide)
  have l1 : P.ltP 1 2 := ltI hP (by decide)
  have n0 : P.nat 0 = 0 := by subst hP; rfl
  have n1 : P.nat 1 = 1 := by subst hP; rfl
  unfold appT at hr
  cbv
  intro β
  cbv
  repeat' (first
    | (refine And.intro (by first | assumption | decide) ?_; try cbv)
    | (intro β2; try cbv))
  refine h1 _ _ ?_
  clear h1
  cbv
  refine br_cases (fun g => ?_) (fun g => ?_)
  · rw [← hc, if_pos (ne_t hP g)] at hr
    cbv
    repeat' (first
      | (refine And.intro (by first | assumption | decide) ?_; try cbv)
      | (intro β2; try cbv))
    exact hR _ _ _ _ _ _ _ hr (Ent.refl _) ⟨rfl, rfl, Nat.zero_lt_succ 0, Nat.le_refl 4, rfl⟩
  have g0 : c = 0 := ne_f hP g
  rw [← hc, if_neg (fun x => x g0)] at hr
  obtain ⟨hd, hi⟩ := look_ok (hc.symm.trans g0)
  obtain ⟨ha, hb⟩ := disk_ok hd
  obtain ⟨ha1, ha2, ha3⟩ := slot_ok ha
  obtain ⟨hb1, hb2, hb3⟩ := slot_ok hb
  clear hc g
  rcases hi with rfl | rfl
  · rw [if_pos rfl] at hr
    have i1 : P.i64 (P.add (P.slen a1) (P.slen s)) := by rw [add_eq hP, slen_eq hP, slen_eq hP]; exact i64I hP (by ((try simp only [nc] at *); omega))
    cbv
    repeat' (first
      | (refine And.intro (by first | assumption | decide) ?_; try cbv)
      | (refine ⟨0, n0, ?_⟩; try cbv)
      | (intro β2; try cbv))
    refine br_cases (fun g => ?_) (fun g => ?_)
    · have g1 : 1048576 < P.add (P.slen a1) (P.slen s) := lt_t hP g
      rw [add_eq hP, slen_eq hP, slen_eq hP] at g1
      rw [if_pos (by ((try simp only [nc] at *); omega))] at hr
      cbv
      repeat' (first
        | (refine And.intro (by first | assumption | decide) ?_; try cbv)
        | (refine ⟨0, n0, ?_⟩; try cbv)
        | (intro β2; try cbv))
      exact hR _ _ _ _ _ _ _ hr (Ent.refl _) ⟨rfl, rfl, Nat.zero_lt_succ 0, Nat.le_refl 4, rfl⟩
    · have g1 : ¬ 1048576 < P.add (P.slen a1) (P.slen s) := lt_f hP g
      rw [add_eq hP, slen_eq hP, slen_eq hP] at g1
      have e1 : P.sapp a1 s = a1 ++ s := by subst hP; rfl
      rw [if_neg (by ((try simp only [nc] at *); omega)), ← e1] at hr
      cbv
      repeat' (first
        | (refine And.intro (by first | assumption | decide) ?_; try cbv)
        | (refine ⟨0, n0, ?_⟩; try cbv)
        | (intro β2; try cbv))
      exact hR _ _ _ _ _ _ _ hr (Ent.refl _) ⟨rfl, rfl, Nat.zero_lt_succ 0, Nat.le_refl 4, rfl⟩
  · rw [if_neg (by decide)] at hr
    have i1 : P.i64 (P.add (P.slen b1) (P.slen s)) := by rw [add_eq hP, slen_eq hP, slen_eq hP]; exact i64I hP (by ((try simp only [nc] at *); omega))
    cbv
    repeat' (first
      | (refine And.intro (by first | assumption | decide) ?_; try cbv)
      | (refine ⟨1, n1, ?_⟩; try cbv)
      | (intro β2; try cbv))
    refine br_cases (fun g => ?_) (fun g => ?_)
    · have g1 : 1048576 < P.add (P.slen b1) (P.slen s) := lt_t hP g
      rw [add_eq hP, slen_eq hP, slen_eq hP] at g1
      rw [if_pos (by ((try simp only [nc] at *); omega))] at hr
      cbv
      repeat' (first
        | (refine And.intro (by first | assumption | decide) ?_; try cbv)
        | (refine ⟨1, n1, ?_⟩; try cbv)
        | (intro β2; try cbv))
      exact hR _ _ _ _ _ _ _ hr (Ent.refl _) ⟨rfl, rfl, Nat.zero_lt_succ 0, Nat.le_refl 4, rfl⟩
    · have g1 : ¬ 1048576 < P.add (P.slen b1) (P.slen s) := lt_f hP g
      rw [add_eq hP, slen_eq hP, slen_eq hP] at g1
      have e1 : P.sapp b1 s = b1 ++ s := by subst hP; rfl
      rw [if_neg (by ((try simp only [nc] at *); omega)), ← e1] at hr
      cbv
      repeat' (first
        | (refine And.intro (by first | assumption | decide) ?_; try cbv)
        | (refine ⟨1, n1, ?_⟩; try cbv)
        | (intro β2; try cbv))
      exact hR _ _ _ _ _ _ _ hr (Ent.refl _) ⟨rfl, rfl, Nat.zero_lt_succ 0, Nat.le_refl 4, rfl⟩
theorem sp_dap (a1 : List UInt8) (a2 : Int) (b1 : List UInt8) (b2 i : Int) (s : List UInt8) (hs : s.length ≤ 140737488355328) : Spec Try.prog 95 [.agg [.str a1, .int .i64 a2, .str b1, .int .i64 b2], .int .i64 i, .str s] Hp.emp (Is (.tup [.agg [.str (appT a1 a2 b1 b2 i s).x1, .int .i64 (appT a1 a2 b1 b2 i s).x2, .str (appT a1 a2 b1 b2 i s).x3, .int .i64 (appT a1 a2 b1 b2 i s).x4], .int .i64 (appT a1 a2 b1 b2 i s).e])) :=
  spec_pure dOk ok_dap [.agg [.str (appT a1 a2 b1 b2 i s).x1, .int .i64 (appT a1 a2 b1 b2 i s).x2, .str (appT a1 a2 b1 b2 i s).x3, .int .i64 (appT a1 a2 b1 b2 i s).x4], .int .i64 (appT a1 a2 b1 b2 i s).e] (.tup _ (by simp; exact ⟨.agg _ (by simp; exact ⟨.str _, .int _ _, .str _, .int _ _⟩), .int _ _⟩)) fun R hR => vc_dap std rfl _ _ a1 a2 b1 b2 i s hs _ rfl (ansW (sp_dlk a1 a2 b1 b2 i) (fun h => .cons (.same _) (.cons (.same _) .nil)) rfl) (appT a1 a2 b1 b2 i s) rfl R
    fun s s' x1 x2 x3 x4 e h he hr => hR s s' he (by rw [← h]; exact hr)
/-! scrivenry/disk.Sync -/
def ac_dsy : AC := .seq (.region false [
    ⟨some 2, none, .box 26 4 (.t 0)⟩,
    ⟨some 4, none, .alloc 26 [(.string ⟨#[]⟩), (.int .i64 0), (.string ⟨#[]⟩), (.int .i64 0)]⟩,
    ⟨some 5, none, .mov (.c (.int .i64 0))⟩])
  (.seq (.seq (.region false [
    ⟨some 7, none, .loadn 4 (.t 2)⟩,
    ⟨some 8, none, .mov (.t 1)⟩,
    ⟨some 9, none, .call 101 [(.t 7), (.t 8)]⟩,
    ⟨some 6, none, .mov (.t 9)⟩])
  (.seq (.region false [
    ⟨some 10, none, .mov (.t 6)⟩,
    ⟨some 11, none, .bin .neq (.t 10) (.c (.int .i64 0))⟩])
  (.cond (.t 11)
    (.seq (.region false [
      ⟨some 12, none, .build [(.string ⟨#[]⟩), (.int .i64 0), (.string ⟨#[]⟩), (.int .i64 0)] []⟩,
      ⟨some 13, none, .mov (.t 6)⟩,
      ⟨none, none, .store 4 (.t 4) (.t 12)⟩,
      ⟨some 5, none, .mov (.t 13)⟩])
    (.ret))
    (.skip))))
  (.seq (.region false [
    ⟨some 14, none, .mov (.t 1)⟩,
    ⟨some 15, none, .mov (.t 1)⟩,
    ⟨some 16, none, .faddr 0 (.t 2)⟩,
    ⟨some 17, none, .iarr 2 2 (.t 16) (.t 15)⟩,
    ⟨some 18, none, .faddr 0 (.t 17)⟩,
    ⟨some 19, none, .load1 (.t 18)⟩,
    ⟨some 20, none, .len true (.t 19)⟩,
    ⟨some 21, none, .faddr 0 (.t 2)⟩,
    ⟨some 22, none, .iarr 2 2 (.t 21) (.t 14)⟩,
    ⟨some 23, none, .faddr 1 (.t 22)⟩,
    ⟨none, none, .store 1 (.t 23) (.t 20)⟩])
  (.seq (.region false [
    ⟨some 24, none, .loadn 4 (.t 2)⟩,
    ⟨none, none, .store 4 (.t 4) (.t 24)⟩,
    ⟨some 5, none, .mov (.c (.int .i64 0))⟩])
  (.ret))))
theorem ok_dsy : FnOk Try.prog 72 Try.f72 ac_dsy [.cn 4 4, .t 5] 2 drawD := ⟨Try.func72, by decide +kernel, by kernel_rfl, by kernel_rfl, by decide +kernel⟩
theorem vc_dsy (P : Prim) (hP : P = std) (T T1 : CallT) (a1 : List UInt8) (a2 : Int) (b1 : List UInt8) (b2 i : Int) (c : Int) (hc : c = lookT a1 a2 b1 b2 i) (h1 : Ans T 101 [.agg [.str a1, .int .i64 a2, .str b1, .int .i64 b2], .int .i64 i] (.int .i64 c)) (r : D4) (hr : synT a1 a2 b1 b2 i = r)
    (R : S → Prop) (hR : ∀ s0 s' x1 x2 x3 x4 e, (⟨x1, x2, x3, x4, e⟩ : D4) = r → Ent s0 s' → Ret [.cn 4 4, .t 5] [.agg [.str x1, .int .i64 x2, .str x3, .int .i64 x4], .int .i64 e] s' → R s0) : awp P T T1 ac_dsy (S0 [.agg [.str a1, .int .i64 a2, .str b1, .int .i64 b2], .int .i64 i] Hp.emp) R (fun _ _ => False) R := by
  have a0 : P.leP 0 0 := le0 hP (by decide)
  have a01 : P.leP 0 1 := le0 hP (by decide)
  have l0 : P.ltP 0 2 := ltI hP (by decide)
  have l1 : P.ltP 1 2 := ltI hP (by decide)
  have n0 : P.nat 0 = 0 := by subst hP; rfl
  have n1 : P.nat 1 = 1 := by subst hP; rfl
  unfold synT at hr
  cbv
  intro β
  cbv
  repeat' (first
    | (refine And.intro (by first | assumption | decide) ?_; try cbv)
    | (intro β2; try cbv))
  refine h1 _ _ ?_
  clear h1
  cbv
  refine br_cases (fun g => ?_) (fun g => ?_)
  · rw [← hc, if_pos (ne_t hP g)] at hr
    cbv
    repeat' (first
      | (refine And.intro (by first | assumption | decide) ?_; try cbv)
      | (intro β2; try cbv))
    exact hR _ _ _ _ _ _ _ hr (Ent.refl _) ⟨rfl, rfl, Nat.zero_lt_succ 0, Nat.le_refl 4, rfl⟩
  have g0 : c = 0 := ne_f hP g
  rw [← hc, if_neg (fun x => x g0)] at hr
  obtain ⟨hd, hi⟩ := look_ok (hc.symm.trans g0)
  obtain ⟨ha, hb⟩ := disk_ok hd
  obtain ⟨ha1, ha2, ha3⟩ := slot_ok ha
  obtain ⟨hb1, hb2, hb3⟩ := slot_ok hb
  clear hc g
  rcases hi with rfl | rfl
  · have e1 : P.slen a1 = (a1.length : Int) := slen_eq hP _
    rw [if_pos rfl] at hr
    cbv
    repeat' (first
      | (refine And.intro (by first | assumption | decide) ?_; try cbv)
      | (refine ⟨0, n0, ?_⟩; try cbv)
      | (intro β2; try cbv))
    exact hR _ _ _ _ _ _ _ ((congrArg (fun x => (⟨a1, x, b1, b2, 0⟩ : D4)) e1).trans hr) (Ent.refl _) ⟨rfl, rfl, Nat.zero_lt_succ 0, Nat.le_refl 4, rfl⟩
  · have e1 : P.slen b1 = (b1.length : Int) := slen_eq hP _
    rw [if_neg (by decide)] at hr
    cbv
    repeat' (first
      | (refine And.intro (by first | assumption | decide) ?_; try cbv)
      | (refine ⟨1, n1, ?_⟩; try cbv)
      | (intro β2; try cbv))
    exact hR _ _ _ _ _ _ _ ((congrArg (fun x => (⟨a1, a2, b1, x, 0⟩ : D4)) e1).trans hr) (Ent.refl _) ⟨rfl, rfl, Nat.zero_lt_succ 0, Nat.le_refl 4, rfl⟩
theorem sp_dsy (a1 : List UInt8) (a2 : Int) (b1 : List UInt8) (b2 i : Int) : Spec Try.prog 72 [.agg [.str a1, .int .i64 a2, .str b1, .int .i64 b2], .int .i64 i] Hp.emp (Is (.tup [.agg [.str (synT a1 a2 b1 b2 i).x1, .int .i64 (synT a1 a2 b1 b2 i).x2, .str (synT a1 a2 b1 b2 i).x3, .int .i64 (synT a1 a2 b1 b2 i).x4], .int .i64 (synT a1 a2 b1 b2 i).e])) :=
  spec_pure dOk ok_dsy [.agg [.str (synT a1 a2 b1 b2 i).x1, .int .i64 (synT a1 a2 b1 b2 i).x2, .str (synT a1 a2 b1 b2 i).x3, .int .i64 (synT a1 a2 b1 b2 i).x4], .int .i64 (synT a1 a2 b1 b2 i).e] (.tup _ (by simp; exact ⟨.agg _ (by simp; exact ⟨.str _, .int _ _, .str _, .int _ _⟩), .int _ _⟩)) fun R hR => vc_dsy std rfl _ _ a1 a2 b1 b2 i _ rfl (ansW (sp_dlk a1 a2 b1 b2 i) (fun h => .cons (.same _) (.cons (.same _) .nil)) rfl) (synT a1 a2 b1 b2 i) rfl R
    fun s s' x1 x2 x3 x4 e h he hr => hR s s' he (by rw [← h]; exact hr)
/-! scrivenry/disk.Trim -/
def ac_dtr : AC := .seq (.region false [
    ⟨some 3, none, .box 26 4 (.t 0)⟩,
    ⟨some 6, none, .alloc 26 [(.string ⟨#[]⟩), (.int .i64 0), (.string ⟨#[]⟩), (.int .i64 0)]⟩,
    ⟨some 7, none, .mov (.c (.int .i64 0))⟩])
  (.seq (.seq (.region false [
    ⟨some 10, none, .loadn 4 (.t 3)⟩,
    ⟨some 11, none, .mov (.t 1)⟩,
    ⟨some 12, none, .call 101 [(.t 10), (.t 11)]⟩,
    ⟨some 8, none, .mov (.t 12)⟩])
  (.seq (.region false [
    ⟨some 13, none, .mov (.t 8)⟩,
    ⟨some 14, none, .bin .neq (.t 13) (.c (.int .i64 0))⟩])
  (.cond (.t 14)
    (.seq (.region false [
      ⟨some 15, none, .build [(.string ⟨#[]⟩), (.int .i64 0), (.string ⟨#[]⟩), (.int .i64 0)] []⟩,
      ⟨some 16, none, .mov (.t 8)⟩,
      ⟨none, none, .store 4 (.t 6) (.t 15)⟩,
      ⟨some 7, none, .mov (.t 16)⟩])
    (.ret))
    (.skip))))
  (.seq (.region false [
    ⟨some 17, none, .mov (.t 1)⟩,
    ⟨some 18, none, .faddr 0 (.t 3)⟩,
    ⟨some 19, none, .iarr 2 2 (.t 18) (.t 17)⟩,
    ⟨some 9, none, .mov (.t 19)⟩])
  (.seq (.seq (.region false [
    ⟨some 20, none, .mov (.t 2)⟩,
    ⟨some 21, none, .bin .lss (.t 20) (.c (.int .i64 0))⟩,
    ⟨some 22, none, .mov (.t 21)⟩,
    ⟨some 23, some (22, false), .mov (.t 2)⟩,
    ⟨some 24, some (22, false), .mov (.t 9)⟩,
    ⟨some 25, some (22, false), .nilchk (.t 24)⟩,
    ⟨some 26, some (22, false), .faddr 0 (.t 25)⟩,
    ⟨some 27, some (22, false), .load1 (.t 26)⟩,
    ⟨some 28, some (22, false), .len true (.t 27)⟩,
    ⟨some 29, some (22, false), .bin .gtr (.t 23) (.t 28)⟩,
    ⟨some 30, none, .pick (.t 22) (.c (.bool true)) (.t 29)⟩])
  (.cond (.t 30)
    (.seq (.region false [
      ⟨some 31, none, .build [(.string ⟨#[]⟩), (.int .i64 0), (.string ⟨#[]⟩), (.int .i64 0)] []⟩,
      ⟨none, none, .store 4 (.t 6) (.t 31)⟩,
      ⟨some 7, none, .mov (.c (.int .i64 1))⟩])
    (.ret))
    (.skip)))
  (.seq (.region false [
    ⟨some 32, none, .mov (.t 9)⟩,
    ⟨some 33, none, .mov (.t 9)⟩,
    ⟨some 34, none, .nilchk (.t 33)⟩,
    ⟨some 35, none, .faddr 0 (.t 34)⟩,
    ⟨some 36, none, .load1 (.t 35)⟩,
    ⟨some 37, none, .mov (.t 2)⟩,
    ⟨some 38, none, .slstr (.t 36) none (some (.t 37))⟩,
    ⟨some 39, none, .nilchk (.t 32)⟩,
    ⟨some 40, none, .faddr 0 (.t 39)⟩,
    ⟨none, none, .store 1 (.t 40) (.t 38)⟩])
  (.seq (.region false [
    ⟨some 41, none, .mov (.t 9)⟩,
    ⟨some 42, none, .mov (.t 9)⟩,
    ⟨some 43, none, .nilchk (.t 42)⟩,
    ⟨some 44, none, .faddr 1 (.t 43)⟩,
    ⟨some 45, none, .load1 (.t 44)⟩,
    ⟨some 46, none, .mov (.t 2)⟩,
    ⟨some 47, none, .mm false (.t 45) (.t 46)⟩,
    ⟨some 48, none, .nilchk (.t 41)⟩,
    ⟨some 49, none, .faddr 1 (.t 48)⟩,
    ⟨none, none, .store 1 (.t 49) (.t 47)⟩])
  (.seq (.region false [
    ⟨some 50, none, .loadn 4 (.t 3)⟩,
    ⟨none, none, .store 4 (.t 6) (.t 50)⟩,
    ⟨some 7, none, .mov (.c (.int .i64 0))⟩])
  (.ret)))))))
theorem ok_dtr : FnOk Try.prog 71 Try.f71 ac_dtr [.cn 6 4, .t 7] 3 drawD := ⟨Try.func71, by decide +kernel, by kernel_rfl, by kernel_rfl, by decide +kernel⟩
theorem vc_dtr (P : Prim) (hP : P = std) (T T1 : CallT) (a1 : List UInt8) (a2 : Int) (b1 : List UInt8) (b2 i : Int) (n : Int) (c : Int) (hc : c = lookT a1 a2 b1 b2 i) (h1 : Ans T 101 [.agg [.str a1, .int .i64 a2, .str b1, .int .i64 b2], .int .i64 i] (.int .i64 c)) (r : D4) (hr : trmT a1 a2 b1 b2 i n = r)
    (R : S → Prop) (hR : ∀ s0 s' x1 x2 x3 x4 e, (⟨x1, x2, x3, x4, e⟩ : D4) = r → Ent s0 s' → Ret [.cn 6 4, .t 7] [.agg [.str x1, .int .i64 x2, .str x3, .int .i64 x4], .int .i64 e] s' → R s0) : awp P T T1 ac_dtr (S0 [.agg [.str a1, .int .i64 a2, .str b1, .int .i64 b2], .int .i64 i, .int .i64 n] Hp.emp) R (fun _ _ => False) R := by
  have a0 : P.leP 0 0 := le0 hP (by decide)
  have a01 : P.leP 0 1 := le0 hP (by decide)
  have l0 : P.ltP 0 2 := ltI hP (by decide)
  have l1 : P.ltP 1 2 := ltI hP (by decide)
  have n0 : P.nat 0 = 0 := by subst hP; rfl
  have n1 : P.nat 1 = 1 := by subst hP; rfl
  unfold trmT at hr
  cbv
  intro β
  cbv
  repeat' (first
    | (refine And.intro (by first | assumption | decide) ?_; try cbv)
    | (intro β2; try cbv))
  refine h1 _ _ ?_
  clear h1
  cbv
  refine br_cases (fun g => ?_) (fun g => ?_)
  · rw [← hc, if_pos (ne_t hP g)] at hr
    cbv
    repeat' (first
      | (refine And.intro (by first | assumption | decide) ?_; try cbv)
      | (intro β2; try cbv))
    exact hR _ _ _ _ _ _ _ hr (Ent.refl _) ⟨rfl, rfl, Nat.zero_lt_succ 0, Nat.le_refl 4, rfl⟩
  have g0 : c = 0 := ne_f hP g
  rw [← hc, if_neg (fun x => x g0)] at hr
  obtain ⟨hd, hi⟩ := look_ok (hc.symm.trans g0)
  obtain ⟨ha, hb⟩ := disk_ok hd
  obtain ⟨ha1, ha2, ha3⟩ := slot_ok ha
  obtain ⟨hb1, hb2, hb3⟩ := slot_ok hb
  clear hc g
  rcases hi with rfl | rfl
  · rw [if_pos rfl] at hr
    cbv
    repeat' (first
      | (refine And.intro (by first | assumption | decide) ?_; try cbv)
      | (refine ⟨0, n0, ?_⟩; try cbv)
      | (intro β2; try cbv))
    refine br_cases (fun g => ?_) (fun g => ?_)
    · rw [if_pos (.inl (lt_t hP g))] at hr
      cbv
      repeat' (first
        | (refine And.intro (by first | assumption | decide) ?_; try cbv)
        | (refine ⟨0, n0, ?_⟩; try cbv)
        | (intro β2; try cbv))
      exact hR _ _ _ _ _ _ _ hr (Ent.refl _) ⟨rfl, rfl, Nat.zero_lt_succ 0, Nat.le_refl 4, rfl⟩
    have g1 := lt_f hP g
    cbv
    repeat' (first
      | (refine And.intro (by first | assumption | decide) ?_; try cbv)
      | (refine ⟨0, n0, ?_⟩; try cbv)
      | (intro β2; try cbv))
    refine br_cases (fun g => ?_) (fun g => ?_)
    · have g2 : P.slen a1 < n := lt_t hP g
      rw [slen_eq hP] at g2
      rw [if_pos (.inr g2)] at hr
      cbv
      repeat' (first
        | (refine And.intro (by first | assumption | decide) ?_; try cbv)
        | (refine ⟨0, n0, ?_⟩; try cbv)
        | (intro β2; try cbv))
      exact hR _ _ _ _ _ _ _ hr (Ent.refl _) ⟨rfl, rfl, Nat.zero_lt_succ 0, Nat.le_refl 4, rfl⟩
    have g2 : ¬ P.slen a1 < n := lt_f hP g
    rw [slen_eq hP] at g2
    have m1 : P.leP 0 n := le0 hP (by omega)
    have m2 : P.leP n (P.slen a1) := leI hP (by rw [slen_eq hP]; ((try simp only [nc] at *); omega))
    have e1 : P.ssub a1 0 n = a1.take n.toNat := by subst hP; rfl
    have e2 : P.mn a2 n = min a2 n := by subst hP; rfl
    rw [if_neg (by ((try simp only [nc] at *); omega)), ← e1, ← e2] at hr
    cbv
    repeat' (first
      | (refine And.intro (by first | assumption | decide) ?_; try cbv)
      | (refine ⟨0, n0, ?_⟩; try cbv)
      | (intro β2; try cbv))
    exact hR _ _ _ _ _ _ _ hr (Ent.refl _) ⟨rfl, rfl, Nat.zero_lt_succ 0, Nat.le_refl 4, rfl⟩
  · rw [if_neg (by decide)] at hr
    cbv
    repeat' (first
      | (refine And.intro (by first | assumption | decide) ?_; try cbv)
      | (refine ⟨1, n1, ?_⟩; try cbv)
      | (intro β2; try cbv))
    refine br_cases (fun g => ?_) (fun g => ?_)
    · rw [if_pos (.inl (lt_t hP g))] at hr
      cbv
      repeat' (first
        | (refine And.intro (by first | assumption | decide) ?_; try cbv)
        | (refine ⟨1, n1, ?_⟩; try cbv)
        | (intro β2; try cbv))
      exact hR _ _ _ _ _ _ _ hr (Ent.refl _) ⟨rfl, rfl, Nat.zero_lt_succ 0, Nat.le_refl 4, rfl⟩
    have g1 := lt_f hP g
    cbv
    repeat' (first
      | (refine And.intro (by first | assumption | decide) ?_; try cbv)
      | (refine ⟨1, n1, ?_⟩; try cbv)
      | (intro β2; try cbv))
    refine br_cases (fun g => ?_) (fun g => ?_)
    · have g2 : P.slen b1 < n := lt_t hP g
      rw [slen_eq hP] at g2
      rw [if_pos (.inr g2)] at hr
      cbv
      repeat' (first
        | (refine And.intro (by first | assumption | decide) ?_; try cbv)
        | (refine ⟨1, n1, ?_⟩; try cbv)
        | (intro β2; try cbv))
      exact hR _ _ _ _ _ _ _ hr (Ent.refl _) ⟨rfl, rfl, Nat.zero_lt_succ 0, Nat.le_refl 4, rfl⟩
    have g2 : ¬ P.slen b1 < n := lt_f hP g
    rw [slen_eq hP] at g2
    have m1 : P.leP 0 n := le0 hP (by omega)
    have m2 : P.leP n (P.slen b1) := leI hP (by rw [slen_eq hP]; ((try simp only [nc] at *); omega))
    have e1 : P.ssub b1 0 n = b1.take n.toNat := by subst hP; rfl
    have e2 : P.mn b2 n = min b2 n := by subst hP; rfl
    rw [if_neg (by ((try simp only [nc] at *); omega)), ← e1, ← e2] at hr
    cbv
    repeat' (first
      | (refine And.intro (by first | assumption | decide) ?_; try cbv)
      | (refine ⟨1, n1, ?_⟩; try cbv)
      | (intro β2; try cbv))
    exact hR _ _ _ _ _ _ _ hr (Ent.refl _) ⟨rfl, rfl, Nat.zero_lt_succ 0, Nat.le_refl 4, rfl⟩
theorem sp_dtr (a1 : List UInt8) (a2 : Int) (b1 : List UInt8) (b2 i : Int) (n : Int) : Spec Try.prog 71 [.agg [.str a1, .int .i64 a2, .str b1, .int .i64 b2], .int .i64 i, .int .i64 n] Hp.emp (Is (.tup [.agg [.str (trmT a1 a2 b1 b2 i n).x1, .int .i64 (trmT a1 a2 b1 b2 i n).x2, .str (trmT a1 a2 b1 b2 i n).x3, .int .i64 (trmT a1 a2 b1 b2 i n).x4], .int .i64 (trmT a1 a2 b1 b2 i n).e])) :=
  spec_pure dOk ok_dtr [.agg [.str (trmT a1 a2 b1 b2 i n).x1, .int .i64 (trmT a1 a2 b1 b2 i n).x2, .str (trmT a1 a2 b1 b2 i n).x3, .int .i64 (trmT a1 a2 b1 b2 i n).x4], .int .i64 (trmT a1 a2 b1 b2 i n).e] (.tup _ (by simp; exact ⟨.agg _ (by simp; exact ⟨.str _, .int _ _, .str _, .int _ _⟩), .int _ _⟩)) fun R hR => vc_dtr std rfl _ _ a1 a2 b1 b2 i n _ rfl (ansW (sp_dlk a1 a2 b1 b2 i) (fun h => .cons (.same _) (.cons (.same _) .nil)) rfl) (trmT a1 a2 b1 b2 i n) rfl R
    fun s s' x1 x2 x3 x4 e h he hr => hR s s' he (by rw [← h]; exact hr)
end Go.Proofs.Ytobngncjflogcaa.AM
