/-
  The walk of scrivlaw.DiskCrashes.
-/
import Derived.Test.YtjilpjhjcdgnoaaDisk3
import Derived.Test.YtjilpjhjcdgnoaaSlotEq
set_option linter.unusedVariables false
set_option linter.unusedSimpArgs false
namespace Go.Proofs.Ytjilpjhjcdgnoaa
open Go.RowKit

/-- what the law reckons, case by case -/
theorem law_cases {z : Nat} {n k : Int} (h : slotE z n = 0) :
    (k < (z : Int) - n ∧ k ≤ 0 ∧ n = crashN z n k) ∨ (k < (z : Int) - n ∧ 0 < k ∧ n + k = crashN z n k) ∨ ((z : Int) - n ≤ k ∧ (z : Int) = crashN z n k) := by
  obtain ⟨h1, h2, h3⟩ := slotE_ok h
  unfold crashN
  omega

set_option maxRecDepth 100000 in
set_option maxHeartbeats 1000000 in
theorem diskCrashes_bad (s0 s1 : ByteArray) (n0 n1 a b : Int) (w : World) (hs0 : s0.size ≤ maxLen) (hs1 : s1.size ≤ maxLen) (he : diskE s0.size n0 s1.size n1 ≠ 0) :
    Calls Try.prog 7 #[.agg #[.string s0, .int .i64 n0, .string s1, .int .i64 n1], .int .i64 a, .int .i64 b] w fun e w' => e = .returned (.bool true) ∧ Below w.heap.size w w' := by
  have HC := Lib.hid (fun w => crash_bad s0 s1 n0 n1 a b w hs0 hs1 he)
  have HR := Lib.hid (fun w => refDisk_any s0 s1 n0 n1 w hs0 hs1)
  generalize diskE s0.size n0 s1.size n1 = E at HC HR he
  have ht : (E == 0) = false := by rw [beq_eq_false_iff_ne]; exact he
  clear he
  go_enter Try.func7, Try.ntmps7
  go_wp2_with fail
  refine (HC.out _).mono ?_
  rintro e w1 ⟨rfl, hb1⟩
  obtain ⟨w2, rfl, hb2, hz⟩ := re_0_1 (B := w.heap.size) hb1 (Nat.le_refl _)
  have hz0 : w.heap.size < w2.heap.size := by omega
  clear hb1 hz
  go_wp2_with fail
  refine (HR.out _).mono ?_
  rintro e w3 ⟨rfl, hb3⟩
  obtain ⟨w4, rfl, hb4, hz⟩ := re_1_1 (B := w.heap.size) hb3 (Nat.le_refl _) hz0
  have hz1 : w.heap.size < w4.heap.size := by omega
  have hz2 : w2.heap.size < w4.heap.size := by omega
  have hn1 : ¬ w.heap.size = w2.heap.size := by omega
  have hn2 : ¬ w2.heap.size = w.heap.size := by omega
  clear hb3 hz
  go_wp2_with fail
  go_ret
  refine ⟨rfl, ?_⟩
  have hb5 := hb2.trans hb4
  (repeat (first | (with_reducible exact Below.refl _ _) | (with_reducible assumption) | (with_reducible refine Below.drew ?_) | (with_reducible refine below_drewN ?_ _) | ((with_reducible refine Below.alloc ?_ ?_ _); rotate_left; (first | omega | (simp; done) | (simp; omega))) | ((with_reducible refine Below.setCell ?_ ?_ _); rotate_left; (first | omega | (simp; done) | (simp; omega))) | ((with_reducible refine below_ob ?_ ?_ _ _); rotate_left; (first | omega | (simp; done) | (simp; omega)))))

set_option maxRecDepth 100000 in
set_option maxHeartbeats 4000000 in
theorem diskCrashes_ok1 (s0 s1 : ByteArray) (n0 n1 a b : Int) (w : World) (hs0 : s0.size ≤ maxLen) (hs1 : s1.size ≤ maxLen) (he : diskE s0.size n0 s1.size n1 = 0) (ha1 : a < (s0.size : Int) - n0) (ha2 : a ≤ 0) :
    Calls Try.prog 7 #[.agg #[.string s0, .int .i64 n0, .string s1, .int .i64 n1], .int .i64 a, .int .i64 b] w fun e w' => e = .returned (.bool true) ∧ Below w.heap.size w w' := by
  have HC := Lib.hid (fun w => crash_ok s0 s1 n0 n1 a b w hs0 hs1 he)
  have HR := Lib.hid (fun w => refDisk_any s0 s1 n0 n1 w hs0 hs1)
  have hk := slotE_ok (diskE_ok he).1
  have hk' := slotE_ok (diskE_ok he).2
  have hk1 := hk.1
  have hk2 := hk.2.1
  have hk3 := hk.2.2
  have hq1 := hk'.1
  have hq2 := hk'.2.1
  have hq3 := hk'.2.2
  have hca := law_cases (k := a) (diskE_ok he).1
  have hcb := law_cases (k := b) (diskE_ok he).2
  rw [he] at HR
  generalize crashN s0.size n0 a = N0 at hca HC
  generalize crashN s1.size n1 b = N1 at hcb HC
  clear hk hk' he
  have hN : n0 = N0 := by
    rcases hca with ⟨h1, h2, e⟩ | ⟨h1, h2, e⟩ | ⟨h1, e⟩ <;> omega
  clear hca
  subst hN
  rcases hcb with ⟨hb1, hb2, rfl⟩ | ⟨hb1, hb2, rfl⟩ | ⟨hb1, rfl⟩
  all_goals
    go_enter Try.func7, Try.ntmps7
    go_wp2_with fail
    refine (HC.out _).mono ?_
    rintro e w1 ⟨rfl, hbl1⟩
    obtain ⟨w2, rfl, hbl2, hz⟩ := re_0_1 (B := w.heap.size) hbl1 (Nat.le_refl _)
    have hz0 : w.heap.size < w2.heap.size := by omega
    clear hbl1 hz
    go_wp2_with fail
    refine (HR.out _).mono ?_
    rintro e w3 ⟨rfl, hbl3⟩
    obtain ⟨w4, rfl, hbl4, hz⟩ := re_1_1 (B := w.heap.size) hbl3 (Nat.le_refl _) hz0
    have hz1 : w.heap.size < w4.heap.size := by omega
    have hz2 : w2.heap.size < w4.heap.size := by omega
    have hy1 : w.heap.size < w4.heap.size + 1 := by omega
    have hy2 : w.heap.size < w4.heap.size + 2 := by omega
    have hy3 : w.heap.size < w4.heap.size + 3 := by omega
    have hy4 : w2.heap.size < w4.heap.size + 1 := by omega
    have hy5 : w2.heap.size < w4.heap.size + 2 := by omega
    have hy6 : w2.heap.size < w4.heap.size + 3 := by omega
    have hy7 : w.heap.size < w4.heap.size + 1 + 1 := by omega
    have hy8 : w.heap.size < w4.heap.size + 1 + 1 + 1 := by omega
    have hy9 : w2.heap.size < w4.heap.size + 1 + 1 := by omega
    have hy0 : w2.heap.size < w4.heap.size + 1 + 1 + 1 := by omega
    have hn1 : ¬ w.heap.size = w2.heap.size := by omega
    have hn2 : ¬ w2.heap.size = w.heap.size := by omega
    have hbl5 := hbl2.trans hbl4
    clear hbl3 hz hbl4 hbl2
    go_wp2_with fail
    refine wp_loop_rounds 3 ?_
    rw [rounds_succ]
    go_wp2_with fail
    go_quiet (fail)
    go_wp2_with fail
    rw [rounds_succ]
    go_wp2_with fail
    go_quiet (fail)
    go_wp2_with fail
    rw [rounds_succ]
    go_wp2_with fail
    go_ret
    refine ⟨rfl, ?_⟩
    (repeat (first | (with_reducible exact Below.refl _ _) | (with_reducible assumption) | (with_reducible refine Below.drew ?_) | (with_reducible refine below_drewN ?_ _) | ((with_reducible refine Below.alloc ?_ ?_ _); rotate_left; (first | omega | (simp; done) | (simp; omega))) | ((with_reducible refine Below.setCell ?_ ?_ _); rotate_left; (first | omega | (simp; done) | (simp; omega))) | ((with_reducible refine below_ob ?_ ?_ _ _); rotate_left; (first | omega | (simp; done) | (simp; omega)))))

set_option maxRecDepth 100000 in
set_option maxHeartbeats 4000000 in
theorem diskCrashes_ok2 (s0 s1 : ByteArray) (n0 n1 a b : Int) (w : World) (hs0 : s0.size ≤ maxLen) (hs1 : s1.size ≤ maxLen) (he : diskE s0.size n0 s1.size n1 = 0) (ha1 : a < (s0.size : Int) - n0) (ha2 : 0 < a) :
    Calls Try.prog 7 #[.agg #[.string s0, .int .i64 n0, .string s1, .int .i64 n1], .int .i64 a, .int .i64 b] w fun e w' => e = .returned (.bool true) ∧ Below w.heap.size w w' := by
  have HC := Lib.hid (fun w => crash_ok s0 s1 n0 n1 a b w hs0 hs1 he)
  have HR := Lib.hid (fun w => refDisk_any s0 s1 n0 n1 w hs0 hs1)
  have hk := slotE_ok (diskE_ok he).1
  have hk' := slotE_ok (diskE_ok he).2
  have hk1 := hk.1
  have hk2 := hk.2.1
  have hk3 := hk.2.2
  have hq1 := hk'.1
  have hq2 := hk'.2.1
  have hq3 := hk'.2.2
  have hca := law_cases (k := a) (diskE_ok he).1
  have hcb := law_cases (k := b) (diskE_ok he).2
  rw [he] at HR
  generalize crashN s0.size n0 a = N0 at hca HC
  generalize crashN s1.size n1 b = N1 at hcb HC
  clear hk hk' he
  have hN : n0 + a = N0 := by
    rcases hca with ⟨h1, h2, e⟩ | ⟨h1, h2, e⟩ | ⟨h1, e⟩ <;> omega
  clear hca
  subst hN
  rcases hcb with ⟨hb1, hb2, rfl⟩ | ⟨hb1, hb2, rfl⟩ | ⟨hb1, rfl⟩
  all_goals
    go_enter Try.func7, Try.ntmps7
    go_wp2_with fail
    refine (HC.out _).mono ?_
    rintro e w1 ⟨rfl, hbl1⟩
    obtain ⟨w2, rfl, hbl2, hz⟩ := re_0_1 (B := w.heap.size) hbl1 (Nat.le_refl _)
    have hz0 : w.heap.size < w2.heap.size := by omega
    clear hbl1 hz
    go_wp2_with fail
    refine (HR.out _).mono ?_
    rintro e w3 ⟨rfl, hbl3⟩
    obtain ⟨w4, rfl, hbl4, hz⟩ := re_1_1 (B := w.heap.size) hbl3 (Nat.le_refl _) hz0
    have hz1 : w.heap.size < w4.heap.size := by omega
    have hz2 : w2.heap.size < w4.heap.size := by omega
    have hy1 : w.heap.size < w4.heap.size + 1 := by omega
    have hy2 : w.heap.size < w4.heap.size + 2 := by omega
    have hy3 : w.heap.size < w4.heap.size + 3 := by omega
    have hy4 : w2.heap.size < w4.heap.size + 1 := by omega
    have hy5 : w2.heap.size < w4.heap.size + 2 := by omega
    have hy6 : w2.heap.size < w4.heap.size + 3 := by omega
    have hy7 : w.heap.size < w4.heap.size + 1 + 1 := by omega
    have hy8 : w.heap.size < w4.heap.size + 1 + 1 + 1 := by omega
    have hy9 : w2.heap.size < w4.heap.size + 1 + 1 := by omega
    have hy0 : w2.heap.size < w4.heap.size + 1 + 1 + 1 := by omega
    have hn1 : ¬ w.heap.size = w2.heap.size := by omega
    have hn2 : ¬ w2.heap.size = w.heap.size := by omega
    have hbl5 := hbl2.trans hbl4
    clear hbl3 hz hbl4 hbl2
    go_wp2_with fail
    refine wp_loop_rounds 3 ?_
    rw [rounds_succ]
    go_wp2_with fail
    go_quiet (fail)
    go_wp2_with fail
    rw [rounds_succ]
    go_wp2_with fail
    go_quiet (fail)
    go_wp2_with fail
    rw [rounds_succ]
    go_wp2_with fail
    go_ret
    refine ⟨rfl, ?_⟩
    (repeat (first | (with_reducible exact Below.refl _ _) | (with_reducible assumption) | (with_reducible refine Below.drew ?_) | (with_reducible refine below_drewN ?_ _) | ((with_reducible refine Below.alloc ?_ ?_ _); rotate_left; (first | omega | (simp; done) | (simp; omega))) | ((with_reducible refine Below.setCell ?_ ?_ _); rotate_left; (first | omega | (simp; done) | (simp; omega))) | ((with_reducible refine below_ob ?_ ?_ _ _); rotate_left; (first | omega | (simp; done) | (simp; omega)))))

set_option maxRecDepth 100000 in
set_option maxHeartbeats 4000000 in
theorem diskCrashes_ok3 (s0 s1 : ByteArray) (n0 n1 a b : Int) (w : World) (hs0 : s0.size ≤ maxLen) (hs1 : s1.size ≤ maxLen) (he : diskE s0.size n0 s1.size n1 = 0) (ha1 : (s0.size : Int) - n0 ≤ a) :
    Calls Try.prog 7 #[.agg #[.string s0, .int .i64 n0, .string s1, .int .i64 n1], .int .i64 a, .int .i64 b] w fun e w' => e = .returned (.bool true) ∧ Below w.heap.size w w' := by
  have HC := Lib.hid (fun w => crash_ok s0 s1 n0 n1 a b w hs0 hs1 he)
  have HR := Lib.hid (fun w => refDisk_any s0 s1 n0 n1 w hs0 hs1)
  have hk := slotE_ok (diskE_ok he).1
  have hk' := slotE_ok (diskE_ok he).2
  have hk1 := hk.1
  have hk2 := hk.2.1
  have hk3 := hk.2.2
  have hq1 := hk'.1
  have hq2 := hk'.2.1
  have hq3 := hk'.2.2
  have hca := law_cases (k := a) (diskE_ok he).1
  have hcb := law_cases (k := b) (diskE_ok he).2
  rw [he] at HR
  generalize crashN s0.size n0 a = N0 at hca HC
  generalize crashN s1.size n1 b = N1 at hcb HC
  clear hk hk' he
  have hN : (s0.size : Int) = N0 := by
    rcases hca with ⟨h1, h2, e⟩ | ⟨h1, h2, e⟩ | ⟨h1, e⟩ <;> omega
  clear hca
  subst hN
  rcases hcb with ⟨hb1, hb2, rfl⟩ | ⟨hb1, hb2, rfl⟩ | ⟨hb1, rfl⟩
  all_goals
    go_enter Try.func7, Try.ntmps7
    go_wp2_with fail
    refine (HC.out _).mono ?_
    rintro e w1 ⟨rfl, hbl1⟩
    obtain ⟨w2, rfl, hbl2, hz⟩ := re_0_1 (B := w.heap.size) hbl1 (Nat.le_refl _)
    have hz0 : w.heap.size < w2.heap.size := by omega
    clear hbl1 hz
    go_wp2_with fail
    refine (HR.out _).mono ?_
    rintro e w3 ⟨rfl, hbl3⟩
    obtain ⟨w4, rfl, hbl4, hz⟩ := re_1_1 (B := w.heap.size) hbl3 (Nat.le_refl _) hz0
    have hz1 : w.heap.size < w4.heap.size := by omega
    have hz2 : w2.heap.size < w4.heap.size := by omega
    have hy1 : w.heap.size < w4.heap.size + 1 := by omega
    have hy2 : w.heap.size < w4.heap.size + 2 := by omega
    have hy3 : w.heap.size < w4.heap.size + 3 := by omega
    have hy4 : w2.heap.size < w4.heap.size + 1 := by omega
    have hy5 : w2.heap.size < w4.heap.size + 2 := by omega
    have hy6 : w2.heap.size < w4.heap.size + 3 := by omega
    have hy7 : w.heap.size < w4.heap.size + 1 + 1 := by omega
    have hy8 : w.heap.size < w4.heap.size + 1 + 1 + 1 := by omega
    have hy9 : w2.heap.size < w4.heap.size + 1 + 1 := by omega
    have hy0 : w2.heap.size < w4.heap.size + 1 + 1 + 1 := by omega
    have hn1 : ¬ w.heap.size = w2.heap.size := by omega
    have hn2 : ¬ w2.heap.size = w.heap.size := by omega
    have hbl5 := hbl2.trans hbl4
    clear hbl3 hz hbl4 hbl2
    go_wp2_with fail
    refine wp_loop_rounds 3 ?_
    rw [rounds_succ]
    go_wp2_with fail
    go_quiet (fail)
    go_wp2_with fail
    rw [rounds_succ]
    go_wp2_with fail
    go_quiet (fail)
    go_wp2_with fail
    rw [rounds_succ]
    go_wp2_with fail
    go_ret
    refine ⟨rfl, ?_⟩
    (repeat (first | (with_reducible exact Below.refl _ _) | (with_reducible assumption) | (with_reducible refine Below.drew ?_) | (with_reducible refine below_drewN ?_ _) | ((with_reducible refine Below.alloc ?_ ?_ _); rotate_left; (first | omega | (simp; done) | (simp; omega))) | ((with_reducible refine Below.setCell ?_ ?_ _); rotate_left; (first | omega | (simp; done) | (simp; omega))) | ((with_reducible refine below_ob ?_ ?_ _ _); rotate_left; (first | omega | (simp; done) | (simp; omega)))))

theorem diskCrashes_walk0 (s0 s1 : ByteArray) (n0 n1 a b : Int) (w : World) (hs0 : s0.size ≤ maxLen) (hs1 : s1.size ≤ maxLen) :
    Calls Try.prog 7 #[.agg #[.string s0, .int .i64 n0, .string s1, .int .i64 n1], .int .i64 a, .int .i64 b] w fun e w' => e = .returned (.bool true) ∧ Below w.heap.size w w' := by
  by_cases he : diskE s0.size n0 s1.size n1 = 0
  · by_cases h1 : a < (s0.size : Int) - n0
    · by_cases h2 : a ≤ 0
      · exact diskCrashes_ok1 s0 s1 n0 n1 a b w hs0 hs1 he h1 h2
      · exact diskCrashes_ok2 s0 s1 n0 n1 a b w hs0 hs1 he h1 (by omega)
    · exact diskCrashes_ok3 s0 s1 n0 n1 a b w hs0 hs1 he (by omega)
  · exact diskCrashes_bad s0 s1 n0 n1 a b w hs0 hs1 he

theorem diskCrashes_walk (d : DiskD) (a b : Int) (w : World) (hd : d.ok) (_ha : -9223372036854775808 ≤ a ∧ a ≤ 9223372036854775807) (_hb : -9223372036854775808 ≤ b ∧ b ≤ 9223372036854775807) :
    Calls Try.prog 7 #[d.val, .int .i64 a, .int .i64 b] w fun e w' => e = .returned (.bool true) ∧ Below w.heap.size w w' :=
  diskCrashes_walk0 d.s0 d.s1 d.n0 d.n1 a b w hd.1 hd.2
end Go.Proofs.Ytjilpjhjcdgnoaa
