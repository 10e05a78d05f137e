/-
  The walk of disk.Crash.
-/
import Derived.Test.YtjilpjhjcdgnoaaDisk1
import Derived.Test.YtjilpjhjcdgnoaaRe
set_option linter.unusedVariables false
set_option linter.unusedSimpArgs false
namespace Go.Proofs.Ytjilpjhjcdgnoaa
open Go.RowKit

def crashN (z : Nat) (n k : Int) : Int := n + max 0 (min k ((z : Int) - n))
theorem crashN_bd {z : Nat} {n k : Int} (h : slotE z n = 0) : 0 ≤ crashN z n k ∧ crashN z n k ≤ z := by
  obtain ⟨h1, h2, h3⟩ := slotE_ok h
  unfold crashN; omega

/-- how much a crash leaves, case by case -/
theorem crash_cases {z : Nat} {n k : Int} (h : slotE z n = 0) :
    (k ≤ 0 ∧ n = crashN z n k) ∨ (0 < k ∧ k ≤ (z : Int) - n ∧ n + k = crashN z n k) ∨ (0 < k ∧ (z : Int) - n < k ∧ 0 < (z : Int) - n ∧ n + ((z : Int) - n) = crashN z n k) ∨ (0 < k ∧ (z : Int) - n ≤ 0 ∧ n = crashN z n k) := by
  obtain ⟨h1, h2, h3⟩ := slotE_ok h
  unfold crashN
  omega

set_option maxRecDepth 100000 in
set_option maxHeartbeats 4000000 in
theorem crash_oka (s0 s1 : ByteArray) (n0 n1 k0 k1 : Int) (w : World) (hs0 : s0.size ≤ maxLen) (hs1 : s1.size ≤ maxLen) (he : diskE s0.size n0 s1.size n1 = 0) (ha1 : k0 ≤ 0) :
    Calls Try.prog 21 #[.agg #[.string s0, .int .i64 n0, .string s1, .int .i64 n1], .agg #[.int .i64 k0, .int .i64 k1]] w fun e w' =>
      e = .returned (.tuple #[.agg #[.string (s0.extract 0 (n0 : Int).toNat), .int .i64 n0, .string (s1.extract 0 (crashN s1.size n1 k1).toNat), .int .i64 (crashN s1.size n1 k1)], .int .i64 0]) ∧ Below w.heap.size w w' := by
  have HC := Lib.hid (fun w => diskCheck_any s0 s1 n0 n1 w hs0 hs1)
  rw [he] at HC
  have hk := slotE_ok (diskE_ok he).1
  have hk' := slotE_ok (diskE_ok he).2
  have hk1 := hk.1
  have hk2 := hk.2.1
  have hk3 := hk.2.2
  have hq1 := hk'.1
  have hq2 := hk'.2.1
  have hq3 := hk'.2.2
  have hcb := crash_cases (k := k1) (diskE_ok he).2
  generalize crashN s1.size n1 k1 = N1 at hcb ⊢
  clear hk hk' he
  rcases hcb with ⟨hb1, rfl⟩ | ⟨hb1, hb2, rfl⟩ | ⟨hb1, hb2, hb3, rfl⟩ | ⟨hb1, hb2, rfl⟩
  all_goals
    go_enter Try.func21, Try.ntmps21
    go_wp2_with fail
    refine (HC.out _).mono ?_
    rintro e w1 ⟨rfl, hbel⟩
    obtain ⟨w2, rfl, hb2, hz⟩ := re_0_3 (B := w.heap.size) hbel (Nat.le_refl _)
    clear hbel
    have hz0 : w.heap.size < w2.heap.size := by omega
    have hz1 : w.heap.size + 1 < w2.heap.size := by omega
    have hz2 : w.heap.size + 2 < w2.heap.size := by omega
    clear hz
    go_wp2_with fail
    refine wp_loop_rounds 3 ?_
    rw [rounds_succ]
    go_wp2_with fail
    go_quiet (fail)
    go_wp2_with fail
    rw [rounds_succ]
    go_wp2_with fail
    go_quiet (fail)
    go_wp2_with fail
    rw [rounds_succ]
    go_wp2_with fail
    refine bodyPost_ret (v := .tuple #[.agg #[.string (s0.extract 0 (n0 : Int).toNat), .int .i64 n0, .string (s1.extract 0 (_ : Int).toNat), .int .i64 _], .int .i64 0]) (by simp [results, Try.results21, go_sem, hz0, hz1, hz2]; try rfl) rfl ⟨rfl, ?_⟩
    (repeat (first | (with_reducible exact Below.refl _ _) | (with_reducible assumption) | (with_reducible refine Below.drew ?_) | (with_reducible refine below_drewN ?_ _) | ((with_reducible refine Below.alloc ?_ ?_ _); rotate_left; (first | omega | (simp; done) | (simp; omega))) | ((with_reducible refine Below.setCell ?_ ?_ _); rotate_left; (first | omega | (simp; done) | (simp; omega))) | ((with_reducible refine below_ob ?_ ?_ _ _); rotate_left; (first | omega | (simp; done) | (simp; omega)))))

set_option maxRecDepth 100000 in
set_option maxHeartbeats 4000000 in
theorem crash_okb (s0 s1 : ByteArray) (n0 n1 k0 k1 : Int) (w : World) (hs0 : s0.size ≤ maxLen) (hs1 : s1.size ≤ maxLen) (he : diskE s0.size n0 s1.size n1 = 0) (ha1 : 0 < k0) (ha2 : k0 ≤ (s0.size : Int) - n0) :
    Calls Try.prog 21 #[.agg #[.string s0, .int .i64 n0, .string s1, .int .i64 n1], .agg #[.int .i64 k0, .int .i64 k1]] w fun e w' =>
      e = .returned (.tuple #[.agg #[.string (s0.extract 0 ((n0 + k0) : Int).toNat), .int .i64 (n0 + k0), .string (s1.extract 0 (crashN s1.size n1 k1).toNat), .int .i64 (crashN s1.size n1 k1)], .int .i64 0]) ∧ Below w.heap.size w w' := by
  have HC := Lib.hid (fun w => diskCheck_any s0 s1 n0 n1 w hs0 hs1)
  rw [he] at HC
  have hk := slotE_ok (diskE_ok he).1
  have hk' := slotE_ok (diskE_ok he).2
  have hk1 := hk.1
  have hk2 := hk.2.1
  have hk3 := hk.2.2
  have hq1 := hk'.1
  have hq2 := hk'.2.1
  have hq3 := hk'.2.2
  have hcb := crash_cases (k := k1) (diskE_ok he).2
  generalize crashN s1.size n1 k1 = N1 at hcb ⊢
  clear hk hk' he
  rcases hcb with ⟨hb1, rfl⟩ | ⟨hb1, hb2, rfl⟩ | ⟨hb1, hb2, hb3, rfl⟩ | ⟨hb1, hb2, rfl⟩
  all_goals
    go_enter Try.func21, Try.ntmps21
    go_wp2_with fail
    refine (HC.out _).mono ?_
    rintro e w1 ⟨rfl, hbel⟩
    obtain ⟨w2, rfl, hb2, hz⟩ := re_0_3 (B := w.heap.size) hbel (Nat.le_refl _)
    clear hbel
    have hz0 : w.heap.size < w2.heap.size := by omega
    have hz1 : w.heap.size + 1 < w2.heap.size := by omega
    have hz2 : w.heap.size + 2 < w2.heap.size := by omega
    clear hz
    go_wp2_with fail
    refine wp_loop_rounds 3 ?_
    rw [rounds_succ]
    go_wp2_with fail
    go_quiet (fail)
    go_wp2_with fail
    rw [rounds_succ]
    go_wp2_with fail
    go_quiet (fail)
    go_wp2_with fail
    rw [rounds_succ]
    go_wp2_with fail
    refine bodyPost_ret (v := .tuple #[.agg #[.string (s0.extract 0 ((n0 + k0) : Int).toNat), .int .i64 (n0 + k0), .string (s1.extract 0 (_ : Int).toNat), .int .i64 _], .int .i64 0]) (by simp [results, Try.results21, go_sem, hz0, hz1, hz2]; try rfl) rfl ⟨rfl, ?_⟩
    (repeat (first | (with_reducible exact Below.refl _ _) | (with_reducible assumption) | (with_reducible refine Below.drew ?_) | (with_reducible refine below_drewN ?_ _) | ((with_reducible refine Below.alloc ?_ ?_ _); rotate_left; (first | omega | (simp; done) | (simp; omega))) | ((with_reducible refine Below.setCell ?_ ?_ _); rotate_left; (first | omega | (simp; done) | (simp; omega))) | ((with_reducible refine below_ob ?_ ?_ _ _); rotate_left; (first | omega | (simp; done) | (simp; omega)))))

set_option maxRecDepth 100000 in
set_option maxHeartbeats 4000000 in
theorem crash_okc (s0 s1 : ByteArray) (n0 n1 k0 k1 : Int) (w : World) (hs0 : s0.size ≤ maxLen) (hs1 : s1.size ≤ maxLen) (he : diskE s0.size n0 s1.size n1 = 0) (ha1 : 0 < k0) (ha2 : (s0.size : Int) - n0 < k0) (ha3 : 0 < (s0.size : Int) - n0) :
    Calls Try.prog 21 #[.agg #[.string s0, .int .i64 n0, .string s1, .int .i64 n1], .agg #[.int .i64 k0, .int .i64 k1]] w fun e w' =>
      e = .returned (.tuple #[.agg #[.string (s0.extract 0 ((n0 + ((s0.size : Int) - n0)) : Int).toNat), .int .i64 (n0 + ((s0.size : Int) - n0)), .string (s1.extract 0 (crashN s1.size n1 k1).toNat), .int .i64 (crashN s1.size n1 k1)], .int .i64 0]) ∧ Below w.heap.size w w' := by
  have HC := Lib.hid (fun w => diskCheck_any s0 s1 n0 n1 w hs0 hs1)
  rw [he] at HC
  have hk := slotE_ok (diskE_ok he).1
  have hk' := slotE_ok (diskE_ok he).2
  have hk1 := hk.1
  have hk2 := hk.2.1
  have hk3 := hk.2.2
  have hq1 := hk'.1
  have hq2 := hk'.2.1
  have hq3 := hk'.2.2
  have hcb := crash_cases (k := k1) (diskE_ok he).2
  generalize crashN s1.size n1 k1 = N1 at hcb ⊢
  clear hk hk' he
  rcases hcb with ⟨hb1, rfl⟩ | ⟨hb1, hb2, rfl⟩ | ⟨hb1, hb2, hb3, rfl⟩ | ⟨hb1, hb2, rfl⟩
  all_goals
    go_enter Try.func21, Try.ntmps21
    go_wp2_with fail
    refine (HC.out _).mono ?_
    rintro e w1 ⟨rfl, hbel⟩
    obtain ⟨w2, rfl, hb2, hz⟩ := re_0_3 (B := w.heap.size) hbel (Nat.le_refl _)
    clear hbel
    have hz0 : w.heap.size < w2.heap.size := by omega
    have hz1 : w.heap.size + 1 < w2.heap.size := by omega
    have hz2 : w.heap.size + 2 < w2.heap.size := by omega
    clear hz
    go_wp2_with fail
    refine wp_loop_rounds 3 ?_
    rw [rounds_succ]
    go_wp2_with fail
    go_quiet (fail)
    go_wp2_with fail
    rw [rounds_succ]
    go_wp2_with fail
    go_quiet (fail)
    go_wp2_with fail
    rw [rounds_succ]
    go_wp2_with fail
    refine bodyPost_ret (v := .tuple #[.agg #[.string (s0.extract 0 ((n0 + ((s0.size : Int) - n0)) : Int).toNat), .int .i64 (n0 + ((s0.size : Int) - n0)), .string (s1.extract 0 (_ : Int).toNat), .int .i64 _], .int .i64 0]) (by simp [results, Try.results21, go_sem, hz0, hz1, hz2]; try rfl) rfl ⟨rfl, ?_⟩
    (repeat (first | (with_reducible exact Below.refl _ _) | (with_reducible assumption) | (with_reducible refine Below.drew ?_) | (with_reducible refine below_drewN ?_ _) | ((with_reducible refine Below.alloc ?_ ?_ _); rotate_left; (first | omega | (simp; done) | (simp; omega))) | ((with_reducible refine Below.setCell ?_ ?_ _); rotate_left; (first | omega | (simp; done) | (simp; omega))) | ((with_reducible refine below_ob ?_ ?_ _ _); rotate_left; (first | omega | (simp; done) | (simp; omega)))))

set_option maxRecDepth 100000 in
set_option maxHeartbeats 4000000 in
theorem crash_okd (s0 s1 : ByteArray) (n0 n1 k0 k1 : Int) (w : World) (hs0 : s0.size ≤ maxLen) (hs1 : s1.size ≤ maxLen) (he : diskE s0.size n0 s1.size n1 = 0) (ha1 : 0 < k0) (ha2 : (s0.size : Int) - n0 ≤ 0) :
    Calls Try.prog 21 #[.agg #[.string s0, .int .i64 n0, .string s1, .int .i64 n1], .agg #[.int .i64 k0, .int .i64 k1]] w fun e w' =>
      e = .returned (.tuple #[.agg #[.string (s0.extract 0 (n0 : Int).toNat), .int .i64 n0, .string (s1.extract 0 (crashN s1.size n1 k1).toNat), .int .i64 (crashN s1.size n1 k1)], .int .i64 0]) ∧ Below w.heap.size w w' := by
  have HC := Lib.hid (fun w => diskCheck_any s0 s1 n0 n1 w hs0 hs1)
  rw [he] at HC
  have hk := slotE_ok (diskE_ok he).1
  have hk' := slotE_ok (diskE_ok he).2
  have hk1 := hk.1
  have hk2 := hk.2.1
  have hk3 := hk.2.2
  have hq1 := hk'.1
  have hq2 := hk'.2.1
  have hq3 := hk'.2.2
  have hcb := crash_cases (k := k1) (diskE_ok he).2
  generalize crashN s1.size n1 k1 = N1 at hcb ⊢
  clear hk hk' he
  rcases hcb with ⟨hb1, rfl⟩ | ⟨hb1, hb2, rfl⟩ | ⟨hb1, hb2, hb3, rfl⟩ | ⟨hb1, hb2, rfl⟩
  all_goals
    go_enter Try.func21, Try.ntmps21
    go_wp2_with fail
    refine (HC.out _).mono ?_
    rintro e w1 ⟨rfl, hbel⟩
    obtain ⟨w2, rfl, hb2, hz⟩ := re_0_3 (B := w.heap.size) hbel (Nat.le_refl _)
    clear hbel
    have hz0 : w.heap.size < w2.heap.size := by omega
    have hz1 : w.heap.size + 1 < w2.heap.size := by omega
    have hz2 : w.heap.size + 2 < w2.heap.size := by omega
    clear hz
    go_wp2_with fail
    refine wp_loop_rounds 3 ?_
    rw [rounds_succ]
    go_wp2_with fail
    go_quiet (fail)
    go_wp2_with fail
    rw [rounds_succ]
    go_wp2_with fail
    go_quiet (fail)
    go_wp2_with fail
    rw [rounds_succ]
    go_wp2_with fail
    refine bodyPost_ret (v := .tuple #[.agg #[.string (s0.extract 0 (n0 : Int).toNat), .int .i64 n0, .string (s1.extract 0 (_ : Int).toNat), .int .i64 _], .int .i64 0]) (by simp [results, Try.results21, go_sem, hz0, hz1, hz2]; try rfl) rfl ⟨rfl, ?_⟩
    (repeat (first | (with_reducible exact Below.refl _ _) | (with_reducible assumption) | (with_reducible refine Below.drew ?_) | (with_reducible refine below_drewN ?_ _) | ((with_reducible refine Below.alloc ?_ ?_ _); rotate_left; (first | omega | (simp; done) | (simp; omega))) | ((with_reducible refine Below.setCell ?_ ?_ _); rotate_left; (first | omega | (simp; done) | (simp; omega))) | ((with_reducible refine below_ob ?_ ?_ _ _); rotate_left; (first | omega | (simp; done) | (simp; omega)))))

theorem crash_ok (s0 s1 : ByteArray) (n0 n1 k0 k1 : Int) (w : World) (hs0 : s0.size ≤ maxLen) (hs1 : s1.size ≤ maxLen) (he : diskE s0.size n0 s1.size n1 = 0) :
    Calls Try.prog 21 #[.agg #[.string s0, .int .i64 n0, .string s1, .int .i64 n1], .agg #[.int .i64 k0, .int .i64 k1]] w fun e w' =>
      e = .returned (.tuple #[.agg #[.string (s0.extract 0 (crashN s0.size n0 k0).toNat), .int .i64 (crashN s0.size n0 k0), .string (s1.extract 0 (crashN s1.size n1 k1).toNat), .int .i64 (crashN s1.size n1 k1)], .int .i64 0]) ∧ Below w.heap.size w w' := by
  rcases crash_cases (k := k0) (diskE_ok he).1 with ⟨h1, e⟩ | ⟨h1, h2, e⟩ | ⟨h1, h2, h3, e⟩ | ⟨h1, h2, e⟩
  · rw [← e]; exact crash_oka s0 s1 n0 n1 k0 k1 w hs0 hs1 he h1
  · rw [← e]; exact crash_okb s0 s1 n0 n1 k0 k1 w hs0 hs1 he h1 h2
  · rw [← e]; exact crash_okc s0 s1 n0 n1 k0 k1 w hs0 hs1 he h1 h2 h3
  · rw [← e]; exact crash_okd s0 s1 n0 n1 k0 k1 w hs0 hs1 he h1 h2

set_option maxRecDepth 100000 in
set_option maxHeartbeats 1000000 in
theorem crash_bad (s0 s1 : ByteArray) (n0 n1 k0 k1 : Int) (w : World) (hs0 : s0.size ≤ maxLen) (hs1 : s1.size ≤ maxLen) (he : diskE s0.size n0 s1.size n1 ≠ 0) :
    Calls Try.prog 21 #[.agg #[.string s0, .int .i64 n0, .string s1, .int .i64 n1], .agg #[.int .i64 k0, .int .i64 k1]] w fun e w' =>
      e = .returned (.tuple #[.agg #[.string ⟨#[]⟩, .int .i64 0, .string ⟨#[]⟩, .int .i64 0], .int .i64 (diskE s0.size n0 s1.size n1)]) ∧ Below w.heap.size w w' := by
  have HC := Lib.hid (fun w => diskCheck_any s0 s1 n0 n1 w hs0 hs1)
  generalize diskE s0.size n0 s1.size n1 = E at HC he ⊢
  have ht : (E == 0) = false := by rw [beq_eq_false_iff_ne]; exact he
  clear he
  go_enter Try.func21, Try.ntmps21
  go_wp2_with fail
  refine (HC.out _).mono ?_
  rintro e w1 ⟨rfl, hbel⟩
  obtain ⟨w2, rfl, hb2, hz⟩ := re_0_3 (B := w.heap.size) hbel (Nat.le_refl _)
  clear hbel
  have hz0 : w.heap.size < w2.heap.size := by omega
  have hz1 : w.heap.size + 1 < w2.heap.size := by omega
  have hz2 : w.heap.size + 2 < w2.heap.size := by omega
  clear hz
  go_wp2_with fail
  refine bodyPost_ret (v := .tuple #[.agg #[.string ⟨#[]⟩, .int .i64 0, .string ⟨#[]⟩, .int .i64 0], .int .i64 E]) (by simp [results, Try.results21, go_sem, hz0, hz1, hz2]) rfl ⟨rfl, ?_⟩
  (repeat (first | (with_reducible exact Below.refl _ _) | (with_reducible assumption) | (with_reducible refine Below.drew ?_) | (with_reducible refine below_drewN ?_ _) | ((with_reducible refine Below.alloc ?_ ?_ _); rotate_left; (first | omega | (simp; done) | (simp; omega))) | ((with_reducible refine Below.setCell ?_ ?_ _); rotate_left; (first | omega | (simp; done) | (simp; omega))) | ((with_reducible refine below_ob ?_ ?_ _ _); rotate_left; (first | omega | (simp; done) | (simp; omega)))))
end Go.Proofs.Ytjilpjhjcdgnoaa
