/-
  The walks of hash.power, hash.Join and scrivref.Shift.
-/
import Derived.Test.YtjilpjhjcdgnoaaRows
import Derived.Test.YtjilpjhjcdgnoaaHash0
import Derived.Test.YtjilpjhjcdgnoaaHash2
import Derived.WalkKit
import Derived.WalkSpells
import Derived.WalkLawsBesides
import Derived.Lib.Hide
namespace Go.Proofs.Ytjilpjhjcdgnoaa
open Go.RowKit

set_option maxRecDepth 100000 in
set_option maxHeartbeats 400000 in
theorem power_any (n : Int) (w : World) (h0 : 0 ≤ n) (h1 : n ≤ 2147483647) :
    Calls Try.prog 49 #[.int .i64 n] w fun e w' => e = .returned (.int .i64 (pwr n.toNat)) ∧ w = w' := by
  go_enter Try.func49, Try.ntmps49
  go_wp2
  go_loop [0, 3, 4] (fun m o b => ∃ (k : Nat) (x y : Int), (k : Int) ≤ 2147483647 ∧ 0 ≤ x ∧ x < 2147483647 ∧ 0 ≤ y ∧ y < 2147483647 ∧ m = .int .i64 k ∧ o = .int .i64 x ∧ b = .int .i64 y ∧ Hid (x * y ^ k % 2147483647 = pwr n.toNat)) (fun m _ _ => (intOf m).toNat)
  case atStart => exact ⟨n.toNat, 1, 257, by omega, by omega, by omega, by omega, by omega, by rw [Int.toNat_of_nonneg h0], rfl, rfl, by show _ = _; rw [Int.one_mul]; rfl⟩
  case round =>
    obtain ⟨k, x, y, hk, hx0, hx1, hy0, hy1, rfl, rfl, rfl, HR⟩ := hrel
    have hand := bits_and1 (k : Int)
    have p1 := mul_bd hx0 hx1 hy0 hy1
    have p2 := mul_bd hy0 hy1 hy0 hy1
    have p1a := p1.1
    have p1b := p1.2
    have p2a := p2.1
    have p2b := p2.2
    clear p1 p2
    by_cases hlt : (0 : Int) < k
    · have hodd : k % 2 = 1 → Hid (x * y % 2147483647 * (y * y % 2147483647) ^ (k / 2) % 2147483647 = pwr n.toNat) := fun h => by
        show _ = _
        rw [step_odd, show 2 * (k / 2) + 1 = k by omega]; exact HR.out
      have heven : k % 2 = 0 → Hid (x * (y * y % 2147483647) ^ (k / 2) % 2147483647 = pwr n.toNat) := fun h => by
        show _ = _
        rw [step_even, show 2 * (k / 2) = k by omega]; exact HR.out
      by_cases hp : k % 2 = 1
      · have HO := hodd hp
        have hp' : ((k : Int) % 2 == 1) = true := by rw [beq_iff_eq]; omega
        clear hodd heven hp HR
        go_wp2
        go_round
        case rel => exact ⟨k / 2, _, _, by omega, by omega, by omega, by omega, by omega, by go_num, rfl, rfl, HO⟩
        case measure => simp [intOf]; omega
      · have HE := heven (by omega)
        have hp' : ((k : Int) % 2 == 1) = false := by rw [beq_eq_false_iff_ne]; omega
        clear hodd heven hp HR
        go_wp2
        go_round
        case rel => exact ⟨k / 2, _, _, by omega, hx0, hx1, by omega, by omega, by go_num, rfl, rfl, HE⟩
        case measure => simp [intOf]; omega
    · have hk0 : k = 0 := by omega
      have HF : Hid (x = pwr n.toNat) := by
        have h := HR.out
        rw [hk0] at h
        show _ = _
        rw [← h]; simp; omega
      clear hk0
      go_wp2
      go_ret
      exact ⟨ret_int HF.out, rfl⟩

set_option maxRecDepth 100000 in
set_option maxHeartbeats 400000 in
theorem join_ok (a b n : Int) (w : World) (ha0 : 0 ≤ a) (ha1 : a < 2147483647) (hb0 : 0 ≤ b) (hb1 : b < 2147483647) (hn0 : 0 ≤ n) (hn1 : n ≤ 2147483647) :
    Calls Try.prog 17 #[.int .i64 a, .int .i64 b, .int .i64 n] w fun e w' => e = .returned (.tuple #[.int .i64 ((a * pwr n.toNat + b) % 2147483647), .int .i64 0]) ∧ w = w' := by
  go_enter Try.func17, Try.ntmps17
  go_wp2_with fail
  refine (power_any n _ hn0 hn1).mono ?_
  rintro e w' ⟨rfl, rfl⟩
  have hp := pwr_bd n.toNat
  generalize hq : pwr n.toNat = q at hp ⊢
  have HQ := Lib.hid hq
  clear hq
  have hp0 := hp.1
  have hp1 := hp.2
  have hm := mul_bd ha0 ha1 hp0 hp1
  have hm0 := hm.1
  have hm1 := hm.2
  clear hp hm
  go_wp2_with fail
  go_ret2
  exact ⟨by rw [HQ.out]; rfl, rfl⟩

set_option maxRecDepth 100000 in
set_option maxHeartbeats 400000 in
theorem join_bad (a b n : Int) (w : World) (h : a < 0 ∨ 2147483647 ≤ a ∨ b < 0 ∨ 2147483647 ≤ b ∨ n < 0 ∨ 2147483647 < n) :
    Calls Try.prog 17 #[.int .i64 a, .int .i64 b, .int .i64 n] w fun e w' => e = .returned (.tuple #[.int .i64 0, .int .i64 1]) ∧ w = w' := by
  have hc : (a < 0) ∨ (0 ≤ a ∧ 2147483647 ≤ a) ∨ (0 ≤ a ∧ a < 2147483647 ∧ b < 0) ∨ (0 ≤ a ∧ a < 2147483647 ∧ 0 ≤ b ∧ 2147483647 ≤ b) ∨ (0 ≤ a ∧ a < 2147483647 ∧ 0 ≤ b ∧ b < 2147483647 ∧ n < 0) ∨ (0 ≤ a ∧ a < 2147483647 ∧ 0 ≤ b ∧ b < 2147483647 ∧ 0 ≤ n ∧ 2147483647 < n) := by omega
  clear h
  rcases hc with h1 | ⟨h1, h2⟩ | ⟨h1, h2, h3⟩ | ⟨h1, h2, h3, h4⟩ | ⟨h1, h2, h3, h4, h5⟩ | ⟨h1, h2, h3, h4, h5, h6⟩
  all_goals
    go_enter Try.func17, Try.ntmps17
    go_wp2_with fail
    go_ret2
    exact ⟨rfl, rfl⟩

set_option maxRecDepth 100000 in
set_option maxHeartbeats 400000 in
theorem shift_any (m : Nat) : ∀ (a n : Int) (w : World), n ≤ m → 0 ≤ a → a < 2147483647 → 0 ≤ n → n ≤ 2147483647 →
    Calls Try.prog 18 #[.int .i64 a, .int .i64 n] w fun e w' => e = .returned (.int .i64 (a * pwr n.toNat % 2147483647)) ∧ w = w' := by
  induction m with
  | zero =>
    intro a n w hm ha0 ha1 hn0 hn1
    have hz : (n == 0) = true := by rw [beq_iff_eq]; omega
    have HF : Hid (a = a * pwr n.toNat % 2147483647) := by
      rw [show n = 0 by omega]; show a = a * pwr 0 % 2147483647; rw [show pwr 0 = 1 by decide]; omega
    go_enter Try.func18, Try.ntmps18
    go_wp2_with fail
    go_ret
    exact ⟨ret_int HF.out, rfl⟩
  | succ m ih =>
    intro a n w hm ha0 ha1 hn0 hn1
    by_cases hz : n = 0
    · have hz' : (n == 0) = true := by rw [beq_iff_eq]; omega
      have HF : Hid (a = a * pwr n.toNat % 2147483647) := by
        rw [hz]; show a = a * pwr 0 % 2147483647; rw [show pwr 0 = 1 by decide]; omega
      clear hz
      go_enter Try.func18, Try.ntmps18
      go_wp2_with fail
      go_ret
      exact ⟨ret_int HF.out, rfl⟩
    · have hz' : (n == 0) = false := by rw [beq_eq_false_iff_ne]; omega
      have hpos : 1 ≤ n := by omega
      have HF : Hid (a * pwr (n / 2).toNat % 2147483647 * pwr (n - n / 2).toNat % 2147483647 = a * pwr n.toNat % 2147483647) := by
        have := shift_half a n.toNat
        rw [show (n / 2).toNat = n.toNat / 2 by omega, show (n - n / 2).toNat = n.toNat - n.toNat / 2 by omega]; exact this
      have IH := Lib.hid (ih a (n / 2) w (by omega) ha0 ha1 (by omega) (by omega))
      clear hz ih
      have hh0 : 0 ≤ a * pwr (n / 2).toNat % 2147483647 := by omega
      have hh1 : a * pwr (n / 2).toNat % 2147483647 < 2147483647 := by omega
      go_enter Try.func18, Try.ntmps18
      go_wp2_with fail
      refine IH.out.mono ?_
      rintro e w' ⟨rfl, rfl⟩
      generalize a * pwr (n / 2).toNat % 2147483647 = half at *
      go_wp2_with fail
      go_loop [6, 18] (fun x i => ∃ k : Nat, (k : Int) ≤ n - n / 2 ∧ i = .int .i64 k ∧ x = .int .i64 (pwr k)) (fun _ i => (n - n / 2).toNat - (intOf i).toNat)
      case atStart => exact ⟨0, by omega, rfl, rfl⟩
      case round =>
        obtain ⟨k, hk, rfl, rfl⟩ := hrel
        have hp := pwr_bd k
        have hp0 := hp.1
        have hp1 := hp.2
        have HS := Lib.hid (pwr_succ k)
        clear hp
        by_cases hlt : (k : Int) < n - n / 2
        · go_wp2_with fail
          go_round
          case rel => exact ⟨k + 1, by omega, by go_num, congrArg _ HS.out.symm⟩
          case measure => simp [intOf]; omega
        · have hm := mul_bd hh0 hh1 hp0 hp1
          have hm0 := hm.1
          have hm1 := hm.2
          have HK : Hid (k = (n - n / 2).toNat) := by show _ = _; omega
          clear hm
          go_wp2_with fail
          go_ret
          exact ⟨ret_int (by rw [← HF.out, ← HK.out]), rfl⟩
end Go.Proofs.Ytjilpjhjcdgnoaa
