/-
  The walk of scrivlaw.HashJoins.
-/
import Derived.Test.YtjilpjhjcdgnoaaHash3
namespace Go.Proofs.Ytjilpjhjcdgnoaa
open Go.RowKit

set_option maxRecDepth 100000 in
set_option maxHeartbeats 400000 in
theorem hashJoins_bad (a b n : Int) (w : World) (h : a < 0 ∨ 2147483647 ≤ a ∨ b < 0 ∨ 2147483647 ≤ b ∨ n < 0 ∨ 2147483647 < n) :
    Calls Try.prog 5 #[.int .i64 a, .int .i64 b, .int .i64 n] w fun e w' => e = .returned (.bool true) ∧ Below w.heap.size w w' := by
  have HJ := Lib.hid (join_bad a b n w h)
  go_enter Try.func5, Try.ntmps5
  go_wp2_with fail
  refine HJ.out.mono ?_
  rintro e w' ⟨rfl, rfl⟩
  go_wp2_with fail
  all_goals
    go_ret
    exact ⟨rfl, Below.refl _ _⟩

set_option maxRecDepth 100000 in
set_option maxHeartbeats 1000000 in
theorem hashJoins_large (a b n : Int) (w : World) (ha0 : 0 ≤ a) (ha1 : a < 2147483647) (hb0 : 0 ≤ b) (hb1 : b < 2147483647) (hn0 : 100000 < n) (hn1 : n ≤ 2147483647) :
    Calls Try.prog 5 #[.int .i64 a, .int .i64 b, .int .i64 n] w fun e w' => e = .returned (.bool true) ∧ Below w.heap.size w w' := by
  have HJ := Lib.hid (join_ok a b n w ha0 ha1 hb0 hb1 (by omega) hn1)
  go_enter Try.func5, Try.ntmps5
  go_wp2_with fail
  refine HJ.out.mono ?_
  rintro e w' ⟨rfl, rfl⟩
  have hr0 : 0 ≤ (a * pwr n.toNat + b) % 2147483647 := by omega
  have hr1 : (a * pwr n.toNat + b) % 2147483647 < 2147483647 := by omega
  generalize (a * pwr n.toNat + b) % 2147483647 = r at hr0 hr1 ⊢
  go_wp2_with fail
  all_goals
    go_ret
    exact ⟨rfl, Below.refl _ _⟩

set_option maxRecDepth 100000 in
set_option maxHeartbeats 1000000 in
theorem hashJoins_small (a b n : Int) (w : World) (ha0 : 0 ≤ a) (ha1 : a < 2147483647) (hb0 : 0 ≤ b) (hb1 : b < 2147483647) (hn0 : 0 ≤ n) (hn1 : n ≤ 100000) :
    Calls Try.prog 5 #[.int .i64 a, .int .i64 b, .int .i64 n] w fun e w' => e = .returned (.bool true) ∧ Below w.heap.size w w' := by
  have HJ := Lib.hid (join_ok a b n w ha0 ha1 hb0 hb1 (by omega) (by omega))
  have HS := Lib.hid (shift_any n.toNat a n w (by omega) ha0 ha1 (by omega) (by omega))
  go_enter Try.func5, Try.ntmps5
  go_wp2_with fail
  refine HJ.out.mono ?_
  rintro e w' ⟨rfl, rfl⟩
  have hs0 : 0 ≤ a * pwr n.toNat % 2147483647 := by omega
  have hs1 : a * pwr n.toNat % 2147483647 < 2147483647 := by omega
  have HE : Hid ((a * pwr n.toNat + b) % 2147483647 = (a * pwr n.toNat % 2147483647 + b) % 2147483647) := by show _ = _; omega
  rw [HE.out]
  clear HJ HE
  generalize a * pwr n.toNat % 2147483647 = q at hs0 hs1 HS ⊢
  go_wp2_with fail
  all_goals
    refine HS.out.mono ?_
    rintro e w' ⟨rfl, rfl⟩
    go_wp2_with fail
    go_ret
    exact ⟨rfl, Below.refl _ _⟩

theorem hashJoins_walk (a b n : Int) (w : World) (_ha : -9223372036854775808 ≤ a ∧ a ≤ 9223372036854775807) (_hb : -9223372036854775808 ≤ b ∧ b ≤ 9223372036854775807) (_hn : -9223372036854775808 ≤ n ∧ n ≤ 9223372036854775807) :
    Calls Try.prog 5 #[.int .i64 a, .int .i64 b, .int .i64 n] w fun e w' => e = .returned (.bool true) ∧ Below w.heap.size w w' := by
  by_cases h : a < 0 ∨ 2147483647 ≤ a ∨ b < 0 ∨ 2147483647 ≤ b ∨ n < 0 ∨ 2147483647 < n
  · exact hashJoins_bad a b n w h
  · by_cases hn : n ≤ 100000
    · exact hashJoins_small a b n w (by omega) (by omega) (by omega) (by omega) (by omega) hn
    · exact hashJoins_large a b n w (by omega) (by omega) (by omega) (by omega) (by omega) (by omega)

end Go.Proofs.Ytjilpjhjcdgnoaa
