/-
  The walk of HashSays: whatever text is handed in, hash.Of answers what scrivref.Hash answers, and the sum of "a" is 98. No condition.
-/
import Derived.Test.YtjilpjhjcdgnoaaHash1
namespace Go.Proofs.Ytjilpjhjcdgnoaa
open Go.RowKit

theorem hashA : hashL (ByteArray.mk #[97]).data.toList = 98 := by decide

set_option maxHeartbeats 400000 in
theorem hashSays_walk (s : ByteArray) (w : World) (hs : s.size ≤ maxLen) :
    Calls Try.prog 4 #[.string s] w fun e w' => e = .returned (.bool true) ∧ Below w.heap.size w w' := by
  have hA := hashOf_any (ByteArray.mk #[97]) w (by decide)
  rw [hashA] at hA
  have HA := Lib.hid hA
  clear hA
  go_enter Try.func4, Try.ntmps4
  go_wp2_with fail
  refine (hashOf_any s _ hs).mono ?_
  rintro e w' ⟨rfl, rfl⟩
  go_wp2_with fail
  refine (refHash_any s _ hs).mono ?_
  rintro e w' ⟨rfl, rfl⟩
  go_wp2_with fail
  refine HA.out.mono ?_
  rintro e w' ⟨rfl, rfl⟩
  go_wp2_with fail
  go_ret
  exact ⟨rfl, Below.refl _ _⟩

end Go.Proofs.Ytjilpjhjcdgnoaa
