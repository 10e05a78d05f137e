/-
  The walk of scrivlaw.CrcSays.
-/
import Derived.Test.YtjilpjhjcdgnoaaCrc1
import Derived.Test.YtjilpjhjcdgnoaaCrc3
namespace Go.Proofs.Ytjilpjhjcdgnoaa
open Go.RowKit

theorem crc_digits : crcNat (ByteArray.mk #[49, 50, 51, 52, 53, 54, 55, 56, 57]).data.toList = 3808858755 := by decide +kernel

set_option maxRecDepth 100000 in
set_option maxHeartbeats 400000 in
theorem crcSays_walk (s : ByteArray) (w : World) (hs : s.size ≤ maxLen) :
    Calls Try.prog 6 #[.string s] w fun e w' => e = .returned (.bool true) ∧ Below w.heap.size w w' := by
  have HA := Lib.hid fun w => crcOf_any (ByteArray.mk #[49, 50, 51, 52, 53, 54, 55, 56, 57]) w (by decide)
  rw [crc_digits] at HA
  go_enter Try.func6, Try.ntmps6
  go_wp2_with fail
  refine (crcOf_any s _ hs).mono ?_
  rintro e w1 ⟨rfl, hb1⟩
  go_wp2_with fail
  refine (refCrc_any s _ hs).mono ?_
  rintro e w' ⟨rfl, rfl⟩
  go_wp2_with fail
  refine (HA.out _).mono ?_
  rintro e w2 ⟨rfl, hb2⟩
  go_wp2_with fail
  go_ret
  exact ⟨rfl, hb1.trans (hb2.mono hb1.size)⟩
end Go.Proofs.Ytjilpjhjcdgnoaa
