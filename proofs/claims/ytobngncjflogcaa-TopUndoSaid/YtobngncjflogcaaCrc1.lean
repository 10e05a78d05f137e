/-
  The walk of scrivref.Crc: bit by bit.
-/
import Derived.Test.YtobngncjflogcaaRows
import Derived.Test.YtobngncjflogcaaHash0
import Derived.Test.YtobngncjflogcaaCrc0
import Derived.WalkKit
import Derived.WalkSpells
import Derived.WalkLawsBesides
import Derived.Lib.Hide
set_option linter.unusedVariables false
set_option linter.unusedSimpArgs false
namespace Go.Proofs.Ytobngncjflogcaa
open Go.RowKit

set_option maxRecDepth 100000 in
set_option maxHeartbeats 400000 in
theorem refCrc_any (s : ByteArray) (w : World) (hs : s.size ≤ maxLen) :
    Calls Try.prog 128 #[.string s] w fun e w' => e = .returned (.int .u32 (crcNat s.data.toList)) ∧ w = w' := by
  unfold maxLen at hs
  go_enter Try.func128, Try.ntmps128
  go_wp2
  go_loop [3, 9] (fun h i => ∃ k : Nat, k ≤ s.size ∧ i = .int .i64 k ∧ ∃ x : BitVec 32, h = .int .u32 x.toNat ∧ Hid (x = crcL (s.data.toList.take k))) (fun _ i => s.size - (intOf i).toNat)
  case atStart => exact ⟨0, Nat.zero_le _, rfl, 0xffffffff#32, rfl, rfl⟩
  case round =>
    obtain ⟨k, hk, rfl, x, rfl, HX⟩ := hrel
    by_cases hlt : k < s.size
    · have hbyte : s[k].toNat < 256 := s[k].toNat_lt
      go_wp2
      go_loop [3, 12] (fun h i => ∃ m : Nat, m ≤ 8 ∧ i = .int .i64 m ∧ ∃ y : BitVec 32, h = .int .u32 y.toNat ∧ Hid (y = bitN (byte32 s[k]) m x)) (fun _ i => 8 - (intOf i).toNat)
      case atStart => exact ⟨0, Nat.zero_le _, rfl, x, rfl, rfl⟩
      case round =>
        obtain ⟨m, hm, rfl, y, rfl, HY⟩ := hrel
        by_cases hlt8 : m < 8
        · have hb := byte_shift s[k] m
          have HT := Lib.hid (lsb_test (y ^^^ byte32 s[k] >>> m))
          have HX2 := Lib.hid (bxor32 y (byte32 s[k] >>> m))
          have HP := Lib.hid (poly32 y)
          have HH := Lib.hid (half32 y)
          cases hc : (y ^^^ byte32 s[k] >>> m).getLsbD 0
          · have HS := Lib.hid (bitStep_false _ _ _ hc)
            have ht : (bits .and .u32 (bits .xor .u32 (y.toNat : Int) ((s[k].toNat : Int) / 2 ^ m % 4294967296)) 1 == 1) = false := by
              rw [hb, HX2.out, HT.out, hc]
            clear hb hc
            go_wp2
            go_round
            case rel => exact ⟨m + 1, by omega, by go_num, y >>> 1, congrArg _ HH.out, by show _ = bitStep _ _ _; rw [← HY.out, HS.out]⟩
            case measure => simp [intOf]; omega
          · have HS := Lib.hid (bitStep_true _ _ _ hc)
            have ht : (bits .and .u32 (bits .xor .u32 (y.toNat : Int) ((s[k].toNat : Int) / 2 ^ m % 4294967296)) 1 == 1) = true := by
              rw [hb, HX2.out, HT.out, hc]
            clear hb hc
            go_wp2
            go_round
            case rel => exact ⟨m + 1, by omega, by go_num, (y >>> 1) ^^^ 0x82f63b78#32, congrArg _ HP.out, by show _ = bitStep _ _ _; rw [← HY.out, HS.out]⟩
            case measure => simp [intOf]; omega
        · have HM : Hid (m = 8) := by show _ = _; omega
          go_wp2
          go_round
          case rel => exact ⟨k + 1, by omega, by go_num, y, rfl, by show _ = _; rw [HY.out, HM.out, bit8_eq, take_snoc s k hlt, crcL_snoc, HX.out]⟩
          case measure => simp [intOf]; omega
    · go_wp2
      go_ret
      exact ⟨ret_int (by rw [not32, HX.out, List.take_of_length_le (by simp; omega)]; rfl), rfl⟩
end Go.Proofs.Ytobngncjflogcaa
