/-
  The walk of num.Get.
-/
import Derived.Test.YtobngncjflogcaaNum2
set_option linter.unusedVariables false
set_option linter.unusedSimpArgs false
namespace Go.Proofs.Ytobngncjflogcaa
open Go.RowKit

set_option maxRecDepth 100000 in
set_option maxHeartbeats 1000000 in
theorem get_any (s : ByteArray) (w : World) (hs : s.size ≤ maxLen) :
    Calls Try.prog 118 #[.string s] w fun e w' => e = .returned (.tuple #[.int .i64 (getS s.data.toList).1, .int .i64 (getS s.data.toList).2.1, .int .i64 (getS s.data.toList).2.2]) ∧ w = w' := by
  unfold maxLen at hs
  go_enter Try.func118, Try.ntmps118
  go_wp2
  go_loop [5, 10] (fun n i => ∃ k : Nat, k ≤ s.size ∧ k ≤ 4 ∧ i = .int .i64 k ∧ n = .int .i64 (val (s.data.toList.take k)) ∧ HiTo s k) (fun _ i => s.size - (intOf i).toNat)
  case atStart => exact ⟨0, Nat.zero_le _, by omega, rfl, rfl, fun j h hj => by omega⟩
  case round =>
    obtain ⟨k, hk, hk4, rfl, rfl, HH⟩ := hrel
    by_cases hlt : k < s.size
    · have hbyte : s[k].toNat < 256 := s[k].toNat_lt
      have h127 := i64_and127 (s[k].toNat : Int)
      have hN := get_word s k hlt hk4
      have hvl : val (s.data.toList.take (k + 1)) < 34359738368 := by
        have h1 := val_lt (s.data.toList.take (k + 1))
        have h2 : (s.data.toList.take (k + 1)).length ≤ 5 := by simp; omega
        have h3 := Nat.pow_le_pow_right (show 0 < 128 by decide) h2
        omega
      by_cases hb : s[k].toNat < 128
      · by_cases hz : s[k].toNat = 0 ∧ k ≠ 0
        · have HF := Lib.hid (getS_zero s k hlt hk4 HH hz.1 hz.2)
          have t1 : ((s[k].toNat : Int) == 0) = true := by rw [beq_iff_eq]; omega
          have t2 : (0 : Int) < k := by omega
          clear hz
          generalize val (s.data.toList.take (k + 1)) = N at hN hvl
          go_wp2
          go_ret3
          exact ⟨by rw [HF.out]; rfl, rfl⟩
        · by_cases hv : val (s.data.toList.take (k + 1)) ≤ 2147483647
          · have HF := Lib.hid (getS_ok s k hlt hk4 HH hb (by omega) hv)
            generalize val (s.data.toList.take (k + 1)) = N at hN hvl HF hv
            by_cases h0 : s[k].toNat = 0
            · have hk0 : k = 0 := by omega
              subst hk0
              have HF2 : Hid (getS s.data.toList = ((N : Int), 1, 0)) := HF.out
              have t1 : ((s[0].toNat : Int) == 0) = true := by rw [beq_iff_eq]; omega
              have hN0 : bits BinOp.or IntKind.i64 (val [] : Int) ((s[0].toNat : Int) % 128) = (N : Int) := by
                rw [← hN]
                have e : ((s[0].toNat : Int) % (128 : Int) * (2 : Int) ^ (7 * 0)) = (s[0].toNat : Int) % (128 : Int) := by simp
                rw [e, IntWalk.wrap64_in _ ⟨by omega, by omega⟩]
                rfl
              clear hz h0 HF hN
              go_wp2
              go_ret3
              exact ⟨by rw [HF2.out]; rfl, rfl⟩
            · have t1 : ((s[k].toNat : Int) == 0) = false := by rw [beq_eq_false_iff_ne]; omega
              clear hz h0
              go_wp2
              go_ret3
              exact ⟨by rw [HF.out]; rfl, rfl⟩
          · have HF := Lib.hid (getS_big s k hlt hk4 HH hb (by omega))
            by_cases h0 : s[k].toNat = 0
            · have hk0 : k = 0 := by omega
              have h1 := val_lt (s.data.toList.take (k + 1))
              have h2 : (s.data.toList.take (k + 1)).length ≤ 1 := by simp; omega
              have h3 := Nat.pow_le_pow_right (show 0 < 128 by decide) h2
              omega
            · have t1 : ((s[k].toNat : Int) == 0) = false := by rw [beq_eq_false_iff_ne]; omega
              generalize val (s.data.toList.take (k + 1)) = N at hN hvl HF hv
              clear hz h0
              go_wp2
              go_ret3
              exact ⟨by rw [HF.out]; rfl, rfl⟩
      · have HS := Lib.hid (HH.snoc hlt (by omega))
        by_cases h4 : k = 4
        · have HF := Lib.hid (getS_five s (by omega) (by have := HS.out; rwa [h4] at this))
          have t1 : ((k : Int) == 4) = true := by rw [beq_iff_eq]; omega
          clear h4
          generalize val (s.data.toList.take (k + 1)) = N at hN hvl
          go_wp2
          go_ret3
          exact ⟨by rw [HF.out]; rfl, rfl⟩
        · have t1 : ((k : Int) == 4) = false := by rw [beq_eq_false_iff_ne]; omega
          have hk3 : k ≤ 3 := by omega
          clear h4
          generalize hV : val (s.data.toList.take (k + 1)) = N at hN hvl
          have HV := Lib.hid hV
          clear hV
          go_wp2
          go_round
          case rel => exact ⟨k + 1, by omega, by omega, by go_num, congrArg _ (congrArg _ HV.out.symm), HS.out⟩
          case measure => simp [intOf]; omega
    · have HF := Lib.hid (getS_short s (by omega) (fun j hj _ => HH j hj (by omega)))
      go_wp2
      go_ret3
      exact ⟨by rw [HF.out]; rfl, rfl⟩
end Go.Proofs.Ytobngncjflogcaa
