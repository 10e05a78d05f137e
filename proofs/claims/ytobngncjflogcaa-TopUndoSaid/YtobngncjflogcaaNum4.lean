/-
  The walk of scrivref.Unnum.
-/
import Derived.Test.YtobngncjflogcaaNum3
set_option linter.unusedVariables false
set_option linter.unusedSimpArgs false
namespace Go.Proofs.Ytobngncjflogcaa
open Go.RowKit

theorem ret_i3 {a b : Int × Int × Int} (h : b = a) : Ending.returned (.tuple #[.int .i64 a.1, .int .i64 a.2.1, .int .i64 a.2.2]) = .returned (.tuple #[.int .i64 b.1, .int .i64 b.2.1, .int .i64 b.2.2]) := by rw [h]

set_option maxRecDepth 100000 in
set_option maxHeartbeats 1000000 in
theorem unnum_any (s : ByteArray) (w : World) (hs : s.size ≤ maxLen) :
    Calls Try.prog 103 #[.string s] w fun e w' => e = .returned (.tuple #[.int .i64 (getS s.data.toList).1, .int .i64 (getS s.data.toList).2.1, .int .i64 (getS s.data.toList).2.2]) ∧ Below w.heap.size w w' := by
  unfold maxLen at hs
  go_enter Try.func103, Try.ntmps103
  go_wp2_with fail
  go_loop [5] (fun i => ∃ k : Nat, k ≤ s.size ∧ i = .int .i64 k ∧ Hid (HiTo s k)) (fun i => s.size - (intOf i).toNat)
  case atStart => exact ⟨0, Nat.zero_le _, rfl, fun j h hj => by omega⟩
  case round =>
    obtain ⟨k, hk, rfl, HH⟩ := hrel
    by_cases hlt : k < s.size
    · have hbyte : s[k].toNat < 256 := s[k].toNat_lt
      by_cases hb : 128 ≤ s[k].toNat
      · have HS := Lib.hid (HH.out.snoc hlt hb)
        have hb2 : (128 : Int) ≤ (s[k].toNat : Int) := by omega
        go_wp2_with fail
        go_round
        case rel => exact ⟨k + 1, by omega, by go_num, HS.out⟩
        case measure => simp [intOf]; omega
      · have hb2 : (s[k].toNat : Int) < 128 := by omega
        by_cases h5 : 5 ≤ k
        · have HF := Lib.hid (getS_five s (by omega) (fun j hj h => HH.out j hj (by omega)))
          go_wp2_with fail
          go_ret3
          exact ⟨by rw [HF.out]; rfl, Below.refl _ _⟩
        · have hne : ((k : Int) == (s.size : Int)) = false := by rw [beq_eq_false_iff_ne]; omega
          go_wp2_with fail
          go_loop [6, 7] (fun n i => ∃ j : Nat, j ≤ k + 1 ∧ i = .int .i64 ((j : Int) - 1) ∧ n = .int .i64 (valFrom s k j)) (fun _ i => (intOf i + 1).toNat)
          case atStart => exact ⟨k + 1, by omega, by go_num, by rw [valFrom_end s k hlt]; rfl⟩
          case round =>
            obtain ⟨j, hj, rfl, rfl⟩ := hrel
            have hvl := valFrom_lt s k j (by omega)
            by_cases hj0 : 1 ≤ j
            · obtain ⟨i, rfl⟩ : ∃ i, j = i + 1 := ⟨j - 1, by omega⟩
              have hi : i < s.size := by omega
              have hbi : s[i].toNat < 256 := s[i].toNat_lt
              have HV := Lib.hid (valFrom_step s k i hlt (by omega))
              have ei : ((i + 1 : Nat) : Int) - 1 = (i : Int) := by omega
              rw [ei]
              clear ei
              generalize hN : valFrom s k (i + 1) = N at hvl HV ⊢
              clear hN
              go_wp2_with fail
              go_round
              case rel => exact ⟨i, by omega, rfl, congrArg _ (by rw [HV.out]; omega)⟩
              case measure => simp [intOf]
            · have hj1 : j = 0 := by omega
              subst hj1
              have HE := Lib.hid (unnum_eq s k hlt (by omega) HH.out (by omega))
              have ev : valFrom s k 0 = val (s.data.toList.take (k + 1)) := rfl
              rw [ev] at hvl ⊢
              clear ev
              by_cases hbig : 2147483647 < val (s.data.toList.take (k + 1))
              · have HF := Lib.hid (getS_big s k hlt (by omega) HH.out (by omega) hbig)
                generalize val (s.data.toList.take (k + 1)) = N at hvl hbig ⊢
                have hd : decide ((2147483647 : Int) < (N : Int)) = true := by simp; omega
                go_wp2_with fail
                go_quiet (fail)
                go_wp2_with fail
                go_ret3
                exact ⟨by rw [HF.out]; rfl, below_drewN (Below.refl _ _) _⟩
              · have hd : decide ((2147483647 : Int) < (val (s.data.toList.take (k + 1)) : Int)) = false := by simp; omega
                have HNUM := Lib.hid (fun w => num_any 4 (by omega) (val (s.data.toList.take (k + 1)) : Int) w (by omega) (by omega) (by omega))
                generalize hV : val (s.data.toList.take (k + 1)) = N at hvl hbig hd HNUM HE ⊢
                have HV := Lib.hid hV
                have hw1 : IntKind.i64.wrap ((k : Int) + 1) = (k : Int) + 1 := IntWalk.i64_in _ (by omega)
                have hw2 : ((k : Int) + 1).toNat = k + 1 := by omega
                have hw3 : (0 : Int) ≤ (k : Int) + 1 := by omega
                have hw4 : (k : Int) + 1 ≤ (s.size : Int) := by omega
                have hn0 : (N : Int) ≤ 2147483647 := by omega
                rw [Int.toNat_natCast] at HNUM
                clear hV
                have hx := ext_take s (k + 1)
                have hq : (numF 5 N == (s.extract 0 (k + 1)).toList) = decide (k = 0 ∨ s[k].toNat ≠ 0) := by
                  rw [hx, Bool.eq_iff_iff, beq_iff_eq, decide_eq_true_eq]
                  exact HE.out
                clear hx
                have hF : ∃ b : Bool, decide (k = 0 ∨ s[k].toNat ≠ 0) = b ∧ Hid (getS s.data.toList = bif b then ((N : Int), (k : Int) + 1, 0) else (0, 0, 3)) := by
                  by_cases hz : k = 0 ∨ s[k].toNat ≠ 0
                  · refine ⟨true, by simp [hz], ?_⟩
                    show _ = _
                    rw [getS_ok s k hlt (by omega) HH.out (by omega) hz.symm (by rw [HV.out]; omega), HV.out]; rfl
                  · refine ⟨false, by simp [hz], ?_⟩
                    show _ = _
                    rw [getS_zero s k hlt (by omega) HH.out (by omega) (by omega)]; rfl
                obtain ⟨b, hb', HF⟩ := hF
                rw [hb'] at hq
                clear hb'
                go_wp2_with fail
                have hne := BW.ne w.heap.size w
                refine wp_region_below_lit w.heap.size (by kernel_rfl) (by kernel_rfl) ?_
                repeat (go_big_quiet_step ((go_at_call 122; exact BW.call (Nat.le_refl _) (HNUM.out _))))
                refine wpQuiet_nil ?_
                rintro _ ⟨x, rfl⟩
                have hbx := x.below
                generalize x.val = w1 at hbx ⊢
                cases b
                all_goals
                  go_wp2_with fail
                  go_ret3
                  exact ⟨by rw [HF.out]; rfl, hbx⟩
    · have hsz : k = s.size := by omega
      subst hsz
      by_cases h5 : 5 ≤ s.size
      · have HF := Lib.hid (getS_five s (by omega) (fun j hj h => HH.out j hj (by omega)))
        go_wp2_with fail
        go_ret3
        exact ⟨by rw [HF.out]; rfl, Below.refl _ _⟩
      · have HF := Lib.hid (getS_short s (by omega) HH.out)
        have hne : ((s.size : Int) == (s.size : Int)) = true := by rw [beq_iff_eq]
        go_wp2_with fail
        go_ret3
        exact ⟨by rw [HF.out]; rfl, Below.refl _ _⟩
end Go.Proofs.Ytobngncjflogcaa
