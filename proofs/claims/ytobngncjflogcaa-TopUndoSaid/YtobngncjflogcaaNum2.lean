/-
  The walk of num.Put.
-/
import Derived.Test.YtobngncjflogcaaNum1
import Derived.Test.YtobngncjflogcaaMem
set_option linter.unusedVariables false
set_option linter.unusedSimpArgs false
namespace Go.Proofs.Ytobngncjflogcaa
open Go.RowKit

theorem put_bad (n : Int) (w : World) (h : n < 0 ∨ 2147483647 < n) :
    Calls Try.prog 114 #[.int .i64 n] w fun e w' => e = .returned (.tuple #[.string ⟨#[]⟩, .int .i64 1]) ∧ w = w' := by
  rcases (show n < 0 ∨ (0 ≤ n ∧ 2147483647 < n) by omega) with h1 | ⟨h1, h2⟩
  all_goals
    clear h
    go_enter Try.func114, Try.ntmps114
    go_wp2_with fail
    go_ret2
    exact ⟨rfl, rfl⟩

theorem conv_own (w : World) (base : Nat) (v : Value) (l : List UInt8) (h : w.ownsRow base 5 1 v l.length (byteVals l)) (hl : 0 < l.length) :
    (convert 111 9 v).run Try.prog w = .ok (.string ⟨l.toArray⟩) w := by
  obtain ⟨h1, h2⟩ := h
  rcases h2 with ⟨_, h0⟩ | ⟨g, cap, cur, rfl, hg, hh, hn, hcap, hsz, htake⟩
  · omega
  · refine run_convert_bytes_back (P := Try.prog) w 111 9 5 ⟨g, 0, none⟩ cap l Try.underlying111 Try.underlying5 Try.underlying9 (fun j hj => ?_)
    have hc := World.ownsRow.cells (w := w) (base := base) (e := 5) (size := 1) (v := .slice (some ⟨g, 0, none⟩) l.length cap) (n := l.length) (xs := byteVals l) ⟨h1, .inr ⟨g, cap, cur, rfl, hg, hh, hn, hcap, hsz, htake⟩⟩ (g := g) rfl j (.int .u8 (l[j].toNat : Int)) (by simp [byteVals, hj])
    exact hc

theorem Try.row_bytes : ElemRow Try.prog 111 5 (.int .u8 0) 1 1 := ⟨Try.underlying111, Try.info_byte, rfl, by decide, by decide⟩

set_option maxRecDepth 100000 in
set_option maxHeartbeats 1000000 in
theorem put_ok (n : Int) (w : World) (h0 : 0 ≤ n) (h1 : n ≤ 2147483647) :
    Calls Try.prog 114 #[.int .i64 n] w fun e w' => e = .returned (.tuple #[.string ⟨(numL n.toNat).toArray⟩, .int .i64 0]) ∧ Below w.heap.size w w' := by
  go_enter Try.func114, Try.ntmps114
  go_wp2_with fail
  go_loopw [0, 4] (fun m v wr => ∃ (k : Nat) (xs : List UInt8) (g : Nat), (k : Int) ≤ 2147483647 ∧ m = .int .i64 k ∧ wr.ownsRow w.heap.size 5 1 v xs.length (byteVals xs) ∧ Below w.heap.size w wr ∧ xs.length + g = 4 ∧ k < 128 ^ (g + 1) ∧ Hid (numL n.toNat = xs ++ numF (g + 1) k)) (fun m _ _ => (intOf m).toNat)
  case atStart => exact ⟨n.toNat, [], 4, by omega, by rw [Int.toNat_of_nonneg h0], World.ownsRow_nil _ _ _ _, Below.refl _ _, rfl, by omega, rfl⟩
  case round =>
    obtain ⟨k, xs, g, hk, rfl, hown, hb, hg, hkg, HN⟩ := hrel
    have hxl : xs.length ≤ 4 := by omega
    by_cases hlt : k < 128
    · have hs1 : (k : Int) < 128 := by omega
      have HF := Lib.hid (numF_small g k hlt)
      have hcl := hb.size
      clear hkg
      go_wp2_with (at_builtin; go_must (refine wpList_app1 Try.row_bytes rfl (.tmp 21) (.tmp 24) rfl rfl hown rfl rfl rfl (by omega) hb.size ?_); intro v1 w1 hown1 hb1 hg1; have hcv := conv_own w1 w.heap.size v1 (xs ++ [bt k]) (by simpa [byteVals_snoc, bt_toNat k (by omega)] using hown1) (by simp))
      go_ret2
      exact ⟨by rw [HN.out, HF.out]; rfl, hb.trans hb1⟩
    · have hor := or128 k
      have HF := Lib.hid (numF_large g k hlt)
      have hs1 : (128 : Int) ≤ k := by omega
      have hg0 : g ≠ 0 := by
        rintro rfl
        omega
      obtain ⟨g', rfl⟩ : ∃ g', g = g' + 1 := ⟨g - 1, by omega⟩
      have HK : Hid (k / 128 < 128 ^ (g' + 1)) := by
        show _ < _
        rw [Nat.pow_succ] at hkg
        exact Nat.div_lt_of_lt_mul (by omega)
      have HG : Hid (xs.length + (g' + 1) = 4) := hg
      clear hkg hg hg0
      go_wp2_with (at_builtin; refine wpList_app1 Try.row_bytes rfl (.tmp 13) (.tmp 17) rfl rfl hown rfl rfl rfl (by omega) hb.size ?_; intro v1 w1 hown1 hb1 hg1)
      go_roundw
      case rel => exact ⟨k / 128, xs ++ [bt (128 + k % 128)], g', by omega, by go_num, by simpa [byteVals_snoc, bt_toNat (128 + k % 128) (by omega)] using hown1, hb.trans hb1, by have := HG.out; simp; omega, HK.out, by show _ = _; rw [HN.out, HF.out]; simp⟩
      case measure => simp [intOf]; omega
end Go.Proofs.Ytobngncjflogcaa
