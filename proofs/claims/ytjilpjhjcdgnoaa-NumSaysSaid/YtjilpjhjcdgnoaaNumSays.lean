/-
  The walk of scrivlaw.NumSays.
-/
import Derived.Test.YtjilpjhjcdgnoaaNum4
set_option linter.unusedVariables false
set_option linter.unusedSimpArgs false
namespace Go.Proofs.Ytjilpjhjcdgnoaa
open Go.RowKit

set_option maxRecDepth 100000 in
set_option maxHeartbeats 1000000 in
theorem numSays_bad (n : Int) (s : ByteArray) (w : World) (hs : s.size ≤ maxLen) (h : n < 0 ∨ 2147483647 < n) :
    Calls Try.prog 8 #[.int .i64 n, .string s] w fun e w' => e = .returned (.bool true) ∧ Below w.heap.size w w' := by
  have HP := Lib.hid (put_bad n w h)
  have hg : ∃ x y z : Int, Hid (getS s.data.toList = (x, y, z)) := ⟨_, _, _, rfl⟩
  obtain ⟨x, y, z, HG⟩ := hg
  have HGet := Lib.hid (fun w => get_any s w hs)
  have HUn := Lib.hid (fun w => unnum_any s w hs)
  rw [HG.out] at HGet HUn
  rcases (show n < 0 ∨ (0 ≤ n ∧ 2147483647 < n) by omega) with h1 | ⟨h1, h2⟩
  all_goals
    clear h
    go_enter Try.func8, Try.ntmps8
    go_wp2_with fail
    refine HP.out.mono ?_
    rintro e w' ⟨rfl, rfl⟩
    go_wp2_with fail
    refine (HGet.out _).mono ?_
    rintro e w' ⟨rfl, rfl⟩
    go_wp2_with fail
    refine (HUn.out _).mono ?_
    rintro e w1 ⟨rfl, hb1⟩
    go_wp2_with fail
    go_ret
    exact ⟨rfl, hb1⟩

set_option maxRecDepth 100000 in
set_option maxHeartbeats 1000000 in
theorem numSays_ok (n : Int) (s : ByteArray) (w : World) (hs : s.size ≤ maxLen) (h0 : 0 ≤ n) (h1 : n ≤ 2147483647) :
    Calls Try.prog 8 #[.int .i64 n, .string s] w fun e w' => e = .returned (.bool true) ∧ Below w.heap.size w w' := by
  have HP := Lib.hid (put_ok n w h0 h1)
  have HN := Lib.hid (fun w => num_any 4 (by omega) n w h0 (by omega) h1)
  have hg : ∃ x y z : Int, Hid (getS s.data.toList = (x, y, z)) := ⟨_, _, _, rfl⟩
  obtain ⟨x, y, z, HG⟩ := hg
  have HGet := Lib.hid (fun w => get_any s w hs)
  have HUn := Lib.hid (fun w => unnum_any s w hs)
  rw [HG.out] at HGet HUn
  change Hid (∀ w, Calls Try.prog 24 #[.int .i64 n] w fun e w' => e = .returned (.string ⟨(numL n.toNat).toArray⟩) ∧ Below w.heap.size w w') at HN
  generalize numL n.toNat = l at HP HN
  have hl : (l == l) = true := by simp
  go_enter Try.func8, Try.ntmps8
  go_wp2_with fail
  refine HP.out.mono ?_
  rintro e w1 ⟨rfl, hb1⟩
  go_wp2_with fail
  refine (HN.out _).mono ?_
  rintro e w2 ⟨rfl, hb2⟩
  go_wp2_with fail
  refine (HGet.out _).mono ?_
  rintro e w' ⟨rfl, rfl⟩
  go_wp2_with fail
  refine (HUn.out _).mono ?_
  rintro e w3 ⟨rfl, hb3⟩
  go_wp2_with fail
  go_ret
  exact ⟨rfl, hb1.trans ((hb2.mono hb1.size).trans (hb3.mono (Nat.le_trans hb1.size hb2.size)))⟩

theorem numSays_walk (n : Int) (s : ByteArray) (w : World) (_hn : -9223372036854775808 ≤ n ∧ n ≤ 9223372036854775807) (hs : s.size ≤ maxLen) :
    Calls Try.prog 8 #[.int .i64 n, .string s] w fun e w' => e = .returned (.bool true) ∧ Below w.heap.size w w' := by
  by_cases h : n < 0 ∨ 2147483647 < n
  · exact numSays_bad n s w hs h
  · exact numSays_ok n s w hs (by omega) (by omega)
end Go.Proofs.Ytjilpjhjcdgnoaa
