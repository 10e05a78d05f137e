/-
  The walks of disk.Check, scrivref.Disk and disk.look.
-/
import Derived.Test.YtjilpjhjcdgnoaaMem
import Derived.Test.YtjilpjhjcdgnoaaDisk0
import Derived.Test.YtjilpjhjcdgnoaaHash0
set_option linter.unusedVariables false
set_option linter.unusedSimpArgs false
namespace Go.Proofs.Ytjilpjhjcdgnoaa
open Go.RowKit

set_option maxRecDepth 100000 in
set_option maxHeartbeats 1000000 in
theorem diskCheck_any (s0 s1 : ByteArray) (n0 n1 : Int) (w : World) (hs0 : s0.size ≤ maxLen) (hs1 : s1.size ≤ maxLen) :
    Calls Try.prog 37 #[.agg #[.string s0, .int .i64 n0, .string s1, .int .i64 n1]] w fun e w' => e = .returned (.int .i64 (diskE s0.size n0 s1.size n1)) ∧ Below w.heap.size w w' := by
  unfold maxLen at hs0 hs1
  have i0 : ∀ w, (Instr.index 35 (.agg #[.string s0, .int .i64 n0, .string s1, .int .i64 n1]) (.int .i64 0)).run Try.prog w = .ok (.agg #[.string s0, .int .i64 n0]) w := fun _ => by kernel_rfl
  have i1 : ∀ w, (Instr.index 35 (.agg #[.string s0, .int .i64 n0, .string s1, .int .i64 n1]) (.int .i64 1)).run Try.prog w = .ok (.agg #[.string s1, .int .i64 n1]) w := fun _ => by kernel_rfl
  rcases slot_cases s0.size n0 with ⟨a1, a2⟩ | ⟨a1, b1, a2⟩ | ⟨a1, b1, c1, a2⟩ | ⟨a1, b1, c1, a2⟩
  · have HF : Hid (diskE s0.size n0 s1.size n1 = 2) := by show _ = _; simp [diskE, a2]
    clear a2
    go_enter Try.func37, Try.ntmps37
    go_wp2
    refine wp_loop_rounds 3 ?_
    rw [rounds_succ]
    go_wp2
    go_ret
    exact ⟨by rw [HF.out]; rfl, by (repeat (first | exact Below.refl _ _ | assumption | refine Below.drew ?_ | refine Below.alloc ?_ (by simp <;> omega) _ | refine Below.setCell ?_ (by simp <;> omega) _))⟩
  · have HF : Hid (diskE s0.size n0 s1.size n1 = 3) := by show _ = _; simp [diskE, a2]
    clear a2
    go_enter Try.func37, Try.ntmps37
    go_wp2
    refine wp_loop_rounds 3 ?_
    rw [rounds_succ]
    go_wp2
    go_ret
    exact ⟨by rw [HF.out]; rfl, by (repeat (first | exact Below.refl _ _ | assumption | refine Below.drew ?_ | refine Below.alloc ?_ (by simp <;> omega) _ | refine Below.setCell ?_ (by simp <;> omega) _))⟩
  · have HF : Hid (diskE s0.size n0 s1.size n1 = 3) := by show _ = _; simp [diskE, a2]
    clear a2
    go_enter Try.func37, Try.ntmps37
    go_wp2
    refine wp_loop_rounds 3 ?_
    rw [rounds_succ]
    go_wp2
    go_ret
    exact ⟨by rw [HF.out]; rfl, by (repeat (first | exact Below.refl _ _ | assumption | refine Below.drew ?_ | refine Below.alloc ?_ (by simp <;> omega) _ | refine Below.setCell ?_ (by simp <;> omega) _))⟩
  · rcases slot_cases s1.size n1 with ⟨a3, a4⟩ | ⟨a3, b3, a4⟩ | ⟨a3, b3, c3, a4⟩ | ⟨a3, b3, c3, a4⟩
    all_goals
      have HF : Hid (diskE s0.size n0 s1.size n1 = slotE s1.size n1) := by show _ = _; simp [diskE, a2]
      rw [a4] at HF
      clear a2 a4
      go_enter Try.func37, Try.ntmps37
      go_wp2
      refine wp_loop_rounds 3 ?_
      rw [rounds_succ]
      go_wp2
      rw [rounds_succ]
      go_wp2
      try (rw [rounds_succ]; go_wp2)
      go_ret
      exact ⟨by rw [HF.out]; rfl, by (repeat (first | exact Below.refl _ _ | assumption | refine Below.drew ?_ | refine Below.alloc ?_ (by simp <;> omega) _ | refine Below.setCell ?_ (by simp <;> omega) _))⟩

set_option maxRecDepth 100000 in
set_option maxHeartbeats 1000000 in
theorem refDisk_any (s0 s1 : ByteArray) (n0 n1 : Int) (w : World) (hs0 : s0.size ≤ maxLen) (hs1 : s1.size ≤ maxLen) :
    Calls Try.prog 22 #[.agg #[.string s0, .int .i64 n0, .string s1, .int .i64 n1]] w fun e w' => e = .returned (.int .i64 (diskE s0.size n0 s1.size n1)) ∧ Below w.heap.size w w' := by
  unfold maxLen at hs0 hs1
  have i0 : ∀ w, (Instr.index 35 (.agg #[.string s0, .int .i64 n0, .string s1, .int .i64 n1]) (.int .i64 0)).run Try.prog w = .ok (.agg #[.string s0, .int .i64 n0]) w := fun _ => by kernel_rfl
  have i1 : ∀ w, (Instr.index 35 (.agg #[.string s0, .int .i64 n0, .string s1, .int .i64 n1]) (.int .i64 1)).run Try.prog w = .ok (.agg #[.string s1, .int .i64 n1]) w := fun _ => by kernel_rfl
  rcases slot_cases s0.size n0 with ⟨a1, a2⟩ | ⟨a1, b1, a2⟩ | ⟨a1, b1, c1, a2⟩ | ⟨a1, b1, c1, a2⟩
  · have HF : Hid (diskE s0.size n0 s1.size n1 = 2) := by show _ = _; simp [diskE, a2]
    clear a2
    go_enter Try.func22, Try.ntmps22
    go_wp2
    refine wp_loop_rounds 3 ?_
    rw [rounds_succ]
    go_wp2
    go_ret
    exact ⟨by rw [HF.out]; rfl, by (repeat (first | exact Below.refl _ _ | assumption | refine Below.drew ?_ | refine Below.alloc ?_ (by simp <;> omega) _ | refine Below.setCell ?_ (by simp <;> omega) _))⟩
  · have HF : Hid (diskE s0.size n0 s1.size n1 = 3) := by show _ = _; simp [diskE, a2]
    clear a2
    go_enter Try.func22, Try.ntmps22
    go_wp2
    refine wp_loop_rounds 3 ?_
    rw [rounds_succ]
    go_wp2
    go_ret
    exact ⟨by rw [HF.out]; rfl, by (repeat (first | exact Below.refl _ _ | assumption | refine Below.drew ?_ | refine Below.alloc ?_ (by simp <;> omega) _ | refine Below.setCell ?_ (by simp <;> omega) _))⟩
  · have HF : Hid (diskE s0.size n0 s1.size n1 = 3) := by show _ = _; simp [diskE, a2]
    clear a2
    go_enter Try.func22, Try.ntmps22
    go_wp2
    refine wp_loop_rounds 3 ?_
    rw [rounds_succ]
    go_wp2
    go_ret
    exact ⟨by rw [HF.out]; rfl, by (repeat (first | exact Below.refl _ _ | assumption | refine Below.drew ?_ | refine Below.alloc ?_ (by simp <;> omega) _ | refine Below.setCell ?_ (by simp <;> omega) _))⟩
  · rcases slot_cases s1.size n1 with ⟨a3, a4⟩ | ⟨a3, b3, a4⟩ | ⟨a3, b3, c3, a4⟩ | ⟨a3, b3, c3, a4⟩
    all_goals
      have HF : Hid (diskE s0.size n0 s1.size n1 = slotE s1.size n1) := by show _ = _; simp [diskE, a2]
      rw [a4] at HF
      clear a2 a4
      go_enter Try.func22, Try.ntmps22
      go_wp2
      refine wp_loop_rounds 3 ?_
      rw [rounds_succ]
      go_wp2
      rw [rounds_succ]
      go_wp2
      try (rw [rounds_succ]; go_wp2)
      go_ret
      exact ⟨by rw [HF.out]; rfl, by (repeat (first | exact Below.refl _ _ | assumption | refine Below.drew ?_ | refine Below.alloc ?_ (by simp <;> omega) _ | refine Below.setCell ?_ (by simp <;> omega) _))⟩
end Go.Proofs.Ytjilpjhjcdgnoaa
