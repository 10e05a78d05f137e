/-
  Two arrays of slots held against each other.
-/
import Derived.Test.YtjilpjhjcdgnoaaRe
import Derived.ChangeKeysEq
set_option linter.unusedVariables false
set_option linter.unusedSimpArgs false
namespace Go.Proofs.Ytjilpjhjcdgnoaa
open Go.RowKit

theorem Try.cells_slot : Try.prog.cellsOf 34 = 2 := by kernel_rfl
theorem Try.info_slot : ((Try.prog.info? 34).map (fun i => i.size)) = some 2 := by kernel_rfl

def slotsEq (a0 b0 : ByteArray) (x0 y0 : Int) (a1 b1 : ByteArray) (x1 y1 : Int) : Bool := (a0.toList == b0.toList && x0 == y0) && (a1.toList == b1.toList && x1 == y1)
@[go_sem] theorem slotsEq_refl (a0 : ByteArray) (x0 : Int) (a1 : ByteArray) (x1 : Int) : slotsEq a0 a0 x0 x0 a1 a1 x1 x1 = true := by simp [slotsEq]

@[go_sem] theorem run_eq_slots (w : World) (a0 a1 b0 b1 : ByteArray) (x0 x1 y0 y1 : Int) :
    (Op.equalIn 9999 35 (.agg #[.string a0, .int .i64 x0, .string a1, .int .i64 x1]) (.agg #[.string b0, .int .i64 y0, .string b1, .int .i64 y1])).run Try.prog w = .ok (slotsEq a0 b0 x0 y0 a1 b1 x1 y1) w := by
  obtain ⟨i, hi, _⟩ := Option.map_eq_some_iff.1 Try.info_slot
  rw [run_equalIn_array (P := Try.prog) w 9998 _ _ Try.underlying35 hi, Try.cells_slot]
  simp only [List.range_succ, List.range_zero, List.nil_append, List.cons_append, Op.eqItems]
  simp [go_sem]
  unfold slotsEq
  by_cases h1 : a0.toList = b0.toList <;> by_cases h2 : x0 = y0 <;> by_cases h3 : a1.toList = b1.toList <;> by_cases h4 : x1 = y1 <;> simp [h1, h2, h3, h4]
end Go.Proofs.Ytjilpjhjcdgnoaa
