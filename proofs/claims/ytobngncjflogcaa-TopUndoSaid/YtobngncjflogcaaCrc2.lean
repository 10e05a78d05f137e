/-
  The walk of crc.table: what each byte does.
-/
import Derived.Test.YtobngncjflogcaaRows
import Derived.Test.YtobngncjflogcaaHash0
import Derived.Test.YtobngncjflogcaaCrc0
import Derived.WalkKit
import Derived.WalkSpells
import Derived.WalkLawsBesides
import Derived.Lib.Hide
import Derived.Laws.ResultCell
import Derived.Deep.LoopGhost
import Derived.Deep.WholeRow
set_option linter.unusedVariables false
set_option linter.unusedSimpArgs false
namespace Go.Proofs.Ytobngncjflogcaa
open Go.RowKit

theorem Try.info_table : (Try.prog.info? 194).map (fun i => (i.zero, i.size)) = some (some (.agg (Array.replicate 256 (.int .u32 0))), 256) := by kernel_rfl

theorem wpList_store_new {P : Program} {ops : Array Oper} {rest : List Oper} {op : Oper} {a : Act} {Q : Exit → Act → World → Prop} (hgd : op.guard = none) (ty : TypeId) (x y : Operand) (ho : op.op = .store ty x y)
    (w : World) (c c' : Array Value) (hx : a.eval x = .pointer (some ⟨w.heap.size, 0, none⟩)) (hy : a.eval y = .agg c') (hi : (P.info? ty).map (·.size) = some c'.size) (hs : c.size = c'.size) (h1 : c'.all (·.oneCell') = true)
    (h : wpList P ops Q rest (a.put op.dst undef) (w.alloc (.cells c' ty))) : wpList P ops Q (op :: rest) a (w.alloc (.cells c ty)) :=
  wpList_plain hgd fun K hK => by
    unfold Oper.wp execOp
    simp only [ho, hx, hy, run_storeAt_new w ty c c' hi hs h1, Sem.run_bind, Sem.run_pure, Result.andThen_ok]
    exact hK _ _ h

set_option maxRecDepth 1000000 in
set_option maxHeartbeats 2000000 in
theorem table_any (w : World) :
    Calls Try.prog 127 #[] w fun e w' => e = .returned (.agg (tabCells 256)) ∧ Below w.heap.size w w' := by
  obtain ⟨hz, hi⟩ := zero_of_info Try.info_table
  go_enter Try.func127, Try.ntmps127
  go_wp2
  rw [← tabCells_nil]
  go_loopg [3] 256 (fun g s3 wx => ∃ i : Nat, i + g = 256 ∧ s3 = .int .i64 i ∧ wx = w.alloc (.cells (tabCells i) 194))
  case atStart => exact ⟨0, by omega, rfl, rfl⟩
  case round =>
    obtain ⟨i, hig, rfl, rfl⟩ := hrel
    cases gk with
    | zero =>
      have h256 : ¬ ((i : Int) < 256) := by omega
      obtain rfl : 256 = i := by omega
      have hsz : (Try.prog.info? 194).map (·.size) = some (tabCells 256).size := by rw [tabCells_size]; exact hi
      go_wp2_with (first
        | (refine wpList_load_row rfl 194 (.tmp 0) rfl w.heap.size rfl 194 (tabCells 256) (0, 0) _ (heap_alloc_last w _) Try.underlying194 rfl hsz ?_)
        | (refine wpList_store_new rfl 194 (.tmp 0) (.tmp 22) rfl w (tabCells 256) (tabCells 256) rfl rfl hsz rfl (tabCells_one _) ?_))
      refine bodyPost_ret (v := .agg (tabCells 256)) (results_cell_row rfl _ _ w.heap.size 194 (tabCells 256) (0, 0) _ rfl (heap_alloc_last w _) Try.underlying194 rfl hsz) rfl ⟨rfl, (Below.refl _ _).alloc (Nat.le_refl _) _⟩
    | succ g =>
      have hi : i < 256 := by omega
      have hi2 : (i : Int) < 256 := by omega
      have HI : Hid (i + 1 + g = 256) := by show _ = _; omega
      clear hig
      go_wp2
      go_loopg [2, 8] 8 (fun g x k wx => ∃ m : Nat, m + g = 8 ∧ k = .int .i64 m ∧ wx = w.alloc (.cells (tabCells i) 194) ∧ ∃ X : BitVec 32, x = .int .u32 (X.toNat : Int) ∧ Hid (X = crcN m (BitVec.ofNat 32 i)))
      case atStart => exact ⟨0, by omega, rfl, rfl, BitVec.ofNat 32 i, congrArg _ (by rw [BitVec.toNat_ofNat, Nat.mod_eq_of_lt (by omega)]), rfl⟩
      case round =>
        obtain ⟨m, hm, rfl, rfl, X, rfl, HX⟩ := hrel
        cases gk with
        | zero =>
          have H8 : Hid (m = 8) := by show _ = _; omega
          have hm8 : ¬ ((m : Int) < 8) := by omega
          clear hm
          have hcell : (tabCells i)[i]? = some (.int .u32 0) := tabCells_zero i hi
          have HV := Lib.hid (tabCells_set i (.int .u32 (X.toNat : Int)) (by show _ = Value.int _ _; rw [HX.out, H8.out]))
          go_wp2
          go_roundg g
          case measure => omega
          case rel => exact ⟨i + 1, by have := HI.out; omega, by go_num, by rw [HV.out]⟩
        | succ g2 =>
          have hm8 : m < 8 := by omega
          have hm82 : (m : Int) < 8 := by omega
          have H8 : Hid (m + 1 + g2 = 8) := by show _ = _; omega
          clear hm
          have HW := Lib.hid (crc1_word X)
          go_wp2
          go_roundg g2
          case measure => omega
          case rel => exact ⟨m + 1, by have := H8.out; omega, by go_num, rfl, crc1 X, congrArg _ HW.out, by show _ = crc1 _; rw [HX.out]⟩
end Go.Proofs.Ytobngncjflogcaa
