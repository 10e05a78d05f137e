/-
  A disk among a law's arguments, opened.
-/
import Derived.Test.YtjilpjhjcdgnoaaOpen
import Derived.Test.YtjilpjhjcdgnoaaDisk0
import Derived.OpenShut
set_option linter.unusedVariables false
set_option linter.unusedSimpArgs false
namespace Go.Proofs.Ytjilpjhjcdgnoaa
open Go.ChangeShapes Go.WideShapes Go.ChangeAt Go.RowKit

theorem Try.cells_slot' : Try.prog.cellsOf 34 = 2 := by kernel_rfl
theorem Try.cells_slots' : Try.prog.cellsOf 35 = 4 := by kernel_rfl
theorem Try.cells_disk' : Try.prog.cellsOf 37 = 4 := by kernel_rfl
theorem Try.cells_string' : Try.prog.cellsOf 9 = 1 := by kernel_rfl
theorem Try.cells_int' : Try.prog.cellsOf 3 = 1 := by kernel_rfl

section
variable {H : Type} {enc : TypeId × Value → H} {w : World} {base : Nat} {spare : Nat → Bool} {held : Bool} {fuel : Nat}

theorem trod_slot {cs : List Value} {x : DataW H × List MemPlace} (h : DataW.trod enc Try.prog w base spare held fuel 34 cs = some x) :
    ∃ (s : ByteArray) (n : Int), cs = [.string s, .int .i64 n] ∧ s.size ≤ maxLen := by
  obtain ⟨xs, n, _, hx, hl, hlen, hf⟩ := DataW.trod_struct Try.underlying34 h
  rw [Try.cells_slot'] at hl
  match cs, hl with
  | [a, b], _ =>
    match xs, hlen with
    | [y0, y1], _ =>
      have h0 : DataW.trod enc Try.prog w base spare held n 9 (([a, b].drop 0).take (Try.prog.cellsOf 9)) = [y0, y1][0]? := hf 0 _ rfl
      have h1 : DataW.trod enc Try.prog w base spare held n 3 (([a, b].drop (0 + Try.prog.cellsOf 9)).take (Try.prog.cellsOf 3)) = [y0, y1][1]? := hf 1 _ rfl
      rw [Try.cells_string'] at h0
      rw [Try.cells_string', Try.cells_int'] at h1
      obtain ⟨s, e0, _, hs⟩ := DataW.trod_string Try.underlying9 (show DataW.trod _ _ _ _ _ _ _ _ [a] = some y0 from h0)
      obtain ⟨n, e1, _, _⟩ := DataW.trod_int Try.underlying3 (show DataW.trod _ _ _ _ _ _ _ _ [b] = some y1 from h1)
      injection e0 with e0
      injection e1 with e1
      subst e0 e1
      exact ⟨s, n, rfl, hs⟩

theorem trod_disk {cs : List Value} {x : DataW H × List MemPlace} (h : DataW.trod enc Try.prog w base spare held fuel 37 cs = some x) :
    ∃ d : DiskD, cs = [.string d.s0, .int .i64 d.n0, .string d.s1, .int .i64 d.n1] ∧ d.ok := by
  obtain ⟨xs, n, _, hx, hl, hlen, hf⟩ := DataW.trod_struct Try.underlying37 h
  rw [Try.cells_disk'] at hl
  match xs, hlen with
  | [y], _ =>
    have h0 : DataW.trod enc Try.prog w base spare held n 35 ((cs.drop 0).take (Try.prog.cellsOf 35)) = [y][0]? := hf 0 _ rfl
    rw [Try.cells_slots'] at h0
    have h0' : DataW.trod enc Try.prog w base spare held n 35 cs = some y := by
      have e : (cs.drop 0).take 4 = cs := by rw [List.drop_zero, List.take_of_length_le (by omega)]
      rw [← e]; exact h0
    obtain ⟨zs, m, _, _, _, hz, hg⟩ := DataW.trod_array Try.underlying35 h0'
    match cs, hl with
    | [a, b, c, d], _ =>
      match zs, hz with
      | [z0, z1], _ =>
        have g0 := hg 0 (by decide)
        have g1 := hg 1 (by decide)
        rw [Try.cells_slot'] at g0 g1
        obtain ⟨s0, n0, e0, hs0⟩ := trod_slot (show DataW.trod _ _ _ _ _ _ _ _ [a, b] = some z0 from g0)
        obtain ⟨s1, n1, e1, hs1⟩ := trod_slot (show DataW.trod _ _ _ _ _ _ _ _ [c, d] = some z1 from g1)
        simp only [List.cons.injEq, and_true] at e0 e1
        obtain ⟨rfl, rfl⟩ := e0
        obtain ⟨rfl, rfl⟩ := e1
        exact ⟨⟨s0, n0, s1, n1⟩, rfl, hs0, hs1⟩
end

theorem open_disk {H : Type} {enc : TypeId × Value → H} {r : Reach} (W : World) {base : Nat} {v : Value} {d : DataW H} {p : List MemPlace} (hval : Value.okWide Try.prog W r base 37 v)
    (h : DataW.Trod enc Try.prog W 0 (fun _ => true) true 37 v d p) (_hlt : ∀ x ∈ p, x.block < W.heap.size) : ∃ x : DiskD, v = x.val ∧ x.ok := by
  obtain ⟨cs, rfl, hsz⟩ := okWide_struct Try.underlying37 hval
  obtain ⟨fuel, hf⟩ := h
  obtain ⟨x, hx, hok⟩ := trod_disk (show DataW.trod _ _ _ _ _ _ _ _ cs.toList = some (d, p) from hf)
  refine ⟨x, ?_, hok⟩
  obtain ⟨l⟩ := cs
  simp only at hx
  rw [hx]
  rfl
end Go.Proofs.Ytjilpjhjcdgnoaa
