/-
  Arguments of any type, opened: structs, arrays, truth values.
-/
import Derived.Test.YtdmpbdmgaepndaaMBase
set_option linter.unusedVariables false
set_option linter.unusedSimpArgs false
namespace Go.Proofs.Ytdmpbdmgaepndaa.AM
open Go
set_option maxRecDepth 100000
set_option maxHeartbeats 2000000
open Go.ChangeShapes Go.WideShapes Go.ChangeAt Go.RowKit

theorem reads_bool {T : TypeId} (hT : Try.prog.underlying T = some .bool) : ReadsAs T Bool (fun b => [.bool b]) (fun _ => True) := by
  intro H e w base spare held fuel cs x h
  obtain ⟨b, rfl, _⟩ := DataW.trod_bool hT h
  exact ⟨b, trivial, CellsAs.one (.bool _) rfl⟩

def ReadsFs (fs : List Field) (off tot : Nat) (α : Type) (enc : α → List V) (ok : α → Prop) : Prop :=
  ∀ (H : Type) (e : TypeId × Value → H) (w : World) (base : Nat) (spare : Nat → Bool) (held : Bool) (n : Nat) (cs : List Value),
    (∀ (i : Nat) (f : Field), fs[i]? = some f → ∃ y : DataW H × List MemPlace, DataW.trod e Try.prog w base spare held n f.type ((cs.drop f.offset).take (Try.prog.cellsOf f.type)) = some y) →
    ∃ a : α, ok a ∧ CellsAs w (enc a) ((cs.drop off).take tot)
theorem reads_nil (off : Nat) : ReadsFs [] off 0 Unit (fun _ => []) (fun _ => True) := fun H e w base spare held n cs _ => ⟨(), trivial, by simpa using CellsAs.nil w⟩
theorem reads_cons {f : Field} {fs : List Field} {off k tot : Nat} {α β : Type} {e1 : α → List V} {e2 : β → List V} {ok1 : α → Prop} {ok2 : β → Prop} (h1 : ReadsAs f.type α e1 ok1) (ho : f.offset = off) (hk : Try.prog.cellsOf f.type = k)
    (h2 : ReadsFs fs (off + k) tot β e2 ok2) : ReadsFs (f :: fs) off (k + tot) (α × β) (fun p => e1 p.1 ++ e2 p.2) (fun p => ok1 p.1 ∧ ok2 p.2) := by
  intro H e w base spare held n cs h
  obtain ⟨y, hy⟩ := h 0 f rfl
  obtain ⟨a, ha, hc⟩ := h1 _ _ _ _ _ _ _ _ _ hy
  obtain ⟨b, hb, hd⟩ := h2 H e w base spare held n cs fun i g hg => h (i + 1) g (by simpa using hg)
  refine ⟨(a, b), ⟨ha, hb⟩, ?_⟩
  rw [List.take_add, List.drop_drop]
  rw [ho, hk] at hc
  exact hc.app hd
theorem reads_struct {T : TypeId} {fs : Array Field} {tot : Nat} {α : Type} {enc : α → List V} {ok : α → Prop} (hT : Try.prog.underlying T = some (.struct fs)) (hf : ReadsFs fs.toList 0 tot α enc ok) (hk : Try.prog.cellsOf T = tot) : ReadsAs T α enc ok := by
  intro H e w base spare held fuel cs x h
  obtain ⟨xs, n, _, hx, hl, hlen, hg⟩ := DataW.trod_struct hT h
  obtain ⟨a, ha, hc⟩ := hf H e w base spare held n cs fun i f hi => by
    have hi' : fs[i]? = some f := by simpa using hi
    have hlt : i < xs.length := by rw [hlen]; exact (Array.getElem?_eq_some_iff.1 hi').1
    exact ⟨xs[i], by rw [hg i f hi', List.getElem?_eq_getElem hlt]⟩
  refine ⟨a, ha, ?_⟩
  rw [List.drop_zero, List.take_of_length_le (by omega)] at hc
  exact hc
theorem reads_map {T : TypeId} {α β : Type} {e1 : α → List V} {ok1 : α → Prop} {e2 : β → List V} {ok2 : β → Prop} (h : ReadsAs T α e1 ok1) (g : α → β) (he : ∀ a, e2 (g a) = e1 a) (ho : ∀ a, ok1 a → ok2 (g a)) : ReadsAs T β e2 ok2 := by
  intro H e w base spare held fuel cs x hh
  obtain ⟨a, ha, hc⟩ := h _ _ _ _ _ _ _ _ _ hh
  exact ⟨g a, ho a ha, by rw [he]; exact hc⟩
theorem cells_of : ∀ {α : Type} {enc : α → List V} {w : World} {k : Nat} (l : List α) (cs : List Value), cs.length = l.length * k → (∀ (i : Nat) (a : α), l[i]? = some a → CellsAs w (enc a) ((cs.drop (i * k)).take k)) → CellsAs w (l.flatMap enc) cs
  | α, enc, w, k, [], cs, hl, h => by
    have : cs = [] := List.eq_nil_of_length_eq_zero (by simpa using hl)
    subst this
    exact CellsAs.nil w
  | α, enc, w, k, a :: l, cs, hl, h => by
    have h0 := h 0 a rfl
    rw [Nat.zero_mul, List.drop_zero] at h0
    have h1 := cells_of (enc := enc) (w := w) (k := k) l (cs.drop k) (by rw [List.length_drop, hl, List.length_cons, Nat.add_mul]; omega) fun i b hb => by
      have := h (i + 1) b (by simpa using hb)
      rw [List.drop_drop]
      rw [Nat.add_mul, Nat.one_mul, Nat.add_comm] at this
      exact this
    have := h0.app h1
    rw [List.take_append_drop] at this
    simpa using this
theorem reads_array {T E : TypeId} {n k : Nat} {α : Type} {enc : α → List V} {ok : α → Prop} (hT : Try.prog.underlying T = some (.array n E)) (hE : ReadsAs E α enc ok) (hk : Try.prog.cellsOf E = k) (hc : Try.prog.cellsOf T = n * k) :
    ReadsAs T (List α) (fun l => l.flatMap enc) (fun l => l.length = n ∧ ∀ a ∈ l, ok a) := by
  intro H e w base spare held fuel cs x h
  obtain ⟨xs, m, _, hx, hl, hlen, hg⟩ := DataW.trod_array hT h
  rw [hk] at hg
  have hi : ∀ i, i < n → ∃ b : α, ok b ∧ CellsAs w (enc b) ((cs.drop (i * k)).take k) := by
    intro i hi
    have h1 := hg i hi
    rw [List.getElem?_eq_getElem (by omega)] at h1
    exact hE _ _ _ _ _ _ _ _ _ h1
  obtain ⟨l, hll, hq⟩ := list_of n hi
  refine ⟨l, ⟨hll, fun b hb => ?_⟩, cells_of (k := k) l cs (by rw [hl, hc, hll]) fun i a ha => (hq i a ha).2⟩
  obtain ⟨i, hi'⟩ := List.getElem?_of_mem hb
  exact (hq i b hi').1

section
variable {H : Type} {enc : TypeId × Value → H} {w : World} {base : Nat} {spare : Nat → Bool} {held : Bool}
theorem open_one {T : TypeId} {α : Type} {f : α → V} {ok : α → Prop} {v : Value} {d : DataW H} {p : List MemPlace} (hr : ReadsAs T α (fun a => [f a]) ok) (hv : v.oneCell' = true) (h : DataW.Trod enc Try.prog w base spare held T v d p) :
    ∃ a : α, ok a ∧ Rel (OldB w) (fun _ => False) w (f a) v := by
  obtain ⟨fuel, h⟩ := h
  obtain ⟨a, ha, hc⟩ := hr _ _ _ _ _ _ _ _ _ h
  refine ⟨a, ha, (hc.rel 0 (f a) v rfl ?_).1⟩
  cases v <;> first | rfl | cases hv
theorem open_many {T : TypeId} {α : Type} {f : α → List V} {ok : α → Prop} {v : Value} {d : DataW H} {p : List MemPlace} (hr : ReadsAs T α f ok) (hv : ∃ cs, v = .agg cs) (h : DataW.Trod enc Try.prog w base spare held T v d p) :
    ∃ a : α, ok a ∧ Rel (OldB w) (fun _ => False) w (.agg (f a)) v := by
  obtain ⟨fuel, h⟩ := h
  obtain ⟨cs, rfl⟩ := hv
  obtain ⟨a, ha, hc⟩ := hr _ _ _ _ _ _ _ _ _ h
  have hl : cs.size = (f a).length := by have := hc.len; simpa [Value.cells] using this.symm
  exact ⟨a, ha, .agg _ cs hl fun i v u hv hu => (hc.rel i v u hv (by simpa [Value.cells] using hu)).1⟩
end
theorem one_slice {T E : TypeId} {w : World} {r : Reach} {base : Nat} {v : Value} (hT : Try.prog.underlying T = some (.slice E)) (h : Value.okWide Try.prog w r base T v) : v.oneCell' = true := by
  simp only [Value.okWide, hT] at h
  cases v <;> first | rfl | (unfold Cell.okWide at h; simp only [hT] at h; unfold Cell.ok at h; simp [hT] at h)
theorem one_int {T : TypeId} {k : IntKind} {w : World} {r : Reach} {base : Nat} {v : Value} (hT : Try.prog.underlying T = some (.int k)) (h : Value.okWide Try.prog w r base T v) : v.oneCell' = true := by
  simp only [Value.okWide, hT] at h
  cases v <;> first | rfl | (unfold Cell.okWide at h; simp only [hT] at h; unfold Cell.ok at h; simp [hT] at h)
theorem one_bool {T : TypeId} {w : World} {r : Reach} {base : Nat} {v : Value} (hT : Try.prog.underlying T = some .bool) (h : Value.okWide Try.prog w r base T v) : v.oneCell' = true := by
  simp only [Value.okWide, hT] at h
  cases v <;> first | rfl | (unfold Cell.okWide at h; simp only [hT] at h; unfold Cell.ok at h; simp [hT] at h)
theorem one_str {T : TypeId} {w : World} {r : Reach} {base : Nat} {v : Value} (hT : Try.prog.underlying T = some .string) (h : Value.okWide Try.prog w r base T v) : v.oneCell' = true := by
  simp only [Value.okWide, hT] at h
  cases v <;> first | rfl | (unfold Cell.okWide at h; simp only [hT] at h; unfold Cell.ok at h; simp [hT] at h)
end Go.Proofs.Ytdmpbdmgaepndaa.AM
