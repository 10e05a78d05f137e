/-
  Texts of the plain machine, put together.
-/
import Derived.Test.YtobngncjflogcaaLaw
import Derived.Test.YtobngncjflogcaaBB
import Derived.KernelRfl
import Derived.OpenShut
/-
  What every law's proof on the plain machine shares: arguments opened, and a law's end.
-/
set_option linter.unusedVariables false
set_option linter.unusedSimpArgs false
namespace Go.Proofs.Ytobngncjflogcaa.AM
open Go
open Go.ChangeShapes Go.WideShapes Go.ChangeAt Go.RowKit

theorem nc (n : Nat) : (NatCast.natCast n : Int) = (n : Int) := rfl
theorem dOk : DrawOk Try.prog drawD := drawD_ok (by kernel_rfl)

/-! arguments -/
def OldB (w : World) : Nat → Prop := fun b => b < w.heap.size
/-- cells that read as values -/
structure CellsAs (w : World) (vs : List V) (cs : List Value) : Prop where
  len : vs.length = cs.length
  rel : ∀ (i : Nat) (v : V) (u : Value), vs[i]? = some v → cs[i]? = some u → Rel (OldB w) (fun _ => False) w v u ∧ u.oneCell' = true

theorem CellsAs.nil (w : World) : CellsAs w [] [] := ⟨rfl, by simp⟩
theorem CellsAs.app {w : World} {a c : List V} {b d : List Value} (h1 : CellsAs w a b) (h2 : CellsAs w c d) : CellsAs w (a ++ c) (b ++ d) := by
  refine ⟨by simp [h1.len, h2.len], fun i v u hv hu => ?_⟩
  by_cases hi : i < a.length
  · rw [List.getElem?_append_left hi] at hv
    rw [List.getElem?_append_left (by rw [← h1.len]; exact hi)] at hu
    exact h1.rel i v u hv hu
  · rw [List.getElem?_append_right (by omega)] at hv
    rw [List.getElem?_append_right (by rw [← h1.len]; omega), ← h1.len] at hu
    exact h2.rel _ v u hv hu
theorem CellsAs.one {w : World} {v : V} {u : Value} (h : Rel (OldB w) (fun _ => False) w v u) (h1 : u.oneCell' = true) : CellsAs w [v] [u] := by
  refine ⟨rfl, fun i v' u' hv hu => ?_⟩
  cases i with
  | zero => simp at hv hu; subst hv hu; exact ⟨h, h1⟩
  | succ i => simp at hv

/-- data of a type read as this -/
def ReadsAs (T : TypeId) (α : Type) (enc : α → List V) (ok : α → Prop) : Prop :=
  ∀ (H : Type) (e : TypeId × Value → H) (w : World) (base : Nat) (spare : Nat → Bool) (held : Bool) (fuel : Nat) (cs : List Value) (x : DataW H × List MemPlace),
    DataW.trod e Try.prog w base spare held fuel T cs = some x → ∃ a : α, ok a ∧ CellsAs w (enc a) cs

theorem reads_int {T : TypeId} (hT : Try.prog.underlying T = some (.int .i64)) : ReadsAs T Int (fun n => [.int .i64 n]) I64 := by
  intro H e w base spare held fuel cs x h
  obtain ⟨n, rfl, _, hn⟩ := DataW.trod_int hT h
  refine ⟨n, ?_, CellsAs.one (.int _ _) rfl⟩
  have h1 : IntKind.i64.min = -9223372036854775808 := rfl
  have h2 : IntKind.i64.max = 9223372036854775807 := rfl
  simp only [Lit.wf, Bool.and_eq_true, decide_eq_true_eq] at hn
  unfold I64
  omega
theorem reads_str {T : TypeId} (hT : Try.prog.underlying T = some .string) : ReadsAs T (List UInt8) (fun s => [.str s]) (fun s => s.length ≤ maxLen) := by
  intro H e w base spare held fuel cs x h
  obtain ⟨s, rfl, _, hs⟩ := DataW.trod_string hT h
  exact ⟨s.data.toList, by show s.data.toList.length ≤ maxLen; rw [Array.length_toList]; exact hs, CellsAs.one (.str _) rfl⟩

theorem list_of {α : Type} {Q : Nat → α → Prop} : ∀ n : Nat, (∀ i, i < n → ∃ a, Q i a) → ∃ l : List α, l.length = n ∧ ∀ (i : Nat) (a : α), l[i]? = some a → Q i a
  | 0, _ => ⟨[], rfl, by simp⟩
  | n + 1, h => by
    obtain ⟨l, hl, hq⟩ := list_of n fun i hi => h i (by omega)
    obtain ⟨a, ha⟩ := h n (by omega)
    refine ⟨l ++ [a], by simp [hl], fun i b hb => ?_⟩
    by_cases hi : i < l.length
    · rw [List.getElem?_append_left hi] at hb; exact hq i b hb
    · rw [List.getElem?_append_right (by omega)] at hb
      cases hk : i - l.length with
      | zero => rw [hk] at hb; simp at hb; subst hb; rw [show i = n by omega]; exact ha
      | succ k => rw [hk] at hb; simp at hb

theorem reads_slice {T E : TypeId} {α : Type} {enc : α → List V} {ok : α → Prop} {sz : Nat} (hT : Try.prog.underlying T = some (.slice E)) (hE : ReadsAs E α enc ok) (hsz : Try.prog.cellsOf E = sz) (henc : ∀ a, (enc a).length = sz) (hpos : 0 < sz) :
    ReadsAs T (List α) (fun l => [.sl false sz (l.map enc)]) (fun l => l.length ≤ maxLen ∧ ∀ a ∈ l, ok a) := by
  intro H e w base spare held fuel cs x h
  rcases DataW.trod_slice hT h with ⟨rfl, _⟩ | ⟨a, len, cap, elems, rest, n, _, rfl, _, _, hlc, hcm, hel, hget, _⟩
  · exact ⟨[], by simp, CellsAs.one (.slnil _ _) rfl⟩
  · rw [hsz] at hget
    have hi : ∀ i, i < len → ∃ b : α, ok b ∧ ∃ cs', w.cells? base (a.add (i * sz)) sz = some cs' ∧ CellsAs w (enc b) cs' := by
      intro i hi
      have h1 := hget i hi
      have h2 : elems[i]? = some (elems[i]'(by omega)) := List.getElem?_eq_getElem (by omega)
      rw [h2] at h1
      obtain ⟨cs', hc, ht⟩ := Option.bind_eq_some_iff.1 h1
      obtain ⟨b, hb, hcells⟩ := hE _ _ _ _ _ _ _ _ _ ht
      exact ⟨b, hb, cs', hc, hcells⟩
    obtain ⟨l, hl, hq⟩ := list_of len hi
    refine ⟨l, ⟨by omega, fun b hb => ?_⟩, CellsAs.one ?_ rfl⟩
    · obtain ⟨i, hi'⟩ := List.getElem?_of_mem hb
      exact (hq i b hi').1
    · by_cases h0 : len = 0
      · have : l = [] := List.eq_nil_of_length_eq_zero (by omega)
        subst this
        subst h0
        exact .slemp _ _ _ _
      · have cell : ∀ (i j : Nat) (b : α) (v : V), l[i]? = some b → (enc b)[j]? = some v → ∃ u, w.cell? (a.add (i * sz + j)) = some u ∧ Rel (OldB w) (fun _ => False) w v u ∧ u.oneCell' = true := by
          intro i j b v hb hv
          obtain ⟨_, cs', hc, hcells⟩ := hq i b hb
          obtain ⟨_, hcl, hat⟩ := World.cells?_some hc
          have hj : j < sz := by have := (List.getElem?_eq_some_iff.1 hv).1; rw [henc] at this; exact this
          have h1 := hat j hj
          have h2 : cs'[j]? = some (cs'[j]'(by omega)) := List.getElem?_eq_getElem (by omega)
          rw [h2] at h1
          have hadd : (a.add (i * sz)).add j = a.add (i * sz + j) := by
            unfold Addr.add
            by_cases z1 : i * sz = 0 <;> by_cases z2 : j = 0 <;> simp [z1, z2, Nat.add_assoc]
          rw [hadd] at h1
          exact ⟨_, h1, hcells.rel j v _ hv h2⟩
        have hl0 : 0 < l.length := by omega
        obtain ⟨u0, hu0, _⟩ := cell 0 0 l[0] ((enc l[0])[0]'(by rw [henc]; exact hpos)) (List.getElem?_eq_getElem hl0) (List.getElem?_eq_getElem (by rw [henc]; exact hpos))
        have hsp : a.spot = none := by
          have h00 : a.add (0 * sz + 0) = a := by simp [Addr.add]
          rw [h00] at hu0
          unfold World.cell? at hu0
          split at hu0
          · split at hu0
            · cases hu0
            · rename_i hs; simpa using hs
          · cases hu0
        obtain ⟨ab, ao, asp⟩ := a
        simp only at hsp
        subst hsp
        have hb : ab < w.heap.size := by
          have h00 : (⟨ab, ao, none⟩ : Addr).add (0 * sz + 0) = ⟨ab, ao, none⟩ := by simp [Addr.add]
          rw [h00] at hu0
          exact World.block_lt_of_cell? w _ hu0
        rw [show len = (l.map enc).length by simp [hl]]
        refine .sl false sz (l.map enc) ab ao cap (fun i j => (w.cell? ⟨ab, ao + (i * sz + j), none⟩).getD undef) (.inl hb) (by simp [hl]; omega) (fun r hr => ?_) (fun i j r v hi hj => ?_) (fun i j r v hi hj => ?_)
        · simp only [List.mem_map] at hr
          obtain ⟨b, _, rfl⟩ := hr
          exact henc b
        · simp only [List.getElem?_map, Option.map_eq_some_iff] at hi
          obtain ⟨b, hb', rfl⟩ := hi
          obtain ⟨u, hu, _, h1⟩ := cell i j b v hb' hj
          rw [add_off] at hu
          rw [hu]
          exact ⟨rfl, h1⟩
        · simp only [List.getElem?_map, Option.map_eq_some_iff] at hi
          obtain ⟨b, hb', rfl⟩ := hi
          obtain ⟨u, hu, hr, _⟩ := cell i j b v hb' hj
          rw [add_off] at hu
          rw [hu]
          exact hr

/-! a law's end -/
theorem law_calls {f : Nat} {args : List V} {us : Array Value} {W : World} (hs : Spec Try.prog f args Hp.emp (Is (.bool true))) (hl : us.size = args.length)
    (hr : ∀ (i : Nat) (v : V) (u : Value), args[i]? = some v → us[i]? = some u → Rel (OldB W) (fun _ => False) W v u) :
    Calls Try.prog f us W fun e w' => e = .returned (.bool true) ∧ Below W.heap.size W w' := by
  let C : Ctx := ⟨W, OldB W, fun _ => False, fun _ => False⟩
  have hC : C.Ok := ⟨fun b hb => ⟨hb, fun h => h⟩, fun b hb => hb.elim, fun b hb => hb.elim⟩
  refine (hs.run C us hC hl hr ⟨fun k o hk => by simp [Hp.emp] at hk, fun k k' o o' b hk => by simp [Hp.emp] at hk, fun k o b hk => by simp [Hp.emp] at hk, fun b hb => .inl hb, fun b hb => hb, fun b hb => hb, Ev.refl _ _⟩).mono ?_
  rintro e w' ⟨u, v, h', F', rfl, hv, hs2, rfl, rfl⟩
  cases hv
  have hev : Ev (fun _ => False) W w' := hs2.ev
  exact ⟨rfl, hev.os, hev.tape, hev.output, hev.size, fun k hk => hev.same k hk (fun h => h)⟩
end Go.Proofs.Ytobngncjflogcaa.AM

/-
  Arguments of any type, opened: structs, arrays, truth values.
-/
set_option linter.unusedVariables false
set_option linter.unusedSimpArgs false
namespace Go.Proofs.Ytobngncjflogcaa.AM
open Go
set_option maxRecDepth 100000
set_option maxHeartbeats 2000000
open Go.ChangeShapes Go.WideShapes Go.ChangeAt Go.RowKit

theorem reads_bool {T : TypeId} (hT : Try.prog.underlying T = some .bool) : ReadsAs T Bool (fun b => [.bool b]) (fun _ => True) := by
  intro H e w base spare held fuel cs x h
  obtain ⟨b, rfl, _⟩ := DataW.trod_bool hT h
  exact ⟨b, trivial, CellsAs.one (.bool _) rfl⟩

def ReadsFs (fs : List Field) (off tot : Nat) (α : Type) (enc : α → List V) (ok : α → Prop) : Prop :=
  ∀ (H : Type) (e : TypeId × Value → H) (w : World) (base : Nat) (spare : Nat → Bool) (held : Bool) (n : Nat) (cs : List Value),
    (∀ (i : Nat) (f : Field), fs[i]? = some f → ∃ y : DataW H × List MemPlace, DataW.trod e Try.prog w base spare held n f.type ((cs.drop f.offset).take (Try.prog.cellsOf f.type)) = some y) →
    ∃ a : α, ok a ∧ CellsAs w (enc a) ((cs.drop off).take tot)
theorem reads_nil (off : Nat) : ReadsFs [] off 0 Unit (fun _ => []) (fun _ => True) := fun H e w base spare held n cs _ => ⟨(), trivial, by simpa using CellsAs.nil w⟩
theorem reads_cons {f : Field} {fs : List Field} {off k tot : Nat} {α β : Type} {e1 : α → List V} {e2 : β → List V} {ok1 : α → Prop} {ok2 : β → Prop} (h1 : ReadsAs f.type α e1 ok1) (ho : f.offset = off) (hk : Try.prog.cellsOf f.type = k)
    (h2 : ReadsFs fs (off + k) tot β e2 ok2) : ReadsFs (f :: fs) off (k + tot) (α × β) (fun p => e1 p.1 ++ e2 p.2) (fun p => ok1 p.1 ∧ ok2 p.2) := by
  intro H e w base spare held n cs h
  obtain ⟨y, hy⟩ := h 0 f rfl
  obtain ⟨a, ha, hc⟩ := h1 _ _ _ _ _ _ _ _ _ hy
  obtain ⟨b, hb, hd⟩ := h2 H e w base spare held n cs fun i g hg => h (i + 1) g (by simpa using hg)
  refine ⟨(a, b), ⟨ha, hb⟩, ?_⟩
  rw [List.take_add, List.drop_drop]
  rw [ho, hk] at hc
  exact hc.app hd
theorem reads_struct {T : TypeId} {fs : Array Field} {tot : Nat} {α : Type} {enc : α → List V} {ok : α → Prop} (hT : Try.prog.underlying T = some (.struct fs)) (hf : ReadsFs fs.toList 0 tot α enc ok) (hk : Try.prog.cellsOf T = tot) : ReadsAs T α enc ok := by
  intro H e w base spare held fuel cs x h
  obtain ⟨xs, n, _, hx, hl, hlen, hg⟩ := DataW.trod_struct hT h
  obtain ⟨a, ha, hc⟩ := hf H e w base spare held n cs fun i f hi => by
    have hi' : fs[i]? = some f := by simpa using hi
    have hlt : i < xs.length := by rw [hlen]; exact (Array.getElem?_eq_some_iff.1 hi').1
    exact ⟨xs[i], by rw [hg i f hi', List.getElem?_eq_getElem hlt]⟩
  refine ⟨a, ha, ?_⟩
  rw [List.drop_zero, List.take_of_length_le (by omega)] at hc
  exact hc
theorem reads_map {T : TypeId} {α β : Type} {e1 : α → List V} {ok1 : α → Prop} {e2 : β → List V} {ok2 : β → Prop} (h : ReadsAs T α e1 ok1) (g : α → β) (he : ∀ a, e2 (g a) = e1 a) (ho : ∀ a, ok1 a → ok2 (g a)) : ReadsAs T β e2 ok2 := by
  intro H e w base spare held fuel cs x hh
  obtain ⟨a, ha, hc⟩ := h _ _ _ _ _ _ _ _ _ hh
  exact ⟨g a, ho a ha, by rw [he]; exact hc⟩
theorem cells_of : ∀ {α : Type} {enc : α → List V} {w : World} {k : Nat} (l : List α) (cs : List Value), cs.length = l.length * k → (∀ (i : Nat) (a : α), l[i]? = some a → CellsAs w (enc a) ((cs.drop (i * k)).take k)) → CellsAs w (l.flatMap enc) cs
  | α, enc, w, k, [], cs, hl, h => by
    have : cs = [] := List.eq_nil_of_length_eq_zero (by simpa using hl)
    subst this
    exact CellsAs.nil w
  | α, enc, w, k, a :: l, cs, hl, h => by
    have h0 := h 0 a rfl
    rw [Nat.zero_mul, List.drop_zero] at h0
    have h1 := cells_of (enc := enc) (w := w) (k := k) l (cs.drop k) (by rw [List.length_drop, hl, List.length_cons, Nat.add_mul]; omega) fun i b hb => by
      have := h (i + 1) b (by simpa using hb)
      rw [List.drop_drop]
      rw [Nat.add_mul, Nat.one_mul, Nat.add_comm] at this
      exact this
    have := h0.app h1
    rw [List.take_append_drop] at this
    simpa using this
theorem reads_array {T E : TypeId} {n k : Nat} {α : Type} {enc : α → List V} {ok : α → Prop} (hT : Try.prog.underlying T = some (.array n E)) (hE : ReadsAs E α enc ok) (hk : Try.prog.cellsOf E = k) (hc : Try.prog.cellsOf T = n * k) :
    ReadsAs T (List α) (fun l => l.flatMap enc) (fun l => l.length = n ∧ ∀ a ∈ l, ok a) := by
  intro H e w base spare held fuel cs x h
  obtain ⟨xs, m, _, hx, hl, hlen, hg⟩ := DataW.trod_array hT h
  rw [hk] at hg
  have hi : ∀ i, i < n → ∃ b : α, ok b ∧ CellsAs w (enc b) ((cs.drop (i * k)).take k) := by
    intro i hi
    have h1 := hg i hi
    rw [List.getElem?_eq_getElem (by omega)] at h1
    exact hE _ _ _ _ _ _ _ _ _ h1
  obtain ⟨l, hll, hq⟩ := list_of n hi
  refine ⟨l, ⟨hll, fun b hb => ?_⟩, cells_of (k := k) l cs (by rw [hl, hc, hll]) fun i a ha => (hq i a ha).2⟩
  obtain ⟨i, hi'⟩ := List.getElem?_of_mem hb
  exact (hq i b hi').1

section
variable {H : Type} {enc : TypeId × Value → H} {w : World} {base : Nat} {spare : Nat → Bool} {held : Bool}
theorem open_one {T : TypeId} {α : Type} {f : α → V} {ok : α → Prop} {v : Value} {d : DataW H} {p : List MemPlace} (hr : ReadsAs T α (fun a => [f a]) ok) (hv : v.oneCell' = true) (h : DataW.Trod enc Try.prog w base spare held T v d p) :
    ∃ a : α, ok a ∧ Rel (OldB w) (fun _ => False) w (f a) v := by
  obtain ⟨fuel, h⟩ := h
  obtain ⟨a, ha, hc⟩ := hr _ _ _ _ _ _ _ _ _ h
  refine ⟨a, ha, (hc.rel 0 (f a) v rfl ?_).1⟩
  cases v <;> first | rfl | cases hv
theorem open_many {T : TypeId} {α : Type} {f : α → List V} {ok : α → Prop} {v : Value} {d : DataW H} {p : List MemPlace} (hr : ReadsAs T α f ok) (hv : ∃ cs, v = .agg cs) (h : DataW.Trod enc Try.prog w base spare held T v d p) :
    ∃ a : α, ok a ∧ Rel (OldB w) (fun _ => False) w (.agg (f a)) v := by
  obtain ⟨fuel, h⟩ := h
  obtain ⟨cs, rfl⟩ := hv
  obtain ⟨a, ha, hc⟩ := hr _ _ _ _ _ _ _ _ _ h
  have hl : cs.size = (f a).length := by have := hc.len; simpa [Value.cells] using this.symm
  exact ⟨a, ha, .agg _ cs hl fun i v u hv hu => (hc.rel i v u hv (by simpa [Value.cells] using hu)).1⟩
end
theorem one_slice {T E : TypeId} {w : World} {r : Reach} {base : Nat} {v : Value} (hT : Try.prog.underlying T = some (.slice E)) (h : Value.okWide Try.prog w r base T v) : v.oneCell' = true := by
  simp only [Value.okWide, hT] at h
  cases v <;> first | rfl | (unfold Cell.okWide at h; simp only [hT] at h; unfold Cell.ok at h; simp [hT] at h)
theorem one_int {T : TypeId} {k : IntKind} {w : World} {r : Reach} {base : Nat} {v : Value} (hT : Try.prog.underlying T = some (.int k)) (h : Value.okWide Try.prog w r base T v) : v.oneCell' = true := by
  simp only [Value.okWide, hT] at h
  cases v <;> first | rfl | (unfold Cell.okWide at h; simp only [hT] at h; unfold Cell.ok at h; simp [hT] at h)
theorem one_bool {T : TypeId} {w : World} {r : Reach} {base : Nat} {v : Value} (hT : Try.prog.underlying T = some .bool) (h : Value.okWide Try.prog w r base T v) : v.oneCell' = true := by
  simp only [Value.okWide, hT] at h
  cases v <;> first | rfl | (unfold Cell.okWide at h; simp only [hT] at h; unfold Cell.ok at h; simp [hT] at h)
theorem one_str {T : TypeId} {w : World} {r : Reach} {base : Nat} {v : Value} (hT : Try.prog.underlying T = some .string) (h : Value.okWide Try.prog w r base T v) : v.oneCell' = true := by
  simp only [Value.okWide, hT] at h
  cases v <;> first | rfl | (unfold Cell.okWide at h; simp only [hT] at h; unfold Cell.ok at h; simp [hT] at h)
end Go.Proofs.Ytobngncjflogcaa.AM

/-
  Parts of deltas: what the program's inner functions and the references' answer of one part, and their sums.
-/
set_option linter.unusedVariables false
set_option linter.unusedSimpArgs false
namespace Go.Proofs.Ytobngncjflogcaa.AM
open Go
structure Part where
  kind : Int
  n : Int
  text : List UInt8
def encPart (p : Part) : List V := [.int .i64 p.kind, .int .i64 p.n, .str p.text]
def Part.Ok (p : Part) : Prop := I64 p.kind ∧ I64 p.n ∧ p.text.length ≤ maxLen
set_option maxRecDepth 100000
set_option maxHeartbeats 2000000

def fitF (p : Part) : Int :=
  if p.kind = 1 ∨ p.kind = 3 then (if p.n < 1 ∨ p.text ≠ [] then 3 else if p.n > 500 ∨ (p.text.length : Int) > 500 then 2 else 0)
  else if p.kind = 2 then (if p.n ≠ 0 ∨ p.text = [] then 3 else if p.n > 500 ∨ (p.text.length : Int) > 500 then 2 else 0)
  else 3
def ac_fit : AC := .seq (.region false [
    ⟨some 1, none, .box 108 3 (.t 0)⟩,
    ⟨some 2, none, .mov (.c (.int .i64 0))⟩])
  (.seq (.seq (.region false [
    ⟨some 3, none, .faddr 0 (.t 1)⟩,
    ⟨some 4, none, .load1 (.t 3)⟩])
  (.block 0 (.seq (.seq (.region false [
    ⟨some 6, none, .bin .eql (.t 4) (.c (.int .i64 1))⟩,
    ⟨some 5, none, .mov (.t 6)⟩])
  (.cond (.t 5)
    (.skip)
    (.region false [
      ⟨some 7, none, .bin .eql (.t 4) (.c (.int .i64 3))⟩,
      ⟨some 5, none, .mov (.t 7)⟩])))
  (.cond (.t 5)
    (.seq (.region false [
      ⟨some 8, none, .faddr 1 (.t 1)⟩,
      ⟨some 9, none, .load1 (.t 8)⟩,
      ⟨some 10, none, .bin .lss (.t 9) (.c (.int .i64 1))⟩,
      ⟨some 11, none, .mov (.t 10)⟩,
      ⟨some 12, some (11, false), .faddr 2 (.t 1)⟩,
      ⟨some 13, some (11, false), .load1 (.t 12)⟩,
      ⟨some 14, some (11, false), .bin .neq (.t 13) (.c (.string ⟨#[]⟩))⟩,
      ⟨some 15, none, .pick (.t 11) (.c (.bool true)) (.t 14)⟩])
    (.cond (.t 15)
      (.seq (.region false [
        ⟨some 2, none, .mov (.c (.int .i64 3))⟩])
      (.ret))
      (.skip)))
    (.seq (.region false [
      ⟨some 17, none, .bin .eql (.t 4) (.c (.int .i64 2))⟩,
      ⟨some 16, none, .mov (.t 17)⟩])
    (.cond (.t 16)
      (.seq (.region false [
        ⟨some 18, none, .faddr 1 (.t 1)⟩,
        ⟨some 19, none, .load1 (.t 18)⟩,
        ⟨some 20, none, .bin .neq (.t 19) (.c (.int .i64 0))⟩,
        ⟨some 21, none, .mov (.t 20)⟩,
        ⟨some 22, some (21, false), .faddr 2 (.t 1)⟩,
        ⟨some 23, some (21, false), .load1 (.t 22)⟩,
        ⟨some 24, some (21, false), .bin .eql (.t 23) (.c (.string ⟨#[]⟩))⟩,
        ⟨some 25, none, .pick (.t 21) (.c (.bool true)) (.t 24)⟩])
      (.cond (.t 25)
        (.seq (.region false [
          ⟨some 2, none, .mov (.c (.int .i64 3))⟩])
        (.ret))
        (.skip)))
      (.seq (.region false [
        ⟨some 2, none, .mov (.c (.int .i64 3))⟩])
      (.ret))))))))
  (.seq (.seq (.region false [
    ⟨some 26, none, .faddr 1 (.t 1)⟩,
    ⟨some 27, none, .load1 (.t 26)⟩,
    ⟨some 28, none, .bin .gtr (.t 27) (.c (.int .i64 500))⟩,
    ⟨some 29, none, .mov (.t 28)⟩,
    ⟨some 30, some (29, false), .faddr 2 (.t 1)⟩,
    ⟨some 31, some (29, false), .load1 (.t 30)⟩,
    ⟨some 32, some (29, false), .len true (.t 31)⟩,
    ⟨some 33, some (29, false), .bin .gtr (.t 32) (.c (.int .i64 500))⟩,
    ⟨some 34, none, .pick (.t 29) (.c (.bool true)) (.t 33)⟩])
  (.cond (.t 34)
    (.seq (.region false [
      ⟨some 2, none, .mov (.c (.int .i64 2))⟩])
    (.ret))
    (.skip)))
  (.seq (.region false [
    ⟨some 2, none, .mov (.c (.int .i64 0))⟩])
  (.ret))))
theorem ok_fit : FnOk Try.prog 112 Try.f112 ac_fit [.t 2] 1 drawD := ⟨Try.func112, by decide +kernel, by kernel_rfl, by kernel_rfl, by decide +kernel⟩
theorem vc_fit (P : Prim) (hP : P = std) (T T1 : CallT) (k n : Int) (t : List UInt8) (r : Int) (hr : fitF ⟨k, n, t⟩ = r) (R : S → Prop) (hR : ∀ s s', Ent s s' → Ret [.t 2] [.int .i64 r] s' → R s) :
    awp P T T1 ac_fit (S0 [.agg [.int .i64 k, .int .i64 n, .str t]] Hp.emp) R (fun _ _ => False) R := by
  cbv
  repeat' (first | (intro β; try cbv) | (refine And.intro (by assumption) ?_; try cbv) | (refine br_cases (fun h => ?_) (fun h => ?_) <;> try cbv))
  all_goals
    refine hR _ _ (Ent.refl _) ?_
    cbv
  all_goals
    subst hP
    subst hr
    simp [std] at *
    clear hR
    grind [fitF]
theorem sp_fit (p : Part) : Spec Try.prog 112 [.agg (encPart p)] Hp.emp (Is (.int .i64 (fitF p))) :=
  spec_pure dOk ok_fit [.int .i64 (fitF p)] (.int _ _) fun R hR => vc_fit std rfl _ _ p.kind p.n p.text _ rfl R hR

def ac_right : AC := .seq (.region false [
    ⟨some 1, none, .box 108 3 (.t 0)⟩,
    ⟨some 2, none, .mov (.c (.int .i64 0))⟩])
  (.seq (.region false [
    ⟨some 4, none, .faddr 0 (.t 1)⟩,
    ⟨some 5, none, .load1 (.t 4)⟩,
    ⟨some 6, none, .bin .eql (.t 5) (.c (.int .i64 2))⟩,
    ⟨some 7, none, .mov (.t 6)⟩,
    ⟨some 8, some (7, true), .faddr 1 (.t 1)⟩,
    ⟨some 9, some (7, true), .load1 (.t 8)⟩,
    ⟨some 10, some (7, true), .bin .eql (.t 9) (.c (.int .i64 0))⟩,
    ⟨some 11, none, .pick (.t 7) (.t 10) (.c (.bool false))⟩,
    ⟨some 12, none, .mov (.t 11)⟩,
    ⟨some 13, some (12, true), .faddr 2 (.t 1)⟩,
    ⟨some 14, some (12, true), .load1 (.t 13)⟩,
    ⟨some 15, some (12, true), .bin .neq (.t 14) (.c (.string ⟨#[]⟩))⟩,
    ⟨some 16, none, .pick (.t 12) (.t 15) (.c (.bool false))⟩,
    ⟨some 17, none, .mov (.t 16)⟩,
    ⟨some 18, some (17, false), .faddr 0 (.t 1)⟩,
    ⟨some 19, some (17, false), .load1 (.t 18)⟩,
    ⟨some 20, some (17, false), .bin .eql (.t 19) (.c (.int .i64 1))⟩,
    ⟨some 21, some (17, false), .mov (.t 20)⟩,
    ⟨some 22, some (21, false), .faddr 0 (.t 1)⟩,
    ⟨some 23, some (21, false), .load1 (.t 22)⟩,
    ⟨some 24, some (21, false), .bin .eql (.t 23) (.c (.int .i64 3))⟩,
    ⟨some 25, some (17, false), .pick (.t 21) (.c (.bool true)) (.t 24)⟩,
    ⟨some 26, some (17, false), .mov (.t 25)⟩,
    ⟨some 27, some (26, true), .faddr 1 (.t 1)⟩,
    ⟨some 28, some (26, true), .load1 (.t 27)⟩,
    ⟨some 29, some (26, true), .bin .gtr (.t 28) (.c (.int .i64 0))⟩,
    ⟨some 30, some (17, false), .pick (.t 26) (.t 29) (.c (.bool false))⟩,
    ⟨some 31, some (17, false), .mov (.t 30)⟩,
    ⟨some 32, some (31, true), .faddr 2 (.t 1)⟩,
    ⟨some 33, some (31, true), .load1 (.t 32)⟩,
    ⟨some 34, some (31, true), .bin .eql (.t 33) (.c (.string ⟨#[]⟩))⟩,
    ⟨some 35, some (17, false), .pick (.t 31) (.t 34) (.c (.bool false))⟩,
    ⟨some 36, none, .pick (.t 17) (.c (.bool true)) (.t 35)⟩,
    ⟨some 3, none, .mov (.t 36)⟩])
  (.seq (.seq (.region false [
    ⟨some 37, none, .mov (.t 3)⟩,
    ⟨some 38, none, .not (.t 37)⟩])
  (.cond (.t 38)
    (.seq (.region false [
      ⟨some 2, none, .mov (.c (.int .i64 3))⟩])
    (.ret))
    (.skip)))
  (.seq (.seq (.region false [
    ⟨some 39, none, .faddr 1 (.t 1)⟩,
    ⟨some 40, none, .load1 (.t 39)⟩,
    ⟨some 41, none, .bin .gtr (.t 40) (.c (.int .i64 500))⟩,
    ⟨some 42, none, .mov (.t 41)⟩,
    ⟨some 43, some (42, false), .faddr 2 (.t 1)⟩,
    ⟨some 44, some (42, false), .load1 (.t 43)⟩,
    ⟨some 45, some (42, false), .len true (.t 44)⟩,
    ⟨some 46, some (42, false), .bin .gtr (.t 45) (.c (.int .i64 500))⟩,
    ⟨some 47, none, .pick (.t 42) (.c (.bool true)) (.t 46)⟩])
  (.cond (.t 47)
    (.seq (.region false [
      ⟨some 2, none, .mov (.c (.int .i64 2))⟩])
    (.ret))
    (.skip)))
  (.seq (.region false [
    ⟨some 2, none, .mov (.c (.int .i64 0))⟩])
  (.ret)))))
theorem ok_right : FnOk Try.prog 123 Try.f123 ac_right [.t 2] 1 drawD := ⟨Try.func123, by decide +kernel, by kernel_rfl, by kernel_rfl, by decide +kernel⟩
theorem vc_right (P : Prim) (hP : P = std) (T T1 : CallT) (k n : Int) (t : List UInt8) (r : Int) (hr : fitF ⟨k, n, t⟩ = r) (R : S → Prop) (hR : ∀ s s', Ent s s' → Ret [.t 2] [.int .i64 r] s' → R s) :
    awp P T T1 ac_right (S0 [.agg [.int .i64 k, .int .i64 n, .str t]] Hp.emp) R (fun _ _ => False) R := by
  cbv
  repeat' (first | (intro β; try cbv) | (refine And.intro (by assumption) ?_; try cbv) | (refine br_cases (fun h => ?_) (fun h => ?_) <;> try cbv))
  all_goals
    refine hR _ _ (Ent.refl _) ?_
    cbv
  all_goals
    subst hP
    subst hr
    simp [std] at *
    clear hR
    grind [fitF]
theorem sp_right (p : Part) : Spec Try.prog 123 [.agg (encPart p)] Hp.emp (Is (.int .i64 (fitF p))) :=
  spec_pure dOk ok_right [.int .i64 (fitF p)] (.int _ _) fun R hR => vc_right std rfl _ _ p.kind p.n p.text _ rfl R hR
end Go.Proofs.Ytobngncjflogcaa.AM

/-
  The types of the laws' arguments, read.
-/
set_option linter.unusedVariables false
set_option linter.unusedSimpArgs false
namespace Go.Proofs.Ytobngncjflogcaa.AM
open Go
set_option maxRecDepth 100000
set_option maxHeartbeats 2000000
theorem r_int : ReadsAs 3 Int (fun n => [.int .i64 n]) I64 := reads_int Try.underlying3
theorem r_bool : ReadsAs 4 Bool (fun n => [.bool n]) (fun _ => True) := reads_bool Try.underlying4
theorem r_str : ReadsAs 9 (List UInt8) (fun s => [.str s]) (fun s => s.length ≤ maxLen) := reads_str Try.underlying9
theorem r_ints : ReadsAs 46 (List Int) (fun l => [.sl false 1 (l.map fun n => [.int .i64 n])]) (fun l => l.length ≤ maxLen ∧ ∀ a ∈ l, I64 a) := reads_slice Try.underlying46 r_int (by kernel_rfl) (fun _ => rfl) (by decide)

theorem reads_part : ReadsAs 108 Part encPart Part.Ok :=
  reads_map (reads_struct Try.underlying108 (reads_cons (k := 1) r_int rfl (by kernel_rfl) (reads_cons (k := 1) r_int rfl (by kernel_rfl) (reads_cons (k := 1) r_str rfl (by kernel_rfl) (reads_nil _)))) (by kernel_rfl))
    (fun p => ⟨p.1, p.2.1, p.2.2.1⟩) (fun _ => rfl) (fun p h => ⟨h.1, h.2.1, h.2.2.1⟩)
def encParts (d : List Part) : V := .sl false 3 (d.map encPart)
def PartsOk (d : List Part) : Prop := d.length ≤ maxLen ∧ ∀ p ∈ d, p.Ok
theorem reads_parts : ReadsAs 37 (List Part) (fun d => [encParts d]) PartsOk := reads_slice Try.underlying37 reads_part (by kernel_rfl) (fun _ => rfl) (by decide)
theorem reads_ints : ReadsAs 46 (List Int) (fun l => [.sl false 1 (l.map fun n => [.int .i64 n])]) (fun l => l.length ≤ maxLen ∧ ∀ a ∈ l, I64 a) := r_ints

structure Rev where
  who : Int
  seq : Int
  delta : List Part
def encRev (r : Rev) : List V := [.int .i64 r.who, .int .i64 r.seq, encParts r.delta]
def Rev.Ok (r : Rev) : Prop := I64 r.who ∧ I64 r.seq ∧ PartsOk r.delta
theorem reads_rev : ReadsAs 45 Rev encRev Rev.Ok :=
  reads_map (reads_struct Try.underlying45 (reads_cons (k := 1) r_int rfl (by kernel_rfl) (reads_cons (k := 1) r_int rfl (by kernel_rfl) (reads_cons (k := 1) reads_parts rfl (by kernel_rfl) (reads_nil _)))) (by kernel_rfl))
    (fun p => ⟨p.1, p.2.1, p.2.2.1⟩) (fun _ => rfl) (fun p h => ⟨h.1, h.2.1, h.2.2.1⟩)
def encRevs (l : List Rev) : V := .sl false 3 (l.map encRev)
def RevsOk (l : List Rev) : Prop := l.length ≤ maxLen ∧ ∀ r ∈ l, r.Ok
theorem reads_revs : ReadsAs 36 (List Rev) (fun l => [encRevs l]) RevsOk := reads_slice Try.underlying36 reads_rev (by kernel_rfl) (fun _ => rfl) (by decide)

structure Pol where
  last : Int
  every : Int
  pins : List Int
def encInts (l : List Int) : V := .sl false 1 (l.map fun n => [.int .i64 n])
def encPol (p : Pol) : List V := [.int .i64 p.last, .int .i64 p.every, encInts p.pins]
def Pol.Ok (p : Pol) : Prop := I64 p.last ∧ I64 p.every ∧ p.pins.length ≤ maxLen ∧ ∀ a ∈ p.pins, I64 a
theorem reads_policy : ReadsAs 53 Pol encPol Pol.Ok :=
  reads_map (reads_struct Try.underlying53 (reads_cons (k := 1) r_int rfl (by kernel_rfl) (reads_cons (k := 1) r_int rfl (by kernel_rfl) (reads_cons (k := 1) r_ints rfl (by kernel_rfl) (reads_nil _)))) (by kernel_rfl))
    (fun p => ⟨p.1, p.2.1, p.2.2.1⟩) (fun _ => rfl) (fun p h => ⟨h.1, h.2.1, h.2.2.1⟩)

structure Slot where
  data : List UInt8
  safe : Int
def encSlot (s : Slot) : List V := [.str s.data, .int .i64 s.safe]
def Slot.Ok (s : Slot) : Prop := s.data.length ≤ maxLen ∧ I64 s.safe
theorem reads_slot : ReadsAs 23 Slot encSlot Slot.Ok :=
  reads_map (reads_struct Try.underlying23 (reads_cons (k := 1) r_str rfl (by kernel_rfl) (reads_cons (k := 1) r_int rfl (by kernel_rfl) (reads_nil _))) (by kernel_rfl))
    (fun p => ⟨p.1, p.2.1⟩) (fun _ => rfl) (fun p h => ⟨h.1, h.2.1⟩)
structure Disk where
  a : Slot
  b : Slot
def encDisk (d : Disk) : List V := [.str d.a.data, .int .i64 d.a.safe, .str d.b.data, .int .i64 d.b.safe]
def Disk.Ok (d : Disk) : Prop := d.a.Ok ∧ d.b.Ok
def diskOf : List Slot → Disk
  | [a, b] => ⟨a, b⟩
  | _ => ⟨⟨[], 0⟩, ⟨[], 0⟩⟩
theorem reads_disk : ReadsAs 26 Disk encDisk Disk.Ok := by
  have h := reads_struct Try.underlying26 (reads_cons (k := 4) (reads_array (n := 2) (k := 2) Try.underlying24 reads_slot (by kernel_rfl) (by kernel_rfl)) rfl (by kernel_rfl) (reads_nil _)) (by kernel_rfl)
  intro H e w base spare held fuel cs x hh
  obtain ⟨⟨l, u⟩, ⟨⟨h1, h2⟩, _⟩, h3⟩ := h _ _ _ _ _ _ _ _ _ hh
  match l, h1 with
  | [a, b], _ => exact ⟨⟨a, b⟩, ⟨h2 a (by simp), h2 b (by simp)⟩, by simpa [encDisk, encSlot] using h3⟩

structure Frame where
  kind : Int
  body : List UInt8
def encFrame (f : Frame) : List V := [.int .i64 f.kind, .str f.body]
def Frame.Ok (f : Frame) : Prop := I64 f.kind ∧ f.body.length ≤ maxLen
theorem reads_frame : ReadsAs 139 Frame encFrame Frame.Ok :=
  reads_map (reads_struct Try.underlying139 (reads_cons (k := 1) r_int rfl (by kernel_rfl) (reads_cons (k := 1) r_str rfl (by kernel_rfl) (reads_nil _))) (by kernel_rfl))
    (fun p => ⟨p.1, p.2.1⟩) (fun _ => rfl) (fun p h => ⟨h.1, h.2.1⟩)

structure Client where
  who : Int
  rev : Int
  seq : Int
  text : List UInt8
  flying : Bool
  sent : List Part
  waiting : Bool
  held : List Part
def encClient (c : Client) : List V := [.int .i64 c.who, .int .i64 c.rev, .int .i64 c.seq, .str c.text, .bool c.flying, encParts c.sent, .bool c.waiting, encParts c.held]
def Client.Ok (c : Client) : Prop := I64 c.who ∧ I64 c.rev ∧ I64 c.seq ∧ c.text.length ≤ maxLen ∧ PartsOk c.sent ∧ PartsOk c.held
structure Msg where
  base : Int
  who : Int
  seq : Int
  delta : List Part
def encMsg (m : Msg) : List V := [.int .i64 m.base, .int .i64 m.who, .int .i64 m.seq, encParts m.delta]
def Msg.Ok (m : Msg) : Prop := I64 m.base ∧ I64 m.who ∧ I64 m.seq ∧ PartsOk m.delta
theorem reads_msg : ReadsAs 70 Msg encMsg Msg.Ok :=
  reads_map (reads_struct Try.underlying70 (reads_cons (k := 1) r_int rfl (by kernel_rfl) (reads_cons (k := 1) r_int rfl (by kernel_rfl) (reads_cons (k := 1) r_int rfl (by kernel_rfl) (reads_cons (k := 1) reads_parts rfl (by kernel_rfl) (reads_nil _))))) (by kernel_rfl))
    (fun p => ⟨p.1, p.2.1, p.2.2.1, p.2.2.2.1⟩) (fun _ => rfl) (fun p h => ⟨h.1, h.2.1, h.2.2.1, h.2.2.2.1⟩)
end Go.Proofs.Ytobngncjflogcaa.AM

/-
  Deltas: what sizes and Check, In and Out and Delta answer.
-/
set_option linter.unusedVariables false
set_option linter.unusedSimpArgs false
namespace Go.Proofs.Ytobngncjflogcaa.AM
open Go
set_option maxRecDepth 100000
set_option maxHeartbeats 2000000

def inF : List Part → Int
  | [] => 0
  | p :: l => (if p.kind = 1 ∨ p.kind = 3 then p.n else 0) + inF l
def outF : List Part → Int
  | [] => 0
  | p :: l => (if p.kind = 1 then p.n else if p.kind = 3 then 0 else p.text.length) + outF l
theorem inF_app (a b : List Part) : inF (a ++ b) = inF a + inF b := by induction a with
  | nil => simp [inF]
  | cons p a ih => simp only [List.cons_append, inF, ih]; omega
theorem outF_app (a b : List Part) : outF (a ++ b) = outF a + outF b := by induction a with
  | nil => simp [outF]
  | cons p a ih => simp only [List.cons_append, outF, ih]; omega
def okP (p : Part) : Prop := fitF p = 0
theorem okP_bd {p : Part} (h : okP p) : 0 ≤ p.n ∧ p.n ≤ 500 ∧ p.text.length ≤ 500 ∧ ((p.kind = 2 ∧ p.n = 0 ∧ p.text ≠ []) ∨ ((p.kind = 1 ∨ p.kind = 3) ∧ 0 < p.n ∧ p.text = [])) := by
  unfold okP fitF at h
  grind
theorem inF_bd (l : List Part) (h : ∀ p ∈ l, okP p) : 0 ≤ inF l ∧ inF l ≤ 500 * l.length := by induction l with
  | nil => simp [inF]
  | cons p l ih =>
    have h1 := okP_bd (h p (by simp))
    have h2 := ih fun q hq => h q (by simp [hq])
    simp only [inF, List.length_cons]
    split <;> omega
theorem outF_bd (l : List Part) (h : ∀ p ∈ l, okP p) : 0 ≤ outF l ∧ outF l ≤ 500 * l.length := by induction l with
  | nil => simp [outF]
  | cons p l ih =>
    have h1 := okP_bd (h p (by simp))
    have h2 := ih fun q hq => h q (by simp [hq])
    simp only [outF, List.length_cons]
    split
    · omega
    · split <;> omega
def chk : Int → List Part → Int
  | _, [] => 0
  | last, p :: l => if p.kind = last ∨ last = 3 ∧ p.kind = 2 then 3 else if fitF p ≠ 0 then fitF p else chk p.kind l
theorem chk_ok : ∀ (last : Int) (l : List Part), chk last l = 0 → ∀ p ∈ l, okP p
  | _, [], _ => by simp
  | last, p :: l, h => by
    unfold chk at h
    split at h
    · omega
    · split at h
      · contradiction
      · rename_i h2
        intro q hq
        rcases List.mem_cons.1 hq with rfl | hq
        · exact Decidable.of_not_not (p := fitF q = 0) h2
        · exact chk_ok _ l h q hq
def checkF (d : List Part) : Int := if 1600 < d.length then 2 else if chk 0 d ≠ 0 then chk 0 d else if 500 < inF d ∨ 500 < outF d then 2 else 0

theorem row_at {d : List Part} {rows : List (List V)} {p : Part} {pre rest : List Part} {k : Int} (hrows : rows = d.map encPart) (hd : d = pre ++ p :: rest) (hk : k = pre.length) (P : Prim) (hP : P = std) : P.row rows (P.nat k) (encPart p) := by
  subst hP; simp [std, hrows, hd, hk]

def ac_sizes : AC := .seq (.region false [
    ⟨some 2, none, .mov (.c (.int .i64 0))⟩,
    ⟨some 3, none, .mov (.c (.int .i64 0))⟩])
  (.seq (.seq (.region false [
    ⟨some 6, none, .mov (.t 0)⟩,
    ⟨some 7, none, .len false (.t 6)⟩,
    ⟨some 8, none, .mov (.c (.int .i64 0))⟩])
  (.block 0 (.loop (.seq (.region false [
      ⟨some 9, none, .bin .lss (.t 8) (.t 7)⟩])
    (.seq (.cond (.t 9)
      (.skip)
      (.exit 0))
    (.seq (.block 1 (.seq (.region false [
      ⟨some 10, none, .iaddr 3 (.t 6) (.t 8)⟩,
      ⟨some 11, none, .loadn 3 (.t 10)⟩,
      ⟨some 5, none, .alloc 108 [(.int .i64 0), (.int .i64 0), (.string ⟨#[]⟩)]⟩,
      ⟨none, none, .store 3 (.t 5) (.t 11)⟩])
    (.seq (.region false [
      ⟨some 12, none, .faddr 0 (.t 5)⟩,
      ⟨some 13, none, .load1 (.t 12)⟩])
    (.block 2 (.seq (.region false [
      ⟨some 20, none, .bin .eql (.t 13) (.c (.int .i64 1))⟩,
      ⟨some 19, none, .mov (.t 20)⟩])
    (.cond (.t 19)
      (.seq (.region false [
        ⟨some 21, none, .mov (.t 2)⟩,
        ⟨some 22, none, .faddr 1 (.t 5)⟩,
        ⟨some 23, none, .load1 (.t 22)⟩,
        ⟨some 24, none, .bin .add (.t 21) (.t 23)⟩,
        ⟨some 2, none, .mov (.t 24)⟩])
      (.region false [
        ⟨some 25, none, .mov (.t 3)⟩,
        ⟨some 26, none, .faddr 1 (.t 5)⟩,
        ⟨some 27, none, .load1 (.t 26)⟩,
        ⟨some 28, none, .bin .add (.t 25) (.t 27)⟩,
        ⟨some 3, none, .mov (.t 28)⟩]))
      (.seq (.region false [
        ⟨some 30, none, .bin .eql (.t 13) (.c (.int .i64 3))⟩,
        ⟨some 29, none, .mov (.t 30)⟩])
      (.cond (.t 29)
        (.region false [
          ⟨some 31, none, .mov (.t 2)⟩,
          ⟨some 32, none, .faddr 1 (.t 5)⟩,
          ⟨some 33, none, .load1 (.t 32)⟩,
          ⟨some 34, none, .bin .add (.t 31) (.t 33)⟩,
          ⟨some 2, none, .mov (.t 34)⟩])
        (.region false [
          ⟨some 14, none, .mov (.t 3)⟩,
          ⟨some 15, none, .faddr 2 (.t 5)⟩,
          ⟨some 16, none, .load1 (.t 15)⟩,
          ⟨some 17, none, .len true (.t 16)⟩,
          ⟨some 18, none, .bin .add (.t 14) (.t 17)⟩,
          ⟨some 3, none, .mov (.t 18)⟩])))))))))
    (.region false [
      ⟨some 35, none, .bin .add (.t 8) (.c (.int .i64 1))⟩,
      ⟨some 8, none, .mov (.t 35)⟩])))))))
  (.seq (.region false [
    ⟨some 36, none, .mov (.t 2)⟩,
    ⟨some 37, none, .mov (.t 3)⟩,
    ⟨some 2, none, .mov (.t 36)⟩,
    ⟨some 3, none, .mov (.t 37)⟩])
  (.ret)))
theorem ok_sizes : FnOk Try.prog 97 Try.f97 ac_sizes [.t 2, .t 3] 1 drawD := ⟨Try.func97, by decide +kernel, by kernel_rfl, by kernel_rfl, by decide +kernel⟩
theorem vc_sizes (P : Prim) (hP : P = std) (T T1 : CallT) (d : List Part) (hd1 : d.length ≤ 1600) (hd2 : ∀ p ∈ d, okP p) (rows : List (List V)) (hrows : rows = d.map encPart) (r1 r2 : Int) (hr1 : inF d = r1) (hr2 : outF d = r2)
    (R : S → Prop) (hR : ∀ s s', Ent s s' → Ret [.t 2, .t 3] [.int .i64 r1, .int .i64 r2] s' → R s) : awp P T T1 ac_sizes (S0 [.sl true 3 rows] Hp.emp) R (fun _ _ => False) R := by
  cbv
  refine ⟨{ y : Int × Int × Int × List Part × List Part // d = y.2.2.2.1 ++ y.2.2.2.2 ∧ y.2.2.1 = y.2.2.2.1.length ∧ y.1 = inF y.2.2.2.1 ∧ y.2.1 = outF y.2.2.2.1 }, fun y => [(2, .int .i64 y.1.1), (3, .int .i64 y.1.2.1), (6, .sl true 3 rows), (7, .int .i64 (P.rlen rows)), (8, .int .i64 y.1.2.2.1)], fun _ => [], fun y => y.1.2.2.2.2.length,
    ⟨_, Ent.refl _, ⟨(0, 0, 0, [], d), rfl, rfl, rfl, rfl⟩, ?_, ?_⟩, ?_⟩
  · cbv
  · cbv
  rintro ⟨⟨i, o, k, pre, rest⟩, hd, hk, hi, ho⟩
  dsimp only at hd hk hi ho
  cbv
  have hl : P.rlen rows = pre.length + rest.length := by subst hP; simp [std, hrows, hd]
  have hl2 : d.length = pre.length + rest.length := by rw [hd]; simp
  refine br_cases (fun h => ?_) (fun h => ?_)
  · rcases rest with _ | ⟨⟨kd, n, t⟩, rest⟩
    · (exfalso; clear hR; subst hP; simp [std, nc] at *; first | omega | grind)
    cbv
    have hrow := row_at hrows hd hk P hP
    have hp := okP_bd (hd2 ⟨kd, n, t⟩ (by simp [hd]))
    have hb1 := inF_bd pre (fun p hp => hd2 p (by simp [hd, hp]))
    have hb2 := outF_bd pre (fun p hp => hd2 p (by simp [hd, hp]))
    repeat' (first | (intro β; try cbv) | (refine And.intro (by assumption) ?_; try cbv) | (refine br_cases (fun h => ?_) (fun h => ?_) <;> try cbv) | (refine Exists.intro _ (And.intro (by assumption) ?_); try cbv) | (refine hc1 _ _ ?_; try cbv) | (refine hc2 _ _ ?_; try cbv) | (refine hc3 _ _ ?_; try cbv) | (refine hc4 _ _ ?_; try cbv) | (refine hc5 _ _ ?_; try cbv) | (refine hc6 _ _ ?_; try cbv) | (refine And.intro (by (clear hR; subst hP; simp [std, I64, nc] at * <;> first | omega | grind)) ?_; try cbv))
    all_goals
      refine ⟨_, Ent.refl _, ⟨(_, _, _, pre ++ [⟨kd, n, t⟩], rest), ?_⟩, ⟨rfl, rfl, rfl, rfl, rfl, trivial⟩, trivial, by simp⟩
      clear hR hrow; subst hP
      simp [std, nc, inF_app, outF_app, inF, outF] at *
      grind
  · cbv
    refine hR _ _ (Ent.refl _) ?_
    have : rest = [] := by
      cases rest with
      | nil => rfl
      | cons p rest => (exfalso; clear hR; subst hP; simp [std, nc] at *; first | omega | grind)
    subst this
    simp only [List.append_nil] at hd
    cbv
    rw [← hr1, ← hr2, hd, ← hi, ← ho]
theorem sp_sizes (d : List Part) (hd1 : d.length ≤ 1600) (hd2 : ∀ p ∈ d, okP p) : Spec Try.prog 97 [.sl true 3 (d.map encPart)] Hp.emp (Is (.tup [.int .i64 (inF d), .int .i64 (outF d)])) :=
  spec_pure dOk ok_sizes [.int .i64 (inF d), .int .i64 (outF d)] (.tup _ (by simp; exact ⟨.int _ _, .int _ _⟩)) fun R hR => vc_sizes std rfl _ _ d hd1 hd2 _ rfl _ _ rfl rfl R hR

/-! Check -/
def ac_check : AC := .seq (.region false [
    ⟨some 2, none, .mov (.c (.int .i64 0))⟩])
  (.seq (.seq (.region false [
    ⟨some 9, none, .mov (.t 0)⟩,
    ⟨some 10, none, .len false (.t 9)⟩,
    ⟨some 11, none, .bin .gtr (.t 10) (.c (.int .i64 1600))⟩])
  (.cond (.t 11)
    (.seq (.region false [
      ⟨some 2, none, .mov (.c (.int .i64 2))⟩])
    (.ret))
    (.skip)))
  (.seq (.region false [
    ⟨some 3, none, .mov (.c (.int .i64 0))⟩])
  (.seq (.seq (.region false [
    ⟨some 12, none, .mov (.t 0)⟩,
    ⟨some 13, none, .len false (.t 12)⟩,
    ⟨some 14, none, .mov (.c (.int .i64 0))⟩])
  (.block 0 (.loop (.seq (.region false [
      ⟨some 15, none, .bin .lss (.t 14) (.t 13)⟩])
    (.seq (.cond (.t 15)
      (.skip)
      (.exit 0))
    (.seq (.block 1 (.seq (.region false [
      ⟨some 16, none, .iaddr 3 (.t 12) (.t 14)⟩,
      ⟨some 17, none, .loadn 3 (.t 16)⟩,
      ⟨some 5, none, .alloc 108 [(.int .i64 0), (.int .i64 0), (.string ⟨#[]⟩)]⟩,
      ⟨none, none, .store 3 (.t 5) (.t 17)⟩])
    (.seq (.seq (.region false [
      ⟨some 18, none, .faddr 0 (.t 5)⟩,
      ⟨some 19, none, .load1 (.t 18)⟩,
      ⟨some 20, none, .mov (.t 3)⟩,
      ⟨some 21, none, .bin .eql (.t 19) (.t 20)⟩,
      ⟨some 22, none, .mov (.t 21)⟩,
      ⟨some 23, some (22, false), .mov (.t 3)⟩,
      ⟨some 24, some (22, false), .bin .eql (.t 23) (.c (.int .i64 3))⟩,
      ⟨some 25, some (22, false), .mov (.t 24)⟩,
      ⟨some 26, some (25, true), .faddr 0 (.t 5)⟩,
      ⟨some 27, some (25, true), .load1 (.t 26)⟩,
      ⟨some 28, some (25, true), .bin .eql (.t 27) (.c (.int .i64 2))⟩,
      ⟨some 29, some (22, false), .pick (.t 25) (.t 28) (.c (.bool false))⟩,
      ⟨some 30, none, .pick (.t 22) (.c (.bool true)) (.t 29)⟩])
    (.cond (.t 30)
      (.seq (.region false [
        ⟨some 2, none, .mov (.c (.int .i64 3))⟩])
      (.ret))
      (.skip)))
    (.seq (.seq (.region false [
      ⟨some 31, none, .loadn 3 (.t 5)⟩,
      ⟨some 32, none, .call 112 [(.t 31)]⟩,
      ⟨some 6, none, .mov (.t 32)⟩])
    (.seq (.region false [
      ⟨some 33, none, .mov (.t 6)⟩,
      ⟨some 34, none, .bin .neq (.t 33) (.c (.int .i64 0))⟩])
    (.cond (.t 34)
      (.seq (.region false [
        ⟨some 35, none, .mov (.t 6)⟩,
        ⟨some 2, none, .mov (.t 35)⟩])
      (.ret))
      (.skip))))
    (.region false [
      ⟨some 36, none, .faddr 0 (.t 5)⟩,
      ⟨some 37, none, .load1 (.t 36)⟩,
      ⟨some 3, none, .mov (.t 37)⟩])))))
    (.region false [
      ⟨some 38, none, .bin .add (.t 14) (.c (.int .i64 1))⟩,
      ⟨some 14, none, .mov (.t 38)⟩])))))))
  (.seq (.seq (.region false [
    ⟨some 40, none, .mov (.t 0)⟩,
    ⟨some 41, none, .call 97 [(.t 40)]⟩,
    ⟨some 39, none, .mov (.t 41)⟩,
    ⟨some 42, none, .ext 0 (.t 39)⟩,
    ⟨some 43, none, .ext 1 (.t 39)⟩,
    ⟨some 7, none, .mov (.t 42)⟩,
    ⟨some 8, none, .mov (.t 43)⟩])
  (.seq (.region false [
    ⟨some 44, none, .mov (.t 7)⟩,
    ⟨some 45, none, .mov (.t 8)⟩,
    ⟨some 46, none, .mm true (.t 44) (.t 45)⟩,
    ⟨some 47, none, .bin .gtr (.t 46) (.c (.int .i64 500))⟩])
  (.cond (.t 47)
    (.seq (.region false [
      ⟨some 2, none, .mov (.c (.int .i64 2))⟩])
    (.ret))
    (.skip))))
  (.seq (.region false [
    ⟨some 2, none, .mov (.c (.int .i64 0))⟩])
  (.ret))))))
theorem ok_check : FnOk Try.prog 89 Try.f89 ac_check [.t 2] 1 drawD := ⟨Try.func89, by decide +kernel, by kernel_rfl, by kernel_rfl, by decide +kernel⟩
theorem vc_check (P : Prim) (hP : P = std) (T T1 : CallT) (d : List Part) (hd1 : d.length ≤ maxLen) (rows : List (List V)) (hrows : rows = d.map encPart) (r : Int) (hr : checkF d = r)
    (fF : Int → Int → List UInt8 → Int) (hfF : ∀ k n t, fF k n t = fitF ⟨k, n, t⟩) (hc1 : ∀ {k n t}, Ans T 112 [.agg [.int .i64 k, .int .i64 n, .str t]] (.int .i64 (fF k n t)))
    (a b : Int) (ha : a = inF d) (hb : b = outF d) (hc2 : d.length ≤ 1600 → chk 0 d = 0 → Ans T 97 [.sl true 3 rows] (.tup [.int .i64 a, .int .i64 b]))
    (R : S → Prop) (hR : ∀ s s', Ent s s' → Ret [.t 2] [.int .i64 r] s' → R s) : awp P T T1 ac_check (S0 [.sl true 3 rows] Hp.emp) R (fun _ _ => False) R := by
  cbv
  have hl : P.rlen rows = d.length := by subst hP; simp [std, hrows]
  refine br_cases (fun h => ?_) (fun h => ?_)
  · cbv
    refine hR _ _ (Ent.refl _) ?_
    cbv
    clear hR hc1 hc2; subst hP; subst hr; simp [std, nc] at *; grind [checkF]
  cbv
  have hd2 : d.length ≤ 1600 := by clear hR hc1 hc2; subst hP; simp [std, nc] at *; omega
  refine ⟨{ y : Int × Int × List Part × List Part // d = y.2.2.1 ++ y.2.2.2 ∧ y.2.1 = y.2.2.1.length ∧ chk 0 d = chk y.1 y.2.2.2 }, fun y => [(0, .sl true 3 rows), (3, .int .i64 y.1.1), (12, .sl true 3 rows), (13, .int .i64 (P.rlen rows)), (14, .int .i64 y.1.2.1)], fun _ => [], fun y => y.1.2.2.2.length,
    ⟨_, Ent.refl _, ⟨(0, 0, [], d), rfl, rfl, rfl⟩, ?_, ?_⟩, ?_⟩
  · cbv
  · cbv
  rintro ⟨⟨last, k, pre, rest⟩, hd, hk, hc⟩
  dsimp only at hd hk hc
  cbv
  have hl2 : P.rlen rows = pre.length + rest.length := by subst hP; simp [std, hrows, hd]
  refine br_cases (fun h => ?_) (fun h => ?_)
  · rcases rest with _ | ⟨⟨kd, n, t⟩, rest⟩
    · clear hc1 hc2; (exfalso; clear hR; subst hP; simp [std, nc] at *; first | omega | grind)
    cbv
    have hrow := row_at hrows hd hk P hP
    have hpl : pre.length ≤ 1600 := by rw [hd] at hd2; simp at hd2; omega
    refine ⟨by clear hc1 hc2; (clear hR; subst hP; simp [std, I64, nc] at * <;> first | omega | grind), _, hrow, ?_⟩
    cbv
    intro β
    cbv
    have hx := hfF kd n t
    repeat' (first | (intro β; try cbv) | (refine And.intro (by assumption) ?_; try cbv) | (refine br_cases (fun h => ?_) (fun h => ?_) <;> try cbv) | (refine Exists.intro _ (And.intro (by assumption) ?_); try cbv) | (refine hc1 _ _ ?_; try cbv) | (refine hc2 _ _ ?_; try cbv) | (refine hc3 _ _ ?_; try cbv) | (refine hc4 _ _ ?_; try cbv) | (refine hc5 _ _ ?_; try cbv) | (refine hc6 _ _ ?_; try cbv) | (refine And.intro (by (clear hR; subst hP; simp [std, I64, nc] at * <;> first | omega | grind)) ?_; try cbv))
    all_goals first
      | (refine hR _ _ (Ent.refl _) ?_
         cbv
         clear hR hc1 hc2 hrow hfF; subst hP; subst hr; simp [std, nc, chk] at *; grind [checkF])
      | (refine ⟨_, Ent.refl _, ⟨(_, _, pre ++ [⟨kd, n, t⟩], rest), ?_⟩, ⟨rfl, rfl, rfl, rfl, rfl, trivial⟩, trivial, by simp⟩
         clear hR hrow hc1 hc2 hfF; subst hP
         simp [std, nc, chk] at *
         grind)
  · have : rest = [] := by
      cases rest with
      | nil => rfl
      | cons p rest => clear hc1 hc2; (exfalso; clear hR; subst hP; simp [std, nc] at *; first | omega | grind)
    subst this
    have hc0 : chk 0 d = 0 := hc
    have hc3 := hc2 hd2 hc0
    clear hc2
    cbv
    repeat' (first | (intro β; try cbv) | (refine And.intro (by assumption) ?_; try cbv) | (refine br_cases (fun h => ?_) (fun h => ?_) <;> try cbv) | (refine Exists.intro _ (And.intro (by assumption) ?_); try cbv) | (refine hc1 _ _ ?_; try cbv) | (refine hc2 _ _ ?_; try cbv) | (refine hc3 _ _ ?_; try cbv) | (refine hc4 _ _ ?_; try cbv) | (refine hc5 _ _ ?_; try cbv) | (refine hc6 _ _ ?_; try cbv) | (refine And.intro (by (clear hR; subst hP; simp [std, I64, nc] at * <;> first | omega | grind)) ?_; try cbv))
    all_goals
      refine hR _ _ (Ent.refl _) ?_
      cbv
      clear hR hc1 hc3; subst hP; subst hr; simp [std, nc] at *; grind [checkF]
theorem sp_check (d : List Part) (hd1 : d.length ≤ maxLen) : Spec Try.prog 89 [.sl true 3 (d.map encPart)] Hp.emp (Is (.int .i64 (checkF d))) :=
  spec_pure dOk ok_check [.int .i64 (checkF d)] (.int _ _) fun R hR => vc_check std rfl _ _ d hd1 _ rfl _ rfl (fun k n t => fitF ⟨k, n, t⟩) (fun _ _ _ => rfl) (ansW (sp_fit ⟨_, _, _⟩) (fun h => .cons (.same _) .nil) rfl) _ _ rfl rfl
    (fun h1 h2 => ansW (sp_sizes d h1 (chk_ok 0 d h2)) (fun h => .cons (.same _) .nil) rfl) R hR

/-! Sizes -/
def ac_szs : AC := .seq (.region false [
    ⟨some 2, none, .mov (.c (.int .i64 0))⟩,
    ⟨some 3, none, .mov (.c (.int .i64 0))⟩,
    ⟨some 4, none, .mov (.c (.int .i64 0))⟩])
  (.seq (.seq (.region false [
    ⟨some 8, none, .mov (.t 0)⟩,
    ⟨some 9, none, .call 89 [(.t 8)]⟩,
    ⟨some 5, none, .mov (.t 9)⟩])
  (.seq (.region false [
    ⟨some 10, none, .mov (.t 5)⟩,
    ⟨some 11, none, .bin .neq (.t 10) (.c (.int .i64 0))⟩])
  (.cond (.t 11)
    (.seq (.region false [
      ⟨some 12, none, .mov (.t 5)⟩,
      ⟨some 2, none, .mov (.c (.int .i64 0))⟩,
      ⟨some 3, none, .mov (.c (.int .i64 0))⟩,
      ⟨some 4, none, .mov (.t 12)⟩])
    (.ret))
    (.skip))))
  (.seq (.region false [
    ⟨some 14, none, .mov (.t 0)⟩,
    ⟨some 15, none, .call 97 [(.t 14)]⟩,
    ⟨some 13, none, .mov (.t 15)⟩,
    ⟨some 16, none, .ext 0 (.t 13)⟩,
    ⟨some 17, none, .ext 1 (.t 13)⟩,
    ⟨some 6, none, .mov (.t 16)⟩,
    ⟨some 7, none, .mov (.t 17)⟩])
  (.seq (.region false [
    ⟨some 18, none, .mov (.t 6)⟩,
    ⟨some 19, none, .mov (.t 7)⟩,
    ⟨some 2, none, .mov (.t 18)⟩,
    ⟨some 3, none, .mov (.t 19)⟩,
    ⟨some 4, none, .mov (.c (.int .i64 0))⟩])
  (.ret))))
theorem ok_szs : FnOk Try.prog 67 Try.f67 ac_szs [.t 2, .t 3, .t 4] 1 drawD := ⟨Try.func67, by decide +kernel, by kernel_rfl, by kernel_rfl, by decide +kernel⟩
def szF (d : List Part) : Int × Int × Int := if checkF d = 0 then (inF d, outF d, 0) else (0, 0, checkF d)
theorem checkF_ok {d : List Part} (h : checkF d = 0) : d.length ≤ 1600 ∧ chk 0 d = 0 ∧ inF d ≤ 500 ∧ outF d ≤ 500 := by
  unfold checkF at h
  grind
theorem vc_szs (P : Prim) (hP : P = std) (T T1 : CallT) (d : List Part) (rows : List (List V)) (r1 r2 r3 : Int) (hr : szF d = (r1, r2, r3))
    (c : Int) (hc : checkF d = c) (hc1 : Ans T 89 [.sl true 3 rows] (.int .i64 c))
    (a b : Int) (ha : a = inF d) (hb : b = outF d) (hc2 : c = 0 → Ans T 97 [.sl true 3 rows] (.tup [.int .i64 a, .int .i64 b]))
    (R : S → Prop) (hR : ∀ s s', Ent s s' → Ret [.t 2, .t 3, .t 4] [.int .i64 r1, .int .i64 r2, .int .i64 r3] s' → R s) : awp P T T1 ac_szs (S0 [.sl true 3 rows] Hp.emp) R (fun _ _ => False) R := by
  cbv
  refine hc1 _ _ ?_
  cbv
  refine br_cases (fun h => ?_) (fun h => ?_)
  · repeat' (first | (intro β; try cbv) | (refine And.intro (by assumption) ?_; try cbv) | (refine br_cases (fun h => ?_) (fun h => ?_) <;> try cbv) | (refine Exists.intro _ (And.intro (by assumption) ?_); try cbv) | (refine hc1 _ _ ?_; try cbv) | (refine hc2 _ _ ?_; try cbv) | (refine hc3 _ _ ?_; try cbv) | (refine hc4 _ _ ?_; try cbv) | (refine hc5 _ _ ?_; try cbv) | (refine hc6 _ _ ?_; try cbv) | (refine And.intro (by (clear hR; subst hP; simp [std, I64, nc] at * <;> first | omega | grind)) ?_; try cbv))
    all_goals
      refine hR _ _ (Ent.refl _) ?_
      cbv
      clear hR hc1 hc2; subst hP; simp [std, nc] at *; grind [szF]
  · have hc0 : c = 0 := by clear hR hc1 hc2; subst hP; simp [std, nc] at *; omega
    have hc3 := hc2 hc0
    repeat' (first | (intro β; try cbv) | (refine And.intro (by assumption) ?_; try cbv) | (refine br_cases (fun h => ?_) (fun h => ?_) <;> try cbv) | (refine Exists.intro _ (And.intro (by assumption) ?_); try cbv) | (refine hc1 _ _ ?_; try cbv) | (refine hc2 _ _ ?_; try cbv) | (refine hc3 _ _ ?_; try cbv) | (refine hc4 _ _ ?_; try cbv) | (refine hc5 _ _ ?_; try cbv) | (refine hc6 _ _ ?_; try cbv) | (refine And.intro (by (clear hR; subst hP; simp [std, I64, nc] at * <;> first | omega | grind)) ?_; try cbv))
    all_goals
      refine hR _ _ (Ent.refl _) ?_
      cbv
      clear hR hc1 hc2 hc3; subst hP; simp [std, nc] at *; grind [szF]
theorem sp_szs (d : List Part) (hd1 : d.length ≤ maxLen) : Spec Try.prog 67 [.sl true 3 (d.map encPart)] Hp.emp (Is (.tup [.int .i64 (szF d).1, .int .i64 (szF d).2.1, .int .i64 (szF d).2.2])) :=
  spec_pure dOk ok_szs [.int .i64 (szF d).1, .int .i64 (szF d).2.1, .int .i64 (szF d).2.2] (.tup _ (by simp; exact ⟨.int _ _, .int _ _, .int _ _⟩)) fun R hR => vc_szs std rfl _ _ d _ _ _ _ rfl _ rfl (ansW (sp_check d hd1) (fun h => .cons (.same _) .nil) rfl) _ _ rfl rfl
    (fun h1 => ansW (sp_sizes d (checkF_ok h1).1 (chk_ok 0 d (checkF_ok h1).2.1)) (fun h => .cons (.same _) .nil) rfl) R hR

/-! the document's: In, Out, Delta -/
def ac_rin : AC := .seq (.region false [
    ⟨some 2, none, .mov (.c (.int .i64 0))⟩])
  (.seq (.region false [
    ⟨some 3, none, .mov (.c (.int .i64 0))⟩])
  (.seq (.seq (.region false [
    ⟨some 6, none, .mov (.t 0)⟩,
    ⟨some 7, none, .len false (.t 6)⟩,
    ⟨some 8, none, .mov (.c (.int .i64 0))⟩])
  (.block 0 (.loop (.seq (.region false [
      ⟨some 9, none, .bin .lss (.t 8) (.t 7)⟩])
    (.seq (.cond (.t 9)
      (.skip)
      (.exit 0))
    (.seq (.block 1 (.seq (.region false [
      ⟨some 10, none, .iaddr 3 (.t 6) (.t 8)⟩,
      ⟨some 11, none, .loadn 3 (.t 10)⟩,
      ⟨some 5, none, .alloc 108 [(.int .i64 0), (.int .i64 0), (.string ⟨#[]⟩)]⟩,
      ⟨none, none, .store 3 (.t 5) (.t 11)⟩])
    (.region false [
      ⟨some 12, none, .mov (.t 3)⟩,
      ⟨some 13, none, .faddr 1 (.t 5)⟩,
      ⟨some 14, none, .load1 (.t 13)⟩,
      ⟨some 15, none, .bin .add (.t 12) (.t 14)⟩,
      ⟨some 3, none, .mov (.t 15)⟩])))
    (.region false [
      ⟨some 16, none, .bin .add (.t 8) (.c (.int .i64 1))⟩,
      ⟨some 8, none, .mov (.t 16)⟩])))))))
  (.seq (.region false [
    ⟨some 17, none, .mov (.t 3)⟩,
    ⟨some 2, none, .mov (.t 17)⟩])
  (.ret))))
theorem ok_rin : FnOk Try.prog 124 Try.f124 ac_rin [.t 2] 1 drawD := ⟨Try.func124, by decide +kernel, by kernel_rfl, by kernel_rfl, by decide +kernel⟩
theorem vc_rin (P : Prim) (hP : P = std) (T T1 : CallT) (d : List Part) (hd1 : d.length ≤ 1600) (hd2 : ∀ p ∈ d, okP p) (rows : List (List V)) (hrows : rows = d.map encPart) (r1 : Int) (hr1 : inF d = r1)
    (R : S → Prop) (hR : ∀ s s', Ent s s' → Ret [.t 2] [.int .i64 r1] s' → R s) : awp P T T1 ac_rin (S0 [.sl true 3 rows] Hp.emp) R (fun _ _ => False) R := by
  cbv
  refine ⟨{ y : Int × Int × List Part × List Part // d = y.2.2.1 ++ y.2.2.2 ∧ y.2.1 = y.2.2.1.length ∧ y.1 = inF y.2.2.1 }, fun y => [(3, .int .i64 y.1.1), (6, .sl true 3 rows), (7, .int .i64 (P.rlen rows)), (8, .int .i64 y.1.2.1)], fun _ => [], fun y => y.1.2.2.2.length,
    ⟨_, Ent.refl _, ⟨(0, 0, [], d), rfl, rfl, rfl⟩, ?_, ?_⟩, ?_⟩
  · cbv
  · cbv
  rintro ⟨⟨i, k, pre, rest⟩, hd, hk, hi⟩
  dsimp only at hd hk hi
  cbv
  have hl : P.rlen rows = pre.length + rest.length := by subst hP; simp [std, hrows, hd]
  have hl2 : d.length = pre.length + rest.length := by rw [hd]; simp
  refine br_cases (fun h => ?_) (fun h => ?_)
  · rcases rest with _ | ⟨⟨kd, n, t⟩, rest⟩
    · (exfalso; clear hR; subst hP; simp [std, nc] at *; first | omega | grind)
    cbv
    have hrow := row_at hrows hd hk P hP
    have hp := okP_bd (hd2 ⟨kd, n, t⟩ (by simp [hd]))
    have hb1 := inF_bd pre (fun p hp => hd2 p (by simp [hd, hp]))
    repeat' (first | (intro β; try cbv) | (refine And.intro (by assumption) ?_; try cbv) | (refine br_cases (fun h => ?_) (fun h => ?_) <;> try cbv) | (refine Exists.intro _ (And.intro (by assumption) ?_); try cbv) | (refine hc1 _ _ ?_; try cbv) | (refine hc2 _ _ ?_; try cbv) | (refine hc3 _ _ ?_; try cbv) | (refine hc4 _ _ ?_; try cbv) | (refine hc5 _ _ ?_; try cbv) | (refine hc6 _ _ ?_; try cbv) | (refine And.intro (by (clear hR; subst hP; simp [std, I64, nc] at * <;> first | omega | grind)) ?_; try cbv))
    all_goals
      refine ⟨_, Ent.refl _, ⟨(_, _, pre ++ [⟨kd, n, t⟩], rest), ?_⟩, ⟨rfl, rfl, rfl, rfl, trivial⟩, trivial, by simp⟩
      clear hR hrow; subst hP
      simp [std, nc, inF_app, inF] at *
      grind
  · cbv
    refine hR _ _ (Ent.refl _) ?_
    have : rest = [] := by
      cases rest with
      | nil => rfl
      | cons p rest => (exfalso; clear hR; subst hP; simp [std, nc] at *; first | omega | grind)
    subst this
    simp only [List.append_nil] at hd
    cbv
    rw [← hr1, hd, ← hi]
theorem sp_rin (d : List Part) (hd1 : d.length ≤ 1600) (hd2 : ∀ p ∈ d, okP p) : Spec Try.prog 124 [.sl true 3 (d.map encPart)] Hp.emp (Is (.int .i64 (inF d))) :=
  spec_pure dOk ok_rin [.int .i64 (inF d)] (.int _ _) fun R hR => vc_rin std rfl _ _ d hd1 hd2 _ rfl _ rfl R hR

def ac_rout : AC := .seq (.region false [
    ⟨some 2, none, .mov (.c (.int .i64 0))⟩])
  (.seq (.region false [
    ⟨some 3, none, .mov (.c (.int .i64 0))⟩])
  (.seq (.seq (.region false [
    ⟨some 6, none, .mov (.t 0)⟩,
    ⟨some 7, none, .len false (.t 6)⟩,
    ⟨some 8, none, .mov (.c (.int .i64 0))⟩])
  (.block 0 (.loop (.seq (.region false [
      ⟨some 9, none, .bin .lss (.t 8) (.t 7)⟩])
    (.seq (.cond (.t 9)
      (.skip)
      (.exit 0))
    (.seq (.block 1 (.seq (.region false [
      ⟨some 10, none, .iaddr 3 (.t 6) (.t 8)⟩,
      ⟨some 11, none, .loadn 3 (.t 10)⟩,
      ⟨some 5, none, .alloc 108 [(.int .i64 0), (.int .i64 0), (.string ⟨#[]⟩)]⟩,
      ⟨none, none, .store 3 (.t 5) (.t 11)⟩])
    (.seq (.region false [
      ⟨some 12, none, .faddr 0 (.t 5)⟩,
      ⟨some 13, none, .load1 (.t 12)⟩,
      ⟨some 14, none, .bin .neq (.t 13) (.c (.int .i64 3))⟩])
    (.cond (.t 14)
      (.region false [
        ⟨some 15, none, .mov (.t 3)⟩,
        ⟨some 16, none, .faddr 1 (.t 5)⟩,
        ⟨some 17, none, .load1 (.t 16)⟩,
        ⟨some 18, none, .faddr 2 (.t 5)⟩,
        ⟨some 19, none, .load1 (.t 18)⟩,
        ⟨some 20, none, .len true (.t 19)⟩,
        ⟨some 21, none, .bin .add (.t 17) (.t 20)⟩,
        ⟨some 22, none, .bin .add (.t 15) (.t 21)⟩,
        ⟨some 3, none, .mov (.t 22)⟩])
      (.skip)))))
    (.region false [
      ⟨some 23, none, .bin .add (.t 8) (.c (.int .i64 1))⟩,
      ⟨some 8, none, .mov (.t 23)⟩])))))))
  (.seq (.region false [
    ⟨some 24, none, .mov (.t 3)⟩,
    ⟨some 2, none, .mov (.t 24)⟩])
  (.ret))))
theorem ok_rout : FnOk Try.prog 125 Try.f125 ac_rout [.t 2] 1 drawD := ⟨Try.func125, by decide +kernel, by kernel_rfl, by kernel_rfl, by decide +kernel⟩
theorem vc_rout (P : Prim) (hP : P = std) (T T1 : CallT) (d : List Part) (hd1 : d.length ≤ 1600) (hd2 : ∀ p ∈ d, okP p) (rows : List (List V)) (hrows : rows = d.map encPart) (r1 : Int) (hr1 : outF d = r1)
    (R : S → Prop) (hR : ∀ s s', Ent s s' → Ret [.t 2] [.int .i64 r1] s' → R s) : awp P T T1 ac_rout (S0 [.sl true 3 rows] Hp.emp) R (fun _ _ => False) R := by
  cbv
  refine ⟨{ y : Int × Int × List Part × List Part // d = y.2.2.1 ++ y.2.2.2 ∧ y.2.1 = y.2.2.1.length ∧ y.1 = outF y.2.2.1 }, fun y => [(3, .int .i64 y.1.1), (6, .sl true 3 rows), (7, .int .i64 (P.rlen rows)), (8, .int .i64 y.1.2.1)], fun _ => [], fun y => y.1.2.2.2.length,
    ⟨_, Ent.refl _, ⟨(0, 0, [], d), rfl, rfl, rfl⟩, ?_, ?_⟩, ?_⟩
  · cbv
  · cbv
  rintro ⟨⟨i, k, pre, rest⟩, hd, hk, hi⟩
  dsimp only at hd hk hi
  cbv
  have hl : P.rlen rows = pre.length + rest.length := by subst hP; simp [std, hrows, hd]
  have hl2 : d.length = pre.length + rest.length := by rw [hd]; simp
  refine br_cases (fun h => ?_) (fun h => ?_)
  · rcases rest with _ | ⟨⟨kd, n, t⟩, rest⟩
    · (exfalso; clear hR; subst hP; simp [std, nc] at *; first | omega | grind)
    cbv
    have hrow := row_at hrows hd hk P hP
    have hp := okP_bd (hd2 ⟨kd, n, t⟩ (by simp [hd]))
    have hb1 := outF_bd pre (fun p hp => hd2 p (by simp [hd, hp]))
    repeat' (first | (intro β; try cbv) | (refine And.intro (by assumption) ?_; try cbv) | (refine br_cases (fun h => ?_) (fun h => ?_) <;> try cbv) | (refine Exists.intro _ (And.intro (by assumption) ?_); try cbv) | (refine hc1 _ _ ?_; try cbv) | (refine hc2 _ _ ?_; try cbv) | (refine hc3 _ _ ?_; try cbv) | (refine hc4 _ _ ?_; try cbv) | (refine hc5 _ _ ?_; try cbv) | (refine hc6 _ _ ?_; try cbv) | (refine And.intro (by (clear hR; subst hP; simp [std, I64, nc] at * <;> first | omega | grind)) ?_; try cbv))
    all_goals
      refine ⟨_, Ent.refl _, ⟨(_, _, pre ++ [⟨kd, n, t⟩], rest), ?_⟩, ⟨rfl, rfl, rfl, rfl, trivial⟩, trivial, by simp⟩
      clear hR hrow; subst hP
      simp [std, nc, outF_app, outF] at *
      grind
  · cbv
    refine hR _ _ (Ent.refl _) ?_
    have : rest = [] := by
      cases rest with
      | nil => rfl
      | cons p rest => (exfalso; clear hR; subst hP; simp [std, nc] at *; first | omega | grind)
    subst this
    simp only [List.append_nil] at hd
    cbv
    rw [← hr1, hd, ← hi]
theorem sp_rout (d : List Part) (hd1 : d.length ≤ 1600) (hd2 : ∀ p ∈ d, okP p) : Spec Try.prog 125 [.sl true 3 (d.map encPart)] Hp.emp (Is (.int .i64 (outF d))) :=
  spec_pure dOk ok_rout [.int .i64 (outF d)] (.int _ _) fun R hR => vc_rout std rfl _ _ d hd1 hd2 _ rfl _ rfl R hR
end Go.Proofs.Ytobngncjflogcaa.AM

/-
  The document's Delta, and the law PartChecks.
-/
set_option linter.unusedVariables false
set_option linter.unusedSimpArgs false
namespace Go.Proofs.Ytobngncjflogcaa.AM
open Go
set_option maxRecDepth 100000
set_option maxHeartbeats 2000000
def lk (pre : List Part) : Int := match pre.getLast? with
  | some p => p.kind
  | none => 0
theorem lk_app (pre : List Part) (p : Part) : lk (pre ++ [p]) = p.kind := by simp [lk]
theorem chk_step (pre : List Part) (p : Part) (rest : List Part) (h : ¬ (pre ≠ [] ∧ (lk pre = p.kind ∨ lk pre = 3 ∧ p.kind = 2))) (hf : fitF p = 0) : chk (lk pre) (p :: rest) = chk (lk (pre ++ [p])) rest := by
  rw [lk_app, chk]
  by_cases hp : pre = []
  · subst hp
    have : lk [] = 0 := rfl
    rw [this]
    unfold fitF at hf
    grind [fitF]
  · grind
def ac_rdelta : AC := .seq (.region false [
    ⟨some 2, none, .mov (.c (.int .i64 0))⟩])
  (.seq (.seq (.region false [
    ⟨some 6, none, .mov (.t 0)⟩,
    ⟨some 7, none, .len false (.t 6)⟩,
    ⟨some 8, none, .bin .gtr (.t 7) (.c (.int .i64 1600))⟩])
  (.cond (.t 8)
    (.seq (.region false [
      ⟨some 2, none, .mov (.c (.int .i64 2))⟩])
    (.ret))
    (.skip)))
  (.seq (.seq (.region false [
    ⟨some 9, none, .mov (.t 0)⟩,
    ⟨some 10, none, .len false (.t 9)⟩,
    ⟨some 11, none, .mov (.c (.int .i64 0))⟩])
  (.block 0 (.loop (.seq (.region false [
      ⟨some 12, none, .bin .lss (.t 11) (.t 10)⟩])
    (.seq (.cond (.t 12)
      (.skip)
      (.exit 0))
    (.seq (.block 1 (.seq (.region false [
      ⟨some 13, none, .mov (.t 11)⟩,
      ⟨some 14, none, .iaddr 3 (.t 9) (.t 11)⟩,
      ⟨some 15, none, .loadn 3 (.t 14)⟩,
      ⟨some 4, none, .alloc 108 [(.int .i64 0), (.int .i64 0), (.string ⟨#[]⟩)]⟩,
      ⟨some 3, none, .mov (.t 13)⟩,
      ⟨none, none, .store 3 (.t 4) (.t 15)⟩])
    (.seq (.seq (.region true [
      ⟨some 16, none, .mov (.t 3)⟩,
      ⟨some 17, none, .bin .gtr (.t 16) (.c (.int .i64 0))⟩,
      ⟨some 18, none, .mov (.t 17)⟩,
      ⟨some 19, some (18, true), .mov (.t 0)⟩,
      ⟨some 20, some (18, true), .mov (.t 3)⟩,
      ⟨some 21, some (18, true), .bin .sub (.t 20) (.c (.int .i64 1))⟩,
      ⟨some 22, some (18, true), .iaddr 3 (.t 19) (.t 21)⟩,
      ⟨some 23, some (18, true), .faddr 0 (.t 22)⟩,
      ⟨some 24, some (18, true), .load1 (.t 23)⟩,
      ⟨some 25, some (18, true), .faddr 0 (.t 4)⟩,
      ⟨some 26, some (18, true), .load1 (.t 25)⟩,
      ⟨some 27, some (18, true), .bin .eql (.t 24) (.t 26)⟩,
      ⟨some 28, some (18, true), .mov (.t 27)⟩,
      ⟨some 29, some (28, false), .mov (.t 0)⟩,
      ⟨some 30, some (28, false), .mov (.t 3)⟩,
      ⟨some 31, some (28, false), .bin .sub (.t 30) (.c (.int .i64 1))⟩,
      ⟨some 32, some (28, false), .iaddr 3 (.t 29) (.t 31)⟩,
      ⟨some 33, some (28, false), .faddr 0 (.t 32)⟩,
      ⟨some 34, some (28, false), .load1 (.t 33)⟩,
      ⟨some 35, some (28, false), .bin .eql (.t 34) (.c (.int .i64 3))⟩,
      ⟨some 36, some (28, false), .mov (.t 35)⟩,
      ⟨some 37, some (36, true), .faddr 0 (.t 4)⟩,
      ⟨some 38, some (36, true), .load1 (.t 37)⟩,
      ⟨some 39, some (36, true), .bin .eql (.t 38) (.c (.int .i64 2))⟩,
      ⟨some 40, some (28, false), .pick (.t 36) (.t 39) (.c (.bool false))⟩,
      ⟨some 41, some (18, true), .pick (.t 28) (.c (.bool true)) (.t 40)⟩,
      ⟨some 42, none, .pick (.t 18) (.t 41) (.c (.bool false))⟩])
    (.cond (.t 42)
      (.seq (.region false [
        ⟨some 2, none, .mov (.c (.int .i64 3))⟩])
      (.ret))
      (.skip)))
    (.seq (.region false [
      ⟨some 43, none, .loadn 3 (.t 4)⟩,
      ⟨some 44, none, .call 123 [(.t 43)]⟩,
      ⟨some 5, none, .mov (.t 44)⟩])
    (.seq (.region false [
      ⟨some 45, none, .mov (.t 5)⟩,
      ⟨some 46, none, .bin .neq (.t 45) (.c (.int .i64 0))⟩])
    (.cond (.t 46)
      (.seq (.region false [
        ⟨some 47, none, .mov (.t 5)⟩,
        ⟨some 2, none, .mov (.t 47)⟩])
      (.ret))
      (.skip)))))))
    (.region false [
      ⟨some 48, none, .bin .add (.t 11) (.c (.int .i64 1))⟩,
      ⟨some 11, none, .mov (.t 48)⟩])))))))
  (.seq (.seq (.region false [
    ⟨some 49, none, .mov (.t 0)⟩,
    ⟨some 50, none, .call 124 [(.t 49)]⟩,
    ⟨some 51, none, .bin .gtr (.t 50) (.c (.int .i64 500))⟩,
    ⟨some 52, none, .mov (.t 51)⟩,
    ⟨some 53, some (52, false), .mov (.t 0)⟩,
    ⟨some 54, some (52, false), .call 125 [(.t 53)]⟩,
    ⟨some 55, some (52, false), .bin .gtr (.t 54) (.c (.int .i64 500))⟩,
    ⟨some 56, none, .pick (.t 52) (.c (.bool true)) (.t 55)⟩])
  (.cond (.t 56)
    (.seq (.region false [
      ⟨some 2, none, .mov (.c (.int .i64 2))⟩])
    (.ret))
    (.skip)))
  (.seq (.region false [
    ⟨some 2, none, .mov (.c (.int .i64 0))⟩])
  (.ret)))))
theorem ok_rdelta : FnOk Try.prog 104 Try.f104 ac_rdelta [.t 2] 1 drawD := ⟨Try.func104, by decide +kernel, by kernel_rfl, by kernel_rfl, by decide +kernel⟩
theorem vc_rdelta (P : Prim) (hP : P = std) (T T1 : CallT) (d : List Part) (hd1 : d.length ≤ maxLen) (rows : List (List V)) (hrows : rows = d.map encPart) (r : Int) (hr : checkF d = r)
    (fF : Int → Int → List UInt8 → Int) (hfF : ∀ k n t, fF k n t = fitF ⟨k, n, t⟩) (hc1 : ∀ {k n t}, Ans T 123 [.agg [.int .i64 k, .int .i64 n, .str t]] (.int .i64 (fF k n t)))
    (a b : Int) (ha : a = inF d) (hb : b = outF d) (hc2 : d.length ≤ 1600 → chk 0 d = 0 → Ans T 124 [.sl true 3 rows] (.int .i64 a)) (hc3 : d.length ≤ 1600 → chk 0 d = 0 → Ans T 125 [.sl true 3 rows] (.int .i64 b))
    (R : S → Prop) (hR : ∀ s s', Ent s s' → Ret [.t 2] [.int .i64 r] s' → R s) : awp P T T1 ac_rdelta (S0 [.sl true 3 rows] Hp.emp) R (fun _ _ => False) R := by
  cbv
  have hl : P.rlen rows = d.length := by subst hP; simp [std, hrows]
  refine br_cases (fun h => ?_) (fun h => ?_)
  · cbv
    refine hR _ _ (Ent.refl _) ?_
    cbv
    clear hR hc1 hc2 hc3; subst hP; subst hr; simp [std, nc] at *; grind [checkF]
  cbv
  have hd2 : d.length ≤ 1600 := by clear hR hc1 hc2 hc3; subst hP; simp [std, nc] at *; omega
  refine ⟨{ y : Int × List Part × List Part // d = y.2.1 ++ y.2.2 ∧ y.1 = y.2.1.length ∧ chk 0 d = chk (lk y.2.1) y.2.2 }, fun y => [(0, .sl true 3 rows), (9, .sl true 3 rows), (10, .int .i64 (P.rlen rows)), (11, .int .i64 y.1.1)], fun _ => [], fun y => y.1.2.2.length,
    ⟨_, Ent.refl _, ⟨(0, [], d), rfl, rfl, rfl⟩, ?_, ?_⟩, ?_⟩
  · cbv
  · cbv
  rintro ⟨⟨k, pre, rest⟩, hd, hk, hc⟩
  dsimp only at hd hk hc
  cbv
  have hl2 : P.rlen rows = pre.length + rest.length := by subst hP; simp [std, hrows, hd]
  refine br_cases (fun h => ?_) (fun h => ?_)
  · rcases rest with _ | ⟨⟨kd, n, t⟩, rest⟩
    · clear hc1 hc2 hc3; (exfalso; clear hR; subst hP; simp [std, nc] at *; first | omega | grind)
    cbv
    have hrow := row_at hrows hd hk P hP
    have hpl : pre.length ≤ 1600 := by rw [hd] at hd2; simp at hd2; omega
    refine ⟨by clear hc1 hc2 hc3; (clear hR; subst hP; simp [std, I64, nc] at * <;> first | omega | grind), _, hrow, ?_⟩
    cbv
    intro β
    cbv
    have hx := hfF kd n t
    rcases List.eq_nil_or_concat pre with hpre | ⟨pre', ⟨qk, qn, qt⟩, hpre⟩
    · refine br_cases (fun h => ?_) (fun h => ?_)
      · exfalso; clear hR hc1 hc2 hc3; subst hpre; subst hP; simp [std] at *; omega
      repeat' (first | (intro β; try cbv) | (refine And.intro (by assumption) ?_; try cbv) | (refine br_cases (fun h => ?_) (fun h => ?_) <;> try cbv) | (refine Exists.intro _ (And.intro (by assumption) ?_); try cbv) | (refine hc1 _ _ ?_; try cbv) | (refine hc2 _ _ ?_; try cbv) | (refine hc3 _ _ ?_; try cbv) | (refine hc4 _ _ ?_; try cbv) | (refine hc5 _ _ ?_; try cbv) | (refine hc6 _ _ ?_; try cbv) | (refine And.intro (by (clear hR; subst hP; simp [std, I64, nc] at * <;> first | omega | grind)) ?_; try cbv))
      all_goals first
        | (refine hR _ _ (Ent.refl _) ?_
           cbv
           clear hR hc1 hc2 hc3 hrow hfF; subst hP; subst hr; subst hpre; simp [std, nc, lk] at *; grind [checkF, chk, fitF])
        | (refine ⟨_, Ent.refl _, ⟨(_, pre ++ [⟨kd, n, t⟩], rest), ?_⟩, ⟨rfl, rfl, rfl, rfl, trivial⟩, trivial, by simp⟩
           clear hR hrow hc1 hc2 hc3 hfF; subst hP
           refine ⟨by simp [hd], by simp [std, hk], ?_⟩
           rw [hc]
           exact chk_step _ _ _ (fun h => h.1 hpre) (by simp [std] at *; omega))
    · have hrow2 : P.row rows (P.nat (P.sub k 1)) (encPart ⟨qk, qn, qt⟩) := by
        subst hP; simp [std, hrows, hd, hk, hpre]
      have hlk : lk pre = qk := by rw [hpre, List.concat_eq_append, lk_app]
      have hpp : 0 < pre.length := by rw [hpre]; simp
      have hk2 : (k : Int) = (pre.length : Int) := hk
      have hpp2 : (1 : Int) ≤ k := by rw [hk2]; omega
      have hpp3 : k ≤ 1600 := by rw [hk2]; omega
      have ho1 : P.i64 (P.sub k 1) := by clear hR hc1 hc2 hc3 hl hl2 hk hk2 h; subst hP; show I64 (k - 1); unfold I64; omega
      have ho2 : P.leP 0 (P.sub k 1) := by clear hR hc1 hc2 hc3 hl hl2 hk hk2 h; subst hP; show 0 ≤ k - 1; omega
      refine br_cases (fun h => ?_) (fun h => ?_)
      rotate_left
      · exfalso; clear hR hc1 hc2 hc3; subst hP; simp [std] at *; omega
      repeat' (first | (intro β; try cbv) | (refine And.intro (by assumption) ?_; try cbv) | (refine br_cases (fun h => ?_) (fun h => ?_) <;> try cbv) | (refine Exists.intro _ (And.intro (by assumption) ?_); try cbv) | (refine hc1 _ _ ?_; try cbv) | (refine hc2 _ _ ?_; try cbv) | (refine hc3 _ _ ?_; try cbv) | (refine hc4 _ _ ?_; try cbv) | (refine hc5 _ _ ?_; try cbv) | (refine hc6 _ _ ?_; try cbv) | (refine And.intro (by (clear hR; subst hP; simp [std, I64, nc] at * <;> first | omega | grind)) ?_; try cbv))
      all_goals first
        | (refine hR _ _ (Ent.refl _) ?_
           cbv
           clear hR hc1 hc2 hc3 hrow hrow2 hfF; subst hP; subst hr; simp [std, nc] at *; grind [checkF, chk, fitF])
        | (refine ⟨_, Ent.refl _, ⟨(_, pre ++ [⟨kd, n, t⟩], rest), ?_⟩, ⟨rfl, rfl, rfl, rfl, trivial⟩, trivial, by simp⟩
           clear hR hrow hrow2 hc1 hc2 hc3 hfF; subst hP
           refine ⟨by simp [hd], by simp [std, hk], ?_⟩
           rw [hc]
           refine chk_step _ _ _ ?_ (by simp [std] at *; omega)
           simp [std, hlk] at *
           grind)
  · have : rest = [] := by
      cases rest with
      | nil => rfl
      | cons p rest => clear hc1 hc2 hc3; (exfalso; clear hR; subst hP; simp [std, nc] at *; first | omega | grind)
    subst this
    have hc0 : chk 0 d = 0 := hc
    have hc4 := hc2 hd2 hc0
    have hc5 := hc3 hd2 hc0
    clear hc2 hc3
    cbv
    repeat' (first | (intro β; try cbv) | (refine And.intro (by assumption) ?_; try cbv) | (refine br_cases (fun h => ?_) (fun h => ?_) <;> try cbv) | (refine Exists.intro _ (And.intro (by assumption) ?_); try cbv) | (refine hc1 _ _ ?_; try cbv) | (refine hc2 _ _ ?_; try cbv) | (refine hc3 _ _ ?_; try cbv) | (refine hc4 _ _ ?_; try cbv) | (refine hc5 _ _ ?_; try cbv) | (refine hc6 _ _ ?_; try cbv) | (refine And.intro (by (clear hR; subst hP; simp [std, I64, nc] at * <;> first | omega | grind)) ?_; try cbv))
    all_goals
      refine hR _ _ (Ent.refl _) ?_
      cbv
      clear hR hc1 hc4 hc5; subst hP; subst hr; simp [std, nc] at *; grind [checkF]
theorem sp_rdelta (d : List Part) (hd1 : d.length ≤ maxLen) : Spec Try.prog 104 [.sl true 3 (d.map encPart)] Hp.emp (Is (.int .i64 (checkF d))) :=
  spec_pure dOk ok_rdelta [.int .i64 (checkF d)] (.int _ _) fun R hR => vc_rdelta std rfl _ _ d hd1 _ rfl _ rfl (fun k n t => fitF ⟨k, n, t⟩) (fun _ _ _ => rfl) (ansW (sp_right ⟨_, _, _⟩) (fun h => .cons (.same _) .nil) rfl) _ _ rfl rfl
    (fun h1 h2 => ansW (sp_rin d h1 (chk_ok 0 d h2)) (fun h => .cons (.same _) .nil) rfl) (fun h1 h2 => ansW (sp_rout d h1 (chk_ok 0 d h2)) (fun h => .cons (.same _) .nil) rfl) R hR

theorem ansL {f : Nat} {d : List Part} {v : V} (h : Spec Try.prog f [.sl true 3 (d.map encPart)] Hp.emp (Is v)) (hv : v.ren (lab []) = v) : Ans (CallE Try.prog) f [encParts d] v := ansW h (fun _ => .cons (.weak _ _) .nil) hv
end Go.Proofs.Ytobngncjflogcaa.AM

/-
  Deltas byte by byte: what is kept, put and cut, one byte at a time; and how a delta is made of it.
-/
set_option linter.unusedVariables false
set_option linter.unusedSimpArgs false
namespace Go.Proofs.Ytobngncjflogcaa.AM
open Go

inductive Tok where
  | keep
  | put (b : UInt8)
  | cut
  deriving DecidableEq

def toks1 (p : Part) : List Tok := if p.kind = 2 then p.text.map .put else if p.kind = 1 then List.replicate p.n.toNat .keep else List.replicate p.n.toNat .cut
def toks : List Part → List Tok
  | [] => []
  | p :: l => toks1 p ++ toks l
theorem toks_app (a b : List Part) : toks (a ++ b) = toks a ++ toks b := by
  induction a with
  | nil => rfl
  | cons p a ih => simp [toks, ih]

/-! places -/
def kepts : List Tok → List Bool
  | [] => []
  | .keep :: ts => true :: kepts ts
  | .cut :: ts => false :: kepts ts
  | .put _ :: ts => kepts ts
theorem kepts_app (a b : List Tok) : kepts (a ++ b) = kepts a ++ kepts b := by
  induction a with
  | nil => rfl
  | cons t a ih => cases t <;> simp [kepts, ih]
theorem kepts_put (t : List UInt8) : kepts (t.map .put) = [] := by
  induction t with
  | nil => rfl
  | cons b t ih => simp [kepts, ih]
def consHead (b : UInt8) : List (List UInt8) → List (List UInt8)
  | [] => [[b]]
  | p :: r => (b :: p) :: r
def puts : List Tok → List (List UInt8)
  | [] => [[]]
  | .put b :: ts => consHead b (puts ts)
  | .keep :: ts => [] :: puts ts
  | .cut :: ts => [] :: puts ts
def appLast (l : List (List UInt8)) (t : List UInt8) : List (List UInt8) := l.dropLast ++ [l.getLastD [] ++ t]
theorem puts_ne (ts : List Tok) : ∃ p r, puts ts = p :: r := by
  induction ts with
  | nil => exact ⟨_, _, rfl⟩
  | cons t ts ih => cases t <;> obtain ⟨p, r, h⟩ := ih <;> simp [puts, h, consHead]
theorem puts_len (ts : List Tok) : (puts ts).length = (kepts ts).length + 1 := by
  induction ts with
  | nil => rfl
  | cons t ts ih =>
    cases t
    · simp [puts, kepts, ih]
    · obtain ⟨p, r, h⟩ := puts_ne ts
      simp only [puts, kepts, h, consHead, List.length_cons] at *
      exact ih
    · simp [puts, kepts, ih]
theorem appLast_nil (l : List (List UInt8)) (h : l ≠ []) : appLast l [] = l := by
  unfold appLast
  rw [List.append_nil]
  rw [List.getLastD_eq_getLast?, List.getLast?_eq_some_getLast h]
  exact List.dropLast_concat_getLast h
theorem appLast_cons (x : List UInt8) (l : List (List UInt8)) (t : List UInt8) (h : l ≠ []) : appLast (x :: l) t = x :: appLast l t := by
  cases l with
  | nil => exact absurd rfl h
  | cons y l => simp [appLast]
theorem puts_app_put (ts : List Tok) (t : List UInt8) : puts (ts ++ t.map .put) = appLast (puts ts) t := by
  induction ts with
  | nil =>
    simp only [List.nil_append, puts, appLast]
    simp
    induction t with
    | nil => rfl
    | cons b t ih => simp [puts, ih, consHead]
  | cons a ts ih =>
    obtain ⟨p, r, h⟩ := puts_ne ts
    cases a
    · simp only [List.cons_append, puts, ih]
      rw [appLast_cons _ _ _ (by rw [h]; simp)]
    · simp only [List.cons_append, puts, ih]
      rw [h]
      cases r with
      | nil => simp [appLast, consHead]
      | cons y r => simp [appLast, consHead]
    · simp only [List.cons_append, puts, ih]
      rw [appLast_cons _ _ _ (by rw [h]; simp)]
theorem puts_app_step (ts : List Tok) (x : Tok) (hx : x = .keep ∨ x = .cut) : puts (ts ++ [x]) = puts ts ++ [[]] := by
  induction ts with
  | nil => rcases hx with rfl | rfl <;> rfl
  | cons a ts ih =>
    obtain ⟨p, r, h⟩ := puts_ne ts
    cases a
    · simp [puts, ih]
    · simp only [List.cons_append, puts, ih, h, consHead]
    · simp [puts, ih]

/-! a delta being made -/
structure Mk where
  out : List Part
  put : List UInt8
  cut : Int
def Mk.flush (m : Mk) : List Part := m.out ++ (if m.put = [] then [] else [⟨2, 0, m.put⟩]) ++ (if 0 < m.cut then [⟨3, m.cut, []⟩] else [])
/-- so many more bytes are kept -/
def addKeep (o : List Part) (n : Int) : List Part := match o.getLast? with
  | some p => if p.kind = 1 then o.dropLast ++ [⟨1, p.n + n, p.text⟩] else o ++ [⟨1, n, []⟩]
  | none => [⟨1, n, []⟩]
def Mk.doKeep (m : Mk) (n : Int) : Mk := if n = 0 then m else ⟨addKeep m.flush n, [], 0⟩
def Mk.doPut (m : Mk) (s : List UInt8) : Mk := ⟨m.out, m.put ++ s, m.cut⟩
def Mk.doCut (m : Mk) (n : Int) : Mk := ⟨m.out, m.put, m.cut + n⟩
def Mk.new : Mk := ⟨[], [], 0⟩
def Mk.tok (m : Mk) : Tok → Mk
  | .keep => m.doKeep 1
  | .put b => m.doPut [b]
  | .cut => m.doCut 1
def Mk.run (m : Mk) (ts : List Tok) : Mk := ts.foldl Mk.tok m
theorem Mk.run_app (m : Mk) (a b : List Tok) : m.run (a ++ b) = (m.run a).run b := by simp [Mk.run]
theorem Mk.run_nil (m : Mk) : m.run [] = m := rfl
theorem Mk.run_put (m : Mk) (s : List UInt8) : m.run (s.map .put) = m.doPut s := by
  induction s generalizing m with
  | nil => simp [Mk.run, Mk.doPut]
  | cons b s ih =>
    have := ih (m.tok (.put b))
    simp only [Mk.run, List.map_cons, List.foldl_cons] at *
    rw [this]
    simp [Mk.tok, Mk.doPut]
theorem Mk.run_cut (m : Mk) (n : Nat) : m.run (List.replicate n .cut) = m.doCut n := by
  induction n generalizing m with
  | zero => simp [Mk.run, Mk.doCut]
  | succ n ih =>
    have := ih (m.tok .cut)
    simp only [Mk.run, List.replicate_succ, List.foldl_cons] at *
    rw [this]
    simp only [Mk.tok, Mk.doCut]
    congr 1
    omega
theorem addKeep_flush (o : List Part) (n k : Int) : addKeep (addKeep o n) k = addKeep o (n + k) := by
  unfold addKeep
  cases h : o.getLast? with
  | none => simp
  | some p =>
    by_cases hk : p.kind = 1
    · simp [hk, Int.add_assoc]
    · simp [hk]
theorem Mk.flush_mk (o : List Part) : (Mk.mk o [] 0).flush = o := by simp [Mk.flush]
theorem Mk.doKeep_add (m : Mk) (n k : Int) (hn : 0 ≤ n) (hk : 0 ≤ k) : (m.doKeep n).doKeep k = m.doKeep (n + k) := by
  unfold Mk.doKeep
  by_cases h1 : n = 0
  · subst h1; simp
  · by_cases h2 : k = 0
    · subst h2; simp [h1]
    · rw [if_neg h2, if_neg h1, if_neg (by omega), Mk.flush_mk, addKeep_flush]
theorem Mk.run_keep (m : Mk) (n : Nat) : m.run (List.replicate n .keep) = m.doKeep n := by
  induction n generalizing m with
  | zero => simp [Mk.run, Mk.doKeep]
  | succ n ih =>
    have := ih (m.tok .keep)
    simp only [Mk.run, List.replicate_succ, List.foldl_cons] at *
    rw [this]
    simp only [Mk.tok]
    rw [Mk.doKeep_add _ _ _ (by omega) (by omega)]
    congr 1
    omega
/-- the delta of some bytes -/
def mkD (ts : List Tok) : List Part := (Mk.new.run ts).flush
end Go.Proofs.Ytobngncjflogcaa.AM

/-
  Deltas byte by byte: what comes of a text, which bytes are kept, two deltas as one, two deltas side by side, a delta the other way.
-/
set_option linter.unusedVariables false
set_option linter.unusedSimpArgs false
namespace Go.Proofs.Ytobngncjflogcaa.AM
open Go

/-! what comes of a text -/
def doT : List Tok → List UInt8 → List UInt8
  | [], _ => []
  | .put b :: ts, s => b :: doT ts s
  | .keep :: ts, s => s.take 1 ++ doT ts (s.drop 1)
  | .cut :: ts, s => doT ts (s.drop 1)
def doP : List (List UInt8) → List Bool → List UInt8 → List UInt8
  | p :: ps, k :: ks, s => p ++ (if k then s.take 1 else []) ++ doP ps ks (s.drop 1)
  | p :: _, [], _ => p
  | [], _, _ => []
theorem doP_consHead (b : UInt8) (l : List (List UInt8)) (ks : List Bool) (s : List UInt8) (h : l ≠ []) : doP (consHead b l) ks s = b :: doP l ks s := by
  cases l with
  | nil => exact absurd rfl h
  | cons p r => cases ks <;> simp [consHead, doP]
theorem puts_nn (ts : List Tok) : puts ts ≠ [] := by obtain ⟨p, r, h⟩ := puts_ne ts; rw [h]; simp
theorem doP_eq (ts : List Tok) (s : List UInt8) : doP (puts ts) (kepts ts) s = doT ts s := by
  induction ts generalizing s with
  | nil => rfl
  | cons t ts ih =>
    cases t
    · simp [puts, kepts, doP, doT, ih]
    · simp only [puts, kepts, doT]
      rw [doP_consHead _ _ _ _ (puts_nn ts), ih]
    · simp [puts, kepts, doP, doT, ih]
def inT (ts : List Tok) : Nat := (kepts ts).length
def outT : List Tok → Nat
  | [] => 0
  | .cut :: ts => outT ts
  | .keep :: ts => outT ts + 1
  | .put _ :: ts => outT ts + 1
theorem outT_app (a b : List Tok) : outT (a ++ b) = outT a + outT b := by
  induction a with
  | nil => simp [outT]
  | cons t a ih => cases t <;> simp [outT, ih] <;> omega
theorem inT_app (a b : List Tok) : inT (a ++ b) = inT a + inT b := by simp [inT, kepts_app]
theorem doT_len (ts : List Tok) (s : List UInt8) (h : s.length = inT ts) : (doT ts s).length = outT ts := by
  induction ts generalizing s with
  | nil => rfl
  | cons t ts ih =>
    cases t
    · simp only [inT, kepts, List.length_cons] at h
      simp only [doT, outT, List.length_append, List.length_take]
      rw [ih _ (by simp [inT]; omega)]
      omega
    · simp only [doT, outT, List.length_cons]
      rw [ih _ h]
    · simp only [inT, kepts, List.length_cons] at h
      simp only [doT, outT]
      exact ih _ (by simp [inT]; omega)
theorem doT_app (a b : List Tok) (s : List UInt8) : doT (a ++ b) s = doT a s ++ doT b (s.drop (inT a)) := by
  induction a generalizing s with
  | nil => simp [doT, inT, kepts]
  | cons t a ih => cases t <;> simp [doT, inT, kepts, ih, List.drop_drop, Nat.add_comm]

/-! which bytes are kept -/
def pairsT : List Tok → Nat → Nat → List (Nat × Nat)
  | [], _, _ => []
  | .put _ :: ts, i, j => pairsT ts i (j + 1)
  | .keep :: ts, i, j => (i, j) :: pairsT ts (i + 1) (j + 1)
  | .cut :: ts, i, j => pairsT ts (i + 1) j
def pairsP : List (List UInt8) → List Bool → Nat → Nat → List (Nat × Nat)
  | p :: ps, k :: ks, i, j => (if k then [(i, j + p.length)] else []) ++ pairsP ps ks (i + 1) (j + p.length + (if k then 1 else 0))
  | _, _, _, _ => []
theorem pairsP_consHead (b : UInt8) (l : List (List UInt8)) (ks : List Bool) (i j : Nat) (h : l ≠ []) : pairsP (consHead b l) ks i j = pairsP l ks i (j + 1) := by
  cases l with
  | nil => exact absurd rfl h
  | cons p r =>
    cases ks with
    | nil => simp [consHead, pairsP]
    | cons k ks => simp [consHead, pairsP, Nat.add_assoc, Nat.add_comm, Nat.add_left_comm]
theorem pairsP_eq (ts : List Tok) (i j : Nat) : pairsP (puts ts) (kepts ts) i j = pairsT ts i j := by
  induction ts generalizing i j with
  | nil => rfl
  | cons t ts ih =>
    cases t
    · simp [puts, kepts, pairsP, pairsT, ih]
    · simp only [puts, kepts, pairsT]
      rw [pairsP_consHead _ _ _ _ _ (puts_nn ts), ih]
    · simp [puts, kepts, pairsP, pairsT, ih]

/-! what lies between two kept bytes -/
def gaps : List Tok → List (List UInt8 × Nat)
  | [] => [([], 0)]
  | .put b :: ts => match gaps ts with
    | (p, c) :: r => (b :: p, c) :: r
    | [] => []
  | .cut :: ts => match gaps ts with
    | (p, c) :: r => (p, c + 1) :: r
    | [] => []
  | .keep :: ts => ([], 0) :: gaps ts
theorem gaps_ne (ts : List Tok) : ∃ g r, gaps ts = g :: r := by
  induction ts with
  | nil => exact ⟨_, _, rfl⟩
  | cons t ts ih => cases t <;> obtain ⟨⟨p, c⟩, r, h⟩ := ih <;> simp [gaps, h]
def Mk.gap (m : Mk) (g : List UInt8 × Nat) : Mk := ⟨m.out, m.put ++ g.1, m.cut + g.2⟩
def Mk.runG (m : Mk) : List (List UInt8 × Nat) → Mk
  | [] => m
  | [g] => m.gap g
  | g :: g2 :: r => Mk.runG ((m.gap g).doKeep 1) (g2 :: r)
theorem Mk.runG_put (m : Mk) (b : UInt8) (p : List UInt8) (c : Nat) (r : List (List UInt8 × Nat)) : m.runG ((b :: p, c) :: r) = (m.doPut [b]).runG ((p, c) :: r) := by
  cases r <;> simp [Mk.runG, Mk.gap, Mk.doPut]
theorem Mk.runG_cut (m : Mk) (p : List UInt8) (c : Nat) (r : List (List UInt8 × Nat)) : m.runG ((p, c + 1) :: r) = (m.doCut 1).runG ((p, c) :: r) := by
  have h : m.cut + ((c + 1 : Nat) : Int) = m.cut + 1 + (c : Int) := by omega
  cases r <;> simp only [Mk.runG, Mk.gap, Mk.doCut, h]
theorem Mk.run_gaps (m : Mk) (ts : List Tok) : m.run ts = m.runG (gaps ts) := by
  induction ts generalizing m with
  | nil => simp [Mk.run, gaps, Mk.runG, Mk.gap]
  | cons t ts ih =>
    obtain ⟨⟨p, c⟩, r, h⟩ := gaps_ne ts
    have hs : m.run (t :: ts) = (m.tok t).run ts := rfl
    rw [hs, ih, h]
    cases t
    · simp only [gaps, h, Mk.runG, Mk.tok]
      congr 1
      simp [Mk.gap]
    · simp only [gaps, h]
      exact (Mk.runG_put m _ _ _ _).symm
    · simp only [gaps, h]
      exact (Mk.runG_cut m _ _ _).symm
theorem mkD_gaps {a b : List Tok} (h : gaps a = gaps b) : mkD a = mkD b := by unfold mkD; rw [Mk.run_gaps, Mk.run_gaps, h]

/-- the gaps out of the kept bytes and the text that comes of it -/
def gapsOf (n : Nat) (text : List UInt8) : Nat → Nat → List (Nat × Nat) → List (List UInt8 × Nat)
  | i0, j0, [] => [(text.drop j0, n - i0)]
  | i0, j0, (i, j) :: r => ((text.drop j0).take (j - j0), i - i0) :: gapsOf n text (i + 1) (j + 1) r
theorem gapsOf_put (n : Nat) (pre : List UInt8) (b : UInt8) (rest : List UInt8) (i0 : Nat) (ks : List (Nat × Nat)) (g : List UInt8 × Nat) (r : List (List UInt8 × Nat)) (hk : ∀ p ∈ ks, pre.length + 1 ≤ p.2)
    (h : gapsOf n (pre ++ b :: rest) i0 (pre.length + 1) ks = g :: r) : gapsOf n (pre ++ b :: rest) i0 pre.length ks = (b :: g.1, g.2) :: r := by
  cases ks with
  | nil =>
    simp only [gapsOf, List.cons.injEq] at h ⊢
    obtain ⟨rfl, rfl⟩ := h
    simp
  | cons p ks =>
    obtain ⟨i, j⟩ := p
    have hj : pre.length + 1 ≤ j := hk (i, j) (by simp)
    simp only [gapsOf, List.cons.injEq] at h ⊢
    obtain ⟨rfl, rfl⟩ := h
    obtain ⟨m, hm⟩ : ∃ m, j - pre.length = m + 1 := ⟨j - pre.length - 1, by omega⟩
    rw [hm, show j - (pre.length + 1) = m by omega]
    simp
theorem pairsT_ge (ts : List Tok) (i j : Nat) : ∀ p ∈ pairsT ts i j, i ≤ p.1 ∧ j ≤ p.2 := by
  induction ts generalizing i j with
  | nil => simp [pairsT]
  | cons t ts ih =>
    intro p hp
    cases t
    · simp only [pairsT, List.mem_cons] at hp
      rcases hp with rfl | hp
      · simp
      · have := ih _ _ p hp; omega
    · have := ih _ _ p hp; omega
    · have := ih _ _ p hp; omega
theorem gapsOf_cut (n : Nat) (text : List UInt8) (i0 j0 : Nat) (ks : List (Nat × Nat)) (g : List UInt8 × Nat) (r : List (List UInt8 × Nat)) (hk : ∀ p ∈ ks, i0 + 1 ≤ p.1) (hn : i0 + 1 ≤ n) (h : gapsOf n text (i0 + 1) j0 ks = g :: r) :
    gapsOf n text i0 j0 ks = (g.1, g.2 + 1) :: r := by
  cases ks with
  | nil =>
    simp only [gapsOf, List.cons.injEq] at h ⊢
    obtain ⟨rfl, rfl⟩ := h
    simp
    omega
  | cons p ks =>
    obtain ⟨i, j⟩ := p
    have hj : i0 + 1 ≤ i := hk (i, j) (by simp)
    simp only [gapsOf, List.cons.injEq] at h ⊢
    obtain ⟨rfl, rfl⟩ := h
    simp
    omega
theorem gaps_of (ts : List Tok) (s pre : List UInt8) (i0 : Nat) (hs : s.length = inT ts) : gaps ts = gapsOf (i0 + inT ts) (pre ++ doT ts s) i0 pre.length (pairsT ts i0 pre.length) := by
  induction ts generalizing s pre i0 with
  | nil => simp [gaps, doT, pairsT, gapsOf, inT, kepts]
  | cons t ts ih =>
    cases t
    · simp only [inT, kepts, List.length_cons] at hs
      obtain ⟨x, s, rfl⟩ : ∃ x s', s = x :: s' := by cases s with | nil => simp at hs | cons x s => exact ⟨x, s, rfl⟩
      have := ih s (pre ++ [x]) (i0 + 1) (by simpa [inT] using hs)
      simp only [gaps, doT, pairsT, gapsOf, this]
      have e : i0 + 1 + inT ts = i0 + inT (.keep :: ts) := by simp [inT, kepts]; omega
      rw [e]
      simp
    · have := ih s (pre ++ [by assumption]) i0 hs
      simp only [List.length_append, List.length_cons, List.length_nil, Nat.zero_add, List.append_assoc, List.singleton_append] at this
      obtain ⟨g, r, h⟩ := gaps_ne ts
      rw [h] at this
      simp only [gaps, doT, pairsT, h]
      exact (gapsOf_put _ _ _ _ _ _ _ _ (fun p hp => (pairsT_ge _ _ _ p hp).2) this.symm).symm
    · simp only [inT, kepts, List.length_cons] at hs
      obtain ⟨x, s, rfl⟩ : ∃ x s', s = x :: s' := by cases s with | nil => simp at hs | cons x s => exact ⟨x, s, rfl⟩
      have := ih s pre (i0 + 1) (by simpa [inT] using hs)
      obtain ⟨g, r, h⟩ := gaps_ne ts
      rw [h] at this
      simp only [gaps, doT, pairsT, h, List.drop_one, List.tail_cons]
      have e : i0 + inT (.cut :: ts) = i0 + 1 + inT ts := by simp [inT, kepts]; omega
      rw [e]
      exact (gapsOf_cut _ _ _ _ _ _ _ (fun p hp => (pairsT_ge _ _ _ p hp).1) (by omega) this.symm).symm

/-! two deltas as one -/
def compT : Nat → List Tok → List Tok → List Tok
  | 0, _, _ => []
  | f + 1, .cut :: xs, ys => .cut :: compT f xs ys
  | f + 1, xs, .put b :: ys => .put b :: compT f xs ys
  | f + 1, .keep :: xs, .keep :: ys => .keep :: compT f xs ys
  | f + 1, .keep :: xs, .cut :: ys => .cut :: compT f xs ys
  | f + 1, .put b :: xs, .keep :: ys => .put b :: compT f xs ys
  | f + 1, .put _ :: xs, .cut :: ys => compT f xs ys
  | _ + 1, _, _ => []
end Go.Proofs.Ytobngncjflogcaa.AM

/-
  Two deltas as one, byte by byte; and the delta of some kept bytes and a text.
-/
set_option linter.unusedVariables false
set_option linter.unusedSimpArgs false
namespace Go.Proofs.Ytobngncjflogcaa.AM
open Go

def comps (l r : List (Nat × Nat)) : List (Nat × Nat) := l.flatMap fun p => r.filterMap fun q => if p.2 = q.1 then some (p.1, q.2) else none

theorem comps_skip (l : List (Nat × Nat)) (p : Nat × Nat) (r : List (Nat × Nat)) (h : ∀ x ∈ l, p.1 + 1 ≤ x.2) : comps l (p :: r) = comps l r := by
  unfold comps
  induction l with
  | nil => rfl
  | cons x l ih =>
    have hx := h x (by simp)
    rw [List.flatMap_cons, List.flatMap_cons, ih fun y hy => h y (by simp [hy])]
    rw [List.filterMap_cons, if_neg (by omega)]
theorem filter_none (j : Nat) (r : List (Nat × Nat)) (i : Nat) (h : ∀ x ∈ r, j + 1 ≤ x.1) : (r.filterMap fun q => if j = q.1 then some (i, q.2) else none) = [] := by
  rw [List.filterMap_eq_nil_iff]
  intro x hx
  have := h x hx
  rw [if_neg (by omega)]

theorem compT_spec : ∀ (f : Nat) (xs ys : List Tok) (s : List UInt8) (i j k : Nat), xs.length + ys.length ≤ f → outT xs = inT ys → s.length = inT xs →
    inT (compT f xs ys) = inT xs ∧ doT (compT f xs ys) s = doT ys (doT xs s) ∧ pairsT (compT f xs ys) i k = comps (pairsT xs i j) (pairsT ys j k) ∧ outT (compT f xs ys) = outT ys
  | 0, xs, ys, s, i, j, k, hf, ho, hs => by
    have h1 : xs = [] := List.eq_nil_of_length_eq_zero (by omega)
    have h2 : ys = [] := List.eq_nil_of_length_eq_zero (by omega)
    subst h1 h2
    exact ⟨rfl, rfl, rfl, rfl⟩
  | f + 1, .cut :: xs, ys, s, i, j, k, hf, ho, hs => by
    simp only [List.length_cons] at hf
    simp only [inT, kepts, List.length_cons] at hs
    obtain ⟨h1, h2, h3, h4⟩ := compT_spec f xs ys (s.drop 1) (i + 1) j k (by omega) (by simpa [outT] using ho) (by simp [inT]; omega)
    simp only [compT, doT, pairsT, outT]
    refine ⟨?_, h2, h3, h4⟩
    simpa [inT, kepts] using h1
  | f + 1, [], .put b :: ys, s, i, j, k, hf, ho, hs => by
    simp only [List.length_cons] at hf
    obtain ⟨h1, h2, h3, h4⟩ := compT_spec f [] ys s i j (k + 1) (by simp at hf ⊢; omega) (by simpa [outT, inT, kepts] using ho) hs
    simp only [compT, doT, pairsT, outT]
    exact ⟨by simpa [inT, kepts] using h1, by rw [h2]; rfl, h3, by omega⟩
  | f + 1, .keep :: xs, .put b :: ys, s, i, j, k, hf, ho, hs => by
    simp only [List.length_cons] at hf
    obtain ⟨h1, h2, h3, h4⟩ := compT_spec f (.keep :: xs) ys s i j (k + 1) (by simp; omega) (by simpa [outT, inT, kepts] using ho) hs
    rw [compT]
    · simp only [doT, pairsT, outT]
      refine ⟨by simpa [inT, kepts] using h1, ?_, h3, by omega⟩
      rw [h2]; rfl
    · intro _ h; cases h
  | f + 1, .put c :: xs, .put b :: ys, s, i, j, k, hf, ho, hs => by
    simp only [List.length_cons] at hf
    obtain ⟨h1, h2, h3, h4⟩ := compT_spec f (.put c :: xs) ys s i j (k + 1) (by simp; omega) (by simpa [outT, inT, kepts] using ho) hs
    rw [compT]
    · simp only [doT, pairsT, outT]
      refine ⟨by simpa [inT, kepts] using h1, ?_, h3, by omega⟩
      rw [h2]; rfl
    · intro _ h; cases h
  | f + 1, .keep :: xs, .keep :: ys, s, i, j, k, hf, ho, hs => by
    simp only [List.length_cons] at hf
    simp only [inT, kepts, List.length_cons] at hs
    obtain ⟨x, s, rfl⟩ : ∃ x s', s = x :: s' := by cases s with | nil => simp at hs | cons x s => exact ⟨x, s, rfl⟩
    obtain ⟨h1, h2, h3, h4⟩ := compT_spec f xs ys s (i + 1) (j + 1) (k + 1) (by omega) (by simpa [outT, inT, kepts] using ho) (by simpa [inT] using hs)
    simp only [compT, doT, pairsT, outT]
    refine ⟨by simpa [inT, kepts] using h1, ?_, ?_, by omega⟩
    · simp only [List.take_succ_cons, List.take_zero, List.drop_succ_cons, List.drop_zero, List.singleton_append, List.cons_append, List.nil_append]
      rw [h2]
    · rw [h3]
      have e : comps ((i, j) :: pairsT xs (i + 1) (j + 1)) ((j, k) :: pairsT ys (j + 1) (k + 1)) = [(i, k)] ++ comps (pairsT xs (i + 1) (j + 1)) ((j, k) :: pairsT ys (j + 1) (k + 1)) := by
        simp only [comps, List.flatMap_cons, List.filterMap_cons, ↓reduceIte]
        rw [filter_none j _ i fun x hx => (pairsT_ge _ _ _ x hx).1]
      rw [e, comps_skip _ (j, k) _ fun x hx => (pairsT_ge _ _ _ x hx).2]
      rfl
  | f + 1, .keep :: xs, .cut :: ys, s, i, j, k, hf, ho, hs => by
    simp only [List.length_cons] at hf
    simp only [inT, kepts, List.length_cons] at hs
    obtain ⟨x, s, rfl⟩ : ∃ x s', s = x :: s' := by cases s with | nil => simp at hs | cons x s => exact ⟨x, s, rfl⟩
    obtain ⟨h1, h2, h3, h4⟩ := compT_spec f xs ys s (i + 1) (j + 1) k (by omega) (by simpa [outT, inT, kepts] using ho) (by simpa [inT] using hs)
    simp only [compT, doT, pairsT, outT]
    refine ⟨by simpa [inT, kepts] using h1, ?_, ?_, h4⟩
    · simp only [List.take_succ_cons, List.take_zero, List.drop_succ_cons, List.drop_zero, List.singleton_append, List.cons_append, List.nil_append]
      rw [h2]
    · rw [h3]
      simp only [comps, List.flatMap_cons]
      rw [filter_none j _ i fun x hx => (pairsT_ge _ _ _ x hx).1]
      rfl
  | f + 1, .put b :: xs, .keep :: ys, s, i, j, k, hf, ho, hs => by
    simp only [List.length_cons] at hf
    obtain ⟨h1, h2, h3, h4⟩ := compT_spec f xs ys s i (j + 1) (k + 1) (by omega) (by simpa [outT, inT, kepts] using ho) hs
    simp only [compT, doT, pairsT, outT]
    refine ⟨by simpa [inT, kepts] using h1, ?_, ?_, by omega⟩
    · simp only [List.take_succ_cons, List.take_zero, List.drop_succ_cons, List.drop_zero, List.singleton_append]
      rw [h2]
    · rw [h3, comps_skip _ (j, k) _ fun x hx => (pairsT_ge _ _ _ x hx).2]
  | f + 1, .put b :: xs, .cut :: ys, s, i, j, k, hf, ho, hs => by
    simp only [List.length_cons] at hf
    obtain ⟨h1, h2, h3, h4⟩ := compT_spec f xs ys s i (j + 1) k (by omega) (by simpa [outT, inT, kepts] using ho) hs
    simp only [compT, doT, pairsT, outT]
    refine ⟨by simpa [inT, kepts] using h1, ?_, h3, h4⟩
    simp only [List.drop_succ_cons, List.drop_zero]
    rw [h2]
  | f + 1, [], [], s, i, j, k, hf, ho, hs => ⟨rfl, rfl, rfl, rfl⟩
  | f + 1, [], .keep :: ys, s, i, j, k, hf, ho, hs => by simp [outT, inT, kepts] at ho
  | f + 1, [], .cut :: ys, s, i, j, k, hf, ho, hs => by simp [outT, inT, kepts] at ho
  | f + 1, .keep :: xs, [], s, i, j, k, hf, ho, hs => by simp [outT, inT, kepts] at ho
  | f + 1, .put b :: xs, [], s, i, j, k, hf, ho, hs => by simp [outT, inT, kepts] at ho

/-! the delta of kept bytes and a text -/
def madeT (n : Nat) (text : List UInt8) : Nat → Nat → List (Nat × Nat) → List Tok
  | i0, j0, [] => (text.drop j0).map .put ++ List.replicate (n - i0) .cut
  | i0, j0, (i, j) :: r => ((text.drop j0).take (j - j0)).map .put ++ List.replicate (i - i0) .cut ++ .keep :: madeT n text (i + 1) (j + 1) r
theorem gaps_put_app (t : List UInt8) (ts : List Tok) (p : List UInt8) (c : Nat) (r : List (List UInt8 × Nat)) (h : gaps ts = (p, c) :: r) : gaps (t.map .put ++ ts) = (t ++ p, c) :: r := by
  induction t with
  | nil => simpa using h
  | cons b t ih => simp only [List.map_cons, List.cons_append, gaps, ih]
theorem gaps_cut_app (n : Nat) (ts : List Tok) (p : List UInt8) (c : Nat) (r : List (List UInt8 × Nat)) (h : gaps ts = (p, c) :: r) : gaps (List.replicate n .cut ++ ts) = (p, c + n) :: r := by
  induction n with
  | zero => simpa using h
  | succ n ih => simp only [List.replicate_succ, List.cons_append, gaps, ih]; simp [Nat.add_assoc]
theorem gaps_made (n : Nat) (text : List UInt8) (l : List (Nat × Nat)) (i0 j0 : Nat) : gaps (madeT n text i0 j0 l) = gapsOf n text i0 j0 l := by
  induction l generalizing i0 j0 with
  | nil =>
    simp only [madeT, gapsOf]
    have := gaps_cut_app (n - i0) [] [] 0 [] rfl
    rw [List.append_nil] at this
    have := gaps_put_app (text.drop j0) _ _ _ _ this
    simpa using this
  | cons p l ih =>
    obtain ⟨i, j⟩ := p
    simp only [madeT, gapsOf, List.append_assoc]
    have h0 : gaps (.keep :: madeT n text (i + 1) (j + 1) l) = ([], 0) :: gapsOf n text (i + 1) (j + 1) l := by simp only [gaps, ih]
    have := gaps_put_app ((text.drop j0).take (j - j0)) _ _ _ _ (gaps_cut_app (i - i0) _ _ _ _ h0)
    simpa using this
/-- a delta's bytes, made anew of what is kept and what comes of it -/
theorem mkD_made (ts : List Tok) (s : List UInt8) (hs : s.length = inT ts) : mkD ts = mkD (madeT (inT ts) (doT ts s) 0 0 (pairsT ts 0 0)) := by
  refine mkD_gaps ?_
  rw [gaps_made]
  have := gaps_of ts s [] 0 hs
  simpa using this
end Go.Proofs.Ytobngncjflogcaa.AM

/-
  Deltas byte by byte: places, a delta the other way, two deltas of one text.
-/
set_option linter.unusedVariables false
set_option linter.unusedSimpArgs false
namespace Go.Proofs.Ytobngncjflogcaa.AM
open Go

/-! places -/
def spotP : List (List UInt8) → List Bool → Nat → Int
  | p :: ps, k :: ks, n + 1 => p.length + (if k then 1 else 0) + spotP ps ks n
  | _, _, _ => 0
def spotT (late : Bool) : List Tok → Int → Int
  | [], _ => 0
  | .put _ :: ts, r => (if 0 < r ∨ late = true ∧ r = 0 then 1 else 0) + spotT late ts r
  | .keep :: ts, r => (if 0 < r then 1 else 0) + spotT late ts (r - 1)
  | .cut :: ts, r => spotT late ts (r - 1)
theorem spotT_neg (late : Bool) (ts : List Tok) (r : Int) (h : r < 0) : spotT late ts r = 0 := by
  induction ts generalizing r with
  | nil => rfl
  | cons t ts ih =>
    cases t
    · simp only [spotT]; rw [ih _ (by omega), if_neg (by omega)]; rfl
    · simp only [spotT]; rw [ih _ h, if_neg (by omega)]; rfl
    · simp only [spotT]; exact ih _ (by omega)
theorem spotT_put (late : Bool) (t : List UInt8) (ts : List Tok) (r : Int) : spotT late (t.map .put ++ ts) r = (if 0 < r ∨ late = true ∧ r = 0 then (t.length : Int) else 0) + spotT late ts r := by
  induction t with
  | nil => simp
  | cons b t ih =>
    simp only [List.map_cons, List.cons_append, spotT, ih, List.length_cons]
    split <;> omega
theorem spotT_keep (late : Bool) (n : Nat) (ts : List Tok) (r : Int) : spotT late (List.replicate n .keep ++ ts) r = max 0 (min (n : Int) r) + spotT late ts (r - n) := by
  induction n generalizing r with
  | zero => simp; omega
  | succ n ih =>
    simp only [List.replicate_succ, List.cons_append, spotT, ih]
    have e : r - 1 - (n : Int) = r - ((n + 1 : Nat) : Int) := by omega
    rw [e]
    split <;> omega
theorem spotT_cut (late : Bool) (n : Nat) (ts : List Tok) (r : Int) : spotT late (List.replicate n .cut ++ ts) r = spotT late ts (r - n) := by
  induction n generalizing r with
  | zero => simp
  | succ n ih =>
    simp only [List.replicate_succ, List.cons_append, spotT, ih]
    congr 1
    omega
theorem spot_eq (late : Bool) (ts : List Tok) (n : Nat) (h : n ≤ inT ts) : spotT late ts n = spotP (puts ts) (kepts ts) n + (if late then (((puts ts).getD n []).length : Int) else 0) := by
  induction ts generalizing n with
  | nil =>
    have : n = 0 := by simpa [inT, kepts] using h
    subst this
    simp [spotT, spotP, puts, kepts]
  | cons t ts ih =>
    cases t
    · cases n with
      | zero =>
        simp only [spotT, puts, kepts, spotP]
        rw [spotT_neg _ _ _ (by omega)]
        simp
      | succ n =>
        have := ih n (by simpa [inT, kepts] using h)
        simp only [spotT, puts, kepts, spotP, List.length_nil]
        rw [show ((n + 1 : Nat) : Int) - 1 = n by omega, this, if_pos (by omega)]
        simp
        omega
    · have := ih n h
      obtain ⟨p, r, hp⟩ := puts_ne ts
      simp only [spotT, puts, kepts, this, hp, consHead]
      cases n with
      | zero => cases late <;> simp [spotP] <;> omega
      | succ n =>
        rw [if_pos (by omega)]
        cases hk : kepts ts with
        | nil => simp [inT, kepts, hk] at h
        | cons k ks =>
          simp only [spotP, List.length_cons, List.getD_cons_succ]
          omega
    · cases n with
      | zero =>
        simp only [spotT, puts, kepts, spotP]
        rw [spotT_neg _ _ _ (by omega)]
        simp
      | succ n =>
        have := ih n (by simpa [inT, kepts] using h)
        simp only [spotT, puts, kepts, spotP, List.length_nil]
        rw [show ((n + 1 : Nat) : Int) - 1 = n by omega, this]
        simp

/-! a delta the other way -/
def turnT : List Tok → List UInt8 → List Tok
  | [], _ => []
  | .keep :: ts, s => .keep :: turnT ts (s.drop 1)
  | .cut :: ts, s => (s.take 1).map .put ++ turnT ts (s.drop 1)
  | .put _ :: ts, s => .cut :: turnT ts s
theorem turnT_spec (ts : List Tok) (s : List UInt8) (i j : Nat) (hs : s.length = inT ts) :
    inT (turnT ts s) = outT ts ∧ doT (turnT ts s) (doT ts s) = s ∧ pairsT (turnT ts s) j i = (pairsT ts i j).map fun p => (p.2, p.1) := by
  induction ts generalizing s i j with
  | nil =>
    have : s = [] := List.eq_nil_of_length_eq_zero (by simpa [inT, kepts] using hs)
    subst this
    exact ⟨rfl, rfl, rfl⟩
  | cons t ts ih =>
    cases t
    · simp only [inT, kepts, List.length_cons] at hs
      obtain ⟨x, s, rfl⟩ : ∃ x s', s = x :: s' := by cases s with | nil => simp at hs | cons x s => exact ⟨x, s, rfl⟩
      obtain ⟨h1, h2, h3⟩ := ih s (i + 1) (j + 1) (by simpa [inT] using hs)
      refine ⟨by simpa [inT, kepts, turnT, outT] using h1, by simp [turnT, doT, h2], by simp [turnT, pairsT, h3]⟩
    · obtain ⟨h1, h2, h3⟩ := ih s i (j + 1) hs
      refine ⟨by simpa [inT, kepts, turnT, outT] using h1, by simp [turnT, doT, h2], by simp [turnT, pairsT, h3]⟩
    · simp only [inT, kepts, List.length_cons] at hs
      obtain ⟨x, s, rfl⟩ : ∃ x s', s = x :: s' := by cases s with | nil => simp at hs | cons x s => exact ⟨x, s, rfl⟩
      obtain ⟨h1, h2, h3⟩ := ih s (i + 1) j (by simpa [inT] using hs)
      refine ⟨by simpa [inT, kepts, turnT, outT] using h1, by simp [turnT, doT, h2], by simp [turnT, pairsT, h3]⟩

/-! two deltas of one text -/
def meetT : Nat → List Tok → List Tok → List Tok × List Tok
  | 0, _, _ => ([], [])
  | f + 1, .put b :: xs, ys => (.put b :: (meetT f xs ys).1, .keep :: (meetT f xs ys).2)
  | f + 1, xs, .put b :: ys => (.keep :: (meetT f xs ys).1, .put b :: (meetT f xs ys).2)
  | f + 1, .keep :: xs, .keep :: ys => (.keep :: (meetT f xs ys).1, .keep :: (meetT f xs ys).2)
  | f + 1, .cut :: xs, .keep :: ys => (.cut :: (meetT f xs ys).1, (meetT f xs ys).2)
  | f + 1, .keep :: xs, .cut :: ys => ((meetT f xs ys).1, .cut :: (meetT f xs ys).2)
  | f + 1, .cut :: xs, .cut :: ys => meetT f xs ys
  | _ + 1, _, _ => ([], [])
def stepP (k m : Bool) : List Tok × List Tok := (if m then [if k then .keep else .cut] else [], if k then [if m then .keep else .cut] else [])
def meetP : List (List UInt8) → List Bool → List (List UInt8) → List Bool → List Tok × List Tok
  | p :: ps, k :: ks, q :: qs, m :: ms => (p.map .put ++ List.replicate q.length .keep ++ (stepP k m).1 ++ (meetP ps ks qs ms).1, List.replicate p.length .keep ++ q.map .put ++ (stepP k m).2 ++ (meetP ps ks qs ms).2)
  | p :: _, _, q :: _, _ => (p.map .put ++ List.replicate q.length .keep, List.replicate p.length .keep ++ q.map .put)
  | _, _, _, _ => ([], [])
theorem meetP_left (b : UInt8) (l : List (List UInt8)) (ks : List Bool) (r : List (List UInt8)) (ms : List Bool) (hl : l ≠ []) (hr : r ≠ []) : meetP (consHead b l) ks r ms = (.put b :: (meetP l ks r ms).1, .keep :: (meetP l ks r ms).2) := by
  cases l with
  | nil => exact absurd rfl hl
  | cons p l =>
    cases r with
    | nil => exact absurd rfl hr
    | cons q r => cases ks <;> cases ms <;> simp [consHead, meetP, List.replicate_succ]
theorem meetP_right (b : UInt8) (l : List (List UInt8)) (ks : List Bool) (r : List (List UInt8)) (ms : List Bool) (hr : r ≠ []) : meetP ([] :: l) ks (consHead b r) ms = (.keep :: (meetP ([] :: l) ks r ms).1, .put b :: (meetP ([] :: l) ks r ms).2) := by
  cases r with
  | nil => exact absurd rfl hr
  | cons q r => cases ks <;> cases ms <;> simp [consHead, meetP, List.replicate_succ]
theorem meet_eq : ∀ (f : Nat) (xs ys : List Tok), xs.length + ys.length ≤ f → inT xs = inT ys → meetP (puts xs) (kepts xs) (puts ys) (kepts ys) = meetT f xs ys
  | 0, xs, ys, hf, hi => by
    have h1 : xs = [] := List.eq_nil_of_length_eq_zero (by omega)
    have h2 : ys = [] := List.eq_nil_of_length_eq_zero (by omega)
    subst h1 h2
    rfl
  | f + 1, .put b :: xs, ys, hf, hi => by
    simp only [List.length_cons] at hf
    simp only [puts, kepts, meetT]
    rw [meetP_left _ _ _ _ _ (puts_nn xs) (puts_nn ys), meet_eq f xs ys (by omega) hi]
  | f + 1, [], .put b :: ys, hf, hi => by
    simp only [List.length_cons] at hf
    rw [meetT]
    · have := meet_eq f [] ys (by simp at hf ⊢; omega) hi
      simp only [puts, kepts] at this ⊢
      rw [meetP_right _ _ _ _ _ (puts_nn ys), this]
    · intro _ _ h; cases h
  | f + 1, .keep :: xs, .put b :: ys, hf, hi => by
    simp only [List.length_cons] at hf
    rw [meetT]
    · have := meet_eq f (.keep :: xs) ys (by simp; omega) hi
      simp only [puts, kepts] at this ⊢
      rw [meetP_right _ _ _ _ _ (puts_nn ys), this]
    · intro _ _ h; cases h
  | f + 1, .cut :: xs, .put b :: ys, hf, hi => by
    simp only [List.length_cons] at hf
    rw [meetT]
    · have := meet_eq f (.cut :: xs) ys (by simp; omega) hi
      simp only [puts, kepts] at this ⊢
      rw [meetP_right _ _ _ _ _ (puts_nn ys), this]
    · intro _ _ h; cases h
  | f + 1, .keep :: xs, .keep :: ys, hf, hi => by
    simp only [List.length_cons] at hf
    have := meet_eq f xs ys (by omega) (by simpa [inT, kepts] using hi)
    simp [puts, kepts, meetT, meetP, stepP, this]
  | f + 1, .cut :: xs, .keep :: ys, hf, hi => by
    simp only [List.length_cons] at hf
    have := meet_eq f xs ys (by omega) (by simpa [inT, kepts] using hi)
    simp [puts, kepts, meetT, meetP, stepP, this]
  | f + 1, .keep :: xs, .cut :: ys, hf, hi => by
    simp only [List.length_cons] at hf
    have := meet_eq f xs ys (by omega) (by simpa [inT, kepts] using hi)
    simp [puts, kepts, meetT, meetP, stepP, this]
  | f + 1, .cut :: xs, .cut :: ys, hf, hi => by
    simp only [List.length_cons] at hf
    have := meet_eq f xs ys (by omega) (by simpa [inT, kepts] using hi)
    simp [puts, kepts, meetT, meetP, stepP, this]
  | f + 1, [], [], hf, hi => by simp [puts, kepts, meetT, meetP]
  | f + 1, [], .keep :: ys, hf, hi => by simp [inT, kepts] at hi
  | f + 1, [], .cut :: ys, hf, hi => by simp [inT, kepts] at hi
  | f + 1, .keep :: xs, [], hf, hi => by simp [inT, kepts] at hi
  | f + 1, .cut :: xs, [], hf, hi => by simp [inT, kepts] at hi
end Go.Proofs.Ytobngncjflogcaa.AM

/-
  A delta that is made is in its form.
-/
set_option linter.unusedVariables false
set_option linter.unusedSimpArgs false
namespace Go.Proofs.Ytobngncjflogcaa.AM
open Go

def partOk (p : Part) : Prop := (p.kind = 2 ∧ p.n = 0 ∧ p.text ≠ []) ∨ ((p.kind = 1 ∨ p.kind = 3) ∧ 0 < p.n ∧ p.text = [])
def formOk : Int → List Part → Prop
  | _, [] => True
  | last, p :: l => partOk p ∧ p.kind ≠ last ∧ ¬ (last = 3 ∧ p.kind = 2) ∧ formOk p.kind l
def lastK : Int → List Part → Int
  | k, [] => k
  | _, p :: l => lastK p.kind l
theorem formOk_app (k : Int) (a b : List Part) : formOk k (a ++ b) ↔ formOk k a ∧ formOk (lastK k a) b := by
  induction a generalizing k with
  | nil => simp [formOk, lastK]
  | cons p a ih =>
    simp only [List.cons_append, formOk, lastK, ih]
    constructor
    · rintro ⟨a, b, c, d, e⟩; exact ⟨⟨a, b, c, d⟩, e⟩
    · rintro ⟨⟨a, b, c, d⟩, e⟩; exact ⟨a, b, c, d, e⟩
theorem lastK_app (k : Int) (a b : List Part) : lastK k (a ++ b) = lastK (lastK k a) b := by
  induction a generalizing k with
  | nil => rfl
  | cons p a ih => simp [lastK, ih]
theorem fit_form {p : Part} (h : partOk p) : fitF p = 0 ∨ fitF p = 2 := by
  unfold partOk at h
  unfold fitF
  grind
theorem chk_form : ∀ (k : Int) (l : List Part), formOk k l → chk k l = 0 ∨ chk k l = 2
  | _, [], _ => .inl rfl
  | k, p :: l, h => by
    obtain ⟨h1, h2, h3, h4⟩ := h
    have h5 := fit_form h1
    have h6 := chk_form _ l h4
    unfold chk
    rw [if_neg (by rintro (h | h); exact h2 h; exact h3 h)]
    split
    · rcases h5 with h | h
      · exact absurd h (by assumption)
      · exact .inr h
    · exact h6
structure Mk.Ok (m : Mk) : Prop where
  form : formOk 0 m.out
  last : lastK 0 m.out = 1 ∨ lastK 0 m.out = 0
  cut : 0 ≤ m.cut
theorem Mk.ok_new : Mk.new.Ok := ⟨trivial, .inr rfl, Int.le_refl _⟩
theorem Mk.Ok.flush {m : Mk} (h : m.Ok) : formOk 0 m.flush := by
  obtain ⟨h1, h2, h3⟩ := h
  unfold Mk.flush
  by_cases hp : m.put = []
  · rw [if_pos hp, List.append_nil, formOk_app]
    refine ⟨h1, ?_⟩
    by_cases hc : 0 < m.cut
    · rw [if_pos hc]
      exact ⟨.inr ⟨.inr rfl, hc, rfl⟩, by show (3 : Int) ≠ _; omega, by show ¬ (_ ∧ (3 : Int) = 2); omega, trivial⟩
    · rw [if_neg hc]; trivial
  · rw [if_neg hp, formOk_app, formOk_app, lastK_app]
    refine ⟨⟨h1, .inl ⟨rfl, rfl, hp⟩, by show (2 : Int) ≠ _; omega, by show ¬ (_ ∧ (2 : Int) = 2); omega, trivial⟩, ?_⟩
    by_cases hc : 0 < m.cut
    · rw [if_pos hc]
      exact ⟨.inr ⟨.inr rfl, hc, rfl⟩, by show (3 : Int) ≠ 2; omega, by show ¬ (_ ∧ (3 : Int) = 2); omega, trivial⟩
    · rw [if_neg hc]; trivial
theorem addKeep_ok {o : List Part} {n : Int} (h : formOk 0 o) (hn : 0 < n) : formOk 0 (addKeep o n) ∧ lastK 0 (addKeep o n) = 1 := by
  unfold addKeep
  cases hl : o.getLast? with
  | none =>
    have : o = [] := by simpa using hl
    subst this
    exact ⟨⟨.inr ⟨.inl rfl, hn, rfl⟩, by show (1 : Int) ≠ 0; omega, by show ¬ (_ ∧ (1 : Int) = 2); omega, trivial⟩, rfl⟩
  | some p =>
    obtain ⟨a, rfl⟩ : ∃ a, o = a ++ [p] := by
      have hne : o ≠ [] := by intro h0; subst h0; simp at hl
      refine ⟨o.dropLast, ?_⟩
      have := List.dropLast_concat_getLast hne
      rw [List.getLast?_eq_some_getLast hne] at hl
      cases hl
      exact this.symm
    rw [formOk_app] at h
    obtain ⟨h1, h2, h3, h4, _⟩ := h
    by_cases hk : p.kind = 1
    · simp only [hk, ↓reduceIte, List.dropLast_concat]
      rw [formOk_app, lastK_app]
      refine ⟨⟨h1, ?_, ?_, by show ¬ (_ ∧ (1 : Int) = 2); omega, trivial⟩, rfl⟩
      · rcases h2 with ⟨h, _⟩ | ⟨_, h5, h6⟩
        · omega
        · exact .inr ⟨.inl rfl, by show 0 < p.n + n; omega, h6⟩
      · rw [hk] at h3; exact h3
    · simp only [hk, ↓reduceIte]
      rw [formOk_app, lastK_app, lastK_app]
      refine ⟨⟨(formOk_app _ _ _).2 ⟨h1, h2, h3, h4, trivial⟩, .inr ⟨.inl rfl, hn, rfl⟩, ?_, by show ¬ (_ ∧ (1 : Int) = 2); omega, trivial⟩, rfl⟩
      show (1 : Int) ≠ p.kind
      omega
theorem Mk.Ok.tok {m : Mk} (h : m.Ok) (t : Tok) : (m.tok t).Ok := by
  cases t
  · have := addKeep_ok h.flush (n := 1) (by omega)
    simp only [Mk.tok, Mk.doKeep]
    rw [if_neg (by omega)]
    exact ⟨this.1, .inl this.2, Int.le_refl _⟩
  · exact ⟨h.form, h.last, h.cut⟩
  · exact ⟨h.form, h.last, by show 0 ≤ m.cut + 1; have := h.cut; omega⟩
theorem Mk.Ok.run {m : Mk} (h : m.Ok) (ts : List Tok) : (m.run ts).Ok := by
  induction ts generalizing m with
  | nil => exact h
  | cons t ts ih => exact ih (h.tok t)
theorem mkD_form (ts : List Tok) : formOk 0 (mkD ts) := (Mk.ok_new.run ts).flush
/-- a delta that is made is right, or too large -/
theorem mkD_check (ts : List Tok) : checkF (mkD ts) = 0 ∨ checkF (mkD ts) = 2 := by
  have := chk_form 0 _ (mkD_form ts)
  unfold checkF
  grind
theorem mkD_fit (ts : List Tok) : ∀ p ∈ mkD ts, fitF p = 0 ∨ fitF p = 2 := by
  have : ∀ (k : Int) (l : List Part), formOk k l → ∀ p ∈ l, partOk p := by
    intro k l
    induction l generalizing k with
    | nil => simp
    | cons q l ih =>
      intro h p hp
      rcases List.mem_cons.1 hp with rfl | hp
      · exact h.1
      · exact ih _ h.2.2.2 p hp
  exact fun p hp => fit_form (this 0 _ (mkD_form ts) p hp)
end Go.Proofs.Ytobngncjflogcaa.AM

/-
  A delta being made: the maker's methods.
-/
set_option linter.unusedVariables false
set_option linter.unusedSimpArgs false
namespace Go.Proofs.Ytobngncjflogcaa.AM
open Go
set_option maxRecDepth 100000
set_option maxHeartbeats 2000000

/-- a maker and its parts in memory -/
def obM (b ka : Nat) (ba : Option Nat) (n : Nat) (put : List UInt8) (cut : Int) : Ob := ⟨some b, 151, 3, [[.own ka ba 3 n, .str put, .int .i64 cut]]⟩
def obA (ba : Option Nat) (rows : List (List V)) : Ob := ⟨ba, 108, 3, rows⟩
def hMk (b : Nat) (ba : Option Nat) (m : Mk) : List (Nat × Ob) := [(0, obM b 1000000 ba m.out.length m.put m.cut), (1000000, obA ba (m.out.map encPart))]
theorem encPart_fz (p : Part) : ∀ v ∈ encPart p, Fz v := by
  intro v hv
  simp only [encPart, List.mem_cons, List.not_mem_nil, or_false] at hv
  rcases hv with rfl | rfl | rfl
  · exact .int _ _
  · exact .int _ _
  · exact .str _
theorem encParts_fz (d : List Part) : ∀ r ∈ d.map encPart, ∀ v ∈ r, Fz v := by
  intro r hr
  obtain ⟨p, _, rfl⟩ := List.mem_map.1 hr
  exact encPart_fz p
theorem obM_fz {b ka n : Nat} {ba : Option Nat} {put : List UInt8} {cut : Int} : (obM b ka ba n put cut).Fz := by
  intro r hr v hv
  simp only [obM, List.mem_singleton] at hr
  subst hr
  simp only [List.mem_cons, List.not_mem_nil, or_false] at hv
  rcases hv with rfl | rfl | rfl
  · exact .own _ _ _ _
  · exact .str _
  · exact .int _ _
theorem obA_fz {ba : Option Nat} {d : List Part} : (obA ba (d.map encPart)).Fz := encParts_fz d

def MkSpec (f : Nat) (args : List V) (m m' : Mk) (r : Option Nat → V) : Prop := ∀ b ba, Spec Try.prog f (.ptr 0 (some b) 3 0 0 :: args) (lookH (hMk b ba m)) (fun v h' => ∃ L', (∃ ba', v = r ba' ∧ L' = hMk b ba' m') ∧ h' = lookH L')
theorem spec_mk {f : Nat} {fn : Func} {ac : AC} {rv : List RV} {args : List V} {D : Array Oper → List AO → Bool} (hD : DrawOk Try.prog D) (ok : FnOk Try.prog f fn ac rv (args.length + 1) D) {m m' : Mk} (r : Option Nat → V) (hr : ∀ ba, Fz (r ba))
    (h : ∀ (b : Nat) (ba : Option Nat) (R : S → Prop), (∀ (s s' : S) (ba' : Option Nat), Ent s s' → resV s' rv (fun x => oneV x = r ba') → s'.h 0 = some (obM b 1000000 ba' m'.out.length m'.put m'.cut) → s'.h 1000000 = some (obA ba' (m'.out.map encPart)) → R s) →
      awp std (CallE Try.prog) (CallP Try.prog) ac (S0 (.ptr 0 (some b) 3 0 0 :: args) (lookH (hMk b ba m))) R (fun _ _ => False) R) : MkSpec f args m m' r := fun b ba =>
  spec_meth hD ok (fun v L' => ∃ ba', v = r ba' ∧ L' = hMk b ba' m') fun R hR => h b ba R fun s s' ba' he hres h0 h1 => hR s s' (r ba') (hMk b ba' m') he hres ⟨h0, h1, trivial⟩ (hr ba')
    (by intro p hp; simp only [hMk, List.mem_cons, List.not_mem_nil, or_false] at hp; rcases hp with rfl | rfl; exact obM_fz; exact obA_fz) ⟨ba', rfl, rfl⟩

theorem mem_of_lookH : ∀ {L : List (Nat × Ob)} {k : Nat} {o : Ob}, lookH L k = some o → (k, o) ∈ L
  | [], _, _, h => by cases h
  | (j, q) :: L, k, o, h => by
    simp only [lookH] at h
    split at h
    · rename_i hk; cases h; rw [hk]; exact List.mem_cons_self
    · exact List.mem_cons_of_mem _ (mem_of_lookH h)
theorem callG {P : Program} {f : Nat} {args args' : List V} {L : List (Nat × Ob)} {m : List (Nat × Nat)} {post : V → List (Nat × Ob) → Prop} (hs : Spec P f args' (lookH L) fun v' h' => ∃ L', post v' L' ∧ h' = lookH L') {h : Hp} {K : V → Hp → Prop} (ha : Args h m args args')
    (hdom : ∀ k o, lookH L k = some o → ∃ q ∈ m, q.1 = k) (hm : ∀ q ∈ m, lab m q.1 = q.2 ∧ bal m q.2 = q.1 ∧ ∀ o, lookH L q.1 = some o → (h q.2).map (Ob.ren (bal m)) = some o ∧ o.Fz)
    (hK : ∀ v L', post v L' → K (v.ren (lab m)) (h.upd m (lookH L'))) : CallE P f args h K :=
  ⟨h, HEnt.refl h, m, args', lookH L, _, hs, ha, hdom, hm, by rintro v h' ⟨L', hp, rfl⟩; exact hK v L' hp⟩

theorem ren_parts (d : List Part) (f : Nat → Nat) : (d.map encPart).map (·.map (V.rl f)) = d.map encPart := by
  simp [List.map_map, Function.comp_def, encPart, V.rl]
theorem obA_ren (ba : Option Nat) (d : List Part) (f : Nat → Nat) : (obA ba (d.map encPart)).ren f = obA ba (d.map encPart) := by
  simp only [Ob.ren, obA, ren_parts]
theorem obM_ren (b ka n : Nat) (ba : Option Nat) (put : List UInt8) (cut : Int) (f : Nat → Nat) : (obM b ka ba n put cut).ren f = obM b (f ka) ba n put cut := by
  simp [Ob.ren, obM, V.rl]
/-- a maker's method is called -/
theorem call_mk {f : Nat} {args args' : List V} {m m' : Mk} {r : Option Nat → V} (hs : MkSpec f args' m m' r) {h : Hp} {K : V → Hp → Prop} {k ka b : Nat} {ba : Option Nat} (hne : k ≠ ka) (hargs : ∀ h, Args h [(0, k), (1000000, ka)] args args')
    (hk : h k = some (obM b ka ba m.out.length m.put m.cut)) (hka : h ka = some (obA ba (m.out.map encPart)))
    (hK : ∀ ba', K ((r ba').ren (lab [(0, k), (1000000, ka)])) (Hp.put (Hp.put h k (obM b ka ba' m'.out.length m'.put m'.cut)) ka (obA ba' (m'.out.map encPart)))) : CallE Try.prog f (.ptr k (some b) 3 0 0 :: args) h K := by
  have hne' : ¬ ka = k := fun e => hne e.symm
  refine callG (hs b ba) (m := [(0, k), (1000000, ka)]) (.cons ?_ (hargs h)) (fun j o hj => ?_) (fun q hq => ?_) ?_
  · have := Arg.same (h := h) (m := [(0, k), (1000000, ka)]) (.ptr k (some b) 3 0 0)
    simpa [V.ren, V.rl, bal] using this
  · simp only [hMk, lookH] at hj
    split at hj
    · rename_i h0; exact ⟨(0, k), by simp, h0.symm⟩
    · split at hj
      · rename_i h0; exact ⟨(1000000, ka), by simp, h0.symm⟩
      · cases hj
  · simp only [List.mem_cons, List.not_mem_nil, or_false] at hq
    rcases hq with rfl | rfl
    · refine ⟨by simp [lab], by simp [bal], fun o ho => ?_⟩
      simp only [hMk, lookH, ↓reduceIte, Option.some.injEq] at ho
      subst ho
      exact ⟨by rw [hk]; simp [Ob.ren, obM, V.rl, bal, hne'], obM_fz⟩
    · refine ⟨by simp [lab], by simp [bal, hne'], fun o ho => ?_⟩
      simp [hMk, lookH] at ho
      subst ho
      exact ⟨by rw [hka]; simp only [Option.map_some, Ob.ren, obA, ren_parts], obA_fz⟩
  · rintro v L' ⟨ba', rfl, rfl⟩
    have e : h.upd [(0, k), (1000000, ka)] (lookH (hMk b ba' m')) = Hp.put (Hp.put h k (obM b ka ba' m'.out.length m'.put m'.cut)) ka (obA ba' (m'.out.map encPart)) := by
      funext i
      by_cases h1 : ka = i
      · subst h1
        simp [Hp.upd, Hp.put, bal, hMk, lookH, hne', obA_ren]
      · by_cases h2 : k = i
        · subst h2
          simp [Hp.upd, Hp.put, bal, hMk, lookH, h1, hne, obM_ren, lab]
        · have h3 : ¬ i = ka := fun e => h1 e.symm
          have h4 : ¬ i = k := fun e => h2 e.symm
          simp [Hp.upd, Hp.put, h1, h2, h3, h4]
    rw [e]
    exact hK ba'

/-- how a maker's method ends -/
def MkEnd (rv : List RV) (r : Option Nat → List V) (b n' : Nat) (p' : List UInt8) (c' : Int) (rows' : List (List V)) (R : S → Prop) : Prop :=
  ∀ (s s' : S) (ba' : Option Nat) (n2 : Nat) (p2 : List UInt8) (c2 : Int) (rows2 : List (List V)), Ent s s' → s'.h 0 = some ⟨some b, 151, 3, [[.own 1000000 ba' 3 n2, .str p2, .int .i64 c2]]⟩ → s'.h 1000000 = some ⟨ba', 108, 3, rows2⟩ →
    Ret rv (r ba') s' → n2 = n' ∧ p2 = p' ∧ c2 = c' ∧ rows2 = rows' → R s
theorem mkEnd_of {rv : List RV} {r : Option Nat → List V} {b : Nat} {m' : Mk} {R : S → Prop} (hR : ∀ (s s' : S) (ba' : Option Nat), Ent s s' → resV s' rv (fun x => oneV x = oneV (r ba')) → s'.h 0 = some (obM b 1000000 ba' m'.out.length m'.put m'.cut) → s'.h 1000000 = some (obA ba' (m'.out.map encPart)) → R s) :
    MkEnd rv r b m'.out.length m'.put m'.cut (m'.out.map encPart) R := by
  rintro s s' ba' n2 p2 c2 rows2 he h0 h1 hr ⟨rfl, rfl, rfl, rfl⟩
  exact hR s s' ba' he (resV_mono rv _ _ (fun x hx => by rw [hx]) hr) h0 h1
def M0 (b : Nat) (ba : Option Nat) (n : Nat) (put : List UInt8) (cut : Int) (rows : List (List V)) : List (Nat × Ob) := [(0, ⟨some b, 151, 3, [[.own 1000000 ba 3 n, .str put, .int .i64 cut]]⟩), (1000000, ⟨ba, 108, 3, rows⟩)]
theorem specMk {f : Nat} {fn : Func} {ac : AC} {rv : List RV} {args : List V} {D : Array Oper → List AO → Bool} (hD : DrawOk Try.prog D) (ok : FnOk Try.prog f fn ac rv (args.length + 1) D) {m m' : Mk} (r : Option Nat → List V) (hr : ∀ ba, Fz (oneV (r ba)))
    (h : ∀ (b : Nat) (ba : Option Nat) (R : S → Prop), MkEnd rv r b m'.out.length m'.put m'.cut (m'.out.map encPart) R →
      awp std (CallE Try.prog) (CallP Try.prog) ac (S0 (.ptr 0 (some b) 3 0 0 :: args) (lookH (M0 b ba m.out.length m.put m.cut (m.out.map encPart)))) R (fun _ _ => False) R) : MkSpec f args m m' (fun ba => oneV (r ba)) :=
  spec_mk hD ok (fun ba => oneV (r ba)) hr fun b ba R hR => h b ba R (mkEnd_of hR)

def ac_flush : AC := .seq (.seq (.region false [
    ⟨some 2, none, .mov (.t 0)⟩,
    ⟨some 3, none, .nilchk (.t 2)⟩,
    ⟨some 4, none, .faddr 1 (.t 3)⟩,
    ⟨some 5, none, .load1 (.t 4)⟩,
    ⟨some 6, none, .bin .neq (.t 5) (.c (.string ⟨#[]⟩))⟩])
  (.cond (.t 6)
    (.region true [
      ⟨some 7, none, .mov (.t 0)⟩,
      ⟨some 8, none, .mov (.t 0)⟩,
      ⟨some 9, none, .nilchk (.t 8)⟩,
      ⟨some 10, none, .faddr 0 (.t 9)⟩,
      ⟨some 11, none, .load1 (.t 10)⟩,
      ⟨some 12, none, .mov (.t 0)⟩,
      ⟨some 13, none, .nilchk (.t 12)⟩,
      ⟨some 14, none, .faddr 1 (.t 13)⟩,
      ⟨some 15, none, .load1 (.t 14)⟩,
      ⟨some 16, none, .build [(.int .i64 0), (.int .i64 0), (.string ⟨#[]⟩)] [(0, 1, (.c (.int .i64 2))), (2, 1, (.t 15))]⟩,
      ⟨some 17, none, .bslice 108 3 [(.t 16)]⟩,
      ⟨some 18, none, .append 108 3 32 (.t 11) (.t 17)⟩,
      ⟨some 19, none, .nilchk (.t 7)⟩,
      ⟨some 20, none, .faddr 0 (.t 19)⟩,
      ⟨none, none, .store 1 (.t 20) (.t 18)⟩])
    (.skip)))
  (.seq (.seq (.region false [
    ⟨some 21, none, .mov (.t 0)⟩,
    ⟨some 22, none, .nilchk (.t 21)⟩,
    ⟨some 23, none, .faddr 2 (.t 22)⟩,
    ⟨some 24, none, .load1 (.t 23)⟩,
    ⟨some 25, none, .bin .gtr (.t 24) (.c (.int .i64 0))⟩])
  (.cond (.t 25)
    (.region true [
      ⟨some 26, none, .mov (.t 0)⟩,
      ⟨some 27, none, .mov (.t 0)⟩,
      ⟨some 28, none, .nilchk (.t 27)⟩,
      ⟨some 29, none, .faddr 0 (.t 28)⟩,
      ⟨some 30, none, .load1 (.t 29)⟩,
      ⟨some 31, none, .mov (.t 0)⟩,
      ⟨some 32, none, .nilchk (.t 31)⟩,
      ⟨some 33, none, .faddr 2 (.t 32)⟩,
      ⟨some 34, none, .load1 (.t 33)⟩,
      ⟨some 35, none, .build [(.int .i64 0), (.int .i64 0), (.string ⟨#[]⟩)] [(0, 1, (.c (.int .i64 3))), (1, 1, (.t 34))]⟩,
      ⟨some 36, none, .bslice 108 3 [(.t 35)]⟩,
      ⟨some 37, none, .append 108 3 32 (.t 30) (.t 36)⟩,
      ⟨some 38, none, .nilchk (.t 26)⟩,
      ⟨some 39, none, .faddr 0 (.t 38)⟩,
      ⟨none, none, .store 1 (.t 39) (.t 37)⟩])
    (.skip)))
  (.region false [
    ⟨some 40, none, .mov (.t 0)⟩,
    ⟨some 41, none, .mov (.t 0)⟩,
    ⟨some 42, none, .nilchk (.t 40)⟩,
    ⟨some 43, none, .faddr 1 (.t 42)⟩,
    ⟨none, none, .store 1 (.t 43) (.c (.string ⟨#[]⟩))⟩,
    ⟨some 44, none, .nilchk (.t 41)⟩,
    ⟨some 45, none, .faddr 2 (.t 44)⟩,
    ⟨none, none, .store 1 (.t 45) (.c (.int .i64 0))⟩]))
theorem ok_flush : FnOk Try.prog 110 Try.f110 ac_flush [] 1 drawD := ⟨Try.func110, by decide +kernel, by kernel_rfl, by kernel_rfl, by decide +kernel⟩
theorem vc_flush (P : Prim) (hP : P = std) (T T1 : CallT) (b : Nat) (ba : Option Nat) (n : Nat) (put : List UInt8) (cut : Int) (rows : List (List V)) (m : Mk) (hn : n = m.out.length) (hrows : rows = m.out.map encPart) (hput : put = m.put) (hcut : cut = m.cut) (hbd : m.out.length ≤ 100000000) (rows' : List (List V)) (n' : Nat) (hn' : n' = m.flush.length) (hrows' : rows' = m.flush.map encPart)
    (R : S → Prop) (hR : MkEnd [] (fun _ => []) b n' [] 0 rows' R) : awp P T T1 ac_flush (S0 [.ptr 0 (some b) 3 0 0] (lookH (M0 b ba n put cut rows))) R (fun _ _ => False) R := by
  cbv
  repeat' (first | (intro β; try cbv) | (refine And.intro (by assumption) ?_; try cbv) | (refine br_cases (fun h => ?_) (fun h => ?_) <;> try cbv) | (refine Exists.intro _ (And.intro (by assumption) ?_); try cbv) | (refine hc1 _ _ ?_; try cbv) | (refine hc2 _ _ ?_; try cbv) | (refine hc3 _ _ ?_; try cbv) | (refine hc4 _ _ ?_; try cbv) | (refine hc5 _ _ ?_; try cbv) | (refine hc6 _ _ ?_; try cbv) | (refine And.intro (by (clear hR; subst hP; simp [std, I64, nc] at * <;> first | omega | grind)) ?_; try cbv))
  all_goals
    refine hR _ _ _ _ _ _ _ (Ent.refl _) rfl rfl rfl ?_
    cbv
    clear hR; subst hP; subst hn' hrows' hn hrows hput hcut; simp [std, nc, Mk.flush] at *
    try simp [*]
    try exact ⟨rfl, rfl⟩
    try rfl
theorem sp_flush (m : Mk) (hbd : m.out.length ≤ 100000000) : MkSpec 110 [] m ⟨m.flush, [], 0⟩ (fun _ => .tup []) :=
  specMk dOk ok_flush (fun _ => []) (fun _ => .tup _ (by simp)) fun b ba R hR => vc_flush std rfl _ _ b ba _ _ _ _ m rfl rfl rfl rfl hbd _ _ rfl rfl R hR

def ac_mput : AC := .region false [
    ⟨some 4, none, .mov (.t 0)⟩,
    ⟨some 5, none, .nilchk (.t 4)⟩,
    ⟨some 6, none, .faddr 1 (.t 5)⟩,
    ⟨some 7, none, .load1 (.t 6)⟩,
    ⟨some 8, none, .mov (.t 1)⟩,
    ⟨some 9, none, .bin .add (.t 7) (.t 8)⟩,
    ⟨some 10, none, .nilchk (.t 4)⟩,
    ⟨some 11, none, .faddr 1 (.t 10)⟩,
    ⟨none, none, .store 1 (.t 11) (.t 9)⟩]
theorem ok_mput : FnOk Try.prog 82 Try.f82 ac_mput [] 2 drawD := ⟨Try.func82, by decide +kernel, by kernel_rfl, by kernel_rfl, by decide +kernel⟩
theorem vc_mput (P : Prim) (hP : P = std) (T T1 : CallT) (b : Nat) (ba : Option Nat) (n : Nat) (put s : List UInt8) (cut : Int) (rows : List (List V)) (hbd : (put.length : Int) + s.length ≤ 1000000000) (p' : List UInt8) (hp' : p' = put ++ s)
    (R : S → Prop) (hR : MkEnd [] (fun _ => []) b n p' cut rows R) : awp P T T1 ac_mput (S0 [.ptr 0 (some b) 3 0 0, .str s] (lookH (M0 b ba n put cut rows))) R (fun _ _ => False) R := by
  cbv
  repeat' (first | (intro β; try cbv) | (refine And.intro (by assumption) ?_; try cbv) | (refine br_cases (fun h => ?_) (fun h => ?_) <;> try cbv) | (refine Exists.intro _ (And.intro (by assumption) ?_); try cbv) | (refine hc1 _ _ ?_; try cbv) | (refine hc2 _ _ ?_; try cbv) | (refine hc3 _ _ ?_; try cbv) | (refine hc4 _ _ ?_; try cbv) | (refine hc5 _ _ ?_; try cbv) | (refine hc6 _ _ ?_; try cbv) | (refine And.intro (by (clear hR; subst hP; simp [std, I64, nc] at * <;> first | omega | grind)) ?_; try cbv))
  all_goals
    refine hR _ _ _ _ _ _ _ (Ent.refl _) rfl rfl rfl ?_
    cbv
    clear hR; subst hP; subst hp'; simp [std]
theorem sp_mput (m : Mk) (s : List UInt8) (hbd : (m.put.length : Int) + s.length ≤ 1000000000) : MkSpec 82 [.str s] m (m.doPut s) (fun _ => .tup []) :=
  specMk dOk ok_mput (fun _ => []) (fun _ => .tup _ (by simp)) fun b ba R hR => vc_mput std rfl _ _ b ba _ _ s _ _ hbd _ rfl R hR

def ac_mcut : AC := .region false [
    ⟨some 4, none, .mov (.t 0)⟩,
    ⟨some 5, none, .nilchk (.t 4)⟩,
    ⟨some 6, none, .faddr 2 (.t 5)⟩,
    ⟨some 7, none, .load1 (.t 6)⟩,
    ⟨some 8, none, .mov (.t 1)⟩,
    ⟨some 9, none, .bin .add (.t 7) (.t 8)⟩,
    ⟨some 10, none, .nilchk (.t 4)⟩,
    ⟨some 11, none, .faddr 2 (.t 10)⟩,
    ⟨none, none, .store 1 (.t 11) (.t 9)⟩]
theorem ok_mcut : FnOk Try.prog 83 Try.f83 ac_mcut [] 2 drawD := ⟨Try.func83, by decide +kernel, by kernel_rfl, by kernel_rfl, by decide +kernel⟩
theorem vc_mcut (P : Prim) (hP : P = std) (T T1 : CallT) (b : Nat) (ba : Option Nat) (n : Nat) (put : List UInt8) (cut k : Int) (rows : List (List V)) (hbd : I64 (cut + k)) (c' : Int) (hc' : c' = cut + k)
    (R : S → Prop) (hR : MkEnd [] (fun _ => []) b n put c' rows R) : awp P T T1 ac_mcut (S0 [.ptr 0 (some b) 3 0 0, .int .i64 k] (lookH (M0 b ba n put cut rows))) R (fun _ _ => False) R := by
  cbv
  repeat' (first | (intro β; try cbv) | (refine And.intro (by assumption) ?_; try cbv) | (refine br_cases (fun h => ?_) (fun h => ?_) <;> try cbv) | (refine Exists.intro _ (And.intro (by assumption) ?_); try cbv) | (refine hc1 _ _ ?_; try cbv) | (refine hc2 _ _ ?_; try cbv) | (refine hc3 _ _ ?_; try cbv) | (refine hc4 _ _ ?_; try cbv) | (refine hc5 _ _ ?_; try cbv) | (refine hc6 _ _ ?_; try cbv) | (refine And.intro (by (clear hR; subst hP; simp [std, I64, nc] at * <;> first | omega | grind)) ?_; try cbv))
  all_goals
    refine hR _ _ _ _ _ _ _ (Ent.refl _) rfl rfl rfl ?_
    cbv
    clear hR; subst hP; subst hc'; simp [std]
theorem sp_mcut (m : Mk) (k : Int) (hbd : I64 (m.cut + k)) : MkSpec 83 [.int .i64 k] m (m.doCut k) (fun _ => .tup []) :=
  specMk dOk ok_mcut (fun _ => []) (fun _ => .tup _ (by simp)) fun b ba R hR => vc_mcut std rfl _ _ b ba _ _ _ k _ hbd _ rfl R hR

/-! Keep, Done -/
theorem ansMk {f : Nat} {args : List V} {m m' : Mk} {r : Option Nat → V} (hs : MkSpec f args m m' r) (ha : args.all V.pl = true) {k ka b : Nat} {ba : Option Nat} (hne : k ≠ ka) {h : Hp} {K : V → Hp → Prop}
    (hk : h k = some ⟨some b, 151, 3, [[.own ka ba 3 m.out.length, .str m.put, .int .i64 m.cut]]⟩) (hka : h ka = some ⟨ba, 108, 3, m.out.map encPart⟩)
    (hK : ∀ ba', K ((r ba').ren (lab [(0, k), (1000000, ka)])) (Hp.put (Hp.put h k ⟨some b, 151, 3, [[.own ka ba' 3 m'.out.length, .str m'.put, .int .i64 m'.cut]]⟩) ka ⟨ba', 108, 3, m'.out.map encPart⟩)) : CallE Try.prog f (.ptr k (some b) 3 0 0 :: args) h K :=
  call_mk hs hne (fun h => args_plain ha) hk hka hK
/-- a call of a maker's method, as a text's proof takes it -/
def MkCall (T : CallT) (f : Nat) (k ka b : Nat) (ba : Option Nat) (args : List V) (n : Nat) (put : List UInt8) (cut : Int) (rows : List (List V)) (r : Option Nat → V) (n' : Nat) (put' : List UInt8) (cut' : Int) (rows' : List (List V)) : Prop :=
  ∀ (h : Hp) (K : V → Hp → Prop), h k = some ⟨some b, 151, 3, [[.own ka ba 3 n, .str put, .int .i64 cut]]⟩ → h ka = some ⟨ba, 108, 3, rows⟩ →
    (∀ ba', K (r ba') (Hp.put (Hp.put h k ⟨some b, 151, 3, [[.own ka ba' 3 n', .str put', .int .i64 cut']]⟩) ka ⟨ba', 108, 3, rows'⟩)) → T f (.ptr k (some b) 3 0 0 :: args) h K
theorem mkCall {f : Nat} {args : List V} {m m' : Mk} {r r' : Option Nat → V} (hs : MkSpec f args m m' r) (ha : args.all V.pl = true) (k ka b : Nat) (ba : Option Nat) (hne : k ≠ ka) (hr : ∀ ba', (r ba').ren (lab [(0, k), (1000000, ka)]) = r' ba') :
    MkCall (CallE Try.prog) f k ka b ba args m.out.length m.put m.cut (m.out.map encPart) r' m'.out.length m'.put m'.cut (m'.out.map encPart) := fun h K hk hka hK => ansMk hs ha hne hk hka fun ba' => by rw [hr]; exact hK ba'

end Go.Proofs.Ytobngncjflogcaa.AM

/-
  A delta being made: Keep, Done.
-/
set_option linter.unusedVariables false
set_option linter.unusedSimpArgs false
namespace Go.Proofs.Ytobngncjflogcaa.AM
open Go
set_option maxRecDepth 100000
set_option maxHeartbeats 2000000
def ac_mkeep : AC := .seq (.seq (.region false [
    ⟨some 5, none, .mov (.t 1)⟩,
    ⟨some 6, none, .bin .eql (.t 5) (.c (.int .i64 0))⟩])
  (.cond (.t 6)
    (.ret)
    (.skip)))
  (.seq (.region false [
    ⟨some 7, none, .mov (.t 0)⟩,
    ⟨some 8, none, .call 110 [(.t 7)]⟩])
  (.seq (.seq (.region false [
    ⟨some 9, none, .mov (.t 0)⟩,
    ⟨some 10, none, .nilchk (.t 9)⟩,
    ⟨some 11, none, .faddr 0 (.t 10)⟩,
    ⟨some 12, none, .load1 (.t 11)⟩,
    ⟨some 13, none, .len false (.t 12)⟩,
    ⟨some 14, none, .bin .sub (.t 13) (.c (.int .i64 1))⟩,
    ⟨some 4, none, .mov (.t 14)⟩])
  (.seq (.region false [
    ⟨some 15, none, .mov (.t 4)⟩,
    ⟨some 16, none, .bin .geq (.t 15) (.c (.int .i64 0))⟩,
    ⟨some 17, none, .mov (.t 16)⟩,
    ⟨some 18, some (17, true), .mov (.t 0)⟩,
    ⟨some 19, some (17, true), .nilchk (.t 18)⟩,
    ⟨some 20, some (17, true), .faddr 0 (.t 19)⟩,
    ⟨some 21, some (17, true), .load1 (.t 20)⟩,
    ⟨some 22, some (17, true), .mov (.t 4)⟩,
    ⟨some 23, some (17, true), .iaddr 3 (.t 21) (.t 22)⟩,
    ⟨some 24, some (17, true), .faddr 0 (.t 23)⟩,
    ⟨some 25, some (17, true), .load1 (.t 24)⟩,
    ⟨some 26, some (17, true), .bin .eql (.t 25) (.c (.int .i64 1))⟩,
    ⟨some 27, none, .pick (.t 17) (.t 26) (.c (.bool false))⟩])
  (.cond (.t 27)
    (.seq (.region false [
      ⟨some 28, none, .mov (.t 0)⟩,
      ⟨some 29, none, .nilchk (.t 28)⟩,
      ⟨some 30, none, .faddr 0 (.t 29)⟩,
      ⟨some 31, none, .load1 (.t 30)⟩,
      ⟨some 32, none, .mov (.t 4)⟩,
      ⟨some 33, none, .iaddr 3 (.t 31) (.t 32)⟩,
      ⟨some 34, none, .faddr 1 (.t 33)⟩,
      ⟨some 35, none, .load1 (.t 34)⟩,
      ⟨some 36, none, .mov (.t 1)⟩,
      ⟨some 37, none, .bin .add (.t 35) (.t 36)⟩,
      ⟨some 38, none, .iaddr 3 (.t 31) (.t 32)⟩,
      ⟨some 39, none, .faddr 1 (.t 38)⟩,
      ⟨none, none, .store 1 (.t 39) (.t 37)⟩])
    (.ret))
    (.skip))))
  (.region false [
    ⟨some 40, none, .mov (.t 0)⟩,
    ⟨some 41, none, .mov (.t 0)⟩,
    ⟨some 42, none, .nilchk (.t 41)⟩,
    ⟨some 43, none, .faddr 0 (.t 42)⟩,
    ⟨some 44, none, .load1 (.t 43)⟩,
    ⟨some 45, none, .mov (.t 1)⟩,
    ⟨some 46, none, .build [(.int .i64 0), (.int .i64 0), (.string ⟨#[]⟩)] [(0, 1, (.c (.int .i64 1))), (1, 1, (.t 45))]⟩,
    ⟨some 47, none, .bslice 108 3 [(.t 46)]⟩,
    ⟨some 48, none, .append 108 3 32 (.t 44) (.t 47)⟩,
    ⟨some 49, none, .nilchk (.t 40)⟩,
    ⟨some 50, none, .faddr 0 (.t 49)⟩,
    ⟨none, none, .store 1 (.t 50) (.t 48)⟩])))
theorem ok_mkeep : FnOk Try.prog 81 Try.f81 ac_mkeep [] 2 drawD := ⟨Try.func81, by decide +kernel, by kernel_rfl, by kernel_rfl, by decide +kernel⟩
theorem vc_mkeep (P : Prim) (hP : P = std) (T T1 : CallT) (b : Nat) (ba : Option Nat) (n : Nat) (put : List UInt8) (cut k : Int) (rows : List (List V)) (m : Mk) (hn : n = m.out.length) (hrows : rows = m.out.map encPart) (hput : put = m.put) (hcut : cut = m.cut)
    (nf : Nat) (rowsf : List (List V)) (hnf : nf = m.flush.length) (hrowsf : rowsf = m.flush.map encPart) (hbd : m.flush.length ≤ 100000000) (hbk : ∀ p ∈ m.flush, I64 (p.n + k))
    (hc1 : MkCall T 110 0 1000000 b ba [] n put cut rows (fun _ => .tup []) nf [] 0 rowsf)
    (n' : Nat) (p' : List UInt8) (c' : Int) (rows' : List (List V)) (hn' : n' = (m.doKeep k).out.length) (hrows' : rows' = (m.doKeep k).out.map encPart) (hp' : p' = (m.doKeep k).put) (hc' : c' = (m.doKeep k).cut)
    (R : S → Prop) (hR : MkEnd [] (fun _ => []) b n' p' c' rows' R) : awp P T T1 ac_mkeep (S0 [.ptr 0 (some b) 3 0 0, .int .i64 k] (lookH (M0 b ba n put cut rows))) R (fun _ _ => False) R := by
  cbv
  refine br_cases (fun h => ?_) (fun h => ?_)
  · cbv
    refine hR _ _ _ _ _ _ _ (Ent.refl _) rfl rfl rfl ?_
    cbv
    clear hR hc1; subst hP; subst hn' hrows' hn hrows hput hcut hp' hc'; simp [std] at h; simp [Mk.doKeep, h]
  cbv
  have hk0 : k ≠ 0 := by clear hR hc1; subst hP; simpa [std] using h
  refine hc1 _ _ rfl rfl fun ba1 => ?_
  clear hc1
  cbv
  have ho1 : P.i64 (P.sub (P.int nf) 1) := by clear hR; subst hP; simp only [std, I64, hnf]; omega
  refine ⟨ho1, ?_⟩
  rcases List.eq_nil_or_concat m.flush with hf | ⟨pre, ⟨qk, qn, qt⟩, hf⟩
  · refine br_cases (fun h => ?_) (fun h => ?_)
    · exfalso; clear hR; subst hP; rw [hf] at hnf; simp [std, hnf] at h
    cbv
    repeat' (first | (intro β; try cbv) | (refine And.intro (by assumption) ?_; try cbv) | (refine br_cases (fun h => ?_) (fun h => ?_) <;> try cbv) | (refine Exists.intro _ (And.intro (by assumption) ?_); try cbv) | (refine hc1 _ _ ?_; try cbv) | (refine hc2 _ _ ?_; try cbv) | (refine hc3 _ _ ?_; try cbv) | (refine hc4 _ _ ?_; try cbv) | (refine hc5 _ _ ?_; try cbv) | (refine hc6 _ _ ?_; try cbv) | (refine And.intro (by (clear hR; subst hP; simp [std, I64, nc] at * <;> first | omega | grind)) ?_; try cbv))
    all_goals
      refine hR _ _ _ _ _ _ _ (Ent.refl _) rfl rfl rfl ?_
      cbv
      clear hR; subst hP; subst hn' hrows' hn hrows hput hcut hp' hc' hnf hrowsf
      simp [Mk.doKeep, hk0, hf, addKeep, std, encPart]
  · rw [List.concat_eq_append] at hf
    have hq := hbk ⟨qk, qn, qt⟩ (by rw [hf]; simp)
    simp only at hq
    have hrow : P.row rowsf (P.nat (P.sub (P.int nf) 1)) [.int .i64 qk, .int .i64 qn, .str qt] := by
      clear hR; subst hP; rw [hrowsf, hnf, hf]; simp [std, encPart]
    have hnn : nf = pre.length + 1 := by rw [hnf, hf]; simp
    have ho2 : P.leP 0 (P.sub (P.int nf) 1) := by clear hR; subst hP; simp only [std, hnn]; omega
    have ho3 : P.ltP (P.sub (P.int nf) 1) (P.int nf) := by clear hR; subst hP; simp only [std, hnn]; omega
    have ho4 : P.i64 (P.add qn k) := by clear hR; subst hP; exact hq
    refine br_cases (fun h => ?_) (fun h => ?_)
    rotate_left
    · exfalso; clear hR; subst hP; simp [std, hnn] at h
    cbv
    repeat' (first | (intro β; try cbv) | (refine And.intro (by assumption) ?_; try cbv) | (refine br_cases (fun h => ?_) (fun h => ?_) <;> try cbv) | (refine Exists.intro _ (And.intro (by assumption) ?_); try cbv) | (refine hc1 _ _ ?_; try cbv) | (refine hc2 _ _ ?_; try cbv) | (refine hc3 _ _ ?_; try cbv) | (refine hc4 _ _ ?_; try cbv) | (refine hc5 _ _ ?_; try cbv) | (refine hc6 _ _ ?_; try cbv) | (refine And.intro (by (clear hR; subst hP; simp [std, I64, nc] at * <;> first | omega | grind)) ?_; try cbv))
    all_goals
      refine hR _ _ _ _ _ _ _ (Ent.refl _) rfl rfl rfl ?_
      cbv
      clear hR hrow ho1 ho2 ho3 ho4 hbk; subst hP; subst hn' hrows' hn hrows hput hcut hp' hc' hrowsf
      simp [std] at *
      simp [Mk.doKeep, hk0, hf, addKeep, encPart, *]
theorem sp_mkeep (m : Mk) (k : Int) (hbd : m.flush.length ≤ 100000000) (hbk : ∀ p ∈ m.flush, I64 (p.n + k)) (hbo : m.out.length ≤ 100000000) : MkSpec 81 [.int .i64 k] m (m.doKeep k) (fun _ => .tup []) :=
  specMk dOk ok_mkeep (fun _ => []) (fun _ => .tup _ (by simp)) fun b ba R hR => vc_mkeep std rfl _ _ b ba _ _ _ k _ m rfl rfl rfl rfl _ _ rfl rfl hbd hbk (mkCall (sp_flush m hbo) rfl 0 1000000 b ba (by decide) (fun _ => rfl)) _ _ _ _ rfl rfl rfl rfl R hR

def ac_mdone : AC := .seq (.region false [
    ⟨some 2, none, .mov (.c (.slice none 0 0))⟩])
  (.seq (.region false [
    ⟨some 3, none, .mov (.t 0)⟩,
    ⟨some 4, none, .call 110 [(.t 3)]⟩])
  (.seq (.region false [
    ⟨some 5, none, .mov (.t 0)⟩,
    ⟨some 6, none, .nilchk (.t 5)⟩,
    ⟨some 7, none, .faddr 0 (.t 6)⟩,
    ⟨some 8, none, .load1 (.t 7)⟩,
    ⟨some 2, none, .mov (.t 8)⟩])
  (.ret)))
theorem ok_mdone : FnOk Try.prog 84 Try.f84 ac_mdone [.t 2] 1 drawD := ⟨Try.func84, by decide +kernel, by kernel_rfl, by kernel_rfl, by decide +kernel⟩
theorem vc_mdone (P : Prim) (hP : P = std) (T T1 : CallT) (b : Nat) (ba : Option Nat) (n : Nat) (put : List UInt8) (cut : Int) (rows : List (List V)) (nf : Nat) (rowsf : List (List V))
    (hc1 : MkCall T 110 0 1000000 b ba [] n put cut rows (fun _ => .tup []) nf [] 0 rowsf)
    (R : S → Prop) (hR : MkEnd [.t 2] (fun ba' => [.own 1000000 ba' 3 nf]) b nf [] 0 rowsf R) : awp P T T1 ac_mdone (S0 [.ptr 0 (some b) 3 0 0] (lookH (M0 b ba n put cut rows))) R (fun _ _ => False) R := by
  cbv
  refine hc1 _ _ rfl rfl fun ba1 => ?_
  cbv
  exact hR _ _ _ _ _ _ _ (Ent.refl _) rfl rfl rfl ⟨rfl, rfl, rfl, rfl⟩
theorem sp_mdone (m : Mk) (hbo : m.out.length ≤ 100000000) : MkSpec 84 [] m ⟨m.flush, [], 0⟩ (fun ba' => .own 1000000 ba' 3 m.flush.length) :=
  specMk dOk ok_mdone (fun ba' => [.own 1000000 ba' 3 m.flush.length]) (fun _ => .own _ _ _ _) fun b ba R hR => vc_mdone std rfl _ _ b ba _ _ _ _ _ _ (mkCall (sp_flush m hbo) rfl 0 1000000 b ba (by decide) (fun _ => rfl)) R hR
end Go.Proofs.Ytobngncjflogcaa.AM

/-
  Deltas byte by byte, the references' way: places; a delta of places.
-/
set_option linter.unusedVariables false
set_option linter.unusedSimpArgs false
namespace Go.Proofs.Ytobngncjflogcaa.AM
open Go
set_option maxRecDepth 100000
set_option maxHeartbeats 2000000
/-! plain -/
def plRun (m : Mk) : List (List UInt8) → List Bool → Mk
  | p :: ps, k :: ks => plRun (if k then (m.doPut p).doKeep 1 else (m.doPut p).doCut 1) ps ks
  | p :: _, [] => m.doPut p
  | [], _ => m
theorem plRun_consHead (m : Mk) (b : UInt8) (l : List (List UInt8)) (ks : List Bool) (h : l ≠ []) : plRun m (consHead b l) ks = plRun (m.doPut [b]) l ks := by
  cases l with
  | nil => exact absurd rfl h
  | cons p r => cases ks <;> simp [consHead, plRun, Mk.doPut]
theorem plRun_eq (m : Mk) (ts : List Tok) : plRun m (puts ts) (kepts ts) = m.run ts := by
  induction ts generalizing m with
  | nil => simp [puts, kepts, plRun, Mk.run, Mk.doPut]
  | cons t ts ih =>
    have hs : m.run (t :: ts) = (m.tok t).run ts := rfl
    rw [hs, ← ih]
    cases t
    · simp [puts, kepts, plRun, Mk.tok, Mk.doPut]
    · simp only [puts, kepts, Mk.tok]
      exact plRun_consHead _ _ _ _ (puts_nn ts)
    · simp [puts, kepts, plRun, Mk.tok, Mk.doPut]
/-- one place -/
def plStep (m : Mk) (p : List UInt8) (k : Bool) : Mk := if k then (m.doPut p).doKeep 1 else (m.doPut p).doCut 1
def strRows (l : List (List UInt8)) : List (List V) := l.map fun s => [.str s]
def boolRows (l : List Bool) : List (List V) := l.map fun b => [.bool b]
theorem puts_app_n (ts : List Tok) (x : Tok) (hx : x = .keep ∨ x = .cut) (n : Nat) : puts (ts ++ List.replicate n x) = puts ts ++ List.replicate n [] := by
  induction n generalizing ts with
  | zero => simp
  | succ n ih => rw [List.replicate_succ, show ts ++ x :: List.replicate n x = (ts ++ [x]) ++ List.replicate n x by simp, ih, puts_app_step _ _ hx]; simp [List.replicate_succ]

theorem kepts_app_n (ts : List Tok) (x : Tok) (hx : x = .keep ∨ x = .cut) (n : Nat) : kepts (ts ++ List.replicate n x) = kepts ts ++ List.replicate n (decide (x = .keep)) := by
  rw [kepts_app]
  congr 1
  induction n with
  | zero => rfl
  | succ n ih => rcases hx with rfl | rfl <;> simp [List.replicate_succ, kepts, ih]
theorem kepts_le (ts : List Tok) : (kepts ts).length ≤ ts.length := by
  induction ts with
  | nil => simp [kepts]
  | cons t ts ih => cases t <;> simp [kepts] <;> omega
theorem toks1_len (p : Part) (h : 0 ≤ p.n ∧ p.n ≤ 500 ∧ p.text.length ≤ 500) : (toks1 p).length ≤ 500 := by
  unfold toks1
  split
  · simp; omega
  · split <;> simp <;> omega
theorem toks_len (l : List Part) (h : ∀ p ∈ l, 0 ≤ p.n ∧ p.n ≤ 500 ∧ p.text.length ≤ 500) : (toks l).length ≤ 500 * l.length := by
  induction l with
  | nil => simp [toks]
  | cons p l ih =>
    have h1 := toks1_len p (h p (by simp))
    have h2 := ih fun q hq => h q (by simp [hq])
    simp only [toks, List.length_append, List.length_cons]
    omega
theorem puts_bd (ts : List Tok) : ∀ s ∈ puts ts, s.length ≤ ts.length := by
  induction ts with
  | nil => simp [puts]
  | cons t ts ih =>
    intro s hs
    cases t
    · simp only [puts, List.mem_cons] at hs
      rcases hs with rfl | hs
      · simp
      · have := ih s hs; simp; omega
    · simp only [puts] at hs
      obtain ⟨p, r, h⟩ := puts_ne ts
      rw [h] at hs ih
      simp only [consHead, List.mem_cons] at hs
      rcases hs with rfl | hs
      · have := ih p (by simp); simp; omega
      · have := ih s (by simp [hs]); simp; omega
    · simp only [puts, List.mem_cons] at hs
      rcases hs with rfl | hs
      · simp
      · have := ih s hs; simp; omega
theorem puts_last (ts : List Tok) (t : List UInt8) : ∃ q, (puts ts)[(kepts ts).length]? = some q ∧ q.length ≤ ts.length ∧ puts (ts ++ t.map .put) = (puts ts).set (kepts ts).length (q ++ t) := by
  have hl := puts_len ts
  rw [puts_app_put]
  obtain ⟨init, q, h⟩ : ∃ init q, puts ts = init ++ [q] := ⟨(puts ts).dropLast, (puts ts).getLast (puts_nn ts), (List.dropLast_concat_getLast (puts_nn ts)).symm⟩
  have hi : (kepts ts).length = init.length := by rw [h] at hl; simp at hl; omega
  refine ⟨q, by rw [h, hi]; simp, puts_bd ts q (by rw [h]; simp), ?_⟩
  rw [h, hi]
  simp [appLast]

/-! Of -/
def ac_rof : AC := .seq (.region false [
    ⟨some 2, none, .alloc 176 [(.slice none 0 0), (.slice none 0 0)]⟩])
  (.seq (.region false [
    ⟨some 6, none, .bslice 9 1 [(.c (.string ⟨#[]⟩))]⟩,
    ⟨some 7, none, .build [(.slice none 0 0), (.slice none 0 0)] [(0, 1, (.t 6))]⟩,
    ⟨some 3, none, .alloc 176 [(.slice none 0 0), (.slice none 0 0)]⟩,
    ⟨none, none, .store 2 (.t 3) (.t 7)⟩])
  (.seq (.seq (.region false [
    ⟨some 8, none, .mov (.t 0)⟩,
    ⟨some 9, none, .len false (.t 8)⟩,
    ⟨some 10, none, .mov (.c (.int .i64 0))⟩])
  (.block 0 (.loop (.seq (.region false [
      ⟨some 11, none, .bin .lss (.t 10) (.t 9)⟩])
    (.seq (.cond (.t 11)
      (.skip)
      (.exit 0))
    (.seq (.block 1 (.seq (.region false [
      ⟨some 12, none, .iaddr 3 (.t 8) (.t 10)⟩,
      ⟨some 13, none, .loadn 3 (.t 12)⟩,
      ⟨some 5, none, .alloc 108 [(.int .i64 0), (.int .i64 0), (.string ⟨#[]⟩)]⟩,
      ⟨none, none, .store 3 (.t 5) (.t 13)⟩])
    (.seq (.seq (.region false [
      ⟨some 14, none, .faddr 0 (.t 5)⟩,
      ⟨some 15, none, .load1 (.t 14)⟩,
      ⟨some 16, none, .bin .eql (.t 15) (.c (.int .i64 2))⟩])
    (.cond (.t 16)
      (.seq (.region true [
        ⟨some 17, none, .faddr 0 (.t 3)⟩,
        ⟨some 18, none, .load1 (.t 17)⟩,
        ⟨some 19, none, .faddr 0 (.t 3)⟩,
        ⟨some 20, none, .load1 (.t 19)⟩,
        ⟨some 21, none, .len false (.t 20)⟩,
        ⟨some 22, none, .bin .sub (.t 21) (.c (.int .i64 1))⟩,
        ⟨some 23, none, .iaddr 1 (.t 18) (.t 22)⟩,
        ⟨some 24, none, .load1 (.t 23)⟩,
        ⟨some 25, none, .faddr 2 (.t 5)⟩,
        ⟨some 26, none, .load1 (.t 25)⟩,
        ⟨some 27, none, .bin .add (.t 24) (.t 26)⟩,
        ⟨some 28, none, .iaddr 1 (.t 18) (.t 22)⟩,
        ⟨none, none, .store 1 (.t 28) (.t 27)⟩])
      (.exit 1))
      (.skip)))
    (.seq (.region false [
      ⟨some 29, none, .faddr 1 (.t 5)⟩,
      ⟨some 30, none, .load1 (.t 29)⟩,
      ⟨some 31, none, .mov (.c (.int .i64 0))⟩])
    (.block 2 (.loop (.seq (.region false [
        ⟨some 32, none, .bin .lss (.t 31) (.t 30)⟩])
      (.seq (.cond (.t 32)
        (.skip)
        (.exit 2))
      (.seq (.block 3 (.seq (.region false [
        ⟨some 33, none, .faddr 1 (.t 3)⟩,
        ⟨some 34, none, .load1 (.t 33)⟩,
        ⟨some 35, none, .faddr 0 (.t 5)⟩,
        ⟨some 36, none, .load1 (.t 35)⟩,
        ⟨some 37, none, .bin .eql (.t 36) (.c (.int .i64 1))⟩,
        ⟨some 38, none, .bslice 4 1 [(.t 37)]⟩,
        ⟨some 39, none, .append 4 1 1 (.t 34) (.t 38)⟩,
        ⟨some 40, none, .faddr 1 (.t 3)⟩,
        ⟨none, none, .store 1 (.t 40) (.t 39)⟩])
      (.region false [
        ⟨some 41, none, .faddr 0 (.t 3)⟩,
        ⟨some 42, none, .load1 (.t 41)⟩,
        ⟨some 43, none, .bslice 9 1 [(.c (.string ⟨#[]⟩))]⟩,
        ⟨some 44, none, .append 9 1 16 (.t 42) (.t 43)⟩,
        ⟨some 45, none, .faddr 0 (.t 3)⟩,
        ⟨none, none, .store 1 (.t 45) (.t 44)⟩])))
      (.region false [
        ⟨some 46, none, .bin .add (.t 31) (.c (.int .i64 1))⟩,
        ⟨some 31, none, .mov (.t 46)⟩]))))))))))
    (.region false [
      ⟨some 47, none, .bin .add (.t 10) (.c (.int .i64 1))⟩,
      ⟨some 10, none, .mov (.t 47)⟩])))))))
  (.seq (.region false [
    ⟨some 48, none, .loadn 2 (.t 3)⟩,
    ⟨none, none, .store 2 (.t 2) (.t 48)⟩])
  (.ret))))
theorem ok_rof : FnOk Try.prog 107 Try.f107 ac_rof [.cn 2 2] 1 drawD := ⟨Try.func107, by decide +kernel, by kernel_rfl, by kernel_rfl, by decide +kernel⟩
structure YOf (d : List Part) where
  k : Int
  pre : List Part
  rest : List Part
  pr : List (List V)
  kr : List (List V)
  np : Nat
  nk : Nat
  bp : Option Nat
  bk : Option Nat
  hd : d = pre ++ rest
  hk : k = pre.length
  hpr : pr = strRows (puts (toks pre))
  hkr : kr = boolRows (kepts (toks pre))
  hnp : np = pr.length
  hnk : nk = kr.length
structure YOf2 (ts : List Tok) (x : Tok) (n : Int) where
  r : Int
  pr : List (List V)
  kr : List (List V)
  np : Nat
  nk : Nat
  bp : Option Nat
  bk : Option Nat
  h0 : 0 ≤ r ∧ r ≤ n
  hpr : pr = strRows (puts (ts ++ List.replicate r.toNat x))
  hkr : kr = boolRows (kepts (ts ++ List.replicate r.toNat x))
  hnp : np = pr.length
  hnk : nk = kr.length
/-- a loop begins: a cell that is nil is an object of the call's own -/
theorem Ent.nilcell {s : S} {k k' ty sz r c : Nat} {o : Ob} {row : List V} (hk : s.h k = some o) (hr : o.rows[r]? = some row) (hc : row[c]? = some .nilsl) (hk' : s.h k' = none) :
    Ent s ⟨s.t, Hp.put (Hp.put s.h k ⟨o.b, o.ty, o.sz, o.rows.set r (row.set c (.own k' none sz 0))⟩) k' ⟨none, ty, sz, []⟩⟩ := by
  intro C n a w hC hs
  obtain ⟨F, h1, h2⟩ := hs.ex
  obtain ⟨F', hF, h1'⟩ := HEnt.nilcell hk hr hc hk' C F w hC h1
  exact ⟨⟨F', h1', fun i => (h2 i).mono hF (fun _ h => .inr h)⟩, hs.df, hs.sz⟩
theorem vc_rof (P : Prim) (hP : P = std) (T T1 : CallT) (d : List Part) (hd1 : d.length ≤ 1600) (hd2 : ∀ p ∈ d, 0 ≤ p.n ∧ p.n ≤ 500 ∧ p.text.length ≤ 500) (rows : List (List V)) (hrows : rows = d.map encPart)
    (pr kr : List (List V)) (hpr : pr = strRows (puts (toks d))) (hkr : kr = boolRows (kepts (toks d))) (R : S → Prop)
    (hR : ∀ (s s' : S) (np nk : Nat) (bp bk : Option Nat) (pr2 kr2 : List (List V)), Ent s s' → Ret [.cn 2 2] [.agg [.own 1000006 bp 1 np, .own 1000039 bk 1 nk]] s' → s'.h 1000006 = some ⟨bp, 9, 1, pr2⟩ → s'.h 1000039 = some ⟨bk, 4, 1, kr2⟩ →
      pr2 = pr ∧ kr2 = kr ∧ np = pr.length ∧ nk = kr.length → R s) : awp P T T1 ac_rof (S0 [.sl true 3 rows] Hp.emp) R (fun _ _ => False) R := by
  cbv
  intro β2
  cbv
  intro β6
  cbv
  intro β3
  cbv
  have hl : P.rlen rows = d.length := by subst hP; simp [std, hrows]
  refine ⟨YOf d, fun y => [(0, .sl true 3 rows), (2, .ptr 2 (some β2) 2 0 0), (3, .ptr 3 (some β3) 2 0 0), (8, .sl true 3 rows), (9, .int .i64 (P.rlen rows)), (10, .int .i64 y.k)],
    fun y => [(2, ⟨some β2, 176, 2, [[.nilsl, .nilsl]]⟩), (3, ⟨some β3, 176, 2, [[.own 1000006 y.bp 1 y.np, .own 1000039 y.bk 1 y.nk]]⟩), (1000006, ⟨y.bp, 9, 1, y.pr⟩), (1000039, ⟨y.bk, 4, 1, y.kr⟩)], fun y => y.rest.length,
    ⟨_, Ent.nilcell (k := 3) (k' := 1000039) (ty := 4) (sz := 1) (r := 0) (c := 1) rfl rfl rfl rfl, ⟨0, [], d, _, _, _, _, _, _, ?_, ?_, ?_, ?_, ?_, ?_⟩, ⟨rfl, rfl, rfl, rfl, rfl, rfl, trivial⟩, ⟨rfl, rfl, rfl, rfl, trivial⟩⟩, ?_⟩
  · rfl
  · rfl
  · rfl
  · rfl
  · rfl
  · rfl
  rintro ⟨k, pre, rest, pr1, kr1, np, nk, bp, bk, hd, hk, hpr1, hkr1, hnp, hnk⟩
  cbv
  have hl2 : P.rlen rows = pre.length + rest.length := by subst hP; simp [std, hrows, hd]
  have hl3 : pre.length + rest.length ≤ 1600 := by rw [hd] at hd1; simpa using hd1
  have htl := toks_len pre fun p hp => hd2 p (by simp [hd, hp])
  have hkl : (kepts (toks pre)).length ≤ (toks pre).length := kepts_le _
  have hnp2 : np = (kepts (toks pre)).length + 1 := by rw [hnp, hpr1, strRows, List.length_map, puts_len]
  have hnk2 : nk = (kepts (toks pre)).length := by rw [hnk, hkr1, boolRows, List.length_map]
  refine br_cases (fun h => ?_) (fun h => ?_)
  · rcases rest with _ | ⟨⟨kd, n, t⟩, rest⟩
    · (exfalso; clear hR; subst hP; simp [std, nc] at *; first | omega | grind)
    have hb := hd2 ⟨kd, n, t⟩ (by simp [hd])
    simp only at hb
    have hrow := row_at hrows hd hk P hP
    cbv
    refine ⟨by subst hP; simp [std, hk], _, hrow, ?_⟩
    clear hrow
    cbv
    intro β5
    cbv
    refine br_cases (fun h => ?_) (fun h => ?_)
    · -- a text is put
      have hkd : kd = 2 := by clear hR; subst hP; simpa [std] using h
      obtain ⟨q, hq, hql, happ⟩ := puts_last (toks pre) t
      have hrow2 : P.row pr1 (P.nat (P.sub (P.int np) 1)) [.str q] := by
        clear hR; subst hP; rw [hpr1, hnp2]; simp only [std]; rw [show (((kepts (toks pre)).length + 1 : Nat) : Int) - 1 = ((kepts (toks pre)).length : Int) by omega, Int.toNat_natCast]; simp [strRows, hq]
      have ho1 : P.i64 (P.sub (P.int np) 1) := by clear hR; subst hP; simp only [std, I64]; omega
      have ho2 : P.leP 0 (P.sub (P.int np) 1) := by clear hR; subst hP; simp only [std]; omega
      have ho3 : P.ltP (P.sub (P.int np) 1) (P.int np) := by clear hR; subst hP; simp only [std]; omega
      have ho4 : P.i64 (P.add (P.slen q) (P.slen t)) := by clear hR; subst hP; simp only [std, I64]; omega
      have ho5 : P.i64 (P.add k 1) := by clear hR; subst hP; simp only [std, I64]; rw [hk]; simp only [nc]; omega
      cbv
      repeat' (first | (intro β; try cbv) | (refine And.intro (by assumption) ?_; try cbv) | (refine br_cases (fun h => ?_) (fun h => ?_) <;> try cbv) | (refine Exists.intro _ (And.intro (by assumption) ?_); try cbv) | (refine hc1 _ _ ?_; try cbv) | (refine hc2 _ _ ?_; try cbv) | (refine hc3 _ _ ?_; try cbv) | (refine hc4 _ _ ?_; try cbv) | (refine hc5 _ _ ?_; try cbv) | (refine hc6 _ _ ?_; try cbv) | (refine And.intro (by (clear hR; subst hP; simp [std, I64, nc] at * <;> first | omega | grind)) ?_; try cbv))
      all_goals
        refine ⟨_, Ent.refl _, ⟨_, pre ++ [⟨kd, n, t⟩], rest, _, _, _, _, _, _, ?_, ?_, ?_, ?_, ?_, ?_⟩, ⟨rfl, rfl, rfl, rfl, rfl, rfl, trivial⟩, ⟨rfl, rfl, rfl, rfl, trivial⟩, by simp⟩
      all_goals (clear hR hrow2 ho1 ho2 ho3 ho4 ho5; subst hP)
      · simp [hd]
      · simp [std, hk]
      · rw [toks_app, show toks [⟨kd, n, t⟩] = t.map .put by simp [toks, toks1, hkd], happ, hpr1, hnp2]
        simp only [std]
        rw [show (((kepts (toks pre)).length + 1 : Nat) : Int) - 1 = ((kepts (toks pre)).length : Int) by omega, Int.toNat_natCast]
        simp [strRows, List.map_set]
      · rw [toks_app, show toks [⟨kd, n, t⟩] = t.map .put by simp [toks, toks1, hkd], kepts_app, kepts_put, List.append_nil, hkr1]
      · simp [std, hnp]
      · exact hnk
    · -- bytes are kept, or cut
      have hkd : kd ≠ 2 := by clear hR; subst hP; simpa [std] using h
      have hx : (if kd = 1 then Tok.keep else Tok.cut) = .keep ∨ (if kd = 1 then Tok.keep else Tok.cut) = .cut := by split <;> simp
      have ht1 : toks1 ⟨kd, n, t⟩ = List.replicate n.toNat (if kd = 1 then Tok.keep else Tok.cut) := by simp only [toks1, if_neg hkd]; split <;> rfl
      cbv
      refine ⟨YOf2 (toks pre) (if kd = 1 then Tok.keep else Tok.cut) n, fun y => [(0, .sl true 3 rows), (2, .ptr 2 (some β2) 2 0 0), (3, .ptr 3 (some β3) 2 0 0), (5, .ptr 5 (some β5) 3 0 0), (8, .sl true 3 rows), (9, .int .i64 (P.rlen rows)), (10, .int .i64 k), (30, .int .i64 n), (31, .int .i64 y.r)],
        fun y => [(2, ⟨some β2, 176, 2, [[.nilsl, .nilsl]]⟩), (3, ⟨some β3, 176, 2, [[.own 1000006 y.bp 1 y.np, .own 1000039 y.bk 1 y.nk]]⟩), (5, ⟨some β5, 108, 3, [[.int .i64 kd, .int .i64 n, .str t]]⟩), (1000006, ⟨y.bp, 9, 1, y.pr⟩), (1000039, ⟨y.bk, 4, 1, y.kr⟩)], fun y => (n - y.r).toNat,
        ⟨_, Ent.refl _, ⟨0, pr1, kr1, np, nk, bp, bk, ⟨Int.le_refl _, hb.1⟩, by simpa using hpr1, by simpa using hkr1, hnp, hnk⟩, ⟨rfl, rfl, rfl, rfl, rfl, rfl, rfl, rfl, rfl, trivial⟩, ⟨rfl, rfl, rfl, rfl, rfl, trivial⟩⟩, ?_⟩
      clear hnp2 hnk2
      rintro ⟨r, pr2, kr2, np, nk, bp, bk, h0, hpr2, hkr2, hnp, hnk⟩
      have hnk2 : nk = (kepts (toks pre)).length + r.toNat := by rw [hnk, hkr2, boolRows, List.length_map, kepts_app_n _ _ hx]; simp
      have hnp2 : np = (kepts (toks pre)).length + r.toNat + 1 := by rw [hnp, hpr2, strRows, List.length_map, puts_len, kepts_app_n _ _ hx]; simp
      cbv
      refine br_cases (fun h => ?_) (fun h => ?_)
      · have hrn : r < n := by clear hR; subst hP; simpa [std] using h
        have ho1 : P.bytes (P.add (P.int nk) (P.rlen [[.bool (P.eq kd 1)]])) 1 := by clear hR; subst hP; simp [std]; omega
        have ho2 : P.bytes (P.add (P.int np) (P.rlen [[.str []]])) 16 := by clear hR; subst hP; simp [std]; omega
        have ho3 : P.neP kr2 nk := by clear hR; subst hP; simp [std, hnk]
        have ho4 : P.neP pr2 np := by clear hR; subst hP; simp [std, hnp]
        have ho5 : P.i64 (P.add r 1) := by clear hR; subst hP; simp only [std, I64]; omega
        cbv
        repeat' (first | (intro β; try cbv) | (refine And.intro (by assumption) ?_; try cbv) | (refine br_cases (fun h => ?_) (fun h => ?_) <;> try cbv) | (refine Exists.intro _ (And.intro (by assumption) ?_); try cbv) | (refine hc1 _ _ ?_; try cbv) | (refine hc2 _ _ ?_; try cbv) | (refine hc3 _ _ ?_; try cbv) | (refine hc4 _ _ ?_; try cbv) | (refine hc5 _ _ ?_; try cbv) | (refine hc6 _ _ ?_; try cbv) | (refine And.intro (by (clear hR; subst hP; simp [std, I64, nc] at * <;> first | omega | grind)) ?_; try cbv))
        all_goals
          refine ⟨_, Ent.refl _, ⟨_, _, _, _, _, _, _, ?_, ?_, ?_, ?_, ?_⟩, ⟨rfl, rfl, rfl, rfl, rfl, rfl, rfl, rfl, rfl, trivial⟩, ⟨rfl, rfl, rfl, rfl, rfl, trivial⟩, ?_⟩
        all_goals (clear hR ho1 ho2 ho3 ho4 ho5; subst hP)
        · simp only [std]; omega
        · simp only [std]
          rw [show (r + 1).toNat = r.toNat + 1 by omega, puts_app_n _ _ hx, hpr2, puts_app_n _ _ hx]
          simp [strRows, List.replicate_succ']
        · simp only [std]
          rw [show (r + 1).toNat = r.toNat + 1 by omega, kepts_app_n _ _ hx, hkr2, kepts_app_n _ _ hx]
          simp only [boolRows, List.replicate_succ', List.map_append, List.append_assoc]
          congr 2
          by_cases h1 : kd = 1 <;> simp [h1]
        · simp [std, hnp]
        · simp [std, hnk]
        · simp only [std]; omega
      · have hrn : r = n := by clear hR; subst hP; simp [std] at h; omega
        have ho5 : P.i64 (P.add k 1) := by clear hR; subst hP; simp only [std, I64]; rw [hk]; simp only [nc]; omega
        cbv
        repeat' (first | (intro β; try cbv) | (refine And.intro (by assumption) ?_; try cbv) | (refine br_cases (fun h => ?_) (fun h => ?_) <;> try cbv) | (refine Exists.intro _ (And.intro (by assumption) ?_); try cbv) | (refine hc1 _ _ ?_; try cbv) | (refine hc2 _ _ ?_; try cbv) | (refine hc3 _ _ ?_; try cbv) | (refine hc4 _ _ ?_; try cbv) | (refine hc5 _ _ ?_; try cbv) | (refine hc6 _ _ ?_; try cbv) | (refine And.intro (by (clear hR; subst hP; simp [std, I64, nc] at * <;> first | omega | grind)) ?_; try cbv))
        all_goals
          refine ⟨_, Ent.refl _, ⟨_, pre ++ [⟨kd, n, t⟩], rest, _, _, _, _, _, _, ?_, ?_, ?_, ?_, ?_, ?_⟩, ⟨rfl, rfl, rfl, rfl, rfl, rfl, trivial⟩, ⟨rfl, rfl, rfl, rfl, trivial⟩, by simp⟩
        all_goals (clear hR ho5; subst hP)
        · simp [hd]
        · simp [std, hk]
        · rw [hpr2, toks_app, show toks [⟨kd, n, t⟩] = toks1 ⟨kd, n, t⟩ by simp [toks], ht1, hrn]
        · rw [hkr2, toks_app, show toks [⟨kd, n, t⟩] = toks1 ⟨kd, n, t⟩ by simp [toks], ht1, hrn]
        · exact hnp
        · exact hnk
  · have hrest : rest = [] := by
      cases rest with
      | nil => rfl
      | cons p rest => (exfalso; clear hR; subst hP; simp [std, nc] at *; first | omega | grind)
    subst hrest
    rw [List.append_nil] at hd
    subst hd
    cbv
    exact hR _ _ np nk bp bk pr1 kr1 (Ent.refl _) ⟨rfl, rfl, Nat.zero_lt_one, Nat.le_refl _, rfl⟩ rfl rfl ⟨hpr1.trans hpr.symm, hkr1.trans hkr.symm, by rw [hnp, hpr1, hpr], by rw [hnk, hkr1, hkr]⟩
theorem strRows_fz (l : List (List UInt8)) : ∀ r ∈ strRows l, ∀ v ∈ r, Fz v := by
  intro r hr v hv
  obtain ⟨s, _, rfl⟩ := List.mem_map.1 hr
  simp only [List.mem_singleton] at hv
  subst hv; exact .str _
theorem boolRows_fz (l : List Bool) : ∀ r ∈ boolRows l, ∀ v ∈ r, Fz v := by
  intro r hr v hv
  obtain ⟨s, _, rfl⟩ := List.mem_map.1 hr
  simp only [List.mem_singleton] at hv
  subst hv; exact .bool _
theorem strRows_sz (l : List (List UInt8)) : ∀ r ∈ strRows l, r.length = 1 := by
  intro r hr; obtain ⟨s, _, rfl⟩ := List.mem_map.1 hr; rfl
theorem boolRows_sz (l : List Bool) : ∀ r ∈ boolRows l, r.length = 1 := by
  intro r hr; obtain ⟨s, _, rfl⟩ := List.mem_map.1 hr; rfl
/-- places as a value -/
def encPl (ps : List (List UInt8)) (ks : List Bool) : V := .agg [.sl false 1 (strRows ps), .sl false 1 (boolRows ks)]
theorem sp_rof (d : List Part) (hd1 : d.length ≤ 1600) (hd2 : ∀ p ∈ d, 0 ≤ p.n ∧ p.n ≤ 500 ∧ p.text.length ≤ 500) : Spec Try.prog 107 [.sl true 3 (d.map encPart)] Hp.emp (Is (encPl (puts (toks d)) (kepts (toks d)))) :=
  spec_frz dOk ok_rof fun R hR => vc_rof std rfl _ _ d hd1 hd2 _ rfl _ _ rfl rfl R fun s s' np nk bp bk pr2 kr2 he hr h1 h2 h3 => hR s s' he (by
    obtain ⟨rfl, rfl, rfl, rfl⟩ := h3
    refine resV_mono _ _ _ (fun x hx => ?_) hr
    subst hx
    exact .agg_cons (.rows h1 rfl rfl rfl (strRows_sz _) (strRows_fz _)) (.agg_cons (.rows h2 rfl rfl rfl (boolRows_sz _) (boolRows_fz _)) .agg_nil))
end Go.Proofs.Ytobngncjflogcaa.AM

/-
  The document's delta of places: its inner function.
-/
set_option linter.unusedVariables false
set_option linter.unusedSimpArgs false
namespace Go.Proofs.Ytobngncjflogcaa.AM
open Go
set_option maxRecDepth 100000
set_option maxHeartbeats 2000000
/-! how large a delta being made may be -/
structure Mk.Bd (m : Mk) (j w : Nat) : Prop where
  len : m.out.length ≤ 3 * j
  cut : 0 ≤ m.cut ∧ m.cut ≤ j
  ns : ∀ p ∈ m.out, 0 ≤ p.n ∧ p.n ≤ j
  put : m.put.length ≤ w
theorem Mk.bd_new : Mk.new.Bd 0 0 := ⟨by simp [Mk.new], by simp [Mk.new], by simp [Mk.new], by simp [Mk.new]⟩
theorem Mk.Bd.doPut {m : Mk} {j w : Nat} (h : m.Bd j w) (s : List UInt8) : (m.doPut s).Bd j (w + s.length) := ⟨h.len, h.cut, h.ns, by have := h.put; simp [Mk.doPut]; omega⟩
theorem Mk.Bd.doCut {m : Mk} {j w : Nat} (h : m.Bd j w) (n : Int) (hn : 0 ≤ n) : (m.doCut n).Bd (j + n.toNat) w :=
  ⟨by have := h.len; simp only [Mk.doCut]; omega, by have := h.cut; simp only [Mk.doCut]; omega, fun p hp => by have := h.ns p hp; omega, h.put⟩
theorem Mk.Bd.flush {m : Mk} {j w : Nat} (h : m.Bd j w) : m.flush.length ≤ 3 * j + 2 ∧ ∀ p ∈ m.flush, 0 ≤ p.n ∧ p.n ≤ j := by
  have h1 := h.len
  have h2 := h.cut
  refine ⟨?_, fun p hp => ?_⟩
  · unfold Mk.flush
    split <;> split <;> simp <;> omega
  · unfold Mk.flush at hp
    rw [List.mem_append, List.mem_append] at hp
    rcases hp with (hp | hp) | hp
    · exact h.ns p hp
    · split at hp
      · cases hp
      · simp at hp; subst hp; simp
    · split at hp
      · simp at hp; subst hp; exact h2
      · cases hp
theorem Mk.Bd.doKeep {m : Mk} {j w : Nat} (h : m.Bd j w) (n : Int) (hn : 0 ≤ n) : (m.doKeep n).Bd (j + n.toNat) w := by
  unfold Mk.doKeep
  by_cases h0 : n = 0
  · subst h0; simpa using h
  rw [if_neg h0]
  obtain ⟨h1, h2⟩ := h.flush
  refine ⟨?_, by simp; omega, fun p hp => ?_, by simp⟩
  · simp only [addKeep]
    split
    · split
      · simp; omega
      · simp; omega
    · simp; omega
  · simp only [addKeep] at hp
    split at hp
    · rename_i q hq
      split at hp
      · rcases List.mem_append.1 hp with hp | hp
        · have := h2 p ((List.dropLast_sublist _).mem hp); omega
        · simp at hp; subst hp
          have := h2 q (List.mem_of_getLast? hq)
          simp only; omega
      · rcases List.mem_append.1 hp with hp | hp
        · have := h2 p hp; omega
        · simp at hp; subst hp; simp only; omega
    · simp at hp; subst hp; simp only; omega
theorem Mk.Bd.mono {m : Mk} {j w j' w' : Nat} (h : m.Bd j w) (hj : j ≤ j') (hw : w ≤ w') : m.Bd j' w' :=
  ⟨by have := h.len; omega, by have := h.cut; omega, fun p hp => by have := h.ns p hp; omega, by have := h.put; omega⟩

/-! the inner function: what waits is laid down -/
def hGap (b0 b1 b2 : Nat) (ba : Option Nat) (n : Nat) (put : List UInt8) (cut : Int) (rows : List (List V)) : List (Nat × Ob) :=
  [(0, ⟨some b0, 9, 1, [[.str put]]⟩), (1, ⟨some b1, 37, 1, [[.own 1000000 ba 3 n]]⟩), (2, ⟨some b2, 3, 1, [[.int .i64 cut]]⟩), (1000000, ⟨ba, 108, 3, rows⟩)]
theorem hGap_fz {b0 b1 b2 : Nat} {ba : Option Nat} {n : Nat} {put : List UInt8} {cut : Int} {d : List Part} : ∀ p ∈ hGap b0 b1 b2 ba n put cut (d.map encPart), p.2.Fz := by
  intro p hp
  simp only [hGap, List.mem_cons, List.not_mem_nil, or_false] at hp
  rcases hp with rfl | rfl | rfl | rfl
  · intro r hr v hv; simp at hr; subst hr; simp at hv; subst hv; exact .str _
  · intro r hr v hv; simp at hr; subst hr; simp at hv; subst hv; exact .own _ _ _ _
  · intro r hr v hv; simp at hr; subst hr; simp at hv; subst hv; exact .int _ _
  · exact encParts_fz d
/-! a delta of places -/
structure YPd (ps : List (List UInt8)) (ks : List Bool) where
  k : Int
  m : Mk
  n : Nat
  put : List UInt8
  cut : Int
  rows : List (List V)
  ba : Option Nat
  pre1 : List (List UInt8)
  rest1 : List (List UInt8)
  pre2 : List Bool
  rest2 : List Bool
  h1 : ps = pre1 ++ rest1
  h2 : ks = pre2 ++ rest2
  hl : pre1.length = pre2.length
  hk : k = pre1.length
  hm : n = m.out.length ∧ rows = m.out.map encPart ∧ put = m.put ∧ cut = m.cut
  hrun : plRun Mk.new ps ks = plRun m rest1 rest2
  hbd : m.Bd pre1.length pre1.flatten.length
def plD (ps : List (List UInt8)) (ks : List Bool) : List Part := (plRun Mk.new ps ks).flush
end Go.Proofs.Ytobngncjflogcaa.AM
