/-
  What every law's proof on the plain machine shares: arguments opened, and a law's end.
-/
import Derived.Test.YtdmpbdmgaepndaaLaw
import Derived.Test.YtdmpbdmgaepndaaAm17
import Derived.Test.YtdmpbdmgaepndaaAmE
import Derived.KernelRfl
import Derived.OpenShut
set_option linter.unusedVariables false
set_option linter.unusedSimpArgs false
namespace Go.Proofs.Ytdmpbdmgaepndaa.AM
open Go
open Go.ChangeShapes Go.WideShapes Go.ChangeAt Go.RowKit

theorem nc (n : Nat) : (NatCast.natCast n : Int) = (n : Int) := rfl
theorem dOk : DrawOk Try.prog drawD := drawD_ok (by kernel_rfl)

/-! arguments -/
def OldB (w : World) : Nat → Prop := fun b => b < w.heap.size
/-- cells that read as values -/
structure CellsAs (w : World) (vs : List V) (cs : List Value) : Prop where
  len : vs.length = cs.length
  rel : ∀ (i : Nat) (v : V) (u : Value), vs[i]? = some v → cs[i]? = some u → Rel (OldB w) (fun _ => False) w v u ∧ u.oneCell' = true

theorem CellsAs.nil (w : World) : CellsAs w [] [] := ⟨rfl, by simp⟩
theorem CellsAs.app {w : World} {a c : List V} {b d : List Value} (h1 : CellsAs w a b) (h2 : CellsAs w c d) : CellsAs w (a ++ c) (b ++ d) := by
  refine ⟨by simp [h1.len, h2.len], fun i v u hv hu => ?_⟩
  by_cases hi : i < a.length
  · rw [List.getElem?_append_left hi] at hv
    rw [List.getElem?_append_left (by rw [← h1.len]; exact hi)] at hu
    exact h1.rel i v u hv hu
  · rw [List.getElem?_append_right (by omega)] at hv
    rw [List.getElem?_append_right (by rw [← h1.len]; omega), ← h1.len] at hu
    exact h2.rel _ v u hv hu
theorem CellsAs.one {w : World} {v : V} {u : Value} (h : Rel (OldB w) (fun _ => False) w v u) (h1 : u.oneCell' = true) : CellsAs w [v] [u] := by
  refine ⟨rfl, fun i v' u' hv hu => ?_⟩
  cases i with
  | zero => simp at hv hu; subst hv hu; exact ⟨h, h1⟩
  | succ i => simp at hv

/-- data of a type read as this -/
def ReadsAs (T : TypeId) (α : Type) (enc : α → List V) (ok : α → Prop) : Prop :=
  ∀ (H : Type) (e : TypeId × Value → H) (w : World) (base : Nat) (spare : Nat → Bool) (held : Bool) (fuel : Nat) (cs : List Value) (x : DataW H × List MemPlace),
    DataW.trod e Try.prog w base spare held fuel T cs = some x → ∃ a : α, ok a ∧ CellsAs w (enc a) cs

theorem reads_int {T : TypeId} (hT : Try.prog.underlying T = some (.int .i64)) : ReadsAs T Int (fun n => [.int .i64 n]) I64 := by
  intro H e w base spare held fuel cs x h
  obtain ⟨n, rfl, _, hn⟩ := DataW.trod_int hT h
  refine ⟨n, ?_, CellsAs.one (.int _ _) rfl⟩
  have h1 : IntKind.i64.min = -9223372036854775808 := rfl
  have h2 : IntKind.i64.max = 9223372036854775807 := rfl
  simp only [Lit.wf, Bool.and_eq_true, decide_eq_true_eq] at hn
  unfold I64
  omega
theorem reads_str {T : TypeId} (hT : Try.prog.underlying T = some .string) : ReadsAs T (List UInt8) (fun s => [.str s]) (fun s => s.length ≤ maxLen) := by
  intro H e w base spare held fuel cs x h
  obtain ⟨s, rfl, _, hs⟩ := DataW.trod_string hT h
  exact ⟨s.data.toList, by show s.data.toList.length ≤ maxLen; rw [Array.length_toList]; exact hs, CellsAs.one (.str _) rfl⟩

theorem list_of {α : Type} {Q : Nat → α → Prop} : ∀ n : Nat, (∀ i, i < n → ∃ a, Q i a) → ∃ l : List α, l.length = n ∧ ∀ (i : Nat) (a : α), l[i]? = some a → Q i a
  | 0, _ => ⟨[], rfl, by simp⟩
  | n + 1, h => by
    obtain ⟨l, hl, hq⟩ := list_of n fun i hi => h i (by omega)
    obtain ⟨a, ha⟩ := h n (by omega)
    refine ⟨l ++ [a], by simp [hl], fun i b hb => ?_⟩
    by_cases hi : i < l.length
    · rw [List.getElem?_append_left hi] at hb; exact hq i b hb
    · rw [List.getElem?_append_right (by omega)] at hb
      cases hk : i - l.length with
      | zero => rw [hk] at hb; simp at hb; subst hb; rw [show i = n by omega]; exact ha
      | succ k => rw [hk] at hb; simp at hb

theorem reads_slice {T E : TypeId} {α : Type} {enc : α → List V} {ok : α → Prop} {sz : Nat} (hT : Try.prog.underlying T = some (.slice E)) (hE : ReadsAs E α enc ok) (hsz : Try.prog.cellsOf E = sz) (henc : ∀ a, (enc a).length = sz) (hpos : 0 < sz) :
    ReadsAs T (List α) (fun l => [.sl false sz (l.map enc)]) (fun l => l.length ≤ maxLen ∧ ∀ a ∈ l, ok a) := by
  intro H e w base spare held fuel cs x h
  rcases DataW.trod_slice hT h with ⟨rfl, _⟩ | ⟨a, len, cap, elems, rest, n, _, rfl, _, _, hlc, hcm, hel, hget, _⟩
  · exact ⟨[], by simp, CellsAs.one (.slnil _ _) rfl⟩
  · rw [hsz] at hget
    have hi : ∀ i, i < len → ∃ b : α, ok b ∧ ∃ cs', w.cells? base (a.add (i * sz)) sz = some cs' ∧ CellsAs w (enc b) cs' := by
      intro i hi
      have h1 := hget i hi
      have h2 : elems[i]? = some (elems[i]'(by omega)) := List.getElem?_eq_getElem (by omega)
      rw [h2] at h1
      obtain ⟨cs', hc, ht⟩ := Option.bind_eq_some_iff.1 h1
      obtain ⟨b, hb, hcells⟩ := hE _ _ _ _ _ _ _ _ _ ht
      exact ⟨b, hb, cs', hc, hcells⟩
    obtain ⟨l, hl, hq⟩ := list_of len hi
    refine ⟨l, ⟨by omega, fun b hb => ?_⟩, CellsAs.one ?_ rfl⟩
    · obtain ⟨i, hi'⟩ := List.getElem?_of_mem hb
      exact (hq i b hi').1
    · by_cases h0 : len = 0
      · have : l = [] := List.eq_nil_of_length_eq_zero (by omega)
        subst this
        subst h0
        exact .slemp _ _ _ _
      · have cell : ∀ (i j : Nat) (b : α) (v : V), l[i]? = some b → (enc b)[j]? = some v → ∃ u, w.cell? (a.add (i * sz + j)) = some u ∧ Rel (OldB w) (fun _ => False) w v u ∧ u.oneCell' = true := by
          intro i j b v hb hv
          obtain ⟨_, cs', hc, hcells⟩ := hq i b hb
          obtain ⟨_, hcl, hat⟩ := World.cells?_some hc
          have hj : j < sz := by have := (List.getElem?_eq_some_iff.1 hv).1; rw [henc] at this; exact this
          have h1 := hat j hj
          have h2 : cs'[j]? = some (cs'[j]'(by omega)) := List.getElem?_eq_getElem (by omega)
          rw [h2] at h1
          have hadd : (a.add (i * sz)).add j = a.add (i * sz + j) := by
            unfold Addr.add
            by_cases z1 : i * sz = 0 <;> by_cases z2 : j = 0 <;> simp [z1, z2, Nat.add_assoc]
          rw [hadd] at h1
          exact ⟨_, h1, hcells.rel j v _ hv h2⟩
        have hl0 : 0 < l.length := by omega
        obtain ⟨u0, hu0, _⟩ := cell 0 0 l[0] ((enc l[0])[0]'(by rw [henc]; exact hpos)) (List.getElem?_eq_getElem hl0) (List.getElem?_eq_getElem (by rw [henc]; exact hpos))
        have hsp : a.spot = none := by
          have h00 : a.add (0 * sz + 0) = a := by simp [Addr.add]
          rw [h00] at hu0
          unfold World.cell? at hu0
          split at hu0
          · split at hu0
            · cases hu0
            · rename_i hs; simpa using hs
          · cases hu0
        obtain ⟨ab, ao, asp⟩ := a
        simp only at hsp
        subst hsp
        have hb : ab < w.heap.size := by
          have h00 : (⟨ab, ao, none⟩ : Addr).add (0 * sz + 0) = ⟨ab, ao, none⟩ := by simp [Addr.add]
          rw [h00] at hu0
          exact World.block_lt_of_cell? w _ hu0
        rw [show len = (l.map enc).length by simp [hl]]
        refine .sl false sz (l.map enc) ab ao cap (fun i j => (w.cell? ⟨ab, ao + (i * sz + j), none⟩).getD undef) (.inl hb) (by simp [hl]; omega) (fun r hr => ?_) (fun i j r v hi hj => ?_) (fun i j r v hi hj => ?_)
        · simp only [List.mem_map] at hr
          obtain ⟨b, _, rfl⟩ := hr
          exact henc b
        · simp only [List.getElem?_map, Option.map_eq_some_iff] at hi
          obtain ⟨b, hb', rfl⟩ := hi
          obtain ⟨u, hu, _, h1⟩ := cell i j b v hb' hj
          rw [add_off] at hu
          rw [hu]
          exact ⟨rfl, h1⟩
        · simp only [List.getElem?_map, Option.map_eq_some_iff] at hi
          obtain ⟨b, hb', rfl⟩ := hi
          obtain ⟨u, hu, hr, _⟩ := cell i j b v hb' hj
          rw [add_off] at hu
          rw [hu]
          exact hr

/-! a law's end -/
theorem law_calls {f : Nat} {args : List V} {us : Array Value} {W : World} (hs : Spec Try.prog f args Hp.emp (Is (.bool true))) (hl : us.size = args.length)
    (hr : ∀ (i : Nat) (v : V) (u : Value), args[i]? = some v → us[i]? = some u → Rel (OldB W) (fun _ => False) W v u) :
    Calls Try.prog f us W fun e w' => e = .returned (.bool true) ∧ Below W.heap.size W w' := by
  let C : Ctx := ⟨W, OldB W, fun _ => False, fun _ => False⟩
  have hC : C.Ok := ⟨fun b hb => ⟨hb, fun h => h⟩, fun b hb => hb.elim, fun b hb => hb.elim⟩
  refine (hs.run C us hC hl hr ⟨fun k o hk => by simp [Hp.emp] at hk, fun k k' o o' b hk => by simp [Hp.emp] at hk, fun k o b hk => by simp [Hp.emp] at hk, fun b hb => .inl hb, fun b hb => hb, fun b hb => hb, Ev.refl _ _⟩).mono ?_
  rintro e w' ⟨u, v, h', F', rfl, hv, hs2, rfl, rfl⟩
  cases hv
  have hev : Ev (fun _ => False) W w' := hs2.ev
  exact ⟨rfl, hev.os, hev.tape, hev.output, hev.size, fun k hk => hev.same k hk (fun h => h)⟩
end Go.Proofs.Ytdmpbdmgaepndaa.AM
