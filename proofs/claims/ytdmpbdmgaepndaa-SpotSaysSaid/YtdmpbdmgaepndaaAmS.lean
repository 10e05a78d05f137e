/-
  Structs and arrays held against each other, cell by cell.
-/
import Derived.Test.YtdmpbdmgaepndaaAm13
import Derived.ChangeKeysEq
set_option linter.unusedVariables false
set_option linter.unusedSimpArgs false
namespace Go.Proofs.Ytdmpbdmgaepndaa.AM
open Go

theorem eqCells_len : ∀ {ts : List Nat} {cs ds : List V} {r : Bool}, eqCells ts cs ds = some r → cs.length = ts.length ∧ ds.length = ts.length
  | [], [], [], _, _ => ⟨rfl, rfl⟩
  | t :: ts, a :: l, b :: m, r, h => by
    simp only [eqCells] at h
    split at h
    · rename_i x y h1 h2
      obtain ⟨g1, g2⟩ := eqCells_len h2
      simp [g1, g2]
    · cases h
  | [], _ :: _, _, _, h => by simp [eqCells] at h
  | [], [], _ :: _, _, h => by simp [eqCells] at h
  | _ :: _, [], _, _, h => by simp [eqCells] at h
  | _ :: _, _ :: _, [], _, h => by simp [eqCells] at h
theorem eqCells_app : ∀ {t1 t2 : List Nat} {cs ds : List V} {r : Bool}, eqCells (t1 ++ t2) cs ds = some r →
    ∃ r1 r2, eqCells t1 (cs.take t1.length) (ds.take t1.length) = some r1 ∧ eqCells t2 (cs.drop t1.length) (ds.drop t1.length) = some r2 ∧ r = (r1 && r2)
  | [], t2, cs, ds, r, h => ⟨true, r, rfl, by simpa using h, by simp⟩
  | t :: t1, t2, a :: l, b :: m, r, h => by
    simp only [List.cons_append, eqCells] at h
    split at h
    · rename_i x y h1 h2
      obtain ⟨r1, r2, g1, g2, rfl⟩ := eqCells_app h2
      cases h
      exact ⟨x && r1, r2, by simp [eqCells, h1, g1], by simpa using g2, by simp [Bool.and_assoc]⟩
    · cases h
  | t :: t1, t2, [], _, r, h => by simp [eqCells] at h
  | t :: t1, t2, _ :: _, [], r, h => by simp [eqCells] at h

section
variable {P : Program}

/-- cells of an array from a place on read as these -/
def At (F B : Nat → Prop) (w : World) (cs : List V) (xs : Array Value) (off : Nat) : Prop := ∀ (i : Nat) (v : V), cs[i]? = some v → ∃ u, xs[off + i]? = some u ∧ Rel F B w v u
theorem At.take {F B : Nat → Prop} {w : World} {cs : List V} {xs : Array Value} {off : Nat} (h : At F B w cs xs off) (n : Nat) : At F B w (cs.take n) xs off := fun i v hv => by
  rw [List.getElem?_take] at hv
  split at hv
  · exact h i v hv
  · cases hv
theorem At.drop {F B : Nat → Prop} {w : World} {cs : List V} {xs : Array Value} {off : Nat} (h : At F B w cs xs off) (n : Nat) : At F B w (cs.drop n) xs (off + n) := fun i v hv => by
  rw [List.getElem?_drop] at hv
  rw [Nat.add_assoc]
  exact h _ v hv

def EqP (P : Program) (dd : Nat) (t : TypeId) (ts : List Nat) : Prop := ∀ (F B : Nat → Prop) (w : World) (xs ys : Array Value) (off : Nat) (cs ds : List V) (r : Bool), At F B w cs xs off → At F B w ds ys off → eqCells ts cs ds = some r →
  ∃ a b, (part t xs off).run P w = .ok a w ∧ (part t ys off).run P w = .ok b w ∧ (Op.equalIn dd t a b).run P w = .ok r w
def EqA (P : Program) (dd : Nat) (t : TypeId) (ts : List Nat) : Prop := ∀ (F B : Nat → Prop) (w : World) (xs ys : Array Value) (cs ds : List V) (r : Bool), At F B w cs xs 0 → At F B w ds ys 0 → eqCells ts cs ds = some r →
  (Op.equalIn dd t (.agg xs) (.agg ys)).run P w = .ok r w

theorem eqP_of_eqA {dd : Nat} {t : TypeId} {ts : List Nat} (hag : (∃ fs, P.underlying t = some (.struct fs)) ∨ ∃ n e, P.underlying t = some (.array n e)) (hsz : P.cellsOf t = ts.length) (h : EqA P dd t ts) : EqP P dd t ts := by
  intro F B w xs ys off cs ds r hx hy he
  obtain ⟨g1, g2⟩ := eqCells_len he
  have hpart : ∀ xs : Array Value, (part t xs off).run P w = .ok (.agg (xs.extract off (off + P.cellsOf t))) w := by
    intro xs
    rcases hag with ⟨fs, hu⟩ | ⟨n, e, hu⟩
    · obtain ⟨i, hi⟩ := info_of_underlying hu
      simp [part, isAgg, run_underlying hu, run_sizeOf w hi]
    · obtain ⟨i, hi⟩ := info_of_underlying hu
      simp [part, isAgg, run_underlying hu, run_sizeOf w hi]
  have sub : ∀ {cs : List V} {xs : Array Value}, cs.length = ts.length → At F B w cs xs off → At F B w cs (xs.extract off (off + P.cellsOf t)) 0 := by
    intro cs xs hl ha i v hv
    obtain ⟨u, hu, hr⟩ := ha i v hv
    have hi : i < cs.length := (List.getElem?_eq_some_iff.1 hv).1
    have hb := (Array.getElem?_eq_some_iff.1 hu).1
    refine ⟨u, ?_, hr⟩
    rw [Nat.zero_add, Array.getElem?_extract, if_pos (by omega)]
    exact hu
  exact ⟨_, _, hpart xs, hpart ys, h F B w _ _ cs ds r (sub g1 hx) (sub g2 hy) he⟩

theorem eqP_plain {dd : Nat} {t : TypeId} {ts : List Nat} (h : (P.underlying t = some .bool ∧ ts = [0]) ∨ (∃ k, P.underlying t = some (.int k) ∧ ts = [1]) ∨ (P.underlying t = some .string ∧ ts = [2])) : EqP P (dd + 1) t ts := by
  intro F B w xs ys off cs ds r hx hy he
  have one : ∃ m, ts = [m] := by rcases h with ⟨_, h⟩ | ⟨_, _, h⟩ | ⟨_, h⟩ <;> exact ⟨_, h⟩
  obtain ⟨m, rfl⟩ := one
  obtain ⟨g1, g2⟩ := eqCells_len he
  match cs, ds, g1, g2 with
  | [a], [b], _, _ =>
    obtain ⟨u, hu, hru⟩ := hx 0 a rfl
    obtain ⟨v, hv, hrv⟩ := hy 0 b rfl
    rw [Nat.add_zero] at hu hv
    simp only [eqCells] at he
    cases hc : eqCell m a b with
    | none => rw [hc] at he; cases he
    | some q =>
      rw [hc] at he
      simp only [Bool.and_true, Option.some.injEq] at he
      subst he
      have hp : P.plainKey t = true := by
        unfold Program.plainKey
        rcases h with ⟨h, _⟩ | ⟨k, h, _⟩ | ⟨h, _⟩ <;> rw [h]
      refine ⟨u, v, run_part_plain w hp hu, run_part_plain w hp hv, ?_⟩
      rcases h with ⟨hT, hm⟩ | ⟨k, hT, hm⟩ | ⟨hT, hm⟩ <;> simp only [List.cons.injEq, and_true] at hm <;> subst hm
      · cases a <;> simp only [eqCell] at hc <;> try (cases hc; done)
        cases b <;> simp only [eqCell] at hc <;> try (cases hc; done)
        cases hru; cases hrv; cases hc
        exact run_equalIn_bool w dd t _ _ hT
      · cases a <;> simp only [eqCell] at hc <;> try (cases hc; done)
        cases b <;> simp only [eqCell] at hc <;> try (cases hc; done)
        cases hru; cases hrv
        split at hc
        · rename_i hk
          subst hk
          cases hc
          rw [run_equalIn_int w dd t _ _ _ _ hT]
          congr 1
        · cases hc
      · cases a <;> simp only [eqCell] at hc <;> try (cases hc; done)
        cases b <;> simp only [eqCell] at hc <;> try (cases hc; done)
        cases hru; cases hrv; cases hc
        rw [run_equalIn_string w dd t _ _ hT, toList_inj]

theorem eqFields_run {dd : Nat} {g : TypeId → Option (List Nat)} (hg : ∀ t c, g t = some c → P.cellsOf t = c.length → EqP P dd t c) (F B : Nat → Prop) (w : World) (xs ys : Array Value) : ∀ (fs : List Field) (off : Nat) (ts : List Nat) (cs ds : List V) (r : Bool), flatF P g fs off = some ts →
    At F B w cs xs off → At F B w ds ys off → eqCells ts cs ds = some r → (Op.eqFields dd xs ys fs).run P w = .ok r w
  | [], off, ts, cs, ds, r, hf, _, _, he => by
    simp only [flatF, Option.some.injEq] at hf
    subst hf
    obtain ⟨g1, g2⟩ := eqCells_len he
    match cs, ds, g1, g2 with
    | [], [], _, _ => simp only [eqCells, Option.some.injEq] at he; subst he; simp [Op.eqFields]
  | f :: fs, off, ts, cs, ds, r, hf, hx, hy, he => by
    simp only [flatF] at hf
    split at hf
    · rename_i c hc
      split at hf
      · rename_i hcond
        obtain ⟨hn, ho, hs⟩ := hcond
        simp only [Option.map_eq_some_iff] at hf
        obtain ⟨ts', hf, rfl⟩ := hf
        obtain ⟨r1, r2, e1, e2, rfl⟩ := eqCells_app he
        obtain ⟨a, b, p1, p2, p3⟩ := hg _ _ hc hs F B w xs ys off _ _ _ (hx.take _) (hy.take _) e1
        have ih := eqFields_run hg F B w xs ys fs (off + c.length) ts' _ _ r2 hf (hx.drop _) (hy.drop _) e2
        rw [← ho] at p1 p2
        simp only [Op.eqFields, hn, ne_eq, not_false_eq_true, if_true, Sem.run_bind, p1, p2, p3, Result.andThen_ok]
        cases r1
        · simp
        · simpa using ih
      · cases hf
    · cases hf

theorem eqItems_run {dd : Nat} {e : TypeId} {c : List Nat} (hg : EqP P dd e c) (hs : P.cellsOf e = c.length) (F B : Nat → Prop) (w : World) (xs ys : Array Value) : ∀ (n s : Nat) (cs ds : List V) (r : Bool),
    At F B w cs xs (s * c.length) → At F B w ds ys (s * c.length) → eqCells (List.replicate n c).flatten cs ds = some r → (Op.eqItems dd e (P.cellsOf e) xs ys (List.range' s n)).run P w = .ok r w
  | 0, s, cs, ds, r, _, _, he => by
    obtain ⟨g1, g2⟩ := eqCells_len he
    simp only [List.replicate_zero, List.flatten_nil, List.length_nil] at g1 g2
    match cs, ds, g1, g2 with
    | [], [], _, _ => simp [eqCells] at he; subst he; simp [Op.eqItems]
  | n + 1, s, cs, ds, r, hx, hy, he => by
    rw [List.replicate_succ, List.flatten_cons] at he
    obtain ⟨r1, r2, e1, e2, rfl⟩ := eqCells_app he
    obtain ⟨a, b, p1, p2, p3⟩ := hg F B w xs ys _ _ _ _ (hx.take c.length) (hy.take c.length) e1
    have hm : s * c.length + c.length = (s + 1) * c.length := by rw [Nat.add_mul]; omega
    have ih := eqItems_run hg hs F B w xs ys n (s + 1) _ _ r2 (by rw [← hm]; exact hx.drop _) (by rw [← hm]; exact hy.drop _) e2
    rw [List.range'_succ]
    rw [← hs] at p1 p2
    simp only [Op.eqItems, Sem.run_bind, p1, p2, p3, Result.andThen_ok]
    cases r1
    · simp
    · simpa using ih

theorem eqA_struct {dd : Nat} {t : TypeId} {fs : Array Field} {ts : List Nat} {g : TypeId → Option (List Nat)} (hu : P.underlying t = some (.struct fs)) (hp : P.stoodInHeld t = false) (hg : ∀ t c, g t = some c → P.cellsOf t = c.length → EqP P dd t c) (hf : flatF P g fs.toList 0 = some ts) : EqA P (dd + 1) t ts := by
  intro F B w xs ys cs ds r hx hy he
  have hfo : P.fieldsOf t = fs := by simp [Program.fieldsOf, hu]
  rw [run_equalIn_struct w dd t xs ys (by rw [hfo]; exact hu) hp, hfo]
  exact eqFields_run hg F B w xs ys _ 0 ts cs ds r hf hx hy he
theorem eqA_array {dd n : Nat} {t e : TypeId} {c : List Nat} (hu : P.underlying t = some (.array n e)) (hi : ∃ i, P.info? e = some i) (hg : EqP P dd e c) (hs : P.cellsOf e = c.length) : EqA P (dd + 1) t (List.replicate n c).flatten := by
  intro F B w xs ys cs ds r hx hy he
  obtain ⟨i, hi⟩ := hi
  rw [run_equalIn_array w dd xs ys hu hi, List.range_eq_range']
  exact eqItems_run hg hs F B w xs ys n 0 cs ds r (by rw [Nat.zero_mul]; exact hx) (by rw [Nat.zero_mul]; exact hy) he

theorem flatK_info : ∀ {m : Nat} {t : TypeId} {c : List Nat}, flatK P m t = some c → ∃ i, P.info? t = some i := by
  intro m t c h
  cases m with
  | zero => cases h
  | succ m =>
    unfold flatK at h
    cases hu : P.underlying t with
    | none => rw [hu] at h; cases h
    | some d => exact info_of_underlying hu

/-- both ways of a type that can be held against itself cell by cell -/
theorem flatK_ok (d : Nat) : ∀ (m : Nat) (t : TypeId) (c : List Nat), flatK P m t = some c → (P.cellsOf t = c.length → EqP P (d + m) t c) ∧ ((∃ fs, P.underlying t = some (.struct fs)) ∨ (∃ n e, P.underlying t = some (.array n e)) → EqA P (d + m) t c)
  | 0, _, _, h => by cases h
  | m + 1, t, c, h => by
    unfold flatK at h
    cases hu : P.underlying t with
    | none => rw [hu] at h; cases h
    | some kd =>
      rw [hu] at h
      cases kd <;> simp only [] at h <;> try (cases h; done)
      case bool => cases h; exact ⟨fun _ => eqP_plain (dd := d + m) (.inl ⟨hu, rfl⟩), fun hh => by rcases hh with ⟨_, h⟩ | ⟨_, _, h⟩ <;> cases h⟩
      case int k => cases h; exact ⟨fun _ => eqP_plain (dd := d + m) (.inr (.inl ⟨k, hu, rfl⟩)), fun hh => by rcases hh with ⟨_, h⟩ | ⟨_, _, h⟩ <;> cases h⟩
      case string => cases h; exact ⟨fun _ => eqP_plain (dd := d + m) (.inr (.inr ⟨hu, rfl⟩)), fun hh => by rcases hh with ⟨_, h⟩ | ⟨_, _, h⟩ <;> cases h⟩
      case array n e =>
        split at h
        · rename_i c' hc
          split at h
          · rename_i hs
            cases h
            have := eqA_array (dd := d + m) hu (flatK_info hc) ((flatK_ok d m e c' hc).1 hs) hs
            exact ⟨fun hsz => eqP_of_eqA (.inr ⟨_, _, hu⟩) hsz this, fun _ => this⟩
          · cases h
        · cases h
      case struct fs =>
        split at h
        · cases h
        · rename_i hp
          have := eqA_struct (dd := d + m) (ts := c) hu (by simpa using hp) (fun t c hc hs => (flatK_ok d m t c hc).1 hs) h
          exact ⟨fun hsz => eqP_of_eqA (.inl ⟨_, hu⟩) hsz this, fun _ => this⟩
end
end Go.Proofs.Ytdmpbdmgaepndaa.AM
