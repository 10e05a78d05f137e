/-
  The plain machine against the model: literals, make.
-/
import Derived.Test.YtdmpbdmgaepndaaAm9
set_option linter.unusedVariables false
set_option linter.unusedSimpArgs false
namespace Go.Proofs.Ytdmpbdmgaepndaa.AM
open Go
open Go.BigFrame

theorem fold_cells (vs : List Value) : ∀ (k off : Nat) (cells : Array Value), off + k + vs.length ≤ cells.size →
    ((vs.zipIdx k).foldl (fun cs (x : Value × Nat) => cs.setIfInBounds (off + x.2) x.1) cells).size = cells.size ∧
    ∀ m, ((vs.zipIdx k).foldl (fun cs (x : Value × Nat) => cs.setIfInBounds (off + x.2) x.1) cells)[m]? = if m < off + k then cells[m]? else if m < off + k + vs.length then vs[m - (off + k)]? else cells[m]? := by
  induction vs with
  | nil => intro k off cells _; refine ⟨rfl, fun m => ?_⟩; simp only [List.zipIdx_nil, List.foldl_nil, List.length_nil, Nat.add_zero]; by_cases hm : m < off + k <;> simp [hm]
  | cons v vs ih =>
    intro k off cells h
    simp only [List.zipIdx_cons, List.foldl_cons]
    simp only [List.length_cons] at h
    obtain ⟨h1, h2⟩ := ih (k + 1) off (cells.setIfInBounds (off + k) v) (by simp; omega)
    refine ⟨by rw [h1]; simp, fun m => ?_⟩
    rw [h2]
    simp only [Array.getElem?_setIfInBounds, List.length_cons]
    by_cases h3 : m < off + k
    · rw [if_pos (by omega), if_neg (by omega), if_pos h3]
    · by_cases h4 : m = off + k
      · subst h4
        rw [if_pos (by omega), if_pos rfl, if_pos (by omega), if_neg (by omega), if_pos (by omega)]
        simp
      · rw [if_neg h3]
        by_cases h5 : m < off + k + (vs.length + 1)
        · rw [if_neg (by omega), if_pos (by omega), if_pos h5, show m - (off + k) = (m - (off + (k + 1))) + 1 by omega, List.getElem?_cons_succ]
        · rw [if_neg (by omega), if_neg (by omega), if_neg (by omega), if_neg h5]

theorem fold_cells' (v : Value) (off : Nat) (cells : Array Value) (h : off + v.cells.size ≤ cells.size) :
    (v.cells.zipIdx.foldl (fun cs (c, j) => cs.setIfInBounds (off + j) c) cells).size = cells.size ∧
    ∀ m, (v.cells.zipIdx.foldl (fun cs (c, j) => cs.setIfInBounds (off + j) c) cells)[m]? = if m < off then cells[m]? else if m < off + v.cells.size then v.cells[m - off]? else cells[m]? := by
  have := fold_cells v.cells.toList 0 off cells (by simpa using h)
  rw [← Array.foldl_toList, Array.toList_zipIdx]
  simpa using this

section
variable {P : Program} {C : Ctx} {F : Nat → Prop} {w w' : World} {a : Act} {s : S} {h : Hp} {K : V → Hp → Prop} {Q : Exit → Act → World → Prop} {o : Oper}

/-- cells laid over cells -/
theorem fill_run {off : Nat → Option (Nat × Nat)} {n : Nat} : ∀ (parts : List (Nat × Operand)) (ps : List (Nat × Nat × Opd)) (r : List V) (c : Array Value), trParts off n parts = some ps → (hr : ∀ i : Nat, Rel F C.B w (s.t i) (a.tmps.getD i undef)) →
    (∀ p ∈ ps, (p.2.2.ev s).fits p.2.1) → r.length = n → c.size = n → (∀ (m : Nat) (v : V) (u : Value), r[m]? = some v → c[m]? = some u → Rel F C.B w v u) →
    ∃ c', Instr.fill off c (parts.map fun p => (p.1, a.eval p.2)) = some c' ∧ c'.size = n ∧ (fillV r (ps.map fun p => (p.1, (p.2.2.ev s).cells))).length = n ∧
      (∀ (m : Nat) (v : V) (u : Value), (fillV r (ps.map fun p => (p.1, (p.2.2.ev s).cells)))[m]? = some v → c'[m]? = some u → Rel F C.B w v u) := by
  intro parts
  induction parts with
  | nil =>
    intro ps r c ht hr hf hl hc hrel
    simp only [trParts, Option.some.injEq] at ht
    subst ht
    exact ⟨c, rfl, hc, hl, hrel⟩
  | cons p parts ih =>
    intro ps r c ht hr hf hl hc hrel
    obtain ⟨j, x⟩ := p
    simp only [trParts] at ht
    cases h1 : off j with
    | none => rw [h1] at ht; simp at ht
    | some os =>
      obtain ⟨o, sz⟩ := os
      cases h2 : trX x with
      | none => rw [h1, h2] at ht; simp at ht
      | some y =>
        cases h3 : trParts off n parts with
        | none => rw [h1, h2, h3] at ht; simp at ht
        | some m =>
          rw [h1, h2, h3] at ht
          simp only [] at ht
          split at ht
          · rename_i hle
            cases ht
            have hy := ev_rel hr h2
            have hfy := hf _ (List.mem_cons_self ..)
            obtain ⟨hz, hce⟩ := rel_cells hy hfy
            have hyl : (y.ev s).cells.length = sz := hfy.1
            obtain ⟨g1, g2⟩ := fold_cells' (a.eval x) o c (by rw [hz, hc]; exact hle)
            have hsl : (splice r o (y.ev s).cells).length = n := by simp only [splice, List.length_append, List.length_take, List.length_drop]; omega
            obtain ⟨c', e1, e2, e3, e4⟩ := ih m (splice r o (y.ev s).cells) _ h3 hr (fun p hp => hf p (List.mem_cons_of_mem _ hp)) hsl (g1.trans hc) (fun k v u hv hu => by
              rw [g2] at hu
              unfold splice at hv
              rw [splice_get r (y.ev s).cells o k (by omega)] at hv
              rw [hz] at hu
              rw [hyl] at hv
              by_cases q1 : k < o
              · rw [if_pos q1] at hv hu
                exact hrel k v u hv hu
              · rw [if_neg q1] at hv hu
                by_cases q2 : k < o + sz
                · rw [if_pos q2] at hv hu
                  obtain ⟨u', hu', _, hru⟩ := hce (k - o) v hv
                  rw [hu] at hu'
                  cases hu'
                  exact hru
                · rw [if_neg q2] at hv hu
                  exact hrel k v u hv hu)
            refine ⟨c', ?_, e2, e3, e4⟩
            simp only [List.map_cons, Instr.fill, h1]
            rw [if_neg (by simp [hz]; omega)]
            exact e1
          · cases ht

theorem snd_build {T : TypeId} {parts : Array (Nat × Operand)} {z : List Value} {ps : List (Nat × Nat × Opd)} {off : Nat → Option (Nat × Nat)} (ho : o.op = .build T parts) (hz : zeroT P T = some z) (ht : trParts off z.length parts.toList = some ps)
    (hoff : (∃ fs places, P.underlying T = some (.struct fs) ∧ fs.toList.mapM (fun f => (P.info? f.type).map fun i => (f.offset, i.size)) = some places ∧ off = fun j => places.toArray[j]?) ∨ (∃ k e n, P.underlying T = some (.array k e) ∧ szT P e = some n ∧ off = fun j => some (j * n, n)))
    (hs : HSat C F h w) (hr : ∀ i : Nat, Rel F C.B w (s.t i) (a.tmps.getD i undef)) (hf : ∀ p ∈ ps, (p.2.2.ev s).fits p.2.1) (hK : K (.agg (fillV (z.map vOf) (ps.map fun p => (p.1, (p.2.2.ev s).cells)))) h) : o.wp P a w (OpPost C F w a o.dst K) Q := by
  have hz' := hz
  simp only [zeroT, Option.map_eq_some_iff, Option.bind_eq_some_iff] at hz'
  obtain ⟨zv, ⟨it, hit, hzv⟩, hzc⟩ := hz'
  obtain ⟨c', e1, e2, e3, e4⟩ := fill_run (F := F) (C := C) (w := w) parts.toList ps (z.map vOf) zv.cells ht hr hf (by simp) (by rw [← hzc]; simp) (fun m v u hv hu => by
    simp only [List.getElem?_map, Option.map_eq_some_iff] at hv
    obtain ⟨u', hu', rfl⟩ := hv
    rw [← hzc, Array.getElem?_toList, hu] at hu'
    cases hu'
    exact rel_vOf _ _ _ _)
  refine wp_pure (u := .agg c') hs ?_ (.agg _ _ (by rw [e2, e3]) e4) hK
  have hbuilt : P.built T (parts.map fun (i, x) => (i, a.eval x)).toList = some c' := by
    have hmap : (parts.map fun (i, x) => (i, a.eval x)).toList = parts.toList.map fun p => (p.1, a.eval p.2) := by simp
    rw [hmap]
    unfold Program.built
    rcases hoff with ⟨fs, places, hd, hp, rfl⟩ | ⟨k, e, n, hd, hn, rfl⟩
    · simp only [hit, hd, hzv, hp]
      exact e1
    · simp only [szT, Option.map_eq_some_iff] at hn
      obtain ⟨ie, hie, rfl⟩ := hn
      simp only [hit, hd, hzv, hie]
      exact e1
  unfold execOp
  rw [ho]
  simp only [Sem.run_bind, run_build w T _ c' hbuilt, Result.andThen_ok, Sem.run_pure]

/-- cells laid one behind the other -/
theorem seq_run {n sz : Nat} : ∀ (parts : List (Nat × Operand)) (ps : List Opd) (i : Nat) (c : Array Value), trSeq i parts = some ps → (hr : ∀ i : Nat, Rel F C.B w (s.t i) (a.tmps.getD i undef)) →
    (∀ p ∈ ps, (p.ev s).fits sz) → c.size = n → (i + ps.length) * sz ≤ n →
    ∃ c', Instr.fill (fun j => some (j * sz, sz)) c (parts.map fun p => (p.1, a.eval p.2)) = some c' ∧ c'.size = n ∧ (∀ m, m < i * sz → c'[m]? = c[m]?) ∧
      (∀ (k j : Nat) (p : Opd) (v : V), ps[k]? = some p → (p.ev s).cells[j]? = some v → ∃ u, c'[(i + k) * sz + j]? = some u ∧ u.oneCell' = true ∧ Rel F C.B w v u) := by
  intro parts
  induction parts with
  | nil =>
    intro ps i c ht hr hf hc hle
    simp only [trSeq, Option.some.injEq] at ht
    subst ht
    exact ⟨c, rfl, hc, fun _ _ => rfl, by simp⟩
  | cons p parts ih =>
    intro ps i c ht hr hf hc hle
    obtain ⟨j, x⟩ := p
    simp only [trSeq] at ht
    cases h2 : trX x with
    | none => rw [h2] at ht; simp at ht
    | some y =>
      cases h3 : trSeq (i + 1) parts with
      | none => rw [h2, h3] at ht; simp at ht
      | some m =>
        rw [h2, h3] at ht
        simp only [] at ht
        split at ht
        · rename_i hji
          cases ht
          subst hji
          have hy := ev_rel hr h2
          have hfy := hf _ (List.mem_cons_self ..)
          obtain ⟨hz, hce⟩ := rel_cells hy hfy
          have hyl : (y.ev s).cells.length = sz := hfy.1
          simp only [List.length_cons] at hle
          have hle' : (j + 1) * sz ≤ n := Nat.le_trans (Nat.mul_le_mul_right _ (by omega)) hle
          rw [Nat.add_mul] at hle'
          obtain ⟨g1, g2⟩ := fold_cells' (a.eval x) (j * sz) c (by rw [hz, hc]; omega)
          obtain ⟨c', e1, e2, e3, e4⟩ := ih m (j + 1) _ h3 hr (fun p hp => hf p (List.mem_cons_of_mem _ hp)) (g1.trans hc) (by rw [show j + 1 + m.length = j + (m.length + 1) by omega]; exact hle)
          have hmul : (j + 1) * sz = j * sz + sz := by rw [Nat.add_mul]; omega
          refine ⟨c', ?_, e2, fun q hq => ?_, fun k q p v hk hv => ?_⟩
          · simp only [List.map_cons, Instr.fill]
            rw [if_neg (by simp [hz]; omega)]
            exact e1
          · rw [e3 q (by omega), g2, if_pos hq]
          · cases k with
            | zero =>
              simp at hk
              subst hk
              have hq : q < sz := by have := (List.getElem?_eq_some_iff.1 hv).1; omega
              obtain ⟨u, hu, h1, hru⟩ := hce q v hv
              refine ⟨u, ?_, h1, hru⟩
              rw [Nat.add_zero, e3 _ (by omega), g2, if_neg (by omega), if_pos (by rw [hz]; omega), show j * sz + q - j * sz = q by omega]
              exact hu
            | succ k =>
              simp only [List.getElem?_cons_succ] at hk
              have := e4 k q p v hk hv
              rwa [show j + 1 + k = j + (k + 1) by omega] at this
        · cases ht

theorem snd_bslice (hC : C.Ok) {T e : TypeId} {k len : Nat} {parts : Array (Nat × Operand)} {z : List Value} {ps : List Opd} {sz : Nat} (ho : o.op = .buildSlice T len parts) (hd : P.underlying T = some (.slice e)) (hn : szT P e = some sz) (hz : zeroT P e = some z) (ht : trSeq 0 parts.toList = some ps)
    (hzl : z.length = sz) (hpos : 0 < sz) (hle : len * sz ≤ 16777216) (hlen : ps.length = len) (hs : HSat C F h w) (hr : ∀ i : Nat, Rel F C.B w (s.t i) (a.tmps.getD i undef)) (hf : ∀ p ∈ ps, (p.ev s).fits sz)
    (hK : ∀ β : Nat, K (.own k (some β) sz ps.length) (h.put k ⟨some β, e, sz, ps.map fun p => (p.ev s).cells⟩)) : o.wp P a w (OpPost C F w a o.dst K) Q := by
  obtain ⟨zv, hzv, hzr⟩ := zero_run (P := P) (w := w) hz
  have hml : len ≤ maxLen := by
    have : len * 1 ≤ len * sz := Nat.mul_le_mul_left _ hpos
    simp only [maxLen]; omega
  let zero : Array Value := if len * sz = 0 then #[] else zv.cells
  obtain ⟨c', e1, e2, e3, e4⟩ := seq_run (F := F) (C := C) (w := w) (n := len * sz) (sz := sz) parts.toList ps 0 ((Array.range (len * sz)).map (zero[· % zero.size]!)) ht hr hf (by simp) (by rw [Nat.zero_add, hlen]; exact Nat.le_refl _)
  have hheap := heap_alloc_new w (Obj.cells c' e)
  have hkeep := fun {x : V} {y : Value} => hs.keep hC (x := x) (y := y) (Ev.alloc (fun _ => False) w (Obj.cells c' e)) (fun _ _ h => h.elim)
  refine wp_step hC (u := .slice (some ⟨w.heap.size, 0, none⟩) len len) (w' := w.alloc (.cells c' e)) (L := fun _ => False) hs ?_ (Ev.alloc _ _ _) (fun _ _ h => h.elim) (by rw [hlen]; exact .own k w.heap.size sz len len c' e (0, 0) hheap e2 hml (Nat.le_refl _))
    (show ObSat F C.B (w.alloc (.cells c' e)) ⟨some w.heap.size, e, sz, ps.map fun p => (p.ev s).cells⟩ from ⟨c', len, hheap, e2, hml, by simp [hlen], fun r hr' => ?_, fun i j r v hi hj => ?_⟩) (fun b hb => .inl (by cases hb; exact Nat.le_refl _)) (hK w.heap.size)
  · unfold execOp
    rw [ho]
    have hmap : (parts.map fun (i, x) => (i, a.eval x)).toList = parts.toList.map fun p => (p.1, a.eval p.2) := by simp
    simp only [Instr.buildSlice, Sem.run_bind, run_underlying hd, Result.andThen_ok, sizeOf_run hn]
    rw [if_neg (by omega)]
    by_cases h0 : len * sz = 0
    · have hz0 : zero = #[] := by simp [zero, h0]
      rw [hz0, h0] at e1
      simp only [h0, ↓reduceIte, Sem.run_bind, Sem.run_pure, Result.andThen_ok, hmap, e1, newRow, newObj, Sem.run]
      rfl
    · have hz0 : zero = zv.cells := by simp [zero, h0]
      rw [hz0] at e1
      simp only [h0, ↓reduceIte, Sem.run_bind, Sem.run_pure, Result.andThen_ok, hzr, hmap, e1, newRow, newObj, Sem.run]
      rfl
  · simp only [List.mem_map] at hr'
    obtain ⟨p, hp, rfl⟩ := hr'
    exact (hf p hp).1
  · simp only [List.getElem?_map, Option.map_eq_some_iff] at hi
    obtain ⟨p, hp, rfl⟩ := hi
    obtain ⟨u, hu, h1, hru⟩ := e4 i j p v hp hj
    rw [Nat.zero_add] at hu
    exact ⟨u, hu, h1, hkeep hru⟩
end
end Go.Proofs.Ytdmpbdmgaepndaa.AM
