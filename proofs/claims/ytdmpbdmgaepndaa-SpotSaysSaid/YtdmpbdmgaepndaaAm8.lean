/-
  The plain machine against the model: slices that grow, and what is made whole.
-/
import Derived.Test.YtdmpbdmgaepndaaAm7
set_option linter.unusedVariables false
set_option linter.unusedSimpArgs false
namespace Go.Proofs.Ytdmpbdmgaepndaa.AM
open Go
open Go.BigFrame
section
variable {P : Program} {C : Ctx} {F : Nat → Prop} {w w' : World} {a : Act} {s : S} {h : Hp} {K : V → Hp → Prop} {Q : Exit → Act → World → Prop} {o : Oper}

/-- the cells of some rows -/
structure Flat (F B : Nat → Prop) (w : World) (sz : Nat) (rows : List (List V)) (us : List Value) : Prop where
  len : us.length = rows.length * sz
  all : ∀ r ∈ rows, r.length = sz
  one : ∀ u ∈ us, u.oneCell' = true
  rel : ∀ (i j : Nat) (r : List V) (v : V), rows[i]? = some r → r[j]? = some v → ∃ u, us[i * sz + j]? = some u ∧ Rel F B w v u

theorem idx_lt {i j sz n : Nat} (hi : i < n) (hj : j < sz) : i * sz + j < n * sz := by
  have : (i + 1) * sz ≤ n * sz := Nat.mul_le_mul_right _ hi
  rw [Nat.add_mul] at this
  omega
theorem idx_split {m n sz : Nat} (h : m < n * sz) : m / sz < n ∧ m % sz < sz ∧ m / sz * sz + m % sz = m := by
  have hsz : 0 < sz := by rcases Nat.eq_zero_or_pos sz with rfl | h' <;> simp_all
  exact ⟨Nat.div_lt_of_lt_mul (by rw [Nat.mul_comm]; exact h), Nat.mod_lt _ hsz, by rw [Nat.mul_comm]; exact Nat.div_add_mod m sz⟩

theorem Flat.of_fn {F B : Nat → Prop} {sz : Nat} {rows : List (List V)} (f : Nat → Value) (hsz : ∀ r ∈ rows, r.length = sz)
    (h : ∀ (i j : Nat) (r : List V) (v : V), rows[i]? = some r → r[j]? = some v → (f (i * sz + j)).oneCell' = true ∧ Rel F B w v (f (i * sz + j))) :
    Flat F B w sz rows ((List.range (rows.length * sz)).map f) := by
  refine ⟨by simp, hsz, fun u hu => ?_, fun i j r v hi hj => ?_⟩
  · simp only [List.mem_map, List.mem_range] at hu
    obtain ⟨m, hm, rfl⟩ := hu
    obtain ⟨h1, h2, h3⟩ := idx_split hm
    have hr : rows[m / sz]? = some rows[m / sz] := List.getElem?_eq_getElem h1
    have hl := hsz rows[m / sz] (List.getElem_mem h1)
    have := (h (m / sz) (m % sz) _ (rows[m / sz])[m % sz] hr (List.getElem?_eq_getElem (by omega))).1
    rwa [h3] at this
  · have h1 := (List.getElem?_eq_some_iff.1 hi).1
    have hl := hsz r (List.mem_of_getElem? hi)
    have h2 := (List.getElem?_eq_some_iff.1 hj).1
    exact ⟨f (i * sz + j), by simp [idx_lt h1 (by omega : j < sz)], (h i j r v hi hj).2⟩

/-- the rows that a slice holds, as cells in memory -/
theorem rows_flat (hs : HSat C F h w) {sz : Nat} {v : V} {u : Value} {rows : List (List V)} (hv : Rel F C.B w v u) (hr : rowsOf h sz v = some rows) :
    (rows = [] ∧ u = .slice none 0 0) ∨ ∃ ad cap us, u = .slice (some ad) rows.length cap ∧ Flat F C.B w sz rows us ∧ ∀ (j : Nat) (x : Value), us[j]? = some x → w.cell? (ad.add j) = some x := by
  cases hv with
  | slnil t sz' => simp [rowsOf] at hr; exact .inl ⟨hr.2, rfl⟩
  | slemp t sz' ad cap => simp [rowsOf] at hr; exact .inr ⟨ad, cap, [], by rw [hr.2]; rfl, by rw [hr.2]; exact ⟨by simp, by simp, by simp, by simp⟩, by simp⟩
  | nilsl => simp [rowsOf] at hr; exact .inl ⟨hr, rfl⟩
  | sl t sz' rows' b off cap us hF hcap hsz hc hrr =>
    simp only [rowsOf] at hr
    by_cases hszz : sz' = sz
    · rw [if_pos hszz] at hr
      cases hr
      subst hszz
      refine .inr ⟨⟨b, off, none⟩, cap, (List.range (rows.length * sz')).map fun m => (w.cell? ⟨b, off + m, none⟩).getD undef, rfl, Flat.of_fn _ hsz fun i j r v hi hj => ?_, fun j x hj => ?_⟩
      · have := hc i j r v hi hj
        rw [this.1]
        exact ⟨this.2, hrr i j r v hi hj⟩
      · simp only [List.getElem?_map, Option.map_eq_some_iff] at hj
        obtain ⟨m, hm, rfl⟩ := hj
        have hm' := List.getElem?_eq_some_iff.1 hm
        simp at hm'
        obtain ⟨hlt, rfl⟩ := hm'
        obtain ⟨h1, h2, h3⟩ := idx_split hlt
        have hl := hsz rows[j / sz'] (List.getElem_mem h1)
        have := (hc (j / sz') (j % sz') _ (rows[j / sz'])[j % sz'] (List.getElem?_eq_getElem h1) (List.getElem?_eq_getElem (by omega))).1
        rw [h3] at this
        rw [add_off, this]
        rfl
    · rw [if_neg hszz] at hr
      cases hr
  | ownnil k sz' =>
    simp only [rowsOf] at hr
    cases hk : h k with
    | none => simp only [hk] at hr; cases hr
    | some ob =>
      simp only [hk] at hr
      by_cases hc : ob.b = none ∧ ob.sz = sz ∧ sz' = sz ∧ 0 ≤ ob.rows.length
      · rw [if_pos hc] at hr; cases hr; exact .inl ⟨by simp, rfl⟩
      · rw [if_neg hc] at hr; cases hr
  | own k b sz' n cap c e fr hb hcs hm hn =>
    simp only [rowsOf] at hr
    cases hk : h k with
    | none => simp only [hk] at hr; cases hr
    | some ob =>
      simp only [hk] at hr
      by_cases hc : ob.b = some b ∧ ob.sz = sz ∧ sz' = sz ∧ n ≤ ob.rows.length
      · rw [if_pos hc] at hr
        obtain ⟨e1, e2, e3, e4⟩ := hc
        cases hr
        subst e3
        have ho := hs.ob k ob hk
        unfold ObSat at ho
        rw [e1] at ho
        obtain ⟨c', cap', hc', h1, h2, h3, h4, h5⟩ := ho
        rw [hb] at hc'
        cases hc'
        subst e2
        have hlen : (ob.rows.take n).length = n := by simp; omega
        refine .inr ⟨⟨b, 0, none⟩, cap, (List.range ((ob.rows.take n).length * ob.sz)).map fun m => (c[m]?).getD undef, by rw [hlen], Flat.of_fn _ (fun r hr => h4 r (List.mem_of_mem_take hr)) fun i j r v hi hj => ?_, fun j x hj => ?_⟩
        · rw [List.getElem?_take] at hi
          split at hi
          · obtain ⟨u, hu, h1u, hru⟩ := h5 i j r v hi hj
            rw [hu]
            exact ⟨h1u, hru⟩
          · cases hi
        · simp only [List.getElem?_map, Option.map_eq_some_iff] at hj
          obtain ⟨m, hm', rfl⟩ := hj
          have hm2 := List.getElem?_eq_some_iff.1 hm'
          simp at hm2
          obtain ⟨hlt, rfl⟩ := hm2
          rw [add_off, Nat.zero_add, cell_of_row w b j c ob.ty (0, 0) hb]
          have : j < c.size := by
            rw [hcs]
            refine Nat.lt_of_lt_of_le hlt ?_
            exact Nat.mul_le_mul_right _ (by omega)
          simp [this]
      · rw [if_neg hc] at hr; cases hr
  | _ => simp [rowsOf] at hr

theorem Flat.append {F B : Nat → Prop} {sz : Nat} {r1 r2 : List (List V)} {u1 u2 : List Value} (h1 : Flat F B w sz r1 u1) (h2 : Flat F B w sz r2 u2) : Flat F B w sz (r1 ++ r2) (u1 ++ u2) := by
  refine ⟨by simp [h1.len, h2.len, Nat.add_mul], fun r hr => ?_, fun u hu => ?_, fun i j r v hi hj => ?_⟩
  · rcases List.mem_append.1 hr with h | h
    · exact h1.all r h
    · exact h2.all r h
  · rcases List.mem_append.1 hu with h | h
    · exact h1.one u h
    · exact h2.one u h
  · by_cases hl : i < r1.length
    · rw [List.getElem?_append_left hl] at hi
      obtain ⟨u, hu, hr⟩ := h1.rel i j r v hi hj
      exact ⟨u, by rw [List.getElem?_append_left (List.getElem?_eq_some_iff.1 hu).1]; exact hu, hr⟩
    · rw [List.getElem?_append_right (by omega)] at hi
      obtain ⟨u, hu, hr⟩ := h2.rel (i - r1.length) j r v hi hj
      refine ⟨u, ?_, hr⟩
      have : r1.length * sz ≤ i * sz := Nat.mul_le_mul_right _ (by omega)
      rw [List.getElem?_append_right (by rw [h1.len]; omega), h1.len, show i * sz + j - r1.length * sz = (i - r1.length) * sz + j by rw [Nat.sub_mul]; omega]
      exact hu

theorem Flat.keep {sz : Nat} {rows : List (List V)} {us : List Value} (h : Flat F C.B w sz rows us) (hk : ∀ x y, Rel F C.B w x y → Rel F C.B w' x y) : Flat F C.B w' sz rows us :=
  ⟨h.len, h.all, h.one, fun i j r v hi hj => let ⟨u, hu, hr⟩ := h.rel i j r v hi hj; ⟨u, hu, hk _ _ hr⟩⟩

/-- an own object out of its cells -/
theorem ObSat.of_flat {B : Nat → Prop} {b e sz cap : Nat} {rows : List (List V)} {us : List Value} {c : Array Value} (hc : w.heap[b]? = some (.cells c e (0, 0))) (hs : c.size = cap * sz) (hm : cap ≤ maxLen) (hl : rows.length ≤ cap) (hf : Flat F B w sz rows us)
    (ht : ∀ (m : Nat) (u : Value), us[m]? = some u → c[m]? = some u) : ObSat F B w ⟨some b, e, sz, rows⟩ :=
  ⟨c, cap, hc, hs, hm, hl, hf.all, fun i j r v hi hj => let ⟨u, hu, hr⟩ := hf.rel i j r v hi hj; ⟨u, ht _ _ hu, hf.one u (List.mem_of_getElem? hu), hr⟩⟩

/-- the cells of a live object's rows -/
theorem ob_flat {ob : Ob} {b : Nat} (ho : ObSat F C.B w ob) (hb : ob.b = some b) : ∃ c cap us, w.heap[b]? = some (.cells c ob.ty (0, 0)) ∧ c.size = cap * ob.sz ∧ cap ≤ maxLen ∧ ob.rows.length ≤ cap ∧ Flat F C.B w ob.sz ob.rows us ∧ us = c.toList.take (ob.rows.length * ob.sz) := by
  unfold ObSat at ho
  rw [hb] at ho
  obtain ⟨c, cap, hc, h1, h2, h3, h4, h5⟩ := ho
  have hle : ob.rows.length * ob.sz ≤ c.size := by rw [h1]; exact Nat.mul_le_mul_right _ h3
  have hfl := Flat.of_fn (F := F) (B := C.B) (w := w) (fun m => (c[m]?).getD undef) h4 fun i j r v hi hj => by
    obtain ⟨u, hu, h1u, hru⟩ := h5 i j r v hi hj
    rw [hu]
    exact ⟨h1u, hru⟩
  refine ⟨c, cap, _, hc, h1, h2, h3, hfl, ?_⟩
  apply List.ext_getElem?
  intro m
  rw [List.getElem?_take]
  by_cases hm : m < ob.rows.length * ob.sz
  · rw [if_pos hm]
    have hmc : m < c.size := by omega
    simp [hm, hmc]
  · rw [if_neg hm]
    simp; omega
end
end Go.Proofs.Ytdmpbdmgaepndaa.AM
