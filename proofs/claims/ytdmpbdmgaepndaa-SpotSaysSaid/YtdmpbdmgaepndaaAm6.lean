/-
  The plain machine against the model: memory.
-/
import Derived.Test.YtdmpbdmgaepndaaAm5
import Derived.Laws.CopyRow
set_option linter.unusedVariables false
set_option linter.unusedSimpArgs false
namespace Go.Proofs.Ytdmpbdmgaepndaa.AM
open Go
open Go.BigFrame
section
variable {P : Program} {C : Ctx} {F : Nat → Prop} {w w' : World} {a : Act} {s : S} {h : Hp} {K : V → Hp → Prop} {Q : Exit → Act → World → Prop} {o : Oper}

theorem ObSat.lt {B : Nat → Prop} {ob : Ob} {b : Nat} (h : ObSat F B w ob) (hb : ob.b = some b) : b < w.heap.size := by
  unfold ObSat at h
  rw [hb] at h
  obtain ⟨c, cap, hc, _⟩ := h
  exact (Array.getElem?_eq_some_iff.1 hc).1

theorem HSat.notB (hC : C.Ok) (hs : HSat C F h w) {k : Nat} {ob : Ob} {b : Nat} (hk : h k = some ob) (hb : ob.b = some b) : ¬ C.B b := by
  intro hB
  have h1 := hC.B b hB
  rcases (hs.live k ob b hk hb).2 with h2 | h2
  · exact h1.2 h2
  · omega

/-- what is known of values stays known while only own objects change -/
theorem HSat.keep (hC : C.Ok) (hs : HSat C F h w) {L : Nat → Prop} (he : Ev L w w') (hL : ∀ b, b < w.heap.size → L b → ∃ k ob, h k = some ob ∧ ob.b = some b) {x : V} {y : Value} (hr : Rel F C.B w x y) : Rel F C.B w' x y := by
  refine Rel.keep he (fun _ _ h => h) (fun _ _ h => .inr h) (fun b hb hFB hLb => ?_) hr (fun b hFB => ?_)
  · obtain ⟨k, ob, hk, hbb⟩ := hL b hb hLb
    rcases hFB with h1 | h1
    · exact (hs.live k ob b hk hbb).1 h1
    · exact hs.notB hC hk hbb h1
  · rcases hFB with h1 | h1
    · exact hs.lt b h1
    · exact Nat.lt_of_lt_of_le (hC.B b h1).1 hs.ev.size

theorem ObSat.keep (hC : C.Ok) (hs : HSat C F h w) {L : Nat → Prop} (he : Ev L w w') (hL : ∀ b, b < w.heap.size → L b → ∃ k ob, h k = some ob ∧ ob.b = some b) {ob : Ob} (ho : ObSat F C.B w ob) (hn : ∀ b, ob.b = some b → ¬ L b) : ObSat F C.B w' ob := by
  unfold ObSat at ho ⊢
  cases hb : ob.b with
  | none => rw [hb] at ho; exact ho
  | some b =>
    rw [hb] at ho
    obtain ⟨c, cap, hc, h1, h2, h3, h4, h5⟩ := ho
    refine ⟨c, cap, (he.same b (Array.getElem?_eq_some_iff.1 hc).1 (hn b hb)).trans hc, h1, h2, h3, h4, fun i j r v hi hj => ?_⟩
    obtain ⟨u, hu, ho, hr⟩ := h5 i j r v hi hj
    exact ⟨u, hu, ho, hs.keep hC he hL hr⟩

/-- one object is new, or is changed -/
theorem HSat.step (hC : C.Ok) (hs : HSat C F h w) {L : Nat → Prop} (he : Ev L w w') {k : Nat} (hL : ∀ b, b < w.heap.size → L b → ∃ ob, h k = some ob ∧ ob.b = some b) {o' : Ob} (ho : ObSat F C.B w' o')
    (hob : ∀ b, o'.b = some b → w.heap.size ≤ b ∨ ∃ ob, h k = some ob ∧ ob.b = some b) : HSat C F (h.put k o') w' := by
  have hL' : ∀ b, b < w.heap.size → L b → ∃ k ob, h k = some ob ∧ ob.b = some b := fun b hb hl => ⟨k, hL b hb hl⟩
  refine ⟨fun k' ob hk => ?_, fun k1 k2 o1 o2 b h1 h2 e1 e2 => ?_, fun k' ob b hk hb => ?_, hs.old, hs.new, fun b hb => Nat.lt_of_lt_of_le (hs.lt b hb) he.size, ?_⟩
  · unfold Hp.put at hk
    split at hk
    · cases hk; exact ho
    · refine ObSat.keep hC hs he hL' (hs.ob k' ob hk) fun b hb hl => ?_
      obtain ⟨ob2, h2, e2⟩ := hL b ((hs.ob k' ob hk).lt hb) hl
      have := hs.inj k' k ob ob2 b hk h2 hb e2
      contradiction
  · unfold Hp.put at h1 h2
    split at h1 <;> split at h2
    · subst_vars; rfl
    · cases h1
      rcases hob b e1 with hge | ⟨ob, hk, hb⟩
      · have := (hs.ob k2 o2 h2).lt e2; omega
      · have := hs.inj k k2 ob o2 b hk h2 hb e2
        omega
    · cases h2
      rcases hob b e2 with hge | ⟨ob, hk, hb⟩
      · have := (hs.ob k1 o1 h1).lt e1; omega
      · have := hs.inj k1 k o1 ob b h1 hk e1 hb
        omega
    · exact hs.inj k1 k2 o1 o2 b h1 h2 e1 e2
  · unfold Hp.put at hk
    split at hk
    · cases hk
      rcases hob b hb with hge | ⟨ob, hk2, hb2⟩
      · refine ⟨fun hF => ?_, .inr (Nat.le_trans hs.ev.size hge)⟩
        have := hs.lt b hF; omega
      · exact hs.live k ob b hk2 hb2
    · exact hs.live k' ob b hk hb
  · refine Ev.weak hs.ev he fun b hb hl => ?_
    obtain ⟨ob, hk, hbb⟩ := hL b (Nat.lt_of_lt_of_le hb hs.ev.size) hl
    rcases (hs.live k ob b hk hbb).2 with h1 | h1
    · exact h1
    · omega

theorem wp_step (hC : C.Ok) {u : Value} {v : V} {k : Nat} {o' : Ob} {L : Nat → Prop} (hs : HSat C F h w) (hrun : (execOp a.eval o).run P w = .ok (.value u) w') (he : Ev L w w') (hL : ∀ b, b < w.heap.size → L b → ∃ ob, h k = some ob ∧ ob.b = some b)
    (hv : Rel F C.B w' v u) (ho : ObSat F C.B w' o') (hob : ∀ b, o'.b = some b → w.heap.size ≤ b ∨ ∃ ob, h k = some ob ∧ ob.b = some b) (hK : K v (h.put k o')) :
    o.wp P a w (OpPost C F w a o.dst K) Q :=
  wp_val hrun ⟨u, v, _, F, rfl, hv, hs.step hC he hL ho hob, fun _ _ hr => hs.keep hC he (fun b hb hl => ⟨k, hL b hb hl⟩) hr, hK⟩

/-- a new row of cells -/
theorem ObSat.new {B : Nat → Prop} {c : Array Value} {e sz : Nat} {rows : List (List V)} (hc : ∀ (i j : Nat) (r : List V) (v : V), rows[i]? = some r → r[j]? = some v → ∃ u, c[i * sz + j]? = some u ∧ u.oneCell' = true ∧ Rel F B (w.alloc (.cells c e)) v u)
    (hsz : ∀ r ∈ rows, r.length = sz) (hcap : c.size = rows.length * sz) (hm : rows.length ≤ maxLen) : ObSat F B (w.alloc (.cells c e)) ⟨some w.heap.size, e, sz, rows⟩ :=
  ⟨c, rows.length, heap_alloc_new w _, hcap, hm, Nat.le_refl _, hsz, hc⟩

theorem zero_run {T : TypeId} {z : List Value} (hz : zeroT P T = some z) : ∃ v : Value, v.cells.toList = z ∧ (zeroValue T).run P w = .ok v w := by
  simp only [zeroT, Option.map_eq_some_iff, Option.bind_eq_some_iff] at hz
  obtain ⟨v, ⟨i, hi, hv⟩, rfl⟩ := hz
  exact ⟨v, rfl, by simp [zeroValue, typeInfo, program, Sem.run_bind, Sem.run_pure, Sem.run, hi, hv]⟩

theorem run_newVar {T : TypeId} {v : Value} : (newVar T v).run P w = .ok ⟨w.heap.size, 0, none⟩ (w.alloc (.cells v.cells T)) := by
  simp [newVar, newRow, newObj, Sem.run_bind, Sem.run_pure, Sem.run]

theorem snd_alloc (hC : C.Ok) {T : TypeId} {z : List Value} {k : Nat} (ho : o.op = .alloc T) (hz : zeroT P T = some z) (hs : HSat C F h w) (h1 : z.all (fun u => u.oneCell') = true)
    (hK : ∀ β : Nat, K (.ptr k (some β) z.length 0 0) (h.put k ⟨some β, T, z.length, [z.map vOf]⟩)) : o.wp P a w (OpPost C F w a o.dst K) Q := by
  obtain ⟨v, hv, hr⟩ := zero_run (w := w) hz
  subst hv
  refine wp_step hC (u := .pointer (some ⟨w.heap.size, 0, none⟩)) (w' := w.alloc (.cells v.cells T)) (L := fun _ => False) hs ?_ (Ev.alloc _ _ _) (fun _ _ h => h.elim) ?_ (ObSat.new (fun i j r v' hi hj => ?_) (by simp) (by simp) (by simp [maxLen])) (fun b hb => ?_) (hK w.heap.size)
  · generalize a.eval = ρ at *
    simp [execOp, ho, Sem.run_bind, Sem.run_pure, Instr.alloc, hr, run_newVar]
  · simpa using Rel.ptr (F := F) (B := C.B) (w := w.alloc (.cells v.cells T)) k w.heap.size v.cells.toList.length 0 0
  · cases i with
    | zero =>
      simp at hi
      subst hi
      simp only [List.getElem?_map, Option.map_eq_some_iff] at hj
      obtain ⟨u, hu, rfl⟩ := hj
      refine ⟨u, by simpa using hu, ?_, rel_vOf _ _ _ _⟩
      exact (List.all_eq_true.1 h1) u (List.mem_of_getElem? hu)
    | succ i => simp at hi
  · left; cases hb; exact Nat.le_refl _

/-- the cells of a value -/
theorem rel_cells {B : Nat → Prop} {v : V} {u : Value} {n : Nat} (hr : Rel F B w v u) (hf : v.fits n) : u.cells.size = n ∧ ∀ (j : Nat) (x : V), v.cells[j]? = some x → ∃ y, u.cells[j]? = some y ∧ y.oneCell' = true ∧ Rel F B w x y := by
  have one : ∀ x y, x.one = true → Rel F B w x y → y.oneCell' = true := by
    intro x y hx hr
    cases hr <;> simp [V.one, Value.oneCell'] at hx ⊢
    exact hx
  obtain ⟨hl, ha⟩ := hf
  have single : v.cells = [v] → u.cells = #[u] → u.cells.size = n ∧ ∀ (j : Nat) (x : V), v.cells[j]? = some x → ∃ y, u.cells[j]? = some y ∧ y.oneCell' = true ∧ Rel F B w x y := by
    intro e1 e2
    rw [e1] at hl ha
    refine ⟨by rw [e2]; simpa using hl, fun j x hj => ?_⟩
    rw [e1] at hj
    cases j with
    | zero =>
      simp at hj
      subst hj
      exact ⟨u, by simp [e2], one _ _ (by simpa using ha) hr, hr⟩
    | succ j => simp at hj
  cases hr with
  | agg cs us hsz hrr =>
    simp only [V.cells] at hl ha ⊢
    refine ⟨by simp only [Value.cells]; omega, fun j x hj => ?_⟩
    have hj' : j < us.size := by have := (List.getElem?_eq_some_iff.1 hj).1; omega
    have := hrr j x us[j] hj (by simp [hj'])
    exact ⟨us[j], by simp [Value.cells, hj'], one _ _ (List.all_eq_true.1 ha x (List.mem_of_getElem? hj)) this, this⟩
  | raw =>
    cases u <;> first | exact single rfl rfl | (simp [V.cells, V.one, Value.oneCell'] at ha)
  | junk => simp [V.cells, V.one] at ha
  | und => simp [V.cells, V.one] at ha
  | tup => simp [V.cells, V.one] at ha
  | _ => exact single rfl rfl

theorem snd_box (hC : C.Ok) {T : TypeId} {x : Operand} {v : V} {n k : Nat} (ho : o.op = .box T x) (hs : HSat C F h w) (hx : Rel F C.B w v (a.eval x)) (hf : v.fits n)
    (hK : ∀ β : Nat, K (.ptr k (some β) n 0 0) (h.put k ⟨some β, T, n, [v.cells]⟩)) : o.wp P a w (OpPost C F w a o.dst K) Q := by
  obtain ⟨h1, h2⟩ := rel_cells hx hf
  refine wp_step hC (u := .pointer (some ⟨w.heap.size, 0, none⟩)) (w' := w.alloc (.cells (a.eval x).cells T)) (L := fun _ => False) hs ?_ (Ev.alloc _ _ _) (fun _ _ h => h.elim) ?_ (ObSat.new (fun i j r v' hi hj => ?_) (by simp [hf.1]) (by simp [h1]) (by simp [maxLen])) (fun b hb => ?_) (hK w.heap.size)
  · generalize a.eval = ρ at *
    simp [execOp, ho, Sem.run_bind, Sem.run_pure, Instr.box, run_newVar]
  · simpa using Rel.ptr (F := F) (B := C.B) (w := w.alloc (.cells (a.eval x).cells T)) k w.heap.size n 0 0
  · cases i with
    | zero =>
      simp at hi
      subst hi
      obtain ⟨y, hy, h1y, hr⟩ := h2 j v' hj
      exact ⟨y, by simpa using hy, h1y, hs.keep hC (Ev.alloc (fun _ => False) _ _) (fun _ _ h => h.elim) hr⟩
    | succ i => simp at hi
  · left; cases hb; exact Nat.le_refl _
end
end Go.Proofs.Ytdmpbdmgaepndaa.AM
