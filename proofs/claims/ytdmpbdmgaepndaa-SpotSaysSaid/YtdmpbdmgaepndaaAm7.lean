/-
  The plain machine against the model: loads and stores.
-/
import Derived.Test.YtdmpbdmgaepndaaAm6
set_option linter.unusedVariables false
set_option linter.unusedSimpArgs false
namespace Go.Proofs.Ytdmpbdmgaepndaa.AM
open Go
open Go.BigFrame

theorem splice_get {α : Type} (l vs : List α) (o m : Nat) (h : o + vs.length ≤ l.length) : (l.take o ++ vs ++ l.drop (o + vs.length))[m]? = if m < o then l[m]? else if m < o + vs.length then vs[m - o]? else l[m]? := by
  have hl : (l.take o).length = o := by simp; omega
  by_cases h1 : m < o
  · rw [if_pos h1, List.append_assoc, List.getElem?_append_left (by omega), List.getElem?_take, if_pos h1]
  · rw [if_neg h1]
    by_cases h2 : m < o + vs.length
    · rw [if_pos h2, List.append_assoc, List.getElem?_append_right (by omega), List.getElem?_append_left (by omega), hl]
    · rw [if_neg h2, List.getElem?_append_right (by simp; omega), List.getElem?_drop]
      congr 1
      simp only [List.length_append, hl]
      omega

section
variable {P : Program} {C : Ctx} {F : Nat → Prop} {w w' : World} {a : Act} {s : S} {h : Hp} {K : V → Hp → Prop} {Q : Exit → Act → World → Prop} {o : Oper}

/-- the row of an own object that a pointer leads to -/
theorem rowC_sat (hs : HSat C F h w) {k sz i : Nat} {b : Option Nat} {Kr : Ob → List V → Prop} (hr : rowC h k b sz i Kr) :
    ∃ ob g c cap, h k = some ob ∧ ob.b = b ∧ ob.sz = sz ∧ i < ob.rows.length ∧ Kr ob (ob.rows.getD i []) ∧ b = some g ∧ w.heap[g]? = some (.cells c ob.ty (0, 0)) ∧ c.size = cap * sz ∧ cap ≤ maxLen ∧ ob.rows.length ≤ cap ∧ (ob.rows.getD i []).length = sz ∧ (∀ r ∈ ob.rows, r.length = sz) ∧
      (∀ (i j : Nat) (r : List V) (v : V), ob.rows[i]? = some r → r[j]? = some v → ∃ u, c[i * sz + j]? = some u ∧ u.oneCell' = true ∧ Rel F C.B w v u) := by
  unfold rowC at hr
  cases hk : h k with
  | none => rw [hk] at hr; exact hr.elim
  | some ob =>
    rw [hk] at hr
    obtain ⟨e1, e2, hi, hK⟩ := hr
    have ho := hs.ob k ob hk
    unfold ObSat at ho
    cases hb : ob.b with
    | none => rw [hb] at ho; rw [ho] at hi; simp at hi
    | some g =>
      rw [hb] at ho
      obtain ⟨c, cap, hc, h1, h2, h3, h4, h5⟩ := ho
      subst e2
      refine ⟨ob, g, c, cap, rfl, e1, rfl, hi, hK, by rw [← e1, hb], hc, h1, h2, h3, ?_, h4, h5⟩
      have hm : ob.rows.getD i [] ∈ ob.rows := by simp [List.getD_eq_getElem?_getD, hi]
      exact h4 _ hm

theorem run_load1 {T : TypeId} {ad : Addr} {u : Value} (hg : isAggT P T = some false) (hc : w.cell? ad = some u) : (loadVar T ad).run P w = .ok u w := by
  simp [loadVar, Sem.run_bind, Sem.run_pure, isAgg_run hg, load, Sem.run, hc]
theorem run_loadn {T : TypeId} {ad : Addr} {n : Nat} (hg : isAggT P T = some true) (hn : szT P T = some n) (hc : ∀ j, j < n → ∃ u, w.cell? (ad.add j) = some u) : (loadVar T ad).run P w = .ok (.agg ((List.range n).map fun j => (w.cell? (ad.add j)).getD undef).toArray) w := by
  have := run_loadCells (P := P) w ad n (fun j => (w.cell? (ad.add j)).getD undef) (fun j hj => by obtain ⟨u, hu⟩ := hc j hj; rw [hu]; rfl)
  simp [loadVar, Sem.run_bind, Sem.run_pure, isAgg_run hg, sizeOf_run hn, this]

theorem load1_core {T : TypeId} {vx : V} {ux : Value} {K : V → Prop} (hg : isAggT P T = some false) (hs : HSat C F h w) (hx : Rel F C.B w vx ux) (hK : load1V h vx K) :
    ∃ ad v u, ux = .pointer (some ad) ∧ (loadVar T ad).run P w = .ok u w ∧ Rel F C.B w v u ∧ K v := by
  cases hx with
  | ptr k b sz i off =>
    simp only [load1V] at hK
    obtain ⟨ob, g, c, cap, hk, e1, e2, hi, hN, e3, hc, _, _, _, hl, _, hcells⟩ := rowC_sat hs hK
    cases e3
    obtain ⟨hlt, hk'⟩ := hN
    obtain ⟨u, hu, h1, hr⟩ := hcells i off (ob.rows.getD i []) ((ob.rows.getD i []).getD off .junk) (by simp [List.getD_eq_getElem?_getD, hi]) (by simp only [List.getD_eq_getElem?_getD (l := ob.rows.getD i [])]; rw [List.getElem?_eq_getElem hlt]; rfl)
    have hcell : w.cell? ⟨b, i * sz + off, none⟩ = some u := by rw [cell_of_row w b _ c ob.ty (0, 0) hc]; exact hu
    exact ⟨_, _, u, rfl, run_load1 hg hcell, hr, hk'⟩
  | rp t b off cs us hF hc hr =>
    obtain ⟨hlt, hk'⟩ := hK
    have h0 : cs[0]? = some (cs.getD 0 .junk) := by rw [List.getD_eq_getElem?_getD, List.getElem?_eq_getElem hlt]; rfl
    have hcell := (hc 0 _ h0).1
    rw [Nat.add_zero] at hcell
    exact ⟨_, _, us 0, rfl, run_load1 hg hcell, hr 0 _ h0, hk'⟩
  | _ => exact hK.elim

theorem loadn_core {T : TypeId} {vx : V} {ux : Value} {n : Nat} {K : V → Prop} (hg : isAggT P T = some true) (hn : szT P T = some n) (hs : HSat C F h w) (hx : Rel F C.B w vx ux) (hK : loadnV h n vx K) :
    ∃ ad v u, ux = .pointer (some ad) ∧ (loadVar T ad).run P w = .ok u w ∧ Rel F C.B w v u ∧ K v := by
  have key : ∀ (b off : Nat) (cs : List V), ux = .pointer (some ⟨b, off, none⟩) → cs.length = n → (∀ (j : Nat) (v : V), cs[j]? = some v → ∃ u, w.cell? ⟨b, off + j, none⟩ = some u ∧ Rel F C.B w v u) → K (.agg cs) →
      ∃ ad v u, ux = .pointer (some ad) ∧ (loadVar T ad).run P w = .ok u w ∧ Rel F C.B w v u ∧ K v := by
    intro b off cs hex hl hc hk
    have hcells : ∀ j, j < n → ∃ u, w.cell? ((⟨b, off, none⟩ : Addr).add j) = some u := fun j hj => by
      obtain ⟨u, hu, _⟩ := hc j cs[j] (by simp [hl, hj])
      exact ⟨u, by rw [add_off]; exact hu⟩
    refine ⟨_, .agg cs, _, hex, run_loadn hg hn hcells, .agg _ _ (by simp [hl]) fun i v u hv hu => ?_, hk⟩
    obtain ⟨u', hu', hr⟩ := hc i v hv
    have hi : i < n := by have := (List.getElem?_eq_some_iff.1 hv).1; omega
    simp [hi, add_off, hu'] at hu
    subst hu
    exact hr
  cases hx with
  | ptr k b sz i off =>
    simp only [loadnV] at hK
    obtain ⟨ob, g, c, cap, hk, e1, e2, hi, hN, e3, hc, _, _, _, hl, _, hcells⟩ := rowC_sat hs hK
    cases e3
    obtain ⟨hlt, hk'⟩ := hN
    refine key b (i * sz + off) _ rfl (by simp only [List.length_take, List.length_drop]; omega) (fun j v hj => ?_) hk'
    rw [List.getElem?_take] at hj
    split at hj
    · rw [List.getElem?_drop] at hj
      obtain ⟨u, hu, h1, hr⟩ := hcells i (off + j) (ob.rows.getD i []) v (by simp [List.getD_eq_getElem?_getD, hi]) hj
      exact ⟨u, by rw [cell_of_row w b _ c ob.ty (0, 0) hc, show i * sz + off + j = i * sz + (off + j) by omega]; exact hu, hr⟩
    · cases hj
  | rp t b off cs us hF hc hr =>
    obtain ⟨hlt, hk'⟩ := hK
    refine key b off _ rfl (by simp; omega) (fun j v hj => ?_) hk'
    rw [List.getElem?_take] at hj
    split at hj
    · exact ⟨_, (hc j v hj).1, hr j v hj⟩
    · cases hj
  | _ => exact hK.elim

theorem snd_load1 {T : TypeId} {x : Operand} {vx : V} (ho : o.op = .load T x) (hg : isAggT P T = some false) (hs : HSat C F h w) (hx : Rel F C.B w vx (a.eval x))
    (hK : load1V h vx fun v => K v h) : o.wp P a w (OpPost C F w a o.dst K) Q := by
  obtain ⟨ad, v, u, hu, hr, hv, hk⟩ := load1_core hg hs hx hK
  refine wp_pure hs ?_ hv hk
  generalize a.eval = ρ at *
  simp [execOp, ho, Sem.run_bind, Sem.run_pure, hu, Instr.loadAt, Instr.sureAddr, hr]
theorem snd_loadn {T : TypeId} {x : Operand} {vx : V} {n : Nat} (ho : o.op = .load T x) (hg : isAggT P T = some true) (hn : szT P T = some n) (hs : HSat C F h w) (hx : Rel F C.B w vx (a.eval x))
    (hK : loadnV h n vx fun v => K v h) : o.wp P a w (OpPost C F w a o.dst K) Q := by
  obtain ⟨ad, v, u, hu, hr, hv, hk⟩ := loadn_core hg hn hs hx hK
  refine wp_pure hs ?_ hv hk
  generalize a.eval = ρ at *
  simp [execOp, ho, Sem.run_bind, Sem.run_pure, hu, Instr.loadAt, Instr.sureAddr, hr]

theorem snd_store (hC : C.Ok) {T : TypeId} {x y : Operand} {vx vy : V} {n : Nat} (ho : o.op = .store T x y) (hn : szT P T = some n) (hs : HSat C F h w) (hx : Rel F C.B w vx (a.eval x)) (hy : Rel F C.B w vy (a.eval y))
    (hK : storeV h n vx vy fun h => K .junk h) : o.wp P a w (OpPost C F w a o.dst K) Q := by
  generalize hex : a.eval x = ux at hx
  cases hx with
  | ptr k b sz i off =>
    simp only [storeV] at hK
    obtain ⟨ob, g, c, cap, hk, e1, e2, hi, hN, e3, hc, hcs, hm, hcap, hl, hrows, hcells⟩ := rowC_sat hs hK
    cases e3
    obtain ⟨hlt, hf, hk'⟩ := hN
    subst e2
    obtain ⟨hz, hce⟩ := rel_cells hy hf
    have hvl : vy.cells.length = n := hf.1
    have hmul : (i + 1) * ob.sz ≤ cap * ob.sz := Nat.mul_le_mul_right _ (by omega)
    have hbound : i * ob.sz + off + n ≤ c.size := by rw [hcs]; rw [Nat.add_mul] at hmul; omega
    have hst := run_storeCells_at P b (i * ob.sz + off) ob.ty (a.eval y).cells.toList 0 c w hc (by simp [hz]; exact hbound) (fun u hu => by
      obtain ⟨j, hj⟩ := List.getElem?_of_mem hu
      rw [Array.getElem?_toList] at hj
      have hjn : j < n := by have := (Array.getElem?_eq_some_iff.1 hj).1; omega
      obtain ⟨y', hy', h1, _⟩ := hce j vy.cells[j] (by simp [hvl, hjn])
      rw [hj] at hy'
      cases hy'
      exact h1)
    simp only [Nat.add_zero] at hst
    have hlen : (a.eval y).cells.toList.length = n := by simpa using hz
    have hsize : ((c.toList.take (i * ob.sz + off) ++ (a.eval y).cells.toList ++ c.toList.drop (i * ob.sz + off + (a.eval y).cells.toList.length)).toArray).size = c.size := by
      simp only [List.size_toArray, List.length_append, List.length_take, List.length_drop, Array.length_toList, hz]
      omega
    have hev : Ev (fun x => x = b) w (w.setRow b (c.toList.take (i * ob.sz + off) ++ (a.eval y).cells.toList ++ c.toList.drop (i * ob.sz + off + (a.eval y).cells.toList.length)).toArray) := Ev.setRow rfl hc hsize
    have hL : ∀ x, x < w.heap.size → x = b → ∃ ob, h k = some ob ∧ ob.b = some x := fun x _ hx => ⟨ob, hk, by rw [e1, hx]⟩
    have hstv : (storeVar T ⟨b, i * ob.sz + off, none⟩ (a.eval y)).run P w = .ok () (w.setRow b (c.toList.take (i * ob.sz + off) ++ (a.eval y).cells.toList ++ c.toList.drop (i * ob.sz + off + (a.eval y).cells.toList.length)).toArray) := by
      simp only [storeVar, Sem.run_bind, sizeOf_run hn, Result.andThen_ok, hz, ne_eq, not_true, ↓reduceIte]
      exact hst
    have hrun : (execOp a.eval o).run P w = .ok .skip (w.setRow b (c.toList.take (i * ob.sz + off) ++ (a.eval y).cells.toList ++ c.toList.drop (i * ob.sz + off + (a.eval y).cells.toList.length)).toArray) := by
      unfold execOp
      rw [ho]
      simp only [Instr.storeAt, Instr.sureAddr, Sem.run_bind, Sem.run_pure, Result.andThen_ok, hex, hstv]
    generalize hcc : (c.toList.take (i * ob.sz + off) ++ (a.eval y).cells.toList ++ c.toList.drop (i * ob.sz + off + (a.eval y).cells.toList.length)).toArray = c' at hrun hev hsize
    have hget : ∀ m, c'[m]? = if m < i * ob.sz + off then c[m]? else if m < i * ob.sz + off + n then (a.eval y).cells[m - (i * ob.sz + off)]? else c[m]? := by
      intro m
      subst hcc
      have := splice_get c.toList (a.eval y).cells.toList (i * ob.sz + off) m (by rw [hlen, Array.length_toList]; exact hbound)
      rw [hlen] at this
      simpa [hlen] using this
    have hkeep := fun {x : V} {y : Value} => hs.keep hC (x := x) (y := y) hev (fun x hx he => ⟨k, hL x hx he⟩)
    have hob : ObSat F C.B (w.setRow b c') { ob with rows := ob.rows.set i (splice (ob.rows.getD i []) off vy.cells) } := by
      unfold ObSat
      simp only [e1]
      have hspl : (splice (ob.rows.getD i []) off vy.cells).length = ob.sz := by
        simp only [splice, List.length_append, List.length_take, List.length_drop, hvl]; omega
      refine ⟨c', cap, setRow_heap w b c c' ob.ty (0, 0) hc, by rw [hsize, hcs], hm, by simpa using hcap, fun r hr => ?_, fun i' j r v hi' hj => ?_⟩
      · rcases List.mem_or_eq_of_mem_set hr with hr | rfl
        · exact hrows r hr
        · exact hspl
      · rw [List.getElem?_set] at hi'
        by_cases hii : i = i'
        · subst hii
          simp only [↓reduceIte, hi, Option.some.injEq] at hi'
          subst hi'
          have hj2 : j < ob.sz := by have := (List.getElem?_eq_some_iff.1 hj).1; omega
          have hsp := splice_get (ob.rows.getD i []) vy.cells off j (by rw [hvl]; exact hlt)
          unfold splice at hj
          rw [hsp, hvl] at hj
          rw [hget]
          by_cases h1 : j < off
          · rw [if_pos h1] at hj
            rw [if_pos (by omega)]
            obtain ⟨u, hu, hu1, hr⟩ := hcells i j _ v (by simp [List.getD_eq_getElem?_getD, hi]) hj
            exact ⟨u, hu, hu1, hkeep hr⟩
          · rw [if_neg h1] at hj
            by_cases h2 : j < off + n
            · rw [if_pos h2] at hj
              rw [if_neg (by omega), if_pos (by omega), show i * ob.sz + j - (i * ob.sz + off) = j - off by omega]
              obtain ⟨u, hu, hu1, hr⟩ := hce (j - off) v hj
              exact ⟨u, hu, hu1, hkeep hr⟩
            · rw [if_neg h2] at hj
              rw [if_neg (by omega), if_neg (by omega)]
              obtain ⟨u, hu, hu1, hr⟩ := hcells i j _ v (by simp [List.getD_eq_getElem?_getD, hi]) hj
              exact ⟨u, hu, hu1, hkeep hr⟩
        · simp only [hii, ↓reduceIte] at hi'
          have hj2 : j < ob.sz := by
            have h1 := (List.getElem?_eq_some_iff.1 hj).1
            have := hrows r (List.mem_of_getElem? hi')
            omega
          obtain ⟨u, hu, hu1, hr⟩ := hcells i' j r v hi' hj
          refine ⟨u, ?_, hu1, hkeep hr⟩
          rw [hget]
          rcases Nat.lt_or_gt_of_ne hii with hlt' | hgt'
          · have hm2 : (i + 1) * ob.sz ≤ i' * ob.sz := Nat.mul_le_mul_right _ hlt'
            rw [Nat.add_mul] at hm2
            rw [if_neg (by omega), if_neg (by omega)]
            exact hu
          · have hm2 : (i' + 1) * ob.sz ≤ i * ob.sz := Nat.mul_le_mul_right _ hgt'
            rw [Nat.add_mul] at hm2
            rw [if_pos (by omega)]
            exact hu
    unfold Oper.wp
    rw [hrun]
    exact ⟨undef, .junk, _, F, rfl, .junk _, hs.step hC hev hL hob (fun b' hb' => .inr ⟨ob, hk, hb'⟩), fun _ _ hr => hkeep hr, hk'⟩
  | _ => exact hK.elim
end
end Go.Proofs.Ytdmpbdmgaepndaa.AM
