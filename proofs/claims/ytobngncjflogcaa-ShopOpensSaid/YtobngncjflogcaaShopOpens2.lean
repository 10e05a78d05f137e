/-
  Texts of the plain machine, put together: what the law ShopOpens reaches.
-/
import Derived.Test.YtobngncjflogcaaShopOpens1
import Derived.ChangeKeysEq
import Derived.Laws.IdiomStrings
set_option linter.unusedVariables false
set_option linter.unusedSimpArgs false
namespace Go.Proofs.Ytobngncjflogcaa.AM
open Go
open Go.BigFrame
section
variable {P : Program} {C : Ctx} {F : Nat → Prop} {w w' : World} {a : Act} {s : S} {h : Hp} {K : V → Hp → Prop} {Q : Exit → Act → World → Prop} {o : Oper}

theorem info_of {e : TypeId} {i : TypeInfo} {z : List Value} (hi : P.info? e = some i) (hz : zeroT P e = some z) : ∃ zv : Value, i.zero = some zv ∧ zv.cells.toList = z := by
  simp only [zeroT, hi, Option.bind_some, Option.map_eq_some_iff] at hz
  exact hz

theorem run_append_zero {T e ty : TypeId} {i : TypeInfo} (hd : P.underlying T = some (.slice e)) (hi : P.info? e = some i) (b : Option Addr) (n cap : Nat) (q : Option Addr) (c : Nat) (hn : n ≤ cap) :
    (Builtin.append_ #[T, T] ty #[.slice b n cap, .slice q 0 c]).run P w = .ok (.slice b n cap) w := by
  have hf : (Builtin.firstCells i.size 0 (.slice q 0 c)).run P w = .ok #[] w := by
    cases q <;> simp [Builtin.firstCells, Sem.run_pure, loadCells, loadCellsFrom]
  cases b <;> simp [Builtin.append_, Sem.run_bind, Sem.run_pure, run_underlying hd, sizeOf, typeInfo, hi, Builtin.lenOf, hn, hf, storeCells]

theorem call2_run {c : Call} {x y : Operand} {T : TypeId} {u : Value} (ho : o.op = .call c) (hb : c.callee = .builtin .append) (hx : c.args = #[x, y]) (hT : c.argTypes = #[T, T])
    (hr : ∀ ty, (Builtin.append_ #[T, T] ty #[a.eval x, a.eval y]).run P w = .ok u w') : (execOp a.eval o).run P w = .ok (.value u) w' := by
  obtain ⟨callee, args, ats⟩ := c
  cases hb
  cases hx
  cases hT
  unfold execOp
  rw [ho]
  simp only [resolve, Sem.run_bind, Sem.run_pure, Result.andThen_ok, invoke, builtin_append, List.map_toArray, List.map_cons, List.map_nil, hr]

theorem bytes_nat {m n b : Nat} (h : ((m : Int) + n) * b ≤ 140737488355328) : (m + n) * b ≤ 140737488355328 := by
  have e : (((m + n) * b : Nat) : Int) = ((m : Int) + n) * b := by rw [Int.natCast_mul, Int.natCast_add]
  omega

theorem size_zc (z : Array Value) (n : Nat) : (Builtin.zeroCells z n).size = n * z.size := by simp [Builtin.zeroCells]

theorem snd_append (hC : C.Ok) {c : Call} {x y : Operand} {T e k : TypeId} {i : TypeInfo} {z : List Value} {vx vy : V} (ho : o.op = .call c) (hb : c.callee = .builtin .append) (hx : c.args = #[x, y]) (hT : c.argTypes = #[T, T])
    (hd : P.underlying T = some (.slice e)) (hi : P.info? e = some i) (hz : zeroT P e = some z) (hsz : i.size = z.length) (hpos : 0 < z.length) (hbp : 0 < i.bytes) (hs : HSat C F h w)
    (h1 : Rel F C.B w vx (a.eval x)) (h2 : Rel F C.B w vy (a.eval y)) (hK : appendV h k e i.size i.bytes vx vy K) : o.wp P a w (OpPost C F w a o.dst K) Q := by
  obtain ⟨zv, hzv, hzc⟩ := info_of hi hz
  have hzs : zv.cells.size = i.size := by rw [hsz, ← hzc]; simp
  unfold appendV at hK
  cases hrow : rowsOf h i.size vy with
  | none => rw [hrow] at hK; exact hK.elim
  | some news =>
    rw [hrow] at hK
    simp only [] at hK
    have hfl := rows_flat hs h2 hrow
    generalize hex : a.eval x = ux at h1
    generalize hey : a.eval y = uy at hfl
    -- nothing is appended
    by_cases hn0 : news = []
    · subst hn0
      have huy : ∃ q c, uy = .slice q 0 c := by
        rcases hfl with ⟨_, rfl⟩ | ⟨ad, cap, us, rfl, _⟩
        · exact ⟨none, 0, rfl⟩
        · exact ⟨some ad, cap, rfl⟩
      obtain ⟨q, cq, rfl⟩ := huy
      cases h1 with
      | nilsl =>
        obtain ⟨hk, _, hK⟩ := hK
        refine wp_step hC (k := k) (u := .slice none 0 0) (w' := w) (L := fun _ => False) hs (call2_run ho hb hx hT fun ty => ?_) (Ev.refl _ _) (fun _ _ h => h.elim) (.ownnil k i.size) (show ObSat F C.B w ⟨none, e, i.size, []⟩ from rfl) (fun b hb => by cases hb) (hK none)
        rw [hex, hey]
        exact run_append_zero hd hi none 0 0 q cq (Nat.le_refl _)
      | ownnil j sz' =>
        simp only [] at hK
        cases hj : h j with
        | none => rw [hj] at hK; exact hK.elim
        | some ob =>
          rw [hj] at hK
          obtain ⟨e1, e2, e3, e4, e5, _, hK⟩ := hK
          subst e3
          have hK := hK none
          have hrr : ob.rows = [] := List.eq_nil_of_length_eq_zero e5
          rw [hrr] at hK
          refine wp_step hC (k := j) (u := .slice none 0 0) (w' := w) (L := fun _ => False) hs (call2_run ho hb hx hT fun ty => ?_) (Ev.refl _ _) (fun _ _ h => h.elim) (.ownnil j i.size) (show ObSat F C.B w ⟨none, e, i.size, []⟩ from rfl) (fun b hb => by cases hb) hK
          rw [hex, hey]
          exact run_append_zero hd hi none 0 0 q cq (Nat.le_refl _)
      | own j b sz' n cap cc ee fr hbk hcs hm hn =>
        simp only [] at hK
        cases hj : h j with
        | none => rw [hj] at hK; exact hK.elim
        | some ob =>
          rw [hj] at hK
          obtain ⟨e1, e2, e3, e4, e5, _, hK⟩ := hK
          subst e3
          have hK := hK (some b)
          simp only [List.append_nil, List.length_nil, Nat.add_zero] at hK
          have hobj : ob = ⟨some b, e, i.size, ob.rows⟩ := by cases ob; simp at e1 e2 e4 ⊢; exact ⟨e1, e4, e2⟩
          refine wp_step hC (k := j) (u := .slice (some ⟨b, 0, none⟩) n cap) (w' := w) (L := fun _ => False) hs (call2_run ho hb hx hT fun ty => ?_) (Ev.refl _ _) (fun _ _ h => h.elim) (.own j b i.size n cap cc ee fr hbk hcs hm hn) (by rw [← hobj]; exact hs.ob j ob hj) (fun b' hb' => .inr ⟨ob, hj, by rw [e1]; exact hb'⟩) hK
          rw [hex, hey]
          exact run_append_zero hd hi _ n cap q cq hn
      | _ => exact hK.elim
    · have hm0 : 0 < news.length := List.length_pos_iff.2 hn0
      rcases hfl with ⟨h0, _⟩ | ⟨ad, cap2, us, rfl, hflat, hmem⟩
      · exact absurd h0 hn0
      -- a new row
      have fresh : ∀ (j : Nat) (old : List (List V)) (ous : List Value) (oldcap : Nat), Flat F C.B w i.size old ous → oldcap < old.length + news.length → ((old.length : Int) + news.length) * i.bytes ≤ 140737488355328 →
          (∀ ty, (Builtin.append_ #[T, T] ty #[ux, .slice (some ad) news.length cap2]).run P w = .ok (.slice (some ⟨w.heap.size, 0, none⟩) (old.length + news.length) (grownCap w (old.length + news.length) oldcap e))
            (w.drew.alloc (.cells (ous.toArray ++ us.toArray ++ Builtin.zeroCells zv.cells (grownCap w (old.length + news.length) oldcap e - (old.length + news.length))) e))) →
          K (.own j (some w.heap.size) i.size (old.length + news.length)) (h.put j ⟨some w.heap.size, e, i.size, old ++ news⟩) → o.wp P a w (OpPost C F w a o.dst K) Q := by
        intro j old ous oldcap hfo hlt hby hrun hk
        have hby' := bytes_nat hby
        have h63 : old.length + news.length ≤ maxLen := by
          have := Nat.le_trans (Nat.le_mul_of_pos_right (old.length + news.length) hbp) hby'
          simp only [maxLen]; omega
        have hge := grownCap_ge w (old.length + news.length) oldcap e
        have hcm := grownCap_le_maxLen w (old.length + news.length) oldcap e h63
        have hev : Ev (fun _ => False) w (w.drew.alloc (.cells (ous.toArray ++ us.toArray ++ Builtin.zeroCells zv.cells (grownCap w (old.length + news.length) oldcap e - (old.length + news.length))) e)) := (Ev.drew _ _).trans (Ev.alloc _ _ _)
        have hfl2 := (hfo.append hflat).keep (fun x y hr => hs.keep hC hev (fun _ _ h => h.elim) hr)
        have hcsz : (ous.toArray ++ us.toArray ++ Builtin.zeroCells zv.cells (grownCap w (old.length + news.length) oldcap e - (old.length + news.length))).size = grownCap w (old.length + news.length) oldcap e * i.size := by
          simp only [Array.size_append, List.size_toArray, size_zc, hzs, hfo.len, hflat.len, ← Nat.add_mul]
          congr 1
          omega
        have hheap := heap_alloc_new w.drew (Obj.cells (ous.toArray ++ us.toArray ++ Builtin.zeroCells zv.cells (grownCap w (old.length + news.length) oldcap e - (old.length + news.length))) e)
        refine wp_step hC (k := j) (L := fun _ => False) hs (call2_run ho hb hx hT fun ty => ?_) hev (fun _ _ h => h.elim) (.own j w.heap.size i.size (old.length + news.length) _ _ e (0, 0) hheap hcsz hcm hge) (ObSat.of_flat hheap hcsz hcm (by rw [List.length_append]; exact hge) hfl2 fun m u hu => ?_) (fun b hb' => .inl (by cases hb'; exact Nat.le_refl _)) hk
        · rw [hex, hey]
          exact hrun ty
        · have hlt : m < (ous ++ us).length := (List.getElem?_eq_some_iff.1 hu).1
          rw [Array.getElem?_append_left (by simpa using hlt)]
          simpa using hu
      have small : ∀ n : Nat, ((n : Int) + news.length) * i.bytes ≤ 140737488355328 → ((n + news.length : Nat) : Int) ≤ 9223372036854775807 ∧ (n + news.length) * i.bytes ≤ 140737488355328 := by
        intro n hby
        have hby' := bytes_nat hby
        have := Nat.le_trans (Nat.le_mul_of_pos_right (n + news.length) hbp) hby'
        exact ⟨by clear hby; omega, hby'⟩
      have fnil : ux = .slice none 0 0 → ((0 : Int) + news.length) * i.bytes ≤ 140737488355328 → ∀ j, K (.own j (some w.heap.size) i.size (0 + news.length)) (h.put j ⟨some w.heap.size, e, i.size, [] ++ news⟩) → o.wp P a w (OpPost C F w a o.dst K) Q := by
        intro hu hby j hk
        subst hu
        obtain ⟨s1, s2⟩ := small 0 (by simpa using hby)
        refine fresh j [] [] 0 ⟨by simp, by simp, by simp, by simp⟩ (by simp only [List.length_nil]; omega) hby (fun ty => ?_) hk
        have := run_append_nil (P := P) w T ty e i zv hd hi hzv ad news.length cap2 us hflat.len hmem hm0 (by omega) (by rw [Nat.zero_add] at s2; omega)
        simp only [List.length_nil, Nat.zero_add]
        simpa using this
      cases h1 with
      | nilsl =>
        obtain ⟨hk, hby, hK⟩ := hK
        exact fnil rfl (by simpa using hby) k (by simpa using hK (some w.heap.size))
      | ownnil j sz' =>
        simp only [] at hK
        cases hj : h j with
        | none => rw [hj] at hK; exact hK.elim
        | some ob =>
          rw [hj] at hK
          obtain ⟨e1, e2, e3, e4, e5, hby, hK⟩ := hK
          subst e3
          have hrr : ob.rows = [] := List.eq_nil_of_length_eq_zero e5
          have hK := hK (some w.heap.size)
          rw [hrr] at hK
          exact fnil rfl (by simpa using hby) j hK
      | own j b sz' n cap cc ee fr hbk hcs hm hn =>
        simp only [] at hK
        cases hj : h j with
        | none => rw [hj] at hK; exact hK.elim
        | some ob =>
          rw [hj] at hK
          obtain ⟨e1, e2, e3, e4, e5, hby, hK⟩ := hK
          subst e3
          obtain ⟨s1, s2⟩ := small n hby
          obtain ⟨c', cap', ous, hc', g1, g2, g3, hfo, hous⟩ := ob_flat (C := C) (hs.ob j ob hj) e1
          rw [hc'] at hbk
          cases hbk
          rw [e2] at g1 hfo hous
          have hcap : cap' = cap := Nat.eq_of_mul_eq_mul_right (by rw [hsz]; exact hpos) (g1.symm.trans hcs)
          subst hcap
          have hcells : ∀ (m : Nat) (u : Value), ous[m]? = some u → w.cell? ((⟨b, 0, none⟩ : Addr).add m) = some u := by
            intro m u hu
            rw [add_off, Nat.zero_add, cell_of_row w b m cc ob.ty (0, 0) hc']
            rw [hous, List.getElem?_take] at hu
            split at hu
            · simpa using hu
            · cases hu
          by_cases hroom : n + news.length ≤ cap'
          · have hfit : n * i.size + us.length ≤ cc.size := by rw [hflat.len, g1, ← Nat.add_mul]; exact Nat.mul_le_mul_right _ hroom
            have hr := fun ty => run_append_room (P := P) w T ty e i hd hi b n cap' cc (by rw [hc', e4]) ad news.length cap2 us hflat.len hmem hflat.one hroom hfit
            have hcsz : ((cc.toList.take (n * i.size) ++ us ++ cc.toList.drop (n * i.size + us.length)).toArray).size = cc.size := by
              simp only [List.size_toArray, List.length_append, List.length_take, List.length_drop, Array.length_toList]
              omega
            have hev : Ev (fun x => x = b) w (w.setRow b (cc.toList.take (n * i.size) ++ us ++ cc.toList.drop (n * i.size + us.length)).toArray) := Ev.setRow rfl hc' hcsz
            have hheap := setRow_heap w b cc (cc.toList.take (n * i.size) ++ us ++ cc.toList.drop (n * i.size + us.length)).toArray ob.ty (0, 0) hc'
            have hfl2 := (hfo.append hflat).keep (fun x y hr => hs.keep hC hev (fun x _ hx => ⟨j, ob, hj, by rw [e1, hx]⟩) hr)
            rw [e4] at hheap
            refine wp_step hC (k := j) (L := fun x => x = b) hs (call2_run ho hb hx hT fun ty => ?_) hev (fun x _ hx => ⟨ob, hj, by rw [e1, hx]⟩) (.own j b i.size (n + news.length) cap' _ e (0, 0) hheap (by rw [hcsz, g1]) g2 hroom)
              (ObSat.of_flat hheap (by rw [hcsz, g1]) g2 (by rw [List.length_append, e5]; exact hroom) hfl2 fun m u hu => ?_) (fun b' hb' => .inr ⟨ob, hj, by rw [e1]; exact hb'⟩) (hK (some b))
            · rw [hex, hey]
              exact hr ty
            · have hlt : m < (ous ++ us).length := (List.getElem?_eq_some_iff.1 hu).1
              have ho' : ous = cc.toList.take (n * i.size) := by rw [hous, e5]
              rw [ho'] at hu hlt
              rw [List.getElem?_toArray, List.getElem?_append_left (by simpa using hlt)]
              exact hu
          · refine fresh j ob.rows ous cap' hfo (by omega) (by rw [e5]; exact hby) (fun ty => ?_) (by rw [e5]; exact hK (some w.heap.size))
            have := run_append_grow (P := P) w T ty e i zv hd hi hzv ⟨b, 0, none⟩ n cap' ous (by rw [hfo.len, e5]) hcells ad news.length cap2 us hflat.len hmem (by omega) (by omega) (growslice_fits (by omega) s2)
            rw [e5]
            exact this
      | _ => exact hK.elim
end
end Go.Proofs.Ytobngncjflogcaa.AM

set_option linter.unusedVariables false
set_option linter.unusedSimpArgs false
namespace Go.Proofs.Ytobngncjflogcaa.AM
open Go
open Go.BigFrame

theorem fold_cells (vs : List Value) : ∀ (k off : Nat) (cells : Array Value), off + k + vs.length ≤ cells.size →
    ((vs.zipIdx k).foldl (fun cs (x : Value × Nat) => cs.setIfInBounds (off + x.2) x.1) cells).size = cells.size ∧
    ∀ m, ((vs.zipIdx k).foldl (fun cs (x : Value × Nat) => cs.setIfInBounds (off + x.2) x.1) cells)[m]? = if m < off + k then cells[m]? else if m < off + k + vs.length then vs[m - (off + k)]? else cells[m]? := by
  induction vs with
  | nil => intro k off cells _; refine ⟨rfl, fun m => ?_⟩; simp only [List.zipIdx_nil, List.foldl_nil, List.length_nil, Nat.add_zero]; by_cases hm : m < off + k <;> simp [hm]
  | cons v vs ih =>
    intro k off cells h
    simp only [List.zipIdx_cons, List.foldl_cons]
    simp only [List.length_cons] at h
    obtain ⟨h1, h2⟩ := ih (k + 1) off (cells.setIfInBounds (off + k) v) (by simp; omega)
    refine ⟨by rw [h1]; simp, fun m => ?_⟩
    rw [h2]
    simp only [Array.getElem?_setIfInBounds, List.length_cons]
    by_cases h3 : m < off + k
    · rw [if_pos (by omega), if_neg (by omega), if_pos h3]
    · by_cases h4 : m = off + k
      · subst h4
        rw [if_pos (by omega), if_pos rfl, if_pos (by omega), if_neg (by omega), if_pos (by omega)]
        simp
      · rw [if_neg h3]
        by_cases h5 : m < off + k + (vs.length + 1)
        · rw [if_neg (by omega), if_pos (by omega), if_pos h5, show m - (off + k) = (m - (off + (k + 1))) + 1 by omega, List.getElem?_cons_succ]
        · rw [if_neg (by omega), if_neg (by omega), if_neg (by omega), if_neg h5]

theorem fold_cells' (v : Value) (off : Nat) (cells : Array Value) (h : off + v.cells.size ≤ cells.size) :
    (v.cells.zipIdx.foldl (fun cs (c, j) => cs.setIfInBounds (off + j) c) cells).size = cells.size ∧
    ∀ m, (v.cells.zipIdx.foldl (fun cs (c, j) => cs.setIfInBounds (off + j) c) cells)[m]? = if m < off then cells[m]? else if m < off + v.cells.size then v.cells[m - off]? else cells[m]? := by
  have := fold_cells v.cells.toList 0 off cells (by simpa using h)
  rw [← Array.foldl_toList, Array.toList_zipIdx]
  simpa using this

section
variable {P : Program} {C : Ctx} {F : Nat → Prop} {w w' : World} {a : Act} {s : S} {h : Hp} {K : V → Hp → Prop} {Q : Exit → Act → World → Prop} {o : Oper}

/-- cells laid over cells -/
theorem fill_run {off : Nat → Option (Nat × Nat)} {n : Nat} : ∀ (parts : List (Nat × Operand)) (ps : List (Nat × Nat × Opd)) (r : List V) (c : Array Value), trParts off n parts = some ps → (hr : ∀ i : Nat, Rel F C.B w (s.t i) (a.tmps.getD i undef)) →
    (∀ p ∈ ps, (p.2.2.ev s).fits p.2.1) → r.length = n → c.size = n → (∀ (m : Nat) (v : V) (u : Value), r[m]? = some v → c[m]? = some u → Rel F C.B w v u) →
    ∃ c', Instr.fill off c (parts.map fun p => (p.1, a.eval p.2)) = some c' ∧ c'.size = n ∧ (fillV r (ps.map fun p => (p.1, (p.2.2.ev s).cells))).length = n ∧
      (∀ (m : Nat) (v : V) (u : Value), (fillV r (ps.map fun p => (p.1, (p.2.2.ev s).cells)))[m]? = some v → c'[m]? = some u → Rel F C.B w v u) := by
  intro parts
  induction parts with
  | nil =>
    intro ps r c ht hr hf hl hc hrel
    simp only [trParts, Option.some.injEq] at ht
    subst ht
    exact ⟨c, rfl, hc, hl, hrel⟩
  | cons p parts ih =>
    intro ps r c ht hr hf hl hc hrel
    obtain ⟨j, x⟩ := p
    simp only [trParts] at ht
    cases h1 : off j with
    | none => rw [h1] at ht; simp at ht
    | some os =>
      obtain ⟨o, sz⟩ := os
      cases h2 : trX x with
      | none => rw [h1, h2] at ht; simp at ht
      | some y =>
        cases h3 : trParts off n parts with
        | none => rw [h1, h2, h3] at ht; simp at ht
        | some m =>
          rw [h1, h2, h3] at ht
          simp only [] at ht
          split at ht
          · rename_i hle
            cases ht
            have hy := ev_rel hr h2
            have hfy := hf _ (List.mem_cons_self ..)
            obtain ⟨hz, hce⟩ := rel_cells hy hfy
            have hyl : (y.ev s).cells.length = sz := hfy.1
            obtain ⟨g1, g2⟩ := fold_cells' (a.eval x) o c (by rw [hz, hc]; exact hle)
            have hsl : (splice r o (y.ev s).cells).length = n := by simp only [splice, List.length_append, List.length_take, List.length_drop]; omega
            obtain ⟨c', e1, e2, e3, e4⟩ := ih m (splice r o (y.ev s).cells) _ h3 hr (fun p hp => hf p (List.mem_cons_of_mem _ hp)) hsl (g1.trans hc) (fun k v u hv hu => by
              rw [g2] at hu
              unfold splice at hv
              rw [splice_get r (y.ev s).cells o k (by omega)] at hv
              rw [hz] at hu
              rw [hyl] at hv
              by_cases q1 : k < o
              · rw [if_pos q1] at hv hu
                exact hrel k v u hv hu
              · rw [if_neg q1] at hv hu
                by_cases q2 : k < o + sz
                · rw [if_pos q2] at hv hu
                  obtain ⟨u', hu', _, hru⟩ := hce (k - o) v hv
                  rw [hu] at hu'
                  cases hu'
                  exact hru
                · rw [if_neg q2] at hv hu
                  exact hrel k v u hv hu)
            refine ⟨c', ?_, e2, e3, e4⟩
            simp only [List.map_cons, Instr.fill, h1]
            rw [if_neg (by simp [hz]; omega)]
            exact e1
          · cases ht

theorem snd_build {T : TypeId} {parts : Array (Nat × Operand)} {z : List Value} {ps : List (Nat × Nat × Opd)} {off : Nat → Option (Nat × Nat)} (ho : o.op = .build T parts) (hz : zeroT P T = some z) (ht : trParts off z.length parts.toList = some ps)
    (hoff : (∃ fs places, P.underlying T = some (.struct fs) ∧ fs.toList.mapM (fun f => (P.info? f.type).map fun i => (f.offset, i.size)) = some places ∧ off = fun j => places.toArray[j]?) ∨ (∃ k e n, P.underlying T = some (.array k e) ∧ szT P e = some n ∧ off = fun j => some (j * n, n)))
    (hs : HSat C F h w) (hr : ∀ i : Nat, Rel F C.B w (s.t i) (a.tmps.getD i undef)) (hf : ∀ p ∈ ps, (p.2.2.ev s).fits p.2.1) (hK : K (.agg (fillV (z.map vOf) (ps.map fun p => (p.1, (p.2.2.ev s).cells)))) h) : o.wp P a w (OpPost C F w a o.dst K) Q := by
  have hz' := hz
  simp only [zeroT, Option.map_eq_some_iff, Option.bind_eq_some_iff] at hz'
  obtain ⟨zv, ⟨it, hit, hzv⟩, hzc⟩ := hz'
  obtain ⟨c', e1, e2, e3, e4⟩ := fill_run (F := F) (C := C) (w := w) parts.toList ps (z.map vOf) zv.cells ht hr hf (by simp) (by rw [← hzc]; simp) (fun m v u hv hu => by
    simp only [List.getElem?_map, Option.map_eq_some_iff] at hv
    obtain ⟨u', hu', rfl⟩ := hv
    rw [← hzc, Array.getElem?_toList, hu] at hu'
    cases hu'
    exact rel_vOf _ _ _ _)
  refine wp_pure (u := .agg c') hs ?_ (.agg _ _ (by rw [e2, e3]) e4) hK
  have hbuilt : P.built T (parts.map fun (i, x) => (i, a.eval x)).toList = some c' := by
    have hmap : (parts.map fun (i, x) => (i, a.eval x)).toList = parts.toList.map fun p => (p.1, a.eval p.2) := by simp
    rw [hmap]
    unfold Program.built
    rcases hoff with ⟨fs, places, hd, hp, rfl⟩ | ⟨k, e, n, hd, hn, rfl⟩
    · simp only [hit, hd, hzv, hp]
      exact e1
    · simp only [szT, Option.map_eq_some_iff] at hn
      obtain ⟨ie, hie, rfl⟩ := hn
      simp only [hit, hd, hzv, hie]
      exact e1
  unfold execOp
  rw [ho]
  simp only [Sem.run_bind, run_build w T _ c' hbuilt, Result.andThen_ok, Sem.run_pure]

/-- cells laid one behind the other -/
theorem seq_run {n sz : Nat} : ∀ (parts : List (Nat × Operand)) (ps : List Opd) (i : Nat) (c : Array Value), trSeq i parts = some ps → (hr : ∀ i : Nat, Rel F C.B w (s.t i) (a.tmps.getD i undef)) →
    (∀ p ∈ ps, (p.ev s).fits sz) → c.size = n → (i + ps.length) * sz ≤ n →
    ∃ c', Instr.fill (fun j => some (j * sz, sz)) c (parts.map fun p => (p.1, a.eval p.2)) = some c' ∧ c'.size = n ∧ (∀ m, m < i * sz → c'[m]? = c[m]?) ∧
      (∀ (k j : Nat) (p : Opd) (v : V), ps[k]? = some p → (p.ev s).cells[j]? = some v → ∃ u, c'[(i + k) * sz + j]? = some u ∧ u.oneCell' = true ∧ Rel F C.B w v u) := by
  intro parts
  induction parts with
  | nil =>
    intro ps i c ht hr hf hc hle
    simp only [trSeq, Option.some.injEq] at ht
    subst ht
    exact ⟨c, rfl, hc, fun _ _ => rfl, by simp⟩
  | cons p parts ih =>
    intro ps i c ht hr hf hc hle
    obtain ⟨j, x⟩ := p
    simp only [trSeq] at ht
    cases h2 : trX x with
    | none => rw [h2] at ht; simp at ht
    | some y =>
      cases h3 : trSeq (i + 1) parts with
      | none => rw [h2, h3] at ht; simp at ht
      | some m =>
        rw [h2, h3] at ht
        simp only [] at ht
        split at ht
        · rename_i hji
          cases ht
          subst hji
          have hy := ev_rel hr h2
          have hfy := hf _ (List.mem_cons_self ..)
          obtain ⟨hz, hce⟩ := rel_cells hy hfy
          have hyl : (y.ev s).cells.length = sz := hfy.1
          simp only [List.length_cons] at hle
          have hle' : (j + 1) * sz ≤ n := Nat.le_trans (Nat.mul_le_mul_right _ (by omega)) hle
          rw [Nat.add_mul] at hle'
          obtain ⟨g1, g2⟩ := fold_cells' (a.eval x) (j * sz) c (by rw [hz, hc]; omega)
          obtain ⟨c', e1, e2, e3, e4⟩ := ih m (j + 1) _ h3 hr (fun p hp => hf p (List.mem_cons_of_mem _ hp)) (g1.trans hc) (by rw [show j + 1 + m.length = j + (m.length + 1) by omega]; exact hle)
          have hmul : (j + 1) * sz = j * sz + sz := by rw [Nat.add_mul]; omega
          refine ⟨c', ?_, e2, fun q hq => ?_, fun k q p v hk hv => ?_⟩
          · simp only [List.map_cons, Instr.fill]
            rw [if_neg (by simp [hz]; omega)]
            exact e1
          · rw [e3 q (by omega), g2, if_pos hq]
          · cases k with
            | zero =>
              simp at hk
              subst hk
              have hq : q < sz := by have := (List.getElem?_eq_some_iff.1 hv).1; omega
              obtain ⟨u, hu, h1, hru⟩ := hce q v hv
              refine ⟨u, ?_, h1, hru⟩
              rw [Nat.add_zero, e3 _ (by omega), g2, if_neg (by omega), if_pos (by rw [hz]; omega), show j * sz + q - j * sz = q by omega]
              exact hu
            | succ k =>
              simp only [List.getElem?_cons_succ] at hk
              have := e4 k q p v hk hv
              rwa [show j + 1 + k = j + (k + 1) by omega] at this
        · cases ht

theorem snd_bslice (hC : C.Ok) {T e : TypeId} {k len : Nat} {parts : Array (Nat × Operand)} {z : List Value} {ps : List Opd} {sz : Nat} (ho : o.op = .buildSlice T len parts) (hd : P.underlying T = some (.slice e)) (hn : szT P e = some sz) (hz : zeroT P e = some z) (ht : trSeq 0 parts.toList = some ps)
    (hzl : z.length = sz) (hpos : 0 < sz) (hle : len * sz ≤ 16777216) (hlen : ps.length = len) (hs : HSat C F h w) (hr : ∀ i : Nat, Rel F C.B w (s.t i) (a.tmps.getD i undef)) (hf : ∀ p ∈ ps, (p.ev s).fits sz)
    (hK : ∀ β : Nat, K (.own k (some β) sz ps.length) (h.put k ⟨some β, e, sz, ps.map fun p => (p.ev s).cells⟩)) : o.wp P a w (OpPost C F w a o.dst K) Q := by
  obtain ⟨zv, hzv, hzr⟩ := zero_run (P := P) (w := w) hz
  have hml : len ≤ maxLen := by
    have : len * 1 ≤ len * sz := Nat.mul_le_mul_left _ hpos
    simp only [maxLen]; omega
  let zero : Array Value := if len * sz = 0 then #[] else zv.cells
  obtain ⟨c', e1, e2, e3, e4⟩ := seq_run (F := F) (C := C) (w := w) (n := len * sz) (sz := sz) parts.toList ps 0 ((Array.range (len * sz)).map (zero[· % zero.size]!)) ht hr hf (by simp) (by rw [Nat.zero_add, hlen]; exact Nat.le_refl _)
  have hheap := heap_alloc_new w (Obj.cells c' e)
  have hkeep := fun {x : V} {y : Value} => hs.keep hC (x := x) (y := y) (Ev.alloc (fun _ => False) w (Obj.cells c' e)) (fun _ _ h => h.elim)
  refine wp_step hC (u := .slice (some ⟨w.heap.size, 0, none⟩) len len) (w' := w.alloc (.cells c' e)) (L := fun _ => False) hs ?_ (Ev.alloc _ _ _) (fun _ _ h => h.elim) (by rw [hlen]; exact .own k w.heap.size sz len len c' e (0, 0) hheap e2 hml (Nat.le_refl _))
    (show ObSat F C.B (w.alloc (.cells c' e)) ⟨some w.heap.size, e, sz, ps.map fun p => (p.ev s).cells⟩ from ⟨c', len, hheap, e2, hml, by simp [hlen], fun r hr' => ?_, fun i j r v hi hj => ?_⟩) (fun b hb => .inl (by cases hb; exact Nat.le_refl _)) (hK w.heap.size)
  · unfold execOp
    rw [ho]
    have hmap : (parts.map fun (i, x) => (i, a.eval x)).toList = parts.toList.map fun p => (p.1, a.eval p.2) := by simp
    simp only [Instr.buildSlice, Sem.run_bind, run_underlying hd, Result.andThen_ok, sizeOf_run hn]
    rw [if_neg (by omega)]
    by_cases h0 : len * sz = 0
    · have hz0 : zero = #[] := by simp [zero, h0]
      rw [hz0, h0] at e1
      simp only [h0, ↓reduceIte, Sem.run_bind, Sem.run_pure, Result.andThen_ok, hmap, e1, newRow, newObj, Sem.run]
      rfl
    · have hz0 : zero = zv.cells := by simp [zero, h0]
      rw [hz0] at e1
      simp only [h0, ↓reduceIte, Sem.run_bind, Sem.run_pure, Result.andThen_ok, hzr, hmap, e1, newRow, newObj, Sem.run]
      rfl
  · simp only [List.mem_map] at hr'
    obtain ⟨p, hp, rfl⟩ := hr'
    exact (hf p hp).1
  · simp only [List.getElem?_map, Option.map_eq_some_iff] at hi
    obtain ⟨p, hp, rfl⟩ := hi
    obtain ⟨u, hu, h1, hru⟩ := e4 i j p v hp hj
    rw [Nat.zero_add] at hu
    exact ⟨u, hu, h1, hkeep hru⟩
end
end Go.Proofs.Ytobngncjflogcaa.AM

set_option linter.unusedVariables false
set_option linter.unusedSimpArgs false
namespace Go.Proofs.Ytobngncjflogcaa.AM
open Go
open Go.BigFrame
section
variable {P : Program} {C : Ctx} {F : Nat → Prop} {w w' : World} {a : Act} {s : S} {h : Hp} {K : V → Hp → Prop} {Q : Exit → Act → World → Prop} {o : Oper}

theorem snd_mkslice (hC : C.Ok) {T e : TypeId} {k : Nat} {x y : Operand} {i : TypeInfo} {z : List Value} {k1 k2 : IntKind} {n : Int} (ho : o.op = .makeSlice T x y) (hd : P.underlying T = some (.slice e)) (hi : P.info? e = some i) (hz : zeroT P e = some z)
    (hsz : i.size = z.length) (hpos : 0 < z.length) (hs : HSat C F h w) (h1 : Rel F C.B w (.int k1 n) (a.eval x)) (h2 : Rel F C.B w (.int k2 n) (a.eval y)) (hn : 0 ≤ n) (hone : z.all (fun u => u.oneCell') = true)
    (hby : n * i.bytes ≤ 140737488355328) (hn2 : n ≤ 140737488355328)
    (hK : ∀ β : Nat, K (.own k (some β) i.size n.toNat) (h.put k ⟨some β, e, i.size, List.replicate n.toNat (z.map vOf)⟩)) : o.wp P a w (OpPost C F w a o.dst K) Q := by
  obtain ⟨m, rfl⟩ : ∃ m : Nat, n = m := ⟨n.toNat, by omega⟩
  simp only [Int.toNat_natCast] at hK
  obtain ⟨zv, hzv, hzr⟩ := zero_run (P := P) (w := w) hz
  have hzs : zv.cells.size = i.size := by rw [hsz, ← hzv]; simp
  generalize hex : a.eval x = ux at h1
  generalize hey : a.eval y = uy at h2
  cases h1
  cases h2
  have hw : IntKind.i64.wrap (m : Int) = m := wrap64 (by unfold I64; omega)
  have hbn : m * i.bytes ≤ 140737488355328 := by
    have e : ((m * i.bytes : Nat) : Int) = (m : Int) * i.bytes := by rw [Int.natCast_mul]
    omega
  let zero : Array Value := if m * i.size = 0 then #[] else zv.cells
  let c' : Array Value := (Array.range (m * i.size)).map (zero[· % zero.size]!)
  have hheap := heap_alloc_new w (Obj.cells c' e)
  have hml : m ≤ maxLen := by simp only [maxLen]; omega
  have hc' : c'.size = m * i.size := by simp [c']
  have hti : (typeInfo e).run P w = .ok i w := by simp [typeInfo, program, Sem.run_bind, Sem.run_pure, Sem.run, hi]
  have hso : (sizeOf e).run P w = .ok i.size w := by simp [sizeOf, hti, Sem.run_bind, Sem.run_pure]
  refine wp_step hC (u := .slice (some ⟨w.heap.size, 0, none⟩) m m) (w' := w.alloc (.cells c' e)) (L := fun _ => False) hs ?_ (Ev.alloc _ _ _) (fun _ _ h => h.elim) (.own k w.heap.size i.size m m c' e (0, 0) hheap hc' hml (Nat.le_refl _))
    (show ObSat F C.B (w.alloc (.cells c' e)) ⟨some w.heap.size, e, i.size, List.replicate m (z.map vOf)⟩ from ⟨c', m, hheap, hc', hml, by simp, fun r hr' => ?_, fun ii j r v hii hj => ?_⟩) (fun b hb => .inl (by cases hb; exact Nat.le_refl _)) (hK w.heap.size)
  · have hroom : (askRoom (m * i.bytes)).run P w = .ok () w := by
      unfold askRoom roomBytes
      rw [if_neg (by omega)]
      rfl
    have hbig : ¬ ((i.bytes : Int) * (m : Int) > 2 ^ 48) := by
      have e : ((m * i.bytes : Nat) : Int) = (i.bytes : Int) * (m : Int) := by rw [Int.natCast_mul, Int.mul_comm]
      omega
    unfold execOp
    rw [ho]
    simp only [Instr.makeSlice, Sem.run_bind, run_underlying hd, Result.andThen_ok, hex, hey, asInt, asIntOf, Sem.run_pure, hti, hw]
    have hcond : ((((m : Int) < 0 || (i.bytes : Int) * (m : Int) > 2 ^ 48) || (m : Int) < 0 || (m : Int) > m) : Bool) = false := by
      simp [hbig]
      omega
    rw [hcond, if_neg (by decide)]
    simp only [Int.toNat_natCast, Sem.run_bind, hroom, Result.andThen_ok, hso]
    by_cases h0 : m * i.size = 0
    · have hz0 : zero = #[] := by simp [zero, h0]
      simp only [c', hz0, h0, ↓reduceIte, Sem.run_bind, Sem.run_pure, Result.andThen_ok, newRow, newObj, Sem.run]
      rfl
    · have hz0 : zero = zv.cells := by simp [zero, h0]
      simp only [c', hz0, h0, ↓reduceIte, Sem.run_bind, Sem.run_pure, Result.andThen_ok, hzr, newRow, newObj, Sem.run]
      rfl
  · rw [List.eq_of_mem_replicate hr']; simp [hsz]
  · rw [List.getElem?_replicate] at hii
    split at hii
    · rename_i hlt
      cases hii
      simp only [List.getElem?_map, Option.map_eq_some_iff] at hj
      obtain ⟨u, hu, rfl⟩ := hj
      have hjl : j < i.size := by have := (List.getElem?_eq_some_iff.1 hu).1; omega
      have hidx := idx_lt hlt hjl
      refine ⟨u, ?_, List.all_eq_true.1 hone u (List.mem_of_getElem? hu), rel_vOf _ _ _ _⟩
      have hz0 : zero = zv.cells := by simp only [zero]; rw [if_neg (by omega)]
      have hmod : (ii * i.size + j) % i.size = j := by rw [Nat.mul_comm, Nat.mul_add_mod]; exact Nat.mod_eq_of_lt hjl
      simp only [c', hz0, hzs, Array.getElem?_map]
      rw [Array.getElem?_range, if_pos hidx]
      simp only [Option.map_some, hmod]
      rw [← hzv, Array.getElem?_toList] at hu
      simp [getElem!_def, hu]
    · cases hii
end
end Go.Proofs.Ytobngncjflogcaa.AM

set_option linter.unusedVariables false
set_option linter.unusedSimpArgs false
namespace Go.Proofs.Ytobngncjflogcaa.AM
open Go
open Go.BigFrame

def V.rl (f : Nat → Nat) : V → V
  | .own k b sz n => .own (f k) b sz n
  | .win k b sz lo hi => .win (f k) b sz lo hi
  | .ptr k b sz i off => .ptr (f k) b sz i off
  | v => v
def V.ren (f : Nat → Nat) : V → V
  | .agg cs => .agg (cs.map (V.rl f))
  | .tup vs => .tup (vs.map fun | .agg cs => .agg (cs.map (V.rl f)) | v => v.rl f)
  | v => v.rl f
def Ob.ren (f : Nat → Nat) (o : Ob) : Ob := { o with rows := o.rows.map (·.map (V.rl f)) }
def lab (m : List (Nat × Nat)) (k : Nat) : Nat := match m with
  | [] => k
  | (a, b) :: m => if k = a then b else lab m k
def bal (m : List (Nat × Nat)) (k : Nat) : Nat := match m with
  | [] => k
  | (a, b) :: m => if k = b then a else bal m k

theorem Rel.rl {F B : Nat → Prop} {w : World} {v : V} {u : Value} (f : Nat → Nat) (h : Rel F B w v u) : Rel F B w (v.rl f) u := by
  cases h with
  | ownnil k sz => exact .ownnil _ _
  | own k b sz n cap c e fr h hs hm hn => exact .own _ b sz n cap c e fr h hs hm hn
  | winemp k b sz lo cap a => exact .winemp _ _ sz lo cap a
  | win k b sz cap lo hi c e fr h hs hm hn h0 h1 => exact .win _ b sz cap lo hi c e fr h hs hm hn h0 h1
  | ptr k b sz i off => exact .ptr _ b sz i off
  | int => exact .int _ _
  | bool => exact .bool _
  | str => exact .str _
  | agg cs us hl h => exact .agg cs us hl h
  | tup cs us hl h => exact .tup cs us hl h
  | slnil t sz => exact .slnil t sz
  | slemp t sz a cap => exact .slemp t sz a cap
  | sl t sz rows b off cap us a1 a2 a3 a4 a5 => exact .sl t sz rows b off cap us a1 a2 a3 a4 a5
  | nilsl => exact .nilsl
  | rp t b off cs us a1 a2 a3 => exact .rp t b off cs us a1 a2 a3
  | nil => exact .nil
  | fn f caps us hl h => exact .fn f caps us hl h
  | raw => exact .raw _
  | und => exact .und
  | junk => exact .junk _
theorem Rel.agg_ren {F B : Nat → Prop} {w : World} {cs : List V} {u : Value} (f : Nat → Nat) (h : Rel F B w (.agg cs) u) : Rel F B w (.agg (cs.map (V.rl f))) u := by
  cases h with
  | agg _ us hl h =>
    refine .agg _ us (by simpa using hl) fun i v u hv hu => ?_
    simp only [List.getElem?_map, Option.map_eq_some_iff] at hv
    obtain ⟨v', hv', rfl⟩ := hv
    exact (h i v' u hv' hu).rl f
theorem Rel.ren {F B : Nat → Prop} {w : World} {v : V} {u : Value} (f : Nat → Nat) (h : Rel F B w v u) : Rel F B w (v.ren f) u := by
  cases v with
  | agg cs => exact h.agg_ren f
  | tup vs =>
    cases h with
    | tup _ us hl h =>
      refine .tup _ us (by simpa using hl) fun i v u hv hu => ?_
      simp only [List.getElem?_map, Option.map_eq_some_iff] at hv
      obtain ⟨v', hv', rfl⟩ := hv
      have := h i v' u hv' hu
      cases v' with
      | agg cs => exact this.agg_ren f
      | _ => exact this.rl f
  | _ => exact h.rl f
theorem ObSat.ren {F B : Nat → Prop} {w : World} {o : Ob} (f : Nat → Nat) (h : ObSat F B w o) : ObSat F B w (o.ren f) := by
  unfold ObSat at h ⊢
  simp only [Ob.ren]
  cases hb : o.b with
  | none => rw [hb] at h; simp only at h ⊢; rw [h]; rfl
  | some b =>
    rw [hb] at h
    obtain ⟨c, cap, hc, h1, h2, h3, h4, h5⟩ := h
    refine ⟨c, cap, hc, h1, h2, by simpa using h3, fun r hr => ?_, fun i j r v hi hj => ?_⟩
    · simp only [List.mem_map] at hr
      obtain ⟨r', hr', rfl⟩ := hr
      simpa using h4 r' hr'
    · simp only [List.getElem?_map, Option.map_eq_some_iff] at hi
      obtain ⟨r', hr', rfl⟩ := hi
      simp only [List.getElem?_map, Option.map_eq_some_iff] at hj
      obtain ⟨v', hv', rfl⟩ := hj
      obtain ⟨u, hu, h1u, hr⟩ := h5 i j r' v' hr' hv'
      exact ⟨u, hu, h1u, hr.rl f⟩

/-- blocks that are lent only are not in it -/
inductive Fz : V → Prop
  | int (k n) : Fz (.int k n)
  | bool (b) : Fz (.bool b)
  | str (l) : Fz (.str l)
  | agg (cs) (h : ∀ v ∈ cs, Fz v) : Fz (.agg cs)
  | tup (cs) (h : ∀ v ∈ cs, Fz v) : Fz (.tup cs)
  | sl (sz rows) (h : ∀ r ∈ rows, ∀ v ∈ r, Fz v) : Fz (.sl false sz rows)
  | nilsl : Fz .nilsl
  | own (k b sz n) : Fz (.own k b sz n)
  | win (k b sz lo hi) : Fz (.win k b sz lo hi)
  | ptr (k b sz i off) : Fz (.ptr k b sz i off)
  | rp (cs) (h : ∀ v ∈ cs, Fz v) : Fz (.rp false cs)
  | nil : Fz .nil
  | fn (f caps) (h : ∀ v ∈ caps, Fz v) : Fz (.fn f caps)
  | raw (v) : Fz (.raw v)
  | und : Fz .und
  | junk : Fz .junk

theorem Rel.fz {F B B' : Nat → Prop} {w : World} {v : V} {u : Value} (h : Rel F B w v u) (hz : Fz v) : Rel F B' w v u := by
  induction h with
  | int => exact .int _ _
  | bool => exact .bool _
  | str => exact .str _
  | agg cs us hl h ih => cases hz with | agg _ hz => exact .agg cs us hl fun i v u hv hu => ih i v u hv hu (hz v (List.mem_of_getElem? hv))
  | tup cs us hl h ih => cases hz with | tup _ hz => exact .tup cs us hl fun i v u hv hu => ih i v u hv hu (hz v (List.mem_of_getElem? hv))
  | slnil t sz => exact .slnil t sz
  | slemp t sz a cap => exact .slemp t sz a cap
  | sl t sz rows b off cap us hF hcap hsz hc hr ih =>
    cases hz with
    | sl _ _ hz =>
      refine .sl false sz rows b off cap us ?_ hcap hsz hc fun i j r v hi hj => ih i j r v hi hj (hz r (List.mem_of_getElem? hi) v (List.mem_of_getElem? hj))
      rcases hF with h | ⟨h, _⟩
      · exact .inl h
      · cases h
  | nilsl => exact .nilsl
  | ownnil k sz => exact .ownnil _ _
  | own k b sz n cap c e fr h hs hm hn => exact .own _ b sz n cap c e fr h hs hm hn
  | winemp k b sz lo cap a => exact .winemp _ _ sz lo cap a
  | win k b sz cap lo hi c e fr h hs hm hn h0 h1 => exact .win _ b sz cap lo hi c e fr h hs hm hn h0 h1
  | ptr k b sz i off => exact .ptr _ b sz i off
  | rp t b off cs us hF hc hr ih =>
    cases hz with
    | rp _ hz =>
      refine .rp false b off cs us ?_ hc fun j v hj => ih j v hj (hz v (List.mem_of_getElem? hj))
      rcases hF with h | ⟨h, _⟩
      · exact .inl h
      · cases h
  | nil => exact .nil
  | fn f caps us hl h ih => cases hz with | fn _ _ hz => exact .fn f caps us hl fun i v u hv hu => ih i v u hv hu (hz v (List.mem_of_getElem? hv))
  | raw v => exact .raw v
  | und => exact .und
  | junk v => exact .junk v

/-- more is known of memory -/
theorem Rel.mono {F B F' B' : Nat → Prop} {w : World} {v : V} {u : Value} (h : Rel F B w v u) (hF : ∀ b, F b → F' b) (hB : ∀ b, B b → F' b ∨ B' b) : Rel F' B' w v u := by
  have side : ∀ (t : Bool) b, F b ∨ (t = true ∧ B b) → F' b ∨ (t = true ∧ B' b) := by
    intro t b hh
    rcases hh with h | ⟨ht, h⟩
    · exact .inl (hF b h)
    · rcases hB b h with h | h
      · exact .inl h
      · exact .inr ⟨ht, h⟩
  induction h with
  | int => exact .int _ _
  | bool => exact .bool _
  | str => exact .str _
  | agg cs us hl h ih => exact .agg cs us hl ih
  | tup cs us hl h ih => exact .tup cs us hl ih
  | slnil t sz => exact .slnil t sz
  | slemp t sz a cap => exact .slemp t sz a cap
  | sl t sz rows b off cap us hFb hcap hsz hc hr ih => exact .sl t sz rows b off cap us (side t b hFb) hcap hsz hc ih
  | nilsl => exact .nilsl
  | ownnil k sz => exact .ownnil _ _
  | own k b sz n cap c e fr h hs hm hn => exact .own _ b sz n cap c e fr h hs hm hn
  | winemp k b sz lo cap a => exact .winemp _ _ sz lo cap a
  | win k b sz cap lo hi c e fr h hs hm hn h0 h1 => exact .win _ b sz cap lo hi c e fr h hs hm hn h0 h1
  | ptr k b sz i off => exact .ptr _ b sz i off
  | rp t b off cs us hFb hc hr ih => exact .rp t b off cs us (side t b hFb) hc ih
  | nil => exact .nil
  | fn f caps us hl h ih => exact .fn f caps us hl ih
  | raw v => exact .raw v
  | und => exact .und
  | junk v => exact .junk v

def Ob.Fz (o : Ob) : Prop := ∀ r ∈ o.rows, ∀ v ∈ r, AM.Fz v
theorem ObSat.fz {F B B' : Nat → Prop} {w : World} {o : Ob} (h : ObSat F B w o) (hz : o.Fz) : ObSat F B' w o := by
  unfold ObSat at h ⊢
  cases hb : o.b with
  | none => rw [hb] at h; exact h
  | some b =>
    rw [hb] at h
    obtain ⟨c, cap, hc, h1, h2, h3, h4, h5⟩ := h
    refine ⟨c, cap, hc, h1, h2, h3, h4, fun i j r v hi hj => ?_⟩
    obtain ⟨u, hu, h1u, hr⟩ := h5 i j r v hi hj
    exact ⟨u, hu, h1u, hr.fz (hz r (List.mem_of_getElem? hi) v (List.mem_of_getElem? hj))⟩
theorem ObSat.mono {F B F' B' : Nat → Prop} {w : World} {o : Ob} (h : ObSat F B w o) (hF : ∀ b, F b → F' b) (hB : ∀ b, B b → F' b ∨ B' b) : ObSat F' B' w o := by
  unfold ObSat at h ⊢
  cases hb : o.b with
  | none => rw [hb] at h; exact h
  | some b =>
    rw [hb] at h
    obtain ⟨c, cap, hc, h1, h2, h3, h4, h5⟩ := h
    refine ⟨c, cap, hc, h1, h2, h3, h4, fun i j r v hi hj => ?_⟩
    obtain ⟨u, hu, h1u, hr⟩ := h5 i j r v hi hj
    exact ⟨u, hu, h1u, hr.mono hF hB⟩

def Ctx.nb (C : Ctx) : Ctx := { C with B := fun _ => False }

/-- what a call of a function does: of arguments and of the objects that it is handed -/
structure Spec (P : Program) (f : Nat) (args : List V) (hp : Hp) (post : V → Hp → Prop) : Prop where
  fn : ∃ fn, P.funcs[f]? = some fn ∧ fn.name ≠ "runtime.NumGoroutine" ∧ ∃ c, fn.body = some c
  run : ∀ (C : Ctx) (us : Array Value), C.Ok → us.size = args.length → (∀ (i : Nat) (v : V) (u : Value), args[i]? = some v → us[i]? = some u → Rel C.F0 C.B C.w0 v u) → HSat C.nb C.F0 hp C.w0 →
    Calls P f us C.w0 fun e w' => ∃ u v h' F', e = .returned u ∧ Rel F' (fun _ => False) w' v u ∧ HSat C.nb F' h' w' ∧ post v h'

/-- how an argument is handed in: as it is; lent; nil as a slice of nothing -/
inductive Arg (h : Hp) (m : List (Nat × Nat)) : V → V → Prop
  | same (v : V) : Arg h m v (v.ren (bal m))
  | own (k b sz n rows) (hr : rowsOf h sz (.own k b sz n) = some rows) (hm : ∀ p ∈ m, p.2 ≠ k) : Arg h m (.own k b sz n) (.sl true sz rows)
  | weak (sz rows) : Arg h m (.sl false sz rows) (.sl true sz rows)
  | nil (t sz) : Arg h m .nilsl (.sl t sz [])
  | agg (cs cs' : List V) (hl : cs.length = cs'.length) (ha : ∀ (i : Nat) (v v' : V), cs[i]? = some v → cs'[i]? = some v' → Arg h m v v') : Arg h m (.agg cs) (.agg cs')
inductive Args (h : Hp) (m : List (Nat × Nat)) : List V → List V → Prop
  | nil : Args h m [] []
  | cons {v v' l l'} (a : Arg h m v v') (b : Args h m l l') : Args h m (v :: l) (v' :: l')

/-- the objects behind a call -/
def Hp.upd (h : Hp) (m : List (Nat × Nat)) (h' : Hp) : Hp := match m with
  | [] => h
  | m => fun i => if m.any (fun p => p.2 = i) then (h' (bal m i)).map (Ob.ren (lab m)) else h i

/-- what a call asks -/
def CallW (P : Program) : CallT := fun f args h K =>
  ∃ (m : List (Nat × Nat)) (args' : List V) (hp : Hp) (post : V → Hp → Prop), Spec P f args' hp post ∧ Args h m args args' ∧
    (∀ k o, hp k = some o → ∃ p ∈ m, p.1 = k) ∧ (∀ p ∈ m, lab m p.1 = p.2 ∧ bal m p.2 = p.1 ∧ ∀ o, hp p.1 = some o → (h p.2).map (Ob.ren (bal m)) = some o ∧ o.Fz) ∧
    ∀ v h', post v h' → K (v.ren (lab m)) (h.upd m h')
end Go.Proofs.Ytobngncjflogcaa.AM

set_option linter.unusedVariables false
set_option linter.unusedSimpArgs false
namespace Go.Proofs.Ytobngncjflogcaa.AM
open Go
open Go.BigFrame
section
variable {P : Program} {C : Ctx} {F : Nat → Prop} {w w' : World} {a : Act} {s : S} {h : Hp} {K : V → Hp → Prop} {Q : Exit → Act → World → Prop} {o : Oper}

theorem arg_rel {F' B' : Nat → Prop} {m : List (Nat × Nat)} (hs : HSat C F h w) (hF : ∀ b, F b → F' b) (hB : ∀ b, C.B b → F' b ∨ B' b) (hlive : ∀ k o b, h k = some o → o.b = some b → (∀ p ∈ m, p.2 ≠ k) → B' b)
    {v v' : V} {u : Value} (ha : Arg h m v v') (hr : Rel F C.B w v u) : Rel F' B' w v' u := by
  induction ha generalizing u with
  | same v => exact (hr.mono hF hB).ren _
  | own k b sz n rows hro hm =>
    have hk : ∃ o, h k = some o ∧ o.b = b := by
      simp only [rowsOf] at hro
      cases hk : h k with
      | none => simp only [hk] at hro; cases hro
      | some o =>
        simp only [hk] at hro
        split at hro
        · rename_i hc
          exact ⟨o, rfl, hc.1⟩
        · cases hro
    obtain ⟨o, hko, hob⟩ := hk
    rcases rows_flat hs hr hro with ⟨rfl, rfl⟩ | ⟨ad, cap, us, rfl, hfl, hmem⟩
    · exact .slnil _ _
    · cases hr with
      | own _ b' _ n' cap' c e fr hbk hcs hml hn =>
        refine .sl true sz rows b' 0 cap (fun i j => (us[i * sz + j]?).getD undef) (.inr ⟨rfl, hlive k o b' hko hob hm⟩) hn hfl.all (fun i j r v hi hj => ?_) (fun i j r v hi hj => ?_)
        · obtain ⟨u, hu, hru⟩ := hfl.rel i j r v hi hj
          rw [hu]
          have := hmem _ _ hu
          rw [add_off] at this
          exact ⟨this, hfl.one u (List.mem_of_getElem? hu)⟩
        · obtain ⟨u, hu, hru⟩ := hfl.rel i j r v hi hj
          rw [hu]
          exact hru.mono hF hB
  | weak sz rows =>
    have := hr.mono hF hB
    cases this with
    | slnil => exact .slnil _ _
    | slemp => exact .slemp _ _ _ _
    | sl _ _ _ b off cap us hFb a1 a2 a3 a4 =>
      refine .sl true sz rows b off cap us ?_ a1 a2 a3 a4
      rcases hFb with h | ⟨h, _⟩
      · exact .inl h
      · cases h
  | nil t sz => cases hr; exact .slnil _ _
  | agg cs cs' hl ha ih =>
    cases hr with
    | agg _ us hsz hrr =>
      refine .agg cs' us (by omega) fun i v u hv hu => ?_
      have hi : i < cs.length := by have := (List.getElem?_eq_some_iff.1 hv).1; omega
      exact ih i cs[i] v (List.getElem?_eq_getElem hi) hv (hrr i cs[i] u (List.getElem?_eq_getElem hi) hu)

theorem args_rel {R : V → Value → Prop} {R' : V → Value → Prop} {m : List (Nat × Nat)} (hR : ∀ v v' u, Arg h m v v' → R v u → R' v' u) : ∀ {l l' : List V}, Args h m l l' → l.length = l'.length ∧ ∀ (us : List Value), (∀ (i : Nat) (v : V) (u : Value), l[i]? = some v → us[i]? = some u → R v u) → us.length = l.length →
    ∀ (i : Nat) (v : V) (u : Value), l'[i]? = some v → us[i]? = some u → R' v u := by
  intro l l' ha
  induction ha with
  | nil => exact ⟨rfl, by simp⟩
  | cons a b ih =>
    refine ⟨by simp [ih.1], fun us hus hl i v u hv hu => ?_⟩
    cases us with
    | nil => simp at hl
    | cons u0 us =>
      cases i with
      | zero =>
        simp at hv hu
        subst hv hu
        exact hR _ _ _ a (hus 0 _ _ rfl rfl)
      | succ i => exact ih.2 us (fun j v u hv hu => hus (j + 1) v u hv hu) (by simpa using hl) i v u hv hu

theorem upd_some {m : List (Nat × Nat)} {h' : Hp} {i : Nat} {ob : Ob} (hu : h.upd m h' i = some ob) : (∃ p ∈ m, p.2 = i ∧ ∃ o, h' (bal m i) = some o ∧ ob = o.ren (lab m)) ∨ ((∀ p ∈ m, p.2 ≠ i) ∧ h i = some ob) := by
  unfold Hp.upd at hu
  cases m with
  | nil => exact .inr ⟨by simp, hu⟩
  | cons q m =>
    simp only [] at hu
    by_cases hany : ((q :: m).any fun p => decide (p.2 = i)) = true
    · rw [if_pos hany] at hu
      obtain ⟨p, hp, hpi⟩ := List.any_eq_true.1 hany
      simp only [Option.map_eq_some_iff] at hu
      obtain ⟨o, ho, rfl⟩ := hu
      exact .inl ⟨p, hp, by simpa using hpi, o, ho, rfl⟩
    · rw [if_neg hany] at hu
      refine .inr ⟨fun p hp hpi => hany (List.any_eq_true.2 ⟨p, hp, by simpa using hpi⟩), hu⟩

theorem snd_call (hC : C.Ok) {c : Call} {f : Nat} {caps : Array Value} {vs : List V} (ho : o.op = .call c) (hf : ∃ op, c.callee = .value op ∧ a.eval op = .func (.func f) #[] caps) (hs : HSat C F h w) (hl : (c.args.map a.eval ++ caps).size = vs.length)
    (hr : ∀ (i : Nat) (v : V) (u : Value), vs[i]? = some v → (c.args.map a.eval ++ caps)[i]? = some u → Rel F C.B w v u) (hK : CallW P f vs h K) : o.wp P a w (OpPost C F w a o.dst K) Q := by
  obtain ⟨m, args', hp, post, hspec, hargs, hdom, hm, hpost⟩ := hK
  obtain ⟨fn, hfn, hng, cb, hbody⟩ := hspec.fn
  have hrun : (execOp a.eval o).run P w = .ok (.enter f (c.args.map a.eval ++ caps)) w := by
    obtain ⟨callee, args, ats⟩ := c
    obtain ⟨op, hf, hev⟩ := hf
    cases hf
    unfold execOp
    rw [ho]
    generalize a.eval = ρ at *
    simp only [resolve, hev, Deferred.ofValue, Sem.run_bind, Sem.run_pure, Result.andThen_ok, invoke]
    simp [callFunc, program, Sem.run_bind, Sem.run_pure, Sem.run, hfn, hng, hbody]
  let pass : Nat → Prop := fun b => ∃ p ∈ m, ∃ ob, h p.2 = some ob ∧ ob.b = some b ∧ ∃ o', hp p.1 = some o'
  let C' : Ctx := ⟨w, F, fun b => b < w.heap.size ∧ ¬ pass b, pass⟩
  have hC' : C'.Ok := by
    refine ⟨fun b hb => ⟨hs.lt b hb, ?_⟩, fun b hb => hb, ?_⟩
    · rintro ⟨p, _, ob, hk, hbb, _⟩
      exact (hs.live _ ob b hk hbb).1 hb
    · rintro b ⟨p, _, ob, hk, hbb, _⟩
      exact (hs.ob _ ob hk).lt hbb
  have hhp : ∀ k o', hp k = some o' → ∃ p ∈ m, p.1 = k ∧ ∃ ob, h p.2 = some ob ∧ o' = ob.ren (bal m) ∧ o'.Fz := by
    intro k o' hk
    obtain ⟨p, hpm, hpk⟩ := hdom k o' hk
    obtain ⟨_, _, h3⟩ := hm p hpm
    obtain ⟨h4, h5⟩ := h3 o' (by rw [hpk]; exact hk)
    simp only [Option.map_eq_some_iff] at h4
    obtain ⟨ob, hob, rfl⟩ := h4
    exact ⟨p, hpm, hpk, ob, hob, rfl, h5⟩
  have hs' : HSat C'.nb C'.F0 hp w := by
    refine ⟨fun k o' hk => ?_, fun k1 k2 o1 o2 b h1 h2 e1 e2 => ?_, fun k o' b hk hb => ?_, fun b hb => .inl hb, fun b hb => hb, hs.lt, Ev.refl _ _⟩
    · obtain ⟨p, _, _, ob, hob, rfl, hz⟩ := hhp k o' hk
      exact ((hs.ob _ ob hob).ren _).fz hz
    · obtain ⟨p1, hp1, rfl, ob1, hob1, rfl, _⟩ := hhp k1 o1 h1
      obtain ⟨p2, hp2, rfl, ob2, hob2, rfl, _⟩ := hhp k2 o2 h2
      have := hs.inj p1.2 p2.2 ob1 ob2 b hob1 hob2 e1 e2
      rw [← (hm p1 hp1).2.1, ← (hm p2 hp2).2.1, this]
    · obtain ⟨p, hpm, rfl, ob, hob, rfl, _⟩ := hhp k o' hk
      exact ⟨(hs.live _ ob b hob hb).1, .inl ⟨p, hpm, ob, hob, hb, _, hk⟩⟩
  have hBF : ∀ b, C.B b → C'.F0 b ∨ C'.B b := fun b hb => by
    refine .inr ⟨Nat.lt_of_lt_of_le (hC.B b hb).1 hs.ev.size, ?_⟩
    rintro ⟨p, _, ob, hk, hbb, _⟩
    exact hs.notB hC hk hbb hb
  obtain ⟨hlen, hargs'⟩ := args_rel (R := Rel F C.B w) (R' := Rel C'.F0 C'.B w) (fun v v' u ha hr => arg_rel hs (fun _ h => h) hBF (fun k o b hk hb hne => by
    refine ⟨(hs.ob k o hk).lt hb, ?_⟩
    rintro ⟨p, hpm, ob, hob, hbb, _⟩
    exact hne p hpm (hs.inj p.2 k ob o b hob hk hbb hb)) ha hr) hargs
  have hcall := hspec.run C' (c.args.map a.eval ++ caps) hC' (by rw [hl, hlen]) (fun i v u hv hu => hargs' (c.args.map a.eval ++ caps).toList (fun i v u hv hu => hr i v u hv (by rw [Array.getElem?_toList] at hu; exact hu)) (by rw [Array.length_toList]; exact hl) i v u hv (by rw [Array.getElem?_toList]; exact hu)) hs'
  unfold Oper.wp
  rw [hrun]
  refine Calls.mono hcall ?_
  rintro e w' ⟨u, v, h', F', rfl, hv, hs2, hp2⟩
  have hev : Ev pass w w' := hs2.ev
  have hFF : ∀ b, F b → F' b := hs2.new
  have hold : ∀ b, F' b → F b ∨ pass b ∨ w.heap.size ≤ b := hs2.old
  have hpl : ∀ b, b < w.heap.size → pass b → ∃ k ob, h k = some ob ∧ ob.b = some b := by
    rintro b _ ⟨p, _, ob, hob, hbb, _⟩
    exact ⟨p.2, ob, hob, hbb⟩
  have hkeep : ∀ {x y}, Rel F C.B w x y → Rel F' C.B w' x y := fun hr => (hs.keep hC hev hpl hr).mono hFF (fun _ h => .inr h)
  refine ⟨u, v.ren (lab m), h.upd m h', F', rfl, (hv.mono (fun _ h => h) (fun _ h => h.elim)).ren _, ?_, fun x y hr => hkeep hr, hpost v h' hp2⟩
  have hblk : ∀ b, (pass b ∨ w.heap.size ≤ b) → ∀ k ob, (∀ p ∈ m, p.2 ≠ k) → h k = some ob → ob.b ≠ some b := by
    intro b hb k ob hne hk hbb
    rcases hb with ⟨p, hpm, ob2, hob2, hb2, _⟩ | hge
    · exact hne p hpm (hs.inj p.2 k ob2 ob b hob2 hk hb2 hbb)
    · have := (hs.ob k ob hk).lt hbb; omega
  refine ⟨fun k ob hk => ?_, fun k1 k2 o1 o2 b h1 h2 e1 e2 => ?_, fun k ob b hk hb => ?_, fun b hb => ?_, fun b hb => hFF b (hs.new b hb), hs2.lt, ?_⟩
  · rcases upd_some hk with ⟨p, hpm, rfl, o', ho', rfl⟩ | ⟨hne, hk⟩
    · exact ((hs2.ob _ o' ho').mono (fun _ h => h) (fun _ h => h.elim)).ren _
    · refine (ObSat.keep hC hs hev hpl (hs.ob k ob hk) fun b hb hpb => hblk b (.inl hpb) k ob hne hk hb).mono hFF (fun _ h => .inr h)
  · rcases upd_some h1 with ⟨p1, hp1, rfl, o1', ho1, rfl⟩ | ⟨hne1, hk1⟩ <;> rcases upd_some h2 with ⟨p2, hp2', rfl, o2', ho2, rfl⟩ | ⟨hne2, hk2⟩
    · have := hs2.inj _ _ o1' o2' b ho1 ho2 e1 e2
      rw [(hm p1 hp1).2.1, (hm p2 hp2').2.1] at this
      rw [← (hm p1 hp1).1, ← (hm p2 hp2').1, this]
    · exact absurd e2 (hblk b (hs2.live _ o1' b ho1 e1).2 k2 o2 hne2 hk2)
    · exact absurd e1 (hblk b (hs2.live _ o2' b ho2 e2).2 k1 o1 hne1 hk1)
    · exact hs.inj k1 k2 o1 o2 b hk1 hk2 e1 e2
  · rcases upd_some hk with ⟨p, hpm, rfl, o', ho', rfl⟩ | ⟨hne, hk⟩
    · obtain ⟨g1, g2⟩ := hs2.live _ o' b ho' hb
      refine ⟨g1, ?_⟩
      rcases g2 with ⟨p2, _, ob2, hob2, hb2, _⟩ | hge
      · exact (hs.live _ ob2 b hob2 hb2).2
      · exact .inr (Nat.le_trans hs.ev.size hge)
    · obtain ⟨g1, g2⟩ := hs.live k ob b hk hb
      refine ⟨fun hF' => ?_, g2⟩
      rcases hold b hF' with h | h | h
      · exact g1 h
      · exact hblk b (.inl h) k ob hne hk hb
      · have := (hs.ob k ob hk).lt hb; omega
  · rcases hold b hb with h | h | h
    · exact hs.old b h
    · obtain ⟨p, _, ob, hob, hbb, _⟩ := h
      exact .inr (hs.live _ ob b hob hbb).2
    · exact .inr (.inr (Nat.le_trans hs.ev.size h))
  · refine Ev.weak hs.ev hev ?_
    rintro b hb ⟨p, _, ob, hob, hbb, _⟩
    rcases (hs.live _ ob b hob hbb).2 with h | h
    · exact h
    · omega

/-- calls may be carried out so -/
def CallOk (P : Program) (T : CallT) : Prop := ∀ (C : Ctx) (F : Nat → Prop) (w : World) (a : Act) (h : Hp) (K : V → Hp → Prop) (Q : Exit → Act → World → Prop) (o : Oper) (c : Call) (f : Nat) (caps : Array Value) (vs : List V), C.Ok → o.op = .call c → (∃ op, c.callee = .value op ∧ a.eval op = .func (.func f) #[] caps) → HSat C F h w → (c.args.map a.eval ++ caps).size = vs.length →
    (∀ (i : Nat) (v : V) (u : Value), vs[i]? = some v → (c.args.map a.eval ++ caps)[i]? = some u → Rel F C.B w v u) → T f vs h K → o.wp P a w (OpPost C F w a o.dst K) Q
/-- memory may be said anew before a call -/
def HEnt (h h0 : Hp) : Prop := ∀ (C : Ctx) (F : Nat → Prop) (w : World), C.Ok → HSat C F h w → ∃ F', (∀ b, F b → F' b) ∧ HSat C F' h0 w
def CallE (P : Program) : CallT := fun f args h K => ∃ h0, HEnt h h0 ∧ CallW P f args h0 K
theorem callE_ok : CallOk P (CallE P) := fun C F w a h K Q o c f caps vs hC ho hf hs hl hr hK => by
  obtain ⟨h0, he, hK⟩ := hK
  obtain ⟨F', hF, hs'⟩ := he C F w hC hs
  refine Oper.wp_mono (fun a' w' hpost => ?_) (snd_call (K := K) (Q := Q) hC ho hf hs' hl (fun i v u hv hu => (hr i v u hv hu).mono hF (fun _ h => .inr h)) hK)
  obtain ⟨u, v', h', F2, e1, e2, e3, e4, e5⟩ := hpost
  exact ⟨u, v', h', F2, e1, e2, e3, fun x y hxy => e4 x y (hxy.mono hF (fun _ h => .inr h)), e5⟩
end

/-- a call that only reads and answers -/
def CallP (P : Program) : CallT := fun f args h K =>
  ∃ (m : List (Nat × Nat)) (args' : List V) (hp : Hp) (v : V), Spec P f args' hp (fun x h' => x = v ∧ h' = hp) ∧ Args h m args args' ∧
    (∀ k o, hp k = some o → ∃ p ∈ m, p.1 = k) ∧ (∀ p ∈ m, lab m p.1 = p.2 ∧ bal m p.2 = p.1 ∧ ∃ o, hp p.1 = some o ∧ (h p.2).map (Ob.ren (bal m)) = some o ∧ o.Fz) ∧ K (v.ren (lab m)) h

theorem Rel.unrl {F B : Nat → Prop} {w : World} {v : V} {u : Value} (f : Nat → Nat) (h : Rel F B w (v.rl f) u) : Rel F B w v u := by
  cases v <;> try exact h
  case own k b sz n =>
    simp only [V.rl] at h
    cases h with
    | ownnil => exact .ownnil _ _
    | own _ b _ _ cap c e fr h hs hm hn => exact .own _ b sz n cap c e fr h hs hm hn
  case win k b sz lo hi =>
    simp only [V.rl] at h
    cases h with
    | winemp => exact .winemp _ _ _ _ _ _
    | win _ b _ cap _ _ c e fr h hs hm hn h0 h1 => exact .win _ b _ cap _ _ c e fr h hs hm hn h0 h1
  case ptr k b sz i off =>
    simp only [V.rl] at h
    cases h
    exact .ptr _ _ _ _ _
theorem ObSat.unren {F B : Nat → Prop} {w : World} {o : Ob} (f : Nat → Nat) (h : ObSat F B w (o.ren f)) : ObSat F B w o := by
  unfold ObSat at h ⊢
  simp only [Ob.ren] at h
  cases hb : o.b with
  | none => rw [hb] at h; simp only at h ⊢; simpa using h
  | some b =>
    rw [hb] at h
    obtain ⟨c, cap, hc, h1, h2, h3, h4, h5⟩ := h
    refine ⟨c, cap, hc, h1, h2, by simpa using h3, fun r hr => ?_, fun i j r v hi hj => ?_⟩
    · have := h4 (r.map (V.rl f)) (List.mem_map.2 ⟨r, hr, rfl⟩)
      simpa using this
    · obtain ⟨u, hu, h1u, hr⟩ := h5 i j (r.map (V.rl f)) (v.rl f) (by simp [hi]) (by simp [hj])
      exact ⟨u, hu, h1u, hr.unrl f⟩

theorem callP_ok {P : Program} : CallOk P (CallP P) := by
  intro C F w a h K Q o c f caps vs hC ho hf hs hl hr hK
  obtain ⟨m, args', hp, v, h1, h2, h3, h4, h5⟩ := hK
  have hW : CallW P f vs h (fun v' h' => v' = v.ren (lab m) ∧ h' = h.upd m hp) := ⟨m, args', hp, _, h1, h2, h3, fun p hp' => by
    obtain ⟨a1, a2, o, a3, a4, a5⟩ := h4 p hp'
    refine ⟨a1, a2, fun o' ho' => ?_⟩
    rw [a3] at ho'
    cases ho'
    exact ⟨a4, a5⟩, fun v' h' hv => by obtain ⟨rfl, rfl⟩ := hv; exact ⟨rfl, rfl⟩⟩
  refine Oper.wp_mono (fun a' w' hpost => ?_) (snd_call hC ho hf hs hl hr hW)
  obtain ⟨u, v', h', F', e1, e2, e3, e4, rfl, rfl⟩ := hpost
  have hup : ∀ k ob, h k = some ob → ∃ ob', h.upd m hp k = some ob' ∧ ob'.b = ob.b ∧ (ObSat F' C.B w' ob' → ObSat F' C.B w' ob) := by
    intro k ob hk
    unfold Hp.upd
    cases m with
    | nil => exact ⟨ob, hk, rfl, id⟩
    | cons q m =>
      simp only []
      by_cases hany : ((q :: m).any fun p => decide (p.2 = k)) = true
      · rw [if_pos hany]
        obtain ⟨p, hpm, hpk⟩ := List.any_eq_true.1 hany
        have hpk : p.2 = k := by simpa using hpk
        obtain ⟨a1, a2, o', a3, a4, a5⟩ := h4 p hpm
        rw [hpk, hk] at a4
        simp only [Option.map_some, Option.some.injEq] at a4
        subst a4
        rw [← hpk, a2, a3]
        exact ⟨_, rfl, rfl, fun hh => (hh.unren _).unren _⟩
      · rw [if_neg hany]
        exact ⟨ob, hk, rfl, id⟩
  refine ⟨u, _, h, F', e1, e2, ⟨fun k ob hk => ?_, fun k k' ob ob' b hk hk' hb hb' => ?_, fun k ob b hk hb => ?_, e3.old, e3.new, e3.lt, e3.ev⟩, e4, h5⟩
  · obtain ⟨ob', g1, g2, g3⟩ := hup k ob hk
    exact g3 (e3.ob k ob' g1)
  · obtain ⟨o1, g1, g2, _⟩ := hup k ob hk
    obtain ⟨o2, g3, g4, _⟩ := hup k' ob' hk'
    exact e3.inj k k' o1 o2 b g1 g3 (g2.trans hb) (g4.trans hb')
  · obtain ⟨o1, g1, g2, _⟩ := hup k ob hk
    exact e3.live k o1 b g1 (g2.trans hb)
end Go.Proofs.Ytobngncjflogcaa.AM

set_option linter.unusedVariables false
set_option linter.unusedSimpArgs false
namespace Go.Proofs.Ytobngncjflogcaa.AM
open Go

theorem eqCells_len : ∀ {ts : List Nat} {cs ds : List V} {r : Bool}, eqCells ts cs ds = some r → cs.length = ts.length ∧ ds.length = ts.length
  | [], [], [], _, _ => ⟨rfl, rfl⟩
  | t :: ts, a :: l, b :: m, r, h => by
    simp only [eqCells] at h
    split at h
    · rename_i x y h1 h2
      obtain ⟨g1, g2⟩ := eqCells_len h2
      simp [g1, g2]
    · cases h
  | [], _ :: _, _, _, h => by simp [eqCells] at h
  | [], [], _ :: _, _, h => by simp [eqCells] at h
  | _ :: _, [], _, _, h => by simp [eqCells] at h
  | _ :: _, _ :: _, [], _, h => by simp [eqCells] at h
theorem eqCells_app : ∀ {t1 t2 : List Nat} {cs ds : List V} {r : Bool}, eqCells (t1 ++ t2) cs ds = some r →
    ∃ r1 r2, eqCells t1 (cs.take t1.length) (ds.take t1.length) = some r1 ∧ eqCells t2 (cs.drop t1.length) (ds.drop t1.length) = some r2 ∧ r = (r1 && r2)
  | [], t2, cs, ds, r, h => ⟨true, r, rfl, by simpa using h, by simp⟩
  | t :: t1, t2, a :: l, b :: m, r, h => by
    simp only [List.cons_append, eqCells] at h
    split at h
    · rename_i x y h1 h2
      obtain ⟨r1, r2, g1, g2, rfl⟩ := eqCells_app h2
      cases h
      exact ⟨x && r1, r2, by simp [eqCells, h1, g1], by simpa using g2, by simp [Bool.and_assoc]⟩
    · cases h
  | t :: t1, t2, [], _, r, h => by simp [eqCells] at h
  | t :: t1, t2, _ :: _, [], r, h => by simp [eqCells] at h

section
variable {P : Program}

/-- cells of an array from a place on read as these -/
def At (F B : Nat → Prop) (w : World) (cs : List V) (xs : Array Value) (off : Nat) : Prop := ∀ (i : Nat) (v : V), cs[i]? = some v → ∃ u, xs[off + i]? = some u ∧ Rel F B w v u
theorem At.take {F B : Nat → Prop} {w : World} {cs : List V} {xs : Array Value} {off : Nat} (h : At F B w cs xs off) (n : Nat) : At F B w (cs.take n) xs off := fun i v hv => by
  rw [List.getElem?_take] at hv
  split at hv
  · exact h i v hv
  · cases hv
theorem At.drop {F B : Nat → Prop} {w : World} {cs : List V} {xs : Array Value} {off : Nat} (h : At F B w cs xs off) (n : Nat) : At F B w (cs.drop n) xs (off + n) := fun i v hv => by
  rw [List.getElem?_drop] at hv
  rw [Nat.add_assoc]
  exact h _ v hv

def EqP (P : Program) (dd : Nat) (t : TypeId) (ts : List Nat) : Prop := ∀ (F B : Nat → Prop) (w : World) (xs ys : Array Value) (off : Nat) (cs ds : List V) (r : Bool), At F B w cs xs off → At F B w ds ys off → eqCells ts cs ds = some r →
  ∃ a b, (part t xs off).run P w = .ok a w ∧ (part t ys off).run P w = .ok b w ∧ (Op.equalIn dd t a b).run P w = .ok r w
def EqA (P : Program) (dd : Nat) (t : TypeId) (ts : List Nat) : Prop := ∀ (F B : Nat → Prop) (w : World) (xs ys : Array Value) (cs ds : List V) (r : Bool), At F B w cs xs 0 → At F B w ds ys 0 → eqCells ts cs ds = some r →
  (Op.equalIn dd t (.agg xs) (.agg ys)).run P w = .ok r w

theorem eqP_of_eqA {dd : Nat} {t : TypeId} {ts : List Nat} (hag : (∃ fs, P.underlying t = some (.struct fs)) ∨ ∃ n e, P.underlying t = some (.array n e)) (hsz : P.cellsOf t = ts.length) (h : EqA P dd t ts) : EqP P dd t ts := by
  intro F B w xs ys off cs ds r hx hy he
  obtain ⟨g1, g2⟩ := eqCells_len he
  have hpart : ∀ xs : Array Value, (part t xs off).run P w = .ok (.agg (xs.extract off (off + P.cellsOf t))) w := by
    intro xs
    rcases hag with ⟨fs, hu⟩ | ⟨n, e, hu⟩
    · obtain ⟨i, hi⟩ := info_of_underlying hu
      simp [part, isAgg, run_underlying hu, run_sizeOf w hi]
    · obtain ⟨i, hi⟩ := info_of_underlying hu
      simp [part, isAgg, run_underlying hu, run_sizeOf w hi]
  have sub : ∀ {cs : List V} {xs : Array Value}, cs.length = ts.length → At F B w cs xs off → At F B w cs (xs.extract off (off + P.cellsOf t)) 0 := by
    intro cs xs hl ha i v hv
    obtain ⟨u, hu, hr⟩ := ha i v hv
    have hi : i < cs.length := (List.getElem?_eq_some_iff.1 hv).1
    have hb := (Array.getElem?_eq_some_iff.1 hu).1
    refine ⟨u, ?_, hr⟩
    rw [Nat.zero_add, Array.getElem?_extract, if_pos (by omega)]
    exact hu
  exact ⟨_, _, hpart xs, hpart ys, h F B w _ _ cs ds r (sub g1 hx) (sub g2 hy) he⟩

theorem eqP_plain {dd : Nat} {t : TypeId} {ts : List Nat} (h : (P.underlying t = some .bool ∧ ts = [0]) ∨ (∃ k, P.underlying t = some (.int k) ∧ ts = [1]) ∨ (P.underlying t = some .string ∧ ts = [2])) : EqP P (dd + 1) t ts := by
  intro F B w xs ys off cs ds r hx hy he
  have one : ∃ m, ts = [m] := by rcases h with ⟨_, h⟩ | ⟨_, _, h⟩ | ⟨_, h⟩ <;> exact ⟨_, h⟩
  obtain ⟨m, rfl⟩ := one
  obtain ⟨g1, g2⟩ := eqCells_len he
  match cs, ds, g1, g2 with
  | [a], [b], _, _ =>
    obtain ⟨u, hu, hru⟩ := hx 0 a rfl
    obtain ⟨v, hv, hrv⟩ := hy 0 b rfl
    rw [Nat.add_zero] at hu hv
    simp only [eqCells] at he
    cases hc : eqCell m a b with
    | none => rw [hc] at he; cases he
    | some q =>
      rw [hc] at he
      simp only [Bool.and_true, Option.some.injEq] at he
      subst he
      have hp : P.plainKey t = true := by
        unfold Program.plainKey
        rcases h with ⟨h, _⟩ | ⟨k, h, _⟩ | ⟨h, _⟩ <;> rw [h]
      refine ⟨u, v, run_part_plain w hp hu, run_part_plain w hp hv, ?_⟩
      rcases h with ⟨hT, hm⟩ | ⟨k, hT, hm⟩ | ⟨hT, hm⟩ <;> simp only [List.cons.injEq, and_true] at hm <;> subst hm
      · cases a <;> simp only [eqCell] at hc <;> try (cases hc; done)
        cases b <;> simp only [eqCell] at hc <;> try (cases hc; done)
        cases hru; cases hrv; cases hc
        exact run_equalIn_bool w dd t _ _ hT
      · cases a <;> simp only [eqCell] at hc <;> try (cases hc; done)
        cases b <;> simp only [eqCell] at hc <;> try (cases hc; done)
        cases hru; cases hrv
        split at hc
        · rename_i hk
          subst hk
          cases hc
          rw [run_equalIn_int w dd t _ _ _ _ hT]
          congr 1
        · cases hc
      · cases a <;> simp only [eqCell] at hc <;> try (cases hc; done)
        cases b <;> simp only [eqCell] at hc <;> try (cases hc; done)
        cases hru; cases hrv; cases hc
        rw [run_equalIn_string w dd t _ _ hT, toList_inj]

theorem eqFields_run {dd : Nat} {g : TypeId → Option (List Nat)} (hg : ∀ t c, g t = some c → P.cellsOf t = c.length → EqP P dd t c) (F B : Nat → Prop) (w : World) (xs ys : Array Value) : ∀ (fs : List Field) (off : Nat) (ts : List Nat) (cs ds : List V) (r : Bool), flatF P g fs off = some ts →
    At F B w cs xs off → At F B w ds ys off → eqCells ts cs ds = some r → (Op.eqFields dd xs ys fs).run P w = .ok r w
  | [], off, ts, cs, ds, r, hf, _, _, he => by
    simp only [flatF, Option.some.injEq] at hf
    subst hf
    obtain ⟨g1, g2⟩ := eqCells_len he
    match cs, ds, g1, g2 with
    | [], [], _, _ => simp only [eqCells, Option.some.injEq] at he; subst he; simp [Op.eqFields]
  | f :: fs, off, ts, cs, ds, r, hf, hx, hy, he => by
    simp only [flatF] at hf
    split at hf
    · rename_i c hc
      split at hf
      · rename_i hcond
        obtain ⟨hn, ho, hs⟩ := hcond
        simp only [Option.map_eq_some_iff] at hf
        obtain ⟨ts', hf, rfl⟩ := hf
        obtain ⟨r1, r2, e1, e2, rfl⟩ := eqCells_app he
        obtain ⟨a, b, p1, p2, p3⟩ := hg _ _ hc hs F B w xs ys off _ _ _ (hx.take _) (hy.take _) e1
        have ih := eqFields_run hg F B w xs ys fs (off + c.length) ts' _ _ r2 hf (hx.drop _) (hy.drop _) e2
        rw [← ho] at p1 p2
        simp only [Op.eqFields, hn, ne_eq, not_false_eq_true, if_true, Sem.run_bind, p1, p2, p3, Result.andThen_ok]
        cases r1
        · simp
        · simpa using ih
      · cases hf
    · cases hf

theorem eqItems_run {dd : Nat} {e : TypeId} {c : List Nat} (hg : EqP P dd e c) (hs : P.cellsOf e = c.length) (F B : Nat → Prop) (w : World) (xs ys : Array Value) : ∀ (n s : Nat) (cs ds : List V) (r : Bool),
    At F B w cs xs (s * c.length) → At F B w ds ys (s * c.length) → eqCells (List.replicate n c).flatten cs ds = some r → (Op.eqItems dd e (P.cellsOf e) xs ys (List.range' s n)).run P w = .ok r w
  | 0, s, cs, ds, r, _, _, he => by
    obtain ⟨g1, g2⟩ := eqCells_len he
    simp only [List.replicate_zero, List.flatten_nil, List.length_nil] at g1 g2
    match cs, ds, g1, g2 with
    | [], [], _, _ => simp [eqCells] at he; subst he; simp [Op.eqItems]
  | n + 1, s, cs, ds, r, hx, hy, he => by
    rw [List.replicate_succ, List.flatten_cons] at he
    obtain ⟨r1, r2, e1, e2, rfl⟩ := eqCells_app he
    obtain ⟨a, b, p1, p2, p3⟩ := hg F B w xs ys _ _ _ _ (hx.take c.length) (hy.take c.length) e1
    have hm : s * c.length + c.length = (s + 1) * c.length := by rw [Nat.add_mul]; omega
    have ih := eqItems_run hg hs F B w xs ys n (s + 1) _ _ r2 (by rw [← hm]; exact hx.drop _) (by rw [← hm]; exact hy.drop _) e2
    rw [List.range'_succ]
    rw [← hs] at p1 p2
    simp only [Op.eqItems, Sem.run_bind, p1, p2, p3, Result.andThen_ok]
    cases r1
    · simp
    · simpa using ih

theorem eqA_struct {dd : Nat} {t : TypeId} {fs : Array Field} {ts : List Nat} {g : TypeId → Option (List Nat)} (hu : P.underlying t = some (.struct fs)) (hp : P.stoodInHeld t = false) (hg : ∀ t c, g t = some c → P.cellsOf t = c.length → EqP P dd t c) (hf : flatF P g fs.toList 0 = some ts) : EqA P (dd + 1) t ts := by
  intro F B w xs ys cs ds r hx hy he
  have hfo : P.fieldsOf t = fs := by simp [Program.fieldsOf, hu]
  rw [run_equalIn_struct w dd t xs ys (by rw [hfo]; exact hu) hp, hfo]
  exact eqFields_run hg F B w xs ys _ 0 ts cs ds r hf hx hy he
theorem eqA_array {dd n : Nat} {t e : TypeId} {c : List Nat} (hu : P.underlying t = some (.array n e)) (hi : ∃ i, P.info? e = some i) (hg : EqP P dd e c) (hs : P.cellsOf e = c.length) : EqA P (dd + 1) t (List.replicate n c).flatten := by
  intro F B w xs ys cs ds r hx hy he
  obtain ⟨i, hi⟩ := hi
  rw [run_equalIn_array w dd xs ys hu hi, List.range_eq_range']
  exact eqItems_run hg hs F B w xs ys n 0 cs ds r (by rw [Nat.zero_mul]; exact hx) (by rw [Nat.zero_mul]; exact hy) he

theorem flatK_info : ∀ {m : Nat} {t : TypeId} {c : List Nat}, flatK P m t = some c → ∃ i, P.info? t = some i := by
  intro m t c h
  cases m with
  | zero => cases h
  | succ m =>
    unfold flatK at h
    cases hu : P.underlying t with
    | none => rw [hu] at h; cases h
    | some d => exact info_of_underlying hu

/-- both ways of a type that can be held against itself cell by cell -/
theorem flatK_ok (d : Nat) : ∀ (m : Nat) (t : TypeId) (c : List Nat), flatK P m t = some c → (P.cellsOf t = c.length → EqP P (d + m) t c) ∧ ((∃ fs, P.underlying t = some (.struct fs)) ∨ (∃ n e, P.underlying t = some (.array n e)) → EqA P (d + m) t c)
  | 0, _, _, h => by cases h
  | m + 1, t, c, h => by
    unfold flatK at h
    cases hu : P.underlying t with
    | none => rw [hu] at h; cases h
    | some kd =>
      rw [hu] at h
      cases kd <;> simp only [] at h <;> try (cases h; done)
      case bool => cases h; exact ⟨fun _ => eqP_plain (dd := d + m) (.inl ⟨hu, rfl⟩), fun hh => by rcases hh with ⟨_, h⟩ | ⟨_, _, h⟩ <;> cases h⟩
      case int k => cases h; exact ⟨fun _ => eqP_plain (dd := d + m) (.inr (.inl ⟨k, hu, rfl⟩)), fun hh => by rcases hh with ⟨_, h⟩ | ⟨_, _, h⟩ <;> cases h⟩
      case string => cases h; exact ⟨fun _ => eqP_plain (dd := d + m) (.inr (.inr ⟨hu, rfl⟩)), fun hh => by rcases hh with ⟨_, h⟩ | ⟨_, _, h⟩ <;> cases h⟩
      case array n e =>
        split at h
        · rename_i c' hc
          split at h
          · rename_i hs
            cases h
            have := eqA_array (dd := d + m) hu (flatK_info hc) ((flatK_ok d m e c' hc).1 hs) hs
            exact ⟨fun hsz => eqP_of_eqA (.inr ⟨_, _, hu⟩) hsz this, fun _ => this⟩
          · cases h
        · cases h
      case struct fs =>
        split at h
        · cases h
        · rename_i hp
          have := eqA_struct (dd := d + m) (ts := c) hu (by simpa using hp) (fun t c hc hs => (flatK_ok d m t c hc).1 hs) h
          exact ⟨fun hsz => eqP_of_eqA (.inl ⟨_, hu⟩) hsz this, fun _ => this⟩
end
end Go.Proofs.Ytobngncjflogcaa.AM

set_option linter.unusedVariables false
set_option linter.unusedSimpArgs false
namespace Go.Proofs.Ytobngncjflogcaa.AM
open Go
open Go.BigFrame
section
variable {P : Program} {C : Ctx} {F : Nat → Prop} {w w' : World} {a : Act} {s : S} {h : Hp} {K : V → Hp → Prop} {Q : Exit → Act → World → Prop} {o : Oper}

theorem snd_convbs {src dst e : TypeId} {x : Operand} {vx : V} {l : List UInt8} (ho : o.op = .convert src dst x) (h1 : P.underlying src = some (.slice e)) (he : P.underlying e = some (.int .u8)) (h2 : P.underlying dst = some .string) (hs : HSat C F h w)
    (hx : Rel F C.B w vx (a.eval x)) (hr : rowsOf h 1 vx = some (l.map fun b => [V.int .u8 b.toNat])) (hK : K (.str l) h) : o.wp P a w (OpPost C F w a o.dst K) Q := by
  refine wp_pure (u := .string ⟨l.toArray⟩) hs ?_ (.str l) hK
  have hrun : (convert src dst (a.eval x)).run P w = .ok (.string ⟨l.toArray⟩) w := by
    rcases rows_flat hs hx hr with ⟨h0, hu⟩ | ⟨ad, cap, us, hu, hfl, hmem⟩
    · have hl : l = [] := by simpa using h0
      subst hl
      rw [hu, run_convert_bytes_string w src dst e none 0 0 h1 he h2]
      rfl
    · rw [hu]
      have := run_convert_bytes_back w src dst e ad cap l h1 he h2 (fun j hj => ?_)
      · simpa using this
      · obtain ⟨u, hu1, hu2⟩ := hfl.rel j 0 [V.int .u8 (l[j].toNat : Nat)] (V.int .u8 (l[j].toNat : Nat)) (by simp [hj]) rfl
        rw [Nat.mul_one, Nat.add_zero] at hu1
        rw [hmem j u hu1]
        cases hu2
        rfl
  unfold execOp
  rw [ho]
  generalize a.eval = ρ at *
  simp only [Sem.run_bind, hrun, Result.andThen_ok, Sem.run_pure]

theorem snd_ixa {T e : TypeId} {x y : Operand} {cs : List V} {k : IntKind} {i : Int} {g : Bool} {len sz : Nat} (ho : o.op = .index T x y) (hd : P.underlying T = some (.array len e)) (hg : isAggT P e = some g) (hn : szT P e = some sz) (hs : HSat C F h w)
    (hx : Rel F C.B w (.agg cs) (a.eval x)) (hy : Rel F C.B w (.int k i) (a.eval y)) (h0 : 0 ≤ i) (h1 : i < len) (hl : len * sz ≤ cs.length) (hsz : 0 < sz) (hK : K (if g then .agg ((cs.drop (i.toNat * sz)).take sz) else cs.getD (i.toNat * sz) .junk) h) : o.wp P a w (OpPost C F w a o.dst K) Q := by
  generalize hex : a.eval x = ux at hx
  generalize hey : a.eval y = uy at hy
  cases hy
  cases hx with
  | agg _ us hus hr =>
    have hle : i.toNat * sz + sz ≤ cs.length := by
      have : (i.toNat + 1) * sz ≤ len * sz := Nat.mul_le_mul_right _ (by omega)
      rw [Nat.add_mul, Nat.one_mul] at this
      omega
    cases g with
    | true =>
      refine wp_pure (u := .agg (us.extract (i.toNat * sz) (i.toNat * sz + sz))) hs ?_ (.agg _ _ (by simp; omega) fun j v u hv hu => ?_) hK
      · generalize a.eval = ρ at *
        simp [execOp, ho, hex, hey, Sem.run_bind, Sem.run_pure, Instr.index, asIntOf, run_underlying hd, part, isAgg_run hg, sizeOf_run hn, h0, h1]
      · simp only [List.getElem?_take, List.getElem?_drop] at hv
        split at hv
        · refine hr _ v u hv ?_
          simp only [Array.getElem?_extract] at hu
          split at hu
          · exact hu
          · simp at hu
        · simp at hv
    | false =>
      have hl' : i.toNat * sz < us.size := by omega
      refine wp_pure (u := us[i.toNat * sz]) hs ?_ (hr (i.toNat * sz) _ _ (by simp [List.getD_eq_getElem?_getD, show i.toNat * sz < cs.length by omega]) (by simp [hl'])) hK
      generalize a.eval = ρ at *
      simp [execOp, ho, hex, hey, Sem.run_bind, Sem.run_pure, Instr.index, asIntOf, run_underlying hd, part, isAgg_run hg, sizeOf_run hn, h0, h1, hl']
end
end Go.Proofs.Ytobngncjflogcaa.AM

set_option linter.unusedVariables false
set_option linter.unusedSimpArgs false
namespace Go.Proofs.Ytobngncjflogcaa.AM
open Go
open Go.BigFrame
section
variable {P : Program} {C : Ctx} {F : Nat → Prop} {w w' : World} {a : Act} {s : S} {h : Hp} {K : V → Hp → Prop} {Q : Exit → Act → World → Prop} {o : Oper}

theorem trXs_spec : ∀ {l : List Operand} {m : List Opd}, trXs l = some m → l.length = m.length ∧ ∀ (i : Nat) (x : Operand) (y : Opd), l[i]? = some x → m[i]? = some y → trX x = some y := by
  intro l
  induction l with
  | nil => intro m h; simp [trXs] at h; subst h; simp
  | cons x l ih =>
    intro m h
    simp only [trXs] at h
    split at h
    · rename_i y m' hx hm
      cases h
      obtain ⟨h1, h2⟩ := ih hm
      refine ⟨by simp [h1], fun i x' y' hx' hy' => ?_⟩
      cases i with
      | zero => simp at hx' hy'; subst hx' hy'; exact hx
      | succ i => exact h2 i x' y' (by simpa using hx') (by simpa using hy')
    · cases h

theorem toArr {α : Type} {x : Array α} {l : List α} (h : x.toList = l) : x = l.toArray := by subst h; simp
theorem trXs_two {c : Array Operand} {x y : Opd} (h : trXs c.toList = some [x, y]) : ∃ x' y', c = #[x', y'] ∧ trX x' = some x ∧ trX y' = some y := by
  obtain ⟨h1, h2⟩ := trXs_spec h
  obtain ⟨l, rfl⟩ : ∃ l : List Operand, c = l.toArray := ⟨c.toList, by simp⟩
  simp only at h1 h2
  match l, h1 with
  | [x', y'], _ => exact ⟨x', y', rfl, h2 0 x' x rfl rfl, h2 1 y' y rfl rfl⟩

theorem run_eq_bool {T : TypeId} (hd : P.underlying T = some .bool) (p q : Bool) : (Op.equal T (.bool p) (.bool q)).run P w = .ok (p == q) w := by
  unfold Op.equal Op.maxDepth
  rw [show (10000 : Nat) = 9999 + 1 from rfl, Op.equalIn]
  simp only [Sem.run_bind, run_underlying hd, Result.andThen_ok]
  rfl
theorem run_eq_ptr {T e : TypeId} (hd : P.underlying T = some (.pointer e)) (p q : Option Addr) (h : p = none ∨ q = none) : (Op.equal T (.pointer p) (.pointer q)).run P w = .ok (p.isNone && q.isNone) w := by
  unfold Op.equal Op.maxDepth
  rw [show (10000 : Nat) = 9999 + 1 from rfl, Op.equalIn]
  simp only [Sem.run_bind, run_underlying hd, Result.andThen_ok]
  cases p <;> cases q <;> first | rfl | simp at h

theorem snd_eq_of {neg : Bool} {T U : TypeId} {x y : Operand} {ux uy : Value} {b : Bool} (ho : o.op = .binOp (if neg then .neq else .eql) T x y U) (hs : HSat C F h w) (hx : a.eval x = ux) (hy : a.eval y = uy)
    (hg : ∀ op, (eqGuard op T x y ux uy).run P w = .ok () w) (h1 : binOp .eql T ux uy = (do pure (.bool (← Op.equal T ux uy)))) (h2 : binOp .neq T ux uy = (do pure (.bool (!(← Op.equal T ux uy))))) (hr : (Op.equal T ux uy).run P w = .ok b w)
    (hK : K (.bool (if neg then !b else b)) h) : o.wp P a w (OpPost C F w a o.dst K) Q := by
  refine wp_pure hs ?_ (.bool _) hK
  unfold execOp
  rw [ho]
  generalize a.eval = ρ at *
  cases neg
  · simp only [Bool.false_eq_true, ↓reduceIte, Sem.run_bind, Sem.run_pure, hx, hy, hg, Result.andThen_ok, h1, hr]
  · simp only [↓reduceIte, Sem.run_bind, Sem.run_pure, hx, hy, hg, Result.andThen_ok, h2, hr]

theorem run_guard_bb {op : BinOp} {T : TypeId} {x y : Operand} {p q : Bool} : (eqGuard op T x y (.bool p) (.bool q)).run P w = .ok () w := by
  unfold eqGuard; cases op <;> simp [go_sem]
theorem run_guard_pp {op : BinOp} {T : TypeId} {x y : Operand} {p q : Option Addr} : (eqGuard op T x y (.pointer p) (.pointer q)).run P w = .ok () w := by
  unfold eqGuard; cases op <;> simp [go_sem]

theorem snd_eqb {neg : Bool} {T U : TypeId} {x y : Operand} {vx vy : V} (ho : o.op = .binOp (if neg then .neq else .eql) T x y U) (hd : P.underlying T = some .bool) (hs : HSat C F h w)
    (hx : Rel F C.B w vx (a.eval x)) (hy : Rel F C.B w vy (a.eval y)) (hK : eqbK neg vx vy fun v => K v h) : o.wp P a w (OpPost C F w a o.dst K) Q := by
  generalize hex : a.eval x = ux at hx
  generalize hey : a.eval y = uy at hy
  cases hx <;> try (simp [eqbK] at hK; done)
  cases hy <;> try (simp [eqbK] at hK; done)
  exact snd_eq_of ho hs hex hey (fun _ => run_guard_bb) rfl rfl (run_eq_bool hd _ _) hK
theorem snd_eqp {neg : Bool} {T U e : TypeId} {x y : Operand} {vx vy : V} (ho : o.op = .binOp (if neg then .neq else .eql) T x y U) (hd : P.underlying T = some (.pointer e)) (hs : HSat C F h w)
    (hx : Rel F C.B w vx (a.eval x)) (hy : Rel F C.B w vy (a.eval y)) (hK : eqpK neg vx vy fun v => K v h) : o.wp P a w (OpPost C F w a o.dst K) Q := by
  generalize hex : a.eval x = ux at hx
  generalize hey : a.eval y = uy at hy
  cases hx <;> try (simp [eqpK, eqP] at hK; done)
  all_goals
    cases hy <;> try (simp [eqpK, eqP] at hK; done)
    all_goals
      simp only [eqpK, eqP] at hK
      exact snd_eq_of ho hs hex hey (fun _ => run_guard_pp) rfl rfl (run_eq_ptr hd _ _ (by simp)) hK

theorem run_guard_sl {op : BinOp} {T : TypeId} {x y : Operand} {b b' : Option Addr} {n m n' m' : Nat} : (eqGuard op T x y (.slice b n m) (.slice b' n' m')).run P w = .ok () w := by
  unfold eqGuard; cases op <;> simp [go_sem]
theorem run_eq_sl {T e : TypeId} (hd : P.underlying T = some (.slice e)) (p : Option Addr) (n m : Nat) : (Op.equal T (.slice p n m) (.slice none 0 0)).run P w = .ok p.isNone w := by
  unfold Op.equal Op.maxDepth
  rw [show (10000 : Nat) = 9999 + 1 from rfl, Op.equalIn]
  simp only [Sem.run_bind, run_underlying hd, Result.andThen_ok]
  cases p <;> rfl
theorem snd_eqn {neg : Bool} {T U e : TypeId} {x y : Operand} {vx : V} (ho : o.op = .binOp (if neg then .neq else .eql) T x y U) (hy : a.eval y = .slice none 0 0) (hd : P.underlying T = some (.slice e)) (hs : HSat C F h w)
    (hx : Rel F C.B w vx (a.eval x)) (hK : eqnK neg vx fun v => K v h) : o.wp P a w (OpPost C F w a o.dst K) Q := by
  generalize hex : a.eval x = ux at hx
  cases hx <;> try (exact hK.elim)
  case nilsl => exact snd_eq_of ho hs hex hy (fun _ => run_guard_sl) rfl rfl (run_eq_sl hd _ _ _) (by cases neg <;> exact hK)
  case slnil => exact snd_eq_of ho hs hex hy (fun _ => run_guard_sl) rfl rfl (run_eq_sl hd _ _ _) (by have := hK.2 rfl; cases neg <;> exact this)
  case slemp => exact snd_eq_of ho hs hex hy (fun _ => run_guard_sl) rfl rfl (run_eq_sl hd _ _ _) (by have := hK.1; cases neg <;> exact this)
  case sl => exact snd_eq_of ho hs hex hy (fun _ => run_guard_sl) rfl rfl (run_eq_sl hd _ _ _) (by have := hK.1; cases neg <;> exact this)
theorem run_guard_aa {op : BinOp} {T : TypeId} {x y : Operand} {p q : Array Value} (hg : P.eqGuardType P.depth T = false) : (eqGuard op T x y (.agg p) (.agg q)).run P w = .ok () w := by
  unfold eqGuard; cases op <;> simp [go_sem, hg]
theorem snd_eqs {neg : Bool} {T U : TypeId} {ts : List Nat} {x y : Operand} {vx vy : V} (ho : o.op = .binOp (if neg then .neq else .eql) T x y U) (hd : (∃ fs, P.underlying T = some (.struct fs)) ∨ (∃ n e, P.underlying T = some (.array n e))) (hf : flatK P 8 T = some ts) (hg : ¬ P.eqGuardType P.depth T = true) (hs : HSat C F h w)
    (hx : Rel F C.B w vx (a.eval x)) (hy : Rel F C.B w vy (a.eval y)) (hK : eqsK neg ts vx vy fun v => K v h) : o.wp P a w (OpPost C F w a o.dst K) Q := by
  generalize hex : a.eval x = ux at hx
  generalize hey : a.eval y = uy at hy
  cases hx <;> try (simp [eqsK] at hK; done)
  cases hy <;> try (simp [eqsK] at hK; done)
  rename_i cs us hl hr ds vs hl2 hr2
  simp only [eqsK] at hK
  split at hK
  · rename_i b hb
    have at1 : At F C.B w cs us 0 := fun i v hv => by
      have hi : i < us.size := by have := (List.getElem?_eq_some_iff.1 hv).1; omega
      exact ⟨us[i], by rw [Nat.zero_add]; exact Array.getElem?_eq_getElem hi, hr i v _ hv (Array.getElem?_eq_getElem hi)⟩
    have at2 : At F C.B w ds vs 0 := fun i v hv => by
      have hi : i < vs.size := by have := (List.getElem?_eq_some_iff.1 hv).1; omega
      exact ⟨vs[i], by rw [Nat.zero_add]; exact Array.getElem?_eq_getElem hi, hr2 i v _ hv (Array.getElem?_eq_getElem hi)⟩
    exact snd_eq_of ho hs hex hey (fun _ => run_guard_aa (by simpa using hg)) rfl rfl ((flatK_ok 9992 8 T ts hf).2 hd F C.B w us vs cs ds b at1 at2 hb) hK
  · exact hK.elim

theorem aop_sound {T : CallT} (hT : CallOk P T) (hC : C.Ok) {ao : AOp} {k : Nat} (ht : trOp P o.op = some ao) (hs : HSat C F h w) (hr : ∀ i : Nat, Rel F C.B w (s.t i) (a.tmps.getD i undef)) (hK : aop T ao (Opd.ev s) h k K) :
    o.wp P a w (OpPost C F w a o.dst K) Q := by
  cases hop : o.op <;> rw [hop] at ht <;> simp only [trOp] at ht
  case move x =>
    simp only [Option.map_eq_some_iff] at ht
    obtain ⟨y, hy, rfl⟩ := ht
    exact snd_mov (.inl hop) hs (ev_rel hr hy) hK
  case assign x =>
    simp only [Option.map_eq_some_iff] at ht
    obtain ⟨y, hy, rfl⟩ := ht
    exact snd_mov (.inr hop) hs (ev_rel hr hy) hK
  case pick c x y =>
    split at ht
    · rename_i c' x' y' hc hx hy
      cases ht
      have hcr := ev_rel hr hc
      simp only [aop] at hK
      split at hK
      · rename_i t hct
        rw [hct] at hcr
        exact snd_pick hop hs hcr (ev_rel hr hx) (ev_rel hr hy) hK
      · exact hK.elim
    · cases ht
  case alloc T =>
    simp only [Option.map_eq_some_iff] at ht
    obtain ⟨z, hz, rfl⟩ := ht
    obtain ⟨_, h1, h2⟩ := hK
    exact snd_alloc hC hop hz hs h1 h2
  case box T x =>
    split at ht
    · rename_i n y hn hy
      cases ht
      obtain ⟨_, h1, h2⟩ := hK
      exact snd_box hC hop hs (ev_rel hr hy) h1 h2
    · cases ht
  case build T parts =>
    split at ht
    · rename_i z fs hz hd
      split at ht
      · rename_i places hp
        simp only [Option.map_eq_some_iff] at ht
        obtain ⟨ps, hps, rfl⟩ := ht
        exact snd_build hop hz hps (.inl ⟨fs, places, hd, hp, rfl⟩) hs hr hK.1 hK.2
      · cases ht
    · rename_i z k e hz hd
      split at ht
      · rename_i n hn
        simp only [Option.map_eq_some_iff] at ht
        obtain ⟨ps, hps, rfl⟩ := ht
        exact snd_build hop hz hps (.inr ⟨k, e, n, hd, hn, rfl⟩) hs hr hK.1 hK.2
      · cases ht
    · cases ht
  case buildSlice T len parts =>
    split at ht
    · rename_i e hd
      split at ht
      · rename_i n z ps hn hz hps
        split at ht
        · rename_i hc
          cases ht
          obtain ⟨_, h1, h2⟩ := hK
          exact snd_bslice hC hop hd hn hz hps hc.1 hc.2.1 hc.2.2.1 hc.2.2.2 hs hr h1 h2
        · cases ht
      · cases ht
    · cases ht
  case load T x =>
    split at ht
    · rename_i n y hg hn hy
      cases ht
      exact snd_loadn hop hg hn hs (ev_rel hr hy) hK
    · rename_i y hg hy
      cases ht
      exact snd_load1 hop hg hs (ev_rel hr hy) hK
    · cases ht
  case store T x v =>
    split at ht
    · rename_i n y u hn hy hu
      cases ht
      exact snd_store hC hop hn hs (ev_rel hr hy) (ev_rel hr hu) hK
    · cases ht
  case nilCheck x =>
    simp only [Option.map_eq_some_iff] at ht
    obtain ⟨y, hy, rfl⟩ := ht
    have hrel := ev_rel hr hy
    simp only [aop] at hK
    split at hK
    · rename_i heq
      exact snd_nilchk hop hs hrel (.inl ⟨_, _, _, _, _, heq⟩) hK
    · rename_i heq
      exact snd_nilchk hop hs hrel (.inr ⟨_, _, heq⟩) hK
    · exact hK.elim
  case binOp op T x y U =>
    split at ht
    · rename_i k x' y' hd hx hy
      cases ht
      exact snd_bin hop hs (ev_rel hr hx) (ev_rel hr hy) hK
    · rename_i x' y' hd hx hy
      cases ht
      exact snd_bin hop hs (ev_rel hr hx) (ev_rel hr hy) hK
    · rename_i x' y' hd hx hy
      split at ht
      · cases ht
        exact snd_eqb (neg := false) hop hd hs (ev_rel hr hx) (ev_rel hr hy) hK
      · cases ht
        exact snd_eqb (neg := true) hop hd hs (ev_rel hr hx) (ev_rel hr hy) hK
      · cases ht
    · rename_i e x' y' hd hx hy
      split at ht
      · cases ht
        exact snd_eqp (neg := false) hop hd hs (ev_rel hr hx) (ev_rel hr hy) hK
      · cases ht
        exact snd_eqp (neg := true) hop hd hs (ev_rel hr hx) (ev_rel hr hy) hK
      · cases ht
    · rename_i e x' y' hd hx hy
      split at ht
      · rename_i hn
        split at ht
        · cases ht
          exact snd_eqn (neg := false) hop (nilC_eval hy hn) hd hs (ev_rel hr hx) hK
        · cases ht
          exact snd_eqn (neg := true) hop (nilC_eval hy hn) hd hs (ev_rel hr hx) hK
        · cases ht
      · cases ht
    · rename_i fs x' y' hd hx hy
      split at ht
      · rename_i ts hf
        split at ht
        · cases ht
        · rename_i hg
          split at ht
          · cases ht
            exact snd_eqs (neg := false) hop (.inl ⟨_, hd⟩) hf hg hs (ev_rel hr hx) (ev_rel hr hy) hK
          · cases ht
            exact snd_eqs (neg := true) hop (.inl ⟨_, hd⟩) hf hg hs (ev_rel hr hx) (ev_rel hr hy) hK
          · cases ht
      · cases ht
    · rename_i n e x' y' hd hx hy
      split at ht
      · rename_i ts hf
        split at ht
        · cases ht
        · rename_i hg
          split at ht
          · cases ht
            exact snd_eqs (neg := false) hop (.inr ⟨_, _, hd⟩) hf hg hs (ev_rel hr hx) (ev_rel hr hy) hK
          · cases ht
            exact snd_eqs (neg := true) hop (.inr ⟨_, _, hd⟩) hf hg hs (ev_rel hr hx) (ev_rel hr hy) hK
          · cases ht
      · cases ht
    · cases ht
  case unOp op T x =>
    cases op <;> simp only [] at ht
    case not =>
      simp only [Option.map_eq_some_iff] at ht
      obtain ⟨y, hy, rfl⟩ := ht
      have hrel := ev_rel hr hy
      simp only [aop] at hK
      split at hK
      · rename_i b heq
        rw [heq] at hrel
        exact snd_not hop hs hrel hK
      · exact hK.elim
    all_goals cases ht
  case convert src dst x =>
    split at ht
    · rename_i k1 k2 y h1 h2 hy
      cases ht
      have hrel := ev_rel hr hy
      simp only [aop] at hK
      split at hK
      · rename_i kx n heq
        rw [heq] at hrel
        exact snd_conv hop h1 h2 hs hrel hK
      · exact hK.elim
    · rename_i e y h1 h2 hy
      split at ht
      · rename_i he
        cases ht
        obtain ⟨l, hl, hk⟩ := hK
        exact snd_convbs hop h1 he h2 hs (ev_rel hr hy) hl hk
      · cases ht
    · cases ht
  case panic x => cases ht; exact hK.elim
  case makeInterface T x => cases ht; exact hK.elim
  case makeSlice T l c =>
    split at ht
    · rename_i e hd
      split at ht
      · rename_i i z l' c' hi hz hl hc
        split at ht
        · rename_i hcc
          cases ht
          have h1 := ev_rel hr hl
          have h2 := ev_rel hr hc
          simp only [aop] at hK
          split at hK
          · rename_i k1 n k2 m e1 e2
            obtain ⟨_, hn, rfl, _, h3, h4, h5, h6⟩ := hK
            rw [e1] at h1
            rw [e2] at h2
            exact snd_mkslice hC hop hd hi hz hcc.1 hcc.2.1 hs h1 h2 hn h3 h4 h5 h6
          · exact hK.elim
        · cases ht
      · cases ht
    · cases ht
  case slice T x lo hi mx =>
    cases mx with
    | some v => simp only [] at ht; cases ht
    | none =>
      simp only [] at ht
      split at ht
      · rename_i x' lo' hi' hd hx hlo hhi
        cases ht
        have hrel := ev_rel hr hx
        simp only [aop] at hK
        split at hK
        · rename_i l heq
          rw [heq] at hrel
          obtain ⟨p, hK, hp⟩ := lo_rel (l := 0) hlo hr hK
          obtain ⟨q, hK, hq⟩ := hi_rel hhi hr hK
          obtain ⟨h0, h1, h2, h3⟩ := hK
          exact snd_slstr hop hd hs hrel hp hq h0 h1 h2 h3
        · exact hK.elim
      · rename_i e x' lo' hi' hd hx hlo hhi
        simp only [Option.map_eq_some_iff] at ht
        obtain ⟨n, hn, rfl⟩ := ht
        have hrel := ev_rel hr hx
        simp only [aop] at hK
        split at hK
        · rename_i t sz' rows heq
          obtain ⟨rfl, hK⟩ := hK
          rw [heq] at hrel
          obtain ⟨p, hK, hp⟩ := lo_rel (l := 0) hlo hr hK
          obtain ⟨q, hK, hq⟩ := hi_rel hhi hr hK
          obtain ⟨h0, h1, h2, h3⟩ := hK
          exact snd_slsl hop hd hn hs hrel hp hq h0 h1 h2 h3
        · rename_i j bk sz' m heq
          obtain ⟨rfl, hK⟩ := hK
          rw [heq] at hrel
          obtain ⟨p, hK, hp⟩ := lo_rel (l := 0) hlo hr hK
          obtain ⟨q, hK, hq⟩ := hi_rel hhi hr hK
          obtain ⟨h0, h1, h2, h3⟩ := hK
          exact snd_slown hop hd hn hs hrel hp hq h0 h1 h2 h3
        · exact hK.elim
      · cases ht
  case fieldAddr T x f =>
    split at ht
    · rename_i fs y hd hy
      split at ht
      · rename_i fl hf
        split at ht
        · rename_i n hn
          split at ht
          · cases ht
          · rename_i hn0
            cases ht
            have hrel := ev_rel hr hy
            simp only [aop] at hK
            split at hK
            · rename_i j b sz i off heq
              rw [heq] at hrel
              generalize hex : a.eval x = ux at hrel
              cases hrel
              rename_i b
              exact snd_faddr (u := undef) hop hd hf hn hn0 hs hex (by rw [Nat.add_assoc]; exact .ptr _ _ _ _ _) hK
            · rename_i t cs heq
              rw [heq] at hrel
              generalize hex : a.eval x = ux at hrel
              cases hrel with
              | rp _ b off _ us hF hc hrr =>
                refine snd_faddr (u := undef) hop hd hf hn hn0 hs hex (.rp t b (off + fl.offset) _ (fun j => us (fl.offset + j)) hF (fun j v hj => ?_) (fun j v hj => ?_)) hK
                · rw [List.getElem?_drop] at hj
                  rw [Nat.add_assoc]
                  exact hc _ v hj
                · rw [List.getElem?_drop] at hj
                  exact hrr _ v hj
            · exact hK.elim
        · cases ht
      · cases ht
    · cases ht
  case field T x f =>
    split at ht
    · rename_i fs y hd hy
      split at ht
      · rename_i fl hf
        split at ht
        · rename_i n hg hn
          cases ht
          have hrel := ev_rel hr hy
          simp only [aop] at hK
          split at hK
          · rename_i cs heq
            rw [heq] at hrel
            exact snd_fldn hop hd hf hg hn hs hrel hK.1 hK.2
          · exact hK.elim
        · rename_i hg
          cases ht
          have hrel := ev_rel hr hy
          simp only [aop] at hK
          split at hK
          · rename_i cs heq
            rw [heq] at hrel
            exact snd_fld1 hop hd hf hg hs hrel hK.1 hK.2
          · exact hK.elim
        · cases ht
      · cases ht
    · cases ht
  case indexAddr T x i =>
    split at ht
    · rename_i e y j hd hy hj
      simp only [Option.map_eq_some_iff] at ht
      obtain ⟨n, hn, rfl⟩ := ht
      have h1 := ev_rel hr hy
      have h2 := ev_rel hr hj
      generalize hex : a.eval x = ux at h1
      generalize hei : a.eval i = ui at h2
      simp only [aop] at hK
      split at hK
      · rename_i t sz' rows ki ii e1 e2
        obtain ⟨rfl, h0, hl, hK⟩ := hK
        rw [e1] at h1
        rw [e2] at h2
        cases h2
        cases h1 with
        | slnil => simp at hl; omega
        | slemp => simp at hl; omega
        | sl _ _ _ b off cap us hF hcap hsz hc hrr =>
          have hlt : ii.toNat < rows.length := by omega
          have hrow : rows[ii.toNat]? = some (rows.getD ii.toNat []) := by rw [List.getD_eq_getElem?_getD, List.getElem?_eq_getElem hlt]; rfl
          refine snd_iaddr hop hd hn hs hex hei h0 hl (.rp t b _ _ (fun q => us ii.toNat q) hF (fun q v hq => ?_) (fun q v hq => ?_)) hK
          · rw [Nat.add_assoc]
            exact hc _ q _ v hrow hq
          · exact hrr _ q _ v hrow hq
      · rename_i k b sz' m ki ii e1 e2
        obtain ⟨rfl, h0, hl, hK⟩ := hK
        rw [e1] at h1
        rw [e2] at h2
        cases h2
        cases h1 with
        | ownnil => simp at hl; omega
        | own _ b _ _ cap c e fr hb hcs hml hn2 => exact snd_iaddr hop hd hn hs hex hei h0 hl (by rw [Nat.zero_add]; exact .ptr k b _ ii.toNat 0) hK
      · rename_i k b sz' lo hi ki ii e1 e2
        obtain ⟨rfl, h0, hl, hK⟩ := hK
        rw [e1] at h1
        rw [e2] at h2
        cases h2
        cases h1 with
        | winemp => omega
        | win _ b _ cap _ _ c e fr _ _ _ _ g0 g1 =>
          refine snd_iaddr hop hd hn hs hex hei h0 (by omega) ?_ hK
          have e3 : lo.toNat * sz' + ii.toNat * sz' = (lo + ii).toNat * sz' + 0 := by rw [Int.toNat_add g0 h0, Nat.add_mul, Nat.add_zero]
          rw [e3]
          exact .ptr k b _ _ 0
      · exact hK.elim
    · rename_i len e y j hd hy hj
      simp only [Option.map_eq_some_iff] at ht
      obtain ⟨n, hn, rfl⟩ := ht
      have h1 := ev_rel hr hy
      have h2 := ev_rel hr hj
      generalize hex : a.eval x = ux at h1
      generalize hei : a.eval i = ui at h2
      simp only [aop] at hK
      split at hK
      · rename_i k b sz' r off ki ii e1 e2
        obtain ⟨h0, hl, hK⟩ := hK
        rw [e1] at h1
        rw [e2] at h2
        cases h2
        cases h1
        exact snd_iarr hop hd hn hs hex hei h0 hl (by rw [Nat.add_assoc]; exact .ptr _ _ _ _ _) hK
      · rename_i t cs ki ii e1 e2
        obtain ⟨h0, hl, hK⟩ := hK
        rw [e1] at h1
        rw [e2] at h2
        cases h2
        cases h1 with
        | rp _ b off _ us hF hc hrr =>
          refine snd_iarr hop hd hn hs hex hei h0 hl (.rp t b _ _ (fun q => us (ii.toNat * n + q)) hF (fun q v hq => ?_) (fun q v hq => ?_)) hK
          · rw [List.getElem?_drop] at hq
            rw [Nat.add_assoc]
            exact hc _ v hq
          · rw [List.getElem?_drop] at hq
            exact hrr _ v hq
      · exact hK.elim
    · cases ht
  case index T x i =>
    split at ht
    · rename_i y j hd hy hj
      cases ht
      have h1 := ev_rel hr hy
      have h2 := ev_rel hr hj
      simp only [aop] at hK
      split at hK
      · rename_i l ki ii e1 e2
        rw [e1] at h1
        rw [e2] at h2
        exact snd_ixs hop hd hs h1 h2 hK.1 hK.2.1 hK.2.2
      · exact hK.elim
    · rename_i len e y j hd hy hj
      split at ht
      · rename_i g n hg hn
        cases ht
        have h1 := ev_rel hr hy
        have h2 := ev_rel hr hj
        simp only [aop] at hK
        split at hK
        · rename_i cs ki ii e1 e2
          rw [e1] at h1
          rw [e2] at h2
          exact snd_ixa hop hd hg hn hs h1 h2 hK.1 hK.2.1 hK.2.2.1 hK.2.2.2.1 hK.2.2.2.2
        · exact hK.elim
      · cases ht
    · cases ht
  case extract x i =>
    simp only [Option.map_eq_some_iff] at ht
    obtain ⟨y, hy, rfl⟩ := ht
    have h1 := ev_rel hr hy
    simp only [aop] at hK
    split at hK
    · rename_i vs e1
      rw [e1] at h1
      exact snd_ext hop hs h1 hK.1 hK.2
    · exact hK.elim
  case call c =>
    split at ht
    · rename_i f hf
      simp only [Option.map_eq_some_iff] at ht
      obtain ⟨m, hm, rfl⟩ := ht
      obtain ⟨h1, h2⟩ := trXs_spec hm
      simp only [aop] at hK
      refine hT C F w a h K Q o c f #[] _ hC hop ⟨_, hf, rfl⟩ hs (by simpa using h1) (fun i v u hv hu => ?_) hK
      rw [Array.append_empty] at hu
      simp only [List.getElem?_map, Option.map_eq_some_iff] at hv
      obtain ⟨y, hy, rfl⟩ := hv
      simp only [Array.getElem?_map, Option.map_eq_some_iff] at hu
      obtain ⟨x, hx, rfl⟩ := hu
      exact ev_rel hr (h2 i x y (by simpa using hx) hy)
    · rename_i t hf
      simp only [Option.map_eq_some_iff] at ht
      obtain ⟨m, hm, rfl⟩ := ht
      obtain ⟨h1, h2⟩ := trXs_spec hm
      simp only [aop] at hK
      split at hK
      · rename_i f caps heq
        have hrel := hr t
        have heq' : s.t t = .fn f caps := heq
        rw [heq'] at hrel
        generalize hu : a.tmps.getD t undef = u at hrel
        cases hrel with
        | fn _ _ us hlc hrc =>
          refine hT C F w a h K Q o c f us _ hC hop ⟨_, hf, hu⟩ hs (by simp only [Array.size_append, Array.size_map, List.length_append, List.length_map, hlc]; have h3 : c.args.toList.length = c.args.size := Array.length_toList; omega) (fun i v u hv hu => ?_) hK
          have hsz : (c.args.map a.eval).size = (m.map (Opd.ev s)).length := by simp [← h1]
          by_cases hi : i < (m.map (Opd.ev s)).length
          · rw [List.getElem?_append_left hi] at hv
            rw [Array.getElem?_append_left (by omega)] at hu
            simp only [List.getElem?_map, Option.map_eq_some_iff] at hv
            obtain ⟨y, hy, rfl⟩ := hv
            simp only [Array.getElem?_map, Option.map_eq_some_iff] at hu
            obtain ⟨x, hx, rfl⟩ := hu
            exact ev_rel hr (h2 i x y (by simpa using hx) hy)
          · rw [List.getElem?_append_right (by omega)] at hv
            rw [Array.getElem?_append_right (by omega), hsz] at hu
            exact hrc _ v u hv hu
      · exact hK.elim
    · rename_i hf
      split at ht
      · rename_i x T hx hT
        split at ht
        · rename_i hd
          simp only [Option.map_eq_some_iff] at ht
          obtain ⟨y, hy, rfl⟩ := ht
          exact snd_lens hop hf (toArr hx) (toArr hT) hd hs (ev_rel hr hy) hK
        · rename_i e hd
          simp only [Option.map_eq_some_iff] at ht
          obtain ⟨y, hy, rfl⟩ := ht
          exact snd_lenl hop hf (toArr hx) (toArr hT) hd hs (ev_rel hr hy) hK
        · cases ht
      · cases ht
    · rename_i hf
      split at ht
      · rename_i x y hm
        cases ht
        obtain ⟨x', y', hx, h1, h2⟩ := trXs_two hm
        have r1 := ev_rel hr h1
        have r2 := ev_rel hr h2
        simp only [aop] at hK
        split at hK
        · rename_i k1 m1 k2 m2 e1 e2
          obtain ⟨rfl, hK⟩ := hK
          rw [e1] at r1
          rw [e2] at r2
          exact snd_mm (mx := true) hop hf hx hs r1 r2 hK
        · exact hK.elim
      · cases ht
    · rename_i hf
      split at ht
      · rename_i x y hm
        cases ht
        obtain ⟨x', y', hx, h1, h2⟩ := trXs_two hm
        have r1 := ev_rel hr h1
        have r2 := ev_rel hr h2
        simp only [aop] at hK
        split at hK
        · rename_i k1 m1 k2 m2 e1 e2
          obtain ⟨rfl, hK⟩ := hK
          rw [e1] at r1
          rw [e2] at r2
          exact snd_mm (mx := false) hop hf hx hs r1 r2 hK
        · exact hK.elim
      · cases ht
    · rename_i hf
      split at ht
      · rename_i x y T T' hm hT
        split at ht
        · rename_i e e' hd hd'
          split at ht
          · rename_i i z hi hz
            split at ht
            · rename_i hc
              cases ht
              obtain ⟨x', y', hx, h1, h2⟩ := trXs_two hm
              obtain ⟨c1, c2, c3, rfl⟩ := hc
              exact snd_append hC hop hf hx (toArr hT) hd hi hz c1 c2 c3 hs (ev_rel hr h1) (ev_rel hr h2) hK
            · cases ht
          · cases ht
        · cases ht
      · cases ht
    · cases ht
  case makeFunc fn first caps =>
    cases fn <;> simp only [] at ht <;> try (cases ht; done)
    rename_i f
    split at ht
    · rename_i hz
      simp only [Option.map_eq_some_iff] at ht
      obtain ⟨m, hm, rfl⟩ := ht
      obtain ⟨h1, h2⟩ := trXs_spec hm
      have hfe : first = #[] := Array.eq_empty_of_size_eq_zero hz
      subst hfe
      refine wp_pure (u := .func (.func f) #[] (caps.map a.eval)) hs ?_ (.fn f _ _ (by simp [← h1]) fun i v u hv hu => ?_) hK
      · unfold execOp
        rw [hop]
        simp [Instr.makeFunc, Sem.run_bind, Sem.run_pure]
      · simp only [List.getElem?_map, Option.map_eq_some_iff] at hv
        obtain ⟨y, hy, rfl⟩ := hv
        simp only [Array.getElem?_map, Option.map_eq_some_iff] at hu
        obtain ⟨x, hx, rfl⟩ := hu
        exact ev_rel hr (h2 i x y (by simpa using hx) hy)
    · cases ht
  all_goals cases ht
end
end Go.Proofs.Ytobngncjflogcaa.AM
