/-
  The plain machine against the model: append, make, literals.
-/
import Derived.Test.YtdmpbdmgaepndaaAm8
set_option linter.unusedVariables false
set_option linter.unusedSimpArgs false
namespace Go.Proofs.Ytdmpbdmgaepndaa.AM
open Go
open Go.BigFrame
section
variable {P : Program} {C : Ctx} {F : Nat → Prop} {w w' : World} {a : Act} {s : S} {h : Hp} {K : V → Hp → Prop} {Q : Exit → Act → World → Prop} {o : Oper}

theorem info_of {e : TypeId} {i : TypeInfo} {z : List Value} (hi : P.info? e = some i) (hz : zeroT P e = some z) : ∃ zv : Value, i.zero = some zv ∧ zv.cells.toList = z := by
  simp only [zeroT, hi, Option.bind_some, Option.map_eq_some_iff] at hz
  exact hz

theorem run_append_zero {T e ty : TypeId} {i : TypeInfo} (hd : P.underlying T = some (.slice e)) (hi : P.info? e = some i) (b : Option Addr) (n cap : Nat) (q : Option Addr) (c : Nat) (hn : n ≤ cap) :
    (Builtin.append_ #[T, T] ty #[.slice b n cap, .slice q 0 c]).run P w = .ok (.slice b n cap) w := by
  have hf : (Builtin.firstCells i.size 0 (.slice q 0 c)).run P w = .ok #[] w := by
    cases q <;> simp [Builtin.firstCells, Sem.run_pure, loadCells, loadCellsFrom]
  cases b <;> simp [Builtin.append_, Sem.run_bind, Sem.run_pure, run_underlying hd, sizeOf, typeInfo, hi, Builtin.lenOf, hn, hf, storeCells]

theorem call2_run {c : Call} {x y : Operand} {T : TypeId} {u : Value} (ho : o.op = .call c) (hb : c.callee = .builtin .append) (hx : c.args = #[x, y]) (hT : c.argTypes = #[T, T])
    (hr : ∀ ty, (Builtin.append_ #[T, T] ty #[a.eval x, a.eval y]).run P w = .ok u w') : (execOp a.eval o).run P w = .ok (.value u) w' := by
  obtain ⟨callee, args, ats⟩ := c
  cases hb
  cases hx
  cases hT
  unfold execOp
  rw [ho]
  simp only [resolve, Sem.run_bind, Sem.run_pure, Result.andThen_ok, invoke, builtin_append, List.map_toArray, List.map_cons, List.map_nil, hr]

theorem bytes_nat {m n b : Nat} (h : ((m : Int) + n) * b ≤ 140737488355328) : (m + n) * b ≤ 140737488355328 := by
  have e : (((m + n) * b : Nat) : Int) = ((m : Int) + n) * b := by rw [Int.natCast_mul, Int.natCast_add]
  omega

theorem size_zc (z : Array Value) (n : Nat) : (Builtin.zeroCells z n).size = n * z.size := by simp [Builtin.zeroCells]

theorem snd_append (hC : C.Ok) {c : Call} {x y : Operand} {T e k : TypeId} {i : TypeInfo} {z : List Value} {vx vy : V} (ho : o.op = .call c) (hb : c.callee = .builtin .append) (hx : c.args = #[x, y]) (hT : c.argTypes = #[T, T])
    (hd : P.underlying T = some (.slice e)) (hi : P.info? e = some i) (hz : zeroT P e = some z) (hsz : i.size = z.length) (hpos : 0 < z.length) (hbp : 0 < i.bytes) (hs : HSat C F h w)
    (h1 : Rel F C.B w vx (a.eval x)) (h2 : Rel F C.B w vy (a.eval y)) (hK : appendV h k e i.size i.bytes vx vy K) : o.wp P a w (OpPost C F w a o.dst K) Q := by
  obtain ⟨zv, hzv, hzc⟩ := info_of hi hz
  have hzs : zv.cells.size = i.size := by rw [hsz, ← hzc]; simp
  unfold appendV at hK
  cases hrow : rowsOf h i.size vy with
  | none => rw [hrow] at hK; exact hK.elim
  | some news =>
    rw [hrow] at hK
    simp only [] at hK
    have hfl := rows_flat hs h2 hrow
    generalize hex : a.eval x = ux at h1
    generalize hey : a.eval y = uy at hfl
    -- nothing is appended
    by_cases hn0 : news = []
    · subst hn0
      have huy : ∃ q c, uy = .slice q 0 c := by
        rcases hfl with ⟨_, rfl⟩ | ⟨ad, cap, us, rfl, _⟩
        · exact ⟨none, 0, rfl⟩
        · exact ⟨some ad, cap, rfl⟩
      obtain ⟨q, cq, rfl⟩ := huy
      cases h1 with
      | nilsl =>
        obtain ⟨hk, _, hK⟩ := hK
        refine wp_step hC (k := k) (u := .slice none 0 0) (w' := w) (L := fun _ => False) hs (call2_run ho hb hx hT fun ty => ?_) (Ev.refl _ _) (fun _ _ h => h.elim) (.ownnil k i.size) (show ObSat F C.B w ⟨none, e, i.size, []⟩ from rfl) (fun b hb => by cases hb) (hK none)
        rw [hex, hey]
        exact run_append_zero hd hi none 0 0 q cq (Nat.le_refl _)
      | ownnil j sz' =>
        simp only [] at hK
        cases hj : h j with
        | none => rw [hj] at hK; exact hK.elim
        | some ob =>
          rw [hj] at hK
          obtain ⟨e1, e2, e3, e4, e5, _, hK⟩ := hK
          subst e3
          have hK := hK none
          have hrr : ob.rows = [] := List.eq_nil_of_length_eq_zero e5
          rw [hrr] at hK
          refine wp_step hC (k := j) (u := .slice none 0 0) (w' := w) (L := fun _ => False) hs (call2_run ho hb hx hT fun ty => ?_) (Ev.refl _ _) (fun _ _ h => h.elim) (.ownnil j i.size) (show ObSat F C.B w ⟨none, e, i.size, []⟩ from rfl) (fun b hb => by cases hb) hK
          rw [hex, hey]
          exact run_append_zero hd hi none 0 0 q cq (Nat.le_refl _)
      | own j b sz' n cap cc ee fr hbk hcs hm hn =>
        simp only [] at hK
        cases hj : h j with
        | none => rw [hj] at hK; exact hK.elim
        | some ob =>
          rw [hj] at hK
          obtain ⟨e1, e2, e3, e4, e5, _, hK⟩ := hK
          subst e3
          have hK := hK (some b)
          simp only [List.append_nil, List.length_nil, Nat.add_zero] at hK
          have hobj : ob = ⟨some b, e, i.size, ob.rows⟩ := by cases ob; simp at e1 e2 e4 ⊢; exact ⟨e1, e4, e2⟩
          refine wp_step hC (k := j) (u := .slice (some ⟨b, 0, none⟩) n cap) (w' := w) (L := fun _ => False) hs (call2_run ho hb hx hT fun ty => ?_) (Ev.refl _ _) (fun _ _ h => h.elim) (.own j b i.size n cap cc ee fr hbk hcs hm hn) (by rw [← hobj]; exact hs.ob j ob hj) (fun b' hb' => .inr ⟨ob, hj, by rw [e1]; exact hb'⟩) hK
          rw [hex, hey]
          exact run_append_zero hd hi _ n cap q cq hn
      | _ => exact hK.elim
    · have hm0 : 0 < news.length := List.length_pos_iff.2 hn0
      rcases hfl with ⟨h0, _⟩ | ⟨ad, cap2, us, rfl, hflat, hmem⟩
      · exact absurd h0 hn0
      -- a new row
      have fresh : ∀ (j : Nat) (old : List (List V)) (ous : List Value) (oldcap : Nat), Flat F C.B w i.size old ous → oldcap < old.length + news.length → ((old.length : Int) + news.length) * i.bytes ≤ 140737488355328 →
          (∀ ty, (Builtin.append_ #[T, T] ty #[ux, .slice (some ad) news.length cap2]).run P w = .ok (.slice (some ⟨w.heap.size, 0, none⟩) (old.length + news.length) (grownCap w (old.length + news.length) oldcap e))
            (w.drew.alloc (.cells (ous.toArray ++ us.toArray ++ Builtin.zeroCells zv.cells (grownCap w (old.length + news.length) oldcap e - (old.length + news.length))) e))) →
          K (.own j (some w.heap.size) i.size (old.length + news.length)) (h.put j ⟨some w.heap.size, e, i.size, old ++ news⟩) → o.wp P a w (OpPost C F w a o.dst K) Q := by
        intro j old ous oldcap hfo hlt hby hrun hk
        have hby' := bytes_nat hby
        have h63 : old.length + news.length ≤ maxLen := by
          have := Nat.le_trans (Nat.le_mul_of_pos_right (old.length + news.length) hbp) hby'
          simp only [maxLen]; omega
        have hge := grownCap_ge w (old.length + news.length) oldcap e
        have hcm := grownCap_le_maxLen w (old.length + news.length) oldcap e h63
        have hev : Ev (fun _ => False) w (w.drew.alloc (.cells (ous.toArray ++ us.toArray ++ Builtin.zeroCells zv.cells (grownCap w (old.length + news.length) oldcap e - (old.length + news.length))) e)) := (Ev.drew _ _).trans (Ev.alloc _ _ _)
        have hfl2 := (hfo.append hflat).keep (fun x y hr => hs.keep hC hev (fun _ _ h => h.elim) hr)
        have hcsz : (ous.toArray ++ us.toArray ++ Builtin.zeroCells zv.cells (grownCap w (old.length + news.length) oldcap e - (old.length + news.length))).size = grownCap w (old.length + news.length) oldcap e * i.size := by
          simp only [Array.size_append, List.size_toArray, size_zc, hzs, hfo.len, hflat.len, ← Nat.add_mul]
          congr 1
          omega
        have hheap := heap_alloc_new w.drew (Obj.cells (ous.toArray ++ us.toArray ++ Builtin.zeroCells zv.cells (grownCap w (old.length + news.length) oldcap e - (old.length + news.length))) e)
        refine wp_step hC (k := j) (L := fun _ => False) hs (call2_run ho hb hx hT fun ty => ?_) hev (fun _ _ h => h.elim) (.own j w.heap.size i.size (old.length + news.length) _ _ e (0, 0) hheap hcsz hcm hge) (ObSat.of_flat hheap hcsz hcm (by rw [List.length_append]; exact hge) hfl2 fun m u hu => ?_) (fun b hb' => .inl (by cases hb'; exact Nat.le_refl _)) hk
        · rw [hex, hey]
          exact hrun ty
        · have hlt : m < (ous ++ us).length := (List.getElem?_eq_some_iff.1 hu).1
          rw [Array.getElem?_append_left (by simpa using hlt)]
          simpa using hu
      have small : ∀ n : Nat, ((n : Int) + news.length) * i.bytes ≤ 140737488355328 → ((n + news.length : Nat) : Int) ≤ 9223372036854775807 ∧ (n + news.length) * i.bytes ≤ 140737488355328 := by
        intro n hby
        have hby' := bytes_nat hby
        have := Nat.le_trans (Nat.le_mul_of_pos_right (n + news.length) hbp) hby'
        exact ⟨by clear hby; omega, hby'⟩
      have fnil : ux = .slice none 0 0 → ((0 : Int) + news.length) * i.bytes ≤ 140737488355328 → ∀ j, K (.own j (some w.heap.size) i.size (0 + news.length)) (h.put j ⟨some w.heap.size, e, i.size, [] ++ news⟩) → o.wp P a w (OpPost C F w a o.dst K) Q := by
        intro hu hby j hk
        subst hu
        obtain ⟨s1, s2⟩ := small 0 (by simpa using hby)
        refine fresh j [] [] 0 ⟨by simp, by simp, by simp, by simp⟩ (by simp only [List.length_nil]; omega) hby (fun ty => ?_) hk
        have := run_append_nil (P := P) w T ty e i zv hd hi hzv ad news.length cap2 us hflat.len hmem hm0 (by omega) (by rw [Nat.zero_add] at s2; omega)
        simp only [List.length_nil, Nat.zero_add]
        simpa using this
      cases h1 with
      | nilsl =>
        obtain ⟨hk, hby, hK⟩ := hK
        exact fnil rfl (by simpa using hby) k (by simpa using hK (some w.heap.size))
      | ownnil j sz' =>
        simp only [] at hK
        cases hj : h j with
        | none => rw [hj] at hK; exact hK.elim
        | some ob =>
          rw [hj] at hK
          obtain ⟨e1, e2, e3, e4, e5, hby, hK⟩ := hK
          subst e3
          have hrr : ob.rows = [] := List.eq_nil_of_length_eq_zero e5
          have hK := hK (some w.heap.size)
          rw [hrr] at hK
          exact fnil rfl (by simpa using hby) j hK
      | own j b sz' n cap cc ee fr hbk hcs hm hn =>
        simp only [] at hK
        cases hj : h j with
        | none => rw [hj] at hK; exact hK.elim
        | some ob =>
          rw [hj] at hK
          obtain ⟨e1, e2, e3, e4, e5, hby, hK⟩ := hK
          subst e3
          obtain ⟨s1, s2⟩ := small n hby
          obtain ⟨c', cap', ous, hc', g1, g2, g3, hfo, hous⟩ := ob_flat (C := C) (hs.ob j ob hj) e1
          rw [hc'] at hbk
          cases hbk
          rw [e2] at g1 hfo hous
          have hcap : cap' = cap := Nat.eq_of_mul_eq_mul_right (by rw [hsz]; exact hpos) (g1.symm.trans hcs)
          subst hcap
          have hcells : ∀ (m : Nat) (u : Value), ous[m]? = some u → w.cell? ((⟨b, 0, none⟩ : Addr).add m) = some u := by
            intro m u hu
            rw [add_off, Nat.zero_add, cell_of_row w b m cc ob.ty (0, 0) hc']
            rw [hous, List.getElem?_take] at hu
            split at hu
            · simpa using hu
            · cases hu
          by_cases hroom : n + news.length ≤ cap'
          · have hfit : n * i.size + us.length ≤ cc.size := by rw [hflat.len, g1, ← Nat.add_mul]; exact Nat.mul_le_mul_right _ hroom
            have hr := fun ty => run_append_room (P := P) w T ty e i hd hi b n cap' cc (by rw [hc', e4]) ad news.length cap2 us hflat.len hmem hflat.one hroom hfit
            have hcsz : ((cc.toList.take (n * i.size) ++ us ++ cc.toList.drop (n * i.size + us.length)).toArray).size = cc.size := by
              simp only [List.size_toArray, List.length_append, List.length_take, List.length_drop, Array.length_toList]
              omega
            have hev : Ev (fun x => x = b) w (w.setRow b (cc.toList.take (n * i.size) ++ us ++ cc.toList.drop (n * i.size + us.length)).toArray) := Ev.setRow rfl hc' hcsz
            have hheap := setRow_heap w b cc (cc.toList.take (n * i.size) ++ us ++ cc.toList.drop (n * i.size + us.length)).toArray ob.ty (0, 0) hc'
            have hfl2 := (hfo.append hflat).keep (fun x y hr => hs.keep hC hev (fun x _ hx => ⟨j, ob, hj, by rw [e1, hx]⟩) hr)
            rw [e4] at hheap
            refine wp_step hC (k := j) (L := fun x => x = b) hs (call2_run ho hb hx hT fun ty => ?_) hev (fun x _ hx => ⟨ob, hj, by rw [e1, hx]⟩) (.own j b i.size (n + news.length) cap' _ e (0, 0) hheap (by rw [hcsz, g1]) g2 hroom)
              (ObSat.of_flat hheap (by rw [hcsz, g1]) g2 (by rw [List.length_append, e5]; exact hroom) hfl2 fun m u hu => ?_) (fun b' hb' => .inr ⟨ob, hj, by rw [e1]; exact hb'⟩) (hK (some b))
            · rw [hex, hey]
              exact hr ty
            · have hlt : m < (ous ++ us).length := (List.getElem?_eq_some_iff.1 hu).1
              have ho' : ous = cc.toList.take (n * i.size) := by rw [hous, e5]
              rw [ho'] at hu hlt
              rw [List.getElem?_toArray, List.getElem?_append_left (by simpa using hlt)]
              exact hu
          · refine fresh j ob.rows ous cap' hfo (by omega) (by rw [e5]; exact hby) (fun ty => ?_) (by rw [e5]; exact hK (some w.heap.size))
            have := run_append_grow (P := P) w T ty e i zv hd hi hzv ⟨b, 0, none⟩ n cap' ous (by rw [hfo.len, e5]) hcells ad news.length cap2 us hflat.len hmem (by omega) (by omega) (growslice_fits (by omega) s2)
            rw [e5]
            exact this
      | _ => exact hK.elim
end
end Go.Proofs.Ytdmpbdmgaepndaa.AM
