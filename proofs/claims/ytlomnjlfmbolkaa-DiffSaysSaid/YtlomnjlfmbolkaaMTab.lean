/-
  A table of own rows: an object may be given another name; a part of a big object is read and stored.
-/
import Derived.Test.YtlomnjlfmbolkaaMInts
import Derived.Test.YtlomnjlfmbolkaaMU
import Derived.Test.YtlomnjlfmbolkaaBB
set_option linter.unusedVariables false
set_option linter.unusedSimpArgs false
namespace Go.Proofs.Ytlomnjlfmbolkaa.AM
open Go
set_option maxRecDepth 100000
set_option maxHeartbeats 2000000
/-- a value, and the same under another name -/
inductive Rk (k k' : Nat) : V → V → Prop
  | same (v) : Rk k k' v v
  | own (b sz n) : Rk k k' (.own k b sz n) (.own k' b sz n)
theorem Rk.rel {k k' : Nat} {F B : Nat → Prop} {w : World} {v v' : V} {u : Value} (h : Rk k k' v v') (hr : Rel F B w v u) : Rel F B w v' u := by
  cases h with
  | same => exact hr
  | own b sz n =>
    cases hr with
    | ownnil => exact .ownnil _ _
    | own _ b _ _ cap c e fr h hs hm hn => exact .own _ b _ _ cap c e fr h hs hm hn
theorem Ent.move {s : S} {k k' q : Nat} {o O : Ob} {rows' : List (List V)} (hk : s.h k = some o) (hk' : s.h k' = none) (hq : s.h q = some O) (hqk : q ≠ k)
    (hl : rows'.length = O.rows.length) (hr : ∀ (i : Nat) (r r' : List V), O.rows[i]? = some r → rows'[i]? = some r' → r'.length = r.length ∧ ∀ (l : Nat) (v v' : V), r[l]? = some v → r'[l]? = some v' → Rk k k' v v') :
    Ent s ⟨s.t, Hp.put (Hp.put (Hp.del s.h k) k' o) q ⟨O.b, O.ty, O.sz, rows'⟩⟩ := by
  intro C n0 a w hC hs0
  obtain ⟨F, hs, h2⟩ := hs0.ex
  have hqk' : q ≠ k' := fun e => by rw [e, hk'] at hq; cases hq
  have hkk' : k ≠ k' := fun e => by rw [e, hk'] at hk; cases hk
  have look : ∀ j p, Hp.put (Hp.put (Hp.del s.h k) k' o) q ⟨O.b, O.ty, O.sz, rows'⟩ j = some p →
      (j = q ∧ p = ⟨O.b, O.ty, O.sz, rows'⟩) ∨ (j = k' ∧ p = o) ∨ (j ≠ q ∧ j ≠ k' ∧ j ≠ k ∧ s.h j = some p) := by
    intro j p hj
    simp only [Hp.put, Hp.del] at hj
    by_cases h1 : j = q
    · rw [if_pos h1] at hj; cases hj; exact .inl ⟨h1, rfl⟩
    · rw [if_neg h1] at hj
      by_cases h3 : j = k'
      · rw [if_pos h3] at hj; cases hj; exact .inr (.inl ⟨h3, rfl⟩)
      · rw [if_neg h3] at hj
        by_cases h4 : j = k
        · rw [if_pos h4] at hj; cases hj
        · rw [if_neg h4] at hj; exact .inr (.inr ⟨h1, h3, h4, hj⟩)
  -- the old name
  have old : ∀ j p, Hp.put (Hp.put (Hp.del s.h k) k' o) q ⟨O.b, O.ty, O.sz, rows'⟩ j = some p → ∃ p0, s.h (if j = k' then k else j) = some p0 ∧ p0.b = p.b := by
    intro j p hj
    rcases look j p hj with ⟨rfl, rfl⟩ | ⟨rfl, rfl⟩ | ⟨_, h3, _, h4⟩
    · rw [if_neg hqk']; exact ⟨O, hq, rfl⟩
    · rw [if_pos rfl]; exact ⟨_, hk, rfl⟩
    · rw [if_neg h3]; exact ⟨p, h4, rfl⟩
  refine ⟨⟨F, ⟨fun j p hj => ?_, fun j j' p p' b1 hj hj' hb1 hb2 => ?_, fun j p b1 hj hb1 => ?_, hs.old, hs.new, hs.lt, hs.ev⟩, h2⟩, hs0.df, hs0.sz⟩
  · rcases look j p hj with ⟨rfl, rfl⟩ | ⟨rfl, rfl⟩ | ⟨_, _, _, h4⟩
    · have hO := hs.ob j O hq
      unfold ObSat at hO ⊢
      simp only
      cases hb : O.b with
      | none =>
        rw [hb] at hO
        simp only at hO ⊢
        rw [hO] at hl
        exact List.eq_nil_of_length_eq_zero hl
      | some b1 =>
        rw [hb] at hO
        obtain ⟨c, cap, g1, g2, g3, g4, g5, g6⟩ := hO
        refine ⟨c, cap, g1, g2, g3, by omega, fun r' hr' => ?_, fun i l r' v' hi hl' => ?_⟩
        · obtain ⟨i, hi⟩ := List.mem_iff_getElem?.1 hr'
          have hil := (List.getElem?_eq_some_iff.1 hi).1
          have hir : O.rows[i]? = some (O.rows[i]'(by omega)) := List.getElem?_eq_getElem (by omega)
          rw [(hr i _ r' hir hi).1]
          exact g5 _ (List.mem_of_getElem? hir)
        · have hil := (List.getElem?_eq_some_iff.1 hi).1
          have hir : O.rows[i]? = some (O.rows[i]'(by omega)) := List.getElem?_eq_getElem (by omega)
          obtain ⟨f1, f2⟩ := hr i _ r' hir hi
          have hll := (List.getElem?_eq_some_iff.1 hl').1
          have hlr : (O.rows[i]'(by omega))[l]? = some ((O.rows[i]'(by omega))[l]'(by omega)) := List.getElem?_eq_getElem (by omega)
          obtain ⟨u, k1, k2, k3⟩ := g6 i l _ _ hir hlr
          exact ⟨u, k1, k2, (f2 l _ v' hlr hl').rel k3⟩
    · exact hs.ob k _ hk
    · exact hs.ob j p h4
  · obtain ⟨p0, e1, e2⟩ := old j p hj
    obtain ⟨p0', e1', e2'⟩ := old j' p' hj'
    have := hs.inj _ _ p0 p0' b1 e1 e1' (by rw [e2]; exact hb1) (by rw [e2']; exact hb2)
    -- the names stand for different objects
    rcases look j p hj with ⟨rfl, rfl⟩ | ⟨rfl, rfl⟩ | ⟨h5, h6, h7, h4⟩ <;> rcases look j' p' hj' with ⟨rfl, rfl⟩ | ⟨rfl, rfl⟩ | ⟨h5', h6', h7', h4'⟩
    · rfl
    · rw [if_neg hqk', if_pos rfl] at this; exact absurd this hqk
    · rw [if_neg hqk', if_neg h6'] at this; exact absurd this.symm h5'
    · rw [if_pos rfl, if_neg hqk'] at this; exact absurd this.symm hqk
    · rfl
    · rw [if_pos rfl, if_neg h6'] at this; exact absurd this.symm h7'
    · rw [if_neg h6, if_neg hqk'] at this; exact absurd this h5
    · rw [if_neg h6, if_pos rfl] at this; exact absurd this h7
    · rw [if_neg h6, if_neg h6'] at this; exact this
  · obtain ⟨p0, e1, e2⟩ := old j p hj
    exact hs.live _ p0 b1 e1 (by rw [e2]; exact hb1)
/-- a row of a big object -/
theorem rowP_big {P : Prim} {h : Hp} {k : Nat} {b : Option Nat} {sz i : Nat} {K : Ob → List V → Prop} {o : Ob} {r : List V} (hk : h k = some o) (hbig : 1000000 ≤ k) (hb : o.b = b) (hsz : o.sz = sz) (hr : P.row o.rows i r) (hK : K o r) : rowP P h k b sz i K := by
  unfold rowP
  rw [hk]
  refine ⟨hb, hsz, ?_⟩
  rw [decide_eq_false (by omega)]
  exact ⟨r, hr, hK⟩
/-! a table -/
def tbKey (i : Nat) : Nat := 2000000 + i
def tbRows (N m w : Nat) (bs : Nat → Option Nat) : List (List V) := (List.range N).map fun i => if i < m then [.own (tbKey i) (bs i) 1 w] else [.nilsl]
def tbH (bb : Option Nat) (N m w : Nat) (bs : Nat → Option Nat) (tab : Nat → List Int) : List (Nat × Ob) :=
  (1000024, ⟨bb, 49, 1, tbRows N m w bs⟩) :: (List.range m).map fun i => (tbKey i, ⟨bs i, 3, 1, iRows (tab i)⟩)
theorem lookH_map {f : Nat → Ob} : ∀ (m j : Nat), j < m → lookH ((List.range m).map fun i => (tbKey i, f i)) (tbKey j) = some (f j) := by
  intro m j h
  have key : ∀ (l : List Nat), j ∈ l → lookH (l.map fun i => (tbKey i, f i)) (tbKey j) = some (f j) := by
    intro l
    induction l with
    | nil => intro h; cases h
    | cons a l ih =>
      intro hj
      simp only [List.map_cons, lookH]
      by_cases hja : j = a
      · subst hja; rw [if_pos rfl]
      · rw [if_neg (by unfold tbKey; omega)]
        exact ih ((List.mem_cons.1 hj).resolve_left hja)
  exact key _ (List.mem_range.2 h)
theorem lookH_none {f : Nat → Ob} : ∀ (m k : Nat), (∀ j, j < m → k ≠ tbKey j) → lookH ((List.range m).map fun i => (tbKey i, f i)) k = none := by
  intro m k h
  have key : ∀ (l : List Nat), (∀ j ∈ l, k ≠ tbKey j) → lookH (l.map fun i => (tbKey i, f i)) k = none := by
    intro l
    induction l with
    | nil => intro _; rfl
    | cons a l ih =>
      intro hj
      simp only [List.map_cons, lookH]
      rw [if_neg (hj a (by simp))]
      exact ih fun j hm => hj j (by simp [hm])
  exact key _ fun j hj => h j (List.mem_range.1 hj)
theorem tbH_top (bb : Option Nat) (N m w : Nat) (bs : Nat → Option Nat) (tab : Nat → List Int) : lookH (tbH bb N m w bs tab) 1000024 = some ⟨bb, 49, 1, tbRows N m w bs⟩ := by
  simp only [tbH, lookH]; rw [if_pos trivial]
theorem tbH_row {bb : Option Nat} {N m w : Nat} {bs : Nat → Option Nat} {tab : Nat → List Int} {j : Nat} (h : j < m) : lookH (tbH bb N m w bs tab) (tbKey j) = some ⟨bs j, 3, 1, iRows (tab j)⟩ := by
  simp only [tbH, lookH]
  rw [if_neg (by unfold tbKey; omega)]
  exact lookH_map (f := fun i => ⟨bs i, 3, 1, iRows (tab i)⟩) m j h
theorem tbH_none {bb : Option Nat} {N m w : Nat} {bs : Nat → Option Nat} {tab : Nat → List Int} {k : Nat} (h1 : k ≠ 1000024) (h : ∀ j, j < m → k ≠ tbKey j) : lookH (tbH bb N m w bs tab) k = none := by
  simp only [tbH, lookH]
  rw [if_neg h1]
  exact lookH_none m k h
theorem agreeH_of {L : List (Nat × Ob)} {s : S} (h : ∀ p ∈ L, s.h p.1 = some p.2) : agreeH L s := by
  induction L with
  | nil => trivial
  | cons p L ih => exact ⟨h p (by simp), ih fun q hq => h q (by simp [hq])⟩
theorem agree_tb {bb : Option Nat} {N m w : Nat} {bs : Nat → Option Nat} {tab : Nat → List Int} {s : S} (h0 : s.h 1000024 = some ⟨bb, 49, 1, tbRows N m w bs⟩) (h : ∀ j, j < m → s.h (tbKey j) = some ⟨bs j, 3, 1, iRows (tab j)⟩) : agreeH (tbH bb N m w bs tab) s := by
  refine agreeH_of fun p hp => ?_
  rcases List.mem_cons.1 hp with rfl | hp
  · exact h0
  · obtain ⟨j, hj, rfl⟩ := List.mem_map.1 hp
    exact h j (List.mem_range.1 hj)
theorem tbRows_len (N m w : Nat) (bs : Nat → Option Nat) : (tbRows N m w bs).length = N := by simp [tbRows]
theorem tbRows_get {N m w : Nat} {bs : Nat → Option Nat} {i : Nat} (h : i < N) : (tbRows N m w bs)[i]? = some (if i < m then [.own (tbKey i) (bs i) 1 w] else [.nilsl]) := by
  unfold tbRows
  rw [List.getElem?_map, List.getElem?_range h]; rfl
theorem setR_big {P : Prim} {k : Nat} {rows : List (List V)} {i : Nat} {r : List V} (h : 1000000 ≤ k) : setR P k rows i r = P.rset rows i r := by
  unfold setR; rw [decide_eq_false (by omega)]
theorem tbRows_set {N m w : Nat} {bs : Nat → Option Nat} (hm : m < N) (b : Option Nat) : (tbRows N m w bs).set m [.own (tbKey m) b 1 w] = tbRows N (m + 1) w (fun i => if i = m then b else bs i) := by
  refine List.ext_getElem? fun i => ?_
  by_cases hi : i < N
  · rw [tbRows_get hi]
    by_cases him : i = m
    · subst him
      rw [List.getElem?_set_self (by rw [tbRows_len]; exact hi), if_pos (by omega), if_pos rfl]
    · rw [List.getElem?_set_ne (fun e => him e.symm), tbRows_get hi]
      by_cases h : i < m
      · rw [if_pos h, if_pos (by omega)]; simp [him]
      · rw [if_neg h, if_neg (by omega)]
  · rw [List.getElem?_eq_none (by rw [List.length_set, tbRows_len]; omega), List.getElem?_eq_none (by rw [tbRows_len]; omega)]
/-- a new row of the table gets its name -/
theorem tb_step {s : S} {heap : Hp} {bb : Option Nat} {N m w : Nat} {bs : Nat → Option Nat} {tab : Nat → List Int} (hheap : lookH (tbH bb N m w bs tab) = heap) (hm : m < N) {bi : Option Nat} {inner rows2 : List (List V)}
    (hs : s.h = Hp.put (Hp.put heap 1000035 ⟨bi, 3, 1, inner⟩) 1000024 ⟨bb, 49, 1, rows2⟩) (hin : inner = iRows (tab m)) (hrows : rows2 = (tbRows N m w bs).set m [.own 1000035 bi 1 w]) :
    ∃ s1, Ent s s1 ∧ s1.t = s.t ∧ agreeH (tbH bb N (m + 1) w (fun i => if i = m then bi else bs i) tab) s1 := by
  have hne : ∀ j, tbKey j ≠ 1000024 ∧ tbKey j ≠ 1000035 := fun j => by unfold tbKey; omega
  have h0 : heap (tbKey m) = none := by rw [← hheap]; exact tbH_none (hne m).1 (fun j hj => by unfold tbKey; omega)
  have he := Ent.move (s := s) (k := 1000035) (k' := tbKey m) (q := 1000024) (o := ⟨bi, 3, 1, inner⟩) (O := ⟨bb, 49, 1, rows2⟩) (rows' := tbRows N (m + 1) w (fun i => if i = m then bi else bs i))
    (by rw [hs]; rfl) (by rw [hs]; show (if tbKey m = 1000024 then _ else if tbKey m = 1000035 then _ else heap (tbKey m)) = none; rw [if_neg (hne m).1, if_neg (hne m).2, h0]) (by rw [hs]; rfl) (by decide)
    (by rw [hrows, tbRows_len, List.length_set, tbRows_len]) (fun i r r' h1 h2 => by
      rw [← tbRows_set hm bi] at h2
      have hi : i < N := by have := (List.getElem?_eq_some_iff.1 h2).1; rwa [List.length_set, tbRows_len] at this
      simp only at h1
      rw [hrows] at h1
      by_cases him : i = m
      · subst him
        rw [List.getElem?_set_self (by rw [tbRows_len]; exact hi)] at h1 h2
        simp only [Option.some.injEq] at h1 h2
        subst h1 h2
        refine ⟨rfl, fun l v v' g1 g2 => ?_⟩
        cases l with
        | zero =>
          simp only [List.getElem?_cons_zero, Option.some.injEq] at g1 g2
          subst g1 g2
          exact .own _ _ _
        | succ l => simp at g1
      · rw [List.getElem?_set_ne (fun e => him e.symm)] at h1 h2
        rw [h1] at h2; cases h2
        exact ⟨rfl, fun l v v' g1 g2 => by rw [g1] at g2; cases g2; exact .same _⟩)
  refine ⟨_, he, rfl, agree_tb rfl fun j hj => ?_⟩
  show (if tbKey j = 1000024 then _ else if tbKey j = tbKey m then _ else if tbKey j = 1000035 then _ else s.h (tbKey j)) = _
  rw [if_neg (hne j).1]
  by_cases hjm : j = m
  · subst hjm
    rw [if_pos rfl, hin]; simp
  · rw [if_neg (by unfold tbKey; omega), if_neg (hne j).2, hs]
    show (if tbKey j = 1000024 then _ else if tbKey j = 1000035 then _ else heap (tbKey j)) = _
    rw [if_neg (hne j).1, if_neg (hne j).2, ← hheap, tbH_row (by omega)]
    simp [hjm]
/-- a cell of the table is set -/
theorem tb_put {s : S} {heap : Hp} {bb : Option Nat} {N w : Nat} {bs : Nat → Option Nat} {tab tab' : Nat → List Int} (hheap : lookH (tbH bb N N w bs tab) = heap) {i : Nat} (hi : i < N) {b : Option Nat} {rows : List (List V)}
    (hs : s.h = Hp.put heap (tbKey i) ⟨b, 3, 1, rows⟩) (hb : b = bs i) (hrows : rows = iRows (tab' i)) (ht : ∀ j, j < N → j ≠ i → tab' j = tab j) : agreeH (tbH bb N N w bs tab') s := by
  refine agree_tb ?_ fun j hj => ?_
  · rw [hs]
    show (if 1000024 = tbKey i then _ else heap 1000024) = _
    rw [if_neg (by unfold tbKey; omega), ← hheap, tbH_top]
  · rw [hs]
    show (if tbKey j = tbKey i then _ else heap (tbKey j)) = _
    by_cases hji : j = i
    · subst hji; rw [if_pos rfl, hb, hrows]
    · rw [if_neg (by unfold tbKey; omega), ← hheap, tbH_row hj, ht j hj hji]
/-! the table is frozen -/
def tbFr (N m w : Nat) (bs : Nat → Option Nat) (tab : Nat → List Int) : List (List V) := (List.range N).map fun i => if i < m then [.sl false 1 (iRows (tab i))] else [.own (tbKey i) (bs i) 1 w]
theorem tbFr_len (N m w : Nat) (bs : Nat → Option Nat) (tab : Nat → List Int) : (tbFr N m w bs tab).length = N := by simp [tbFr]
theorem tbFr_get {N m w : Nat} {bs : Nat → Option Nat} {tab : Nat → List Int} {i : Nat} (h : i < N) : (tbFr N m w bs tab)[i]? = some (if i < m then [.sl false 1 (iRows (tab i))] else [.own (tbKey i) (bs i) 1 w]) := by
  unfold tbFr
  rw [List.getElem?_map, List.getElem?_range h]; rfl
theorem tbFr_zero (N w : Nat) (bs : Nat → Option Nat) (tab : Nat → List Int) : tbFr N 0 w bs tab = tbRows N N w bs := by
  refine List.ext_getElem? fun i => ?_
  by_cases hi : i < N
  · rw [tbFr_get hi, tbRows_get hi, if_neg (by omega), if_pos hi]
  · rw [List.getElem?_eq_none (by rw [tbFr_len]; omega), List.getElem?_eq_none (by rw [tbRows_len]; omega)]
theorem tb_frz (bb : Option Nat) (N w : Nat) (bs : Nat → Option Nat) (tab : Nat → List Int) (hw : ∀ j, j < N → (tab j).length = w) {s : S} (h0 : s.h 1000024 = some ⟨bb, 49, 1, tbRows N N w bs⟩) (hr : ∀ j, j < N → s.h (tbKey j) = some ⟨bs j, 3, 1, iRows (tab j)⟩) :
    ∀ m, m ≤ N → ∃ s1, Ent s s1 ∧ s1.t = s.t ∧ s1.h 1000024 = some ⟨bb, 49, 1, tbFr N m w bs tab⟩ ∧ (∀ j, m ≤ j → j < N → s1.h (tbKey j) = some ⟨bs j, 3, 1, iRows (tab j)⟩) ∧ ∀ k, k ≠ 1000024 → k < 2000000 → s1.h k = s.h k
  | 0, _ => ⟨s, Ent.refl _, rfl, by rw [tbFr_zero]; exact h0, fun j _ hj => hr j hj, fun _ _ _ => rfl⟩
  | m + 1, hm => by
    obtain ⟨s1, e1, e2, e3, e4, e5⟩ := tb_frz bb N w bs tab hw h0 hr m (by omega)
    have hne : ∀ j, tbKey j ≠ 1000024 := fun j => by unfold tbKey; omega
    have hk := e4 m (Nat.le_refl m) (by omega)
    refine ⟨⟨s1.t, Hp.del (Hp.put s1.h 1000024 ⟨bb, 49, 1, tbFr N (m + 1) w bs tab⟩) (tbKey m)⟩, e1.trans ?_, e2, ?_, fun j h1 h2 => ?_, fun k h1 h2 => ?_⟩
    · refine Ent.freeze (k := tbKey m) (sz := 1) (n := w) (b := bs m) hk rfl rfl (by simp only [iRows, List.length_map]; exact hw m (by omega)) (iRows_fz _) (fun i => .inl rfl) (fun j q' hj => ?_)
      simp only [Hp.del] at hj
      by_cases hjm : j = tbKey m
      · rw [if_pos hjm] at hj; cases hj
      · rw [if_neg hjm] at hj
        refine ⟨hjm, ?_⟩
        simp only [Hp.put] at hj
        by_cases hj0 : j = 1000024
        · rw [if_pos hj0] at hj
          cases hj
          refine ⟨⟨bb, 49, 1, tbFr N m w bs tab⟩, by rw [hj0]; exact e3, rfl, rfl, rfl, by simp only []; rw [tbFr_len, tbFr_len], fun i r r' g1 g2 => ?_⟩
          have hi : i < N := by have := (List.getElem?_eq_some_iff.1 g1).1; rwa [tbFr_len] at this
          simp only at g1 g2
          rw [tbFr_get hi] at g1 g2
          simp only [Option.some.injEq] at g1 g2
          subst g1 g2
          by_cases him : i = m
          · subst him
            rw [if_pos (Nat.lt_succ_self i), if_neg (Nat.lt_irrefl i)]
            refine ⟨rfl, fun l v v' g1 g2 => ?_⟩
            cases l with
            | zero =>
              simp only [List.getElem?_cons_zero, Option.some.injEq] at g1 g2
              subst g1 g2
              exact .inr ⟨rfl, rfl⟩
            | succ l => simp at g1
          · by_cases h : i < m
            · rw [if_pos h, if_pos (by omega)]
              exact ⟨rfl, fun l v v' g1 g2 => by rw [g1] at g2; cases g2; exact .inl rfl⟩
            · rw [if_neg h, if_neg (by omega)]
              exact ⟨rfl, fun l v v' g1 g2 => by rw [g1] at g2; cases g2; exact .inl rfl⟩
        · rw [if_neg hj0] at hj
          exact ⟨q', hj, rfl, rfl, rfl, rfl, fun i r r' h1 h2 => by rw [h1] at h2; cases h2; exact ⟨rfl, fun l v v' h3 h4 => by rw [h3] at h4; cases h4; exact .inl rfl⟩⟩
    · show (if 1000024 = tbKey m then none else if 1000024 = 1000024 then _ else _) = _
      rw [if_neg (fun e => hne m e.symm), if_pos rfl]
    · show (if tbKey j = tbKey m then none else if tbKey j = 1000024 then _ else s1.h (tbKey j)) = _
      rw [if_neg (by unfold tbKey; omega), if_neg (hne j)]
      exact e4 j (by omega) h2
    · show (if k = tbKey m then none else if k = 1000024 then _ else s1.h k) = _
      rw [if_neg (by unfold tbKey; omega), if_neg h1]
      exact e5 k h1 h2
def tbV (N : Nat) (tab : Nat → List Int) : List (List V) := (List.range N).map fun i => [.sl false 1 (iRows (tab i))]
theorem tbFr_all (N w : Nat) (bs : Nat → Option Nat) (tab : Nat → List Int) : tbFr N N w bs tab = tbV N tab := by
  unfold tbFr tbV
  refine List.map_congr_left fun i hi => ?_
  rw [if_pos (List.mem_range.1 hi)]
theorem tbV_fz (N : Nat) (tab : Nat → List Int) : ∀ r ∈ tbV N tab, ∀ v ∈ r, Fz v := by
  intro r hr v hv
  obtain ⟨i, _, rfl⟩ := List.mem_map.1 hr
  simp at hv
  subst hv
  exact .sl _ _ (iRows_fz _)
/-- the whole table becomes a value -/
theorem tb_freeze {bb : Option Nat} {N w i0 : Nat} {bs : Nat → Option Nat} {tab : Nat → List Int} (hw : ∀ j, j < N → (tab j).length = w) {s : S} (hi : s.t i0 = .own 1000024 bb 1 N) (h0 : s.h 1000024 = some ⟨bb, 49, 1, tbRows N N w bs⟩)
    (hr : ∀ j, j < N → s.h (tbKey j) = some ⟨bs j, 3, 1, iRows (tab j)⟩) : ∃ s1, Ent s s1 ∧ s1.t = upd s.t i0 (.sl false 1 (tbV N tab)) ∧ ∀ k, k ≠ 1000024 → k < 2000000 → s1.h k = s.h k := by
  obtain ⟨s1, e1, e2, e3, _, e5⟩ := tb_frz bb N w bs tab hw h0 hr N (Nat.le_refl N)
  have h2 := Ent.frzS (s := s1) (i := i0) (k := 1000024) (sz := 1) (n := N) (b := bb) (by rw [e2]; exact hi) e3 rfl rfl (tbFr_len _ _ _ _ _) (by simp only []; rw [tbFr_all]; exact tbV_fz _ _)
  refine ⟨_, e1.trans h2, ?_, fun k h1 h2 => ?_⟩
  · simp only [S.frzS]; rw [e2, tbFr_all]
  · show (if k = 1000024 then none else s1.h k) = _
    rw [if_neg h1]; exact e5 k h1 h2
end Go.Proofs.Ytlomnjlfmbolkaa.AM
