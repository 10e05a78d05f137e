/-
  Texts of the plain machine, put together: what the law ShopOpens reaches.
-/
import Derived.Test.YtobngncjflogcaaShopOpens11
import Derived.Test.YtobngncjflogcaaShopOpens7
import Derived.Test.YtobngncjflogcaaShopOpens5
import Derived.Test.YtobngncjflogcaaShopOpens10
import Derived.Test.YtobngncjflogcaaShopOpens6
set_option linter.unusedVariables false
set_option linter.unusedSimpArgs false
namespace Go.Proofs.Ytobngncjflogcaa.AM
open Go Go.RowKit
set_option maxRecDepth 100000
set_option maxHeartbeats 2000000
theorem scan_body : ∀ (n : Nat) (s : List UInt8), s.length ≤ n → ∀ f ∈ (scanF s).1, f.body.length ≤ 4000
  | 0, s, h, f, hf => by
    rw [scan_step] at hf
    have : (getFr s).2.2 ≠ 0 := by
      intro hg
      have := getFr_ok hg
      omega
    rw [if_pos this] at hf
    cases hf
  | n + 1, s, h, f, hf => by
    rw [scan_step] at hf
    by_cases he : (getFr s).2.2 ≠ 0
    · rw [if_pos he] at hf; cases hf
    · have hg := getFr_ok (Decidable.of_not_not he)
      rw [if_neg he] at hf
      have hd : (s.drop (getFr s).2.1.toNat).length = s.length - (getFr s).2.1.toNat := List.length_drop ..
      rcases List.mem_cons.1 hf with rfl | hf
      · exact hg.2.2.2.2.2
      · exact scan_body n _ (by omega) f hf
theorem small_max {n : Nat} (h : n ≤ 4000) : n ≤ maxLen := by
  have : maxLen = 9223372036854775807 := by decide
  omega
theorem range18 : List.range 18 = 0 :: 1 :: (List.range 16).map (fun j => j + 2) := by decide
theorem map18 (g : Nat → Int) : (List.range 18).map g = g 0 :: g 1 :: (List.range 16).map (fun j => g (j + 2)) := by
  rw [range18, List.map_cons, List.map_cons, List.map_map]; rfl
theorem some18 {x : List UInt8} (h : (tkS x 18).2 = true) : iRows (someR x 18) = iRows (tkN x 0 :: tkN x 1 :: (List.range 16).map (fun j => tkN x (j + 2))) ∧ someS x 18 = (tkS x 18).1 := by
  have e1 : someR x 18 = (List.range 18).map (tkN x) := if_pos h
  have e2 : someS x 18 = (tkS x 18).1 := if_pos h
  rw [e1, e2, map18]
  exact ⟨Eq.refl _, Eq.refl _⟩
theorem some2 {x : List UInt8} (h : (tkS x 2).2 = true) : iRows (someR x 2) = iRows [(revB x).who, (revB x).seq] ∧ someS x 2 = (tkS x 2).1 := by
  unfold someR someS
  rw [if_pos h, if_pos h]
  exact ⟨rfl, rfl⟩
theorem headOk_gen (st : List UInt8 × Bool) : (st.2 && decide (st.1.length ≤ 500)) = (st.2 && decide ((if st.2 = true then st.1 else []).length ≤ 500)) := by
  obtain ⟨a, b⟩ := st
  cases b <;> rfl
theorem headOk_eq (x : List UInt8) : headOk x = ((tkS x 18).2 && decide ((someS x 18).length ≤ 500)) := headOk_gen (tkS x 18)
theorem revOk_iff (x : List UInt8) : revOk x = true ↔ ((tkS x 2).2 = true ∧ (readF (tkS x 2).1).2 = 0 ∧ oneF (revB x) = 0) := by
  unfold revOk
  rw [Bool.and_eq_true, Bool.and_eq_true, decide_eq_true_eq, decide_eq_true_eq]
theorem sp_rlog (s : List UInt8) (hs : s.length ≤ 1048576) : Spec Try.prog 38 [.str s] Hp.emp (Is (.tup [logE (readL (scanF s).1).1, .int .i64 (readL (scanF s).1).2])) :=
  spec_frz dOk ok_rlog fun R hR => vc_rlog std rfl _ _ s (scanF s).1 (scan_body _ s (Nat.le_refl _)) (by have := scan_len _ s (Nat.le_refl _); omega) _ rfl (scanF s).2 (ansSame (sp_rfr (s.length + 1) s (Nat.lt_succ_self _) hs) rfl rfl)
    (fun x => tkN x 0) (fun x => tkN x 1) (fun x => (tkS x 18).1) (fun x j => tkN x (j + 2)) headOk
    (fun x => iRows (someR x 18)) (fun x => (tkS x 18).2) (fun x => someS x 18) (fun x hx => ansSame (sp_some x (small_max hx) 18 (by decide)) rfl rfl) (fun x h => some18 h) headOk_eq (fun x => tkN_bd x 1)
    (fun x => iRows (someR x 2)) (fun x => (tkS x 2).2) (fun x => someS x 2) (fun x hx => ansSame (sp_some x (small_max hx) 2 (by decide)) rfl rfl)
    (fun x => (revB x).who) (fun x => (revB x).seq) (fun x => (revB x).delta.map encPart) revOk (fun x => (readF (tkS x 2).1).2) (fun x h => (some2 h).1)
    (fun x hx h => by
      have hl := tkS_len x 2
      rw [(some2 h).2]
      exact ansSame (sp_rdec (tkS x 2).1 (Nat.le_trans hl (small_max hx))) rfl rfl)
    (fun x => ⟨rfl, rfl, rfl, rfl⟩) revOk_iff
    nextF (nxC_of fun gn b tx fs tb l wh gd size r hb hp => sp_rnextT gn b tx fs tb l wh gd size r hb hp) (fun _ _ _ _ _ => rfl) (fun x now => (doF (revB x).delta now).1) (fun x now => (doF (revB x).delta now).2)
    (fun x now => ansLs (sp_rdo (revB x).delta (readF_ok _).1 now) rfl rfl) (fun _ _ => rfl) (readL (scanF s).1).1 (readL (scanF s).1).2 rfl R (retLog_of hR)
end Go.Proofs.Ytobngncjflogcaa.AM

set_option linter.unusedVariables false
set_option linter.unusedSimpArgs false
namespace Go.Proofs.Ytobngncjflogcaa.AM
open Go Go.RowKit
set_option maxRecDepth 100000
set_option maxHeartbeats 2000000
def ReadPost (kk : Nat) (l : LogD) (e : Int) (x : V) (L' : List (Nat × Ob)) : Prop := (e = 0 ∧ ∃ ba, x = .tup [.agg (rowL l.gen l.base l.text l.first l.table (.own kk ba 3 l.revs.length) l.whole l.good), .int .i64 e] ∧ L' = [(kk, obV ba (l.revs.map encRev))]) ∨ (e ≠ 0 ∧ x = .tup [.agg (rowL l.gen l.base l.text l.first l.table .nilsl l.whole l.good), .int .i64 e] ∧ L' = []) ∨ (e ≠ 0 ∧ ∃ ba, x = .tup [.agg (rowL l.gen l.base l.text l.first l.table (.own kk ba 3 l.revs.length) l.whole l.good), .int .i64 e] ∧ L' = [])
theorem rowL_fz1 {gn b : Int} {tx : List UInt8} {fs tb : Nat → Int} {v : V} {wh : Bool} {gd e : Int} (hv : V.fz2 v = true) : Fz (.tup [.agg (rowL gn b tx fs tb v wh gd), .int .i64 e]) := by
  refine .tup _ (fun x hx => ?_)
  simp only [List.mem_cons, List.not_mem_nil, or_false] at hx
  rcases hx with rfl | rfl
  · refine .agg _ (fz_all2 ?_)
    have e : ∀ l1 l2 : List V, l1.all V.fz2 = true → l2.all V.fz2 = true → (l1 ++ v :: l2).all V.fz2 = true := fun l1 l2 a b => by rw [List.all_append, List.all_cons, a, hv, b]; rfl
    exact e ((rowL gn b tx fs tb v wh gd).take 35) [.bool wh, .int .i64 gd] rfl rfl
  · exact .int _ _
theorem retLog_own {rv : List RV} {kk : Nat} {l : LogD} {e : Int} {R : S → Prop} (hR : ∀ (s s' : S) (v : V) (L' : List (Nat × Ob)), Ent s s' → resV s' rv (fun x => oneV x = v) → agreeH L' s' → Fz v → (∀ p ∈ L', p.2.Fz) → ReadPost kk l e v L' → R s) : RetLog rv kk l e R := by
  intro s s' gn b gd tx fs tb wh v rows x he hret hv h
  obtain ⟨rfl, rfl, rfl, rfl, h5, h6, rfl, rfl, rfl⟩ := h
  have hret2 : resV s' rv (fun y => oneV y = .tup [.agg (rowL l.gen l.base l.text l.first l.table v l.whole l.good), .int .i64 x]) := resV_mono _ _ _ (fun y hy => by
    subst hy
    rw [h5 0 (by decide), h5 1 (by decide), h5 2 (by decide), h5 3 (by decide), h5 4 (by decide), h5 5 (by decide), h5 6 (by decide), h5 7 (by decide), h5 8 (by decide), h5 9 (by decide), h5 10 (by decide), h5 11 (by decide), h5 12 (by decide), h5 13 (by decide), h5 14 (by decide), h5 15 (by decide), h6 0 (by decide), h6 1 (by decide), h6 2 (by decide), h6 3 (by decide), h6 4 (by decide), h6 5 (by decide), h6 6 (by decide), h6 7 (by decide), h6 8 (by decide), h6 9 (by decide), h6 10 (by decide), h6 11 (by decide), h6 12 (by decide), h6 13 (by decide), h6 14 (by decide), h6 15 (by decide)]
    rfl) hret
  rcases hv with ⟨rfl, h0, hx⟩ | ⟨β, n, rfl, h1, h2⟩
  · exact hR s s' _ [] he hret2 trivial (rowL_fz1 rfl) (fun p hp => by cases hp) (.inr (.inl ⟨hx, rfl, rfl⟩))
  · have hn : n = l.revs.length := by rw [h2]; simp
    subst hn
    by_cases hx : x = 0
    · exact hR s s' _ [(kk, obV β (l.revs.map encRev))] he hret2 ⟨h1, trivial⟩ (rowL_fz1 rfl) (fun p hp => by rw [List.mem_singleton.1 hp]; exact encRevs_fz _) (.inl ⟨hx, β, rfl, rfl⟩)
    · exact hR s s' _ [] he hret2 trivial (rowL_fz1 rfl) (fun p hp => by cases hp) (.inr (.inr ⟨hx, β, rfl, rfl⟩))
theorem sp_hreadO (s : List UInt8) (hs : s.length ≤ 1048576) : Spec Try.prog 34 [.str s] (lookH []) fun x h' => ∃ L', ReadPost 1000999 (readL (scanF s).1).1 (readL (scanF s).1).2 x L' ∧ h' = lookH L' :=
  spec_meth dOk ok_hread (L := []) _ fun R hR => vc_hread std rfl _ _ s (scanF s).1 (scan_body _ s (Nat.le_refl _)) (by have := scan_len _ s (Nat.le_refl _); omega) _ rfl (scanF s).2 (ansSame (sp_scan s hs) rfl rfl)
    (fun x => tkN x 0) (fun x => tkN x 1) (fun x => (tkS x 18).1) (fun x j => tkN x (j + 2)) headOk (fun x hx => ansSame (sp_head x (small_max hx)) rfl rfl) (fun x => tkN_bd x 1)
    (fun x => (revB x).who) (fun x => (revB x).seq) (fun x => (revB x).delta.map encPart) revOk (fun x hx => ansSame (sp_hrv x (small_max hx)) rfl rfl) (fun x => ⟨rfl, rfl, rfl, rfl⟩)
    nextF (nxC_of fun gn b tx fs tb l wh gd size r hb hp => sp_hnextT gn b tx fs tb l wh gd size r hb hp) (fun _ _ _ _ _ => rfl) (fun x now => (doF (revB x).delta now).1) (fun x now => (doF (revB x).delta now).2)
    (fun x now => ansLs (sp_do (revB x).delta (readF_ok _).1 now) rfl rfl) (fun _ _ => rfl) addC (readL (scanF s).1).1 (readL (scanF s).1).2 rfl R (retLog_own hR)
end Go.Proofs.Ytobngncjflogcaa.AM

set_option linter.unusedVariables false
set_option linter.unusedSimpArgs false
namespace Go.Proofs.Ytobngncjflogcaa.AM
open Go
set_option maxRecDepth 100000
set_option maxHeartbeats 2000000
/-- a value, and the same under another name -/
inductive Rk (k k' : Nat) : V → V → Prop
  | same (v) : Rk k k' v v
  | own (b sz n) : Rk k k' (.own k b sz n) (.own k' b sz n)
theorem Rk.rel {k k' : Nat} {F B : Nat → Prop} {w : World} {v v' : V} {u : Value} (h : Rk k k' v v') (hr : Rel F B w v u) : Rel F B w v' u := by
  cases h with
  | same => exact hr
  | own b sz n =>
    cases hr with
    | ownnil => exact .ownnil _ _
    | own _ b _ _ cap c e fr h hs hm hn => exact .own _ b _ _ cap c e fr h hs hm hn
theorem Ent.move {s : S} {k k' q : Nat} {o O : Ob} {rows' : List (List V)} (hk : s.h k = some o) (hk' : s.h k' = none) (hq : s.h q = some O) (hqk : q ≠ k)
    (hl : rows'.length = O.rows.length) (hr : ∀ (i : Nat) (r r' : List V), O.rows[i]? = some r → rows'[i]? = some r' → r'.length = r.length ∧ ∀ (l : Nat) (v v' : V), r[l]? = some v → r'[l]? = some v' → Rk k k' v v') :
    Ent s ⟨s.t, Hp.put (Hp.put (Hp.del s.h k) k' o) q ⟨O.b, O.ty, O.sz, rows'⟩⟩ := by
  intro C n0 a w hC hs0
  obtain ⟨F, hs, h2⟩ := hs0.ex
  have hqk' : q ≠ k' := fun e => by rw [e, hk'] at hq; cases hq
  have hkk' : k ≠ k' := fun e => by rw [e, hk'] at hk; cases hk
  have look : ∀ j p, Hp.put (Hp.put (Hp.del s.h k) k' o) q ⟨O.b, O.ty, O.sz, rows'⟩ j = some p →
      (j = q ∧ p = ⟨O.b, O.ty, O.sz, rows'⟩) ∨ (j = k' ∧ p = o) ∨ (j ≠ q ∧ j ≠ k' ∧ j ≠ k ∧ s.h j = some p) := by
    intro j p hj
    simp only [Hp.put, Hp.del] at hj
    by_cases h1 : j = q
    · rw [if_pos h1] at hj; cases hj; exact .inl ⟨h1, rfl⟩
    · rw [if_neg h1] at hj
      by_cases h3 : j = k'
      · rw [if_pos h3] at hj; cases hj; exact .inr (.inl ⟨h3, rfl⟩)
      · rw [if_neg h3] at hj
        by_cases h4 : j = k
        · rw [if_pos h4] at hj; cases hj
        · rw [if_neg h4] at hj; exact .inr (.inr ⟨h1, h3, h4, hj⟩)
  -- the old name
  have old : ∀ j p, Hp.put (Hp.put (Hp.del s.h k) k' o) q ⟨O.b, O.ty, O.sz, rows'⟩ j = some p → ∃ p0, s.h (if j = k' then k else j) = some p0 ∧ p0.b = p.b := by
    intro j p hj
    rcases look j p hj with ⟨rfl, rfl⟩ | ⟨rfl, rfl⟩ | ⟨_, h3, _, h4⟩
    · rw [if_neg hqk']; exact ⟨O, hq, rfl⟩
    · rw [if_pos rfl]; exact ⟨_, hk, rfl⟩
    · rw [if_neg h3]; exact ⟨p, h4, rfl⟩
  refine ⟨⟨F, ⟨fun j p hj => ?_, fun j j' p p' b1 hj hj' hb1 hb2 => ?_, fun j p b1 hj hb1 => ?_, hs.old, hs.new, hs.lt, hs.ev⟩, h2⟩, hs0.df, hs0.sz⟩
  · rcases look j p hj with ⟨rfl, rfl⟩ | ⟨rfl, rfl⟩ | ⟨_, _, _, h4⟩
    · have hO := hs.ob j O hq
      unfold ObSat at hO ⊢
      simp only
      cases hb : O.b with
      | none =>
        rw [hb] at hO
        simp only at hO ⊢
        rw [hO] at hl
        exact List.eq_nil_of_length_eq_zero hl
      | some b1 =>
        rw [hb] at hO
        obtain ⟨c, cap, g1, g2, g3, g4, g5, g6⟩ := hO
        refine ⟨c, cap, g1, g2, g3, by omega, fun r' hr' => ?_, fun i l r' v' hi hl' => ?_⟩
        · obtain ⟨i, hi⟩ := List.mem_iff_getElem?.1 hr'
          have hil := (List.getElem?_eq_some_iff.1 hi).1
          have hir : O.rows[i]? = some (O.rows[i]'(by omega)) := List.getElem?_eq_getElem (by omega)
          rw [(hr i _ r' hir hi).1]
          exact g5 _ (List.mem_of_getElem? hir)
        · have hil := (List.getElem?_eq_some_iff.1 hi).1
          have hir : O.rows[i]? = some (O.rows[i]'(by omega)) := List.getElem?_eq_getElem (by omega)
          obtain ⟨f1, f2⟩ := hr i _ r' hir hi
          have hll := (List.getElem?_eq_some_iff.1 hl').1
          have hlr : (O.rows[i]'(by omega))[l]? = some ((O.rows[i]'(by omega))[l]'(by omega)) := List.getElem?_eq_getElem (by omega)
          obtain ⟨u, k1, k2, k3⟩ := g6 i l _ _ hir hlr
          exact ⟨u, k1, k2, (f2 l _ v' hlr hl').rel k3⟩
    · exact hs.ob k _ hk
    · exact hs.ob j p h4
  · obtain ⟨p0, e1, e2⟩ := old j p hj
    obtain ⟨p0', e1', e2'⟩ := old j' p' hj'
    have := hs.inj _ _ p0 p0' b1 e1 e1' (by rw [e2]; exact hb1) (by rw [e2']; exact hb2)
    -- the names stand for different objects
    rcases look j p hj with ⟨rfl, rfl⟩ | ⟨rfl, rfl⟩ | ⟨h5, h6, h7, h4⟩ <;> rcases look j' p' hj' with ⟨rfl, rfl⟩ | ⟨rfl, rfl⟩ | ⟨h5', h6', h7', h4'⟩
    · rfl
    · rw [if_neg hqk', if_pos rfl] at this; exact absurd this hqk
    · rw [if_neg hqk', if_neg h6'] at this; exact absurd this.symm h5'
    · rw [if_pos rfl, if_neg hqk'] at this; exact absurd this.symm hqk
    · rfl
    · rw [if_pos rfl, if_neg h6'] at this; exact absurd this.symm h7'
    · rw [if_neg h6, if_neg hqk'] at this; exact absurd this h5
    · rw [if_neg h6, if_pos rfl] at this; exact absurd this h7
    · rw [if_neg h6, if_neg h6'] at this; exact this
  · obtain ⟨p0, e1, e2⟩ := old j p hj
    exact hs.live _ p0 b1 e1 (by rw [e2]; exact hb1)
end Go.Proofs.Ytobngncjflogcaa.AM

set_option linter.unusedVariables false
set_option linter.unusedSimpArgs false
namespace Go.Proofs.Ytobngncjflogcaa.AM
open Go Go.RowKit
set_option maxRecDepth 100000
set_option maxHeartbeats 2000000
def z0 (_ : Nat) : Nat := 0
/-- objects may be given other names -/
theorem Ent.names {s s' : S} (g : Nat → Nat) (ht : ∀ i, s'.t i = s.t i ∨ s'.t i = .junk) (hh : ∀ k o, s'.h k = some o → ∃ q, s.h (g k) = some q ∧ o.b = q.b ∧ o.ren z0 = q.ren z0) (hg : ∀ k k' o o', s'.h k = some o → s'.h k' = some o' → g k = g k' → k = k') : Ent s s' := by
  intro C n a w hC hs
  obtain ⟨F, h1, h2⟩ := hs.ex
  refine ⟨⟨F, ⟨fun k o hk => ?_, fun k k' o o' b hk hk' hb hb' => ?_, fun k o b hk hb => ?_, h1.old, h1.new, h1.lt, h1.ev⟩, fun i => ?_⟩, hs.df, hs.sz⟩
  · obtain ⟨q, q1, q2, q3⟩ := hh k o hk
    have := (h1.ob (g k) q q1).ren z0
    rw [← q3] at this
    exact this.unren z0
  · obtain ⟨q, q1, q2, q3⟩ := hh k o hk
    obtain ⟨q', q1', q2', q3'⟩ := hh k' o' hk'
    exact hg k k' o o' hk hk' (h1.inj _ _ q q' b q1 q1' (q2.symm.trans hb) (q2'.symm.trans hb'))
  · obtain ⟨q, q1, q2, q3⟩ := hh k o hk
    exact h1.live (g k) q b q1 (q2.symm.trans hb)
  · rcases ht i with h | h
    · rw [h]; exact h2 i
    · rw [h]; exact .junk _
/-- the same, of a list of objects: each beside its old name -/
def agreeG : List (Nat × Nat × Ob) → S → Prop
  | [], _ => True
  | (_, j, o) :: l, s => (∃ q, s.h j = some q ∧ o.b = q.b ∧ o.ren z0 = q.ren z0) ∧ agreeG l s
def newN (l : List (Nat × Nat × Ob)) : List (Nat × Ob) := l.map fun p => (p.1, p.2.2)
def oldN (l : List (Nat × Nat × Ob)) (k : Nat) : Nat := match l with
  | [] => k
  | p :: l => if k = p.1 then p.2.1 else oldN l k
theorem look_new : ∀ (l : List (Nat × Nat × Ob)) (s : S) (k : Nat) (o : Ob), agreeG l s → lookH (newN l) k = some o → (∃ q, s.h (oldN l k) = some q ∧ o.b = q.b ∧ o.ren z0 = q.ren z0) ∧ ∃ p ∈ l, p.1 = k ∧ p.2.1 = oldN l k
  | [], _, _, _, _, h => by cases h
  | (k', j, o') :: l, s, k, o, ha, h => by
    simp only [newN, List.map_cons, lookH] at h
    by_cases hk : k = k'
    · rw [if_pos hk] at h
      cases h
      have e : oldN ((k', j, o') :: l) k = j := by simp [oldN, hk]
      rw [e]
      exact ⟨ha.1, _, List.mem_cons_self, hk.symm, rfl⟩
    · rw [if_neg hk] at h
      have e : oldN ((k', j, o') :: l) k = oldN l k := by simp [oldN, hk]
      rw [e]
      obtain ⟨h1, p, hp, h2⟩ := look_new l s k o ha.2 h
      exact ⟨h1, p, List.mem_cons_of_mem _ hp, h2⟩
theorem nodup_snd : ∀ {l : List (Nat × Nat × Ob)}, (l.map (·.2.1)).Nodup → ∀ p ∈ l, ∀ q ∈ l, p.2.1 = q.2.1 → p = q
  | [], _, p, hp, _, _, _ => by cases hp
  | x :: l, h, p, hp, q, hq, e => by
    rw [List.map_cons, List.nodup_cons] at h
    rcases List.mem_cons.1 hp with h1 | h1 <;> rcases List.mem_cons.1 hq with h2 | h2
    · rw [h1, h2]
    · rw [h1] at e; exact absurd (List.mem_map.2 ⟨q, h2, e.symm⟩) h.1
    · rw [h2] at e; exact absurd (List.mem_map.2 ⟨p, h1, e⟩) h.1
    · exact nodup_snd h.2 p h1 q h2 e
theorem lookH_some : ∀ {L : List (Nat × Ob)} {k : Nat}, k ∈ L.map (·.1) → ∃ o, lookH L k = some o
  | [], _, h => by cases h
  | (j, o) :: L, k, h => by
    simp only [lookH]
    by_cases he : k = j
    · rw [if_pos he]; exact ⟨_, rfl⟩
    · rw [if_neg he]
      rw [List.map_cons] at h
      rcases List.mem_cons.1 h with h | h
      · exact absurd h he
      · exact lookH_some h
theorem Ent.renL {s : S} (l : List (Nat × Nat × Ob)) (hn : (l.map (·.2.1)).Nodup) (ha : agreeG l s) : Ent s ⟨s.t, lookH (newN l)⟩ := by
  refine Ent.names (oldN l) (fun i => .inl rfl) (fun k o hk => (look_new l s k o ha hk).1) (fun k k' o o' hk hk' e => ?_)
  obtain ⟨_, p, hp, p1, p2⟩ := look_new l s k o ha hk
  obtain ⟨_, p', hp', p1', p2'⟩ := look_new l s k' o' ha hk'
  have := nodup_snd hn p hp p' hp' (by rw [p2, p2', e])
  rw [← p1, ← p1', this]
theorem ObSat.take {F B : Nat → Prop} {w : World} {b : Option Nat} {ty sz : Nat} {rows : List (List V)} (h : ObSat F B w ⟨b, ty, sz, rows⟩) (n : Nat) : ObSat F B w ⟨b, ty, sz, rows.take n⟩ := by
  unfold ObSat at h ⊢
  cases b with
  | none => simp only at h ⊢; rw [h]; simp
  | some b =>
    obtain ⟨c, cap, hc, h1, h2, h3, h4, h5⟩ := h
    have h3 : rows.length ≤ cap := h3
    refine ⟨c, cap, hc, h1, h2, by show (rows.take n).length ≤ cap; rw [List.length_take]; omega, fun r hr => h4 r (List.mem_of_mem_take hr), fun i j r v hi hj => ?_⟩
    refine h5 i j r v ?_ hj
    have hi : (rows.take n)[i]? = some r := hi
    rw [List.getElem?_take] at hi
    split at hi
    · exact hi
    · cases hi
theorem lab_mem : ∀ {m : List (Nat × Nat)}, (m.map (·.1)).Nodup → ∀ p ∈ m, lab m p.1 = p.2
  | [], _, _, h => by cases h
  | (a, b) :: m, hn, p, hp => by
    rw [List.map_cons, List.nodup_cons] at hn
    rcases List.mem_cons.1 hp with rfl | hp
    · simp [lab]
    · have : p.1 ≠ a := fun e => hn.1 (List.mem_map.2 ⟨p, hp, e⟩)
      simp only [lab]
      rw [if_neg this]
      exact lab_mem hn.2 p hp
theorem bal_mem : ∀ {m : List (Nat × Nat)}, (m.map (·.2)).Nodup → ∀ p ∈ m, bal m p.2 = p.1
  | [], _, _, h => by cases h
  | (a, b) :: m, hn, p, hp => by
    rw [List.map_cons, List.nodup_cons] at hn
    rcases List.mem_cons.1 hp with rfl | hp
    · simp [bal]
    · have : p.2 ≠ b := fun e => hn.1 (List.mem_map.2 ⟨p, hp, e⟩)
      simp only [bal]
      rw [if_neg this]
      exact bal_mem hn.2 p hp
def Hp.puts (h : Hp) (l : List (Nat × Ob)) (i : Nat) : Option Ob := match lookH l i with
  | some o => some o
  | none => h i
def backL (m : List (Nat × Nat)) (F : Ob → Ob) (L : List (Nat × Ob)) : List (Nat × Ob) := List.zipWith (fun p q => (p.2, F q.2)) m L
theorem look_back (F : Ob → Ob) : ∀ (m : List (Nat × Nat)) (L : List (Nat × Ob)), L.map (·.1) = m.map (·.1) → (m.map (·.1)).Nodup → (m.map (·.2)).Nodup → ∀ i, lookH (backL m F L) i = if m.any (fun p => decide (p.2 = i)) then (lookH L (bal m i)).map F else none
  | [], [], _, _, _, i => rfl
  | [], _ :: _, h, _, _, _ => by cases h
  | _ :: _, [], h, _, _, _ => by cases h
  | (a, b) :: m, (c, o) :: L, h, n1, n2, i => by
    simp only [List.map_cons, List.cons.injEq] at h
    obtain ⟨h1, h2⟩ := h
    subst h1
    rw [List.map_cons, List.nodup_cons] at n1 n2
    have ih := look_back F m L h2 n1.2 n2.2 i
    show (if i = b then some (F o) else lookH (backL m F L) i) = _
    by_cases hi : i = b
    · subst hi
      simp [bal, lookH]
    · have hi2 : ¬ b = i := fun e => hi e.symm
      rw [if_neg hi, ih]
      simp only [List.any_cons, hi2, decide_false, Bool.false_or, bal, if_neg hi]
      by_cases hm : (m.any fun p => decide (p.2 = i)) = true
      · rw [if_pos hm, if_pos hm]
        obtain ⟨p, hp, hpi⟩ := List.any_eq_true.1 hm
        have hpi : p.2 = i := by simpa using hpi
        have hb := bal_mem n2.2 p hp
        rw [hpi] at hb
        rw [hb]
        have : p.1 ≠ c := fun e => n1.1 (List.mem_map.2 ⟨p, hp, e⟩)
        simp only [lookH]
        rw [if_neg this]
      · rw [if_neg hm, if_neg hm]
theorem upd_puts (h : Hp) (m : List (Nat × Nat)) (L : List (Nat × Ob)) (h1 : L.map (·.1) = m.map (·.1)) (n1 : (m.map (·.1)).Nodup) (n2 : (m.map (·.2)).Nodup) (hL : m ≠ []) : h.upd m (lookH L) = h.puts (backL m (Ob.ren (lab m)) L) := by
  have key := look_back (Ob.ren (lab m)) m L h1 n1 n2
  cases m with
  | nil => exact absurd rfl hL
  | cons q m =>
    funext i
    show (if ((q :: m).any fun p => decide (p.2 = i)) = true then (lookH L (bal (q :: m) i)).map (Ob.ren (lab (q :: m))) else h i) = _
    unfold Hp.puts
    rw [key i]
    by_cases hm : ((q :: m).any fun p => decide (p.2 = i)) = true
    · rw [if_pos hm, if_pos hm]
      obtain ⟨p, hp, hpi⟩ := List.any_eq_true.1 hm
      have hpi : p.2 = i := by simpa using hpi
      have hb := bal_mem n2 p hp
      rw [hpi] at hb
      rw [hb]
      have : ∃ o, lookH L p.1 = some o := lookH_some (by rw [h1]; exact List.mem_map.2 ⟨p, hp, rfl⟩)
      obtain ⟨o, ho⟩ := this
      rw [ho]; rfl
    · rw [if_neg hm, if_neg hm]
/-- a call that is handed some objects, and hands back some -/
theorem callN {P : Program} {f : Nat} {args args' : List V} {L : List (Nat × Ob)} (m : List (Nat × Nat)) {post : V → List (Nat × Ob) → Prop} (hs : Spec P f args' (lookH L) fun v' h' => ∃ L', post v' L' ∧ h' = lookH L') {h : Hp} {K : V → Hp → Prop} (ha : Args h m args args')
    (n1 : (m.map (·.1)).Nodup) (n2 : (m.map (·.2)).Nodup) (hne : m ≠ []) (hdom : ∀ p ∈ L, ∃ q ∈ m, q.1 = p.1) (hob : ∀ p ∈ L, ((h (lab m p.1)).map (Ob.ren (bal m)) = some p.2) ∧ p.2.Fz)
    (hL' : ∀ v L', post v L' → L'.map (·.1) = m.map (·.1)) (hK : ∀ v L', post v L' → K (v.ren (lab m)) (h.puts (backL m (Ob.ren (lab m)) L'))) : CallE P f args h K := by
  refine callG hs (m := m) ha (fun k o hk => ?_) (fun q hq => ?_) (fun v L' hp => ?_)
  · obtain ⟨q, hq, e⟩ := hdom _ (mem_of_lookH hk)
    exact ⟨q, hq, e⟩
  · refine ⟨lab_mem n1 q hq, bal_mem n2 q hq, fun o ho => ?_⟩
    have := hob _ (mem_of_lookH ho)
    simp only [lab_mem n1 q hq] at this
    exact this
  · rw [upd_puts h m L' (hL' v L' hp) n1 n2 hne]
    exact hK v L' hp
/-- a call that only reads some objects -/
theorem callNP {P : Program} {f : Nat} {args args' : List V} {L : List (Nat × Ob)} (m : List (Nat × Nat)) {v : V} (hs : Spec P f args' (lookH L) fun v' h' => ∃ L', (v' = v ∧ L' = L) ∧ h' = lookH L') {h : Hp} {K : V → Hp → Prop} (ha : Args h m args args')
    (n1 : (m.map (·.1)).Nodup) (n2 : (m.map (·.2)).Nodup) (hdom : L.map (·.1) = m.map (·.1)) (hob : ∀ p ∈ L, ((h (lab m p.1)).map (Ob.ren (bal m)) = some p.2) ∧ p.2.Fz)
    (hK : K (v.ren (lab m)) h) : CallP P f args h K := by
  refine ⟨m, args', lookH L, v, ⟨hs.fn, fun C us a1 a2 a3 a4 => (hs.run C us a1 a2 a3 a4).mono ?_⟩, ha, fun k o hk => ?_, fun q hq => ?_, hK⟩
  · rintro e w' ⟨u, x, h', F', e1, e2, e3, L', ⟨rfl, rfl⟩, rfl⟩
    exact ⟨u, _, _, F', e1, e2, e3, rfl, rfl⟩
  · have h1 : k ∈ L.map (·.1) := List.mem_map.2 ⟨(k, o), mem_of_lookH hk, rfl⟩
    rw [hdom] at h1
    obtain ⟨q, hq, e⟩ := List.mem_map.1 h1
    exact ⟨q, hq, e⟩
  · have hq1 : q.1 ∈ L.map (·.1) := by rw [hdom]; exact List.mem_map.2 ⟨q, hq, rfl⟩
    obtain ⟨o, ho⟩ := lookH_some hq1
    have := hob _ (mem_of_lookH ho)
    simp only [lab_mem n1 q hq] at this
    exact ⟨lab_mem n1 q hq, bal_mem n2 q hq, o, ho, this.1, this.2⟩
end Go.Proofs.Ytobngncjflogcaa.AM

set_option linter.unusedVariables false
set_option linter.unusedSimpArgs false
namespace Go.Proofs.Ytobngncjflogcaa.AM
open Go Go.RowKit
set_option maxRecDepth 100000
set_option maxHeartbeats 2000000
def revBody (r : Rev) : List UInt8 := numL r.who.toNat ++ numL r.seq.toNat ++ codeF r.delta
theorem oneF_all {r : Rev} (h : oneF r = 0) : (0 ≤ r.who ∧ r.who ≤ 7) ∧ (0 ≤ r.seq ∧ r.seq ≤ 2147483647) ∧ checkF r.delta = 0 := by
  unfold oneF at h
  split at h
  · exact absurd h (by decide)
  · exact ⟨by omega, by omega, h⟩
def headBody (g b : Int) (tx : List UInt8) (t : Nat → Int) : List UInt8 := numsL (flatL g b t) ++ tx
structure HdOk (g b : Int) (tx : List UInt8) (t : Nat → Int) : Prop where
  g : inR g
  b : inR b
  tx : tx.length ≤ 500
  t : ∀ j, j < 16 → inR (t j)
def frB (f : Frame) : List UInt8 := frameL f.kind f.body
def encFs (l : List Frame) : List UInt8 := (l.map frB).flatten
end Go.Proofs.Ytobngncjflogcaa.AM

set_option linter.unusedVariables false
set_option linter.unusedSimpArgs false
namespace Go.Proofs.Ytobngncjflogcaa.AM
open Go
set_option maxRecDepth 100000
set_option maxHeartbeats 2000000
def lastT (cur : List UInt8) (l : List Rev) : List UInt8 := (cur :: (goT cur l).1).getD l.length []
theorem goT_cons {cur : List UInt8} {r : Rev} {l : List Rev} (h : (goT cur (r :: l)).2 = 0) : oneF r = 0 ∧ (doF r.delta cur).2 = 0 ∧ (goT (doF r.delta cur).1 l).2 = 0 ∧ (goT cur (r :: l)).1 = (doF r.delta cur).1 :: (goT (doF r.delta cur).1 l).1 := by
  rw [goT] at h ⊢
  by_cases h1 : oneF r ≠ 0
  · rw [if_pos h1] at h; exact absurd h h1
  rw [if_neg h1] at h ⊢
  by_cases h2 : (doF r.delta cur).2 ≠ 0
  · rw [if_pos h2] at h; exact absurd h h2
  rw [if_neg h2] at h ⊢
  exact ⟨Decidable.of_not_not h1, Decidable.of_not_not h2, h, rfl⟩
theorem lastT_cons {cur : List UInt8} {r : Rev} {l : List Rev} (h : (goT cur (r :: l)).2 = 0) : lastT cur (r :: l) = lastT (doF r.delta cur).1 l := by
  unfold lastT
  rw [(goT_cons h).2.2.2]
  rfl
end Go.Proofs.Ytobngncjflogcaa.AM

set_option linter.unusedVariables false
set_option linter.unusedSimpArgs false
namespace Go.Proofs.Ytobngncjflogcaa.AM
open Go Go.RowKit
set_option maxRecDepth 100000
set_option maxHeartbeats 2000000
def EqT (f g : Nat → Int) : Prop := ∀ j, j < 16 → f j = g j
theorem EqT.refl (f : Nat → Int) : EqT f f := fun _ _ => rfl
theorem EqT.symm {f g : Nat → Int} (h : EqT f g) : EqT g f := fun j hj => (h j hj).symm
theorem EqT.trans {f g k : Nat → Int} (h : EqT f g) (h' : EqT g k) : EqT f k := fun j hj => (h j hj).trans (h' j hj)
theorem EqT.add {f g : Nat → Int} (h : EqT f g) (w : Nat) (q n : Int) : EqT (addTb f w q n) (addTb g w q n) := fun j hj => by
  unfold addTb
  split
  · rfl
  · split
    · rfl
    · exact h j hj
/-- the table behind some revisions -/
def tabG : (Nat → Int) → Int → List Rev → Nat → Int
  | fs, _, [] => fs
  | fs, b, r :: l => tabG (addTb fs r.who.toNat r.seq (b + 1)) (b + 1) l
theorem tabG_app : ∀ (a c : List Rev) (fs : Nat → Int) (b : Int), tabG fs b (a ++ c) = tabG (tabG fs b a) (b + a.length) c
  | [], c, fs, b => by simp [tabG]
  | r :: a, c, fs, b => by
    rw [List.cons_append, tabG, tabG, tabG_app a c]
    congr 1
    simp only [List.length_cons]; omega
/-- revisions that may come one behind the other: base, table, how many there are, the text -/
def chainOk (b : Int) : (Nat → Int) → Nat → List UInt8 → List Rev → Prop
  | _, _, _, [] => True
  | tb, i, now, r :: l => nextF b tb i now.length r = 0 ∧ chainOk b (addTb tb r.who.toNat r.seq (b + (i : Int) + 1)) (i + 1) (doF r.delta now).1 l
def nowG (now : List UInt8) : List Rev → List UInt8
  | [] => now
  | r :: l => nowG (doF r.delta now).1 l
theorem nowG_app : ∀ (a c : List Rev) (now : List UInt8), nowG now (a ++ c) = nowG (nowG now a) c
  | [], _, _ => rfl
  | r :: a, c, now => nowG_app a c _
theorem chain_app {b : Int} : ∀ (a c : List Rev) (tb : Nat → Int) (i : Nat) (now : List UInt8), chainOk b tb i now (a ++ c) ↔ chainOk b tb i now a ∧ chainOk b (tabG tb (b + (i : Int)) a) (i + a.length) (nowG now a) c
  | [], c, tb, i, now => by simp [chainOk, tabG, nowG]
  | r :: a, c, tb, i, now => by
    rw [List.cons_append, chainOk, chain_app a c, chainOk, tabG, nowG, and_assoc]
    have e1 : b + ((i + 1 : Nat) : Int) = b + (i : Int) + 1 := by omega
    have e2 : i + 1 + a.length = i + (r :: a).length := by simp only [List.length_cons]; omega
    rw [e1, e2]
theorem next_one {b : Int} {tb : Nat → Int} {i : Nat} {n : Int} {r : Rev} (h : nextF b tb i n r = 0) : oneF r = 0 ∧ fitsF r.delta n = 0 ∧ i < 64 ∧ b + (i : Int) < 2147483647 ∧ tb (2 * r.who.toNat) < r.seq := by
  unfold nextF at h
  by_cases h1 : oneF r ≠ 0
  · rw [if_pos h1] at h; exact absurd h h1
  rw [if_neg h1] at h
  by_cases h2 : r.seq ≤ tb (2 * r.who.toNat)
  · rw [if_pos h2] at h; exact absurd h (by decide)
  rw [if_neg h2] at h
  by_cases h3 : 64 ≤ (i : Int) ∨ 2147483647 ≤ b + i
  · rw [if_pos h3] at h; exact absurd h (by decide)
  rw [if_neg h3] at h
  exact ⟨Decidable.of_not_not h1, h, by omega, by omega, by omega⟩
theorem chain_one {b : Int} : ∀ (l : List Rev) (tb : Nat → Int) (i : Nat) (now : List UInt8), chainOk b tb i now l → ∀ r ∈ l, oneF r = 0
  | [], _, _, _, _, _, h => by cases h
  | r :: l, _, _, _, hc, q, hq => by
    rcases List.mem_cons.1 hq with rfl | hq
    · exact (next_one hc.1).1
    · exact chain_one l _ _ _ hc.2 q hq
theorem chain_len {b : Int} : ∀ (l : List Rev) (tb : Nat → Int) (i : Nat) (now : List UInt8), chainOk b tb i now l → l = [] ∨ i + l.length ≤ 64 ∧ b + ((i + l.length : Nat) : Int) ≤ 2147483647
  | [], _, _, _, _ => .inl rfl
  | r :: l, _, i, _, hc => by
    have h1 := next_one hc.1
    right
    rcases chain_len l _ _ _ hc.2 with rfl | h
    · simp only [List.length_cons, List.length_nil]; omega
    · simp only [List.length_cons]; omega
theorem do_of_next {b : Int} {tb : Nat → Int} {i : Nat} {now : List UInt8} {r : Rev} (h : nextF b tb i now.length r = 0) : (doF r.delta now).2 = 0 := by
  have := (next_one h).2.1
  unfold doF
  rw [if_pos this]
theorem chain_go {b : Int} : ∀ (l : List Rev) (tb : Nat → Int) (i : Nat) (now : List UInt8), chainOk b tb i now l → (goT now l).2 = 0 ∧ lastT now l = nowG now l
  | [], _, _, now, _ => ⟨rfl, rfl⟩
  | r :: l, tb, i, now, hc => by
    obtain ⟨h1, h2⟩ := chain_go l _ _ _ hc.2
    have h3 := (next_one hc.1).1
    have h4 := do_of_next hc.1
    have e : (goT now (r :: l)).2 = 0 := by rw [goT, if_neg (fun x => x h3), if_neg (fun x => x h4)]; exact h1
    refine ⟨e, ?_⟩
    rw [lastT_cons e, h2]; rfl
/-- the text at each of the revisions -/
theorem goT_at : ∀ (l : List Rev) (now : List UInt8) (k : Nat), (goT now l).2 = 0 → k ≤ l.length → (now :: (goT now l).1).getD k [] = nowG now (l.take k)
  | _, _, 0, _, _ => rfl
  | [], _, k + 1, _, h => absurd h (by simp)
  | r :: l, now, k + 1, h, hk => by
    obtain ⟨_, _, c3, c4⟩ := goT_cons h
    rw [c4, List.getD_cons_succ, List.take_succ_cons, nowG]
    exact goT_at l _ k c3 (by simpa using hk)
theorem text_at {b : Int} {fs : Nat → Int} {tx : List UInt8} {l : List Rev} (hc : chainOk b fs 0 tx l) (htx : tx.length ≤ 500) (k : Nat) (hk : k ≤ l.length) : textF tx l (k : Int) = (nowG tx (l.take k), 0) := by
  have hg := (chain_go l _ _ _ hc).1
  have h64 : l.length ≤ 64 := by
    rcases chain_len l _ _ _ hc with rfl | h
    · simp
    · omega
  have ht : textsF tx l = (tx :: (goT tx l).1, 0) := by
    unfold textsF
    rw [if_neg (by omega), if_neg (fun x => x hg)]
  unfold textF
  rw [ht]
  rw [if_neg (fun x => x rfl), if_neg (by omega)]
  simp only [Int.toNat_natCast]
  rw [goT_at l tx k hg hk]
def revFr (r : Rev) : Frame := ⟨2, revBody r⟩
def doneFr : Frame := ⟨3, []⟩
def headFr (g b : Int) (tx : List UInt8) (t : Nat → Int) : Frame := ⟨1, headBody g b tx t⟩
theorem rev_ok {r : Rev} (h : oneF r = 0) : r.Ok ∧ r.delta.length ≤ 1000000000 := by
  obtain ⟨h1, h2, h3⟩ := oneF_all h
  have h4 := checkF_all h3
  have hm : maxLen = 9223372036854775807 := by decide
  refine ⟨⟨⟨by omega, by omega⟩, ⟨by omega, by omega⟩, by omega, fun p hp => ?_⟩, by omega⟩
  obtain ⟨b1, b2, b3, b4⟩ := okP_bd (h4.2.1 p hp)
  have hk : p.kind = 1 ∨ p.kind = 2 ∨ p.kind = 3 := by rcases b4 with h | ⟨h, _⟩ <;> omega
  exact ⟨⟨by omega, by omega⟩, ⟨by omega, by omega⟩, by omega⟩
/-- the frames of a slot: a head, revisions, and (if it is whole) Done and what came behind -/
def tailOf : Option (List Rev) → List Frame
  | none => []
  | some r2 => doneFr :: r2.map revFr
def flOf (g b : Int) (tx : List UInt8) (t : Nat → Int) (r1 : List Rev) (o : Option (List Rev)) : List Frame := headFr g b tx t :: (r1.map revFr ++ tailOf o)
end Go.Proofs.Ytobngncjflogcaa.AM

set_option linter.unusedVariables false
set_option linter.unusedSimpArgs false
namespace Go.Proofs.Ytobngncjflogcaa.AM
open Go Go.RowKit
set_option maxRecDepth 100000
set_option maxHeartbeats 2000000
theorem tabG_snoc (fs : Nat → Int) (b : Int) (l : List Rev) (i : Nat) (r : Rev) (h : l[i]? = some r) : tabG fs b (l.take (i + 1)) = addTb (tabG fs b (l.take i)) r.who.toNat r.seq (b + (i : Int) + 1) := by
  have hi : i < l.length := (List.getElem?_eq_some_iff.1 h).1
  rw [List.take_add_one, h, Option.toList_some, tabG_app]
  have e : ((l.take i).length : Int) = i := by rw [List.length_take]; omega
  rw [e]; rfl
structure YSt (fs : Nat → Int) (b : Int) (l : List Rev) (a : Nat) where
  i : Nat
  k : Int
  tb : Nat → Int
  hi : i ≤ a
  hk : k = (i : Int)
  htb : tb = tabG fs b (l.take i)
theorem tabV_fz (f : Nat → Int) : Fz (tabV f) := .agg _ (by simp; exact ⟨.int _ _, .int _ _, .int _ _, .int _ _, .int _ _, .int _ _, .int _ _, .int _ _, .int _ _, .int _ _, .int _ _, .int _ _, .int _ _, .int _ _, .int _ _, .int _ _⟩)
structure Mv where
  f : Int
  c : Int
  w : Bool
def mvN (km bm : Nat) : Option Mv → V
  | none => .nil
  | some _ => .ptr km (some bm) 3 0 0
def obMv (bm : Nat) : Option Mv → Ob
  | none => ⟨none, 124, 3, []⟩
  | some m => ⟨some bm, 124, 3, [[.int .i64 m.f, .int .i64 m.c, .bool m.w]]⟩
theorem mvN_fz (km bm : Nat) (m : Option Mv) : Fz (mvN km bm m) := by cases m <;> first | exact .nil | exact .ptr _ _ _ _ _
theorem mvN_one (km bm : Nat) (m : Option Mv) : V.one (mvN km bm m) = true := by cases m <;> rfl
theorem mvN_noW (km bm : Nat) (m : Option Mv) : noW (mvN km bm m) = true := by cases m <;> rfl
theorem mvN_mq (km bm : Nat) (m : Option Mv) : MQ (mvN km bm m) := ⟨⟨mvN_fz _ _ _, mvN_one _ _ _⟩, mvN_noW _ _ _⟩
theorem mvN_rl (km bm : Nat) (m : Option Mv) (g : Nat → Nat) : (mvN km bm m).rl g = mvN (g km) bm m := by cases m <;> rfl
theorem obMv_ren (bm : Nat) (m : Option Mv) (g : Nat → Nat) : (obMv bm m).ren g = obMv bm m := by cases m <;> rfl
theorem obMv_fz (bm : Nat) (m : Option Mv) : (obMv bm m).Fz := by
  intro r hr v hv
  cases m with
  | none => cases hr
  | some m =>
    simp only [obMv, List.mem_singleton] at hr
    subst hr
    simp only [List.mem_cons, List.not_mem_nil, or_false] at hv
    rcases hv with rfl | rfl | rfl
    · exact .int _ _
    · exact .int _ _
    · exact .bool _
/-- the names of a shop's three objects -/
structure N3 (k ka km : Nat) : Prop where
  a : Nat.beq k ka = false
  b : Nat.beq k km = false
  c : Nat.beq ka km = false
theorem N3.ne {k ka km : Nat} (h : N3 k ka km) : k ≠ ka ∧ k ≠ km ∧ ka ≠ km := by
  refine ⟨fun e => ?_, fun e => ?_, fun e => ?_⟩ <;> subst e
  · have := h.a; rw [Nat.beq_refl] at this; cases this
  · have := h.b; rw [Nat.beq_refl] at this; cases this
  · have := h.c; rw [Nat.beq_refl] at this; cases this
end Go.Proofs.Ytobngncjflogcaa.AM

set_option linter.unusedVariables false
set_option linter.unusedSimpArgs false
namespace Go.Proofs.Ytobngncjflogcaa.AM
open Go Go.RowKit
set_option maxRecDepth 100000
set_option maxHeartbeats 2000000
/-- an object that is nil may be told of at any time -/
theorem HSat.nilOb {C : Ctx} {F : Nat → Prop} {h : Hp} {w : World} (hs : HSat C F h w) (k ty sz : Nat) : HSat C F (Hp.put h k ⟨none, ty, sz, []⟩) w := by
  have look : ∀ j q, Hp.put h k ⟨none, ty, sz, []⟩ j = some q → q = ⟨none, ty, sz, []⟩ ∨ h j = some q := by
    intro j q hj
    simp only [Hp.put] at hj
    by_cases h1 : j = k
    · rw [if_pos h1] at hj; cases hj; exact .inl rfl
    · rw [if_neg h1] at hj; exact .inr hj
  refine ⟨fun j q hj => ?_, fun j j' q q' b hj hj' hb hb' => ?_, fun j q b hj hb => ?_, hs.old, hs.new, hs.lt, hs.ev⟩
  · rcases look j q hj with rfl | hj
    · exact (show ObSat F C.B w ⟨none, ty, sz, []⟩ from rfl)
    · exact hs.ob j q hj
  · rcases look j q hj with rfl | hj
    · cases hb
    · rcases look j' q' hj' with rfl | hj'
      · cases hb'
      · exact hs.inj j j' q q' b hj hj' hb hb'
  · rcases look j q hj with rfl | hj
    · cases hb
    · exact hs.live j q b hj hb
theorem HEnt.nilOb (h : Hp) (k ty sz : Nat) : HEnt h (Hp.put h k ⟨none, ty, sz, []⟩) := fun _ F _ _ hs => ⟨F, fun _ h => h, hs.nilOb k ty sz⟩
theorem Ent.nilOb (s : S) (k ty sz : Nat) : Ent s ⟨s.t, Hp.put s.h k ⟨none, ty, sz, []⟩⟩ := fun C n a w hC hs => by
  obtain ⟨F, h1, h2⟩ := hs.ex
  exact ⟨⟨F, h1.nilOb k ty sz, h2⟩, hs.df, hs.sz⟩
def logOf (l : LogD) (v : V) (e : Int) : V := .tup [.agg (rowL l.gen l.base l.text l.first l.table v l.whole l.good), .int .i64 e]
def HReadC (T : CallT) : Prop := ∀ (kk : Nat) (s : List UInt8) (h : Hp) (K : V → Hp → Prop), s.length ≤ 1048576 → h kk = none → (∀ (l : LogD) (e : Int) (ba : Option Nat) (n : Nat) (rows : List (List V)), (l, e) = readL (scanF s).1 → n = l.revs.length → rows = l.revs.map encRev → (e = 0 → K (logOf l (.own kk ba 3 n) e) (Hp.put h kk (obV ba rows))) ∧
  (e ≠ 0 → K (logOf l .nilsl e) h) ∧ (e ≠ 0 → K (logOf l (.own kk ba 3 n) e) h)) → T 34 [.str s] h K
theorem hreadC : HReadC (CallE Try.prog) := by
  intro kk s h K hs hk hK
  have hl : lab [(1000999, kk)] 1000999 = kk := by simp [lab]
  have hb : bal [(1000999, kk)] kk = 1000999 := by simp [bal]
  refine callG (m := [(1000999, kk)]) (sp_hreadO s hs) (args_plain rfl) (fun j o hj => by cases hj) (fun q hq => ?_) ?_
  · rw [List.mem_singleton.1 hq]
    exact ⟨hl, hb, fun o ho => by cases ho⟩
  · have e0 : h.upd [(1000999, kk)] (lookH []) = h := by
      funext i
      simp only [Hp.upd, List.any_cons, List.any_nil, Bool.or_false, decide_eq_true_eq]
      by_cases hi : kk = i
      · rw [if_pos hi, ← hi, hk]; rfl
      · rw [if_neg hi]
    generalize hL : readL (scanF s).1 = q at *
    obtain ⟨l, e⟩ := q
    have rl : ∀ v g, (logOf l v e).ren g = logOf l (v.rl g) e := fun v g => rfl
    rintro x L' (⟨he, ba, rfl, rfl⟩ | ⟨he, rfl, rfl⟩ | ⟨he, ba, rfl, rfl⟩)
    · have e1 : h.upd [(1000999, kk)] (lookH [(1000999, obV ba (l.revs.map encRev))]) = Hp.put h kk (obV ba (l.revs.map encRev)) := by
        funext i
        simp only [Hp.upd, Hp.put, List.any_cons, List.any_nil, Bool.or_false, decide_eq_true_eq]
        by_cases hi : kk = i
        · rw [if_pos hi, if_pos hi.symm, ← hi, hb]
          show (some (obV ba (l.revs.map encRev))).map (Ob.ren (lab [(1000999, kk)])) = _
          rw [Option.map_some, obV_ren]
        · rw [if_neg hi, if_neg fun e => hi e.symm]
      rw [e1]
      show K ((logOf l (.own 1000999 ba 3 l.revs.length) e).ren _) _
      rw [rl]
      show K (logOf l (.own (lab [(1000999, kk)] 1000999) ba 3 l.revs.length) e) _
      rw [hl]
      exact (hK l e ba _ _ rfl rfl rfl).1 he
    · rw [e0]
      show K ((logOf l .nilsl e).ren _) _
      rw [rl]
      exact (hK l e none _ _ rfl rfl rfl).2.1 he
    · rw [e0]
      show K ((logOf l (.own 1000999 ba 3 l.revs.length) e).ren _) _
      rw [rl]
      show K (logOf l (.own (lab [(1000999, kk)] 1000999) ba 3 l.revs.length) e) _
      rw [hl]
      exact (hK l e ba _ _ rfl rfl rfl).2.2 he
end Go.Proofs.Ytobngncjflogcaa.AM

set_option linter.unusedVariables false
set_option linter.unusedSimpArgs false
namespace Go.Proofs.Ytobngncjflogcaa.AM
open Go Go.RowKit
set_option maxRecDepth 100000
set_option maxHeartbeats 2000000
def datOf (d : SC) (i : Int) : List UInt8 := if i = 0 then d.x1 else d.x3
end Go.Proofs.Ytobngncjflogcaa.AM

set_option linter.unusedVariables false
set_option linter.unusedSimpArgs false
namespace Go.Proofs.Ytobngncjflogcaa.AM
open Go Go.RowKit
set_option maxRecDepth 100000
set_option maxHeartbeats 2000000
theorem rt2_mv {k ka km bm : Nat} {m : Option Mv} (h : (!(Nat.beq km 0) && !(Nat.beq km 1000001)) = true) : rt2B k ka (mvN km bm m) = true := by
  cases m
  · rfl
  · show ((!(Nat.beq km 0) && !(Nat.beq km 1000001)) || _) = true
    rw [h]; rfl
end Go.Proofs.Ytobngncjflogcaa.AM

set_option linter.unusedVariables false
set_option linter.unusedSimpArgs false
namespace Go.Proofs.Ytobngncjflogcaa.AM
open Go Go.RowKit
set_option maxRecDepth 100000
set_option maxHeartbeats 2000000
structure OpR where
  d : SC
  l : List Rev
  e : Int
def openD (a1 : List UInt8) (a2 : Int) (b1 : List UInt8) (b2 i : Int) (L : LogD) : SC :=
  { synS (trmS (trmS ⟨a1, a2, b1, b2, i, L.gen, L.base, L.text, L.first, L.table, L.whole, L.good, [], 0, false⟩ i L.good) (1 - i) 0) i with now := (textF L.text L.revs (L.revs.length : Int)).1, sf := L.base + (L.revs.length : Int) }
def goodL (q : LogD × Int) : Prop := q.2 = 0 ∧ q.1.whole = true
instance (q : LogD × Int) : Decidable (goodL q) := inferInstanceAs (Decidable (_ ∧ _))
def openG (A B : LogD × Int) (a1 : List UInt8) (a2 : Int) (b1 : List UInt8) (b2 : Int) : OpR :=
  if goodL A then (if goodL B ∧ A.1.gen < B.1.gen then ⟨openD a1 a2 b1 b2 1 B.1, B.1.revs, 0⟩ else ⟨openD a1 a2 b1 b2 0 A.1, A.1.revs, 0⟩)
  else if goodL B then ⟨openD a1 a2 b1 b2 1 B.1, B.1.revs, 0⟩ else ⟨Z0, [], 12⟩
def openF (a1 : List UInt8) (a2 : Int) (b1 : List UInt8) (b2 : Int) : OpR := if diskT a1 a2 b1 b2 ≠ 0 then ⟨Z0, [], diskT a1 a2 b1 b2⟩ else openG (readL (scanF a1).1) (readL (scanF b1).1) a1 a2 b1 b2
structure GL (L : LogD) where
  ba : Option Nat
  n : Nat
  rows : List (List V)
  hn : n = L.revs.length
  hrows : rows = L.revs.map encRev
inductive YOp (gA gB : Prop) (LA LB : LogD) where
  | y0
  | n1 (h : ¬ gA)
  | s1 (G : GL LA) (h : gA)
  | nn (h : ¬ gA) (h' : ¬ gB)
  | ns (h : ¬ gA) (G : GL LB) (h' : gB)
  | sn (G : GL LA) (h : gA) (h' : ¬ gB)
  | ss (G : GL LA) (G' : GL LB) (h : gA) (h' : gB) (hg : ¬ LA.gen < LB.gen)
  | st (G : GL LA) (G' : GL LB) (h : gA) (h' : gB) (hg : LA.gen < LB.gen)
structure LogOk (L : LogD) : Prop where
  b : 0 ≤ L.base ∧ L.base ≤ 4294967295
  n : L.revs.length ≤ 1000
  rv : RevsOk L.revs
def ac_sopen : AC := .seq (.region false [
    ⟨some 1, none, .box 26 4 (.t 0)⟩,
    ⟨some 2, none, .mov (.c (.pointer none))⟩,
    ⟨some 3, none, .mov (.c (.int .i64 0))⟩])
  (.seq (.seq (.region false [
    ⟨some 12, none, .loadn 4 (.t 1)⟩,
    ⟨some 13, none, .call 33 [(.t 12)]⟩,
    ⟨some 4, none, .mov (.t 13)⟩])
  (.seq (.region false [
    ⟨some 14, none, .mov (.t 4)⟩,
    ⟨some 15, none, .bin .neq (.t 14) (.c (.int .i64 0))⟩])
  (.cond (.t 15)
    (.seq (.region false [
      ⟨some 16, none, .mov (.t 4)⟩,
      ⟨some 2, none, .mov (.c (.pointer none))⟩,
      ⟨some 3, none, .mov (.t 16)⟩])
    (.ret))
    (.skip))))
  (.seq (.region false [
    ⟨some 5, none, .mov (.c (.int .i64 (-1)))⟩])
  (.seq (.region false [
    ⟨some 6, none, .alloc 82 [(.int .i64 0), (.int .i64 0), (.string ⟨#[]⟩), (.int .i64 0), (.int .i64 0), (.int .i64 0), (.int .i64 0), (.int .i64 0), (.int .i64 0), (.int .i64 0), (.int .i64 0), (.int .i64 0), (.int .i64 0), (.int .i64 0), (.int .i64 0), (.int .i64 0), (.int .i64 0), (.int .i64 0), (.int .i64 0), (.int .i64 0), (.int .i64 0), (.int .i64 0), (.int .i64 0), (.int .i64 0), (.int .i64 0), (.int .i64 0), (.int .i64 0), (.int .i64 0), (.int .i64 0), (.int .i64 0), (.int .i64 0), (.int .i64 0), (.int .i64 0), (.int .i64 0), (.int .i64 0), (.slice none 0 0), (.bool false), (.int .i64 0), (.int .i64 0), (.int .i64 0), (.string ⟨#[]⟩), (.int .i64 0), (.int .i64 0), (.int .i64 0), (.int .i64 0), (.int .i64 0), (.int .i64 0), (.int .i64 0), (.int .i64 0), (.int .i64 0), (.int .i64 0), (.int .i64 0), (.int .i64 0), (.int .i64 0), (.int .i64 0), (.int .i64 0), (.int .i64 0), (.int .i64 0), (.int .i64 0), (.int .i64 0), (.int .i64 0), (.int .i64 0), (.int .i64 0), (.int .i64 0), (.int .i64 0), (.int .i64 0), (.int .i64 0), (.int .i64 0), (.int .i64 0), (.int .i64 0), (.int .i64 0), (.int .i64 0), (.int .i64 0), (.slice none 0 0), (.bool false), (.int .i64 0)]⟩])
  (.seq (.seq (.region false [
    ⟨some 17, none, .faddr 0 (.t 1)⟩,
    ⟨some 18, none, .loadn 4 (.t 17)⟩,
    ⟨some 19, none, .mov (.c (.int .i64 0))⟩])
  (.block 0 (.loop (.seq (.region false [
      ⟨some 20, none, .bin .lss (.t 19) (.c (.int .i64 2))⟩])
    (.seq (.cond (.t 20)
      (.skip)
      (.exit 0))
    (.seq (.block 1 (.seq (.region false [
      ⟨some 21, none, .mov (.t 19)⟩,
      ⟨some 22, none, .ixa true 2 2 (.t 18) (.t 19)⟩,
      ⟨some 8, none, .alloc 23 [(.string ⟨#[]⟩), (.int .i64 0)]⟩,
      ⟨some 7, none, .mov (.t 21)⟩,
      ⟨none, none, .store 2 (.t 8) (.t 22)⟩])
    (.seq (.region false [
      ⟨some 24, none, .faddr 0 (.t 8)⟩,
      ⟨some 25, none, .load1 (.t 24)⟩,
      ⟨some 26, none, .call 34 [(.t 25)]⟩,
      ⟨some 23, none, .mov (.t 26)⟩,
      ⟨some 27, none, .ext 0 (.t 23)⟩,
      ⟨some 28, none, .ext 1 (.t 23)⟩,
      ⟨some 9, none, .alloc 81 [(.int .i64 0), (.int .i64 0), (.string ⟨#[]⟩), (.int .i64 0), (.int .i64 0), (.int .i64 0), (.int .i64 0), (.int .i64 0), (.int .i64 0), (.int .i64 0), (.int .i64 0), (.int .i64 0), (.int .i64 0), (.int .i64 0), (.int .i64 0), (.int .i64 0), (.int .i64 0), (.int .i64 0), (.int .i64 0), (.int .i64 0), (.int .i64 0), (.int .i64 0), (.int .i64 0), (.int .i64 0), (.int .i64 0), (.int .i64 0), (.int .i64 0), (.int .i64 0), (.int .i64 0), (.int .i64 0), (.int .i64 0), (.int .i64 0), (.int .i64 0), (.int .i64 0), (.int .i64 0), (.slice none 0 0), (.bool false), (.int .i64 0)]⟩,
      ⟨none, none, .store 38 (.t 9) (.t 27)⟩,
      ⟨some 10, none, .mov (.t 28)⟩])
    (.seq (.seq (.region false [
      ⟨some 29, none, .mov (.t 10)⟩,
      ⟨some 30, none, .bin .neq (.t 29) (.c (.int .i64 0))⟩,
      ⟨some 31, none, .mov (.t 30)⟩,
      ⟨some 32, some (31, false), .faddr 36 (.t 9)⟩,
      ⟨some 33, some (31, false), .load1 (.t 32)⟩,
      ⟨some 34, some (31, false), .not (.t 33)⟩,
      ⟨some 35, none, .pick (.t 31) (.c (.bool true)) (.t 34)⟩])
    (.cond (.t 35)
      (.exit 1)
      (.skip)))
    (.seq (.region false [
      ⟨some 36, none, .mov (.t 7)⟩,
      ⟨some 37, none, .loadn 38 (.t 9)⟩,
      ⟨some 38, none, .iarr 2 38 (.t 6) (.t 36)⟩,
      ⟨none, none, .store 38 (.t 38) (.t 37)⟩])
    (.seq (.region true [
      ⟨some 39, none, .mov (.t 5)⟩,
      ⟨some 40, none, .bin .lss (.t 39) (.c (.int .i64 0))⟩,
      ⟨some 41, none, .mov (.t 40)⟩,
      ⟨some 42, some (41, false), .faddr 0 (.t 9)⟩,
      ⟨some 43, some (41, false), .load1 (.t 42)⟩,
      ⟨some 44, some (41, false), .mov (.t 5)⟩,
      ⟨some 45, some (41, false), .iarr 2 38 (.t 6) (.t 44)⟩,
      ⟨some 46, some (41, false), .faddr 0 (.t 45)⟩,
      ⟨some 47, some (41, false), .load1 (.t 46)⟩,
      ⟨some 48, some (41, false), .bin .gtr (.t 43) (.t 47)⟩,
      ⟨some 49, none, .pick (.t 41) (.c (.bool true)) (.t 48)⟩])
    (.cond (.t 49)
      (.region false [
        ⟨some 50, none, .mov (.t 7)⟩,
        ⟨some 5, none, .mov (.t 50)⟩])
      (.skip))))))))
    (.region false [
      ⟨some 51, none, .bin .add (.t 19) (.c (.int .i64 1))⟩,
      ⟨some 19, none, .mov (.t 51)⟩])))))))
  (.seq (.seq (.region false [
    ⟨some 52, none, .mov (.t 5)⟩,
    ⟨some 53, none, .bin .lss (.t 52) (.c (.int .i64 0))⟩])
  (.cond (.t 53)
    (.seq (.region false [
      ⟨some 2, none, .mov (.c (.pointer none))⟩,
      ⟨some 3, none, .mov (.c (.int .i64 12))⟩])
    (.ret))
    (.skip)))
  (.seq (.region true [
    ⟨some 54, none, .loadn 4 (.t 1)⟩,
    ⟨some 55, none, .mov (.t 5)⟩,
    ⟨some 56, none, .mov (.t 5)⟩,
    ⟨some 57, none, .iarr 2 38 (.t 6) (.t 56)⟩,
    ⟨some 58, none, .loadn 38 (.t 57)⟩,
    ⟨some 59, none, .build [(.string ⟨#[]⟩), (.int .i64 0), (.string ⟨#[]⟩), (.int .i64 0), (.int .i64 0), (.int .i64 0), (.int .i64 0), (.string ⟨#[]⟩), (.int .i64 0), (.int .i64 0), (.int .i64 0), (.int .i64 0), (.int .i64 0), (.int .i64 0), (.int .i64 0), (.int .i64 0), (.int .i64 0), (.int .i64 0), (.int .i64 0), (.int .i64 0), (.int .i64 0), (.int .i64 0), (.int .i64 0), (.int .i64 0), (.int .i64 0), (.int .i64 0), (.int .i64 0), (.int .i64 0), (.int .i64 0), (.int .i64 0), (.int .i64 0), (.int .i64 0), (.int .i64 0), (.int .i64 0), (.int .i64 0), (.int .i64 0), (.int .i64 0), (.int .i64 0), (.int .i64 0), (.int .i64 0), (.slice none 0 0), (.bool false), (.int .i64 0), (.string ⟨#[]⟩), (.int .i64 0), (.pointer none), (.bool false)] [(0, 4, (.t 54)), (4, 1, (.t 55)), (5, 38, (.t 58))]⟩,
    ⟨some 60, none, .box 87 47 (.t 59)⟩,
    ⟨some 11, none, .mov (.t 60)⟩])
  (.seq (.region false [
    ⟨some 61, none, .mov (.t 11)⟩,
    ⟨some 62, none, .mov (.t 5)⟩,
    ⟨some 63, none, .mov (.t 11)⟩,
    ⟨some 64, none, .nilchk (.t 63)⟩,
    ⟨some 65, none, .faddr 5 (.t 64)⟩,
    ⟨some 66, none, .faddr 37 (.t 65)⟩,
    ⟨some 67, none, .load1 (.t 66)⟩,
    ⟨some 68, none, .call 35 [(.t 61), (.t 62), (.t 67)]⟩])
  (.seq (.region false [
    ⟨some 69, none, .mov (.t 11)⟩,
    ⟨some 70, none, .mov (.t 5)⟩,
    ⟨some 71, none, .bin .sub (.c (.int .i64 1)) (.t 70)⟩,
    ⟨some 72, none, .call 35 [(.t 69), (.t 71), (.c (.int .i64 0))]⟩])
  (.seq (.region false [
    ⟨some 73, none, .mov (.t 11)⟩,
    ⟨some 74, none, .mov (.t 5)⟩,
    ⟨some 75, none, .call 36 [(.t 73), (.t 74)]⟩])
  (.seq (.region true [
    ⟨some 77, none, .mov (.t 11)⟩,
    ⟨some 78, none, .mov (.t 11)⟩,
    ⟨some 79, none, .nilchk (.t 78)⟩,
    ⟨some 80, none, .faddr 5 (.t 79)⟩,
    ⟨some 81, none, .faddr 2 (.t 80)⟩,
    ⟨some 82, none, .load1 (.t 81)⟩,
    ⟨some 83, none, .mov (.t 11)⟩,
    ⟨some 84, none, .nilchk (.t 83)⟩,
    ⟨some 85, none, .faddr 5 (.t 84)⟩,
    ⟨some 86, none, .faddr 35 (.t 85)⟩,
    ⟨some 87, none, .load1 (.t 86)⟩,
    ⟨some 88, none, .mov (.t 11)⟩,
    ⟨some 89, none, .nilchk (.t 88)⟩,
    ⟨some 90, none, .faddr 5 (.t 89)⟩,
    ⟨some 91, none, .faddr 35 (.t 90)⟩,
    ⟨some 92, none, .load1 (.t 91)⟩,
    ⟨some 93, none, .len false (.t 92)⟩,
    ⟨some 94, none, .call 12 [(.t 82), (.t 87), (.t 93)]⟩,
    ⟨some 76, none, .mov (.t 94)⟩,
    ⟨some 95, none, .ext 0 (.t 76)⟩,
    ⟨some 96, none, .ext 1 (.t 76)⟩,
    ⟨some 97, none, .nilchk (.t 77)⟩,
    ⟨some 98, none, .faddr 43 (.t 97)⟩,
    ⟨none, none, .store 1 (.t 98) (.t 95)⟩])
  (.seq (.region false [
    ⟨some 99, none, .mov (.t 11)⟩,
    ⟨some 100, none, .mov (.t 11)⟩,
    ⟨some 101, none, .call 20 [(.t 100)]⟩,
    ⟨some 102, none, .nilchk (.t 99)⟩,
    ⟨some 103, none, .faddr 44 (.t 102)⟩,
    ⟨none, none, .store 1 (.t 103) (.t 101)⟩])
  (.seq (.region false [
    ⟨some 104, none, .mov (.t 11)⟩,
    ⟨some 2, none, .mov (.t 104)⟩,
    ⟨some 3, none, .mov (.c (.int .i64 0))⟩])
  (.ret)))))))))))))
theorem ok_sopen : FnOk Try.prog 7 Try.f7 ac_sopen [.t 2, .t 3] 1 drawD := ⟨Try.func7, by decide +kernel, by kernel_rfl, by kernel_rfl, by decide +kernel⟩
theorem vc_sopen (P : Prim) (hP : P = std) (T T1 : CallT) (hrd : HReadC T) (htrm : STrmC T) (hsyn : SSynC T) (hhd : SHeadC T) (htx : RTextC T1) (a1 : List UInt8) (a2 : Int) (b1 : List UInt8) (b2 : Int) (c : Int) (h1 : Ans T 33 [.agg [.str a1, .int .i64 a2, .str b1, .int .i64 b2]] (.int .i64 c))
    (hla : c = 0 → a1.length ≤ 1048576) (hlb : c = 0 → b1.length ≤ 1048576) (LA LB : LogD) (eA eB : Int) (hA : readL (scanF a1).1 = (LA, eA)) (hB : readL (scanF b1).1 = (LB, eB)) (oA : eA = 0 → LogOk LA) (oB : eB = 0 → LogOk LB)
    (Y : OpR) (hY : Y = if c ≠ 0 then ⟨Z0, [], c⟩ else openG (LA, eA) (LB, eB) a1 a2 b1 b2)
    (R : S → Prop) (hE : ∀ (s s' : S) (e : Int), e = Y.e → e ≠ 0 → Ent s s' → Ret [.t 2, .t 3] [.nil, .int .i64 e] s' → R s)
    (hR : ∀ (s s' : S) (bl : Nat) (ba : Option Nat) (n : Nat) (rows : List (List V)) (d : SC), d = Y.d → Y.e = 0 → n = Y.l.length → rows = Y.l.map encRev → Ent s s' → Ret [.t 2, .t 3] [.ptr 60 (some bl) 47 0 0, .int .i64 0] s' →
      agreeH [(60, obSh bl (rowS d (.own 1000200 ba 3 n) .nil)), (1000200, obV ba rows), (999, ⟨none, 124, 3, []⟩)] s' → R s) : awp P T T1 ac_sopen (S0 [.agg [.str a1, .int .i64 a2, .str b1, .int .i64 b2]] Hp.emp) R (fun _ _ => False) R := by
  have a0 : P.leP 0 0 := le0 hP (by decide)
  have a01 : P.leP 0 1 := le0 hP (by decide)
  have l0 : P.ltP 0 2 := ltI hP (by decide)
  have l1 : P.ltP 1 2 := ltI hP (by decide)
  have n0 : P.nat 0 = 0 := by subst hP; rfl
  have n1 : P.nat 1 = 1 := by subst hP; rfl
  have c1 : P.i64 (P.add 0 1) := by rw [add_eq hP]; exact i64I hP (by decide)
  have c2 : P.i64 (P.add 1 1) := by rw [add_eq hP]; exact i64I hP (by decide)
  have c3 : P.add 0 1 = 1 := by rw [add_eq hP]; rfl
  have c4 : P.add 1 1 = 2 := by rw [add_eq hP]; rfl
  cbv
  repeat' (first
    | (refine And.intro (by first | assumption | decide) ?_; try cbv)
    | (intro β2; try cbv))
  refine h1 _ _ ?_
  cbv
  repeat' (first
    | (refine And.intro (by first | assumption | decide) ?_; try cbv)
    | (intro β2; try cbv))
  refine br_cases (fun g => ?_) (fun g => ?_)
  · have g1 : c ≠ 0 := ne_t hP g
    rw [if_pos g1] at hY
    cbv
    repeat' (first
    | (refine And.intro (by first | assumption | decide) ?_; try cbv)
    | (intro β2; try cbv))
    exact hE _ _ _ (by rw [hY]) g1 (Ent.refl _) rfl
  have g1 : c = 0 := ne_f hP g
  rw [if_neg (fun h => h g1)] at hY
  have hla := hla g1
  have hlb := hlb g1
  cbv
  repeat' (first
    | (refine And.intro (by first | assumption | decide) ?_; try cbv)
    | (intro β2; try cbv))
  rename_i βa
  refine ⟨YOp (goodL (LA, eA)) (goodL (LB, eB)) LA LB, fun y => match y with
      | .y0 => [(1, .ptr 1 (some βa) 4 0 0), (5, .int .i64 (-1)), (6, .ptr 6 (some β2) 76 0 0), (18, .agg [.str a1, .int .i64 a2, .str b1, .int .i64 b2]), (19, .int .i64 0)]
      | .n1 _ => [(1, .ptr 1 (some βa) 4 0 0), (5, .int .i64 (-1)), (6, .ptr 6 (some β2) 76 0 0), (18, .agg [.str a1, .int .i64 a2, .str b1, .int .i64 b2]), (19, .int .i64 1)]
      | .s1 GA _ => [(1, .ptr 1 (some βa) 4 0 0), (5, .int .i64 (0)), (6, .ptr 6 (some β2) 76 0 0), (18, .agg [.str a1, .int .i64 a2, .str b1, .int .i64 b2]), (19, .int .i64 1)]
      | .nn _ _ => [(1, .ptr 1 (some βa) 4 0 0), (5, .int .i64 (-1)), (6, .ptr 6 (some β2) 76 0 0), (18, .agg [.str a1, .int .i64 a2, .str b1, .int .i64 b2]), (19, .int .i64 2)]
      | .ns _ GB _ => [(1, .ptr 1 (some βa) 4 0 0), (5, .int .i64 (1)), (6, .ptr 6 (some β2) 76 0 0), (18, .agg [.str a1, .int .i64 a2, .str b1, .int .i64 b2]), (19, .int .i64 2)]
      | .sn GA _ _ => [(1, .ptr 1 (some βa) 4 0 0), (5, .int .i64 (0)), (6, .ptr 6 (some β2) 76 0 0), (18, .agg [.str a1, .int .i64 a2, .str b1, .int .i64 b2]), (19, .int .i64 2)]
      | .ss GA GB _ _ _ => [(1, .ptr 1 (some βa) 4 0 0), (5, .int .i64 (0)), (6, .ptr 6 (some β2) 76 0 0), (18, .agg [.str a1, .int .i64 a2, .str b1, .int .i64 b2]), (19, .int .i64 2)]
      | .st GA GB _ _ _ => [(1, .ptr 1 (some βa) 4 0 0), (5, .int .i64 (1)), (6, .ptr 6 (some β2) 76 0 0), (18, .agg [.str a1, .int .i64 a2, .str b1, .int .i64 b2]), (19, .int .i64 2)],
    fun y => match y with
      | .y0 => [(1, ⟨some βa, 26, 4, [[.str a1, .int .i64 a2, .str b1, .int .i64 b2]]⟩), (6, ⟨some β2, 82, 76, [[.int .i64 0, .int .i64 0, .str [], .int .i64 0, .int .i64 0, .int .i64 0, .int .i64 0, .int .i64 0, .int .i64 0, .int .i64 0, .int .i64 0, .int .i64 0, .int .i64 0, .int .i64 0, .int .i64 0, .int .i64 0, .int .i64 0, .int .i64 0, .int .i64 0, .int .i64 0, .int .i64 0, .int .i64 0, .int .i64 0, .int .i64 0, .int .i64 0, .int .i64 0, .int .i64 0, .int .i64 0, .int .i64 0, .int .i64 0, .int .i64 0, .int .i64 0, .int .i64 0, .int .i64 0, .int .i64 0, .nilsl, .bool false, .int .i64 0, .int .i64 0, .int .i64 0, .str [], .int .i64 0, .int .i64 0, .int .i64 0, .int .i64 0, .int .i64 0, .int .i64 0, .int .i64 0, .int .i64 0, .int .i64 0, .int .i64 0, .int .i64 0, .int .i64 0, .int .i64 0, .int .i64 0, .int .i64 0, .int .i64 0, .int .i64 0, .int .i64 0, .int .i64 0, .int .i64 0, .int .i64 0, .int .i64 0, .int .i64 0, .int .i64 0, .int .i64 0, .int .i64 0, .int .i64 0, .int .i64 0, .int .i64 0, .int .i64 0, .int .i64 0, .int .i64 0, .nilsl, .bool false, .int .i64 0]]⟩)]
      | .n1 _ => [(1, ⟨some βa, 26, 4, [[.str a1, .int .i64 a2, .str b1, .int .i64 b2]]⟩), (6, ⟨some β2, 82, 76, [[.int .i64 0, .int .i64 0, .str [], .int .i64 0, .int .i64 0, .int .i64 0, .int .i64 0, .int .i64 0, .int .i64 0, .int .i64 0, .int .i64 0, .int .i64 0, .int .i64 0, .int .i64 0, .int .i64 0, .int .i64 0, .int .i64 0, .int .i64 0, .int .i64 0, .int .i64 0, .int .i64 0, .int .i64 0, .int .i64 0, .int .i64 0, .int .i64 0, .int .i64 0, .int .i64 0, .int .i64 0, .int .i64 0, .int .i64 0, .int .i64 0, .int .i64 0, .int .i64 0, .int .i64 0, .int .i64 0, .nilsl, .bool false, .int .i64 0, .int .i64 0, .int .i64 0, .str [], .int .i64 0, .int .i64 0, .int .i64 0, .int .i64 0, .int .i64 0, .int .i64 0, .int .i64 0, .int .i64 0, .int .i64 0, .int .i64 0, .int .i64 0, .int .i64 0, .int .i64 0, .int .i64 0, .int .i64 0, .int .i64 0, .int .i64 0, .int .i64 0, .int .i64 0, .int .i64 0, .int .i64 0, .int .i64 0, .int .i64 0, .int .i64 0, .int .i64 0, .int .i64 0, .int .i64 0, .int .i64 0, .int .i64 0, .int .i64 0, .int .i64 0, .int .i64 0, .nilsl, .bool false, .int .i64 0]]⟩)]
      | .s1 GA _ => [(1, ⟨some βa, 26, 4, [[.str a1, .int .i64 a2, .str b1, .int .i64 b2]]⟩), (6, ⟨some β2, 82, 76, [[.int .i64 LA.gen, .int .i64 LA.base, .str LA.text, .int .i64 (LA.first 0), .int .i64 (LA.first 1), .int .i64 (LA.first 2), .int .i64 (LA.first 3), .int .i64 (LA.first 4), .int .i64 (LA.first 5), .int .i64 (LA.first 6), .int .i64 (LA.first 7), .int .i64 (LA.first 8), .int .i64 (LA.first 9), .int .i64 (LA.first 10), .int .i64 (LA.first 11), .int .i64 (LA.first 12), .int .i64 (LA.first 13), .int .i64 (LA.first 14), .int .i64 (LA.first 15), .int .i64 (LA.table 0), .int .i64 (LA.table 1), .int .i64 (LA.table 2), .int .i64 (LA.table 3), .int .i64 (LA.table 4), .int .i64 (LA.table 5), .int .i64 (LA.table 6), .int .i64 (LA.table 7), .int .i64 (LA.table 8), .int .i64 (LA.table 9), .int .i64 (LA.table 10), .int .i64 (LA.table 11), .int .i64 (LA.table 12), .int .i64 (LA.table 13), .int .i64 (LA.table 14), .int .i64 (LA.table 15), .own 1000200 GA.ba 3 GA.n, .bool LA.whole, .int .i64 LA.good, .int .i64 0, .int .i64 0, .str [], .int .i64 0, .int .i64 0, .int .i64 0, .int .i64 0, .int .i64 0, .int .i64 0, .int .i64 0, .int .i64 0, .int .i64 0, .int .i64 0, .int .i64 0, .int .i64 0, .int .i64 0, .int .i64 0, .int .i64 0, .int .i64 0, .int .i64 0, .int .i64 0, .int .i64 0, .int .i64 0, .int .i64 0, .int .i64 0, .int .i64 0, .int .i64 0, .int .i64 0, .int .i64 0, .int .i64 0, .int .i64 0, .int .i64 0, .int .i64 0, .int .i64 0, .int .i64 0, .nilsl, .bool false, .int .i64 0]]⟩), (1000200, obV GA.ba GA.rows)]
      | .nn _ _ => [(1, ⟨some βa, 26, 4, [[.str a1, .int .i64 a2, .str b1, .int .i64 b2]]⟩), (6, ⟨some β2, 82, 76, [[.int .i64 0, .int .i64 0, .str [], .int .i64 0, .int .i64 0, .int .i64 0, .int .i64 0, .int .i64 0, .int .i64 0, .int .i64 0, .int .i64 0, .int .i64 0, .int .i64 0, .int .i64 0, .int .i64 0, .int .i64 0, .int .i64 0, .int .i64 0, .int .i64 0, .int .i64 0, .int .i64 0, .int .i64 0, .int .i64 0, .int .i64 0, .int .i64 0, .int .i64 0, .int .i64 0, .int .i64 0, .int .i64 0, .int .i64 0, .int .i64 0, .int .i64 0, .int .i64 0, .int .i64 0, .int .i64 0, .nilsl, .bool false, .int .i64 0, .int .i64 0, .int .i64 0, .str [], .int .i64 0, .int .i64 0, .int .i64 0, .int .i64 0, .int .i64 0, .int .i64 0, .int .i64 0, .int .i64 0, .int .i64 0, .int .i64 0, .int .i64 0, .int .i64 0, .int .i64 0, .int .i64 0, .int .i64 0, .int .i64 0, .int .i64 0, .int .i64 0, .int .i64 0, .int .i64 0, .int .i64 0, .int .i64 0, .int .i64 0, .int .i64 0, .int .i64 0, .int .i64 0, .int .i64 0, .int .i64 0, .int .i64 0, .int .i64 0, .int .i64 0, .int .i64 0, .nilsl, .bool false, .int .i64 0]]⟩)]
      | .ns _ GB _ => [(1, ⟨some βa, 26, 4, [[.str a1, .int .i64 a2, .str b1, .int .i64 b2]]⟩), (6, ⟨some β2, 82, 76, [[.int .i64 0, .int .i64 0, .str [], .int .i64 0, .int .i64 0, .int .i64 0, .int .i64 0, .int .i64 0, .int .i64 0, .int .i64 0, .int .i64 0, .int .i64 0, .int .i64 0, .int .i64 0, .int .i64 0, .int .i64 0, .int .i64 0, .int .i64 0, .int .i64 0, .int .i64 0, .int .i64 0, .int .i64 0, .int .i64 0, .int .i64 0, .int .i64 0, .int .i64 0, .int .i64 0, .int .i64 0, .int .i64 0, .int .i64 0, .int .i64 0, .int .i64 0, .int .i64 0, .int .i64 0, .int .i64 0, .nilsl, .bool false, .int .i64 0, .int .i64 LB.gen, .int .i64 LB.base, .str LB.text, .int .i64 (LB.first 0), .int .i64 (LB.first 1), .int .i64 (LB.first 2), .int .i64 (LB.first 3), .int .i64 (LB.first 4), .int .i64 (LB.first 5), .int .i64 (LB.first 6), .int .i64 (LB.first 7), .int .i64 (LB.first 8), .int .i64 (LB.first 9), .int .i64 (LB.first 10), .int .i64 (LB.first 11), .int .i64 (LB.first 12), .int .i64 (LB.first 13), .int .i64 (LB.first 14), .int .i64 (LB.first 15), .int .i64 (LB.table 0), .int .i64 (LB.table 1), .int .i64 (LB.table 2), .int .i64 (LB.table 3), .int .i64 (LB.table 4), .int .i64 (LB.table 5), .int .i64 (LB.table 6), .int .i64 (LB.table 7), .int .i64 (LB.table 8), .int .i64 (LB.table 9), .int .i64 (LB.table 10), .int .i64 (LB.table 11), .int .i64 (LB.table 12), .int .i64 (LB.table 13), .int .i64 (LB.table 14), .int .i64 (LB.table 15), .own 1000201 GB.ba 3 GB.n, .bool LB.whole, .int .i64 LB.good]]⟩), (1000201, obV GB.ba GB.rows)]
      | .sn GA _ _ => [(1, ⟨some βa, 26, 4, [[.str a1, .int .i64 a2, .str b1, .int .i64 b2]]⟩), (6, ⟨some β2, 82, 76, [[.int .i64 LA.gen, .int .i64 LA.base, .str LA.text, .int .i64 (LA.first 0), .int .i64 (LA.first 1), .int .i64 (LA.first 2), .int .i64 (LA.first 3), .int .i64 (LA.first 4), .int .i64 (LA.first 5), .int .i64 (LA.first 6), .int .i64 (LA.first 7), .int .i64 (LA.first 8), .int .i64 (LA.first 9), .int .i64 (LA.first 10), .int .i64 (LA.first 11), .int .i64 (LA.first 12), .int .i64 (LA.first 13), .int .i64 (LA.first 14), .int .i64 (LA.first 15), .int .i64 (LA.table 0), .int .i64 (LA.table 1), .int .i64 (LA.table 2), .int .i64 (LA.table 3), .int .i64 (LA.table 4), .int .i64 (LA.table 5), .int .i64 (LA.table 6), .int .i64 (LA.table 7), .int .i64 (LA.table 8), .int .i64 (LA.table 9), .int .i64 (LA.table 10), .int .i64 (LA.table 11), .int .i64 (LA.table 12), .int .i64 (LA.table 13), .int .i64 (LA.table 14), .int .i64 (LA.table 15), .own 1000200 GA.ba 3 GA.n, .bool LA.whole, .int .i64 LA.good, .int .i64 0, .int .i64 0, .str [], .int .i64 0, .int .i64 0, .int .i64 0, .int .i64 0, .int .i64 0, .int .i64 0, .int .i64 0, .int .i64 0, .int .i64 0, .int .i64 0, .int .i64 0, .int .i64 0, .int .i64 0, .int .i64 0, .int .i64 0, .int .i64 0, .int .i64 0, .int .i64 0, .int .i64 0, .int .i64 0, .int .i64 0, .int .i64 0, .int .i64 0, .int .i64 0, .int .i64 0, .int .i64 0, .int .i64 0, .int .i64 0, .int .i64 0, .int .i64 0, .int .i64 0, .int .i64 0, .nilsl, .bool false, .int .i64 0]]⟩), (1000200, obV GA.ba GA.rows)]
      | .ss GA GB _ _ _ => [(1, ⟨some βa, 26, 4, [[.str a1, .int .i64 a2, .str b1, .int .i64 b2]]⟩), (6, ⟨some β2, 82, 76, [[.int .i64 LA.gen, .int .i64 LA.base, .str LA.text, .int .i64 (LA.first 0), .int .i64 (LA.first 1), .int .i64 (LA.first 2), .int .i64 (LA.first 3), .int .i64 (LA.first 4), .int .i64 (LA.first 5), .int .i64 (LA.first 6), .int .i64 (LA.first 7), .int .i64 (LA.first 8), .int .i64 (LA.first 9), .int .i64 (LA.first 10), .int .i64 (LA.first 11), .int .i64 (LA.first 12), .int .i64 (LA.first 13), .int .i64 (LA.first 14), .int .i64 (LA.first 15), .int .i64 (LA.table 0), .int .i64 (LA.table 1), .int .i64 (LA.table 2), .int .i64 (LA.table 3), .int .i64 (LA.table 4), .int .i64 (LA.table 5), .int .i64 (LA.table 6), .int .i64 (LA.table 7), .int .i64 (LA.table 8), .int .i64 (LA.table 9), .int .i64 (LA.table 10), .int .i64 (LA.table 11), .int .i64 (LA.table 12), .int .i64 (LA.table 13), .int .i64 (LA.table 14), .int .i64 (LA.table 15), .own 1000200 GA.ba 3 GA.n, .bool LA.whole, .int .i64 LA.good, .int .i64 LB.gen, .int .i64 LB.base, .str LB.text, .int .i64 (LB.first 0), .int .i64 (LB.first 1), .int .i64 (LB.first 2), .int .i64 (LB.first 3), .int .i64 (LB.first 4), .int .i64 (LB.first 5), .int .i64 (LB.first 6), .int .i64 (LB.first 7), .int .i64 (LB.first 8), .int .i64 (LB.first 9), .int .i64 (LB.first 10), .int .i64 (LB.first 11), .int .i64 (LB.first 12), .int .i64 (LB.first 13), .int .i64 (LB.first 14), .int .i64 (LB.first 15), .int .i64 (LB.table 0), .int .i64 (LB.table 1), .int .i64 (LB.table 2), .int .i64 (LB.table 3), .int .i64 (LB.table 4), .int .i64 (LB.table 5), .int .i64 (LB.table 6), .int .i64 (LB.table 7), .int .i64 (LB.table 8), .int .i64 (LB.table 9), .int .i64 (LB.table 10), .int .i64 (LB.table 11), .int .i64 (LB.table 12), .int .i64 (LB.table 13), .int .i64 (LB.table 14), .int .i64 (LB.table 15), .own 1000201 GB.ba 3 GB.n, .bool LB.whole, .int .i64 LB.good]]⟩), (1000200, obV GA.ba GA.rows), (1000201, obV GB.ba GB.rows)]
      | .st GA GB _ _ _ => [(1, ⟨some βa, 26, 4, [[.str a1, .int .i64 a2, .str b1, .int .i64 b2]]⟩), (6, ⟨some β2, 82, 76, [[.int .i64 LA.gen, .int .i64 LA.base, .str LA.text, .int .i64 (LA.first 0), .int .i64 (LA.first 1), .int .i64 (LA.first 2), .int .i64 (LA.first 3), .int .i64 (LA.first 4), .int .i64 (LA.first 5), .int .i64 (LA.first 6), .int .i64 (LA.first 7), .int .i64 (LA.first 8), .int .i64 (LA.first 9), .int .i64 (LA.first 10), .int .i64 (LA.first 11), .int .i64 (LA.first 12), .int .i64 (LA.first 13), .int .i64 (LA.first 14), .int .i64 (LA.first 15), .int .i64 (LA.table 0), .int .i64 (LA.table 1), .int .i64 (LA.table 2), .int .i64 (LA.table 3), .int .i64 (LA.table 4), .int .i64 (LA.table 5), .int .i64 (LA.table 6), .int .i64 (LA.table 7), .int .i64 (LA.table 8), .int .i64 (LA.table 9), .int .i64 (LA.table 10), .int .i64 (LA.table 11), .int .i64 (LA.table 12), .int .i64 (LA.table 13), .int .i64 (LA.table 14), .int .i64 (LA.table 15), .own 1000200 GA.ba 3 GA.n, .bool LA.whole, .int .i64 LA.good, .int .i64 LB.gen, .int .i64 LB.base, .str LB.text, .int .i64 (LB.first 0), .int .i64 (LB.first 1), .int .i64 (LB.first 2), .int .i64 (LB.first 3), .int .i64 (LB.first 4), .int .i64 (LB.first 5), .int .i64 (LB.first 6), .int .i64 (LB.first 7), .int .i64 (LB.first 8), .int .i64 (LB.first 9), .int .i64 (LB.first 10), .int .i64 (LB.first 11), .int .i64 (LB.first 12), .int .i64 (LB.first 13), .int .i64 (LB.first 14), .int .i64 (LB.first 15), .int .i64 (LB.table 0), .int .i64 (LB.table 1), .int .i64 (LB.table 2), .int .i64 (LB.table 3), .int .i64 (LB.table 4), .int .i64 (LB.table 5), .int .i64 (LB.table 6), .int .i64 (LB.table 7), .int .i64 (LB.table 8), .int .i64 (LB.table 9), .int .i64 (LB.table 10), .int .i64 (LB.table 11), .int .i64 (LB.table 12), .int .i64 (LB.table 13), .int .i64 (LB.table 14), .int .i64 (LB.table 15), .own 1000201 GB.ba 3 GB.n, .bool LB.whole, .int .i64 LB.good]]⟩), (1000200, obV GA.ba GA.rows), (1000201, obV GB.ba GB.rows)],
    fun y => match y with | .y0 => 2 | .n1 _ => 1 | .s1 _ _ => 1 | _ => 0,
    ⟨_, Ent.refl _, .y0, ⟨rfl, rfl, rfl, rfl, rfl, trivial⟩, ⟨rfl, rfl, trivial⟩⟩, ?_⟩
  rintro (_ | hnA | ⟨GA, hgA⟩ | ⟨hnA, hnB⟩ | ⟨hnA, GB, hgB⟩ | ⟨GA, hgA, hnB⟩ | ⟨GA, GB, hgA, hgB, hlt⟩ | ⟨GA, GB, hgA, hgB, hlt⟩)
  · cbv
    refine br_tt (lt_T hP (by decide)) ?_
    cbv
    repeat' (first
    | (refine And.intro (by first | assumption | decide) ?_; try cbv)
    | (refine ⟨0, n0, ?_⟩; try cbv)
    | (intro β9; try cbv))
    refine hrd 1000200 _ _ _ hla rfl fun L' e' ba n rows hLe hn hrows => ?_
    rw [hA] at hLe
    obtain ⟨rfl, rfl⟩ : L' = LA ∧ e' = eA := ⟨congrArg Prod.fst hLe, congrArg Prod.snd hLe⟩
    refine ⟨fun he => ?_, fun he => ?_, fun he => ?_⟩
    · cbv
      repeat' (first
    | (refine And.intro (by first | assumption | decide) ?_; try cbv)
    | (intro β9; try cbv))
      refine br_ff (ne_F hP he) ?_
      cbv
      repeat' (first
    | (refine And.intro (by first | assumption | decide) ?_; try cbv)
    | (intro β9; try cbv))
      refine br_cases (fun g => ?_) (fun g => ?_)
      · have hw : L'.whole = true := g
        have hg0 : goodL (L', e') := ⟨he, hw⟩
        cbv
        repeat' (first
    | (refine And.intro (by first | assumption | decide) ?_; try cbv)
    | (refine ⟨0, n0, ?_⟩; try cbv)
    | (intro β9; try cbv))
        refine br_tt (lt_T hP (by decide)) ?_
        cbv
        repeat' (first
    | (refine And.intro (by first | assumption | decide) ?_; try cbv)
    | (intro β9; try cbv))
        rw [c3]
        exact ⟨_, Ent.refl _, .s1 ⟨ba, n, rows, hn, hrows⟩ hg0, ⟨rfl, rfl, rfl, rfl, rfl, trivial⟩, ⟨rfl, rfl, rfl, trivial⟩, Nat.lt_add_one 1⟩
      · have hw : L'.whole = false := g
        have hg0 : ¬ goodL (L', e') := fun hh => by have := hh.2; rw [hw] at this; cases this
        cbv
        repeat' (first
    | (refine And.intro (by first | assumption | decide) ?_; try cbv)
    | (intro β9; try cbv))
        rw [c3]
        exact ⟨_, Ent.refl _, .n1 hg0, ⟨rfl, rfl, rfl, rfl, rfl, trivial⟩, ⟨rfl, rfl, trivial⟩, Nat.lt_add_one 1⟩
    · have hg0 : ¬ goodL (L', e') := fun hh => he hh.1
      cbv
      repeat' (first
    | (refine And.intro (by first | assumption | decide) ?_; try cbv)
    | (intro β9; try cbv))
      refine br_tt (ne_T hP he) ?_
      cbv
      repeat' (first
    | (refine And.intro (by first | assumption | decide) ?_; try cbv)
    | (intro β9; try cbv))
      rw [c3]
      exact ⟨_, Ent.refl _, .n1 hg0, ⟨rfl, rfl, rfl, rfl, rfl, trivial⟩, ⟨rfl, rfl, trivial⟩, Nat.lt_add_one 1⟩
    · have hg0 : ¬ goodL (L', e') := fun hh => he hh.1
      cbv
      repeat' (first
    | (refine And.intro (by first | assumption | decide) ?_; try cbv)
    | (intro β9; try cbv))
      refine br_tt (ne_T hP he) ?_
      cbv
      repeat' (first
    | (refine And.intro (by first | assumption | decide) ?_; try cbv)
    | (intro β9; try cbv))
      rw [c3]
      exact ⟨_, Ent.refl _, .n1 hg0, ⟨rfl, rfl, rfl, rfl, rfl, trivial⟩, ⟨rfl, rfl, trivial⟩, Nat.lt_add_one 1⟩
  · cbv
    refine br_tt (lt_T hP (by decide)) ?_
    cbv
    repeat' (first
    | (refine And.intro (by first | assumption | decide) ?_; try cbv)
    | (refine ⟨1, n1, ?_⟩; try cbv)
    | (intro β9; try cbv))
    refine hrd 1000201 _ _ _ hlb rfl fun L' e' ba n rows hLe hn hrows => ?_
    rw [hB] at hLe
    obtain ⟨rfl, rfl⟩ : L' = LB ∧ e' = eB := ⟨congrArg Prod.fst hLe, congrArg Prod.snd hLe⟩
    refine ⟨fun he => ?_, fun he => ?_, fun he => ?_⟩
    · cbv
      repeat' (first
    | (refine And.intro (by first | assumption | decide) ?_; try cbv)
    | (intro β9; try cbv))
      refine br_ff (ne_F hP he) ?_
      cbv
      repeat' (first
    | (refine And.intro (by first | assumption | decide) ?_; try cbv)
    | (intro β9; try cbv))
      refine br_cases (fun g => ?_) (fun g => ?_)
      · have hw : L'.whole = true := g
        have hg0 : goodL (L', e') := ⟨he, hw⟩
        cbv
        repeat' (first
    | (refine And.intro (by first | assumption | decide) ?_; try cbv)
    | (refine ⟨1, n1, ?_⟩; try cbv)
    | (intro β9; try cbv))
        refine br_tt (lt_T hP (by decide)) ?_
        cbv
        repeat' (first
    | (refine And.intro (by first | assumption | decide) ?_; try cbv)
    | (intro β9; try cbv))
        rw [c4]
        exact ⟨_, Ent.refl _, .ns hnA ⟨ba, n, rows, hn, hrows⟩ hg0, ⟨rfl, rfl, rfl, rfl, rfl, trivial⟩, ⟨rfl, rfl, rfl, trivial⟩, Nat.lt_add_one 0⟩
      · have hw : L'.whole = false := g
        have hg0 : ¬ goodL (L', e') := fun hh => by have := hh.2; rw [hw] at this; cases this
        cbv
        repeat' (first
    | (refine And.intro (by first | assumption | decide) ?_; try cbv)
    | (intro β9; try cbv))
        rw [c4]
        exact ⟨_, Ent.refl _, .nn hnA hg0, ⟨rfl, rfl, rfl, rfl, rfl, trivial⟩, ⟨rfl, rfl, trivial⟩, Nat.lt_add_one 0⟩
    · have hg0 : ¬ goodL (L', e') := fun hh => he hh.1
      cbv
      repeat' (first
    | (refine And.intro (by first | assumption | decide) ?_; try cbv)
    | (intro β9; try cbv))
      refine br_tt (ne_T hP he) ?_
      cbv
      repeat' (first
    | (refine And.intro (by first | assumption | decide) ?_; try cbv)
    | (intro β9; try cbv))
      rw [c4]
      exact ⟨_, Ent.refl _, .nn hnA hg0, ⟨rfl, rfl, rfl, rfl, rfl, trivial⟩, ⟨rfl, rfl, trivial⟩, Nat.lt_add_one 0⟩
    · have hg0 : ¬ goodL (L', e') := fun hh => he hh.1
      cbv
      repeat' (first
    | (refine And.intro (by first | assumption | decide) ?_; try cbv)
    | (intro β9; try cbv))
      refine br_tt (ne_T hP he) ?_
      cbv
      repeat' (first
    | (refine And.intro (by first | assumption | decide) ?_; try cbv)
    | (intro β9; try cbv))
      rw [c4]
      exact ⟨_, Ent.refl _, .nn hnA hg0, ⟨rfl, rfl, rfl, rfl, rfl, trivial⟩, ⟨rfl, rfl, trivial⟩, Nat.lt_add_one 0⟩
  · cbv
    refine br_tt (lt_T hP (by decide)) ?_
    cbv
    repeat' (first
    | (refine And.intro (by first | assumption | decide) ?_; try cbv)
    | (refine ⟨1, n1, ?_⟩; try cbv)
    | (intro β9; try cbv))
    refine hrd 1000201 _ _ _ hlb rfl fun L' e' ba n rows hLe hn hrows => ?_
    rw [hB] at hLe
    obtain ⟨rfl, rfl⟩ : L' = LB ∧ e' = eB := ⟨congrArg Prod.fst hLe, congrArg Prod.snd hLe⟩
    refine ⟨fun he => ?_, fun he => ?_, fun he => ?_⟩
    · cbv
      repeat' (first
    | (refine And.intro (by first | assumption | decide) ?_; try cbv)
    | (intro β9; try cbv))
      refine br_ff (ne_F hP he) ?_
      cbv
      repeat' (first
    | (refine And.intro (by first | assumption | decide) ?_; try cbv)
    | (intro β9; try cbv))
      refine br_cases (fun g => ?_) (fun g => ?_)
      · have hw : L'.whole = true := g
        have hg0 : goodL (L', e') := ⟨he, hw⟩
        cbv
        repeat' (first
    | (refine And.intro (by first | assumption | decide) ?_; try cbv)
    | (refine ⟨1, n1, ?_⟩; try cbv)
    | (intro β9; try cbv))
        refine br_ff (lt_F hP (by decide)) ?_
        cbv
        repeat' (first
    | (refine And.intro (by first | assumption | decide) ?_; try cbv)
    | (refine ⟨0, n0, ?_⟩; try cbv)
    | (intro β9; try cbv))
        refine br_cases (fun g => ?_) (fun g => ?_)
        · have hlt : LA.gen < L'.gen := lt_t hP g
          cbv
          repeat' (first
    | (refine And.intro (by first | assumption | decide) ?_; try cbv)
    | (intro β9; try cbv))
          rw [c4]
          exact ⟨_, Ent.refl _, .st GA ⟨ba, n, rows, hn, hrows⟩ hgA hg0 hlt, ⟨rfl, rfl, rfl, rfl, rfl, trivial⟩, ⟨rfl, rfl, rfl, rfl, trivial⟩, Nat.lt_add_one 0⟩
        · have hlt : ¬ LA.gen < L'.gen := lt_f hP g
          cbv
          repeat' (first
    | (refine And.intro (by first | assumption | decide) ?_; try cbv)
    | (intro β9; try cbv))
          rw [c4]
          exact ⟨_, Ent.refl _, .ss GA ⟨ba, n, rows, hn, hrows⟩ hgA hg0 hlt, ⟨rfl, rfl, rfl, rfl, rfl, trivial⟩, ⟨rfl, rfl, rfl, rfl, trivial⟩, Nat.lt_add_one 0⟩
      · have hw : L'.whole = false := g
        have hg0 : ¬ goodL (L', e') := fun hh => by have := hh.2; rw [hw] at this; cases this
        cbv
        repeat' (first
    | (refine And.intro (by first | assumption | decide) ?_; try cbv)
    | (intro β9; try cbv))
        rw [c4]
        exact ⟨_, Ent.refl _, .sn GA hgA hg0, ⟨rfl, rfl, rfl, rfl, rfl, trivial⟩, ⟨rfl, rfl, rfl, trivial⟩, Nat.lt_add_one 0⟩
    · have hg0 : ¬ goodL (L', e') := fun hh => he hh.1
      cbv
      repeat' (first
    | (refine And.intro (by first | assumption | decide) ?_; try cbv)
    | (intro β9; try cbv))
      refine br_tt (ne_T hP he) ?_
      cbv
      repeat' (first
    | (refine And.intro (by first | assumption | decide) ?_; try cbv)
    | (intro β9; try cbv))
      rw [c4]
      exact ⟨_, Ent.refl _, .sn GA hgA hg0, ⟨rfl, rfl, rfl, rfl, rfl, trivial⟩, ⟨rfl, rfl, rfl, trivial⟩, Nat.lt_add_one 0⟩
    · have hg0 : ¬ goodL (L', e') := fun hh => he hh.1
      cbv
      repeat' (first
    | (refine And.intro (by first | assumption | decide) ?_; try cbv)
    | (intro β9; try cbv))
      refine br_tt (ne_T hP he) ?_
      cbv
      repeat' (first
    | (refine And.intro (by first | assumption | decide) ?_; try cbv)
    | (intro β9; try cbv))
      rw [c4]
      exact ⟨_, Ent.refl _, .sn GA hgA hg0, ⟨rfl, rfl, rfl, rfl, rfl, trivial⟩, ⟨rfl, rfl, rfl, trivial⟩, Nat.lt_add_one 0⟩
  · have hY2 : Y = ⟨Z0, [], 12⟩ := by rw [hY]; unfold openG; rw [if_neg hnA, if_neg hnB]
    cbv
    refine br_ff (lt_F hP (by decide)) ?_
    cbv
    repeat' (first
    | (refine And.intro (by first | assumption | decide) ?_; try cbv)
    | (intro β9; try cbv))
    refine br_tt (lt_T hP (by decide)) ?_
    cbv
    repeat' (first
    | (refine And.intro (by first | assumption | decide) ?_; try cbv)
    | (intro β9; try cbv))
    exact hE _ _ _ (by rw [hY2]) (by decide) (Ent.refl _) rfl
  · have hY2 : Y = ⟨openD a1 a2 b1 b2 1 LB, LB.revs, 0⟩ := by rw [hY]; unfold openG; rw [if_neg hnA, if_pos hgB]
    have hok := oB hgB.1
    obtain ⟨gba, gn, grows, ghn, ghrows⟩ := GB
    have p1 : P.i64 (P.sub 1 1) := by rw [sub_eq hP]; exact i64I hP (by decide)
    have p2 : P.sub 1 1 = 1 - 1 := sub_eq hP _ _
    have hgn2 : gn ≤ 1000 := by rw [ghn]; exact hok.n
    cbv
    refine br_ff (lt_F hP (by decide)) ?_
    cbv
    repeat' (first
    | (refine And.intro (by first | assumption | decide) ?_; try cbv)
    | (intro β9; try cbv))
    refine br_ff (lt_F hP (by decide)) ?_
    cbv
    repeat' (first
    | (refine And.intro (by first | assumption | decide) ?_; try cbv)
    | (refine ⟨1, n1, ?_⟩; try cbv)
    | (intro β9; try cbv))
    refine htrm 60 _ (⟨a1, a2, b1, b2, 1, LB.gen, LB.base, LB.text, LB.first, LB.table, LB.whole, LB.good, [], 0, false⟩ : SC) (.own 1000201 gba 3 gn) .nil _ _ _ _ ⟨⟨.own _ _ _ _, rfl⟩, .nil, rfl⟩ rfl rfl rfl fun d1 hd1 => ?_
    cbv
    repeat' (first
    | (refine And.intro (by first | assumption | decide) ?_; try cbv)
    | (intro β9; try cbv))
    refine htrm 60 _ d1 (.own 1000201 gba 3 gn) .nil _ _ _ _ ⟨⟨.own _ _ _ _, rfl⟩, .nil, rfl⟩ rfl rfl rfl fun d2 hd2 => ?_
    have hd2 : d2 = trmS d1 (P.sub 1 1) 0 := hd2
    rw [p2] at hd2
    cbv
    repeat' (first
    | (refine And.intro (by first | assumption | decide) ?_; try cbv)
    | (intro β9; try cbv))
    refine hsyn 60 _ d2 (.own 1000201 gba 3 gn) .nil _ _ _ ⟨⟨.own _ _ _ _, rfl⟩, .nil, rfl⟩ rfl rfl rfl fun d3 hd3 => ?_
    have htx3 : d3.tx = LB.text := by rw [hd3, hd2, hd1]; rfl
    have hb3 : d3.b = LB.base := by rw [hd3, hd2, hd1]; rfl
    cbv
    repeat' (first
    | (refine And.intro (by first | assumption | decide) ?_; try cbv)
    | (intro β9; try cbv))
    refine htx 1000201 gba gn grows LB.revs _ _ _ _ ghrows ghn hok.rv rfl fun x y hx hy => ?_
    have hx : x = (textF d3.tx LB.revs (P.int gn)).1 := hx
    rw [htx3, int_eq hP, ghn] at hx
    cbv
    repeat' (first
    | (refine And.intro (by first | assumption | decide) ?_; try cbv)
    | (intro β9; try cbv))
    refine hhd 60 _ { d3 with now := x } 1000201 gba gn .nil _ _ (by rw [show ({ d3 with now := x } : SC).b = LB.base from hb3]; exact hok.b) hgn2 ⟨.nil, rfl⟩ rfl rfl rfl fun q hq => ?_
    have hq : q = d3.b + (gn : Int) := hq
    rw [hb3, ghn] at hq
    cbv
    repeat' (first
    | (refine And.intro (by first | assumption | decide) ?_; try cbv)
    | (intro β9; try cbv))
    refine hR _ _ _ gba gn grows { d3 with now := x, sf := q } (by rw [hY2, hq, hx, hd3, hd2, hd1]; rfl) (by rw [hY2]) (by rw [hY2]; exact ghn) (by rw [hY2]; exact ghrows)
      (Ent.trans (Ent.nilOb _ 999 124 3) (Ent.renL [(60, 60, obSh _ (rowS { d3 with now := x, sf := q } (.own 1000200 gba 3 gn) .nil)), (1000200, 1000201, obV gba grows), (999, 999, ⟨none, 124, 3, []⟩)] (by show ([60, 1000201, 999] : List Nat).Nodup; decide) ⟨⟨_, rfl, rfl, rfl⟩, ⟨_, rfl, rfl, rfl⟩, ⟨_, rfl, rfl, rfl⟩, trivial⟩)) rfl ⟨rfl, rfl, rfl, trivial⟩
  · have hY2 : Y = ⟨openD a1 a2 b1 b2 0 LA, LA.revs, 0⟩ := by rw [hY]; unfold openG; rw [if_pos hgA, if_neg (fun hh => hnB hh.1)]
    have hok := oA hgA.1
    obtain ⟨gba, gn, grows, ghn, ghrows⟩ := GA
    have p1 : P.i64 (P.sub 1 0) := by rw [sub_eq hP]; exact i64I hP (by decide)
    have p2 : P.sub 1 0 = 1 - 0 := sub_eq hP _ _
    have hgn2 : gn ≤ 1000 := by rw [ghn]; exact hok.n
    cbv
    refine br_ff (lt_F hP (by decide)) ?_
    cbv
    repeat' (first
    | (refine And.intro (by first | assumption | decide) ?_; try cbv)
    | (intro β9; try cbv))
    refine br_ff (lt_F hP (by decide)) ?_
    cbv
    repeat' (first
    | (refine And.intro (by first | assumption | decide) ?_; try cbv)
    | (refine ⟨0, n0, ?_⟩; try cbv)
    | (intro β9; try cbv))
    refine htrm 60 _ (⟨a1, a2, b1, b2, 0, LA.gen, LA.base, LA.text, LA.first, LA.table, LA.whole, LA.good, [], 0, false⟩ : SC) (.own 1000200 gba 3 gn) .nil _ _ _ _ ⟨⟨.own _ _ _ _, rfl⟩, .nil, rfl⟩ rfl rfl rfl fun d1 hd1 => ?_
    cbv
    repeat' (first
    | (refine And.intro (by first | assumption | decide) ?_; try cbv)
    | (intro β9; try cbv))
    refine htrm 60 _ d1 (.own 1000200 gba 3 gn) .nil _ _ _ _ ⟨⟨.own _ _ _ _, rfl⟩, .nil, rfl⟩ rfl rfl rfl fun d2 hd2 => ?_
    have hd2 : d2 = trmS d1 (P.sub 1 0) 0 := hd2
    rw [p2] at hd2
    cbv
    repeat' (first
    | (refine And.intro (by first | assumption | decide) ?_; try cbv)
    | (intro β9; try cbv))
    refine hsyn 60 _ d2 (.own 1000200 gba 3 gn) .nil _ _ _ ⟨⟨.own _ _ _ _, rfl⟩, .nil, rfl⟩ rfl rfl rfl fun d3 hd3 => ?_
    have htx3 : d3.tx = LA.text := by rw [hd3, hd2, hd1]; rfl
    have hb3 : d3.b = LA.base := by rw [hd3, hd2, hd1]; rfl
    cbv
    repeat' (first
    | (refine And.intro (by first | assumption | decide) ?_; try cbv)
    | (intro β9; try cbv))
    refine htx 1000200 gba gn grows LA.revs _ _ _ _ ghrows ghn hok.rv rfl fun x y hx hy => ?_
    have hx : x = (textF d3.tx LA.revs (P.int gn)).1 := hx
    rw [htx3, int_eq hP, ghn] at hx
    cbv
    repeat' (first
    | (refine And.intro (by first | assumption | decide) ?_; try cbv)
    | (intro β9; try cbv))
    refine hhd 60 _ { d3 with now := x } 1000200 gba gn .nil _ _ (by rw [show ({ d3 with now := x } : SC).b = LA.base from hb3]; exact hok.b) hgn2 ⟨.nil, rfl⟩ rfl rfl rfl fun q hq => ?_
    have hq : q = d3.b + (gn : Int) := hq
    rw [hb3, ghn] at hq
    cbv
    repeat' (first
    | (refine And.intro (by first | assumption | decide) ?_; try cbv)
    | (intro β9; try cbv))
    refine hR _ _ _ gba gn grows { d3 with now := x, sf := q } (by rw [hY2, hq, hx, hd3, hd2, hd1]; rfl) (by rw [hY2]) (by rw [hY2]; exact ghn) (by rw [hY2]; exact ghrows)
      (Ent.trans (Ent.nilOb _ 999 124 3) (Ent.renL [(60, 60, obSh _ (rowS { d3 with now := x, sf := q } (.own 1000200 gba 3 gn) .nil)), (1000200, 1000200, obV gba grows), (999, 999, ⟨none, 124, 3, []⟩)] (by show ([60, 1000200, 999] : List Nat).Nodup; decide) ⟨⟨_, rfl, rfl, rfl⟩, ⟨_, rfl, rfl, rfl⟩, ⟨_, rfl, rfl, rfl⟩, trivial⟩)) rfl ⟨rfl, rfl, rfl, trivial⟩
  · have hY2 : Y = ⟨openD a1 a2 b1 b2 0 LA, LA.revs, 0⟩ := by rw [hY]; unfold openG; rw [if_pos hgA, if_neg (fun hh => hlt hh.2)]
    have hok := oA hgA.1
    obtain ⟨gba, gn, grows, ghn, ghrows⟩ := GA
    have p1 : P.i64 (P.sub 1 0) := by rw [sub_eq hP]; exact i64I hP (by decide)
    have p2 : P.sub 1 0 = 1 - 0 := sub_eq hP _ _
    have hgn2 : gn ≤ 1000 := by rw [ghn]; exact hok.n
    cbv
    refine br_ff (lt_F hP (by decide)) ?_
    cbv
    repeat' (first
    | (refine And.intro (by first | assumption | decide) ?_; try cbv)
    | (intro β9; try cbv))
    refine br_ff (lt_F hP (by decide)) ?_
    cbv
    repeat' (first
    | (refine And.intro (by first | assumption | decide) ?_; try cbv)
    | (refine ⟨0, n0, ?_⟩; try cbv)
    | (intro β9; try cbv))
    refine htrm 60 _ (⟨a1, a2, b1, b2, 0, LA.gen, LA.base, LA.text, LA.first, LA.table, LA.whole, LA.good, [], 0, false⟩ : SC) (.own 1000200 gba 3 gn) .nil _ _ _ _ ⟨⟨.own _ _ _ _, rfl⟩, .nil, rfl⟩ rfl rfl rfl fun d1 hd1 => ?_
    cbv
    repeat' (first
    | (refine And.intro (by first | assumption | decide) ?_; try cbv)
    | (intro β9; try cbv))
    refine htrm 60 _ d1 (.own 1000200 gba 3 gn) .nil _ _ _ _ ⟨⟨.own _ _ _ _, rfl⟩, .nil, rfl⟩ rfl rfl rfl fun d2 hd2 => ?_
    have hd2 : d2 = trmS d1 (P.sub 1 0) 0 := hd2
    rw [p2] at hd2
    cbv
    repeat' (first
    | (refine And.intro (by first | assumption | decide) ?_; try cbv)
    | (intro β9; try cbv))
    refine hsyn 60 _ d2 (.own 1000200 gba 3 gn) .nil _ _ _ ⟨⟨.own _ _ _ _, rfl⟩, .nil, rfl⟩ rfl rfl rfl fun d3 hd3 => ?_
    have htx3 : d3.tx = LA.text := by rw [hd3, hd2, hd1]; rfl
    have hb3 : d3.b = LA.base := by rw [hd3, hd2, hd1]; rfl
    cbv
    repeat' (first
    | (refine And.intro (by first | assumption | decide) ?_; try cbv)
    | (intro β9; try cbv))
    refine htx 1000200 gba gn grows LA.revs _ _ _ _ ghrows ghn hok.rv rfl fun x y hx hy => ?_
    have hx : x = (textF d3.tx LA.revs (P.int gn)).1 := hx
    rw [htx3, int_eq hP, ghn] at hx
    cbv
    repeat' (first
    | (refine And.intro (by first | assumption | decide) ?_; try cbv)
    | (intro β9; try cbv))
    refine hhd 60 _ { d3 with now := x } 1000200 gba gn .nil _ _ (by rw [show ({ d3 with now := x } : SC).b = LA.base from hb3]; exact hok.b) hgn2 ⟨.nil, rfl⟩ rfl rfl rfl fun q hq => ?_
    have hq : q = d3.b + (gn : Int) := hq
    rw [hb3, ghn] at hq
    cbv
    repeat' (first
    | (refine And.intro (by first | assumption | decide) ?_; try cbv)
    | (intro β9; try cbv))
    refine hR _ _ _ gba gn grows { d3 with now := x, sf := q } (by rw [hY2, hq, hx, hd3, hd2, hd1]; rfl) (by rw [hY2]) (by rw [hY2]; exact ghn) (by rw [hY2]; exact ghrows)
      (Ent.trans (Ent.nilOb _ 999 124 3) (Ent.renL [(60, 60, obSh _ (rowS { d3 with now := x, sf := q } (.own 1000200 gba 3 gn) .nil)), (1000200, 1000200, obV gba grows), (999, 999, ⟨none, 124, 3, []⟩)] (by show ([60, 1000200, 999] : List Nat).Nodup; decide) ⟨⟨_, rfl, rfl, rfl⟩, ⟨_, rfl, rfl, rfl⟩, ⟨_, rfl, rfl, rfl⟩, trivial⟩)) rfl ⟨rfl, rfl, rfl, trivial⟩
  · have hY2 : Y = ⟨openD a1 a2 b1 b2 1 LB, LB.revs, 0⟩ := by rw [hY]; unfold openG; rw [if_pos hgA, if_pos ⟨hgB, hlt⟩]
    have hok := oB hgB.1
    obtain ⟨gba, gn, grows, ghn, ghrows⟩ := GB
    have p1 : P.i64 (P.sub 1 1) := by rw [sub_eq hP]; exact i64I hP (by decide)
    have p2 : P.sub 1 1 = 1 - 1 := sub_eq hP _ _
    have hgn2 : gn ≤ 1000 := by rw [ghn]; exact hok.n
    cbv
    refine br_ff (lt_F hP (by decide)) ?_
    cbv
    repeat' (first
    | (refine And.intro (by first | assumption | decide) ?_; try cbv)
    | (intro β9; try cbv))
    refine br_ff (lt_F hP (by decide)) ?_
    cbv
    repeat' (first
    | (refine And.intro (by first | assumption | decide) ?_; try cbv)
    | (refine ⟨1, n1, ?_⟩; try cbv)
    | (intro β9; try cbv))
    refine htrm 60 _ (⟨a1, a2, b1, b2, 1, LB.gen, LB.base, LB.text, LB.first, LB.table, LB.whole, LB.good, [], 0, false⟩ : SC) (.own 1000201 gba 3 gn) .nil _ _ _ _ ⟨⟨.own _ _ _ _, rfl⟩, .nil, rfl⟩ rfl rfl rfl fun d1 hd1 => ?_
    cbv
    repeat' (first
    | (refine And.intro (by first | assumption | decide) ?_; try cbv)
    | (intro β9; try cbv))
    refine htrm 60 _ d1 (.own 1000201 gba 3 gn) .nil _ _ _ _ ⟨⟨.own _ _ _ _, rfl⟩, .nil, rfl⟩ rfl rfl rfl fun d2 hd2 => ?_
    have hd2 : d2 = trmS d1 (P.sub 1 1) 0 := hd2
    rw [p2] at hd2
    cbv
    repeat' (first
    | (refine And.intro (by first | assumption | decide) ?_; try cbv)
    | (intro β9; try cbv))
    refine hsyn 60 _ d2 (.own 1000201 gba 3 gn) .nil _ _ _ ⟨⟨.own _ _ _ _, rfl⟩, .nil, rfl⟩ rfl rfl rfl fun d3 hd3 => ?_
    have htx3 : d3.tx = LB.text := by rw [hd3, hd2, hd1]; rfl
    have hb3 : d3.b = LB.base := by rw [hd3, hd2, hd1]; rfl
    cbv
    repeat' (first
    | (refine And.intro (by first | assumption | decide) ?_; try cbv)
    | (intro β9; try cbv))
    refine htx 1000201 gba gn grows LB.revs _ _ _ _ ghrows ghn hok.rv rfl fun x y hx hy => ?_
    have hx : x = (textF d3.tx LB.revs (P.int gn)).1 := hx
    rw [htx3, int_eq hP, ghn] at hx
    cbv
    repeat' (first
    | (refine And.intro (by first | assumption | decide) ?_; try cbv)
    | (intro β9; try cbv))
    refine hhd 60 _ { d3 with now := x } 1000201 gba gn .nil _ _ (by rw [show ({ d3 with now := x } : SC).b = LB.base from hb3]; exact hok.b) hgn2 ⟨.nil, rfl⟩ rfl rfl rfl fun q hq => ?_
    have hq : q = d3.b + (gn : Int) := hq
    rw [hb3, ghn] at hq
    cbv
    repeat' (first
    | (refine And.intro (by first | assumption | decide) ?_; try cbv)
    | (intro β9; try cbv))
    refine hR _ _ _ gba gn grows { d3 with now := x, sf := q } (by rw [hY2, hq, hx, hd3, hd2, hd1]; rfl) (by rw [hY2]) (by rw [hY2]; exact ghn) (by rw [hY2]; exact ghrows)
      (Ent.trans (Ent.nilOb _ 999 124 3) (Ent.renL [(60, 60, obSh _ (rowS { d3 with now := x, sf := q } (.own 1000200 gba 3 gn) .nil)), (1000200, 1000201, obV gba grows), (999, 999, ⟨none, 124, 3, []⟩)] (by show ([60, 1000201, 999] : List Nat).Nodup; decide) ⟨⟨_, rfl, rfl, rfl⟩, ⟨_, rfl, rfl, rfl⟩, ⟨_, rfl, rfl, rfl⟩, trivial⟩)) rfl ⟨rfl, rfl, rfl, trivial⟩
end Go.Proofs.Ytobngncjflogcaa.AM

set_option linter.unusedVariables false
set_option linter.unusedSimpArgs false
namespace Go.Proofs.Ytobngncjflogcaa.AM
open Go Go.RowKit
set_option maxRecDepth 100000
set_option maxHeartbeats 2000000
def safOf (d : SC) (i : Int) : Int := if i = 0 then d.x2 else d.x4
def DkOk (d : SC) : Prop := diskT d.x1 d.x2 d.x3 d.x4 = 0
theorem slotT_iff {x : List UInt8} {n : Int} : slotT x n = 0 ↔ x.length ≤ 1048576 ∧ 0 ≤ n ∧ n ≤ (x.length : Int) := by
  constructor
  · exact slot_ok
  · intro h
    unfold slotT
    rw [if_neg (by omega), if_neg (by omega)]
theorem dk_iff {a1 b1 : List UInt8} {a2 b2 : Int} : diskT a1 a2 b1 b2 = 0 ↔ slotT a1 a2 = 0 ∧ slotT b1 b2 = 0 := by
  constructor
  · exact disk_ok
  · rintro ⟨h1, h2⟩
    unfold diskT
    rw [if_neg (fun h => h h1)]
    exact h2
theorem DkOk.slot {d : SC} (h : DkOk d) (i : Int) : (datOf d i).length ≤ 1048576 ∧ 0 ≤ safOf d i ∧ safOf d i ≤ ((datOf d i).length : Int) := by
  obtain ⟨h1, h2⟩ := dk_iff.1 h
  unfold datOf safOf
  split
  · exact slotT_iff.1 h1
  · exact slotT_iff.1 h2
theorem look_in {d : SC} (h : DkOk d) {i : Int} (hi : i = 0 ∨ i = 1) : lookT d.x1 d.x2 d.x3 d.x4 i = 0 := by
  unfold lookT
  rw [if_neg (fun g => g h), if_neg (by omega)]
theorem syn_ok2 {d : SC} {i : Int} (h : DkOk d) (hi : i = 0 ∨ i = 1) :
    DkOk (synS d i) ∧ (∀ j, datOf (synS d i) j = datOf d j) ∧ safOf (synS d i) i = ((datOf d i).length : Int) ∧ safOf (synS d i) (1 - i) = safOf d (1 - i) := by
  have hk := look_in h hi
  obtain ⟨h1, h2⟩ := dk_iff.1 h
  have s1 := slotT_iff.1 h1
  have s2 := slotT_iff.1 h2
  rcases hi with rfl | rfl
  · have e : synT d.x1 d.x2 d.x3 d.x4 0 = ⟨d.x1, d.x1.length, d.x3, d.x4, 0⟩ := by
      unfold synT
      rw [if_neg (fun g => g hk), if_pos rfl]
    have e2 : synS d 0 = { d with x2 := d.x1.length } := by
      unfold synS
      rw [e]
    rw [e2]
    exact ⟨dk_iff.2 ⟨(slotT_iff (x := d.x1) (n := (d.x1.length : Int))).2 (by omega), h2⟩, fun j => rfl, rfl, rfl⟩
  · have e : synT d.x1 d.x2 d.x3 d.x4 1 = ⟨d.x1, d.x2, d.x3, d.x3.length, 0⟩ := by
      unfold synT
      rw [if_neg (fun g => g hk), if_neg (by decide)]
    have e2 : synS d 1 = { d with x4 := d.x3.length } := by
      unfold synS
      rw [e]
    rw [e2]
    exact ⟨dk_iff.2 ⟨h1, (slotT_iff (x := d.x3) (n := (d.x3.length : Int))).2 (by omega)⟩, fun j => rfl, rfl, rfl⟩
theorem trm_ok2 {d : SC} {i : Int} {n : Nat} (h : DkOk d) (hi : i = 0 ∨ i = 1) (hn : n ≤ (datOf d i).length) :
    DkOk (trmS d i n) ∧ datOf (trmS d i n) i = (datOf d i).take n ∧ datOf (trmS d i n) (1 - i) = datOf d (1 - i) ∧ safOf (trmS d i n) i = min (safOf d i) n ∧ safOf (trmS d i n) (1 - i) = safOf d (1 - i) := by
  have hk := look_in h hi
  obtain ⟨h1, h2⟩ := dk_iff.1 h
  have s1 := slotT_iff.1 h1
  have s2 := slotT_iff.1 h2
  rcases hi with rfl | rfl
  · have hn : n ≤ d.x1.length := hn
    have e : trmT d.x1 d.x2 d.x3 d.x4 0 n = ⟨d.x1.take n, min d.x2 n, d.x3, d.x4, 0⟩ := by
      unfold trmT
      rw [if_neg (fun g => g hk), if_pos rfl, if_neg (by omega), Int.toNat_natCast]
    have e2 : trmS d 0 n = { d with x1 := d.x1.take n, x2 := min d.x2 n } := by
      unfold trmS
      rw [e]
    rw [e2]
    exact ⟨dk_iff.2 ⟨(slotT_iff (x := d.x1.take n) (n := min d.x2 n)).2 (by rw [List.length_take]; omega), h2⟩, rfl, rfl, rfl, rfl⟩
  · have hn : n ≤ d.x3.length := hn
    have e : trmT d.x1 d.x2 d.x3 d.x4 1 n = ⟨d.x1, d.x2, d.x3.take n, min d.x4 n, 0⟩ := by
      unfold trmT
      rw [if_neg (fun g => g hk), if_neg (by decide), if_neg (by omega), Int.toNat_natCast]
    have e2 : trmS d 1 n = { d with x3 := d.x3.take n, x4 := min d.x4 n } := by
      unfold trmS
      rw [e]
    rw [e2]
    exact ⟨dk_iff.2 ⟨h1, (slotT_iff (x := d.x3.take n) (n := min d.x4 n)).2 (by rw [List.length_take]; omega)⟩, rfl, rfl, rfl, rfl⟩
theorem revs_ok {b : Int} {tb : Nat → Int} {i : Nat} {now : List UInt8} {l : List Rev} (hc : chainOk b tb i now l) : RevsOk l ∧ (∀ r ∈ l, 0 ≤ r.who ∧ r.who ≤ 7) ∧ (∀ r ∈ l, r.delta.length ≤ 1000000000) ∧ l.length ≤ 64 := by
  have h64 : l.length ≤ 64 := by
    rcases chain_len l _ _ _ hc with rfl | h
    · simp
    · omega
  have h1 := chain_one l _ _ _ hc
  have hm : maxLen = 9223372036854775807 := by decide
  exact ⟨⟨by omega, fun r hr => (rev_ok (h1 r hr)).1⟩, fun r hr => (oneF_all (h1 r hr)).1, fun r hr => (rev_ok (h1 r hr)).2, h64⟩
end Go.Proofs.Ytobngncjflogcaa.AM

set_option linter.unusedVariables false
set_option linter.unusedSimpArgs false
namespace Go.Proofs.Ytobngncjflogcaa.AM
open Go Go.RowKit
set_option maxRecDepth 100000
set_option maxHeartbeats 2000000
def tabAt (d : SC) (l : List Rev) (f : Int) : Nat → Int := tabG d.fs d.b (l.take (f - d.b).toNat)
def txtAt (d : SC) (l : List Rev) (f : Int) : List UInt8 := nowG d.tx (l.take (f - d.b).toNat)
def sufAt (d : SC) (l : List Rev) (f : Int) : List Rev := l.drop (f - d.b).toNat
/-- a slot that is whole: its log; what is safe holds it up to a revision -/
def Main (dat : List UInt8) (saf sf g b : Int) (tx : List UInt8) (fs : Nat → Int) (l : List Rev) : Prop :=
  ∃ r1 r2 js, l = r1 ++ r2 ∧ dat = encFs (flOf g b tx fs r1 (some r2)) ∧ js ≤ r2.length ∧ saf = ((encFs (flOf g b tx fs r1 (some (r2.take js)))).length : Int) ∧ sf ≤ b + (r1.length : Int) + js
/-- the other slot -/
def Low (dat : List UInt8) (gn : Int) : Prop := ∃ g b tx t r1 o, HdOk g b tx t ∧ chainOk b t 0 tx (r1 ++ o.getD []) ∧ dat = encFs (flOf g b tx t r1 o) ∧ g < gn
def OthM (d : SC) (l : List Rev) (m : Mv) : Prop :=
  (m.c = -1 ∧ m.w = false ∧ datOf d (1 - d.at') = []) ∨
  (0 ≤ m.c ∧ m.w = false ∧ m.f + m.c ≤ d.b + (l.length : Int) ∧ datOf d (1 - d.at') = encFs (flOf (d.gn + 1) m.f (txtAt d l m.f) (tabAt d l m.f) ((sufAt d l m.f).take m.c.toNat) none)) ∨
  (0 ≤ m.c ∧ m.w = true ∧ m.c ≤ 64 ∧ ∃ r1 r2 js, sufAt d l m.f = r1 ++ r2 ∧ datOf d (1 - d.at') = encFs (flOf (d.gn + 1) m.f (txtAt d l m.f) (tabAt d l m.f) r1 (some r2)) ∧ js ≤ r2.length ∧
    (js = 0 ∨ safOf d (1 - d.at') = ((encFs (flOf (d.gn + 1) m.f (txtAt d l m.f) (tabAt d l m.f) r1 (some (r2.take js)))).length : Int)) ∧ d.sf ≤ m.f + (r1.length : Int) + js)
def Oth (d : SC) (l : List Rev) : Option Mv → Prop
  | none => (d.old = true ∧ Low (datOf d (1 - d.at')) d.gn) ∨ (d.old = false ∧ datOf d (1 - d.at') = [])
  | some m => d.old = false ∧ (d.b ≤ m.f ∧ m.f ≤ d.b + (l.length : Int)) ∧ d.gn < 2147483647 ∧ OthM d l m
structure Arc (d : SC) (l : List Rev) (m : Option Mv) : Prop where
  at' : d.at' = 0 ∨ d.at' = 1
  dk : DkOk d
  hd : HdOk d.gn d.b d.tx d.fs
  ch : chainOk d.b d.fs 0 d.tx l
  tb : EqT d.tb (tabG d.fs d.b l)
  now : d.now = nowG d.tx l
  sf : d.sf ≤ d.b + (l.length : Int)
  mn : Main (datOf d d.at') (safOf d d.at') d.sf d.gn d.b d.tx d.fs l
  ot : Oth d l m
theorem Arc.len {d : SC} {l : List Rev} {m : Option Mv} (h : Arc d l m) : l.length ≤ 64 ∧ d.b + (l.length : Int) ≤ 2147483647 ∧ 0 ≤ d.b := by
  have hb := h.hd.b
  unfold inR at hb
  rcases chain_len l _ _ _ h.ch with rfl | g
  · simp only [List.length_nil]; omega
  · omega
theorem stext_no {d : SC} {l : List Rev} {f : Int} (hf : thereT d.b l.length f ≠ 0) : stextT d l f = ([], thereT d.b l.length f) := by
  unfold stextT
  rw [if_pos hf]
/-- two archives that tell the same texts -/
structure Same (d : SC) (l : List Rev) (d' : SC) (l' : List Rev) : Prop where
  hd : d'.b + (l'.length : Int) = d.b + (l.length : Int)
  b : d.b ≤ d'.b
  tx : ∀ r, d'.b ≤ r → r ≤ d'.b + (l'.length : Int) → txtAt d' l' r = txtAt d l r
theorem Same.of {d d' : SC} {l : List Rev} (hb : d'.b = d.b) (ht : d'.tx = d.tx) : Same d l d' l := ⟨by rw [hb], by omega, fun r _ _ => by unfold txtAt; rw [hb, ht]⟩
theorem take_snoc {l : List Rev} {r : Rev} {a : Nat} (h : a ≤ l.length) : (l ++ [r]).take a = l.take a := List.take_append_of_le_length h
end Go.Proofs.Ytobngncjflogcaa.AM

set_option linter.unusedVariables false
set_option linter.unusedSimpArgs false
namespace Go.Proofs.Ytobngncjflogcaa.AM
open Go Go.RowKit
set_option maxRecDepth 100000
set_option maxHeartbeats 2000000
/-- a log whose revisions came one behind the other -/
structure LogIn (L : LogD) (now : List UInt8) : Prop where
  ch : chainOk L.base L.first 0 L.text L.revs
  tb : L.table = tabG L.first L.base L.revs
  now : now = nowG L.text L.revs
theorem stepL_in {L : LogD} {now : List UInt8} {f : Frame} {q : LogD × List UInt8} (h : stepL L now f = some q) (hi : LogIn L now) : LogIn q.1 q.2 ∧ q.1.base = L.base ∧ q.1.gen = L.gen ∧ q.1.text = L.text ∧ q.1.first = L.first := by
  unfold stepL at h
  split at h
  · split at h
    · cases h
    · cases h; exact ⟨⟨hi.ch, hi.tb, hi.now⟩, rfl, rfl, rfl, rfl⟩
  · split at h
    · split at h
      · rename_i hc
        cases h
        refine ⟨⟨?_, ?_, ?_⟩, rfl, rfl, rfl, rfl⟩
        · show chainOk L.base L.first 0 L.text (L.revs ++ [revB f.body])
          rw [chain_app]
          have e0 : L.base + ((0 : Nat) : Int) = L.base := by omega
          refine ⟨hi.ch, ?_, trivial⟩
          rw [e0, Nat.zero_add, ← hi.tb, ← hi.now]
          exact hc.2
        · show addTb L.table _ _ _ = tabG L.first L.base (L.revs ++ [revB f.body])
          rw [tabG_app, ← hi.tb]; rfl
        · show _ = nowG L.text (L.revs ++ [revB f.body])
          rw [nowG_app, ← hi.now]; rfl
      · cases h
    · cases h
theorem allL_in : ∀ (fs : List Frame) (L : LogD) (now : List UInt8), LogIn L now → (∃ n, LogIn (allL fs L now) n) ∧ (allL fs L now).base = L.base ∧ (allL fs L now).gen = L.gen ∧ (allL fs L now).text = L.text ∧ (allL fs L now).first = L.first
  | [], L, now, h => ⟨⟨now, h⟩, rfl, rfl, rfl, rfl⟩
  | f :: fs, L, now, h => by
    rw [allL]
    cases hs : stepL L now f with
    | none => exact ⟨⟨now, h⟩, rfl, rfl, rfl, rfl⟩
    | some q =>
      obtain ⟨h1, h2, h3, h4, h5⟩ := stepL_in hs h
      obtain ⟨g1, g2, g3, g4, g5⟩ := allL_in fs q.1 q.2 h1
      exact ⟨g1, g2.trans h2, g3.trans h3, g4.trans h4, g5.trans h5⟩
theorem readL_in {fs : List Frame} (h : (readL fs).2 = 0) : (∃ n, LogIn (readL fs).1 n) ∧ HdOk (readL fs).1.gen (readL fs).1.base (readL fs).1.text (readL fs).1.first := by
  have hb := tkN_bd
  have key : ∀ (hg hbs : List UInt8 → Int) (ht : List UInt8 → List UInt8) (hf : List UInt8 → Nat → Int) (ho : List UInt8 → Bool), (∀ x, inR (hg x)) → (∀ x, inR (hbs x)) → (∀ x, ho x = true → (ht x).length ≤ 500) → (∀ x j, inR (hf x j)) → (readG hg hbs ht hf ho fs).2 = 0 →
      (∃ n, LogIn (readG hg hbs ht hf ho fs).1 n) ∧ HdOk (readG hg hbs ht hf ho fs).1.gen (readG hg hbs ht hf ho fs).1.base (readG hg hbs ht hf ho fs).1.text (readG hg hbs ht hf ho fs).1.first := by
    intro hg hbs ht hf ho k1 k2 k3 k4 h
    cases fs with
    | nil => exact absurd (show (7 : Int) = 0 from h) (by decide)
    | cons f fs =>
      have e : readG hg hbs ht hf ho (f :: fs) = if f.kind ≠ 1 ∨ ho f.body = false then (zeroL, 3) else (allL fs (headG (hg f.body) (hbs f.body) (ht f.body) (hf f.body) ((f.body.length : Int) + 7)) (ht f.body), 0) := rfl
      rw [e] at h ⊢
      split at h
      · exact absurd h (by decide)
      · rename_i hc
        rw [if_neg hc]
        have hoo : ho f.body = true := by cases hx : ho f.body; exact absurd (.inr hx) hc; rfl
        obtain ⟨g1, g2, g3, g4, g5⟩ := allL_in fs (headG (hg f.body) (hbs f.body) (ht f.body) (hf f.body) ((f.body.length : Int) + 7)) (ht f.body) ⟨trivial, rfl, rfl⟩
        refine ⟨g1, ?_⟩
        show HdOk (allL _ _ _).gen (allL _ _ _).base (allL _ _ _).text (allL _ _ _).first
        rw [g2, g3, g4, g5]
        exact ⟨k1 _, k2 _, k3 _ hoo, fun j _ => k4 _ j⟩
  have hlen : ∀ x, headOk x = true → (tkS x 18).1.length ≤ 500 := by
    intro x hx
    unfold headOk at hx
    generalize tkS x 18 = q at hx ⊢
    simp only [Bool.and_eq_true, decide_eq_true_eq] at hx
    exact hx.2
  exact key _ _ _ _ _ (fun x => hb x 0) (fun x => hb x 1) hlen (fun x j => hb x (j + 2)) h
theorem LogIn.ok {L : LogD} {now : List UInt8} (h : LogIn L now) (hd : HdOk L.gen L.base L.text L.first) : LogOk L := by
  obtain ⟨h1, h2, h3, h4⟩ := revs_ok h.ch
  have := hd.b
  unfold inR at this
  exact ⟨by omega, by omega, h1⟩
theorem readL_ok {fs : List Frame} {L : LogD} {e : Int} (h : readL fs = (L, e)) (he : e = 0) : LogOk L := by
  have h2 : (readL fs).2 = 0 := by rw [h]; exact he
  obtain ⟨⟨n, h3⟩, h4⟩ := readL_in h2
  rw [h] at h3 h4
  exact h3.ok h4
def OpenPost (y : OpR) (x : V) (L' : List (Nat × Ob)) : Prop := (y.e ≠ 0 ∧ x = .tup [.nil, .int .i64 y.e] ∧ L' = []) ∨ (y.e = 0 ∧ ∃ bl ba, x = .tup [.ptr 60 (some bl) 47 0 0, .int .i64 0] ∧ L' = [(60, obSh bl (rowS y.d (.own 1000200 ba 3 y.l.length) .nil)), (1000200, obV ba (y.l.map encRev)), (999, obMv 0 none)])
theorem diskT_len {a1 b1 : List UInt8} {a2 b2 : Int} (h : diskT a1 a2 b1 b2 = 0) : a1.length ≤ 1048576 ∧ b1.length ≤ 1048576 := by
  obtain ⟨h1, h2⟩ := disk_ok h
  exact ⟨(slot_ok h1).1, (slot_ok h2).1⟩
theorem sp_sopen (a1 : List UInt8) (a2 : Int) (b1 : List UInt8) (b2 : Int) : Spec Try.prog 7 [.agg [.str a1, .int .i64 a2, .str b1, .int .i64 b2]] (lookH []) fun x h' => ∃ L', OpenPost (openF a1 a2 b1 b2) x L' ∧ h' = lookH L' := by
  refine spec_meth dOk ok_sopen (L := []) (OpenPost (openF a1 a2 b1 b2)) fun R hR => ?_
  obtain ⟨LA, eA, hA⟩ : ∃ L e, readL (scanF a1).1 = (L, e) := ⟨_, _, rfl⟩
  obtain ⟨LB, eB, hB⟩ : ∃ L e, readL (scanF b1).1 = (L, e) := ⟨_, _, rfl⟩
  refine vc_sopen std rfl _ _ hreadC strmC ssynC sheadE rtextP a1 a2 b1 b2 (diskT a1 a2 b1 b2) (ansW (sp_dck a1 a2 b1 b2) (fun h => .cons (.same _) .nil) rfl) (fun h => (diskT_len h).1) (fun h => (diskT_len h).2) LA LB eA eB hA hB (readL_ok hA) (readL_ok hB) (openF a1 a2 b1 b2) (by unfold openF; rw [hA, hB]) R ?_ ?_
  · intro s s' e he hne hent hr
    subst he
    exact hR s s' (.tup [.nil, .int .i64 _]) [] hent (resV_mono _ _ _ (fun x hx => by rw [hx]; rfl) hr) trivial (.tup _ (by simp; exact ⟨.nil, .int _ _⟩)) (fun p hp => by cases hp) (.inl ⟨hne, rfl, rfl⟩)
  · intro s s' bl ba n rows d hd he hn hrows hent hr ha
    subst hd hn hrows
    refine hR s s' (.tup [.ptr 60 (some bl) 47 0 0, .int .i64 0]) _ hent (resV_mono _ _ _ (fun x hx => by rw [hx]; rfl) hr) ha (.tup _ (by simp; exact ⟨.ptr _ _ _ _ _, .int _ _⟩)) (fun p hp => ?_) (.inr ⟨he, bl, ba, rfl, rfl⟩)
    simp only [List.mem_cons, List.not_mem_nil, or_false] at hp
    rcases hp with rfl | rfl | rfl
    · exact rowS_fz (.own _ _ _ _) .nil bl
    · exact encRevs_fz _
    · exact obMv_fz 0 none
def SOpenC (T : CallT) : Prop := ∀ (k ka km : Nat) (a1 : List UInt8) (a2 : Int) (b1 : List UInt8) (b2 : Int) (h : Hp) (K : V → Hp → Prop), N3 k ka km → h k = none → h ka = none → h km = none →
  (∀ d l e, ⟨d, l, e⟩ = openF a1 a2 b1 b2 → (e ≠ 0 → K (.tup [.nil, .int .i64 e]) h) ∧ (e = 0 → ∀ bl ba n rows mo, n = l.length → rows = l.map encRev → mo = obMv 0 none → K (.tup [.ptr k (some bl) 47 0 0, .int .i64 0]) (h.puts [(k, obSh bl (rowS d (.own ka ba 3 n) .nil)), (ka, obV ba rows), (km, mo)]))) → T 7 [.agg [.str a1, .int .i64 a2, .str b1, .int .i64 b2]] h K
theorem sopenC : SOpenC (CallE Try.prog) := by
  intro k ka km a1 a2 b1 b2 h K hN hk hka hkm hK
  obtain ⟨n1, n2, n3⟩ := hN.ne
  have n1' : ¬ ka = k := fun e => n1 e.symm
  have n2' : ¬ km = k := fun e => n2 e.symm
  have n3' : ¬ km = ka := fun e => n3 e.symm
  have l0 : lab [(60, k), (1000200, ka), (999, km)] 60 = k := by simp [lab]
  have l1 : lab [(60, k), (1000200, ka), (999, km)] 1000200 = ka := by simp [lab]
  have nd1 : ([(60, k), (1000200, ka), (999, km)].map (·.1)).Nodup := by show ([60, 1000200, 999] : List Nat).Nodup; decide
  have nd2 : ([(60, k), (1000200, ka), (999, km)].map (·.2)).Nodup := by simp [n1, n2, n3]
  refine callG (sp_sopen a1 a2 b1 b2) (m := [(60, k), (1000200, ka), (999, km)]) (.cons (.same _) .nil) (fun j o hj => by cases hj) (fun q hq => ⟨lab_mem nd1 q hq, bal_mem nd2 q hq, fun o ho => by cases ho⟩) ?_
  obtain ⟨y, hy⟩ : ∃ y, openF a1 a2 b1 b2 = y := ⟨_, rfl⟩
  rw [hy] at hK ⊢
  obtain ⟨d, l, e⟩ := y
  rintro x L' (⟨he, rfl, rfl⟩ | ⟨he, bl, ba, rfl, rfl⟩)
  · have e0 : h.upd [(60, k), (1000200, ka), (999, km)] (lookH []) = h := by
      funext i
      simp only [Hp.upd, List.any_cons, List.any_nil, Bool.or_false, Bool.or_eq_true, decide_eq_true_eq]
      split
      · rename_i hi
        show (none : Option Ob) = _
        rcases hi with hi | hi | hi <;> subst hi
        · rw [hk]
        · rw [hka]
        · rw [hkm]
      · rfl
    rw [e0]
    exact (hK d l e rfl).1 he
  · rw [upd_puts h _ _ rfl nd1 nd2 (by simp)]
    have e1 : backL [(60, k), (1000200, ka), (999, km)] (Ob.ren (lab [(60, k), (1000200, ka), (999, km)])) [(60, obSh bl (rowS d (.own 1000200 ba 3 l.length) .nil)), (1000200, obV ba (l.map encRev)), (999, obMv 0 none)] = [(k, obSh bl (rowS d (.own ka ba 3 l.length) .nil)), (ka, obV ba (l.map encRev)), (km, obMv 0 none)] := by
      simp only [backL, List.zipWith_cons_cons, List.zipWith_nil_left, obSh_ren, obV_ren, obMv_ren]
      show [(k, obSh bl (rowS d (.own (lab _ 1000200) ba 3 l.length) _)), _, _] = _
      rw [l1]; rfl
    rw [e1]
    have e2 : (V.tup [.ptr 60 (some bl) 47 0 0, .int .i64 0]).ren (lab [(60, k), (1000200, ka), (999, km)]) = .tup [.ptr k (some bl) 47 0 0, .int .i64 0] := by
      show V.tup [.ptr (lab _ 60) (some bl) 47 0 0, .int .i64 0] = _
      rw [l0]
    rw [e2]
    exact (hK d l e rfl).2 he bl ba _ _ _ rfl rfl rfl
end Go.Proofs.Ytobngncjflogcaa.AM
