/-
  Deltas one behind the other: what is made is, byte by byte, what it was made of; three as one, from either side.
-/
import Derived.Test.YtcdldpjmdelebaaMRComp
set_option linter.unusedVariables false
set_option linter.unusedSimpArgs false
namespace Go.Proofs.Ytcdldpjmdelebaa.AM
open Go

/-! what lies between kept bytes, of two behind each other -/
def gjoin : List (List UInt8 × Nat) → List (List UInt8 × Nat) → List (List UInt8 × Nat)
  | [], ys => ys
  | [(p, c)], (q, d) :: ys => (p ++ q, c + d) :: ys
  | [g], [] => [g]
  | g :: g2 :: r, ys => g :: gjoin (g2 :: r) ys
theorem gaps_app (a b : List Tok) : gaps (a ++ b) = gjoin (gaps a) (gaps b) := by
  induction a with
  | nil =>
    obtain ⟨⟨q, d⟩, ys, h⟩ := gaps_ne b
    simp [gaps, h, gjoin]
  | cons t a ih =>
    obtain ⟨⟨p, c⟩, r, h⟩ := gaps_ne a
    obtain ⟨⟨q, d⟩, ys, h'⟩ := gaps_ne b
    rw [h, h'] at ih
    cases t
    · simp only [List.cons_append, gaps, ih, h, h']
      cases r <;> simp [gjoin]
    · simp only [List.cons_append, gaps, ih, h, h']
      cases r <;> simp [gjoin]
    · simp only [List.cons_append, gaps, ih, h, h']
      cases r <;> simp [gjoin] <;> omega
theorem gaps_congL {a a' : List Tok} (h : gaps a = gaps a') (b : List Tok) : gaps (a ++ b) = gaps (a' ++ b) := by rw [gaps_app, gaps_app, h]
theorem gaps_congR {b b' : List Tok} (h : gaps b = gaps b') (a : List Tok) : gaps (a ++ b) = gaps (a ++ b') := by rw [gaps_app, gaps_app, h]
theorem gaps_swap (n : Nat) (b : UInt8) : gaps (List.replicate n .cut ++ [.put b]) = gaps (.put b :: List.replicate n .cut) := by
  have h1 := gaps_cut_app n [.put b] [b] 0 [] rfl
  have h2 := gaps_cut_app n [] [] 0 [] rfl
  rw [List.append_nil] at h2
  rw [h1]
  simp [gaps, h2]
/-! the tokens of what is being made -/
def tokM (m : Mk) : List Tok := toks m.out ++ (m.put.map .put ++ List.replicate m.cut.toNat .cut)
theorem toks_flush (m : Mk) : toks m.flush = tokM m := by
  unfold Mk.flush tokM
  rw [toks_app, toks_app, List.append_assoc]
  congr 1
  congr 1
  · split
    · rename_i h; rw [h]; rfl
    · simp [toks, toks1]
  · split
    · simp [toks, toks1]
    · rename_i h; rw [show m.cut.toNat = 0 by omega]; rfl
theorem form_ok : ∀ {k : Int} {l : List Part}, formOk k l → ∀ p ∈ l, partOk p
  | _, [], _ => by simp
  | _, q :: l, h => by
    intro p hp
    rcases List.mem_cons.1 hp with rfl | hp
    · exact h.1
    · exact form_ok h.2.2.2 p hp
theorem toks_addKeep (o : List Part) (ho : ∀ p ∈ o, partOk p) : toks (addKeep o 1) = toks o ++ [.keep] := by
  unfold addKeep
  cases h : o.getLast? with
  | none =>
    rw [List.getLast?_eq_none_iff] at h
    subst h; rfl
  | some p =>
    obtain ⟨ys, rfl⟩ := List.getLast?_eq_some_iff.1 h
    simp only
    split
    · rename_i hk
      rw [List.dropLast_concat, toks_app, toks_app, List.append_assoc]
      congr 1
      have hp := ho p (by simp)
      have hn : 0 < p.n := by unfold partOk at hp; omega
      simp only [toks, toks1, hk, List.append_nil]
      rw [if_neg (by decide), if_pos trivial, show (p.n + 1).toNat = p.n.toNat + 1 by omega, List.replicate_succ']
      rfl
    · rw [toks_app]; rfl
theorem gaps_step {m : Mk} (hm : m.Ok) (t : Tok) : gaps (tokM (m.tok t)) = gaps (tokM m ++ [t]) := by
  cases t with
  | keep =>
    have : tokM (m.tok .keep) = toks (addKeep m.flush 1) := by
      simp [Mk.tok, Mk.doKeep, tokM]
    rw [this, toks_addKeep _ (form_ok hm.flush), toks_flush]
  | put b =>
    show gaps (toks m.out ++ ((m.put ++ [b]).map .put ++ List.replicate m.cut.toNat .cut)) = gaps (toks m.out ++ (m.put.map .put ++ List.replicate m.cut.toNat .cut) ++ [.put b])
    rw [List.append_assoc, List.append_assoc, List.map_append, List.append_assoc]
    refine gaps_congR (gaps_congR ?_ _) _
    exact (gaps_swap _ _).symm
  | cut =>
    have hc := hm.cut
    show gaps (toks m.out ++ (m.put.map .put ++ List.replicate (m.cut + 1).toNat .cut)) = gaps (toks m.out ++ (m.put.map .put ++ List.replicate m.cut.toNat .cut) ++ [.cut])
    rw [show (m.cut + 1).toNat = m.cut.toNat + 1 by omega, List.replicate_succ', List.append_assoc, List.append_assoc]
theorem gaps_run : ∀ (ts : List Tok) {m : Mk}, m.Ok → gaps (tokM (m.run ts)) = gaps (tokM m ++ ts)
  | [], m, _ => by rw [Mk.run_nil, List.append_nil]
  | t :: ts, m, h => by
    have h1 := gaps_run ts (h.tok t)
    show gaps (tokM ((m.tok t).run ts)) = _
    rw [h1, gaps_congL (gaps_step h t) ts, List.append_assoc]
    rfl
theorem gaps_mkD (ts : List Tok) : gaps (toks (mkD ts)) = gaps ts := by
  unfold mkD
  rw [toks_flush, gaps_run ts Mk.ok_new]
  rfl
/-! what the gaps tell -/
def gIn : List (List UInt8 × Nat) → Nat
  | [] => 0
  | [g] => g.2
  | g :: g2 :: r => g.2 + 1 + gIn (g2 :: r)
def gOut : List (List UInt8 × Nat) → Nat
  | [] => 0
  | [g] => g.1.length
  | g :: g2 :: r => g.1.length + 1 + gOut (g2 :: r)
def gPairs : List (List UInt8 × Nat) → Nat → Nat → List (Nat × Nat)
  | [], _, _ => []
  | [_], _, _ => []
  | g :: g2 :: r, i, j => (i + g.2, j + g.1.length) :: gPairs (g2 :: r) (i + g.2 + 1) (j + g.1.length + 1)
def gDo : List (List UInt8 × Nat) → List UInt8 → List UInt8
  | [], _ => []
  | [g], _ => g.1
  | g :: g2 :: r, s => g.1 ++ ((s.drop g.2).take 1 ++ gDo (g2 :: r) (s.drop (g.2 + 1)))
theorem inT_gaps (ts : List Tok) : inT ts = gIn (gaps ts) := by
  induction ts with
  | nil => rfl
  | cons t ts ih =>
    obtain ⟨⟨p, c⟩, r, h⟩ := gaps_ne ts
    rw [h] at ih
    cases t
    · simp only [gaps, h, gIn]; rw [← ih]; simp [inT, kepts]; omega
    · simp only [gaps, h]; cases r <;> simp only [gIn] at * <;> rw [← ih] <;> rfl
    · simp only [gaps, h]; cases r <;> simp only [gIn] at * <;> simp only [inT, kepts, List.length_cons] at * <;> omega
theorem outT_gaps (ts : List Tok) : outT ts = gOut (gaps ts) := by
  induction ts with
  | nil => rfl
  | cons t ts ih =>
    obtain ⟨⟨p, c⟩, r, h⟩ := gaps_ne ts
    rw [h] at ih
    cases t
    · simp only [gaps, h, gOut, outT]; rw [← ih]; simp; omega
    · simp only [gaps, h, outT]; cases r <;> simp only [gOut, List.length_cons] at * <;> omega
    · simp only [gaps, h, outT]; cases r <;> simp only [gOut] at * <;> omega
theorem pairsT_gaps (ts : List Tok) : ∀ i j, pairsT ts i j = gPairs (gaps ts) i j := by
  induction ts with
  | nil => intro i j; rfl
  | cons t ts ih =>
    intro i j
    obtain ⟨⟨p, c⟩, r, h⟩ := gaps_ne ts
    rw [h] at ih
    cases t
    · simp only [gaps, h, gPairs, pairsT]; rw [← ih]; simp
    · simp only [gaps, h, pairsT]; rw [ih]; cases r <;> simp [gPairs, Nat.add_assoc, Nat.add_comm, Nat.add_left_comm]
    · simp only [gaps, h, pairsT]; rw [ih]; cases r <;> simp [gPairs, Nat.add_assoc, Nat.add_comm, Nat.add_left_comm]
theorem doT_gaps (ts : List Tok) : ∀ s, doT ts s = gDo (gaps ts) s := by
  induction ts with
  | nil => intro s; rfl
  | cons t ts ih =>
    intro s
    obtain ⟨⟨p, c⟩, r, h⟩ := gaps_ne ts
    rw [h] at ih
    cases t
    · simp only [gaps, h, gDo, doT]; rw [← ih]; simp
    · simp only [gaps, h, doT]; rw [ih]; cases r <;> simp [gDo]
    · simp only [gaps, h, doT]; rw [ih]; cases r <;> simp [gDo, List.drop_drop, Nat.add_comm, Nat.add_left_comm]
theorem inT_mkD (ts : List Tok) : inT (toks (mkD ts)) = inT ts := by rw [inT_gaps, gaps_mkD, ← inT_gaps]
theorem outT_mkD (ts : List Tok) : outT (toks (mkD ts)) = outT ts := by rw [outT_gaps, gaps_mkD, ← outT_gaps]
theorem pairsT_mkD (ts : List Tok) (i j : Nat) : pairsT (toks (mkD ts)) i j = pairsT ts i j := by rw [pairsT_gaps, gaps_mkD, ← pairsT_gaps]
theorem doT_mkD (ts : List Tok) (s : List UInt8) : doT (toks (mkD ts)) s = doT ts s := by rw [doT_gaps, gaps_mkD, ← doT_gaps]
theorem mkD_mkD (ts : List Tok) : mkD (toks (mkD ts)) = mkD ts := mkD_gaps (gaps_mkD ts)
/-! two as one, of what is made -/
theorem zs_len (n : Nat) : (List.replicate n (0 : UInt8)).length = n := List.length_replicate
theorem cmp_spec (xs ys : List Tok) (h : outT xs = inT ys) : inT (cmp xs ys) = inT xs ∧ outT (cmp xs ys) = outT ys := by
  obtain ⟨h1, _, _, h4⟩ := compT_spec (xs.length + ys.length) xs ys (List.replicate (inT xs) 0) 0 0 0 (Nat.le_refl _) h (zs_len _)
  exact ⟨h1, h4⟩
theorem cmp_do (xs ys : List Tok) (s : List UInt8) (h : outT xs = inT ys) (hs : s.length = inT xs) : doT (cmp xs ys) s = doT ys (doT xs s) := (compT_spec (xs.length + ys.length) xs ys s 0 0 0 (Nat.le_refl _) h hs).2.1
theorem mkD_L (xs ys : List Tok) (h : outT xs = inT ys) : mkD (cmp (toks (mkD xs)) ys) = mkD (cmp xs ys) := by
  rw [mkD_comp xs ys (List.replicate (inT xs) 0) h (zs_len _), mkD_comp (toks (mkD xs)) ys (List.replicate (inT xs) 0) (by rw [outT_mkD, h]) (by rw [inT_mkD, zs_len]), inT_mkD, pairsT_mkD, doT_mkD]
theorem mkD_R (xs ys : List Tok) (h : outT xs = inT ys) : mkD (cmp xs (toks (mkD ys))) = mkD (cmp xs ys) := by
  rw [mkD_comp xs ys (List.replicate (inT xs) 0) h (zs_len _), mkD_comp xs (toks (mkD ys)) (List.replicate (inT xs) 0) (by rw [inT_mkD, h]) (zs_len _), pairsT_mkD, doT_mkD]
/-! three as one -/
theorem cmp_nil : cmp [] [] = [] := rfl
theorem inT_nil_of {ys : List Tok} (h : inT ys = 0) (hp : ∀ b r, ys ≠ .put b :: r) : ys = [] := by
  cases ys with
  | nil => rfl
  | cons t ys =>
    cases t
    · simp [inT, kepts] at h
    · exact absurd rfl (hp _ _)
    · simp [inT, kepts] at h
theorem outT_nil_of {ys : List Tok} (h : outT ys = 0) (hp : ∀ r, ys ≠ .cut :: r) : ys = [] := by
  cases ys with
  | nil => rfl
  | cons t ys =>
    cases t
    · simp [outT] at h
    · simp [outT] at h
    · exact absurd rfl (hp _)
theorem cmp_nc {xs ys : List Tok} (hx : ∀ r, xs ≠ .cut :: r) (hy : ∀ r, ys ≠ .cut :: r) : ∀ r, cmp xs ys ≠ .cut :: r := by
  intro r
  cases ys with
  | nil =>
    cases xs with
    | nil => rw [cmp_nil]; simp
    | cons t xs =>
      cases t
      · simp [cmp, compT]
      · simp [cmp, compT]
      · exact absurd rfl (hx _)
  | cons u ys =>
    cases u
    · cases xs with
      | nil => simp [cmp, compT]
      | cons t xs =>
        cases t
        · rw [cmp_kk]; simp
        · rw [cmp_pk]; simp
        · exact absurd rfl (hx _)
    · rw [cmp_put _ _ _ hx]; simp
    · exact absurd rfl (hy _)
theorem in_keep (ts : List Tok) : inT (.keep :: ts) = inT ts + 1 := by simp [inT, kepts]
theorem in_cut (ts : List Tok) : inT (.cut :: ts) = inT ts + 1 := by simp [inT, kepts]
theorem in_put (b : UInt8) (ts : List Tok) : inT (.put b :: ts) = inT ts := rfl
theorem out_keep (ts : List Tok) : outT (.keep :: ts) = outT ts + 1 := rfl
theorem out_cut (ts : List Tok) : outT (.cut :: ts) = outT ts := rfl
theorem out_put (b : UInt8) (ts : List Tok) : outT (.put b :: ts) = outT ts + 1 := rfl
theorem cmp_assoc : ∀ (f : Nat) (xs ys zs : List Tok), xs.length + ys.length + zs.length ≤ f → outT xs = inT ys → outT ys = inT zs → cmp (cmp xs ys) zs = cmp xs (cmp ys zs)
  | 0, xs, ys, zs, hf, _, _ => by
    have h1 : xs = [] := List.eq_nil_of_length_eq_zero (by omega)
    have h2 : ys = [] := List.eq_nil_of_length_eq_zero (by omega)
    have h3 : zs = [] := List.eq_nil_of_length_eq_zero (by omega)
    subst h1 h2 h3
    rfl
  | f + 1, xs, ys, zs, hf, h1, h2 => by
    by_cases hx : ∃ r, xs = .cut :: r
    · obtain ⟨r, rfl⟩ := hx
      rw [cmp_cut, cmp_cut, cmp_cut, cmp_assoc f r ys zs (by simp only [List.length_cons] at hf; omega) h1 h2]
    have hx : ∀ r, xs ≠ .cut :: r := fun r h => hx ⟨r, h⟩
    by_cases hy : ∃ r, ys = .cut :: r
    · obtain ⟨r, rfl⟩ := hy
      rw [in_cut] at h1
      rw [out_cut] at h2
      simp only [List.length_cons] at hf
      cases xs with
      | nil => exact absurd h1 (by simp [outT])
      | cons t xs =>
        cases t
        · rw [cmp_kc, cmp_cut, cmp_cut, cmp_kc, cmp_assoc f xs r zs (by simp only [List.length_cons] at hf; omega) (by rw [out_keep] at h1; omega) h2]
        · rw [cmp_pc, cmp_cut, cmp_pc, cmp_assoc f xs r zs (by simp only [List.length_cons] at hf; omega) (by rw [out_put] at h1; omega) h2]
        · exact absurd rfl (hx _)
    have hy : ∀ r, ys ≠ .cut :: r := fun r h => hy ⟨r, h⟩
    by_cases hz : ∃ b r, zs = .put b :: r
    · obtain ⟨b, r, rfl⟩ := hz
      rw [in_put] at h2
      simp only [List.length_cons] at hf
      rw [cmp_put _ _ _ (cmp_nc hx hy), cmp_put _ _ _ hy, cmp_put _ _ _ hx, cmp_assoc f xs ys r (by omega) h1 h2]
    have hz : ∀ b r, zs ≠ .put b :: r := fun b r h => hz ⟨b, r, h⟩
    cases ys with
    | nil =>
      have e1 : zs = [] := inT_nil_of (by rw [← h2]; rfl) hz
      have e2 : xs = [] := outT_nil_of (by rw [h1]; rfl) hx
      subst e1 e2
      rfl
    | cons u ys =>
      simp only [List.length_cons] at hf
      cases u
      · rw [in_keep] at h1
        rw [out_keep] at h2
        cases xs with
        | nil => exact absurd h1 (by simp [outT])
        | cons t xs =>
          simp only [List.length_cons] at hf
          cases zs with
          | nil => exact absurd h2 (by simp [inT, kepts])
          | cons v zs =>
            simp only [List.length_cons] at hf
            cases t
            · rw [out_keep] at h1
              cases v
              · rw [in_keep] at h2
                rw [cmp_kk, cmp_kk, cmp_kk, cmp_kk, cmp_assoc f xs ys zs (by omega) (by omega) (by omega)]
              · exact absurd rfl (hz _ _)
              · rw [in_cut] at h2
                rw [cmp_kk, cmp_kc, cmp_kc, cmp_kc, cmp_assoc f xs ys zs (by omega) (by omega) (by omega)]
            · rw [out_put] at h1
              cases v
              · rw [in_keep] at h2
                rw [cmp_pk, cmp_pk, cmp_kk, cmp_pk, cmp_assoc f xs ys zs (by omega) (by omega) (by omega)]
              · exact absurd rfl (hz _ _)
              · rw [in_cut] at h2
                rw [cmp_pk, cmp_pc, cmp_kc, cmp_pc, cmp_assoc f xs ys zs (by omega) (by omega) (by omega)]
            · exact absurd rfl (hx _)
      · rw [in_put] at h1
        rw [out_put] at h2
        cases zs with
        | nil => exact absurd h2 (by simp [inT, kepts])
        | cons v zs =>
          simp only [List.length_cons] at hf
          cases v
          · rw [in_keep] at h2
            rw [cmp_put _ _ _ hx, cmp_pk, cmp_pk, cmp_put _ _ _ hx, cmp_assoc f xs ys zs (by omega) (by omega) (by omega)]
          · exact absurd rfl (hz _ _)
          · rw [in_cut] at h2
            rw [cmp_put _ _ _ hx, cmp_pc, cmp_pc, cmp_assoc f xs ys zs (by omega) (by omega) (by omega)]
      · exact absurd rfl (hy _)
theorem cmp3 (xs ys zs : List Tok) (h1 : outT xs = inT ys) (h2 : outT ys = inT zs) : cmp (cmp xs ys) zs = cmp xs (cmp ys zs) := cmp_assoc _ xs ys zs (Nat.le_refl _) h1 h2
def idT (n : Nat) : List Tok := List.replicate n .keep
theorem cmp_idl (ys : List Tok) : cmp (idT (inT ys)) ys = ys := by
  induction ys with
  | nil => rfl
  | cons t ys ih =>
    unfold idT at *
    cases t
    · rw [in_keep, List.replicate_succ, cmp_kk, ih]
    · rw [in_put, cmp_put, ih]
      intro r h
      cases hn : inT ys <;> rw [hn] at h <;> simp [List.replicate_succ] at h
    · rw [in_cut, List.replicate_succ, cmp_kc, ih]
theorem cmp_idr (xs : List Tok) : cmp xs (idT (outT xs)) = xs := by
  induction xs with
  | nil => rfl
  | cons t xs ih =>
    unfold idT at *
    cases t
    · rw [out_keep, List.replicate_succ, cmp_kk, ih]
    · rw [out_put, List.replicate_succ, cmp_pk, ih]
    · rw [out_cut, cmp_cut, ih]
theorem in_id (n : Nat) : inT (idT n) = n := by
  induction n with
  | zero => rfl
  | succ n ih => unfold idT at *; rw [List.replicate_succ, in_keep, ih]
theorem out_id (n : Nat) : outT (idT n) = n := by
  induction n with
  | zero => rfl
  | succ n ih => unfold idT at *; rw [List.replicate_succ, out_keep, ih]
/-! what is made is right, if the texts are not too long -/
theorem toks1_le {d : List Part} {p : Part} (h : p ∈ d) : inT (toks1 p) ≤ inT (toks d) ∧ outT (toks1 p) ≤ outT (toks d) := by
  obtain ⟨a, b, rfl⟩ := List.append_of_mem h
  rw [toks_app]
  simp only [toks, inT_app, outT_app]
  omega
theorem toks1_sz {p : Part} (h : partOk p) : (p.kind = 2 → outT (toks1 p) = p.text.length ∧ p.text.length ≠ 0) ∧ (p.kind ≠ 2 → inT (toks1 p) = p.n.toNat ∧ 0 < p.n ∧ p.text = []) ∧ (p.kind = 2 → p.n = 0) := by
  unfold partOk at h
  refine ⟨fun k => ?_, fun k => ?_, fun k => by omega⟩
  · unfold toks1
    rw [if_pos k, outT_map]
    refine ⟨rfl, fun g => ?_⟩
    rcases h with h | h
    · exact h.2.2 (List.eq_nil_of_length_eq_zero g)
    · omega
  · unfold toks1
    rw [if_neg k]
    have hr : ∀ (n : Nat) (x : Tok), x = .keep ∨ x = .cut → inT (List.replicate n x) = n := by
      intro n x hx
      have := kepts_app_n [] x hx n
      simp only [List.nil_append, kepts] at this
      simp [inT, this]
    refine ⟨?_, by omega, (h.resolve_left fun g => k g.1).2.2⟩
    split
    · exact hr _ _ (.inl rfl)
    · exact hr _ _ (.inr rfl)
theorem toks_cnt : ∀ (d : List Part), (∀ p ∈ d, partOk p) → d.length ≤ inT (toks d) + outT (toks d)
  | [], _ => by simp
  | p :: d, h => by
    have h1 := toks_cnt d fun q hq => h q (by simp [hq])
    obtain ⟨h2, h3, _⟩ := toks1_sz (h p (by simp))
    simp only [toks, inT_app, outT_app, List.length_cons]
    by_cases k : p.kind = 2
    · have := h2 k; omega
    · have := h3 k; omega
theorem checkF_mkD (ts : List Tok) (h1 : inT ts ≤ 500) (h2 : outT ts ≤ 500) : checkF (mkD ts) = 0 := by
  have hf := form_ok (mkD_form ts)
  have ho : ∀ p ∈ mkD ts, okP p := by
    intro p hp
    obtain ⟨g1, g2, g3⟩ := toks1_sz (hf p hp)
    obtain ⟨l1, l2⟩ := toks1_le hp
    rw [inT_mkD] at l1
    rw [outT_mkD] at l2
    have hk := hf p hp
    unfold partOk at hk
    unfold okP fitF
    by_cases k : p.kind = 2
    · have a1 := g1 k
      have a2 := g3 k
      rw [if_neg (by omega), if_pos k, if_neg (by rintro (h | h); exact h a2; exact a1.2 (by rw [h]; rfl)), if_neg (by omega)]
    · have a1 := g2 k
      rw [if_pos (by omega), if_neg (by rintro (h | h); omega; exact h a1.2.2), if_neg (by rw [a1.2.2]; simp only [List.length_nil]; omega)]
  have hn := toks_cnt _ hf
  have hi := inT_toks _ ho
  have hu := outT_toks _ ho
  rw [inT_mkD] at hn hi
  rw [outT_mkD] at hn hu
  have hc : chk 0 (mkD ts) = 0 := by
    have : ∀ (k : Int) (l : List Part), formOk k l → (∀ p ∈ l, okP p) → chk k l = 0 := by
      intro k l
      induction l generalizing k with
      | nil => intro _ _; rfl
      | cons p l ih =>
        intro h hp
        obtain ⟨h1, h2, h3, h4⟩ := h
        unfold chk
        rw [if_neg (by rintro (h | h); exact h2 h; exact h3 h), if_neg (fun g => g (hp p (by simp))), ih _ h4 fun q hq => hp q (by simp [hq])]
    exact this 0 _ (mkD_form ts) ho
  unfold checkF
  rw [if_neg (by omega), if_neg (fun g => g hc), if_neg (by omega)]
/-! what is in its form is what is made of it -/
theorem run_part0 (m : Mk) (p : Part) (hn : 0 ≤ p.n) : m.run (toks1 p) = if p.kind = 2 then m.doPut p.text else if p.kind = 1 then m.doKeep p.n else m.doCut p.n := by
  unfold toks1
  by_cases k2 : p.kind = 2
  · rw [if_pos k2, if_pos k2, Mk.run_put]
  · rw [if_neg k2, if_neg k2]
    split
    · rw [Mk.run_keep, show ((p.n.toNat : Nat) : Int) = p.n by omega]
    · rw [Mk.run_cut, show ((p.n.toNat : Nat) : Int) = p.n by omega]
theorem run_form : ∀ (d : List Part) (m : Mk) (k : Int), formOk k d → (k = 2 → m.put ≠ [] ∧ m.cut = 0) → (k = 3 → 0 < m.cut) → (k ≠ 2 → k ≠ 3 → m.put = [] ∧ m.cut = 0) → (k ≠ 1 → m.put = [] → m.cut = 0 → m.out = []) → (m.put ≠ [] ∨ 0 < m.cut ∨ m.out = [] → True) →
    (k = 0 → m.out = []) → 0 ≤ m.cut → lastK 0 m.flush = k → (m.run (toks d)).flush = m.flush ++ d
  | [], m, k, _, _, _, _, _, _, _, _, _ => by simp [toks, Mk.run]
  | p :: d, m, k, h, c2, c3, c1, c4, c5, c6, hc, hl => by
    obtain ⟨h1, h2, h3, h4⟩ := h
    have hp := h1
    unfold partOk at hp
    have hn : 0 ≤ p.n := by omega
    simp only [toks, Mk.run_app]
    rw [run_part0 m p hn]
    by_cases k2 : p.kind = 2
    · rw [if_pos k2]
      have hk3 : k ≠ 3 := fun g => h3 ⟨g, k2⟩
      have hk2 : k ≠ 2 := fun g => h2 (by rw [k2, g])
      obtain ⟨a1, a2⟩ := c1 hk2 hk3
      have hpt : p.text ≠ [] := by rcases hp with g | g; exact g.2.2; omega
      have hpe : p = ⟨2, 0, p.text⟩ := by
        obtain ⟨x, y, z⟩ := p
        simp only at k2 hp ⊢
        have : y = 0 := by omega
        rw [k2, this]
      have hfl : (m.doPut p.text).flush = m.flush ++ [p] := by
        unfold Mk.flush Mk.doPut
        rw [a1, a2, List.nil_append, if_neg hpt, if_pos rfl, if_neg (by omega)]
        simp only [List.append_nil]
        rw [← hpe]
      rw [run_form d (m.doPut p.text) p.kind h4 (fun _ => ⟨by simp [Mk.doPut, a1, hpt], a2⟩) (fun g => by omega) (fun g => absurd k2 g) (fun _ g => by simp [Mk.doPut, a1, hpt] at g) (fun _ => trivial) (fun g => by omega) hc (by rw [hfl, lastK_app]; rfl), hfl, List.append_assoc]
      rfl
    · rw [if_neg k2]
      have hp2 := hp.resolve_left fun g => k2 g.1
      by_cases k1 : p.kind = 1
      · rw [if_pos k1]
        have hpe : p = ⟨1, p.n, []⟩ := by
          obtain ⟨x, y, z⟩ := p
          simp only at k1 hp2 ⊢
          rw [k1, hp2.2.2]
        have hfl : (m.doKeep p.n).flush = m.flush ++ [p] := by
          unfold Mk.doKeep
          rw [if_neg (by omega), Mk.flush_mk]
          unfold addKeep
          cases hg : m.flush.getLast? with
          | none => rw [List.getLast?_eq_none_iff.1 hg]; rw [← hpe]; rfl
          | some q =>
            obtain ⟨ys, hy⟩ := List.getLast?_eq_some_iff.1 hg
            have : q.kind ≠ 1 := by
              rw [hy, lastK_app] at hl
              intro g
              exact h2 (by rw [k1, ← hl]; exact g.symm)
            simp only
            rw [if_neg this, ← hpe]
        rw [run_form d (m.doKeep p.n) p.kind h4 (fun g => by omega) (fun g => by omega) (fun _ _ => by unfold Mk.doKeep; rw [if_neg (by omega)]; exact ⟨rfl, rfl⟩) (fun g => absurd k1 g) (fun _ => trivial) (fun g => by omega) (by unfold Mk.doKeep; rw [if_neg (by omega)]; exact Int.le_refl 0) (by rw [hfl, lastK_app]; rfl), hfl, List.append_assoc]
        rfl
      · rw [if_neg k1]
        have k3 : p.kind = 3 := by omega
        have hk3 : k ≠ 3 := fun g => h2 (by rw [k3, g])
        have hcut : m.cut = 0 := by
          by_cases g : k = 2
          · exact (c2 g).2
          · exact (c1 g hk3).2
        have hpe : p = ⟨3, p.n, []⟩ := by
          obtain ⟨x, y, z⟩ := p
          simp only at k3 hp2 ⊢
          rw [k3, hp2.2.2]
        have hfl : (m.doCut p.n).flush = m.flush ++ [p] := by
          unfold Mk.flush Mk.doCut
          simp only
          rw [hcut, if_neg (show ¬ (0 : Int) < 0 by omega), if_pos (show (0 : Int) < 0 + p.n by omega), List.append_nil, Int.zero_add, ← hpe]
        rw [run_form d (m.doCut p.n) p.kind h4 (fun g => by omega) (fun _ => by simp only [Mk.doCut]; omega) (fun _ g => absurd k3 g) (fun _ _ g => by simp only [Mk.doCut] at g; omega) (fun _ => trivial) (fun g => by omega) (by simp only [Mk.doCut]; omega) (by rw [hfl, lastK_app]; rfl), hfl, List.append_assoc]
        rfl
theorem mkD_toks {d : List Part} (h : formOk 0 d) : mkD (toks d) = d := by
  have := run_form d Mk.new 0 h (by decide) (by decide) (fun _ _ => ⟨rfl, rfl⟩) (fun _ _ _ => rfl) (fun _ => trivial) (fun _ => rfl) (Int.le_refl 0) rfl
  exact this
theorem chk_formOk : ∀ (k : Int) (l : List Part), chk k l = 0 → formOk k l
  | _, [], _ => trivial
  | k, p :: l, h => by
    unfold chk at h
    split at h
    · exact absurd h (by decide)
    · rename_i h1
      split at h
      · rename_i h2; exact absurd h h2
      · rename_i h2
        have h3 := okP_bd (Decidable.of_not_not (p := fitF p = 0) h2)
        refine ⟨h3.2.2.2, fun g => h1 (.inl g), fun g => h1 (.inr g), chk_formOk _ l h⟩
theorem mkD_same {d : List Part} (h : checkF d = 0) : mkD (toks d) = d := mkD_toks (chk_formOk 0 d (checkF_ok h).2.1)
end Go.Proofs.Ytcdldpjmdelebaa.AM
