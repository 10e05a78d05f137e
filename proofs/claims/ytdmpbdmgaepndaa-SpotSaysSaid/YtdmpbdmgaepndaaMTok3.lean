/-
  Two deltas as one, byte by byte; and the delta of some kept bytes and a text.
-/
import Derived.Test.YtdmpbdmgaepndaaMTok2
set_option linter.unusedVariables false
set_option linter.unusedSimpArgs false
namespace Go.Proofs.Ytdmpbdmgaepndaa.AM
open Go

def comps (l r : List (Nat × Nat)) : List (Nat × Nat) := l.flatMap fun p => r.filterMap fun q => if p.2 = q.1 then some (p.1, q.2) else none

theorem comps_skip (l : List (Nat × Nat)) (p : Nat × Nat) (r : List (Nat × Nat)) (h : ∀ x ∈ l, p.1 + 1 ≤ x.2) : comps l (p :: r) = comps l r := by
  unfold comps
  induction l with
  | nil => rfl
  | cons x l ih =>
    have hx := h x (by simp)
    rw [List.flatMap_cons, List.flatMap_cons, ih fun y hy => h y (by simp [hy])]
    rw [List.filterMap_cons, if_neg (by omega)]
theorem filter_none (j : Nat) (r : List (Nat × Nat)) (i : Nat) (h : ∀ x ∈ r, j + 1 ≤ x.1) : (r.filterMap fun q => if j = q.1 then some (i, q.2) else none) = [] := by
  rw [List.filterMap_eq_nil_iff]
  intro x hx
  have := h x hx
  rw [if_neg (by omega)]

theorem compT_spec : ∀ (f : Nat) (xs ys : List Tok) (s : List UInt8) (i j k : Nat), xs.length + ys.length ≤ f → outT xs = inT ys → s.length = inT xs →
    inT (compT f xs ys) = inT xs ∧ doT (compT f xs ys) s = doT ys (doT xs s) ∧ pairsT (compT f xs ys) i k = comps (pairsT xs i j) (pairsT ys j k) ∧ outT (compT f xs ys) = outT ys
  | 0, xs, ys, s, i, j, k, hf, ho, hs => by
    have h1 : xs = [] := List.eq_nil_of_length_eq_zero (by omega)
    have h2 : ys = [] := List.eq_nil_of_length_eq_zero (by omega)
    subst h1 h2
    exact ⟨rfl, rfl, rfl, rfl⟩
  | f + 1, .cut :: xs, ys, s, i, j, k, hf, ho, hs => by
    simp only [List.length_cons] at hf
    simp only [inT, kepts, List.length_cons] at hs
    obtain ⟨h1, h2, h3, h4⟩ := compT_spec f xs ys (s.drop 1) (i + 1) j k (by omega) (by simpa [outT] using ho) (by simp [inT]; omega)
    simp only [compT, doT, pairsT, outT]
    refine ⟨?_, h2, h3, h4⟩
    simpa [inT, kepts] using h1
  | f + 1, [], .put b :: ys, s, i, j, k, hf, ho, hs => by
    simp only [List.length_cons] at hf
    obtain ⟨h1, h2, h3, h4⟩ := compT_spec f [] ys s i j (k + 1) (by simp at hf ⊢; omega) (by simpa [outT, inT, kepts] using ho) hs
    simp only [compT, doT, pairsT, outT]
    exact ⟨by simpa [inT, kepts] using h1, by rw [h2]; rfl, h3, by omega⟩
  | f + 1, .keep :: xs, .put b :: ys, s, i, j, k, hf, ho, hs => by
    simp only [List.length_cons] at hf
    obtain ⟨h1, h2, h3, h4⟩ := compT_spec f (.keep :: xs) ys s i j (k + 1) (by simp; omega) (by simpa [outT, inT, kepts] using ho) hs
    rw [compT]
    · simp only [doT, pairsT, outT]
      refine ⟨by simpa [inT, kepts] using h1, ?_, h3, by omega⟩
      rw [h2]; rfl
    · intro _ h; cases h
  | f + 1, .put c :: xs, .put b :: ys, s, i, j, k, hf, ho, hs => by
    simp only [List.length_cons] at hf
    obtain ⟨h1, h2, h3, h4⟩ := compT_spec f (.put c :: xs) ys s i j (k + 1) (by simp; omega) (by simpa [outT, inT, kepts] using ho) hs
    rw [compT]
    · simp only [doT, pairsT, outT]
      refine ⟨by simpa [inT, kepts] using h1, ?_, h3, by omega⟩
      rw [h2]; rfl
    · intro _ h; cases h
  | f + 1, .keep :: xs, .keep :: ys, s, i, j, k, hf, ho, hs => by
    simp only [List.length_cons] at hf
    simp only [inT, kepts, List.length_cons] at hs
    obtain ⟨x, s, rfl⟩ : ∃ x s', s = x :: s' := by cases s with | nil => simp at hs | cons x s => exact ⟨x, s, rfl⟩
    obtain ⟨h1, h2, h3, h4⟩ := compT_spec f xs ys s (i + 1) (j + 1) (k + 1) (by omega) (by simpa [outT, inT, kepts] using ho) (by simpa [inT] using hs)
    simp only [compT, doT, pairsT, outT]
    refine ⟨by simpa [inT, kepts] using h1, ?_, ?_, by omega⟩
    · simp only [List.take_succ_cons, List.take_zero, List.drop_succ_cons, List.drop_zero, List.singleton_append, List.cons_append, List.nil_append]
      rw [h2]
    · rw [h3]
      have e : comps ((i, j) :: pairsT xs (i + 1) (j + 1)) ((j, k) :: pairsT ys (j + 1) (k + 1)) = [(i, k)] ++ comps (pairsT xs (i + 1) (j + 1)) ((j, k) :: pairsT ys (j + 1) (k + 1)) := by
        simp only [comps, List.flatMap_cons, List.filterMap_cons, ↓reduceIte]
        rw [filter_none j _ i fun x hx => (pairsT_ge _ _ _ x hx).1]
      rw [e, comps_skip _ (j, k) _ fun x hx => (pairsT_ge _ _ _ x hx).2]
      rfl
  | f + 1, .keep :: xs, .cut :: ys, s, i, j, k, hf, ho, hs => by
    simp only [List.length_cons] at hf
    simp only [inT, kepts, List.length_cons] at hs
    obtain ⟨x, s, rfl⟩ : ∃ x s', s = x :: s' := by cases s with | nil => simp at hs | cons x s => exact ⟨x, s, rfl⟩
    obtain ⟨h1, h2, h3, h4⟩ := compT_spec f xs ys s (i + 1) (j + 1) k (by omega) (by simpa [outT, inT, kepts] using ho) (by simpa [inT] using hs)
    simp only [compT, doT, pairsT, outT]
    refine ⟨by simpa [inT, kepts] using h1, ?_, ?_, h4⟩
    · simp only [List.take_succ_cons, List.take_zero, List.drop_succ_cons, List.drop_zero, List.singleton_append, List.cons_append, List.nil_append]
      rw [h2]
    · rw [h3]
      simp only [comps, List.flatMap_cons]
      rw [filter_none j _ i fun x hx => (pairsT_ge _ _ _ x hx).1]
      rfl
  | f + 1, .put b :: xs, .keep :: ys, s, i, j, k, hf, ho, hs => by
    simp only [List.length_cons] at hf
    obtain ⟨h1, h2, h3, h4⟩ := compT_spec f xs ys s i (j + 1) (k + 1) (by omega) (by simpa [outT, inT, kepts] using ho) hs
    simp only [compT, doT, pairsT, outT]
    refine ⟨by simpa [inT, kepts] using h1, ?_, ?_, by omega⟩
    · simp only [List.take_succ_cons, List.take_zero, List.drop_succ_cons, List.drop_zero, List.singleton_append]
      rw [h2]
    · rw [h3, comps_skip _ (j, k) _ fun x hx => (pairsT_ge _ _ _ x hx).2]
  | f + 1, .put b :: xs, .cut :: ys, s, i, j, k, hf, ho, hs => by
    simp only [List.length_cons] at hf
    obtain ⟨h1, h2, h3, h4⟩ := compT_spec f xs ys s i (j + 1) k (by omega) (by simpa [outT, inT, kepts] using ho) hs
    simp only [compT, doT, pairsT, outT]
    refine ⟨by simpa [inT, kepts] using h1, ?_, h3, h4⟩
    simp only [List.drop_succ_cons, List.drop_zero]
    rw [h2]
  | f + 1, [], [], s, i, j, k, hf, ho, hs => ⟨rfl, rfl, rfl, rfl⟩
  | f + 1, [], .keep :: ys, s, i, j, k, hf, ho, hs => by simp [outT, inT, kepts] at ho
  | f + 1, [], .cut :: ys, s, i, j, k, hf, ho, hs => by simp [outT, inT, kepts] at ho
  | f + 1, .keep :: xs, [], s, i, j, k, hf, ho, hs => by simp [outT, inT, kepts] at ho
  | f + 1, .put b :: xs, [], s, i, j, k, hf, ho, hs => by simp [outT, inT, kepts] at ho

/-! the delta of kept bytes and a text -/
def madeT (n : Nat) (text : List UInt8) : Nat → Nat → List (Nat × Nat) → List Tok
  | i0, j0, [] => (text.drop j0).map .put ++ List.replicate (n - i0) .cut
  | i0, j0, (i, j) :: r => ((text.drop j0).take (j - j0)).map .put ++ List.replicate (i - i0) .cut ++ .keep :: madeT n text (i + 1) (j + 1) r
theorem gaps_put_app (t : List UInt8) (ts : List Tok) (p : List UInt8) (c : Nat) (r : List (List UInt8 × Nat)) (h : gaps ts = (p, c) :: r) : gaps (t.map .put ++ ts) = (t ++ p, c) :: r := by
  induction t with
  | nil => simpa using h
  | cons b t ih => simp only [List.map_cons, List.cons_append, gaps, ih]
theorem gaps_cut_app (n : Nat) (ts : List Tok) (p : List UInt8) (c : Nat) (r : List (List UInt8 × Nat)) (h : gaps ts = (p, c) :: r) : gaps (List.replicate n .cut ++ ts) = (p, c + n) :: r := by
  induction n with
  | zero => simpa using h
  | succ n ih => simp only [List.replicate_succ, List.cons_append, gaps, ih]; simp [Nat.add_assoc]
theorem gaps_made (n : Nat) (text : List UInt8) (l : List (Nat × Nat)) (i0 j0 : Nat) : gaps (madeT n text i0 j0 l) = gapsOf n text i0 j0 l := by
  induction l generalizing i0 j0 with
  | nil =>
    simp only [madeT, gapsOf]
    have := gaps_cut_app (n - i0) [] [] 0 [] rfl
    rw [List.append_nil] at this
    have := gaps_put_app (text.drop j0) _ _ _ _ this
    simpa using this
  | cons p l ih =>
    obtain ⟨i, j⟩ := p
    simp only [madeT, gapsOf, List.append_assoc]
    have h0 : gaps (.keep :: madeT n text (i + 1) (j + 1) l) = ([], 0) :: gapsOf n text (i + 1) (j + 1) l := by simp only [gaps, ih]
    have := gaps_put_app ((text.drop j0).take (j - j0)) _ _ _ _ (gaps_cut_app (i - i0) _ _ _ _ h0)
    simpa using this
/-- a delta's bytes, made anew of what is kept and what comes of it -/
theorem mkD_made (ts : List Tok) (s : List UInt8) (hs : s.length = inT ts) : mkD ts = mkD (madeT (inT ts) (doT ts s) 0 0 (pairsT ts 0 0)) := by
  refine mkD_gaps ?_
  rw [gaps_made]
  have := gaps_of ts s [] 0 hs
  simpa using this
end Go.Proofs.Ytdmpbdmgaepndaa.AM
