/-
  The plain law of TopUndo: what is taken back is blamed on nobody, and that taken back gives the text again.
-/
import Derived.Test.YtobngncjflogcaaMUndo
import Derived.Test.YtobngncjflogcaaMBlame
import Derived.Test.YtobngncjflogcaaMAssoc0
set_option linter.unusedVariables false
set_option linter.unusedSimpArgs false
namespace Go.Proofs.Ytobngncjflogcaa.AM
open Go
set_option maxRecDepth 100000
set_option maxHeartbeats 2000000
/-- whose the bytes are that are kept -/
def kw : List Tok → List Int → List Int
  | [], _ => []
  | .keep :: ts, w => w.take 1 ++ kw ts (w.drop 1)
  | .cut :: ts, w => kw ts (w.drop 1)
  | .put _ :: ts, w => kw ts w
def gK : List (List UInt8 × Nat) → List Int → List Int
  | [], _ => []
  | [_], _ => []
  | g :: g2 :: r, w => (w.drop g.2).take 1 ++ gK (g2 :: r) (w.drop (g.2 + 1))
theorem kw_gaps (ts : List Tok) : ∀ w, kw ts w = gK (gaps ts) w := by
  induction ts with
  | nil => intro w; rfl
  | cons t ts ih =>
    intro w
    obtain ⟨⟨p, c⟩, r, h⟩ := gaps_ne ts
    rw [h] at ih
    cases t
    · simp only [gaps, h, gK, kw]; rw [← ih]; simp
    · simp only [gaps, h, kw]; rw [ih]; cases r <;> simp [gK]
    · simp only [gaps, h, kw]; rw [ih]; cases r <;> simp [gK, List.drop_drop, Nat.add_comm, Nat.add_left_comm]
theorem kw_mkD (ts : List Tok) (w : List Int) : kw (toks (mkD ts)) w = kw ts w := by rw [kw_gaps, gaps_mkD, ← kw_gaps]
theorem mem_bl {x i : Int} : ∀ {ts : List Tok} {w : List Int}, x ∈ blT i ts w → x = i ∨ x ∈ kw ts w
  | [], w, h => by cases h
  | .keep :: ts, w, h => by
    simp only [blT, kw, List.mem_append] at h ⊢
    rcases h with h | h
    · exact .inr (.inl h)
    · rcases mem_bl h with h | h
      · exact .inl h
      · exact .inr (.inr h)
  | .put b :: ts, w, h => by
    simp only [blT, kw, List.mem_cons] at h ⊢
    rcases h with h | h
    · exact .inl h
    · exact mem_bl h
  | .cut :: ts, w, h => by
    simp only [blT, kw] at h ⊢
    exact mem_bl h
theorem kw_sub {x : Int} : ∀ {ts : List Tok} {w : List Int}, x ∈ kw ts w → x ∈ w
  | [], w, h => by cases h
  | .keep :: ts, w, h => by
    simp only [kw, List.mem_append] at h
    rcases h with h | h
    · exact List.mem_of_mem_take h
    · exact List.mem_of_mem_drop (kw_sub h)
  | .put b :: ts, w, h => kw_sub (ts := ts) h
  | .cut :: ts, w, h => List.mem_of_mem_drop (kw_sub (ts := ts) h)
/-- all are of those ahead -/
theorem blF_lt (k : Int) : ∀ (l : List Rev) (i : Int) (w : List Int), (∀ x ∈ w, x < i) → i + l.length ≤ k → ∀ x ∈ blF i w l, x < k
  | [], i, w, hw, hk, x, hx => by
    have := hw x hx
    simp at hk; omega
  | r :: l, i, w, hw, hk, x, hx => by
    rw [blF] at hx
    refine blF_lt k l (i + 1) _ (fun y hy => ?_) (by simp at hk; omega) x hx
    rcases mem_bl hy with h | h
    · omega
    · have := hw y (kw_sub h); omega
theorem blT_len (i : Int) : ∀ (ts : List Tok) (w : List Int), w.length = inT ts → (blT i ts w).length = outT ts
  | [], w, h => rfl
  | .keep :: ts, w, h => by
    rw [in_keep] at h
    rw [blT, out_keep, List.length_append, blT_len i ts (w.drop 1) (by simp; omega)]
    simp; omega
  | .put b :: ts, w, h => by rw [blT, out_put, List.length_cons, blT_len i ts w h]
  | .cut :: ts, w, h => by
    rw [in_cut] at h
    rw [blT, out_cut, blT_len i ts (w.drop 1) (by simp; omega)]
/-- turned round: what was put is not kept -/
theorem kw_turn (k : Int) : ∀ (ts : List Tok) (s : List UInt8) (w : List Int), k ∉ w → w.length = inT ts → k ∉ kw (turnT ts s) (blT k ts w)
  | [], s, w, _, _ => by simp [turnT, kw]
  | .keep :: ts, s, w, h, hl => by
    rw [in_keep] at hl
    obtain ⟨x, w, rfl⟩ : ∃ x w', w = x :: w' := by cases w with | nil => simp at hl | cons x w => exact ⟨x, w, rfl⟩
    simp only [turnT, blT, List.take_succ_cons, List.take_zero, List.drop_succ_cons, List.drop_zero, List.singleton_append, kw, List.mem_cons, not_or] at *
    exact ⟨h.1, kw_turn k ts _ w h.2 (by simpa using hl)⟩
  | .put b :: ts, s, w, h, hl => by
    simp only [turnT, blT, kw, List.drop_succ_cons, List.drop_zero]
    exact kw_turn k ts s w h hl
  | .cut :: ts, s, w, h, hl => by
    rw [in_cut] at hl
    have e : ∀ (t : List UInt8) (ys : List Tok) (v : List Int), kw (t.map .put ++ ys) v = kw ys v := by
      intro t ys v
      induction t with
      | nil => rfl
      | cons b t ih => exact ih
    simp only [turnT, blT]
    rw [e]
    exact kw_turn k ts _ (w.drop 1) (fun hh => h (List.mem_of_mem_drop hh)) (by simp; omega)
/-- met: what is cut stays cut -/
theorem kw_meet (k i : Int) (hik : i ≠ k) : ∀ (f : Nat) (xs ys : List Tok) (w : List Int), xs.length + ys.length ≤ f → inT xs = inT ys → w.length = inT xs → k ∉ kw ys w → k ∉ kw (meetT f xs ys).2 (blT i xs w)
  | 0, xs, ys, w, hf, _, _, h => by simp [meetT, kw]
  | f + 1, .put b :: xs, ys, w, hf, hi, hw, h => by
    simp only [meetT, blT, kw, List.take_succ_cons, List.take_zero, List.drop_succ_cons, List.drop_zero, List.singleton_append, List.mem_cons, not_or]
    exact ⟨fun e => hik e.symm, kw_meet k i hik f xs ys w (by simp at hf ⊢; omega) hi hw h⟩
  | f + 1, [], .put b :: ys, w, hf, hi, hw, h => by
    simp only [meetT, kw]
    exact kw_meet k i hik f [] ys w (by simp at hf ⊢; omega) hi hw h
  | f + 1, .keep :: xs, .put b :: ys, w, hf, hi, hw, h => by
    simp only [meetT, kw]
    exact kw_meet k i hik f (.keep :: xs) ys w (by simp at hf ⊢; omega) hi hw h
  | f + 1, .cut :: xs, .put b :: ys, w, hf, hi, hw, h => by
    simp only [meetT, kw]
    exact kw_meet k i hik f (.cut :: xs) ys w (by simp at hf ⊢; omega) hi hw h
  | f + 1, .keep :: xs, .keep :: ys, w, hf, hi, hw, h => by
    rw [in_keep] at hw
    rw [in_keep, in_keep] at hi
    obtain ⟨x, w, rfl⟩ : ∃ x w', w = x :: w' := by cases w with | nil => simp at hw | cons x w => exact ⟨x, w, rfl⟩
    simp only [meetT, blT, kw, List.take_succ_cons, List.take_zero, List.drop_succ_cons, List.drop_zero, List.singleton_append, List.mem_cons, not_or] at h ⊢
    exact ⟨h.1, kw_meet k i hik f xs ys w (by simp at hf ⊢; omega) (by omega) (by simpa using hw) h.2⟩
  | f + 1, .cut :: xs, .keep :: ys, w, hf, hi, hw, h => by
    rw [in_cut] at hw
    rw [in_keep, in_cut] at hi
    obtain ⟨x, w, rfl⟩ : ∃ x w', w = x :: w' := by cases w with | nil => simp at hw | cons x w => exact ⟨x, w, rfl⟩
    simp only [meetT, blT, kw, List.take_succ_cons, List.take_zero, List.drop_succ_cons, List.drop_zero, List.singleton_append, List.mem_cons, not_or] at h ⊢
    exact kw_meet k i hik f xs ys w (by simp at hf ⊢; omega) (by omega) (by simpa using hw) h.2
  | f + 1, .keep :: xs, .cut :: ys, w, hf, hi, hw, h => by
    rw [in_keep] at hw
    rw [in_keep, in_cut] at hi
    obtain ⟨x, w, rfl⟩ : ∃ x w', w = x :: w' := by cases w with | nil => simp at hw | cons x w => exact ⟨x, w, rfl⟩
    simp only [meetT, blT, kw, List.take_succ_cons, List.take_zero, List.drop_succ_cons, List.drop_zero, List.singleton_append, List.mem_cons, not_or] at h ⊢
    exact kw_meet k i hik f xs ys w (by simp at hf ⊢; omega) (by omega) (by simpa using hw) h
  | f + 1, .cut :: xs, .cut :: ys, w, hf, hi, hw, h => by
    rw [in_cut] at hw
    rw [in_cut, in_cut] at hi
    obtain ⟨x, w, rfl⟩ : ∃ x w', w = x :: w' := by cases w with | nil => simp at hw | cons x w => exact ⟨x, w, rfl⟩
    simp only [meetT, blT, kw, List.take_succ_cons, List.take_zero, List.drop_succ_cons, List.drop_zero, List.singleton_append, List.mem_cons, not_or] at h ⊢
    exact kw_meet k i hik f xs ys w (by simp at hf ⊢; omega) (by omega) (by simpa using hw) h
  | f + 1, [], [], w, hf, hi, hw, h => by simp [meetT, kw]
  | f + 1, [], .keep :: ys, w, hf, hi, hw, h => by simp [meetT, kw]
  | f + 1, [], .cut :: ys, w, hf, hi, hw, h => by simp [meetT, kw]
  | f + 1, .keep :: xs, [], w, hf, hi, hw, h => by simp [meetT, kw]
  | f + 1, .cut :: xs, [], w, hf, hi, hw, h => by simp [meetT, kw]
theorem meetF_ok {a b : List Part} (h : (meetF a b).2.2 = 0) : checkF a = 0 ∧ checkF b = 0 ∧ inF a = inF b ∧ checkF (meetD a b) = 0 ∧ (meetF a b).2.1 = meetD a b := by
  unfold meetF at h ⊢
  by_cases he : meetE a b = 0
  · rw [if_pos he]
    unfold meetE at he
    by_cases h1 : checkF a ≠ 0
    · rw [if_pos h1] at he; exact absurd he h1
    rw [if_neg h1] at he
    by_cases h2 : checkF b ≠ 0
    · rw [if_pos h2] at he; exact absurd he h2
    rw [if_neg h2] at he
    by_cases h3 : inF a ≠ inF b
    · rw [if_pos h3] at he; exact absurd he (by decide)
    rw [if_neg h3] at he
    by_cases h4 : checkF (meetC a b) ≠ 0
    · rw [if_pos h4] at he; exact absurd he h4
    rw [if_neg h4] at he
    exact ⟨Decidable.of_not_not h1, Decidable.of_not_not h2, Decidable.of_not_not h3, he, rfl⟩
  · rw [if_neg he] at h; exact absurd h he
/-- how much a meeting takes and gives -/
theorem mt_sizes : ∀ (f : Nat) (xs ys : List Tok), xs.length + ys.length ≤ f → inT xs = inT ys → inT (meetT f xs ys).2 = outT xs
  | 0, xs, ys, hf, _ => by
    have : xs = [] := List.eq_nil_of_length_eq_zero (by omega)
    subst this; rfl
  | f + 1, .put b :: xs, ys, hf, hi => by
    simp only [meetT]
    rw [in_keep, out_put, mt_sizes f xs ys (by simp at hf ⊢; omega) hi]
  | f + 1, [], .put b :: ys, hf, hi => by
    simp only [meetT]
    exact mt_sizes f [] ys (by simp at hf ⊢; omega) hi
  | f + 1, .keep :: xs, .put b :: ys, hf, hi => by
    simp only [meetT]
    exact mt_sizes f (.keep :: xs) ys (by simp at hf ⊢; omega) hi
  | f + 1, .cut :: xs, .put b :: ys, hf, hi => by
    simp only [meetT]
    exact mt_sizes f (.cut :: xs) ys (by simp at hf ⊢; omega) hi
  | f + 1, .keep :: xs, .keep :: ys, hf, hi => by
    rw [in_keep, in_keep] at hi
    simp only [meetT]
    rw [in_keep, out_keep, mt_sizes f xs ys (by simp at hf ⊢; omega) (by omega)]
  | f + 1, .cut :: xs, .keep :: ys, hf, hi => by
    rw [in_keep, in_cut] at hi
    simp only [meetT]
    rw [out_cut, mt_sizes f xs ys (by simp at hf ⊢; omega) (by omega)]
  | f + 1, .keep :: xs, .cut :: ys, hf, hi => by
    rw [in_keep, in_cut] at hi
    simp only [meetT]
    rw [in_cut, out_keep, mt_sizes f xs ys (by simp at hf ⊢; omega) (by omega)]
  | f + 1, .cut :: xs, .cut :: ys, hf, hi => by
    rw [in_cut, in_cut] at hi
    simp only [meetT]
    rw [out_cut, mt_sizes f xs ys (by simp at hf ⊢; omega) (by omega)]
  | f + 1, [], [], hf, hi => rfl
  | f + 1, [], .keep :: ys, hf, hi => by rw [in_keep] at hi; exact absurd hi (by simp [inT, kepts])
  | f + 1, [], .cut :: ys, hf, hi => by rw [in_cut] at hi; exact absurd hi (by simp [inT, kepts])
  | f + 1, .keep :: xs, [], hf, hi => by rw [in_keep] at hi; exact absurd hi (by simp [inT, kepts])
  | f + 1, .cut :: xs, [], hf, hi => by rw [in_cut] at hi; exact absurd hi (by simp [inT, kepts])
end Go.Proofs.Ytobngncjflogcaa.AM
