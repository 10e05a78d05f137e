/-
  How many bytes two texts have in common, in order, at most.
-/
set_option linter.unusedVariables false
set_option linter.unusedSimpArgs false
namespace Go.Proofs.Ytlomnjlfmbolkaa.AM

def lcs : List UInt8 → List UInt8 → Nat
  | [], _ => 0
  | _ :: _, [] => 0
  | a :: s, b :: t => if a = b then 1 + lcs s t else max (lcs s (b :: t)) (lcs (a :: s) t)
termination_by s t => s.length + t.length
theorem lcs_nil_left (t : List UInt8) : lcs [] t = 0 := by unfold lcs; rfl
theorem lcs_nil_right (s : List UInt8) : lcs s [] = 0 := by cases s <;> (unfold lcs; rfl)
theorem lcs_cons (a b : UInt8) (s t : List UInt8) : lcs (a :: s) (b :: t) = if a = b then 1 + lcs s t else max (lcs s (b :: t)) (lcs (a :: s) t) := by rw [lcs]
theorem lcs_ex : ∀ (s t : List UInt8), ∃ l, List.Sublist l s ∧ List.Sublist l t ∧ l.length = lcs s t
  | [], t => ⟨[], List.nil_sublist _, List.nil_sublist _, by rw [lcs_nil_left]; rfl⟩
  | a :: s, [] => ⟨[], List.nil_sublist _, List.nil_sublist _, by rw [lcs_nil_right]; rfl⟩
  | a :: s, b :: t => by
    rw [lcs_cons]
    by_cases h : a = b
    · subst h
      obtain ⟨l, h1, h2, h3⟩ := lcs_ex s t
      exact ⟨a :: l, h1.cons_cons a, h2.cons_cons a, by rw [if_pos rfl, List.length_cons, h3]; omega⟩
    · rw [if_neg h]
      rcases Nat.le_total (lcs s (b :: t)) (lcs (a :: s) t) with hm | hm
      · obtain ⟨l, h1, h2, h3⟩ := lcs_ex (a :: s) t
        exact ⟨l, h1, h2.cons b, by rw [h3]; omega⟩
      · obtain ⟨l, h1, h2, h3⟩ := lcs_ex s (b :: t)
        exact ⟨l, h1.cons a, h2, by rw [h3]; omega⟩
termination_by s t => s.length + t.length
theorem lcs_ub : ∀ (s t l : List UInt8), List.Sublist l s → List.Sublist l t → l.length ≤ lcs s t
  | [], t, l, h1, _ => by
    have : l = [] := List.sublist_nil.1 h1
    subst this; simp
  | a :: s, [], l, _, h2 => by
    have : l = [] := List.sublist_nil.1 h2
    subst this; simp
  | a :: s, b :: t, l, h1, h2 => by
    rw [lcs_cons]
    cases l with
    | nil => simp
    | cons x l =>
      by_cases h : a = b
      · subst h
        rw [if_pos rfl]
        have g1 : List.Sublist l s := by
          cases h1 with
          | cons _ h1 => exact (List.sublist_cons_self x l).trans h1
          | cons_cons _ h1 => exact h1
        have g2 : List.Sublist l t := by
          cases h2 with
          | cons _ h2 => exact (List.sublist_cons_self x l).trans h2
          | cons_cons _ h2 => exact h2
        have := lcs_ub s t l g1 g2
        simp only [List.length_cons]
        omega
      · rw [if_neg h]
        cases h1 with
        | cons _ h1 =>
          have := lcs_ub s (b :: t) (x :: l) h1 h2
          omega
        | cons_cons _ h1 =>
          cases h2 with
          | cons _ h2 =>
            have := lcs_ub (a :: s) t (a :: l) (h1.cons_cons a) h2
            omega
          | cons_cons _ h2 => exact absurd rfl h
termination_by s t => s.length + t.length
theorem lcs_reverse (s t : List UInt8) : lcs s.reverse t.reverse = lcs s t := by
  apply Nat.le_antisymm
  · obtain ⟨l, h1, h2, h3⟩ := lcs_ex s.reverse t.reverse
    rw [← h3, ← List.length_reverse]
    exact lcs_ub _ _ _ (by rw [← List.reverse_sublist, List.reverse_reverse]; exact h1) (by rw [← List.reverse_sublist, List.reverse_reverse]; exact h2)
  · obtain ⟨l, h1, h2, h3⟩ := lcs_ex s t
    rw [← h3, ← List.length_reverse]
    exact lcs_ub _ _ _ (List.reverse_sublist.2 h1) (List.reverse_sublist.2 h2)
end Go.Proofs.Ytlomnjlfmbolkaa.AM
