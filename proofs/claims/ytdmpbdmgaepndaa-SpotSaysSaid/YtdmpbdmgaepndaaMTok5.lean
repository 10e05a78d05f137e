/-
  A delta that is made is in its form.
-/
import Derived.Test.YtdmpbdmgaepndaaMTok2
set_option linter.unusedVariables false
set_option linter.unusedSimpArgs false
namespace Go.Proofs.Ytdmpbdmgaepndaa.AM
open Go

def partOk (p : Part) : Prop := (p.kind = 2 ∧ p.n = 0 ∧ p.text ≠ []) ∨ ((p.kind = 1 ∨ p.kind = 3) ∧ 0 < p.n ∧ p.text = [])
def formOk : Int → List Part → Prop
  | _, [] => True
  | last, p :: l => partOk p ∧ p.kind ≠ last ∧ ¬ (last = 3 ∧ p.kind = 2) ∧ formOk p.kind l
def lastK : Int → List Part → Int
  | k, [] => k
  | _, p :: l => lastK p.kind l
theorem formOk_app (k : Int) (a b : List Part) : formOk k (a ++ b) ↔ formOk k a ∧ formOk (lastK k a) b := by
  induction a generalizing k with
  | nil => simp [formOk, lastK]
  | cons p a ih =>
    simp only [List.cons_append, formOk, lastK, ih]
    constructor
    · rintro ⟨a, b, c, d, e⟩; exact ⟨⟨a, b, c, d⟩, e⟩
    · rintro ⟨⟨a, b, c, d⟩, e⟩; exact ⟨a, b, c, d, e⟩
theorem lastK_app (k : Int) (a b : List Part) : lastK k (a ++ b) = lastK (lastK k a) b := by
  induction a generalizing k with
  | nil => rfl
  | cons p a ih => simp [lastK, ih]
theorem fit_form {p : Part} (h : partOk p) : fitF p = 0 ∨ fitF p = 2 := by
  unfold partOk at h
  unfold fitF
  grind
theorem chk_form : ∀ (k : Int) (l : List Part), formOk k l → chk k l = 0 ∨ chk k l = 2
  | _, [], _ => .inl rfl
  | k, p :: l, h => by
    obtain ⟨h1, h2, h3, h4⟩ := h
    have h5 := fit_form h1
    have h6 := chk_form _ l h4
    unfold chk
    rw [if_neg (by rintro (h | h); exact h2 h; exact h3 h)]
    split
    · rcases h5 with h | h
      · exact absurd h (by assumption)
      · exact .inr h
    · exact h6
structure Mk.Ok (m : Mk) : Prop where
  form : formOk 0 m.out
  last : lastK 0 m.out = 1 ∨ lastK 0 m.out = 0
  cut : 0 ≤ m.cut
theorem Mk.ok_new : Mk.new.Ok := ⟨trivial, .inr rfl, Int.le_refl _⟩
theorem Mk.Ok.flush {m : Mk} (h : m.Ok) : formOk 0 m.flush := by
  obtain ⟨h1, h2, h3⟩ := h
  unfold Mk.flush
  by_cases hp : m.put = []
  · rw [if_pos hp, List.append_nil, formOk_app]
    refine ⟨h1, ?_⟩
    by_cases hc : 0 < m.cut
    · rw [if_pos hc]
      exact ⟨.inr ⟨.inr rfl, hc, rfl⟩, by show (3 : Int) ≠ _; omega, by show ¬ (_ ∧ (3 : Int) = 2); omega, trivial⟩
    · rw [if_neg hc]; trivial
  · rw [if_neg hp, formOk_app, formOk_app, lastK_app]
    refine ⟨⟨h1, .inl ⟨rfl, rfl, hp⟩, by show (2 : Int) ≠ _; omega, by show ¬ (_ ∧ (2 : Int) = 2); omega, trivial⟩, ?_⟩
    by_cases hc : 0 < m.cut
    · rw [if_pos hc]
      exact ⟨.inr ⟨.inr rfl, hc, rfl⟩, by show (3 : Int) ≠ 2; omega, by show ¬ (_ ∧ (3 : Int) = 2); omega, trivial⟩
    · rw [if_neg hc]; trivial
theorem addKeep_ok {o : List Part} {n : Int} (h : formOk 0 o) (hn : 0 < n) : formOk 0 (addKeep o n) ∧ lastK 0 (addKeep o n) = 1 := by
  unfold addKeep
  cases hl : o.getLast? with
  | none =>
    have : o = [] := by simpa using hl
    subst this
    exact ⟨⟨.inr ⟨.inl rfl, hn, rfl⟩, by show (1 : Int) ≠ 0; omega, by show ¬ (_ ∧ (1 : Int) = 2); omega, trivial⟩, rfl⟩
  | some p =>
    obtain ⟨a, rfl⟩ : ∃ a, o = a ++ [p] := by
      have hne : o ≠ [] := by intro h0; subst h0; simp at hl
      refine ⟨o.dropLast, ?_⟩
      have := List.dropLast_concat_getLast hne
      rw [List.getLast?_eq_some_getLast hne] at hl
      cases hl
      exact this.symm
    rw [formOk_app] at h
    obtain ⟨h1, h2, h3, h4, _⟩ := h
    by_cases hk : p.kind = 1
    · simp only [hk, ↓reduceIte, List.dropLast_concat]
      rw [formOk_app, lastK_app]
      refine ⟨⟨h1, ?_, ?_, by show ¬ (_ ∧ (1 : Int) = 2); omega, trivial⟩, rfl⟩
      · rcases h2 with ⟨h, _⟩ | ⟨_, h5, h6⟩
        · omega
        · exact .inr ⟨.inl rfl, by show 0 < p.n + n; omega, h6⟩
      · rw [hk] at h3; exact h3
    · simp only [hk, ↓reduceIte]
      rw [formOk_app, lastK_app, lastK_app]
      refine ⟨⟨(formOk_app _ _ _).2 ⟨h1, h2, h3, h4, trivial⟩, .inr ⟨.inl rfl, hn, rfl⟩, ?_, by show ¬ (_ ∧ (1 : Int) = 2); omega, trivial⟩, rfl⟩
      show (1 : Int) ≠ p.kind
      omega
theorem Mk.Ok.tok {m : Mk} (h : m.Ok) (t : Tok) : (m.tok t).Ok := by
  cases t
  · have := addKeep_ok h.flush (n := 1) (by omega)
    simp only [Mk.tok, Mk.doKeep]
    rw [if_neg (by omega)]
    exact ⟨this.1, .inl this.2, Int.le_refl _⟩
  · exact ⟨h.form, h.last, h.cut⟩
  · exact ⟨h.form, h.last, by show 0 ≤ m.cut + 1; have := h.cut; omega⟩
theorem Mk.Ok.run {m : Mk} (h : m.Ok) (ts : List Tok) : (m.run ts).Ok := by
  induction ts generalizing m with
  | nil => exact h
  | cons t ts ih => exact ih (h.tok t)
theorem mkD_form (ts : List Tok) : formOk 0 (mkD ts) := (Mk.ok_new.run ts).flush
/-- a delta that is made is right, or too large -/
theorem mkD_check (ts : List Tok) : checkF (mkD ts) = 0 ∨ checkF (mkD ts) = 2 := by
  have := chk_form 0 _ (mkD_form ts)
  unfold checkF
  grind
theorem mkD_fit (ts : List Tok) : ∀ p ∈ mkD ts, fitF p = 0 ∨ fitF p = 2 := by
  have : ∀ (k : Int) (l : List Part), formOk k l → ∀ p ∈ l, partOk p := by
    intro k l
    induction l generalizing k with
    | nil => simp
    | cons q l ih =>
      intro h p hp
      rcases List.mem_cons.1 hp with rfl | hp
      · exact h.1
      · exact ih _ h.2.2.2 p hp
  exact fun p hp => fit_form (this 0 _ (mkD_form ts) p hp)
end Go.Proofs.Ytdmpbdmgaepndaa.AM
