/-
  Deltas byte by byte: places, a delta the other way, two deltas of one text.
-/
import Derived.Test.YtdmpbdmgaepndaaMTok3
set_option linter.unusedVariables false
set_option linter.unusedSimpArgs false
namespace Go.Proofs.Ytdmpbdmgaepndaa.AM
open Go

/-! places -/
def spotP : List (List UInt8) → List Bool → Nat → Int
  | p :: ps, k :: ks, n + 1 => p.length + (if k then 1 else 0) + spotP ps ks n
  | _, _, _ => 0
def spotT (late : Bool) : List Tok → Int → Int
  | [], _ => 0
  | .put _ :: ts, r => (if 0 < r ∨ late = true ∧ r = 0 then 1 else 0) + spotT late ts r
  | .keep :: ts, r => (if 0 < r then 1 else 0) + spotT late ts (r - 1)
  | .cut :: ts, r => spotT late ts (r - 1)
theorem spotT_neg (late : Bool) (ts : List Tok) (r : Int) (h : r < 0) : spotT late ts r = 0 := by
  induction ts generalizing r with
  | nil => rfl
  | cons t ts ih =>
    cases t
    · simp only [spotT]; rw [ih _ (by omega), if_neg (by omega)]; rfl
    · simp only [spotT]; rw [ih _ h, if_neg (by omega)]; rfl
    · simp only [spotT]; exact ih _ (by omega)
theorem spotT_put (late : Bool) (t : List UInt8) (ts : List Tok) (r : Int) : spotT late (t.map .put ++ ts) r = (if 0 < r ∨ late = true ∧ r = 0 then (t.length : Int) else 0) + spotT late ts r := by
  induction t with
  | nil => simp
  | cons b t ih =>
    simp only [List.map_cons, List.cons_append, spotT, ih, List.length_cons]
    split <;> omega
theorem spotT_keep (late : Bool) (n : Nat) (ts : List Tok) (r : Int) : spotT late (List.replicate n .keep ++ ts) r = max 0 (min (n : Int) r) + spotT late ts (r - n) := by
  induction n generalizing r with
  | zero => simp; omega
  | succ n ih =>
    simp only [List.replicate_succ, List.cons_append, spotT, ih]
    have e : r - 1 - (n : Int) = r - ((n + 1 : Nat) : Int) := by omega
    rw [e]
    split <;> omega
theorem spotT_cut (late : Bool) (n : Nat) (ts : List Tok) (r : Int) : spotT late (List.replicate n .cut ++ ts) r = spotT late ts (r - n) := by
  induction n generalizing r with
  | zero => simp
  | succ n ih =>
    simp only [List.replicate_succ, List.cons_append, spotT, ih]
    congr 1
    omega
theorem spot_eq (late : Bool) (ts : List Tok) (n : Nat) (h : n ≤ inT ts) : spotT late ts n = spotP (puts ts) (kepts ts) n + (if late then (((puts ts).getD n []).length : Int) else 0) := by
  induction ts generalizing n with
  | nil =>
    have : n = 0 := by simpa [inT, kepts] using h
    subst this
    simp [spotT, spotP, puts, kepts]
  | cons t ts ih =>
    cases t
    · cases n with
      | zero =>
        simp only [spotT, puts, kepts, spotP]
        rw [spotT_neg _ _ _ (by omega)]
        simp
      | succ n =>
        have := ih n (by simpa [inT, kepts] using h)
        simp only [spotT, puts, kepts, spotP, List.length_nil]
        rw [show ((n + 1 : Nat) : Int) - 1 = n by omega, this, if_pos (by omega)]
        simp
        omega
    · have := ih n h
      obtain ⟨p, r, hp⟩ := puts_ne ts
      simp only [spotT, puts, kepts, this, hp, consHead]
      cases n with
      | zero => cases late <;> simp [spotP] <;> omega
      | succ n =>
        rw [if_pos (by omega)]
        cases hk : kepts ts with
        | nil => simp [inT, kepts, hk] at h
        | cons k ks =>
          simp only [spotP, List.length_cons, List.getD_cons_succ]
          omega
    · cases n with
      | zero =>
        simp only [spotT, puts, kepts, spotP]
        rw [spotT_neg _ _ _ (by omega)]
        simp
      | succ n =>
        have := ih n (by simpa [inT, kepts] using h)
        simp only [spotT, puts, kepts, spotP, List.length_nil]
        rw [show ((n + 1 : Nat) : Int) - 1 = n by omega, this]
        simp

/-! a delta the other way -/
def turnT : List Tok → List UInt8 → List Tok
  | [], _ => []
  | .keep :: ts, s => .keep :: turnT ts (s.drop 1)
  | .cut :: ts, s => (s.take 1).map .put ++ turnT ts (s.drop 1)
  | .put _ :: ts, s => .cut :: turnT ts s
theorem turnT_spec (ts : List Tok) (s : List UInt8) (i j : Nat) (hs : s.length = inT ts) :
    inT (turnT ts s) = outT ts ∧ doT (turnT ts s) (doT ts s) = s ∧ pairsT (turnT ts s) j i = (pairsT ts i j).map fun p => (p.2, p.1) := by
  induction ts generalizing s i j with
  | nil =>
    have : s = [] := List.eq_nil_of_length_eq_zero (by simpa [inT, kepts] using hs)
    subst this
    exact ⟨rfl, rfl, rfl⟩
  | cons t ts ih =>
    cases t
    · simp only [inT, kepts, List.length_cons] at hs
      obtain ⟨x, s, rfl⟩ : ∃ x s', s = x :: s' := by cases s with | nil => simp at hs | cons x s => exact ⟨x, s, rfl⟩
      obtain ⟨h1, h2, h3⟩ := ih s (i + 1) (j + 1) (by simpa [inT] using hs)
      refine ⟨by simpa [inT, kepts, turnT, outT] using h1, by simp [turnT, doT, h2], by simp [turnT, pairsT, h3]⟩
    · obtain ⟨h1, h2, h3⟩ := ih s i (j + 1) hs
      refine ⟨by simpa [inT, kepts, turnT, outT] using h1, by simp [turnT, doT, h2], by simp [turnT, pairsT, h3]⟩
    · simp only [inT, kepts, List.length_cons] at hs
      obtain ⟨x, s, rfl⟩ : ∃ x s', s = x :: s' := by cases s with | nil => simp at hs | cons x s => exact ⟨x, s, rfl⟩
      obtain ⟨h1, h2, h3⟩ := ih s (i + 1) j (by simpa [inT] using hs)
      refine ⟨by simpa [inT, kepts, turnT, outT] using h1, by simp [turnT, doT, h2], by simp [turnT, pairsT, h3]⟩

/-! two deltas of one text -/
def meetT : Nat → List Tok → List Tok → List Tok × List Tok
  | 0, _, _ => ([], [])
  | f + 1, .put b :: xs, ys => (.put b :: (meetT f xs ys).1, .keep :: (meetT f xs ys).2)
  | f + 1, xs, .put b :: ys => (.keep :: (meetT f xs ys).1, .put b :: (meetT f xs ys).2)
  | f + 1, .keep :: xs, .keep :: ys => (.keep :: (meetT f xs ys).1, .keep :: (meetT f xs ys).2)
  | f + 1, .cut :: xs, .keep :: ys => (.cut :: (meetT f xs ys).1, (meetT f xs ys).2)
  | f + 1, .keep :: xs, .cut :: ys => ((meetT f xs ys).1, .cut :: (meetT f xs ys).2)
  | f + 1, .cut :: xs, .cut :: ys => meetT f xs ys
  | _ + 1, _, _ => ([], [])
def stepP (k m : Bool) : List Tok × List Tok := (if m then [if k then .keep else .cut] else [], if k then [if m then .keep else .cut] else [])
def meetP : List (List UInt8) → List Bool → List (List UInt8) → List Bool → List Tok × List Tok
  | p :: ps, k :: ks, q :: qs, m :: ms => (p.map .put ++ List.replicate q.length .keep ++ (stepP k m).1 ++ (meetP ps ks qs ms).1, List.replicate p.length .keep ++ q.map .put ++ (stepP k m).2 ++ (meetP ps ks qs ms).2)
  | p :: _, _, q :: _, _ => (p.map .put ++ List.replicate q.length .keep, List.replicate p.length .keep ++ q.map .put)
  | _, _, _, _ => ([], [])
theorem meetP_left (b : UInt8) (l : List (List UInt8)) (ks : List Bool) (r : List (List UInt8)) (ms : List Bool) (hl : l ≠ []) (hr : r ≠ []) : meetP (consHead b l) ks r ms = (.put b :: (meetP l ks r ms).1, .keep :: (meetP l ks r ms).2) := by
  cases l with
  | nil => exact absurd rfl hl
  | cons p l =>
    cases r with
    | nil => exact absurd rfl hr
    | cons q r => cases ks <;> cases ms <;> simp [consHead, meetP, List.replicate_succ]
theorem meetP_right (b : UInt8) (l : List (List UInt8)) (ks : List Bool) (r : List (List UInt8)) (ms : List Bool) (hr : r ≠ []) : meetP ([] :: l) ks (consHead b r) ms = (.keep :: (meetP ([] :: l) ks r ms).1, .put b :: (meetP ([] :: l) ks r ms).2) := by
  cases r with
  | nil => exact absurd rfl hr
  | cons q r => cases ks <;> cases ms <;> simp [consHead, meetP, List.replicate_succ]
theorem meet_eq : ∀ (f : Nat) (xs ys : List Tok), xs.length + ys.length ≤ f → inT xs = inT ys → meetP (puts xs) (kepts xs) (puts ys) (kepts ys) = meetT f xs ys
  | 0, xs, ys, hf, hi => by
    have h1 : xs = [] := List.eq_nil_of_length_eq_zero (by omega)
    have h2 : ys = [] := List.eq_nil_of_length_eq_zero (by omega)
    subst h1 h2
    rfl
  | f + 1, .put b :: xs, ys, hf, hi => by
    simp only [List.length_cons] at hf
    simp only [puts, kepts, meetT]
    rw [meetP_left _ _ _ _ _ (puts_nn xs) (puts_nn ys), meet_eq f xs ys (by omega) hi]
  | f + 1, [], .put b :: ys, hf, hi => by
    simp only [List.length_cons] at hf
    rw [meetT]
    · have := meet_eq f [] ys (by simp at hf ⊢; omega) hi
      simp only [puts, kepts] at this ⊢
      rw [meetP_right _ _ _ _ _ (puts_nn ys), this]
    · intro _ _ h; cases h
  | f + 1, .keep :: xs, .put b :: ys, hf, hi => by
    simp only [List.length_cons] at hf
    rw [meetT]
    · have := meet_eq f (.keep :: xs) ys (by simp; omega) hi
      simp only [puts, kepts] at this ⊢
      rw [meetP_right _ _ _ _ _ (puts_nn ys), this]
    · intro _ _ h; cases h
  | f + 1, .cut :: xs, .put b :: ys, hf, hi => by
    simp only [List.length_cons] at hf
    rw [meetT]
    · have := meet_eq f (.cut :: xs) ys (by simp; omega) hi
      simp only [puts, kepts] at this ⊢
      rw [meetP_right _ _ _ _ _ (puts_nn ys), this]
    · intro _ _ h; cases h
  | f + 1, .keep :: xs, .keep :: ys, hf, hi => by
    simp only [List.length_cons] at hf
    have := meet_eq f xs ys (by omega) (by simpa [inT, kepts] using hi)
    simp [puts, kepts, meetT, meetP, stepP, this]
  | f + 1, .cut :: xs, .keep :: ys, hf, hi => by
    simp only [List.length_cons] at hf
    have := meet_eq f xs ys (by omega) (by simpa [inT, kepts] using hi)
    simp [puts, kepts, meetT, meetP, stepP, this]
  | f + 1, .keep :: xs, .cut :: ys, hf, hi => by
    simp only [List.length_cons] at hf
    have := meet_eq f xs ys (by omega) (by simpa [inT, kepts] using hi)
    simp [puts, kepts, meetT, meetP, stepP, this]
  | f + 1, .cut :: xs, .cut :: ys, hf, hi => by
    simp only [List.length_cons] at hf
    have := meet_eq f xs ys (by omega) (by simpa [inT, kepts] using hi)
    simp [puts, kepts, meetT, meetP, stepP, this]
  | f + 1, [], [], hf, hi => by simp [puts, kepts, meetT, meetP]
  | f + 1, [], .keep :: ys, hf, hi => by simp [inT, kepts] at hi
  | f + 1, [], .cut :: ys, hf, hi => by simp [inT, kepts] at hi
  | f + 1, .keep :: xs, [], hf, hi => by simp [inT, kepts] at hi
  | f + 1, .cut :: xs, [], hf, hi => by simp [inT, kepts] at hi
end Go.Proofs.Ytdmpbdmgaepndaa.AM
