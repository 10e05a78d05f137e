/-
  Deltas byte by byte: what comes of a text, which bytes are kept, two deltas as one, two deltas side by side, a delta the other way.
-/
import Derived.Test.YtdmpbdmgaepndaaMTok
set_option linter.unusedVariables false
set_option linter.unusedSimpArgs false
namespace Go.Proofs.Ytdmpbdmgaepndaa.AM
open Go

/-! what comes of a text -/
def doT : List Tok → List UInt8 → List UInt8
  | [], _ => []
  | .put b :: ts, s => b :: doT ts s
  | .keep :: ts, s => s.take 1 ++ doT ts (s.drop 1)
  | .cut :: ts, s => doT ts (s.drop 1)
def doP : List (List UInt8) → List Bool → List UInt8 → List UInt8
  | p :: ps, k :: ks, s => p ++ (if k then s.take 1 else []) ++ doP ps ks (s.drop 1)
  | p :: _, [], _ => p
  | [], _, _ => []
theorem doP_consHead (b : UInt8) (l : List (List UInt8)) (ks : List Bool) (s : List UInt8) (h : l ≠ []) : doP (consHead b l) ks s = b :: doP l ks s := by
  cases l with
  | nil => exact absurd rfl h
  | cons p r => cases ks <;> simp [consHead, doP]
theorem puts_nn (ts : List Tok) : puts ts ≠ [] := by obtain ⟨p, r, h⟩ := puts_ne ts; rw [h]; simp
theorem doP_eq (ts : List Tok) (s : List UInt8) : doP (puts ts) (kepts ts) s = doT ts s := by
  induction ts generalizing s with
  | nil => rfl
  | cons t ts ih =>
    cases t
    · simp [puts, kepts, doP, doT, ih]
    · simp only [puts, kepts, doT]
      rw [doP_consHead _ _ _ _ (puts_nn ts), ih]
    · simp [puts, kepts, doP, doT, ih]
def inT (ts : List Tok) : Nat := (kepts ts).length
def outT : List Tok → Nat
  | [] => 0
  | .cut :: ts => outT ts
  | .keep :: ts => outT ts + 1
  | .put _ :: ts => outT ts + 1
theorem outT_app (a b : List Tok) : outT (a ++ b) = outT a + outT b := by
  induction a with
  | nil => simp [outT]
  | cons t a ih => cases t <;> simp [outT, ih] <;> omega
theorem inT_app (a b : List Tok) : inT (a ++ b) = inT a + inT b := by simp [inT, kepts_app]
theorem doT_len (ts : List Tok) (s : List UInt8) (h : s.length = inT ts) : (doT ts s).length = outT ts := by
  induction ts generalizing s with
  | nil => rfl
  | cons t ts ih =>
    cases t
    · simp only [inT, kepts, List.length_cons] at h
      simp only [doT, outT, List.length_append, List.length_take]
      rw [ih _ (by simp [inT]; omega)]
      omega
    · simp only [doT, outT, List.length_cons]
      rw [ih _ h]
    · simp only [inT, kepts, List.length_cons] at h
      simp only [doT, outT]
      exact ih _ (by simp [inT]; omega)
theorem doT_app (a b : List Tok) (s : List UInt8) : doT (a ++ b) s = doT a s ++ doT b (s.drop (inT a)) := by
  induction a generalizing s with
  | nil => simp [doT, inT, kepts]
  | cons t a ih => cases t <;> simp [doT, inT, kepts, ih, List.drop_drop, Nat.add_comm]

/-! which bytes are kept -/
def pairsT : List Tok → Nat → Nat → List (Nat × Nat)
  | [], _, _ => []
  | .put _ :: ts, i, j => pairsT ts i (j + 1)
  | .keep :: ts, i, j => (i, j) :: pairsT ts (i + 1) (j + 1)
  | .cut :: ts, i, j => pairsT ts (i + 1) j
def pairsP : List (List UInt8) → List Bool → Nat → Nat → List (Nat × Nat)
  | p :: ps, k :: ks, i, j => (if k then [(i, j + p.length)] else []) ++ pairsP ps ks (i + 1) (j + p.length + (if k then 1 else 0))
  | _, _, _, _ => []
theorem pairsP_consHead (b : UInt8) (l : List (List UInt8)) (ks : List Bool) (i j : Nat) (h : l ≠ []) : pairsP (consHead b l) ks i j = pairsP l ks i (j + 1) := by
  cases l with
  | nil => exact absurd rfl h
  | cons p r =>
    cases ks with
    | nil => simp [consHead, pairsP]
    | cons k ks => simp [consHead, pairsP, Nat.add_assoc, Nat.add_comm, Nat.add_left_comm]
theorem pairsP_eq (ts : List Tok) (i j : Nat) : pairsP (puts ts) (kepts ts) i j = pairsT ts i j := by
  induction ts generalizing i j with
  | nil => rfl
  | cons t ts ih =>
    cases t
    · simp [puts, kepts, pairsP, pairsT, ih]
    · simp only [puts, kepts, pairsT]
      rw [pairsP_consHead _ _ _ _ _ (puts_nn ts), ih]
    · simp [puts, kepts, pairsP, pairsT, ih]

/-! what lies between two kept bytes -/
def gaps : List Tok → List (List UInt8 × Nat)
  | [] => [([], 0)]
  | .put b :: ts => match gaps ts with
    | (p, c) :: r => (b :: p, c) :: r
    | [] => []
  | .cut :: ts => match gaps ts with
    | (p, c) :: r => (p, c + 1) :: r
    | [] => []
  | .keep :: ts => ([], 0) :: gaps ts
theorem gaps_ne (ts : List Tok) : ∃ g r, gaps ts = g :: r := by
  induction ts with
  | nil => exact ⟨_, _, rfl⟩
  | cons t ts ih => cases t <;> obtain ⟨⟨p, c⟩, r, h⟩ := ih <;> simp [gaps, h]
def Mk.gap (m : Mk) (g : List UInt8 × Nat) : Mk := ⟨m.out, m.put ++ g.1, m.cut + g.2⟩
def Mk.runG (m : Mk) : List (List UInt8 × Nat) → Mk
  | [] => m
  | [g] => m.gap g
  | g :: g2 :: r => Mk.runG ((m.gap g).doKeep 1) (g2 :: r)
theorem Mk.runG_put (m : Mk) (b : UInt8) (p : List UInt8) (c : Nat) (r : List (List UInt8 × Nat)) : m.runG ((b :: p, c) :: r) = (m.doPut [b]).runG ((p, c) :: r) := by
  cases r <;> simp [Mk.runG, Mk.gap, Mk.doPut]
theorem Mk.runG_cut (m : Mk) (p : List UInt8) (c : Nat) (r : List (List UInt8 × Nat)) : m.runG ((p, c + 1) :: r) = (m.doCut 1).runG ((p, c) :: r) := by
  have h : m.cut + ((c + 1 : Nat) : Int) = m.cut + 1 + (c : Int) := by omega
  cases r <;> simp only [Mk.runG, Mk.gap, Mk.doCut, h]
theorem Mk.run_gaps (m : Mk) (ts : List Tok) : m.run ts = m.runG (gaps ts) := by
  induction ts generalizing m with
  | nil => simp [Mk.run, gaps, Mk.runG, Mk.gap]
  | cons t ts ih =>
    obtain ⟨⟨p, c⟩, r, h⟩ := gaps_ne ts
    have hs : m.run (t :: ts) = (m.tok t).run ts := rfl
    rw [hs, ih, h]
    cases t
    · simp only [gaps, h, Mk.runG, Mk.tok]
      congr 1
      simp [Mk.gap]
    · simp only [gaps, h]
      exact (Mk.runG_put m _ _ _ _).symm
    · simp only [gaps, h]
      exact (Mk.runG_cut m _ _ _).symm
theorem mkD_gaps {a b : List Tok} (h : gaps a = gaps b) : mkD a = mkD b := by unfold mkD; rw [Mk.run_gaps, Mk.run_gaps, h]

/-- the gaps out of the kept bytes and the text that comes of it -/
def gapsOf (n : Nat) (text : List UInt8) : Nat → Nat → List (Nat × Nat) → List (List UInt8 × Nat)
  | i0, j0, [] => [(text.drop j0, n - i0)]
  | i0, j0, (i, j) :: r => ((text.drop j0).take (j - j0), i - i0) :: gapsOf n text (i + 1) (j + 1) r
theorem gapsOf_put (n : Nat) (pre : List UInt8) (b : UInt8) (rest : List UInt8) (i0 : Nat) (ks : List (Nat × Nat)) (g : List UInt8 × Nat) (r : List (List UInt8 × Nat)) (hk : ∀ p ∈ ks, pre.length + 1 ≤ p.2)
    (h : gapsOf n (pre ++ b :: rest) i0 (pre.length + 1) ks = g :: r) : gapsOf n (pre ++ b :: rest) i0 pre.length ks = (b :: g.1, g.2) :: r := by
  cases ks with
  | nil =>
    simp only [gapsOf, List.cons.injEq] at h ⊢
    obtain ⟨rfl, rfl⟩ := h
    simp
  | cons p ks =>
    obtain ⟨i, j⟩ := p
    have hj : pre.length + 1 ≤ j := hk (i, j) (by simp)
    simp only [gapsOf, List.cons.injEq] at h ⊢
    obtain ⟨rfl, rfl⟩ := h
    obtain ⟨m, hm⟩ : ∃ m, j - pre.length = m + 1 := ⟨j - pre.length - 1, by omega⟩
    rw [hm, show j - (pre.length + 1) = m by omega]
    simp
theorem pairsT_ge (ts : List Tok) (i j : Nat) : ∀ p ∈ pairsT ts i j, i ≤ p.1 ∧ j ≤ p.2 := by
  induction ts generalizing i j with
  | nil => simp [pairsT]
  | cons t ts ih =>
    intro p hp
    cases t
    · simp only [pairsT, List.mem_cons] at hp
      rcases hp with rfl | hp
      · simp
      · have := ih _ _ p hp; omega
    · have := ih _ _ p hp; omega
    · have := ih _ _ p hp; omega
theorem gapsOf_cut (n : Nat) (text : List UInt8) (i0 j0 : Nat) (ks : List (Nat × Nat)) (g : List UInt8 × Nat) (r : List (List UInt8 × Nat)) (hk : ∀ p ∈ ks, i0 + 1 ≤ p.1) (hn : i0 + 1 ≤ n) (h : gapsOf n text (i0 + 1) j0 ks = g :: r) :
    gapsOf n text i0 j0 ks = (g.1, g.2 + 1) :: r := by
  cases ks with
  | nil =>
    simp only [gapsOf, List.cons.injEq] at h ⊢
    obtain ⟨rfl, rfl⟩ := h
    simp
    omega
  | cons p ks =>
    obtain ⟨i, j⟩ := p
    have hj : i0 + 1 ≤ i := hk (i, j) (by simp)
    simp only [gapsOf, List.cons.injEq] at h ⊢
    obtain ⟨rfl, rfl⟩ := h
    simp
    omega
theorem gaps_of (ts : List Tok) (s pre : List UInt8) (i0 : Nat) (hs : s.length = inT ts) : gaps ts = gapsOf (i0 + inT ts) (pre ++ doT ts s) i0 pre.length (pairsT ts i0 pre.length) := by
  induction ts generalizing s pre i0 with
  | nil => simp [gaps, doT, pairsT, gapsOf, inT, kepts]
  | cons t ts ih =>
    cases t
    · simp only [inT, kepts, List.length_cons] at hs
      obtain ⟨x, s, rfl⟩ : ∃ x s', s = x :: s' := by cases s with | nil => simp at hs | cons x s => exact ⟨x, s, rfl⟩
      have := ih s (pre ++ [x]) (i0 + 1) (by simpa [inT] using hs)
      simp only [gaps, doT, pairsT, gapsOf, this]
      have e : i0 + 1 + inT ts = i0 + inT (.keep :: ts) := by simp [inT, kepts]; omega
      rw [e]
      simp
    · have := ih s (pre ++ [by assumption]) i0 hs
      simp only [List.length_append, List.length_cons, List.length_nil, Nat.zero_add, List.append_assoc, List.singleton_append] at this
      obtain ⟨g, r, h⟩ := gaps_ne ts
      rw [h] at this
      simp only [gaps, doT, pairsT, h]
      exact (gapsOf_put _ _ _ _ _ _ _ _ (fun p hp => (pairsT_ge _ _ _ p hp).2) this.symm).symm
    · simp only [inT, kepts, List.length_cons] at hs
      obtain ⟨x, s, rfl⟩ : ∃ x s', s = x :: s' := by cases s with | nil => simp at hs | cons x s => exact ⟨x, s, rfl⟩
      have := ih s pre (i0 + 1) (by simpa [inT] using hs)
      obtain ⟨g, r, h⟩ := gaps_ne ts
      rw [h] at this
      simp only [gaps, doT, pairsT, h, List.drop_one, List.tail_cons]
      have e : i0 + inT (.cut :: ts) = i0 + 1 + inT ts := by simp [inT, kepts]; omega
      rw [e]
      exact (gapsOf_cut _ _ _ _ _ _ _ (fun p hp => (pairsT_ge _ _ _ p hp).1) (by omega) this.symm).symm

/-! two deltas as one -/
def compT : Nat → List Tok → List Tok → List Tok
  | 0, _, _ => []
  | f + 1, .cut :: xs, ys => .cut :: compT f xs ys
  | f + 1, xs, .put b :: ys => .put b :: compT f xs ys
  | f + 1, .keep :: xs, .keep :: ys => .keep :: compT f xs ys
  | f + 1, .keep :: xs, .cut :: ys => .cut :: compT f xs ys
  | f + 1, .put b :: xs, .keep :: ys => .put b :: compT f xs ys
  | f + 1, .put _ :: xs, .cut :: ys => compT f xs ys
  | _ + 1, _, _ => []
end Go.Proofs.Ytdmpbdmgaepndaa.AM
