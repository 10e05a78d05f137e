/-
  How to come from a text to another: the plain law (diff.Of).
-/
import Derived.Test.YtlomnjlfmbolkaaMAssoc0
import Derived.Test.YtlomnjlfmbolkaaMLcs
set_option linter.unusedVariables false
set_option linter.unusedSimpArgs false
namespace Go.Proofs.Ytlomnjlfmbolkaa.AM
open Go
set_option maxRecDepth 100000
set_option maxHeartbeats 2000000
def diffT : List UInt8 → List UInt8 → List Tok
  | [], t => t.map .put
  | _ :: s, [] => .cut :: diffT s []
  | a :: s, b :: t => if a = b then .keep :: diffT s t else if lcs (a :: s) t ≤ lcs s (b :: t) then .cut :: diffT s (b :: t) else .put b :: diffT (a :: s) t
termination_by s t => s.length + t.length
theorem diffT_nil_left (t : List UInt8) : diffT [] t = t.map .put := by unfold diffT; rfl
theorem diffT_nil_right (s : List UInt8) : diffT s [] = List.replicate s.length .cut := by
  induction s with
  | nil => unfold diffT; rfl
  | cons a s ih => rw [diffT, ih]; rfl
theorem diffT_cons (a b : UInt8) (s t : List UInt8) : diffT (a :: s) (b :: t) = if a = b then .keep :: diffT s t else if lcs (a :: s) t ≤ lcs s (b :: t) then .cut :: diffT s (b :: t) else .put b :: diffT (a :: s) t := by rw [diffT]
def costT : List Tok → Nat
  | [] => 0
  | .keep :: ts => costT ts
  | .put _ :: ts => costT ts + 1
  | .cut :: ts => costT ts + 1
theorem doT_put (t : List UInt8) (s : List UInt8) : doT (t.map .put) s = t := by
  induction t with
  | nil => cases s <;> rfl
  | cons b t ih => simp [doT, ih]
theorem costT_put (t : List UInt8) : costT (t.map .put) = t.length := by
  induction t with
  | nil => rfl
  | cons b t ih => simp [costT, ih]
theorem outT_put (t : List UInt8) : outT (t.map .put) = t.length := by
  induction t with
  | nil => rfl
  | cons b t ih => simp [outT, ih]; try omega
theorem diff_all : ∀ (s t : List UInt8), doT (diffT s t) s = t ∧ inT (diffT s t) = s.length ∧ outT (diffT s t) = t.length ∧ costT (diffT s t) + 2 * lcs s t = s.length + t.length
  | [], t => by
    rw [diffT_nil_left, lcs_nil_left]
    exact ⟨doT_put t [], by simp [inT, kepts_put], outT_put t, by rw [costT_put]; simp⟩
  | a :: s, [] => by
    have ih := diff_all s []
    rw [diffT, lcs_nil_right] at *

    refine ⟨?_, ?_, ?_, ?_⟩
    · simpa [doT] using ih.1
    · simpa [inT, kepts] using ih.2.1
    · simpa [outT] using ih.2.2.1
    · have := ih.2.2.2; simp [costT] at *; omega
  | a :: s, b :: t => by
    rw [diffT_cons, lcs_cons]
    by_cases h : a = b
    · have ih := diff_all s t
      rw [if_pos h, if_pos h]
      refine ⟨?_, ?_, ?_, ?_⟩
      · simp [doT, ih.1, h]
      · have := ih.2.1; simp [inT, kepts] at *; exact this
      · have := ih.2.2.1; simp [outT] at *; omega
      · have := ih.2.2.2; simp [costT] at *; omega
    · rw [if_neg h, if_neg h]
      by_cases h2 : lcs (a :: s) t ≤ lcs s (b :: t)
      · have ih := diff_all s (b :: t)
        rw [if_pos h2]
        refine ⟨?_, ?_, ?_, ?_⟩
        · simp [doT, ih.1]
        · have := ih.2.1; simp [inT, kepts] at *; exact this
        · have := ih.2.2.1; simp [outT] at *; omega
        · have := ih.2.2.2; simp [costT] at *; omega
      · have ih := diff_all (a :: s) t
        rw [if_neg h2]
        refine ⟨?_, ?_, ?_, ?_⟩
        · simp [doT, ih.1]
        · have := ih.2.1; simp [inT, kepts] at *; exact this
        · have := ih.2.2.1; simp [outT] at *; omega
        · have := ih.2.2.2; simp [costT] at *; omega
termination_by s t => s.length + t.length
/-! what a delta costs -/
def costP : List Part → Int
  | [] => 0
  | p :: l => (if p.kind = 1 then 0 else p.n + (p.text.length : Int)) + costP l
theorem costP_app (a b : List Part) : costP (a ++ b) = costP a + costP b := by
  induction a with
  | nil => simp [costP]
  | cons p a ih => simp only [List.cons_append, costP, ih]; omega
def Mk.cost (m : Mk) : Int := costP m.out + m.put.length + m.cut
theorem cost_flush (m : Mk) (h : 0 ≤ m.cut) : costP m.flush = m.cost := by
  unfold Mk.flush Mk.cost
  rw [costP_app, costP_app]
  have e1 : costP (if m.put = [] then [] else [⟨2, 0, m.put⟩]) = m.put.length := by
    split
    · rename_i h1; rw [h1]; rfl
    · simp [costP]
  have e2 : costP (if 0 < m.cut then [⟨3, m.cut, []⟩] else []) = m.cut := by
    split
    · simp [costP]
    · simp only [costP]; omega
  rw [e1, e2]
theorem cost_addKeep (o : List Part) (n : Int) : costP (addKeep o n) = costP o := by
  unfold addKeep
  split
  · rename_i p hp
    split
    · rename_i hk
      obtain ⟨q, hq⟩ : ∃ q, o = q ++ [p] := ⟨o.dropLast, by
        have hne : o ≠ [] := by rintro rfl; simp at hp
        have := List.dropLast_concat_getLast hne
        rw [List.getLast?_eq_some_getLast hne] at hp
        simp only [Option.some.injEq] at hp
        rw [hp] at this; exact this.symm⟩
      rw [hq, List.dropLast_concat, costP_app, costP_app]
      simp [costP, hk]
    · rw [costP_app]; simp [costP]
  · rename_i hp
    have : o = [] := List.getLast?_eq_none_iff.1 hp
    rw [this]; simp [costP]
theorem cost_run : ∀ (ts : List Tok) (m : Mk), 0 ≤ m.cut → (m.run ts).cost = m.cost + costT ts ∧ 0 ≤ (m.run ts).cut
  | [], m, h => by simp [Mk.run, costT]; exact h
  | t :: ts, m, h => by
    have e : m.run (t :: ts) = (m.tok t).run ts := rfl
    have hc : 0 ≤ (m.tok t).cut := by cases t <;> simp [Mk.tok, Mk.doKeep, Mk.doPut, Mk.doCut] <;> omega
    have ih := cost_run ts (m.tok t) hc
    rw [e]
    refine ⟨?_, ih.2⟩
    rw [ih.1]
    cases t with
    | keep =>
      have : (m.tok .keep).cost = m.cost := by
        show (m.doKeep 1).cost = _
        unfold Mk.doKeep
        rw [if_neg (by decide)]
        show costP (addKeep m.flush 1) + (([] : List UInt8).length : Int) + 0 = _
        rw [cost_addKeep, cost_flush m h]; simp
      rw [this]; rfl
    | put b =>
      have : (m.tok (.put b)).cost = m.cost + 1 := by simp [Mk.tok, Mk.doPut, Mk.cost]; omega
      rw [this]; simp only [costT]; omega
    | cut =>
      have : (m.tok .cut).cost = m.cost + 1 := by simp [Mk.tok, Mk.doCut, Mk.cost]; omega
      rw [this]; simp only [costT]; omega
theorem cost_mkD (ts : List Tok) : costP (mkD ts) = costT ts := by
  have h := cost_run ts Mk.new (Int.le_refl 0)
  unfold mkD
  rw [cost_flush _ h.2, h.1]
  simp [Mk.cost, Mk.new, costP]
/-- what Of answers -/
def diffF (s t : List UInt8) : List Part × Int := if 500 < s.length ∨ 500 < t.length then ([], 2) else (mkD (diffT s t), 0)
end Go.Proofs.Ytlomnjlfmbolkaa.AM
