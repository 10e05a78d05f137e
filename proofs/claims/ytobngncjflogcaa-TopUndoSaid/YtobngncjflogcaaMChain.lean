/-
  The texts of a list of revisions make a chain: each fits what stands before it.
-/
import Derived.Test.YtobngncjflogcaaMRevs
set_option linter.unusedVariables false
set_option linter.unusedSimpArgs false
namespace Go.Proofs.Ytobngncjflogcaa.AM
open Go
set_option maxRecDepth 100000
set_option maxHeartbeats 2000000
theorem in_keep (ts : List Tok) : inT (.keep :: ts) = inT ts + 1 := by simp [inT, kepts]
theorem in_cut (ts : List Tok) : inT (.cut :: ts) = inT ts + 1 := by simp [inT, kepts]
theorem in_put (b : UInt8) (ts : List Tok) : inT (.put b :: ts) = inT ts := rfl
theorem out_keep (ts : List Tok) : outT (.keep :: ts) = outT ts + 1 := rfl
theorem out_cut (ts : List Tok) : outT (.cut :: ts) = outT ts := rfl
theorem out_put (b : UInt8) (ts : List Tok) : outT (.put b :: ts) = outT ts + 1 := rfl
def chainL : Nat → List Rev → Nat → Prop
  | a, [], b => a = b ∧ a ≤ 500
  | a, r :: l, b => checkF r.delta = 0 ∧ inT (toks r.delta) = a ∧ a ≤ 500 ∧ chainL (outT (toks r.delta)) l b
theorem chain_le : ∀ {l : List Rev} {a b : Nat}, chainL a l b → a ≤ 500 ∧ b ≤ 500
  | [], _, _, h => ⟨h.2, h.1 ▸ h.2⟩
  | _ :: _, _, _, h => ⟨h.2.2.1, (chain_le h.2.2.2).2⟩
theorem okP_of {d : List Part} (h : checkF d = 0) : ∀ p ∈ d, okP p := (checkF_all h).2.1
theorem in_of {d : List Part} (h : checkF d = 0) : (inT (toks d) : Int) = inF d := (inT_toks _ (okP_of h))
theorem out_of {d : List Part} (h : checkF d = 0) : (outT (toks d) : Int) = outF d := (outT_toks _ (okP_of h))
theorem doF_chain {d : List Part} {s : List UInt8} (h : (doF d s).2 = 0) : checkF d = 0 ∧ inT (toks d) = s.length ∧ (doF d s).1.length = outT (toks d) ∧ s.length ≤ 500 := by
  unfold doF at h ⊢
  by_cases hf : fitsF d s.length = 0
  · obtain ⟨h1, h2⟩ := fitsF_ok hf
    have h3 := in_of h1
    have h4 := checkF_all h1
    rw [if_pos hf]
    have h5 : inT (toks d) = s.length := by omega
    refine ⟨h1, h5, ?_, by omega⟩
    exact doT_len _ _ h5.symm
  · rw [if_neg hf] at h; exact absurd h hf
theorem goT_chain : ∀ (l : List Rev) (cur : List UInt8) (i k : Nat), (goT cur l).2 = 0 → cur.length ≤ 500 → i ≤ k → k ≤ l.length → chainL ((cur :: (goT cur l).1).getD i []).length ((l.take k).drop i) ((cur :: (goT cur l).1).getD k []).length
  | l, cur, 0, 0, _, h2, _, _ => by simp [chainL, h2]
  | [], _, _, k + 1, _, _, _, h => by simp at h
  | [], _, i + 1, 0, _, _, h, _ => by omega
  | r :: l, cur, i + 1, 0, _, _, h, _ => by omega
  | r :: l, cur, i, k + 1, h, h2, h3, h4 => by
    unfold goT at h ⊢
    split at h
    · contradiction
    · rename_i h1
      rw [if_neg h1]
      split at h
      · contradiction
      · rename_i h5
        rw [if_neg h5]
        obtain ⟨c1, c2, c3, c4⟩ := doF_chain (Decidable.of_not_not h5)
        have hn : (doF r.delta cur).1.length ≤ 500 := by
          have := checkF_all c1
          have := out_of c1
          omega
        cases i with
        | zero =>
          have := goT_chain l _ 0 k h hn (Nat.zero_le _) (by simpa using h4)
          simp only [List.drop_zero] at this
          rw [List.take_succ_cons, List.drop_zero]
          refine ⟨c1, c2, h2, ?_⟩
          rw [← c3]
          simpa using this
        | succ i =>
          have := goT_chain l _ i k h hn (by omega) (by simpa using h4)
          simpa using this
end Go.Proofs.Ytobngncjflogcaa.AM
