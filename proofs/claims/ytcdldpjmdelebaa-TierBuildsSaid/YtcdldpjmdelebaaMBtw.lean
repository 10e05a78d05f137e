/-
  From one revision to a later one: the plain law, from either end.
-/
import Derived.Test.YtcdldpjmdelebaaMAssoc
import Derived.Test.YtcdldpjmdelebaaMUndo
set_option linter.unusedVariables false
set_option linter.unusedSimpArgs false
namespace Go.Proofs.Ytcdldpjmdelebaa.AM
open Go
set_option maxRecDepth 100000
set_option maxHeartbeats 2000000
def rT : List Rev → Nat → List Tok
  | [], n => idT n
  | r :: l, n => cmp (toks r.delta) (rT l n)
def lF (x : List Part) : List Rev → List Part × Int
  | [] => (x, 0)
  | r :: l => if (compF x r.delta).2 ≠ 0 then ([], (compF x r.delta).2) else lF (compF x r.delta).1 l
def chainL : Nat → List Rev → Nat → Prop
  | a, [], b => a = b ∧ a ≤ 500
  | a, r :: l, b => checkF r.delta = 0 ∧ inT (toks r.delta) = a ∧ a ≤ 500 ∧ chainL (outT (toks r.delta)) l b
theorem chain_le : ∀ {l : List Rev} {a b : Nat}, chainL a l b → a ≤ 500 ∧ b ≤ 500
  | [], _, _, h => ⟨h.2, h.1 ▸ h.2⟩
  | _ :: _, _, _, h => ⟨h.2.2.1, (chain_le h.2.2.2).2⟩
theorem rT_sz : ∀ {l : List Rev} {a b : Nat}, chainL a l b → inT (rT l b) = a ∧ outT (rT l b) = b
  | [], a, b, h => by unfold rT; rw [in_id, out_id]; exact ⟨h.1.symm, rfl⟩
  | r :: l, a, b, h => by
    obtain ⟨h1, h2⟩ := rT_sz h.2.2.2
    obtain ⟨g1, g2⟩ := cmp_spec (toks r.delta) (rT l b) h1.symm
    unfold rT
    exact ⟨g1.trans h.2.1, g2.trans h2⟩
theorem okP_of {d : List Part} (h : checkF d = 0) : ∀ p ∈ d, okP p := (checkF_all h).2.1
theorem in_of {d : List Part} (h : checkF d = 0) : (inT (toks d) : Int) = inF d := (inT_toks _ (okP_of h))
theorem out_of {d : List Part} (h : checkF d = 0) : (outT (toks d) : Int) = outF d := (outT_toks _ (okP_of h))
/-- two as one, of what fits -/
theorem compF_fit {a b : List Part} (ha : checkF a = 0) (hb : checkF b = 0) (h : outT (toks a) = inT (toks b)) : compF a b = (mkD (cmp (toks a) (toks b)), 0) := by
  unfold compF
  rw [if_neg (fun g => g ha), if_neg (fun g => g hb), if_neg (fun g => g (by rw [← out_of ha, ← in_of hb, h]))]
theorem lF_eq : ∀ (l : List Rev) (ts : List Tok) (a b : Nat), chainL a l b → outT ts = a → inT ts ≤ 500 → lF (mkD ts) l = (mkD (cmp ts (rT l b)), 0)
  | [], ts, a, b, h, ho, hi => by
    unfold rT lF
    rw [← h.1, ← ho, cmp_idr]
  | r :: l, ts, a, b, h, ho, hi => by
    obtain ⟨h1, h2, h3, h4⟩ := h
    have hc := checkF_mkD ts hi (by omega)
    have hm := compF_fit hc h1 (by rw [outT_mkD]; omega)
    have hio : outT ts = inT (toks r.delta) := by omega
    obtain ⟨g1, g2⟩ := cmp_spec ts (toks r.delta) hio
    unfold lF rT
    rw [hm, if_neg (by simp), mkD_L _ _ hio, lF_eq l _ _ b h4 g2 (by omega), cmp3 _ _ _ hio (rT_sz h4).1.symm]
theorem lF_id (l : List Rev) (a b : Nat) (h : chainL a l b) : lF (mkD (idT a)) l = (mkD (rT l b), 0) := by
  have h1 := chain_le h
  rw [lF_eq l _ a b h (out_id a) (by rw [in_id]; exact h1.1)]
  have := cmp_idl (rT l b)
  rw [(rT_sz h).1] at this
  rw [this]
theorem rF_step (r : Rev) (l : List Rev) (a b : Nat) (h : chainL a (r :: l) b) : compF r.delta (mkD (rT l b)) = (mkD (rT (r :: l) b), 0) := by
  obtain ⟨h1, h2, h3, h4⟩ := h
  have h5 := chain_le h4
  obtain ⟨h6, h7⟩ := rT_sz h4
  rw [compF_fit h1 (checkF_mkD _ (by omega) (by omega)) (by rw [inT_mkD, h6]), mkD_R _ _ h6.symm]
  rfl
theorem chain_app : ∀ {l l2 : List Rev} {a b : Nat}, chainL a (l ++ l2) b → ∃ c, chainL a l c ∧ chainL c l2 b
  | [], l2, a, b, h => ⟨a, ⟨rfl, (chain_le h).1⟩, h⟩
  | r :: l, l2, a, b, h => by
    obtain ⟨c, h1, h2⟩ := chain_app h.2.2.2
    exact ⟨c, ⟨h.1, h.2.1, h.2.2.1, h1⟩, h2⟩
/-! the texts of a list of revisions make a chain -/
theorem doF_chain {d : List Part} {s : List UInt8} (h : (doF d s).2 = 0) : checkF d = 0 ∧ inT (toks d) = s.length ∧ (doF d s).1.length = outT (toks d) ∧ s.length ≤ 500 := by
  unfold doF at h ⊢
  by_cases hf : fitsF d s.length = 0
  · obtain ⟨h1, h2⟩ := fitsF_ok hf
    have h3 := in_of h1
    have h4 := checkF_all h1
    rw [if_pos hf]
    have h5 : inT (toks d) = s.length := by omega
    refine ⟨h1, h5, ?_, by omega⟩
    exact doT_len _ _ h5.symm
  · rw [if_neg hf] at h; exact absurd h hf
theorem goT_chain : ∀ (l : List Rev) (cur : List UInt8) (i k : Nat), (goT cur l).2 = 0 → cur.length ≤ 500 → i ≤ k → k ≤ l.length → chainL ((cur :: (goT cur l).1).getD i []).length ((l.take k).drop i) ((cur :: (goT cur l).1).getD k []).length
  | l, cur, 0, 0, _, h2, _, _ => by simp [chainL, h2]
  | [], _, _, k + 1, _, _, _, h => by simp at h
  | [], _, i + 1, 0, _, _, h, _ => by omega
  | r :: l, cur, i + 1, 0, _, _, h, _ => by omega
  | r :: l, cur, i, k + 1, h, h2, h3, h4 => by
    unfold goT at h ⊢
    split at h
    · contradiction
    · rename_i h1
      rw [if_neg h1]
      split at h
      · contradiction
      · rename_i h5
        rw [if_neg h5]
        obtain ⟨c1, c2, c3, c4⟩ := doF_chain (Decidable.of_not_not h5)
        have hn : (doF r.delta cur).1.length ≤ 500 := by
          have := checkF_all c1
          have := out_of c1
          omega
        cases i with
        | zero =>
          have := goT_chain l _ 0 k h hn (Nat.zero_le _) (by simpa using h4)
          simp only [List.drop_zero] at this
          rw [List.take_succ_cons, List.drop_zero]
          refine ⟨c1, c2, h2, ?_⟩
          rw [← c3]
          simpa using this
        | succ i =>
          have := goT_chain l _ i k h hn (by omega) (by simpa using h4)
          simpa using this
/-- what lies between -/
def btwF (base : List UInt8) (l : List Rev) (i k : Int) : List Part × Int :=
  if (textsF base l).2 ≠ 0 then ([], (textsF base l).2) else if i < 0 ∨ (l.length : Int) < k ∨ k < i then ([], 1)
  else (mkD (rT ((l.take k.toNat).drop i.toNat) (txt base l k.toNat).length), 0)
theorem btw_chain {base : List UInt8} {l : List Rev} {i k : Int} (h : (textsF base l).2 = 0) (h1 : 0 ≤ i) (h2 : i ≤ k) (h3 : k ≤ l.length) : chainL (txt base l i.toNat).length ((l.take k.toNat).drop i.toNat) (txt base l k.toNat).length := by
  obtain ⟨g1, g2, g3, g4, _⟩ := textsF_ok h
  have := goT_chain l base i.toNat k.toNat g3 g1 (by omega) (by omega)
  unfold txt
  rw [g4]
  exact this
end Go.Proofs.Ytcdldpjmdelebaa.AM
