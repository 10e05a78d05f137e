/-
  One revision taken back: undo.Of, the document's way, and the law UndoSays.
-/
import Derived.Test.YtcdldpjmdelebaaMRevs
import Derived.Test.YtcdldpjmdelebaaMTurn
import Derived.Test.YtcdldpjmdelebaaMRMeet
set_option linter.unusedVariables false
set_option linter.unusedSimpArgs false
namespace Go.Proofs.Ytcdldpjmdelebaa.AM
open Go
set_option maxRecDepth 100000
set_option maxHeartbeats 2000000
def foldU (x : List Part) : List Rev → List Part × Int
  | [] => (x, 0)
  | r :: l => if (meetF r.delta x).2.2 ≠ 0 then ([], (meetF r.delta x).2.2) else foldU (meetF r.delta x).2.1 l
theorem foldU_len : ∀ (l : List Rev) (x : List Part), x.length ≤ 10000000 → (foldU x l).1.length ≤ 10000000
  | [], x, h => h
  | r :: l, x, h => by
    unfold foldU
    split
    · simp
    · exact foldU_len l _ (meetF_len r.delta x).2
def txt (base : List UInt8) (l : List Rev) (k : Nat) : List UInt8 := (textsF base l).1.getD k []
def dlt (l : List Rev) (k : Nat) : List Part := match l[k]? with
  | some r => r.delta
  | none => []
def undoF (base : List UInt8) (l : List Rev) (k : Int) : List Part × Int :=
  if (textsF base l).2 ≠ 0 then ([], (textsF base l).2) else if k < 1 ∨ (l.length : Int) < k then ([], 1) else foldU (turnF (dlt l (k.toNat - 1)) (txt base l (k.toNat - 1))).1 (l.drop k.toNat)
theorem goT_step : ∀ (l : List Rev) (cur : List UInt8) (i : Nat) (r : Rev), (goT cur l).2 = 0 → l[i]? = some r → (doF r.delta ((cur :: (goT cur l).1).getD i [])).2 = 0
  | [], _, _, _, _, h => by simp at h
  | q :: l, cur, i, r, h, hi => by
    unfold goT at h ⊢
    split at h
    · contradiction
    · rename_i h1
      rw [if_neg h1]
      split at h
      · contradiction
      · rename_i h2
        rw [if_neg h2]
        cases i with
        | zero => simp at hi; subst hi; simpa using h2
        | succ i =>
          have := goT_step l _ i r h (by simpa using hi)
          simpa using this
theorem undo_turn {base : List UInt8} {l : List Rev} {k : Int} (h : (textsF base l).2 = 0) (h1 : 1 ≤ k) (h2 : k ≤ l.length) : (turnF (dlt l (k.toNat - 1)) (txt base l (k.toNat - 1))).2 = 0 := by
  obtain ⟨_, _, h3, h4, _⟩ := textsF_ok h
  have hi : l[k.toNat - 1]? = some (l[k.toNat - 1]'(by omega)) := List.getElem?_eq_getElem (by omega)
  have := goT_step l base (k.toNat - 1) _ h3 hi
  unfold turnF dlt txt
  rw [h4, hi]
  unfold doF at this
  split at this
  · rename_i h; simp only []; rw [if_pos h]
  · rename_i h; exact absurd this h

structure YUn (res : List Part × Int) (l : List Rev) where
  j : Int
  pre : List Rev
  rest : List Rev
  x : List Part
  hd : l = pre ++ rest
  hj : j = (pre.length : Int)
  hx : x.length ≤ 10000000
  hr : foldU x rest = res
theorem parts_ret {rv : List RV} {r : List Part} {e : Int} {R : S → Prop} (hR : ∀ s s', Ent s s' → RetF rv (.tup [encParts r, .int .i64 e]) s' → R s) : ∀ x, x = e → RetSl rv 3 (r.map encPart) [.int .i64 x] R := fun x hx => by
  subst hx
  exact retSl_of (parts_sz _) (encParts_fz _) (int_fz _) fun s s' he hr => hR s s' he hr
theorem len_of {n : Nat} (h : n ≤ 10000000) : n ≤ maxLen := by
  have : maxLen = 9223372036854775807 := by decide
  omega
theorem dlt_mem {l : List Rev} (hl : RevsOk l) (i : Nat) : (dlt l i).length ≤ maxLen := by
  unfold dlt
  split
  · rename_i r h; exact (hl.2 r (List.mem_of_getElem? h)).2.2.1
  · simp
/-! the document's -/
structure YUr (res : List Part × Int) (l : List Rev) where
  j : Int
  pre : List Rev
  rest : List Rev
  x : List Part
  e : Int
  hd : l = pre ++ rest
  hj : j = (pre.length : Int)
  hx : x.length ≤ 10000000
  h0 : e = 0 → foldU x rest = res
  h1 : e ≠ 0 → x = [] ∧ ([], e) = res
theorem meetF_nil {a b : List Part} (h : (meetF a b).2.2 ≠ 0) : (meetF a b).2.1 = [] := by
  unfold meetF at h ⊢
  split
  · rename_i hz; rw [if_pos hz] at h; exact absurd rfl h
  · rfl
/-! the law -/
theorem undo_len (base : List UInt8) (l : List Rev) (k : Int) : (undoF base l k).1.length ≤ 10000000 := by
  unfold undoF
  split
  · simp
  · split
    · simp
    · exact foldU_len _ _ (turn_len _ _)
end Go.Proofs.Ytcdldpjmdelebaa.AM
