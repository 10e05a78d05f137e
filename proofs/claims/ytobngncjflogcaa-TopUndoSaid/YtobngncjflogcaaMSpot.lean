/-
  Places, as a text changes: the law SpotSays.
-/
import Derived.Test.YtobngncjflogcaaMU
import Derived.Test.YtobngncjflogcaaBC
set_option linter.unusedVariables false
set_option linter.unusedSimpArgs false
namespace Go.Proofs.Ytobngncjflogcaa.AM
open Go
set_option maxRecDepth 100000
set_option maxHeartbeats 2000000
def spotF (d : List Part) (at_ : Int) (late : Bool) : Int × Int := if checkF d ≠ 0 then (0, checkF d) else if at_ < 0 ∨ inF d < at_ then (0, 1) else (spotT late (toks d) at_, 0)
structure YS (d : List Part) (at_ : Int) (late : Bool) where
  k : Int
  fr : Int
  to : Int
  pre : List Part
  rest : List Part
  hd : d = pre ++ rest
  hk : k = (pre.length : Int)
  hf : fr = inF pre
  ht : 0 ≤ to ∧ to ≤ 500 * (pre.length : Int)
  hs : to + spotT late (toks rest) (at_ - fr) = spotT late (toks d) at_
theorem spot_step (late : Bool) (p : Part) (rest : List Part) (r : Int) (h : okP p) : spotT late (toks (p :: rest)) r = if p.kind = 2 then (if 0 < r ∨ late = true ∧ r = 0 then (p.text.length : Int) else 0) + spotT late (toks rest) r else (if p.kind = 1 then max 0 (min p.n r) else 0) + spotT late (toks rest) (r - p.n) := by
  have h1 := okP_bd h
  have e : ((p.n.toNat : Nat) : Int) = p.n := by omega
  simp only [toks, toks1]
  by_cases k2 : p.kind = 2
  · rw [if_pos k2, if_pos k2, spotT_put]
  · rw [if_neg k2, if_neg k2]
    split
    · rw [spotT_keep, e]
    · rw [spotT_cut, e]; omega
/-! the document's places -/
def b2iF (b : Bool) : Int := if b then 1 else 0
theorem spotP_succ : ∀ (ps : List (List UInt8)) (ks : List Bool) (n : Nat) (p : List UInt8) (k : Bool), ps[n]? = some p → ks[n]? = some k → spotP ps ks (n + 1) = spotP ps ks n + p.length + b2iF k
  | [], ks, n, p, k, h, _ => by simp at h
  | q :: ps, [], n, p, k, _, h => by simp at h
  | q :: ps, j :: ks, 0, p, k, h1, h2 => by
    simp at h1 h2; subst h1 h2
    cases ps <;> cases ks <;> simp [spotP, b2iF]
  | q :: ps, j :: ks, n + 1, p, k, h1, h2 => by
    have := spotP_succ ps ks n p k (by simpa using h1) (by simpa using h2)
    simp only [spotP, this]
    omega
theorem spotP_bd : ∀ (ps : List (List UInt8)) (ks : List Bool) (n : Nat), 0 ≤ spotP ps ks n ∧ spotP ps ks n ≤ (ps.flatten.length : Int) + n
  | [], ks, n => by simp [spotP]
  | q :: ps, [], n => by simp [spotP]; omega
  | q :: ps, j :: ks, 0 => by simp [spotP]; omega
  | q :: ps, j :: ks, n + 1 => by
    have := spotP_bd ps ks n
    simp only [spotP, List.flatten_cons, List.length_append]
    split <;> omega
structure YRs (ps : List (List UInt8)) (ks : List Bool) (n : Nat) where
  i : Nat
  k : Int
  to : Int
  hk : k = (i : Int)
  hi : i ≤ n
  ht : to = spotP ps ks i
end Go.Proofs.Ytobngncjflogcaa.AM
