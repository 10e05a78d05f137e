/-
  Deltas the other way: the law TurnSays.
-/
import Derived.Test.YtlomnjlfmbolkaaMMade
import Derived.Test.YtlomnjlfmbolkaaMFits
set_option linter.unusedVariables false
set_option linter.unusedSimpArgs false
namespace Go.Proofs.Ytlomnjlfmbolkaa.AM
open Go
set_option maxRecDepth 100000
set_option maxHeartbeats 2000000
def turnF (d : List Part) (s : List UInt8) : List Part × Int := if fitsF d s.length = 0 then (mkD (turnT (toks d) s), 0) else ([], fitsF d s.length)
theorem turnT_keep (n : Nat) (ts : List Tok) (s : List UInt8) : turnT (List.replicate n .keep ++ ts) s = List.replicate n .keep ++ turnT ts (s.drop n) := by
  induction n generalizing s with
  | zero => simp
  | succ n ih => simp [List.replicate_succ, turnT, ih, List.drop_drop, Nat.add_comm]
theorem turnT_cut (n : Nat) (ts : List Tok) (s : List UInt8) : turnT (List.replicate n .cut ++ ts) s = (s.take n).map .put ++ turnT ts (s.drop n) := by
  induction n generalizing s with
  | zero => simp
  | succ n ih => cases s <;> simp [List.replicate_succ, turnT, ih]
theorem turnT_put (t : List UInt8) (ts : List Tok) (s : List UInt8) : turnT (t.map .put ++ ts) s = List.replicate t.length .cut ++ turnT ts s := by
  induction t with
  | nil => simp
  | cons b t ih => simp [List.replicate_succ, turnT, ih]
def turn1 (m : Mk) (p : Part) (s : List UInt8) : Mk := if p.kind = 1 then m.doKeep p.n else if p.kind = 3 then m.doPut (s.take p.n.toNat) else m.doCut p.text.length
theorem turn_step (m : Mk) (p : Part) (rest : List Part) (s : List UInt8) (h : okP p) : m.run (turnT (toks (p :: rest)) s) = (turn1 m p s).run (turnT (toks rest) (if p.kind = 2 then s else s.drop p.n.toNat)) := by
  have h1 := okP_bd h
  have e : ((p.n.toNat : Nat) : Int) = p.n := by omega
  simp only [toks, toks1, turn1]
  by_cases k2 : p.kind = 2
  · rw [if_pos k2, if_pos k2, turnT_put, Mk.run_app, Mk.run_cut, if_neg (by omega), if_neg (by omega)]
  · rw [if_neg k2, if_neg k2]
    by_cases k1 : p.kind = 1
    · rw [if_pos k1, if_pos k1, turnT_keep, Mk.run_app, Mk.run_keep, e]
    · rw [if_neg k1, if_neg k1, if_pos (by omega), turnT_cut, Mk.run_app, Mk.run_put]
theorem bd_turn1 {m : Mk} {j w : Nat} (h : m.Bd j w) (p : Part) (s : List UInt8) (hp : okP p) : (turn1 m p s).Bd (j + 500) (w + 500) := by
  have h1 := okP_bd hp
  unfold turn1
  split
  · exact (h.doKeep p.n (by omega)).mono (by omega) (by omega)
  · split
    · exact (h.doPut _).mono (by omega) (by simp; omega)
    · exact (h.doCut _ (by omega)).mono (by simp; omega) (by omega)
theorem inT_cons (p : Part) (l : List Part) (h : okP p) : (inT (toks (p :: l)) : Int) = (if p.kind = 2 then 0 else p.n) + inT (toks l) := by
  have h1 := okP_bd h
  have h2 := inT_toks [p] (by simpa using h)
  simp only [toks, List.append_nil, inF] at h2
  simp only [toks, inT_app]
  have : (if p.kind = 1 ∨ p.kind = 3 then p.n else 0) = if p.kind = 2 then 0 else p.n := by split <;> split <;> omega
  rw [← this]
  omega
structure YT (d : List Part) (s0 : List UInt8) where
  k : Int
  pre : List Part
  rest : List Part
  s : List UInt8
  m : Mk
  n : Nat
  put : List UInt8
  cut : Int
  rows : List (List V)
  ba : Option Nat
  hd : d = pre ++ rest
  hk : k = (pre.length : Int)
  hm : n = m.out.length ∧ rows = m.out.map encPart ∧ put = m.put ∧ cut = m.cut
  hrun : Mk.new.run (turnT (toks d) s0) = m.run (turnT (toks rest) s)
  hs : s.length = inT (toks rest)
  hb : m.Bd (500 * pre.length) (500 * pre.length)
theorem turn_len (d : List Part) (s : List UInt8) : (turnF d s).1.length ≤ 10000000 := by
  unfold turnF
  split
  · rename_i h
    obtain ⟨hz, _⟩ := fitsF_ok h
    have h1 : ∀ (ts : List Tok) (s : List UInt8), (turnT ts s).length ≤ ts.length := by
      intro ts
      induction ts with
      | nil => intro s; simp [turnT]
      | cons t ts ih =>
        intro s
        cases t
        · have := ih (s.drop 1); simp [turnT] at *; omega
        · have := ih s; simp [turnT] at *; omega
        · have := ih (s.drop 1); simp [turnT] at *; omega
    have h2 := h1 (toks d) s
    have h3 := fits_len hz
    exact mkD_len _ (by omega)
  · simp
/-! the document's Turn -/
structure YRt (l : List (Nat × Nat)) where
  k : Int
  pre : List (Nat × Nat)
  rest : List (Nat × Nat)
  n : Nat
  b : Option Nat
  rows : List (List V)
  hd : l = pre ++ rest
  hk : k = (pre.length : Int)
  hrows : rows = pairRows (pre.map fun p => (p.2, p.1))
  hn : n = pre.length
theorem mkD_turn (ts : List Tok) (s : List UInt8) (hs : s.length = inT ts) : mkD (turnT ts s) = mkD (madeT (outT ts) s 0 0 ((pairsT ts 0 0).map fun p => (p.2, p.1))) := by
  obtain ⟨h1, h2, h3⟩ := turnT_spec ts s 0 0 hs
  have := mkD_made (turnT ts s) (doT ts s) (by rw [h1, doT_len ts s hs])
  rw [this, h1, h2, h3]
theorem outT_le (ts : List Tok) : outT ts ≤ ts.length := by
  induction ts with
  | nil => simp [outT]
  | cons t ts ih => cases t <;> simp [outT] <;> omega
end Go.Proofs.Ytlomnjlfmbolkaa.AM
