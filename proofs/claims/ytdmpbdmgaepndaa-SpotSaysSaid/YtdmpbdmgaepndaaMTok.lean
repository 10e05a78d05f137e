/-
  Deltas byte by byte: what is kept, put and cut, one byte at a time; and how a delta is made of it.
-/
import Derived.Test.YtdmpbdmgaepndaaMPart1
set_option linter.unusedVariables false
set_option linter.unusedSimpArgs false
namespace Go.Proofs.Ytdmpbdmgaepndaa.AM
open Go

inductive Tok where
  | keep
  | put (b : UInt8)
  | cut
  deriving DecidableEq

def toks1 (p : Part) : List Tok := if p.kind = 2 then p.text.map .put else if p.kind = 1 then List.replicate p.n.toNat .keep else List.replicate p.n.toNat .cut
def toks : List Part → List Tok
  | [] => []
  | p :: l => toks1 p ++ toks l
theorem toks_app (a b : List Part) : toks (a ++ b) = toks a ++ toks b := by
  induction a with
  | nil => rfl
  | cons p a ih => simp [toks, ih]

/-! places -/
def kepts : List Tok → List Bool
  | [] => []
  | .keep :: ts => true :: kepts ts
  | .cut :: ts => false :: kepts ts
  | .put _ :: ts => kepts ts
theorem kepts_app (a b : List Tok) : kepts (a ++ b) = kepts a ++ kepts b := by
  induction a with
  | nil => rfl
  | cons t a ih => cases t <;> simp [kepts, ih]
theorem kepts_put (t : List UInt8) : kepts (t.map .put) = [] := by
  induction t with
  | nil => rfl
  | cons b t ih => simp [kepts, ih]
def consHead (b : UInt8) : List (List UInt8) → List (List UInt8)
  | [] => [[b]]
  | p :: r => (b :: p) :: r
def puts : List Tok → List (List UInt8)
  | [] => [[]]
  | .put b :: ts => consHead b (puts ts)
  | .keep :: ts => [] :: puts ts
  | .cut :: ts => [] :: puts ts
def appLast (l : List (List UInt8)) (t : List UInt8) : List (List UInt8) := l.dropLast ++ [l.getLastD [] ++ t]
theorem puts_ne (ts : List Tok) : ∃ p r, puts ts = p :: r := by
  induction ts with
  | nil => exact ⟨_, _, rfl⟩
  | cons t ts ih => cases t <;> obtain ⟨p, r, h⟩ := ih <;> simp [puts, h, consHead]
theorem puts_len (ts : List Tok) : (puts ts).length = (kepts ts).length + 1 := by
  induction ts with
  | nil => rfl
  | cons t ts ih =>
    cases t
    · simp [puts, kepts, ih]
    · obtain ⟨p, r, h⟩ := puts_ne ts
      simp only [puts, kepts, h, consHead, List.length_cons] at *
      exact ih
    · simp [puts, kepts, ih]
theorem appLast_nil (l : List (List UInt8)) (h : l ≠ []) : appLast l [] = l := by
  unfold appLast
  rw [List.append_nil]
  rw [List.getLastD_eq_getLast?, List.getLast?_eq_some_getLast h]
  exact List.dropLast_concat_getLast h
theorem appLast_cons (x : List UInt8) (l : List (List UInt8)) (t : List UInt8) (h : l ≠ []) : appLast (x :: l) t = x :: appLast l t := by
  cases l with
  | nil => exact absurd rfl h
  | cons y l => simp [appLast]
theorem puts_app_put (ts : List Tok) (t : List UInt8) : puts (ts ++ t.map .put) = appLast (puts ts) t := by
  induction ts with
  | nil =>
    simp only [List.nil_append, puts, appLast]
    simp
    induction t with
    | nil => rfl
    | cons b t ih => simp [puts, ih, consHead]
  | cons a ts ih =>
    obtain ⟨p, r, h⟩ := puts_ne ts
    cases a
    · simp only [List.cons_append, puts, ih]
      rw [appLast_cons _ _ _ (by rw [h]; simp)]
    · simp only [List.cons_append, puts, ih]
      rw [h]
      cases r with
      | nil => simp [appLast, consHead]
      | cons y r => simp [appLast, consHead]
    · simp only [List.cons_append, puts, ih]
      rw [appLast_cons _ _ _ (by rw [h]; simp)]
theorem puts_app_step (ts : List Tok) (x : Tok) (hx : x = .keep ∨ x = .cut) : puts (ts ++ [x]) = puts ts ++ [[]] := by
  induction ts with
  | nil => rcases hx with rfl | rfl <;> rfl
  | cons a ts ih =>
    obtain ⟨p, r, h⟩ := puts_ne ts
    cases a
    · simp [puts, ih]
    · simp only [List.cons_append, puts, ih, h, consHead]
    · simp [puts, ih]

/-! a delta being made -/
structure Mk where
  out : List Part
  put : List UInt8
  cut : Int
def Mk.flush (m : Mk) : List Part := m.out ++ (if m.put = [] then [] else [⟨2, 0, m.put⟩]) ++ (if 0 < m.cut then [⟨3, m.cut, []⟩] else [])
/-- so many more bytes are kept -/
def addKeep (o : List Part) (n : Int) : List Part := match o.getLast? with
  | some p => if p.kind = 1 then o.dropLast ++ [⟨1, p.n + n, p.text⟩] else o ++ [⟨1, n, []⟩]
  | none => [⟨1, n, []⟩]
def Mk.doKeep (m : Mk) (n : Int) : Mk := if n = 0 then m else ⟨addKeep m.flush n, [], 0⟩
def Mk.doPut (m : Mk) (s : List UInt8) : Mk := ⟨m.out, m.put ++ s, m.cut⟩
def Mk.doCut (m : Mk) (n : Int) : Mk := ⟨m.out, m.put, m.cut + n⟩
def Mk.new : Mk := ⟨[], [], 0⟩
def Mk.tok (m : Mk) : Tok → Mk
  | .keep => m.doKeep 1
  | .put b => m.doPut [b]
  | .cut => m.doCut 1
def Mk.run (m : Mk) (ts : List Tok) : Mk := ts.foldl Mk.tok m
theorem Mk.run_app (m : Mk) (a b : List Tok) : m.run (a ++ b) = (m.run a).run b := by simp [Mk.run]
theorem Mk.run_nil (m : Mk) : m.run [] = m := rfl
theorem Mk.run_put (m : Mk) (s : List UInt8) : m.run (s.map .put) = m.doPut s := by
  induction s generalizing m with
  | nil => simp [Mk.run, Mk.doPut]
  | cons b s ih =>
    have := ih (m.tok (.put b))
    simp only [Mk.run, List.map_cons, List.foldl_cons] at *
    rw [this]
    simp [Mk.tok, Mk.doPut]
theorem Mk.run_cut (m : Mk) (n : Nat) : m.run (List.replicate n .cut) = m.doCut n := by
  induction n generalizing m with
  | zero => simp [Mk.run, Mk.doCut]
  | succ n ih =>
    have := ih (m.tok .cut)
    simp only [Mk.run, List.replicate_succ, List.foldl_cons] at *
    rw [this]
    simp only [Mk.tok, Mk.doCut]
    congr 1
    omega
theorem addKeep_flush (o : List Part) (n k : Int) : addKeep (addKeep o n) k = addKeep o (n + k) := by
  unfold addKeep
  cases h : o.getLast? with
  | none => simp
  | some p =>
    by_cases hk : p.kind = 1
    · simp [hk, Int.add_assoc]
    · simp [hk]
theorem Mk.flush_mk (o : List Part) : (Mk.mk o [] 0).flush = o := by simp [Mk.flush]
theorem Mk.doKeep_add (m : Mk) (n k : Int) (hn : 0 ≤ n) (hk : 0 ≤ k) : (m.doKeep n).doKeep k = m.doKeep (n + k) := by
  unfold Mk.doKeep
  by_cases h1 : n = 0
  · subst h1; simp
  · by_cases h2 : k = 0
    · subst h2; simp [h1]
    · rw [if_neg h2, if_neg h1, if_neg (by omega), Mk.flush_mk, addKeep_flush]
theorem Mk.run_keep (m : Mk) (n : Nat) : m.run (List.replicate n .keep) = m.doKeep n := by
  induction n generalizing m with
  | zero => simp [Mk.run, Mk.doKeep]
  | succ n ih =>
    have := ih (m.tok .keep)
    simp only [Mk.run, List.replicate_succ, List.foldl_cons] at *
    rw [this]
    simp only [Mk.tok]
    rw [Mk.doKeep_add _ _ _ (by omega) (by omega)]
    congr 1
    omega
/-- the delta of some bytes -/
def mkD (ts : List Tok) : List Part := (Mk.new.run ts).flush
end Go.Proofs.Ytdmpbdmgaepndaa.AM
