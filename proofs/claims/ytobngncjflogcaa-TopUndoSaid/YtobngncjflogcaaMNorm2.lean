/-
  Norm: contracts, and the law.
-/
import Derived.Test.YtobngncjflogcaaMNorm
set_option linter.unusedVariables false
set_option linter.unusedSimpArgs false
namespace Go.Proofs.Ytobngncjflogcaa.AM
open Go
set_option maxRecDepth 100000
set_option maxHeartbeats 2000000
theorem rowsOf_own {h : Hp} {k sz n ty : Nat} {b : Option Nat} {rs : List (List V)} (hn : n = rs.length) (hk : h k = some ⟨b, ty, sz, rs⟩) : rowsOf h sz (.own k b sz n) = some rs := by
  simp only [rowsOf, hk]
  rw [if_pos ⟨trivial, trivial, trivial, by omega⟩, hn, List.take_length]
/-- a row of the call's own is handed to a function that reads it -/
theorem ownCall {f sz ty : Nat} {rows : List (List V)} {v : V} (hs : Spec Try.prog f [.sl true sz rows] Hp.emp (Is v)) (hv : v.ren (lab []) = v) (h : Hp) (K : V → Hp → Prop) (k : Nat) (b : Option Nat) (n : Nat) (rs : List (List V)) (hrs : rs = rows) (hn : n = rs.length) (hk : h k = some ⟨b, ty, sz, rs⟩) (hK : K v h) : CallE Try.prog f [.own k b sz n] h K :=
  ⟨h, HEnt.refl h, call_pure hs (.cons (.own k b sz n rows (by rw [rowsOf_own hn hk, hrs]) (by simp)) .nil) (by rw [hv]; exact hK)⟩
theorem norm_len (l : List Part) : (normF l).1.length ≤ 3000000 := by
  unfold normF
  split
  · simp
  · split
    · rename_i h1 h2
      split
      · have := (bd_parts l Mk.bd_new fun p hp => nfit_bd (nchk_ok l h2 p hp)).flush.1
        simp only [Mk.run] at this
        show (mkD (toks l)).length ≤ _
        unfold mkD
        simp only [Mk.run]
        omega
      · simp
    · simp
/-! the document's Norm -/
theorem puts_flat (ts : List Tok) : (puts ts).flatten.length ≤ ts.length := by
  induction ts with
  | nil => simp [puts]
  | cons t ts ih =>
    cases t
    · simp only [puts, List.flatten_cons, List.length_append, List.length_nil, List.length_cons]; omega
    · obtain ⟨p, r, h⟩ := puts_ne ts
      simp only [puts, h, consHead, List.flatten_cons, List.length_append, List.length_cons] at *; omega
    · simp only [puts, List.flatten_cons, List.length_append, List.length_nil, List.length_cons]; omega
theorem arg_pl (h : Hp) (ps : List (List UInt8)) (ks : List Bool) : Arg h [] (encPl ps ks) (.agg [.sl true 1 (strRows ps), .sl true 1 (boolRows ks)]) :=
  .agg _ _ rfl fun i v v' a b => by
    match i with
    | 0 => simp at a b; subst a b; exact .weak _ _
    | 1 => simp at a b; subst a b; exact .weak _ _
    | i + 2 => simp at a
theorem pl_ren (ps : List (List UInt8)) (ks : List Bool) : (encPl ps ks).ren (lab []) = encPl ps ks := rfl
theorem toks_le (l : List Part) (h1 : l.length ≤ 1600) (h2 : ∀ p ∈ l, 0 ≤ p.n ∧ p.n ≤ 500 ∧ p.text.length ≤ 500) : (toks l).length ≤ 1000000 := by have := toks_len l h2; omega
theorem mkD_len (ts : List Tok) (h : ts.length ≤ 1000000) : (mkD ts).length ≤ 10000000 := by
  have : ∀ (ts : List Tok) {m : Mk} {j w : Nat}, m.Bd j w → (m.run ts).Bd (j + ts.length) (w + ts.length) := by
    intro ts
    induction ts with
    | nil => intro m j w h; exact h
    | cons t ts ih =>
      intro m j w h
      have h1 : (m.tok t).Bd (j + 1) (w + 1) := by
        cases t
        · exact (h.doKeep 1 (by omega)).mono (by simp) (by omega)
        · exact (h.doPut [_]).mono (by omega) (by simp)
        · exact (h.doCut 1 (by omega)).mono (by simp) (by omega)
      exact (ih h1).mono (by simp; omega) (by simp; omega)
  have := (this ts Mk.bd_new).flush.1
  show (Mk.run Mk.new ts).flush.length ≤ _
  omega
theorem ansL2 {f : Nat} {d d2 : List Part} {v : V} (h : Spec Try.prog f [.sl true 3 (d.map encPart), .sl true 3 (d2.map encPart)] Hp.emp (Is v)) (hv : v.ren (lab []) = v) : Ans (CallE Try.prog) f [encParts d, encParts d2] v := ansW h (fun _ => .cons (.weak _ _) (.cons (.weak _ _) .nil)) hv
end Go.Proofs.Ytobngncjflogcaa.AM
