/-
  Small words of the plain machine's proofs.
-/
import Derived.Test.YtobngncjflogcaaMNorm2
set_option linter.unusedVariables false
set_option linter.unusedSimpArgs false
namespace Go.Proofs.Ytobngncjflogcaa.AM
open Go
theorem br_tt {t : Bool} {A B : Prop} (ht : t = true) (h : A) : br.match_1 (fun _ => Prop) t (fun _ => A) (fun _ => B) := by subst ht; exact h
theorem br_ff {t : Bool} {A B : Prop} (ht : t = false) (h : B) : br.match_1 (fun _ => Prop) t (fun _ => A) (fun _ => B) := by subst ht; exact h
section
variable {P : Prim} (hP : P = std)
include hP
theorem lt_t {a b : Int} (h : P.lt a b = true) : a < b := by subst hP; exact of_decide_eq_true h
theorem lt_f {a b : Int} (h : P.lt a b = false) : ¬ a < b := by subst hP; exact of_decide_eq_false h
theorem le_t {a b : Int} (h : P.le a b = true) : a ≤ b := by subst hP; exact of_decide_eq_true h
theorem le_f {a b : Int} (h : P.le a b = false) : ¬ a ≤ b := by subst hP; exact of_decide_eq_false h
theorem eq_t {a b : Int} (h : P.eq a b = true) : a = b := by subst hP; exact of_decide_eq_true h
theorem eq_f {a b : Int} (h : P.eq a b = false) : ¬ a = b := by subst hP; exact of_decide_eq_false h
theorem ne_t {a b : Int} (h : P.ne a b = true) : ¬ a = b := by subst hP; exact of_decide_eq_true h
theorem ne_f {a b : Int} (h : P.ne a b = false) : a = b := by subst hP; exact Decidable.of_not_not (of_decide_eq_false h)
theorem seq_t {a b : List UInt8} (h : P.seq a b = true) : a = b := by subst hP; exact of_decide_eq_true h
theorem seq_f {a b : List UInt8} (h : P.seq a b = false) : ¬ a = b := by subst hP; exact of_decide_eq_false h
theorem sne_t {a b : List UInt8} (h : P.sne a b = true) : ¬ a = b := by subst hP; exact of_decide_eq_true h
theorem sne_f {a b : List UInt8} (h : P.sne a b = false) : a = b := by subst hP; exact Decidable.of_not_not (of_decide_eq_false h)
theorem lt_T {a b : Int} (h : a < b) : P.lt a b = true := by subst hP; exact decide_eq_true h
theorem lt_F {a b : Int} (h : ¬ a < b) : P.lt a b = false := by subst hP; exact decide_eq_false h
theorem le_T {a b : Int} (h : a ≤ b) : P.le a b = true := by subst hP; exact decide_eq_true h
theorem le_F {a b : Int} (h : ¬ a ≤ b) : P.le a b = false := by subst hP; exact decide_eq_false h
theorem eq_T {a b : Int} (h : a = b) : P.eq a b = true := by subst hP; exact decide_eq_true h
theorem eq_F {a b : Int} (h : ¬ a = b) : P.eq a b = false := by subst hP; exact decide_eq_false h
theorem ne_T {a b : Int} (h : ¬ a = b) : P.ne a b = true := by subst hP; exact decide_eq_true h
theorem ne_F {a b : Int} (h : a = b) : P.ne a b = false := by subst hP; exact decide_eq_false (fun hh => hh h)
theorem seq_T {a b : List UInt8} (h : a = b) : P.seq a b = true := by subst hP; exact decide_eq_true h
theorem seq_F {a b : List UInt8} (h : ¬ a = b) : P.seq a b = false := by subst hP; exact decide_eq_false h
theorem sne_T {a b : List UInt8} (h : ¬ a = b) : P.sne a b = true := by subst hP; exact decide_eq_true h
theorem sne_F {a b : List UInt8} (h : a = b) : P.sne a b = false := by subst hP; exact decide_eq_false (fun hh => hh h)
theorem mn_eq (a b : Int) : P.mn a b = min a b := by subst hP; rfl
theorem mx_eq (a b : Int) : P.mx a b = max a b := by subst hP; rfl
theorem rlen_eq (rows : List (List V)) : P.rlen rows = (rows.length : Int) := by subst hP; rfl
theorem slen_eq (s : List UInt8) : P.slen s = (s.length : Int) := by subst hP; rfl
theorem add_eq (a b : Int) : P.add a b = a + b := by subst hP; rfl
theorem sub_eq (a b : Int) : P.sub a b = a - b := by subst hP; rfl
theorem int_eq (n : Nat) : P.int n = (n : Int) := by subst hP; rfl
theorem le0 {k : Int} (h : 0 ≤ k) : P.leP 0 k := by subst hP; exact h
theorem leI {a b : Int} (h : a ≤ b) : P.leP a b := by subst hP; exact h
theorem ltI {a b : Int} (h : a < b) : P.ltP a b := by subst hP; exact h
theorem i64I {a : Int} (h : -9223372036854775808 ≤ a ∧ a ≤ 9223372036854775807) : P.i64 a := by subst hP; exact h
theorem row_of {rows : List (List V)} {i : Nat} {r : List V} {k : Int} (hk : k = (i : Int)) (h : rows[i]? = some r) : P.row rows (P.nat k) r := by
  subst hP; subst hk; show rows[((i : Nat) : Int).toNat]? = some r; rw [Int.toNat_natCast]; exact h
end
theorem ansLs {f : Nat} {d : List Part} {vs : List V} {v : V} (h : Spec Try.prog f (.sl true 3 (d.map encPart) :: vs) Hp.emp (Is v)) (hv : v.ren (lab []) = v) (hvs : vs.all V.pl = true) : Ans (CallE Try.prog) f (encParts d :: vs) v := ansW h (fun _ => .cons (.weak _ _) (args_plain hvs)) hv
theorem same_self (d : List Part) (h : d.length ≤ 10000000) : Ans (CallE Try.prog) 109 [encParts d, encParts d] (.bool true) := by
  have := ansL2 (sp_same d d (by have : maxLen = 9223372036854775807 := by decide
                                 omega)) rfl
  rwa [decide_eq_true rfl] at this
theorem ansSame {f : Nat} {vs : List V} {v : V} (h : Spec Try.prog f vs Hp.emp (Is v)) (hv : v.ren (lab []) = v) (hvs : vs.all V.pl = true) : Ans (CallE Try.prog) f vs v := ansW h (fun _ => args_plain hvs) hv
/-- sizes of a right delta, in bytes -/
theorem inT_toks (d : List Part) (h : ∀ p ∈ d, okP p) : (inT (toks d) : Int) = inF d := by
  induction d with
  | nil => rfl
  | cons p d ih =>
    have h1 := okP_bd (h p (by simp))
    have h2 := ih fun q hq => h q (by simp [hq])
    simp only [toks, inT_app, inF]
    have : (inT (toks1 p) : Int) = if p.kind = 1 ∨ p.kind = 3 then p.n else 0 := by
      unfold toks1
      by_cases k2 : p.kind = 2
      · rw [if_pos k2, if_neg (by omega)]; simp [inT, kepts_put]
      · rw [if_neg k2]
        have hr : ∀ (n : Nat) (x : Tok), x = .keep ∨ x = .cut → inT (List.replicate n x) = n := by
          intro n x hx
          have := kepts_app_n [] x hx n
          simp only [List.nil_append, kepts] at this
          simp [inT, this]
        have h13 : p.kind = 1 ∨ p.kind = 3 := by omega
        rw [if_pos h13]
        split
        · rw [hr _ _ (.inl rfl)]; omega
        · rw [hr _ _ (.inr rfl)]; omega
    rw [← this, ← h2]
    omega
theorem outT_rep (n : Nat) (x : Tok) : outT (List.replicate n x) = if x = .cut then 0 else n := by
  induction n with
  | zero => simp [outT]
  | succ n ih => cases x <;> simp [List.replicate_succ, outT, ih]
theorem outT_map (t : List UInt8) : outT (t.map .put) = t.length := by
  induction t with
  | nil => rfl
  | cons b t ih => simp [outT, ih]
theorem outT_toks (d : List Part) (h : ∀ p ∈ d, okP p) : (outT (toks d) : Int) = outF d := by
  induction d with
  | nil => rfl
  | cons p d ih =>
    have h1 := okP_bd (h p (by simp))
    have h2 := ih fun q hq => h q (by simp [hq])
    simp only [toks, outT_app, outF]
    have : (outT (toks1 p) : Int) = if p.kind = 1 then p.n else if p.kind = 3 then 0 else p.text.length := by
      unfold toks1
      by_cases k2 : p.kind = 2
      · rw [if_pos k2, outT_map, if_neg (by omega), if_neg (by omega)]
      · rw [if_neg k2]
        split
        · rw [outT_rep, if_neg (by simp)]; omega
        · rw [outT_rep, if_pos rfl, if_pos (by omega)]; rfl
    rw [← this, ← h2]
    omega
theorem ok_bd {d : List Part} (h : ∀ p ∈ d, okP p) : ∀ p ∈ d, 0 ≤ p.n ∧ p.n ≤ 500 ∧ p.text.length ≤ 500 := fun p hp => by have := okP_bd (h p hp); omega
theorem checkF_all {d : List Part} (h : checkF d = 0) : d.length ≤ 1600 ∧ (∀ p ∈ d, okP p) ∧ inF d ≤ 500 ∧ outF d ≤ 500 ∧ 0 ≤ inF d ∧ 0 ≤ outF d := by
  obtain ⟨h1, h2, h3, h4⟩ := checkF_ok h
  have h5 := chk_ok 0 d h2
  exact ⟨h1, h5, h3, h4, (inF_bd d h5).1, (outF_bd d h5).1⟩
theorem fits_len {d : List Part} (h : checkF d = 0) : (toks d).length ≤ 1000000 := by
  obtain ⟨h1, h2, _⟩ := checkF_all h
  exact toks_le d h1 (ok_bd h2)
end Go.Proofs.Ytobngncjflogcaa.AM
