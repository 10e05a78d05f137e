/-
  Places, as a text changes: the law SpotSays.
-/
import Derived.Test.YtcdldpjmdelebaaMU
import Derived.Test.YtcdldpjmdelebaaBC
set_option linter.unusedVariables false
set_option linter.unusedSimpArgs false
namespace Go.Proofs.Ytcdldpjmdelebaa.AM
open Go
set_option maxRecDepth 100000
set_option maxHeartbeats 2000000
def spotF (d : List Part) (at_ : Int) (late : Bool) : Int × Int := if checkF d ≠ 0 then (0, checkF d) else if at_ < 0 ∨ inF d < at_ then (0, 1) else (spotT late (toks d) at_, 0)
structure YS (d : List Part) (at_ : Int) (late : Bool) where
  k : Int
  fr : Int
  to : Int
  pre : List Part
  rest : List Part
  hd : d = pre ++ rest
  hk : k = (pre.length : Int)
  hf : fr = inF pre
  ht : 0 ≤ to ∧ to ≤ 500 * (pre.length : Int)
  hs : to + spotT late (toks rest) (at_ - fr) = spotT late (toks d) at_
theorem spot_step (late : Bool) (p : Part) (rest : List Part) (r : Int) (h : okP p) : spotT late (toks (p :: rest)) r = if p.kind = 2 then (if 0 < r ∨ late = true ∧ r = 0 then (p.text.length : Int) else 0) + spotT late (toks rest) r else (if p.kind = 1 then max 0 (min p.n r) else 0) + spotT late (toks rest) (r - p.n) := by
  have h1 := okP_bd h
  have e : ((p.n.toNat : Nat) : Int) = p.n := by omega
  simp only [toks, toks1]
  by_cases k2 : p.kind = 2
  · rw [if_pos k2, if_pos k2, spotT_put]
  · rw [if_neg k2, if_neg k2]
    split
    · rw [spotT_keep, e]
    · rw [spotT_cut, e]; omega
/-! the document's places -/
def ac_b2i : AC := .seq (.region false [
    ⟨some 2, none, .mov (.c (.int .i64 0))⟩])
  (.seq (.seq (.region false [
    ⟨some 3, none, .mov (.t 0)⟩])
  (.cond (.t 3)
    (.seq (.region false [
      ⟨some 2, none, .mov (.c (.int .i64 1))⟩])
    (.ret))
    (.skip)))
  (.seq (.region false [
    ⟨some 2, none, .mov (.c (.int .i64 0))⟩])
  (.ret)))
theorem ok_b2i : FnOk Try.prog 74 Try.f74 ac_b2i [.t 2] 1 drawD := ⟨Try.func74, by decide +kernel, by kernel_rfl, by kernel_rfl, by decide +kernel⟩
def b2iF (b : Bool) : Int := if b then 1 else 0
theorem vc_b2i (P : Prim) (T T1 : CallT) (b : Bool) (r : Int) (hr : b2iF b = r) (R : S → Prop) (hR : ∀ s s' q, q = r → Ent s s' → Ret [.t 2] [.int .i64 q] s' → R s) : awp P T T1 ac_b2i (S0 [.bool b] Hp.emp) R (fun _ _ => False) R := by
  cases b <;> (cbv; exact hR _ _ _ (by rw [← hr]; rfl) (Ent.refl _) rfl)
theorem sp_b2i (b : Bool) : Spec Try.prog 74 [.bool b] Hp.emp (Is (.int .i64 (b2iF b))) :=
  spec_pure dOk ok_b2i [.int .i64 (b2iF b)] (.int _ _) fun R hR => vc_b2i std _ _ b _ rfl R fun s s' q h he hr => by subst h; exact hR s s' he hr
theorem spotP_succ : ∀ (ps : List (List UInt8)) (ks : List Bool) (n : Nat) (p : List UInt8) (k : Bool), ps[n]? = some p → ks[n]? = some k → spotP ps ks (n + 1) = spotP ps ks n + p.length + b2iF k
  | [], ks, n, p, k, h, _ => by simp at h
  | q :: ps, [], n, p, k, _, h => by simp at h
  | q :: ps, j :: ks, 0, p, k, h1, h2 => by
    simp at h1 h2; subst h1 h2
    cases ps <;> cases ks <;> simp [spotP, b2iF]
  | q :: ps, j :: ks, n + 1, p, k, h1, h2 => by
    have := spotP_succ ps ks n p k (by simpa using h1) (by simpa using h2)
    simp only [spotP, this]
    omega
theorem spotP_bd : ∀ (ps : List (List UInt8)) (ks : List Bool) (n : Nat), 0 ≤ spotP ps ks n ∧ spotP ps ks n ≤ (ps.flatten.length : Int) + n
  | [], ks, n => by simp [spotP]
  | q :: ps, [], n => by simp [spotP]; omega
  | q :: ps, j :: ks, 0 => by simp [spotP]; omega
  | q :: ps, j :: ks, n + 1 => by
    have := spotP_bd ps ks n
    simp only [spotP, List.flatten_cons, List.length_append]
    split <;> omega
structure YRs (ps : List (List UInt8)) (ks : List Bool) (n : Nat) where
  i : Nat
  k : Int
  to : Int
  hk : k = (i : Int)
  hi : i ≤ n
  ht : to = spotP ps ks i
end Go.Proofs.Ytcdldpjmdelebaa.AM
