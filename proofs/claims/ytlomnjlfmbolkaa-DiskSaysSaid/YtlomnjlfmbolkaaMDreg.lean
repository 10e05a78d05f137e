/-
  A region that draws its order: three copies of a disk (law DiskSays): whatever the order, the same comes out.
-/
import Derived.Test.YtlomnjlfmbolkaaMU
set_option linter.unusedVariables false
set_option linter.unusedSimpArgs false
namespace Go.Proofs.Ytlomnjlfmbolkaa.AM
open Go
set_option maxRecDepth 100000
set_option maxHeartbeats 2000000
def dkZ : List Value := [.string ⟨#[]⟩, .int .i64 0, .string ⟨#[]⟩, .int .i64 0]
def dkOps : List (AO × List Nat) := [
  (⟨some 85, none, .loadn 4 (.t 4)⟩, []),
  (⟨some 86, none, .loadn 4 (.t 4)⟩, []),
  (⟨some 87, none, .loadn 4 (.t 4)⟩, []),
  (⟨some 16, none, .alloc 42 [.string ⟨#[]⟩, .int .i64 0, .string ⟨#[]⟩, .int .i64 0]⟩, []),
  (⟨some 17, none, .alloc 42 [.string ⟨#[]⟩, .int .i64 0, .string ⟨#[]⟩, .int .i64 0]⟩, []),
  (⟨some 18, none, .alloc 42 [.string ⟨#[]⟩, .int .i64 0, .string ⟨#[]⟩, .int .i64 0]⟩, []),
  (⟨none, none, .store 4 (.t 16) (.t 85)⟩, [3, 0, 0, 3, 4, 5]),
  (⟨none, none, .store 4 (.t 17) (.t 86)⟩, [4, 1, 6, 0, 1, 3, 4, 5, 6]),
  (⟨none, none, .store 4 (.t 18) (.t 87)⟩, [5, 2, 7, 0, 1, 2, 3, 4, 5, 6, 7])]
/-- the state when so much is done -/
def dkS (s0 : S) (D : List V) (f : Nat → Bool) (β1 β2 β3 : Nat) : S :=
  ⟨fun i => if i = 85 then (if f 0 then .agg D else s0.t 85) else if i = 86 then (if f 1 then .agg D else s0.t 86) else if i = 87 then (if f 2 then .agg D else s0.t 87)
     else if i = 16 then (if f 3 then .ptr 16 (some β1) 4 0 0 else s0.t 16) else if i = 17 then (if f 4 then .ptr 17 (some β2) 4 0 0 else s0.t 17) else if i = 18 then (if f 5 then .ptr 18 (some β3) 4 0 0 else s0.t 18) else s0.t i,
   fun k => if k = 16 then (if f 3 then some ⟨some β1, 42, 4, [if f 6 then D else [.str [], .int .i64 0, .str [], .int .i64 0]]⟩ else s0.h 16)
     else if k = 17 then (if f 4 then some ⟨some β2, 42, 4, [if f 7 then D else [.str [], .int .i64 0, .str [], .int .i64 0]]⟩ else s0.h 17)
     else if k = 18 then (if f 5 then some ⟨some β3, 42, 4, [if f 8 then D else [.str [], .int .i64 0, .str [], .int .i64 0]]⟩ else s0.h 18) else s0.h k⟩
theorem allA_ready {f : Nat → AO → Prop} {done : List Nat} : ∀ (l : List (AO × List Nat)) (m : Nat), (∀ (j : Nat) (o : AO) (ps : List Nat), l[j]? = some (o, ps) → hasN done (m + j) = false → ps.all (hasN done) = true → f (m + j) o) → allA (readyA done m l) f
  | [], m, h => trivial
  | (o, ps) :: l, m, h => by
    have ih := allA_ready (f := f) (done := done) l (m + 1) fun j o ps h1 h2 h3 => by
      have := h (j + 1) o ps h1 (by rw [← h2]; congr 1; omega) h3
      rwa [show m + (j + 1) = m + 1 + j by omega] at this
    simp only [readyA]
    split
    · rename_i he
      rw [Bool.and_eq_true] at he
      have h0 := h 0 o ps rfl (by simpa using he.1) he.2
      rw [Nat.add_zero] at h0
      revert ih
      cases readyA done (m + 1) l with
      | nil => intro _; exact h0
      | cons x r => intro ih; exact ⟨h0, ih⟩
    · exact ih
def dkC (f : Nat → Bool) : Nat := (if f 0 then 0 else 1) + (if f 1 then 0 else 1) + (if f 2 then 0 else 1) + (if f 3 then 0 else 1) + (if f 4 then 0 else 1) + (if f 5 then 0 else 1) + (if f 6 then 0 else 1) + (if f 7 then 0 else 1) + (if f 8 then 0 else 1)
def dkI (f : Nat → Bool) : Prop := (f 3 = false → f 6 = false) ∧ (f 4 = false → f 7 = false) ∧ (f 5 = false → f 8 = false)
section
variable {P : Prim} {T : CallT} {s0 : S} {x1 x3 : List UInt8} {x2 x4 : Int} {b4 : Option Nat} {ty : Nat}
theorem dkS_t (h4 : s0.t 4 = .ptr 4 b4 4 0 0) (D : List V) (f : Nat → Bool) (β1 β2 β3 : Nat) : (dkS s0 D f β1 β2 β3).t 4 = .ptr 4 b4 4 0 0 := h4
theorem dkS_h (hh : s0.h 4 = some ⟨b4, ty, 4, [[.str x1, .int .i64 x2, .str x3, .int .i64 x4]]⟩) (D : List V) (f : Nat → Bool) (β1 β2 β3 : Nat) : (dkS s0 D f β1 β2 β3).h 4 = some ⟨b4, ty, 4, [[.str x1, .int .i64 x2, .str x3, .int .i64 x4]]⟩ := hh
theorem dk_all (h4 : s0.t 4 = .ptr 4 b4 4 0 0) (hh : s0.h 4 = some ⟨b4, ty, 4, [[.str x1, .int .i64 x2, .str x3, .int .i64 x4]]⟩) (h16 : s0.h 16 = none) (h17 : s0.h 17 = none) (h18 : s0.h 18 = none) {K : S → Prop}
    (hK : ∀ (f : Nat → Bool) β1 β2 β3, dkC f = 0 → K (dkS s0 [.str x1, .int .i64 x2, .str x3, .int .i64 x4] f β1 β2 β3)) :
    ∀ (n : Nat) (done : List Nat) (β1 β2 β3 : Nat), dkC (hasN done) = n → dkI (hasN done) → anyA P T dkOps n done (dkS s0 [.str x1, .int .i64 x2, .str x3, .int .i64 x4] (hasN done) β1 β2 β3) K
  | 0, done, β1, β2, β3, hc, _ => hK _ _ _ _ hc
  | n + 1, done, β1, β2, β3, hc, hI => by
    have ih := fun (i : Nat) (β1 β2 β3 : Nat) (h : dkC (hasN (i :: done)) = n) (h2 : dkI (hasN (i :: done))) => dk_all h4 hh h16 h17 h18 hK n (i :: done) β1 β2 β3 h h2
    show allA (readyA done 0 dkOps) _
    refine allA_ready dkOps 0 fun j o ps hj hf hp => ?_
    rw [Nat.zero_add] at hf ⊢
    match j, hj with
    | 0, hj =>
      cases hj
      have hn : dkC (hasN (0 :: done)) = n := by
        simp only [dkC, show hasN (0 :: done) 0 = true from rfl, show hasN (0 :: done) 1 = hasN done 1 from rfl, show hasN (0 :: done) 2 = hasN done 2 from rfl, show hasN (0 :: done) 3 = hasN done 3 from rfl, show hasN (0 :: done) 4 = hasN done 4 from rfl, show hasN (0 :: done) 5 = hasN done 5 from rfl, show hasN (0 :: done) 6 = hasN done 6 from rfl, show hasN (0 :: done) 7 = hasN done 7 from rfl, show hasN (0 :: done) 8 = hasN done 8 from rfl] at hc ⊢
        simp [hf] at hc ⊢
        omega
      have hI2 : dkI (hasN (0 :: done)) := by
        simp only [dkI, show hasN (0 :: done) 0 = true from rfl, show hasN (0 :: done) 1 = hasN done 1 from rfl, show hasN (0 :: done) 2 = hasN done 2 from rfl, show hasN (0 :: done) 3 = hasN done 3 from rfl, show hasN (0 :: done) 4 = hasN done 4 from rfl, show hasN (0 :: done) 5 = hasN done 5 from rfl, show hasN (0 :: done) 6 = hasN done 6 from rfl, show hasN (0 :: done) 7 = hasN done 7 from rfl, show hasN (0 :: done) 8 = hasN done 8 from rfl] at hI ⊢
        simp_all
      have e : (⟨upd (dkS s0 [.str x1, .int .i64 x2, .str x3, .int .i64 x4] (hasN done) β1 β2 β3).t 85 (.agg [.str x1, .int .i64 x2, .str x3, .int .i64 x4]), (dkS s0 [.str x1, .int .i64 x2, .str x3, .int .i64 x4] (hasN done) β1 β2 β3).h⟩ : S) = dkS s0 [.str x1, .int .i64 x2, .str x3, .int .i64 x4] (hasN (0 :: done)) β1 β2 β3 := by
        simp only [dkS, show hasN (0 :: done) 0 = true from rfl, show hasN (0 :: done) 1 = hasN done 1 from rfl, show hasN (0 :: done) 2 = hasN done 2 from rfl, show hasN (0 :: done) 3 = hasN done 3 from rfl, show hasN (0 :: done) 4 = hasN done 4 from rfl, show hasN (0 :: done) 5 = hasN done 5 from rfl, show hasN (0 :: done) 6 = hasN done 6 from rfl, show hasN (0 :: done) 7 = hasN done 7 from rfl, show hasN (0 :: done) 8 = hasN done 8 from rfl]
        congr 1; funext z; unfold upd; by_cases hz : z = 85 <;> simp [hz]
      show loadnP P (dkS s0 [.str x1, .int .i64 x2, .str x3, .int .i64 x4] (hasN done) β1 β2 β3).h 4 ((dkS s0 [.str x1, .int .i64 x2, .str x3, .int .i64 x4] (hasN done) β1 β2 β3).t 4) (fun v => anyA P T dkOps n (0 :: done) ⟨upd (dkS s0 [.str x1, .int .i64 x2, .str x3, .int .i64 x4] (hasN done) β1 β2 β3).t 85 v, (dkS s0 [.str x1, .int .i64 x2, .str x3, .int .i64 x4] (hasN done) β1 β2 β3).h⟩ K)
      rw [dkS_t h4]
      show rowP P (dkS s0 [.str x1, .int .i64 x2, .str x3, .int .i64 x4] (hasN done) β1 β2 β3).h 4 b4 4 0 _
      unfold rowP
      rw [dkS_h hh]
      refine ⟨rfl, rfl, Nat.le_refl 4, ?_⟩
      show anyA P T dkOps n (0 :: done) ⟨upd (dkS s0 [.str x1, .int .i64 x2, .str x3, .int .i64 x4] (hasN done) β1 β2 β3).t 85 (.agg [.str x1, .int .i64 x2, .str x3, .int .i64 x4]), (dkS s0 [.str x1, .int .i64 x2, .str x3, .int .i64 x4] (hasN done) β1 β2 β3).h⟩ K
      rw [e]
      exact ih 0 β1 β2 β3 hn hI2
    | 1, hj =>
      cases hj
      have hn : dkC (hasN (1 :: done)) = n := by
        simp only [dkC, show hasN (1 :: done) 0 = hasN done 0 from rfl, show hasN (1 :: done) 1 = true from rfl, show hasN (1 :: done) 2 = hasN done 2 from rfl, show hasN (1 :: done) 3 = hasN done 3 from rfl, show hasN (1 :: done) 4 = hasN done 4 from rfl, show hasN (1 :: done) 5 = hasN done 5 from rfl, show hasN (1 :: done) 6 = hasN done 6 from rfl, show hasN (1 :: done) 7 = hasN done 7 from rfl, show hasN (1 :: done) 8 = hasN done 8 from rfl] at hc ⊢
        simp [hf] at hc ⊢
        omega
      have hI2 : dkI (hasN (1 :: done)) := by
        simp only [dkI, show hasN (1 :: done) 0 = hasN done 0 from rfl, show hasN (1 :: done) 1 = true from rfl, show hasN (1 :: done) 2 = hasN done 2 from rfl, show hasN (1 :: done) 3 = hasN done 3 from rfl, show hasN (1 :: done) 4 = hasN done 4 from rfl, show hasN (1 :: done) 5 = hasN done 5 from rfl, show hasN (1 :: done) 6 = hasN done 6 from rfl, show hasN (1 :: done) 7 = hasN done 7 from rfl, show hasN (1 :: done) 8 = hasN done 8 from rfl] at hI ⊢
        simp_all
      have e : (⟨upd (dkS s0 [.str x1, .int .i64 x2, .str x3, .int .i64 x4] (hasN done) β1 β2 β3).t 86 (.agg [.str x1, .int .i64 x2, .str x3, .int .i64 x4]), (dkS s0 [.str x1, .int .i64 x2, .str x3, .int .i64 x4] (hasN done) β1 β2 β3).h⟩ : S) = dkS s0 [.str x1, .int .i64 x2, .str x3, .int .i64 x4] (hasN (1 :: done)) β1 β2 β3 := by
        simp only [dkS, show hasN (1 :: done) 0 = hasN done 0 from rfl, show hasN (1 :: done) 1 = true from rfl, show hasN (1 :: done) 2 = hasN done 2 from rfl, show hasN (1 :: done) 3 = hasN done 3 from rfl, show hasN (1 :: done) 4 = hasN done 4 from rfl, show hasN (1 :: done) 5 = hasN done 5 from rfl, show hasN (1 :: done) 6 = hasN done 6 from rfl, show hasN (1 :: done) 7 = hasN done 7 from rfl, show hasN (1 :: done) 8 = hasN done 8 from rfl]
        congr 1; funext z; unfold upd; by_cases hz : z = 86 <;> simp [hz]
      show loadnP P (dkS s0 [.str x1, .int .i64 x2, .str x3, .int .i64 x4] (hasN done) β1 β2 β3).h 4 ((dkS s0 [.str x1, .int .i64 x2, .str x3, .int .i64 x4] (hasN done) β1 β2 β3).t 4) (fun v => anyA P T dkOps n (1 :: done) ⟨upd (dkS s0 [.str x1, .int .i64 x2, .str x3, .int .i64 x4] (hasN done) β1 β2 β3).t 86 v, (dkS s0 [.str x1, .int .i64 x2, .str x3, .int .i64 x4] (hasN done) β1 β2 β3).h⟩ K)
      rw [dkS_t h4]
      show rowP P (dkS s0 [.str x1, .int .i64 x2, .str x3, .int .i64 x4] (hasN done) β1 β2 β3).h 4 b4 4 0 _
      unfold rowP
      rw [dkS_h hh]
      refine ⟨rfl, rfl, Nat.le_refl 4, ?_⟩
      show anyA P T dkOps n (1 :: done) ⟨upd (dkS s0 [.str x1, .int .i64 x2, .str x3, .int .i64 x4] (hasN done) β1 β2 β3).t 86 (.agg [.str x1, .int .i64 x2, .str x3, .int .i64 x4]), (dkS s0 [.str x1, .int .i64 x2, .str x3, .int .i64 x4] (hasN done) β1 β2 β3).h⟩ K
      rw [e]
      exact ih 1 β1 β2 β3 hn hI2
    | 2, hj =>
      cases hj
      have hn : dkC (hasN (2 :: done)) = n := by
        simp only [dkC, show hasN (2 :: done) 0 = hasN done 0 from rfl, show hasN (2 :: done) 1 = hasN done 1 from rfl, show hasN (2 :: done) 2 = true from rfl, show hasN (2 :: done) 3 = hasN done 3 from rfl, show hasN (2 :: done) 4 = hasN done 4 from rfl, show hasN (2 :: done) 5 = hasN done 5 from rfl, show hasN (2 :: done) 6 = hasN done 6 from rfl, show hasN (2 :: done) 7 = hasN done 7 from rfl, show hasN (2 :: done) 8 = hasN done 8 from rfl] at hc ⊢
        simp [hf] at hc ⊢
        omega
      have hI2 : dkI (hasN (2 :: done)) := by
        simp only [dkI, show hasN (2 :: done) 0 = hasN done 0 from rfl, show hasN (2 :: done) 1 = hasN done 1 from rfl, show hasN (2 :: done) 2 = true from rfl, show hasN (2 :: done) 3 = hasN done 3 from rfl, show hasN (2 :: done) 4 = hasN done 4 from rfl, show hasN (2 :: done) 5 = hasN done 5 from rfl, show hasN (2 :: done) 6 = hasN done 6 from rfl, show hasN (2 :: done) 7 = hasN done 7 from rfl, show hasN (2 :: done) 8 = hasN done 8 from rfl] at hI ⊢
        simp_all
      have e : (⟨upd (dkS s0 [.str x1, .int .i64 x2, .str x3, .int .i64 x4] (hasN done) β1 β2 β3).t 87 (.agg [.str x1, .int .i64 x2, .str x3, .int .i64 x4]), (dkS s0 [.str x1, .int .i64 x2, .str x3, .int .i64 x4] (hasN done) β1 β2 β3).h⟩ : S) = dkS s0 [.str x1, .int .i64 x2, .str x3, .int .i64 x4] (hasN (2 :: done)) β1 β2 β3 := by
        simp only [dkS, show hasN (2 :: done) 0 = hasN done 0 from rfl, show hasN (2 :: done) 1 = hasN done 1 from rfl, show hasN (2 :: done) 2 = true from rfl, show hasN (2 :: done) 3 = hasN done 3 from rfl, show hasN (2 :: done) 4 = hasN done 4 from rfl, show hasN (2 :: done) 5 = hasN done 5 from rfl, show hasN (2 :: done) 6 = hasN done 6 from rfl, show hasN (2 :: done) 7 = hasN done 7 from rfl, show hasN (2 :: done) 8 = hasN done 8 from rfl]
        congr 1; funext z; unfold upd; by_cases hz : z = 87 <;> simp [hz]
      show loadnP P (dkS s0 [.str x1, .int .i64 x2, .str x3, .int .i64 x4] (hasN done) β1 β2 β3).h 4 ((dkS s0 [.str x1, .int .i64 x2, .str x3, .int .i64 x4] (hasN done) β1 β2 β3).t 4) (fun v => anyA P T dkOps n (2 :: done) ⟨upd (dkS s0 [.str x1, .int .i64 x2, .str x3, .int .i64 x4] (hasN done) β1 β2 β3).t 87 v, (dkS s0 [.str x1, .int .i64 x2, .str x3, .int .i64 x4] (hasN done) β1 β2 β3).h⟩ K)
      rw [dkS_t h4]
      show rowP P (dkS s0 [.str x1, .int .i64 x2, .str x3, .int .i64 x4] (hasN done) β1 β2 β3).h 4 b4 4 0 _
      unfold rowP
      rw [dkS_h hh]
      refine ⟨rfl, rfl, Nat.le_refl 4, ?_⟩
      show anyA P T dkOps n (2 :: done) ⟨upd (dkS s0 [.str x1, .int .i64 x2, .str x3, .int .i64 x4] (hasN done) β1 β2 β3).t 87 (.agg [.str x1, .int .i64 x2, .str x3, .int .i64 x4]), (dkS s0 [.str x1, .int .i64 x2, .str x3, .int .i64 x4] (hasN done) β1 β2 β3).h⟩ K
      rw [e]
      exact ih 2 β1 β2 β3 hn hI2
    | 3, hj =>
      cases hj
      have hn : dkC (hasN (3 :: done)) = n := by
        simp only [dkC, show hasN (3 :: done) 0 = hasN done 0 from rfl, show hasN (3 :: done) 1 = hasN done 1 from rfl, show hasN (3 :: done) 2 = hasN done 2 from rfl, show hasN (3 :: done) 3 = true from rfl, show hasN (3 :: done) 4 = hasN done 4 from rfl, show hasN (3 :: done) 5 = hasN done 5 from rfl, show hasN (3 :: done) 6 = hasN done 6 from rfl, show hasN (3 :: done) 7 = hasN done 7 from rfl, show hasN (3 :: done) 8 = hasN done 8 from rfl] at hc ⊢
        simp [hf] at hc ⊢
        omega
      have hI2 : dkI (hasN (3 :: done)) := by
        simp only [dkI, show hasN (3 :: done) 0 = hasN done 0 from rfl, show hasN (3 :: done) 1 = hasN done 1 from rfl, show hasN (3 :: done) 2 = hasN done 2 from rfl, show hasN (3 :: done) 3 = true from rfl, show hasN (3 :: done) 4 = hasN done 4 from rfl, show hasN (3 :: done) 5 = hasN done 5 from rfl, show hasN (3 :: done) 6 = hasN done 6 from rfl, show hasN (3 :: done) 7 = hasN done 7 from rfl, show hasN (3 :: done) 8 = hasN done 8 from rfl] at hI ⊢
        simp_all
      have e : ∀ β : Nat, (⟨upd (dkS s0 [.str x1, .int .i64 x2, .str x3, .int .i64 x4] (hasN done) β1 β2 β3).t 16 (.ptr 16 (some β) 4 0 0), Hp.put (dkS s0 [.str x1, .int .i64 x2, .str x3, .int .i64 x4] (hasN done) β1 β2 β3).h 16 ⟨some β, 42, 4, [[.str [], .int .i64 0, .str [], .int .i64 0]]⟩⟩ : S) = dkS s0 [.str x1, .int .i64 x2, .str x3, .int .i64 x4] (hasN (3 :: done)) β β2 β3 := by
        intro β
        have hI3 := hI.1 hf
        simp only [dkS, show hasN (3 :: done) 0 = hasN done 0 from rfl, show hasN (3 :: done) 1 = hasN done 1 from rfl, show hasN (3 :: done) 2 = hasN done 2 from rfl, show hasN (3 :: done) 3 = true from rfl, show hasN (3 :: done) 4 = hasN done 4 from rfl, show hasN (3 :: done) 5 = hasN done 5 from rfl, show hasN (3 :: done) 6 = hasN done 6 from rfl, show hasN (3 :: done) 7 = hasN done 7 from rfl, show hasN (3 :: done) 8 = hasN done 8 from rfl]
        congr 1
        · funext z; unfold upd; by_cases hz : z = 16 <;> simp [hz]
        · funext z; unfold Hp.put; by_cases hz : z = 16 <;> simp [hz, hI3]
      have hz : (dkS s0 [.str x1, .int .i64 x2, .str x3, .int .i64 x4] (hasN done) β1 β2 β3).h 16 = none := by simp only [dkS]; simp [hf, h16]
      refine ⟨hz, rfl, fun β => ?_⟩
      show anyA P T dkOps n (3 :: done) ⟨upd (dkS s0 [.str x1, .int .i64 x2, .str x3, .int .i64 x4] (hasN done) β1 β2 β3).t 16 (.ptr 16 (some β) 4 0 0), Hp.put (dkS s0 [.str x1, .int .i64 x2, .str x3, .int .i64 x4] (hasN done) β1 β2 β3).h 16 ⟨some β, 42, 4, [[.str [], .int .i64 0, .str [], .int .i64 0]]⟩⟩ K
      rw [e]
      exact ih 3 β β2 β3 hn hI2
    | 4, hj =>
      cases hj
      have hn : dkC (hasN (4 :: done)) = n := by
        simp only [dkC, show hasN (4 :: done) 0 = hasN done 0 from rfl, show hasN (4 :: done) 1 = hasN done 1 from rfl, show hasN (4 :: done) 2 = hasN done 2 from rfl, show hasN (4 :: done) 3 = hasN done 3 from rfl, show hasN (4 :: done) 4 = true from rfl, show hasN (4 :: done) 5 = hasN done 5 from rfl, show hasN (4 :: done) 6 = hasN done 6 from rfl, show hasN (4 :: done) 7 = hasN done 7 from rfl, show hasN (4 :: done) 8 = hasN done 8 from rfl] at hc ⊢
        simp [hf] at hc ⊢
        omega
      have hI2 : dkI (hasN (4 :: done)) := by
        simp only [dkI, show hasN (4 :: done) 0 = hasN done 0 from rfl, show hasN (4 :: done) 1 = hasN done 1 from rfl, show hasN (4 :: done) 2 = hasN done 2 from rfl, show hasN (4 :: done) 3 = hasN done 3 from rfl, show hasN (4 :: done) 4 = true from rfl, show hasN (4 :: done) 5 = hasN done 5 from rfl, show hasN (4 :: done) 6 = hasN done 6 from rfl, show hasN (4 :: done) 7 = hasN done 7 from rfl, show hasN (4 :: done) 8 = hasN done 8 from rfl] at hI ⊢
        simp_all
      have e : ∀ β : Nat, (⟨upd (dkS s0 [.str x1, .int .i64 x2, .str x3, .int .i64 x4] (hasN done) β1 β2 β3).t 17 (.ptr 17 (some β) 4 0 0), Hp.put (dkS s0 [.str x1, .int .i64 x2, .str x3, .int .i64 x4] (hasN done) β1 β2 β3).h 17 ⟨some β, 42, 4, [[.str [], .int .i64 0, .str [], .int .i64 0]]⟩⟩ : S) = dkS s0 [.str x1, .int .i64 x2, .str x3, .int .i64 x4] (hasN (4 :: done)) β1 β β3 := by
        intro β
        have hI3 := hI.2.1 hf
        simp only [dkS, show hasN (4 :: done) 0 = hasN done 0 from rfl, show hasN (4 :: done) 1 = hasN done 1 from rfl, show hasN (4 :: done) 2 = hasN done 2 from rfl, show hasN (4 :: done) 3 = hasN done 3 from rfl, show hasN (4 :: done) 4 = true from rfl, show hasN (4 :: done) 5 = hasN done 5 from rfl, show hasN (4 :: done) 6 = hasN done 6 from rfl, show hasN (4 :: done) 7 = hasN done 7 from rfl, show hasN (4 :: done) 8 = hasN done 8 from rfl]
        congr 1
        · funext z; unfold upd; by_cases hz : z = 17 <;> simp [hz]
        · funext z; unfold Hp.put; by_cases hz : z = 17 <;> simp [hz, hI3]
      have hz : (dkS s0 [.str x1, .int .i64 x2, .str x3, .int .i64 x4] (hasN done) β1 β2 β3).h 17 = none := by simp only [dkS]; simp [hf, h17]
      refine ⟨hz, rfl, fun β => ?_⟩
      show anyA P T dkOps n (4 :: done) ⟨upd (dkS s0 [.str x1, .int .i64 x2, .str x3, .int .i64 x4] (hasN done) β1 β2 β3).t 17 (.ptr 17 (some β) 4 0 0), Hp.put (dkS s0 [.str x1, .int .i64 x2, .str x3, .int .i64 x4] (hasN done) β1 β2 β3).h 17 ⟨some β, 42, 4, [[.str [], .int .i64 0, .str [], .int .i64 0]]⟩⟩ K
      rw [e]
      exact ih 4 β1 β β3 hn hI2
    | 5, hj =>
      cases hj
      have hn : dkC (hasN (5 :: done)) = n := by
        simp only [dkC, show hasN (5 :: done) 0 = hasN done 0 from rfl, show hasN (5 :: done) 1 = hasN done 1 from rfl, show hasN (5 :: done) 2 = hasN done 2 from rfl, show hasN (5 :: done) 3 = hasN done 3 from rfl, show hasN (5 :: done) 4 = hasN done 4 from rfl, show hasN (5 :: done) 5 = true from rfl, show hasN (5 :: done) 6 = hasN done 6 from rfl, show hasN (5 :: done) 7 = hasN done 7 from rfl, show hasN (5 :: done) 8 = hasN done 8 from rfl] at hc ⊢
        simp [hf] at hc ⊢
        omega
      have hI2 : dkI (hasN (5 :: done)) := by
        simp only [dkI, show hasN (5 :: done) 0 = hasN done 0 from rfl, show hasN (5 :: done) 1 = hasN done 1 from rfl, show hasN (5 :: done) 2 = hasN done 2 from rfl, show hasN (5 :: done) 3 = hasN done 3 from rfl, show hasN (5 :: done) 4 = hasN done 4 from rfl, show hasN (5 :: done) 5 = true from rfl, show hasN (5 :: done) 6 = hasN done 6 from rfl, show hasN (5 :: done) 7 = hasN done 7 from rfl, show hasN (5 :: done) 8 = hasN done 8 from rfl] at hI ⊢
        simp_all
      have e : ∀ β : Nat, (⟨upd (dkS s0 [.str x1, .int .i64 x2, .str x3, .int .i64 x4] (hasN done) β1 β2 β3).t 18 (.ptr 18 (some β) 4 0 0), Hp.put (dkS s0 [.str x1, .int .i64 x2, .str x3, .int .i64 x4] (hasN done) β1 β2 β3).h 18 ⟨some β, 42, 4, [[.str [], .int .i64 0, .str [], .int .i64 0]]⟩⟩ : S) = dkS s0 [.str x1, .int .i64 x2, .str x3, .int .i64 x4] (hasN (5 :: done)) β1 β2 β := by
        intro β
        have hI3 := hI.2.2 hf
        simp only [dkS, show hasN (5 :: done) 0 = hasN done 0 from rfl, show hasN (5 :: done) 1 = hasN done 1 from rfl, show hasN (5 :: done) 2 = hasN done 2 from rfl, show hasN (5 :: done) 3 = hasN done 3 from rfl, show hasN (5 :: done) 4 = hasN done 4 from rfl, show hasN (5 :: done) 5 = true from rfl, show hasN (5 :: done) 6 = hasN done 6 from rfl, show hasN (5 :: done) 7 = hasN done 7 from rfl, show hasN (5 :: done) 8 = hasN done 8 from rfl]
        congr 1
        · funext z; unfold upd; by_cases hz : z = 18 <;> simp [hz]
        · funext z; unfold Hp.put; by_cases hz : z = 18 <;> simp [hz, hI3]
      have hz : (dkS s0 [.str x1, .int .i64 x2, .str x3, .int .i64 x4] (hasN done) β1 β2 β3).h 18 = none := by simp only [dkS]; simp [hf, h18]
      refine ⟨hz, rfl, fun β => ?_⟩
      show anyA P T dkOps n (5 :: done) ⟨upd (dkS s0 [.str x1, .int .i64 x2, .str x3, .int .i64 x4] (hasN done) β1 β2 β3).t 18 (.ptr 18 (some β) 4 0 0), Hp.put (dkS s0 [.str x1, .int .i64 x2, .str x3, .int .i64 x4] (hasN done) β1 β2 β3).h 18 ⟨some β, 42, 4, [[.str [], .int .i64 0, .str [], .int .i64 0]]⟩⟩ K
      rw [e]
      exact ih 5 β1 β2 β hn hI2
    | 6, hj =>
      cases hj
      have hn : dkC (hasN (6 :: done)) = n := by
        simp only [dkC, show hasN (6 :: done) 0 = hasN done 0 from rfl, show hasN (6 :: done) 1 = hasN done 1 from rfl, show hasN (6 :: done) 2 = hasN done 2 from rfl, show hasN (6 :: done) 3 = hasN done 3 from rfl, show hasN (6 :: done) 4 = hasN done 4 from rfl, show hasN (6 :: done) 5 = hasN done 5 from rfl, show hasN (6 :: done) 6 = true from rfl, show hasN (6 :: done) 7 = hasN done 7 from rfl, show hasN (6 :: done) 8 = hasN done 8 from rfl] at hc ⊢
        simp [hf] at hc ⊢
        omega
      simp only [List.all_cons, Bool.and_eq_true] at hp
      have hI2 : dkI (hasN (6 :: done)) := by
        simp only [dkI, show hasN (6 :: done) 0 = hasN done 0 from rfl, show hasN (6 :: done) 1 = hasN done 1 from rfl, show hasN (6 :: done) 2 = hasN done 2 from rfl, show hasN (6 :: done) 3 = hasN done 3 from rfl, show hasN (6 :: done) 4 = hasN done 4 from rfl, show hasN (6 :: done) 5 = hasN done 5 from rfl, show hasN (6 :: done) 6 = true from rfl, show hasN (6 :: done) 7 = hasN done 7 from rfl, show hasN (6 :: done) 8 = hasN done 8 from rfl] at hI ⊢
        simp_all
      have g1 : hasN done 3 = true := hp.1
      have g2 : hasN done 0 = true := hp.2.1
      have e : (⟨(dkS s0 [.str x1, .int .i64 x2, .str x3, .int .i64 x4] (hasN done) β1 β2 β3).t, Hp.put (dkS s0 [.str x1, .int .i64 x2, .str x3, .int .i64 x4] (hasN done) β1 β2 β3).h 16 ⟨some β1, 42, 4, [[.str x1, .int .i64 x2, .str x3, .int .i64 x4]]⟩⟩ : S) = dkS s0 [.str x1, .int .i64 x2, .str x3, .int .i64 x4] (hasN (6 :: done)) β1 β2 β3 := by
        simp only [dkS, show hasN (6 :: done) 0 = hasN done 0 from rfl, show hasN (6 :: done) 1 = hasN done 1 from rfl, show hasN (6 :: done) 2 = hasN done 2 from rfl, show hasN (6 :: done) 3 = hasN done 3 from rfl, show hasN (6 :: done) 4 = hasN done 4 from rfl, show hasN (6 :: done) 5 = hasN done 5 from rfl, show hasN (6 :: done) 6 = true from rfl, show hasN (6 :: done) 7 = hasN done 7 from rfl, show hasN (6 :: done) 8 = hasN done 8 from rfl]
        congr 1
        funext z; unfold Hp.put; by_cases hz : z = 16 <;> simp [hz, g1]
      have a1 : (dkS s0 [.str x1, .int .i64 x2, .str x3, .int .i64 x4] (hasN done) β1 β2 β3).t 16 = .ptr 16 (some β1) 4 0 0 := by simp only [dkS]; simp [g1]
      have a2 : (dkS s0 [.str x1, .int .i64 x2, .str x3, .int .i64 x4] (hasN done) β1 β2 β3).t 85 = .agg [.str x1, .int .i64 x2, .str x3, .int .i64 x4] := by simp only [dkS]; simp [g2]
      have a3 : (dkS s0 [.str x1, .int .i64 x2, .str x3, .int .i64 x4] (hasN done) β1 β2 β3).h 16 = some ⟨some β1, 42, 4, [[.str [], .int .i64 0, .str [], .int .i64 0]]⟩ := by simp only [dkS]; simp [g1, hf]
      show storeP P (dkS s0 [.str x1, .int .i64 x2, .str x3, .int .i64 x4] (hasN done) β1 β2 β3).h 4 ((dkS s0 [.str x1, .int .i64 x2, .str x3, .int .i64 x4] (hasN done) β1 β2 β3).t 16) ((dkS s0 [.str x1, .int .i64 x2, .str x3, .int .i64 x4] (hasN done) β1 β2 β3).t 85) (fun h => anyA P T dkOps n (6 :: done) ⟨(dkS s0 [.str x1, .int .i64 x2, .str x3, .int .i64 x4] (hasN done) β1 β2 β3).t, h⟩ K)
      rw [a1, a2]
      show rowP P (dkS s0 [.str x1, .int .i64 x2, .str x3, .int .i64 x4] (hasN done) β1 β2 β3).h 16 (some β1) 4 0 _
      unfold rowP
      rw [a3]
      refine ⟨rfl, rfl, Nat.le_refl 4, ?_, ?_⟩
      · exact ⟨rfl, by simp [V.cells, V.one]⟩
      show anyA P T dkOps n (6 :: done) ⟨(dkS s0 [.str x1, .int .i64 x2, .str x3, .int .i64 x4] (hasN done) β1 β2 β3).t, Hp.put (dkS s0 [.str x1, .int .i64 x2, .str x3, .int .i64 x4] (hasN done) β1 β2 β3).h 16 ⟨some β1, 42, 4, [[.str x1, .int .i64 x2, .str x3, .int .i64 x4]]⟩⟩ K
      rw [e]
      exact ih 6 β1 β2 β3 hn hI2
    | 7, hj =>
      cases hj
      have hn : dkC (hasN (7 :: done)) = n := by
        simp only [dkC, show hasN (7 :: done) 0 = hasN done 0 from rfl, show hasN (7 :: done) 1 = hasN done 1 from rfl, show hasN (7 :: done) 2 = hasN done 2 from rfl, show hasN (7 :: done) 3 = hasN done 3 from rfl, show hasN (7 :: done) 4 = hasN done 4 from rfl, show hasN (7 :: done) 5 = hasN done 5 from rfl, show hasN (7 :: done) 6 = hasN done 6 from rfl, show hasN (7 :: done) 7 = true from rfl, show hasN (7 :: done) 8 = hasN done 8 from rfl] at hc ⊢
        simp [hf] at hc ⊢
        omega
      simp only [List.all_cons, Bool.and_eq_true] at hp
      have hI2 : dkI (hasN (7 :: done)) := by
        simp only [dkI, show hasN (7 :: done) 0 = hasN done 0 from rfl, show hasN (7 :: done) 1 = hasN done 1 from rfl, show hasN (7 :: done) 2 = hasN done 2 from rfl, show hasN (7 :: done) 3 = hasN done 3 from rfl, show hasN (7 :: done) 4 = hasN done 4 from rfl, show hasN (7 :: done) 5 = hasN done 5 from rfl, show hasN (7 :: done) 6 = hasN done 6 from rfl, show hasN (7 :: done) 7 = true from rfl, show hasN (7 :: done) 8 = hasN done 8 from rfl] at hI ⊢
        simp_all
      have g1 : hasN done 4 = true := hp.1
      have g2 : hasN done 1 = true := hp.2.1
      have e : (⟨(dkS s0 [.str x1, .int .i64 x2, .str x3, .int .i64 x4] (hasN done) β1 β2 β3).t, Hp.put (dkS s0 [.str x1, .int .i64 x2, .str x3, .int .i64 x4] (hasN done) β1 β2 β3).h 17 ⟨some β2, 42, 4, [[.str x1, .int .i64 x2, .str x3, .int .i64 x4]]⟩⟩ : S) = dkS s0 [.str x1, .int .i64 x2, .str x3, .int .i64 x4] (hasN (7 :: done)) β1 β2 β3 := by
        simp only [dkS, show hasN (7 :: done) 0 = hasN done 0 from rfl, show hasN (7 :: done) 1 = hasN done 1 from rfl, show hasN (7 :: done) 2 = hasN done 2 from rfl, show hasN (7 :: done) 3 = hasN done 3 from rfl, show hasN (7 :: done) 4 = hasN done 4 from rfl, show hasN (7 :: done) 5 = hasN done 5 from rfl, show hasN (7 :: done) 6 = hasN done 6 from rfl, show hasN (7 :: done) 7 = true from rfl, show hasN (7 :: done) 8 = hasN done 8 from rfl]
        congr 1
        funext z; unfold Hp.put; by_cases hz : z = 17 <;> simp [hz, g1]
      have a1 : (dkS s0 [.str x1, .int .i64 x2, .str x3, .int .i64 x4] (hasN done) β1 β2 β3).t 17 = .ptr 17 (some β2) 4 0 0 := by simp only [dkS]; simp [g1]
      have a2 : (dkS s0 [.str x1, .int .i64 x2, .str x3, .int .i64 x4] (hasN done) β1 β2 β3).t 86 = .agg [.str x1, .int .i64 x2, .str x3, .int .i64 x4] := by simp only [dkS]; simp [g2]
      have a3 : (dkS s0 [.str x1, .int .i64 x2, .str x3, .int .i64 x4] (hasN done) β1 β2 β3).h 17 = some ⟨some β2, 42, 4, [[.str [], .int .i64 0, .str [], .int .i64 0]]⟩ := by simp only [dkS]; simp [g1, hf]
      show storeP P (dkS s0 [.str x1, .int .i64 x2, .str x3, .int .i64 x4] (hasN done) β1 β2 β3).h 4 ((dkS s0 [.str x1, .int .i64 x2, .str x3, .int .i64 x4] (hasN done) β1 β2 β3).t 17) ((dkS s0 [.str x1, .int .i64 x2, .str x3, .int .i64 x4] (hasN done) β1 β2 β3).t 86) (fun h => anyA P T dkOps n (7 :: done) ⟨(dkS s0 [.str x1, .int .i64 x2, .str x3, .int .i64 x4] (hasN done) β1 β2 β3).t, h⟩ K)
      rw [a1, a2]
      show rowP P (dkS s0 [.str x1, .int .i64 x2, .str x3, .int .i64 x4] (hasN done) β1 β2 β3).h 17 (some β2) 4 0 _
      unfold rowP
      rw [a3]
      refine ⟨rfl, rfl, Nat.le_refl 4, ?_, ?_⟩
      · exact ⟨rfl, by simp [V.cells, V.one]⟩
      show anyA P T dkOps n (7 :: done) ⟨(dkS s0 [.str x1, .int .i64 x2, .str x3, .int .i64 x4] (hasN done) β1 β2 β3).t, Hp.put (dkS s0 [.str x1, .int .i64 x2, .str x3, .int .i64 x4] (hasN done) β1 β2 β3).h 17 ⟨some β2, 42, 4, [[.str x1, .int .i64 x2, .str x3, .int .i64 x4]]⟩⟩ K
      rw [e]
      exact ih 7 β1 β2 β3 hn hI2
    | 8, hj =>
      cases hj
      have hn : dkC (hasN (8 :: done)) = n := by
        simp only [dkC, show hasN (8 :: done) 0 = hasN done 0 from rfl, show hasN (8 :: done) 1 = hasN done 1 from rfl, show hasN (8 :: done) 2 = hasN done 2 from rfl, show hasN (8 :: done) 3 = hasN done 3 from rfl, show hasN (8 :: done) 4 = hasN done 4 from rfl, show hasN (8 :: done) 5 = hasN done 5 from rfl, show hasN (8 :: done) 6 = hasN done 6 from rfl, show hasN (8 :: done) 7 = hasN done 7 from rfl, show hasN (8 :: done) 8 = true from rfl] at hc ⊢
        simp [hf] at hc ⊢
        omega
      simp only [List.all_cons, Bool.and_eq_true] at hp
      have hI2 : dkI (hasN (8 :: done)) := by
        simp only [dkI, show hasN (8 :: done) 0 = hasN done 0 from rfl, show hasN (8 :: done) 1 = hasN done 1 from rfl, show hasN (8 :: done) 2 = hasN done 2 from rfl, show hasN (8 :: done) 3 = hasN done 3 from rfl, show hasN (8 :: done) 4 = hasN done 4 from rfl, show hasN (8 :: done) 5 = hasN done 5 from rfl, show hasN (8 :: done) 6 = hasN done 6 from rfl, show hasN (8 :: done) 7 = hasN done 7 from rfl, show hasN (8 :: done) 8 = true from rfl] at hI ⊢
        simp_all
      have g1 : hasN done 5 = true := hp.1
      have g2 : hasN done 2 = true := hp.2.1
      have e : (⟨(dkS s0 [.str x1, .int .i64 x2, .str x3, .int .i64 x4] (hasN done) β1 β2 β3).t, Hp.put (dkS s0 [.str x1, .int .i64 x2, .str x3, .int .i64 x4] (hasN done) β1 β2 β3).h 18 ⟨some β3, 42, 4, [[.str x1, .int .i64 x2, .str x3, .int .i64 x4]]⟩⟩ : S) = dkS s0 [.str x1, .int .i64 x2, .str x3, .int .i64 x4] (hasN (8 :: done)) β1 β2 β3 := by
        simp only [dkS, show hasN (8 :: done) 0 = hasN done 0 from rfl, show hasN (8 :: done) 1 = hasN done 1 from rfl, show hasN (8 :: done) 2 = hasN done 2 from rfl, show hasN (8 :: done) 3 = hasN done 3 from rfl, show hasN (8 :: done) 4 = hasN done 4 from rfl, show hasN (8 :: done) 5 = hasN done 5 from rfl, show hasN (8 :: done) 6 = hasN done 6 from rfl, show hasN (8 :: done) 7 = hasN done 7 from rfl, show hasN (8 :: done) 8 = true from rfl]
        congr 1
        funext z; unfold Hp.put; by_cases hz : z = 18 <;> simp [hz, g1]
      have a1 : (dkS s0 [.str x1, .int .i64 x2, .str x3, .int .i64 x4] (hasN done) β1 β2 β3).t 18 = .ptr 18 (some β3) 4 0 0 := by simp only [dkS]; simp [g1]
      have a2 : (dkS s0 [.str x1, .int .i64 x2, .str x3, .int .i64 x4] (hasN done) β1 β2 β3).t 87 = .agg [.str x1, .int .i64 x2, .str x3, .int .i64 x4] := by simp only [dkS]; simp [g2]
      have a3 : (dkS s0 [.str x1, .int .i64 x2, .str x3, .int .i64 x4] (hasN done) β1 β2 β3).h 18 = some ⟨some β3, 42, 4, [[.str [], .int .i64 0, .str [], .int .i64 0]]⟩ := by simp only [dkS]; simp [g1, hf]
      show storeP P (dkS s0 [.str x1, .int .i64 x2, .str x3, .int .i64 x4] (hasN done) β1 β2 β3).h 4 ((dkS s0 [.str x1, .int .i64 x2, .str x3, .int .i64 x4] (hasN done) β1 β2 β3).t 18) ((dkS s0 [.str x1, .int .i64 x2, .str x3, .int .i64 x4] (hasN done) β1 β2 β3).t 87) (fun h => anyA P T dkOps n (8 :: done) ⟨(dkS s0 [.str x1, .int .i64 x2, .str x3, .int .i64 x4] (hasN done) β1 β2 β3).t, h⟩ K)
      rw [a1, a2]
      show rowP P (dkS s0 [.str x1, .int .i64 x2, .str x3, .int .i64 x4] (hasN done) β1 β2 β3).h 18 (some β3) 4 0 _
      unfold rowP
      rw [a3]
      refine ⟨rfl, rfl, Nat.le_refl 4, ?_, ?_⟩
      · exact ⟨rfl, by simp [V.cells, V.one]⟩
      show anyA P T dkOps n (8 :: done) ⟨(dkS s0 [.str x1, .int .i64 x2, .str x3, .int .i64 x4] (hasN done) β1 β2 β3).t, Hp.put (dkS s0 [.str x1, .int .i64 x2, .str x3, .int .i64 x4] (hasN done) β1 β2 β3).h 18 ⟨some β3, 42, 4, [[.str x1, .int .i64 x2, .str x3, .int .i64 x4]]⟩⟩ K
      rw [e]
      exact ih 8 β1 β2 β3 hn hI2
    | j + 9, hj => simp [dkOps] at hj
theorem dreg (h4 : s0.t 4 = .ptr 4 b4 4 0 0) (hh : s0.h 4 = some ⟨b4, ty, 4, [[.str x1, .int .i64 x2, .str x3, .int .i64 x4]]⟩) (h16 : s0.h 16 = none) (h17 : s0.h 17 = none) (h18 : s0.h 18 = none) {K : S → Prop}
    (hK : ∀ β1 β2 β3 : Nat, K ⟨upd (upd (upd (upd (upd (upd s0.t 18 (.ptr 18 (some β3) 4 0 0)) 17 (.ptr 17 (some β2) 4 0 0)) 16 (.ptr 16 (some β1) 4 0 0)) 87 (.agg [.str x1, .int .i64 x2, .str x3, .int .i64 x4])) 86 (.agg [.str x1, .int .i64 x2, .str x3, .int .i64 x4])) 85 (.agg [.str x1, .int .i64 x2, .str x3, .int .i64 x4]),
      Hp.put (Hp.put (Hp.put s0.h 18 ⟨some β3, 42, 4, [[.str x1, .int .i64 x2, .str x3, .int .i64 x4]]⟩) 17 ⟨some β2, 42, 4, [[.str x1, .int .i64 x2, .str x3, .int .i64 x4]]⟩) 16 ⟨some β1, 42, 4, [[.str x1, .int .i64 x2, .str x3, .int .i64 x4]]⟩⟩) :
    anyA P T dkOps 9 [] s0 K := by
  have h := dk_all (P := P) (T := T) h4 hh h16 h17 h18 (K := K) (fun f β1 β2 β3 hc => by
    have e : dkS s0 [.str x1, .int .i64 x2, .str x3, .int .i64 x4] f β1 β2 β3 = ⟨upd (upd (upd (upd (upd (upd s0.t 18 (.ptr 18 (some β3) 4 0 0)) 17 (.ptr 17 (some β2) 4 0 0)) 16 (.ptr 16 (some β1) 4 0 0)) 87 (.agg [.str x1, .int .i64 x2, .str x3, .int .i64 x4])) 86 (.agg [.str x1, .int .i64 x2, .str x3, .int .i64 x4])) 85 (.agg [.str x1, .int .i64 x2, .str x3, .int .i64 x4]),
      Hp.put (Hp.put (Hp.put s0.h 18 ⟨some β3, 42, 4, [[.str x1, .int .i64 x2, .str x3, .int .i64 x4]]⟩) 17 ⟨some β2, 42, 4, [[.str x1, .int .i64 x2, .str x3, .int .i64 x4]]⟩) 16 ⟨some β1, 42, 4, [[.str x1, .int .i64 x2, .str x3, .int .i64 x4]]⟩⟩ := by
      have h0 : f 0 = true := by cases h : f 0 <;> simp [dkC, h] at hc ⊢
      have h1 : f 1 = true := by cases h : f 1 <;> simp [dkC, h] at hc ⊢
      have h2 : f 2 = true := by cases h : f 2 <;> simp [dkC, h] at hc ⊢
      have h3 : f 3 = true := by cases h : f 3 <;> simp [dkC, h] at hc ⊢
      have h4 : f 4 = true := by cases h : f 4 <;> simp [dkC, h] at hc ⊢
      have h5 : f 5 = true := by cases h : f 5 <;> simp [dkC, h] at hc ⊢
      have h6 : f 6 = true := by cases h : f 6 <;> simp [dkC, h] at hc ⊢
      have h7 : f 7 = true := by cases h : f 7 <;> simp [dkC, h] at hc ⊢
      have h8 : f 8 = true := by cases h : f 8 <;> simp [dkC, h] at hc ⊢
      simp only [dkS, h0, h1, h2, h3, h4, h5, h6, h7, h8]
      rfl
    rw [e]
    exact hK β1 β2 β3) 9 [] 0 0 0 rfl ⟨fun _ => rfl, fun _ => rfl, fun _ => rfl⟩
  have e0 : dkS s0 [.str x1, .int .i64 x2, .str x3, .int .i64 x4] (hasN []) 0 0 0 = s0 := by
    cases s0 with
    | mk t h =>
      simp only [dkS, hasN]
      congr 1
      · funext i
        by_cases h1 : i = 85
        · simp [h1]
        by_cases h2 : i = 86
        · simp [h2]
        by_cases h3 : i = 87
        · simp [h3]
        by_cases h5 : i = 16
        · simp [h5]
        by_cases h6 : i = 17
        · simp [h6]
        by_cases h7 : i = 18
        · simp [h7]
        simp [h1, h2, h3, h5, h6, h7]
      · funext i
        by_cases h5 : i = 16
        · simp [h5]
        by_cases h6 : i = 17
        · simp [h6]
        by_cases h7 : i = 18
        · simp [h7]
        simp [h5, h6, h7]
  rw [e0] at h
  exact h
end
end Go.Proofs.Ytlomnjlfmbolkaa.AM
