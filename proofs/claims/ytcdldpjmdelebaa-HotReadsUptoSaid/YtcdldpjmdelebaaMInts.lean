/-
  Slices of integers: slices.Index, Contains, Equal.
-/
import Derived.Test.YtcdldpjmdelebaaMU
set_option linter.unusedVariables false
set_option linter.unusedSimpArgs false
namespace Go.Proofs.Ytcdldpjmdelebaa.AM
open Go
set_option maxRecDepth 100000
set_option maxHeartbeats 2000000
def iRows (l : List Int) : List (List V) := l.map fun n => [.int .i64 n]
theorem iRows_sz (l : List Int) : ∀ r ∈ iRows l, r.length = 1 := by
  intro r hr; simp only [iRows, List.mem_map] at hr; obtain ⟨a, _, rfl⟩ := hr; rfl
theorem iRows_fz (l : List Int) : ∀ r ∈ iRows l, ∀ v ∈ r, Fz v := by
  intro r hr; simp only [iRows, List.mem_map] at hr; obtain ⟨a, _, rfl⟩ := hr
  intro v hv; simp only [List.mem_singleton] at hv; subst hv; exact .int _ _
def idxF (x : Int) : List Int → Int → Int
  | [], _ => -1
  | a :: l, i => if x = a then i else idxF x l (i + 1)
theorem idxF_mem (x : Int) : ∀ (l : List Int) (i : Int), 0 ≤ i → (0 ≤ idxF x l i ↔ x ∈ l)
  | [], i, _ => by simp [idxF]
  | a :: l, i, h => by
    unfold idxF
    split
    · rename_i e; subst e; simp [h]
    · rename_i e; rw [idxF_mem x l (i + 1) (by omega)]; simp [e]
structure YIx (α : Type) (l : List α) where
  k : Int
  pre : List α
  rest : List α
  hd : l = pre ++ rest
  hk : k = (pre.length : Int)
theorem ints_ret {rv : List RV} {r : List Int} {tl : List V} {R : S → Prop} (htl : ∀ v ∈ tl, Fz v) (hR : ∀ s s', Ent s s' → RetF rv (oneV (.sl false 1 (iRows r) :: tl)) s' → R s) : RetSl rv 1 (iRows r) tl R := retSl_of (iRows_sz _) (iRows_fz _) htl hR
theorem ansIn {f : Nat} {l : List Int} {vs : List V} {v : V} (h : Spec Try.prog f (.sl true 1 (iRows l) :: vs) Hp.emp (Is v)) (hv : v.ren (lab []) = v) (hvs : vs.all V.pl = true) : Ans (CallE Try.prog) f (.sl false 1 (iRows l) :: vs) v := ansW h (fun _ => .cons (.weak _ _) (args_plain hvs)) hv
end Go.Proofs.Ytcdldpjmdelebaa.AM
