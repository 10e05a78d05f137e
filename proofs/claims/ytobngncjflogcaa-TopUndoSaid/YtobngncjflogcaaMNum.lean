/-
  Numbers as bytes and sums, as contracts on the plain machine.
-/
import Derived.Test.YtobngncjflogcaaBC
import Derived.Test.YtobngncjflogcaaBB
import Derived.Test.YtobngncjflogcaaNum4
set_option linter.unusedVariables false
set_option linter.unusedSimpArgs false
namespace Go.Proofs.Ytobngncjflogcaa.AM
open Go Go.RowKit
theorem us_one {f : Value → Prop} {F B : Nat → Prop} {w : World} {us : Array Value} {v : V} {u0 : Value} (hl : us.size = [v].length) (hr : ∀ (i : Nat) (x : V) (u : Value), [v][i]? = some x → us[i]? = some u → Rel F B w x u) (h : ∀ u, Rel F B w v u → u = u0) : us = #[u0] := by
  match us, hl with
  | ⟨[u]⟩, _ =>
    have := h u (hr 0 v u rfl rfl)
    rw [this]
theorem rel_int {F B : Nat → Prop} {w : World} {k : IntKind} {n : Int} {u : Value} (h : Rel F B w (.int k n) u) : u = .int k n := by cases h; rfl
theorem rel_str {F B : Nat → Prop} {w : World} {l : List UInt8} {u : Value} (h : Rel F B w (.str l) u) : u = .string ⟨l.toArray⟩ := by cases h; rfl
def putF (n : Int) : List UInt8 × Int := if n < 0 ∨ 2147483647 < n then ([], 1) else (numL n.toNat, 0)
theorem below_rfl (w : World) : Below w.heap.size w w := by (repeat (first | (with_reducible exact Below.refl _ _) | (with_reducible assumption) | (with_reducible refine Below.drew ?_) | (with_reducible refine below_drewN ?_ _) | ((with_reducible refine Below.alloc ?_ ?_ _); rotate_left; (focus (first | omega | (simp; done) | (simp; omega)))) | ((with_reducible refine Below.setCell ?_ ?_ _); rotate_left; (focus (first | omega | (simp; done) | (simp; omega)))) | ((with_reducible refine below_ob ?_ ?_ _ _); rotate_left; (focus (first | omega | (simp; done) | (simp; omega))))))
theorem sp_nput (n : Int) : Spec Try.prog 114 [.int .i64 n] Hp.emp (Is (.tup [.str (putF n).1, .int .i64 (putF n).2])) :=
  spec_of_calls (us0 := #[.int .i64 n]) ⟨Try.f114, Try.func114, by decide +kernel, Option.isSome_iff_exists.1 (by decide +kernel)⟩
    (fun F B w us hl hr => us_one (f := fun _ => True) hl hr fun u h => rel_int h)
    (u0 := .tuple #[.string ⟨(putF n).1.toArray⟩, .int .i64 (putF n).2])
    (fun F B w => .tup _ _ rfl fun i v u hv hu => by
      match i with
      | 0 => simp at hv hu; subst hv hu; exact .str _
      | 1 => simp at hv hu; subst hv hu; exact .int _ _
      | i + 2 => simp at hv)
    (fun w => by
      unfold putF
      split
      · rename_i h
        refine (put_bad n w h).mono ?_
        rintro e w' ⟨rfl, rfl⟩
        exact ⟨rfl, below_rfl _⟩
      · rename_i h
        exact put_ok n w (by omega) (by omega))
theorem tri_rel {F B : Nat → Prop} {w : World} (a b c : Int) : Rel F B w (.tup [.int .i64 a, .int .i64 b, .int .i64 c]) (.tuple #[.int .i64 a, .int .i64 b, .int .i64 c]) := .tup _ _ rfl fun i v u hv hu => by
  match i with
  | 0 => simp at hv hu; subst hv hu; exact .int _ _
  | 1 => simp at hv hu; subst hv hu; exact .int _ _
  | 2 => simp at hv hu; subst hv hu; exact .int _ _
  | i + 3 => simp at hv
theorem sp_nget (s : List UInt8) (hs : s.length ≤ maxLen) : Spec Try.prog 118 [.str s] Hp.emp (Is (.tup [.int .i64 (getS s).1, .int .i64 (getS s).2.1, .int .i64 (getS s).2.2])) :=
  spec_of_calls (us0 := #[.string ⟨s.toArray⟩]) ⟨Try.f118, Try.func118, by decide +kernel, Option.isSome_iff_exists.1 (by decide +kernel)⟩
    (fun F B w us hl hr => us_one (f := fun _ => True) hl hr fun u h => rel_str h) (fun F B w => tri_rel _ _ _)
    (fun w => by
      refine (get_any ⟨s.toArray⟩ w (by simpa [ByteArray.size] using hs)).mono ?_
      rintro e w' ⟨rfl, rfl⟩
      exact ⟨rfl, below_rfl _⟩)
theorem sp_runnum (s : List UInt8) (hs : s.length ≤ maxLen) : Spec Try.prog 103 [.str s] Hp.emp (Is (.tup [.int .i64 (getS s).1, .int .i64 (getS s).2.1, .int .i64 (getS s).2.2])) :=
  spec_of_calls (us0 := #[.string ⟨s.toArray⟩]) ⟨Try.f103, Try.func103, by decide +kernel, Option.isSome_iff_exists.1 (by decide +kernel)⟩
    (fun F B w us hl hr => us_one (f := fun _ => True) hl hr fun u h => rel_str h) (fun F B w => tri_rel _ _ _)
    (fun w => unnum_any ⟨s.toArray⟩ w (by simpa [ByteArray.size] using hs))
theorem sp_rnum (n : Int) (h0 : 0 ≤ n) (h1 : n ≤ 2147483647) : Spec Try.prog 122 [.int .i64 n] Hp.emp (Is (.str (numL n.toNat))) :=
  spec_of_calls (us0 := #[.int .i64 n]) ⟨Try.f122, Try.func122, by decide +kernel, Option.isSome_iff_exists.1 (by decide +kernel)⟩
    (fun F B w us hl hr => us_one (f := fun _ => True) hl hr fun u h => rel_int h) (u0 := .string ⟨(numL n.toNat).toArray⟩) (fun F B w => .str _)
    (fun w => num_any 4 (Nat.le_refl _) n w h0 (by have : (128 : Int) ^ (4 + 1) = 34359738368 := by decide
                                                   omega) h1)
/-! the plain law -/
theorem numL_len (n : Nat) : (numL n).length ≤ 5 := numF_len 5 n
/-- what was read was written so, and no other way -/
theorem getS_num {s : List UInt8} (h : (getS s).2.2 = 0) : ∃ k : Nat, (getS s).2.1 = k ∧ 0 < k ∧ k ≤ s.length ∧ k ≤ 5 ∧ 0 ≤ (getS s).1 ∧ (getS s).1 ≤ 2147483647 ∧ numL (getS s).1.toNat = s.take k := by
  unfold getS at h ⊢
  by_cases h1 : 5 ≤ lead s
  · rw [if_pos h1] at h; exact absurd h (by decide)
  rw [if_neg h1] at h ⊢
  by_cases h2 : lead s = s.length
  · rw [if_pos h2] at h; exact absurd h (by decide)
  rw [if_neg h2] at h ⊢
  by_cases h3 : 2147483647 < val (s.take (lead s + 1)) ∨ (0 < lead s ∧ s[lead s]? = some 0)
  · rw [if_pos h3] at h; exact absurd h (by decide)
  rw [if_neg h3]
  have hle := lead_le s
  have hlt : lead s < s.length := by omega
  refine ⟨lead s + 1, by simp, by omega, by omega, by omega, Int.natCast_nonneg _, by simp only []; omega, ?_⟩
  have hw := word_take s hlt
  have hl : (s.take (lead s + 1)).length = lead s + 1 := by rw [List.length_take]; omega
  have hg : (s.take (lead s + 1)).getLast? = s[lead s]? := by
    rw [List.getLast?_eq_getElem?, hl, List.getElem?_take, if_pos (by omega)]; rfl
  have := (num_of_word 5 hw (by omega)).2 (by
    rw [hl, hg]
    by_cases h0 : lead s = 0
    · left; omega
    · right; intro g; exact h3 (.inr ⟨by omega, g⟩))
  simpa [numL] using this
end Go.Proofs.Ytobngncjflogcaa.AM
