/-
  Plain mathematics of package disk.
-/
import Derived.WalkKit
set_option linter.unusedVariables false
set_option linter.unusedSimpArgs false
namespace Go.Proofs.Ytjilpjhjcdgnoaa

/-- what is wrong with a slot of so many bytes -/
def slotE (size : Nat) (n : Int) : Int := if 1048576 < size then 2 else if n < 0 ∨ (size : Int) < n then 3 else 0
def diskE (z0 : Nat) (n0 : Int) (z1 : Nat) (n1 : Int) : Int := if slotE z0 n0 = 0 then slotE z1 n1 else slotE z0 n0

theorem slot_cases (z : Nat) (n : Int) : ((1048576 : Int) < z ∧ slotE z n = 2) ∨ ((z : Int) ≤ 1048576 ∧ n < 0 ∧ slotE z n = 3) ∨ ((z : Int) ≤ 1048576 ∧ 0 ≤ n ∧ (z : Int) < n ∧ slotE z n = 3) ∨ ((z : Int) ≤ 1048576 ∧ 0 ≤ n ∧ n ≤ (z : Int) ∧ slotE z n = 0) := by
  unfold slotE
  by_cases h1 : 1048576 < z
  · left; exact ⟨by omega, by rw [if_pos h1]⟩
  · rw [if_neg h1]
    by_cases h2 : n < 0
    · right; left; exact ⟨by omega, h2, by rw [if_pos (.inl h2)]⟩
    · by_cases h3 : (z : Int) < n
      · right; right; left; exact ⟨by omega, by omega, h3, by rw [if_pos (.inr h3)]⟩
      · right; right; right; exact ⟨by omega, by omega, by omega, by rw [if_neg (by omega)]⟩

theorem slotE_ok {z : Nat} {n : Int} (h : slotE z n = 0) : z ≤ 1048576 ∧ 0 ≤ n ∧ n ≤ z := by
  rcases slot_cases z n with ⟨_, e⟩ | ⟨_, _, e⟩ | ⟨_, _, _, e⟩ | ⟨h1, h2, h3, _⟩
  · rw [h] at e; cases e
  · rw [h] at e; cases e
  · rw [h] at e; cases e
  · exact ⟨by omega, h2, h3⟩
theorem diskE_ok {z0 z1 : Nat} {n0 n1 : Int} (h : diskE z0 n0 z1 n1 = 0) : slotE z0 n0 = 0 ∧ slotE z1 n1 = 0 := by
  unfold diskE at h
  by_cases h0 : slotE z0 n0 = 0
  · rw [if_pos h0] at h; exact ⟨h0, h⟩
  · rw [if_neg h0] at h; exact absurd h h0
/-- a disk, as a value -/
structure DiskD where
  s0 : ByteArray
  n0 : Int
  s1 : ByteArray
  n1 : Int
def DiskD.val (d : DiskD) : Value := .agg #[.string d.s0, .int .i64 d.n0, .string d.s1, .int .i64 d.n1]
def DiskD.ok (d : DiskD) : Prop := d.s0.size ≤ maxLen ∧ d.s1.size ≤ maxLen
end Go.Proofs.Ytjilpjhjcdgnoaa
