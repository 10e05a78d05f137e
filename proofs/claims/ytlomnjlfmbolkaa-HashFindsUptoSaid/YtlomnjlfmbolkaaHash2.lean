/-
  Plain mathematics of hash.Join: powers of the base modulo the prime; the bits that the walks show.
-/
import Derived.WalkKit
import Derived.Laws.BitsLemmas
set_option linter.unusedVariables false
set_option linter.unusedSimpArgs false
namespace Go.Proofs.Ytlomnjlfmbolkaa

theorem pow_emod (a p : Int) (n : Nat) : (a % p) ^ n % p = a ^ n % p := by
  induction n with
  | zero => simp
  | succ n ih => rw [Int.pow_succ, Int.pow_succ, Int.mul_emod, ih, Int.emod_emod, ← Int.mul_emod]

def pwr (n : Nat) : Int := 257 ^ n % 2147483647

theorem pwr_bd (n : Nat) : 0 ≤ pwr n ∧ pwr n < 2147483647 := by unfold pwr; omega

theorem pwr_succ (n : Nat) : pwr (n + 1) = pwr n * 257 % 2147483647 := by
  unfold pwr
  rw [Int.pow_succ]
  generalize (257 : Int) ^ n = x
  omega

theorem pwr_add (a b : Nat) : pwr (a + b) = pwr a * pwr b % 2147483647 := by
  unfold pwr
  rw [Int.pow_add, Int.mul_emod]

theorem step_half (b : Int) (k : Nat) : (b * b % 2147483647) ^ k % 2147483647 = b ^ (2 * k) % 2147483647 := by
  rw [pow_emod, Int.pow_mul, Int.pow_succ, Int.pow_succ]; simp

/-- one round of power at an odd number, and at an even one -/
theorem step_odd (out b : Int) (k : Nat) : (out * b % 2147483647) * (b * b % 2147483647) ^ k % 2147483647 = out * b ^ (2 * k + 1) % 2147483647 := by
  rw [Int.mul_emod, step_half, Int.emod_emod, ← Int.mul_emod, Int.pow_succ, Int.mul_assoc, Int.mul_comm b]

theorem step_even (out b : Int) (k : Nat) : out * (b * b % 2147483647) ^ k % 2147483647 = out * b ^ (2 * k) % 2147483647 := by
  rw [Int.mul_emod, step_half, ← Int.mul_emod]

theorem bits_and1 (n : Int) : bits .and .i64 n 1 = n % 2 := by
  have h1 : (BitVec.ofInt 64 1).toNat = 2 ^ 1 - 1 := by decide
  have key : (BitVec.ofInt 64 n &&& BitVec.ofInt 64 1).toNat = (n % ((2 ^ 64 : Nat) : Int)).toNat % 2 ^ 1 := by
    rw [BitVec.toNat_and, BitVec.toNat_ofInt, h1, Nat.and_two_pow_sub_one_eq_mod]
  show IntKind.i64.wrap ((BitVec.ofInt 64 n &&& BitVec.ofInt 64 1).toNat : Nat) = n % 2
  rw [key, IntKind.wrap_i64]
  omega

/-- scrivref.Shift -/
theorem shift_half (a : Int) (n : Nat) : a * pwr (n / 2) % 2147483647 * pwr (n - n / 2) % 2147483647 = a * pwr n % 2147483647 := by
  have e : pwr n = pwr (n / 2) * pwr (n - n / 2) % 2147483647 := by
    rw [← pwr_add]; congr 1; omega
  rw [e, Int.mul_emod, Int.emod_emod, ← Int.mul_emod, Int.mul_assoc, Int.mul_emod a, Int.mul_emod a (_ % _), Int.emod_emod]

theorem mul_bd {x y : Int} (hx0 : 0 ≤ x) (hx1 : x < 2147483647) (hy0 : 0 ≤ y) (hy1 : y < 2147483647) : 0 ≤ x * y ∧ x * y ≤ 4611686009837453316 := by
  refine ⟨Int.mul_nonneg hx0 hy0, ?_⟩
  have h := Int.mul_le_mul (show x ≤ 2147483646 by omega) (show y ≤ 2147483646 by omega) hy0 (by decide)
  simpa using h
end Go.Proofs.Ytlomnjlfmbolkaa
