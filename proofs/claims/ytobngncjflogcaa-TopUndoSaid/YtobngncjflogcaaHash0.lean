/-
  Plain mathematics of package hash: sums of bytes.
-/
import Derived.WalkKit
set_option linter.unusedVariables false
set_option linter.unusedSimpArgs false
namespace Go.Proofs.Ytobngncjflogcaa

/-- The sum of a list of bytes. -/
def hashL (l : List UInt8) : Int := l.foldl (fun h c => (h * 257 + c.toNat + 1) % 2147483647) 0

theorem hashL_snoc (l : List UInt8) (c : UInt8) : hashL (l ++ [c]) = (hashL l * 257 + c.toNat + 1) % 2147483647 := by
  simp [hashL]

theorem hashL_bd (l : List UInt8) : 0 ≤ hashL l ∧ hashL l < 2147483647 := by
  rcases List.eq_nil_or_concat l with rfl | ⟨r, c, rfl⟩
  · exact ⟨by decide, by decide⟩
  · rw [List.concat_eq_append, hashL_snoc]
    omega

theorem take_snoc (s : ByteArray) (k : Nat) (h : k < s.size) : s.data.toList.take (k + 1) = s.data.toList.take k ++ [s[k]] := by
  rw [List.take_succ_eq_append_getElem (by simpa using h)]; rfl

theorem ret_int {k : IntKind} {a b : Int} (h : a = b) : Ending.returned (.int k a) = .returned (.int k b) := by rw [h]
theorem ret_str {a b : ByteArray} (h : a = b) : Ending.returned (.string a) = .returned (.string b) := by rw [h]
end Go.Proofs.Ytobngncjflogcaa
