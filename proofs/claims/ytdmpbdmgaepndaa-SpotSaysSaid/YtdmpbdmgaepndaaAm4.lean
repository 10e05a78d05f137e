/-
  The plain machine against the model: arithmetic, texts, parts of values.
-/
import Derived.Test.YtdmpbdmgaepndaaAm3
set_option linter.unusedVariables false
set_option linter.unusedSimpArgs false
namespace Go.Proofs.Ytdmpbdmgaepndaa.AM
open Go
section
variable {P : Program} {C : Ctx} {F : Nat → Prop} {w : World} {a : Act} {s : S} {h : Hp} {K : V → Hp → Prop} {Q : Exit → Act → World → Prop} {o : Oper}

theorem run_guard_ii {op : BinOp} {T : TypeId} {x y : Operand} {k k' : IntKind} {m n : Int} : (eqGuard op T x y (.int k m) (.int k' n)).run P w = .ok () w := by
  unfold eqGuard; cases op <;> simp [go_sem]
theorem run_guard_ss {op : BinOp} {T : TypeId} {x y : Operand} {m n : ByteArray} : (eqGuard op T x y (.string m) (.string n)).run P w = .ok () w := by
  unfold eqGuard; cases op <;> simp [go_sem]

theorem snd_bin_of {op : BinOp} {T U : TypeId} {x y : Operand} {u : Value} {v : V} (ho : o.op = .binOp op T x y U) (hs : HSat C F h w) (hg : (eqGuard op T x y (a.eval x) (a.eval y)).run P w = .ok () w)
    (hb : (binOp op T (a.eval x) (a.eval y)).run P w = .ok u w) (hv : Rel F C.B w v u) (hK : K v h) : o.wp P a w (OpPost C F w a o.dst K) Q := by
  refine wp_pure hs ?_ hv hK
  generalize a.eval = ρ at *
  simp [execOp, ho, go_sem, hg, hb]

theorem toList_inj {l m : List UInt8} : ((⟨l.toArray⟩ : ByteArray).toList == (⟨m.toArray⟩ : ByteArray).toList) = decide (l = m) := by
  rw [Bool.eq_iff_iff]; simp

theorem tdiv_pos {m n : Int} (h1 : 0 ≤ m) : m.tdiv n = m / n := by rw [Int.tdiv_eq_ediv_of_nonneg h1]
theorem tmod_pos {m n : Int} (h1 : 0 ≤ m) : m.tmod n = m % n := by rw [Int.tmod_eq_emod_of_nonneg h1]
theorem fdiv_pos {m : Int} {n : Nat} : m.fdiv (2 ^ n) = m / 2 ^ n := Int.fdiv_eq_ediv_of_nonneg _ (Int.le_of_lt (Int.pow_pos (by decide)))
theorem wrap_shl {k : IntKind} {x : Int} {n : Nat} (h : k.bits ≤ n) : k.wrap (x * 2 ^ k.bits) = k.wrap (x * 2 ^ n) := by
  obtain ⟨d, rfl⟩ : ∃ d, n = k.bits + d := ⟨n - k.bits, by omega⟩
  simp only [IntKind.wrap]
  rw [Int.pow_add, show x * ((2:Int) ^ k.bits * 2 ^ d) = (x * 2 ^ d) * 2 ^ k.bits by rw [Int.mul_comm (2 ^ k.bits), Int.mul_assoc], Int.mul_emod_left, Int.mul_emod_left]

theorem run_bin_ii {op : BinOp} {T : TypeId} {k k' : IntKind} {m n : Int} {v : V} {K : V → Prop} (h : binV op (.int k m) (.int k' n) K) :
    ∃ u v, (binOp op T (.int k m) (.int k' n)).run P w = .ok u w ∧ Rel F C.B w v u ∧ K v := by
  cases op <;> simp only [binV] at h
  case add => obtain ⟨rfl, h⟩ := h; exact ⟨.int k (k.wrap (m + n)), _, by simp [binOp, Op.intArith, go_sem], .int _ _, arith_ok h⟩
  case sub => obtain ⟨rfl, h⟩ := h; exact ⟨.int k (k.wrap (m - n)), _, by simp [binOp, Op.intArith, go_sem], .int _ _, arith_ok h⟩
  case mul => obtain ⟨rfl, h⟩ := h; exact ⟨.int k (k.wrap (m * n)), _, by simp [binOp, Op.intArith, go_sem], .int _ _, arith_ok h⟩
  case quo =>
    obtain ⟨rfl, h1, h2, h⟩ := h
    exact ⟨.int k (k.wrap (m.tdiv n)), _, by simp [binOp, Op.intDiv, go_sem, show ¬ n = 0 by omega], .int _ _, by rw [tdiv_pos h1]; exact arith_ok h⟩
  case rem =>
    obtain ⟨rfl, h1, h2, h⟩ := h
    exact ⟨.int k (m.tmod n), _, by simp [binOp, Op.intDiv, go_sem, show ¬ n = 0 by omega], .int _ _, by rw [tmod_pos h1]; exact h⟩
  case and => obtain ⟨rfl, h⟩ := h; exact ⟨.int k (k.wrap (BitVec.ofInt k.bits m &&& BitVec.ofInt k.bits n).toNat), _, by simp only [binOp, ne_eq, not_true, ↓reduceIte, Op.intBits]; rfl, .int _ _, h⟩
  case or => obtain ⟨rfl, h⟩ := h; exact ⟨.int k (k.wrap (BitVec.ofInt k.bits m ||| BitVec.ofInt k.bits n).toNat), _, by simp only [binOp, ne_eq, not_true, ↓reduceIte, Op.intBits]; rfl, .int _ _, h⟩
  case xor => obtain ⟨rfl, h⟩ := h; exact ⟨.int k (k.wrap (BitVec.ofInt k.bits m ^^^ BitVec.ofInt k.bits n).toNat), _, by simp only [binOp, ne_eq, not_true, ↓reduceIte, Op.intBits]; rfl, .int _ _, h⟩
  case shl =>
    obtain ⟨h1, h2, h⟩ := h
    refine ⟨.int k (k.wrap (m * 2 ^ min n.toNat k.bits)), _, by simp only [binOp, Op.shift]; rw [if_neg (by omega)]; rfl, .int _ _, ?_⟩
    by_cases hb : n.toNat ≤ k.bits
    · rw [Nat.min_eq_left hb]; exact arith_ok h
    · rw [Nat.min_eq_right (by omega), wrap_shl (n := n.toNat) (by omega)]; exact arith_ok h
  case shr =>
    obtain ⟨h1, h2, h⟩ := h
    refine ⟨.int k (m.fdiv (2 ^ min n.toNat k.bits)), _, by simp only [binOp, Op.shift]; rw [if_neg (by omega)]; rfl, .int _ _, ?_⟩
    rw [Nat.min_eq_left (by omega), fdiv_pos]; exact h
  case lss => obtain ⟨rfl, h⟩ := h; exact ⟨.bool (decide (m < n)), _, by simp [binOp, Op.intCmp, go_sem], .bool _, h⟩
  case leq => obtain ⟨rfl, h⟩ := h; exact ⟨.bool (decide (m ≤ n)), _, by simp [binOp, Op.intCmp, go_sem], .bool _, h⟩
  case gtr => obtain ⟨rfl, h⟩ := h; exact ⟨.bool (decide (n < m)), _, by simp [binOp, Op.intCmp, go_sem], .bool _, h⟩
  case geq => obtain ⟨rfl, h⟩ := h; exact ⟨.bool (decide (n ≤ m)), _, by simp [binOp, Op.intCmp, go_sem], .bool _, h⟩
  case eql =>
    obtain ⟨rfl, h⟩ := h
    refine ⟨.bool (decide (m = n)), _, ?_, .bool _, h⟩
    have e : (m == n) = decide (m = n) := by rw [Bool.eq_iff_iff]; simp
    simp [binOp, Op.intCmp, go_sem, e]
  case neq =>
    obtain ⟨rfl, h⟩ := h
    refine ⟨.bool (decide (m ≠ n)), _, ?_, .bool _, h⟩
    have e : (m == n) = decide (m = n) := by rw [Bool.eq_iff_iff]; simp
    simp [binOp, Op.intCmp, go_sem, e, bne]

theorem run_bin_ss {op : BinOp} {T : TypeId} {m n : List UInt8} {K : V → Prop} (h : binV op (.str m) (.str n) K) :
    ∃ u v, (binOp op T (.string ⟨m.toArray⟩) (.string ⟨n.toArray⟩)).run P w = .ok u w ∧ Rel F C.B w v u ∧ K v := by
  cases op <;> simp only [binV] at h
  case add =>
    refine ⟨.string ⟨(m ++ n).toArray⟩, _, ?_, .str _, h.2⟩
    have h1 := h.1
    unfold I64 at h1
    have e : (⟨m.toArray⟩ : ByteArray) ++ ⟨n.toArray⟩ = ⟨(m ++ n).toArray⟩ := by
      apply ByteArray.ext
      simp
    have hs1 : (⟨m.toArray⟩ : ByteArray).size = m.length := by simp [ByteArray.size]
    have hs2 : (⟨n.toArray⟩ : ByteArray).size = n.length := by simp [ByteArray.size]
    simp only [binOp, Op.stringOp, hs1, hs2, e]
    rw [if_neg (by simp [IntKind.max, IntKind.signed, IntKind.bits]; omega)]
    simp [go_sem]
  case eql =>
    refine ⟨.bool (decide (m = n)), _, ?_, .bool _, h⟩
    simp only [binOp, Op.stringOp, toList_inj]; simp [go_sem]
  case neq =>
    refine ⟨.bool (decide (m ≠ n)), _, ?_, .bool _, h⟩
    simp only [binOp, Op.stringOp, toList_inj]; simp [go_sem]

theorem snd_bin {op : BinOp} {T U : TypeId} {x y : Operand} {vx vy : V} (ho : o.op = .binOp op T x y U) (hs : HSat C F h w) (hx : Rel F C.B w vx (a.eval x)) (hy : Rel F C.B w vy (a.eval y))
    (hK : binV op vx vy fun v => K v h) : o.wp P a w (OpPost C F w a o.dst K) Q := by
  generalize hex : a.eval x = ux at hx
  generalize hey : a.eval y = uy at hy
  cases hx
  case int k m =>
    cases hy
    case int k' n =>
      obtain ⟨u, v, hr, hv, hk⟩ := run_bin_ii (P := P) (C := C) (F := F) (w := w) (T := T) (v := .junk) hK
      exact snd_bin_of ho hs (by rw [hex, hey]; exact run_guard_ii) (by rw [hex, hey]; exact hr) hv hk
    all_goals (cases op <;> simp [binV] at hK)
  case str m =>
    cases hy
    case str n =>
      obtain ⟨u, v, hr, hv, hk⟩ := run_bin_ss (P := P) (C := C) (F := F) (w := w) (T := T) hK
      exact snd_bin_of ho hs (by rw [hex, hey]; exact run_guard_ss) (by rw [hex, hey]; exact hr) hv hk
    all_goals (cases op <;> simp [binV] at hK)
  all_goals (cases op <;> simp [binV] at hK)
end
end Go.Proofs.Ytdmpbdmgaepndaa.AM
