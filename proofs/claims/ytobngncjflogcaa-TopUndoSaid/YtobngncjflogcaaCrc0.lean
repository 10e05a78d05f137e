/-
  Plain mathematics of package crc: one bit, one byte, the table, the whole text.
-/
import Derived.WalkKit
import Derived.Laws.BitsAllLaws
set_option linter.unusedVariables false
set_option linter.unusedSimpArgs false
namespace Go.Proofs.Ytobngncjflogcaa

theorem bv_xlc (x y z : BitVec 32) : x ^^^ (y ^^^ z) = y ^^^ (x ^^^ z) := by rw [← BitVec.xor_assoc, BitVec.xor_comm x y, BitVec.xor_assoc]
theorem bv_xx (x y : BitVec 32) : x ^^^ (x ^^^ y) = y := by rw [← BitVec.xor_assoc, BitVec.xor_self, BitVec.zero_xor]

/-- one bit -/
def crc1 (x : BitVec 32) : BitVec 32 := (x >>> 1) ^^^ (bif x.getLsbD 0 then 0x82f63b78#32 else 0#32)
def crcN : Nat → BitVec 32 → BitVec 32
  | 0, x => x
  | n + 1, x => crc1 (crcN n x)

theorem crc1_xor (x y : BitVec 32) : crc1 (x ^^^ y) = crc1 x ^^^ crc1 y := by
  unfold crc1
  rw [BitVec.ushiftRight_xor_distrib, BitVec.getLsbD_xor]
  cases x.getLsbD 0 <;> cases y.getLsbD 0
  · simp
  · simp only [Bool.false_bne, cond_true, cond_false, BitVec.xor_zero, BitVec.xor_assoc]
  · simp only [Bool.true_bne, Bool.not_false, cond_true, cond_false, BitVec.xor_zero, BitVec.xor_assoc]
    rw [BitVec.xor_comm (y >>> 1)]
  · simp only [Bool.true_bne, Bool.not_true, cond_true, cond_false, BitVec.xor_zero, BitVec.xor_assoc]
    rw [bv_xlc _ (y >>> 1), BitVec.xor_self, BitVec.xor_zero]

theorem crcN_xor (n : Nat) (x y : BitVec 32) : crcN n (x ^^^ y) = crcN n x ^^^ crcN n y := by
  induction n with
  | zero => rfl
  | succ n ih => simp only [crcN]; rw [ih, crc1_xor]

/-- what has no low bits is only shifted -/
theorem crcN_high (n : Nat) (z : BitVec 32) (h : ∀ i, i < n → z.getLsbD i = false) : crcN n z = z >>> n := by
  induction n with
  | zero => simp [crcN]
  | succ n ih =>
    simp only [crcN]
    rw [ih (fun i hi => h i (by omega))]
    unfold crc1
    have h0 : (z >>> n).getLsbD 0 = false := by
      rw [BitVec.getLsbD_ushiftRight]; exact h n (by omega)
    rw [h0]
    simp only [cond_false, BitVec.xor_zero]
    rw [← BitVec.shiftRight_add]

def lowByte (x : BitVec 32) : BitVec 32 := x &&& 255#32

theorem crc8_split (y : BitVec 32) : crcN 8 y = (y >>> 8) ^^^ crcN 8 (lowByte y) := by
  have e : y = (y &&& ~~~255#32) ^^^ lowByte y := by
    unfold lowByte
    apply BitVec.eq_of_getLsbD_eq
    intro i hi
    simp only [BitVec.getLsbD_xor, BitVec.getLsbD_and, BitVec.getLsbD_not, hi, decide_true, Bool.true_and]
    cases y.getLsbD i <;> cases (255#32).getLsbD i <;> rfl
  conv => lhs; rw [e]
  rw [crcN_xor, crcN_high]
  · congr 1
    apply BitVec.eq_of_getLsbD_eq
    intro i hi
    simp only [BitVec.getLsbD_ushiftRight, BitVec.getLsbD_and, BitVec.getLsbD_not]
    have : (255#32).getLsbD (8 + i) = false := by
      rw [BitVec.getLsbD_ofNat]
      simp only [Bool.and_eq_false_iff]
      right
      exact Nat.testBit_lt_two_pow (Nat.lt_of_lt_of_le (show 255 < 2 ^ 8 by decide) (Nat.pow_le_pow_right (by decide) (by omega)))
    rw [this]
    by_cases h8 : 8 + i < 32
    · simp [h8]
    · rw [BitVec.getLsbD_of_ge y _ (by omega)]; simp
  · intro i hi
    have : (255#32).getLsbD i = true := by
      match i, hi with
      | 0, _ | 1, _ | 2, _ | 3, _ | 4, _ | 5, _ | 6, _ | 7, _ => decide
    rw [BitVec.getLsbD_and, BitVec.getLsbD_not, this]; simp

/-- bit by bit, with the byte's bits drawn in one after the other -/
def bitStep (b : BitVec 32) (k : Nat) (x : BitVec 32) : BitVec 32 := (x >>> 1) ^^^ (bif (x ^^^ (b >>> k)).getLsbD 0 then 0x82f63b78#32 else 0#32)
def bitN (b : BitVec 32) : Nat → BitVec 32 → BitVec 32
  | 0, x => x
  | n + 1, x => bitStep b n (bitN b n x)

theorem bitN_eq (b x : BitVec 32) (n : Nat) : bitN b n x = crcN n (x ^^^ b) ^^^ (b >>> n) := by
  induction n with
  | zero => simp [bitN, crcN, BitVec.xor_assoc]
  | succ n ih =>
    simp only [bitN, crcN]
    rw [ih]
    unfold bitStep crc1
    rw [BitVec.xor_assoc (crcN n (x ^^^ b)), BitVec.xor_self, BitVec.xor_zero, BitVec.ushiftRight_xor_distrib, ← BitVec.shiftRight_add]
    simp only [BitVec.xor_assoc]
    rw [BitVec.xor_comm (b >>> (n + 1))]

def byte32 (c : UInt8) : BitVec 32 := BitVec.ofNat 32 c.toNat

theorem byte32_shift (c : UInt8) : byte32 c >>> 8 = 0#32 := by
  apply BitVec.eq_of_toNat_eq
  have := c.toNat_lt
  simp [byte32, Nat.shiftRight_eq_div_pow]
  omega

def crcByte (x : BitVec 32) (c : UInt8) : BitVec 32 := crcN 8 (x ^^^ byte32 c)

theorem bit8_eq (x : BitVec 32) (c : UInt8) : bitN (byte32 c) 8 x = crcByte x c := by
  rw [bitN_eq, byte32_shift, BitVec.xor_zero]; rfl

/-- by the table -/
theorem tab_eq (x : BitVec 32) (c : UInt8) : (x >>> 8) ^^^ crcN 8 (lowByte (x ^^^ byte32 c)) = crcByte x c := by
  unfold crcByte
  rw [crc8_split (x ^^^ byte32 c), BitVec.ushiftRight_xor_distrib, byte32_shift, BitVec.xor_zero]

def crcL (l : List UInt8) : BitVec 32 := l.foldl crcByte 0xffffffff#32
theorem crcL_snoc (l : List UInt8) (c : UInt8) : crcL (l ++ [c]) = crcByte (crcL l) c := by simp [crcL]

/-- the sum as the programs hand it out -/
def crcNat (l : List UInt8) : Nat := (~~~ crcL l).toNat

/-! words of the walk -/
theorem bxor32 (x y : BitVec 32) : bits .xor .u32 (x.toNat : Int) (y.toNat : Int) = ((x ^^^ y).toNat : Int) := by
  rw [u32_xor_nat _ _ x.isLt y.isLt, BitVec.toNat_xor]
theorem band32 (x y : BitVec 32) : bits .and .u32 (x.toNat : Int) (y.toNat : Int) = ((x &&& y).toNat : Int) := by
  rw [u32_and_nat _ _ x.isLt y.isLt, BitVec.toNat_and]

theorem byte_shift (c : UInt8) (m : Nat) : (c.toNat : Int) / 2 ^ m % 4294967296 = ((byte32 c >>> m).toNat : Int) := by
  have hc := c.toNat_lt
  have h1 : c.toNat / 2 ^ m ≤ c.toNat := Nat.div_le_self _ _
  have e : (byte32 c >>> m).toNat = c.toNat / 2 ^ m := by
    simp only [byte32, BitVec.toNat_ushiftRight, BitVec.toNat_ofNat, Nat.shiftRight_eq_div_pow]
    rw [Nat.mod_eq_of_lt (by omega)]
  rw [e]
  have e2 : (c.toNat : Int) / 2 ^ m = ((c.toNat / 2 ^ m : Nat) : Int) := by
    rw [Int.natCast_ediv, Int.natCast_pow]; rfl
  rw [e2]
  omega

theorem lsb_test (y : BitVec 32) : (bits .and .u32 (y.toNat : Int) 1 == 1) = y.getLsbD 0 := by
  have h := band32 y 1#32
  rw [show (((1#32).toNat : Nat) : Int) = 1 by rfl] at h
  rw [h]
  have e : (y &&& 1#32).toNat = y.toNat % 2 := by
    rw [BitVec.toNat_and]; exact Nat.and_one_is_mod _
  rw [e]
  have e2 : y.getLsbD 0 = decide (y.toNat % 2 = 1) := by
    simp [BitVec.getLsbD, Nat.testBit_zero]
  rw [e2, Bool.eq_iff_iff, beq_iff_eq, decide_eq_true_eq]
  omega

theorem half32 (y : BitVec 32) : (y.toNat : Int) / (2 : Int) = ((y >>> 1).toNat : Int) := by
  rw [BitVec.toNat_ushiftRight, Nat.shiftRight_eq_div_pow]; omega

theorem poly32 (y : BitVec 32) : bits .xor .u32 ((y.toNat : Int) / (2 : Int)) 2197175160 = (((y >>> 1) ^^^ 0x82f63b78#32).toNat : Int) := by
  rw [half32]; exact bxor32 (y >>> 1) 0x82f63b78#32

theorem bitStep_true (b : BitVec 32) (k : Nat) (x : BitVec 32) (h : (x ^^^ (b >>> k)).getLsbD 0 = true) : bitStep b k x = (x >>> 1) ^^^ 0x82f63b78#32 := by
  unfold bitStep; rw [h]; rfl
theorem bitStep_false (b : BitVec 32) (k : Nat) (x : BitVec 32) (h : (x ^^^ (b >>> k)).getLsbD 0 = false) : bitStep b k x = x >>> 1 := by
  unfold bitStep; rw [h]; simp

theorem not32 (x : BitVec 32) : bits .xor .u32 IntKind.u32.max (x.toNat : Int) = ((~~~x).toNat : Int) := by
  have h := bxor32 (BitVec.allOnes 32) x
  rw [BitVec.allOnes_xor] at h
  exact h

/-- the table, as far as it is made -/
def tabV (j : Nat) : Value := .int .u32 ((crcN 8 (BitVec.ofNat 32 j)).toNat : Int)
def tabCells (i : Nat) : Array Value := Array.ofFn (n := 256) (fun j => if j.val < i then tabV j.val else .int .u32 0)
theorem tabCells_size (i : Nat) : (tabCells i).size = 256 := by simp [tabCells]
theorem tabCells_nil : tabCells 0 = Array.replicate 256 (.int .u32 0) := by
  apply Array.ext
  · simp [tabCells]
  · intro j h1 h2; simp [tabCells]
theorem tabCells_set (i : Nat) (v : Value) (hv : v = tabV i) : (tabCells i).setIfInBounds i v = tabCells (i + 1) := by
  subst hv
  apply Array.ext
  · simp [tabCells]
  · intro j h1 h2
    rw [Array.getElem_setIfInBounds]
    · simp only [tabCells, Array.getElem_ofFn]
      by_cases e : i = j
      · subst e; simp
      · rw [if_neg e]
        by_cases hj : j < i
        · rw [if_pos hj, if_pos (by omega)]
        · rw [if_neg hj, if_neg (by omega)]
    · simpa using h1
theorem tabCells_zero (i : Nat) (h : i < 256) : (tabCells i)[i]? = some (.int .u32 0) := by
  rw [Array.getElem?_eq_getElem (by rw [tabCells_size]; exact h)]
  simp [tabCells]
theorem tabCells_one (i : Nat) : (tabCells i).all (·.oneCell') = true := by
  rw [Array.all_eq_true]
  intro j hj
  simp only [tabCells, Array.getElem_ofFn]
  split <;> rfl
theorem tabCells_at (j : Nat) (h : j < 256) : (tabCells 256)[j]? = some (tabV j) := by
  rw [Array.getElem?_eq_getElem (by rw [tabCells_size]; exact h)]
  simp only [tabCells, Array.getElem_ofFn]
  rw [if_pos h]

theorem crc1_word (X : BitVec 32) : bits .xor .u32 ((X.toNat : Int) / (2 : Int)) (bits .and .u32 (-bits .and .u32 (X.toNat : Int) 1 % 4294967296) 2197175160) = ((crc1 X).toNat : Int) := by
  have h1 := band32 X 1#32
  rw [show (((1#32).toNat : Nat) : Int) = 1 by rfl] at h1
  have e : (X &&& 1#32).toNat = X.toNat % 2 := by
    rw [BitVec.toNat_and]; exact Nat.and_one_is_mod _
  rw [e] at h1
  rw [h1, half32]
  unfold crc1
  have e2 : X.getLsbD 0 = decide (X.toNat % 2 = 1) := by simp [BitVec.getLsbD, Nat.testBit_zero]
  rw [e2]
  rcases Nat.mod_two_eq_zero_or_one X.toNat with h | h
  · rw [h]
    have a := band32 0#32 0x82f63b78#32
    have b := bxor32 (X >>> 1) (0#32 &&& 0x82f63b78#32)
    rw [← a] at b
    exact b
  · rw [h]
    have a := band32 0xffffffff#32 0x82f63b78#32
    have b := bxor32 (X >>> 1) (0xffffffff#32 &&& 0x82f63b78#32)
    rw [← a] at b
    exact b

theorem low_word (x : BitVec 32) (c : UInt8) : bits .xor .u8 ((x.toNat : Int) % 256) (c.toNat : Int) = (((lowByte (x ^^^ byte32 c)).toNat : Nat) : Int) ∧ (lowByte (x ^^^ byte32 c)).toNat < 256 := by
  have hc := c.toNat_lt
  have e : (lowByte (x ^^^ byte32 c)).toNat = (x.toNat % 256) ^^^ c.toNat := by
    unfold lowByte byte32
    rw [BitVec.toNat_and, BitVec.toNat_xor, BitVec.toNat_ofNat, Nat.mod_eq_of_lt (show c.toNat < 2 ^ 32 by omega)]
    have : (255#32).toNat = 2 ^ 8 - 1 := by decide
    rw [this, Nat.and_two_pow_sub_one_eq_mod, Nat.xor_mod_two_pow]
    have h2 : c.toNat % 2 ^ 8 = c.toNat := Nat.mod_eq_of_lt (by omega)
    rw [h2]
  have hlt : (x.toNat % 256) ^^^ c.toNat < 256 := Nat.xor_lt_two_pow (n := 8) (by omega) (by omega)
  refine ⟨?_, by rw [e]; exact hlt⟩
  have h1 : ((x.toNat : Int) % 256) = ((x.toNat % 256 : Nat) : Int) := by omega
  rw [h1, u8_xor_nat _ _ (by omega) (by omega), e]

theorem tab_word (x : BitVec 32) (c : UInt8) : bits .xor .u32 ((x.toNat : Int) / (256 : Int)) ((crcN 8 (BitVec.ofNat 32 (lowByte (x ^^^ byte32 c)).toNat)).toNat : Int) = ((crcByte x c).toNat : Int) := by
  rw [BitVec.ofNat_toNat, BitVec.setWidth_eq]
  have h : (x.toNat : Int) / (256 : Int) = ((x >>> 8).toNat : Int) := by
    rw [BitVec.toNat_ushiftRight, Nat.shiftRight_eq_div_pow]; omega
  rw [h, bxor32, tab_eq]
end Go.Proofs.Ytobngncjflogcaa
