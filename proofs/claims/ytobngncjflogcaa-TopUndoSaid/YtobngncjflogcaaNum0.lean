/-
  Plain mathematics of package num: numbers as bytes, seven bits each, the lowest first.
-/
import Derived.WalkKit
import Derived.Lib.Strings
import Derived.Laws.Bits128
import Derived.Laws.BitsAllLaws
set_option linter.unusedSimpArgs false
set_option linter.unusedVariables false
namespace Go.Proofs.Ytobngncjflogcaa
open Go.RowKit

def bt (n : Nat) : UInt8 := UInt8.ofNat n
theorem bt_toNat (n : Nat) (h : n < 256) : (bt n).toNat = n := by
  unfold bt; rw [UInt8.toNat_ofNat']; omega

/-- a number as bytes (fuel: five bytes hold what may be) -/
def numF : Nat → Nat → List UInt8
  | 0, _ => []
  | f + 1, n => if n < 128 then [bt n] else bt (128 + n % 128) :: numF f (n / 128)
def numL (n : Nat) : List UInt8 := numF 5 n

theorem numF_small (f n : Nat) (h : n < 128) : numF (f + 1) n = [bt n] := by simp [numF, h]
theorem numF_large (f n : Nat) (h : ¬ n < 128) : numF (f + 1) n = bt (128 + n % 128) :: numF f (n / 128) := by simp [numF, h]

theorem numF_len (f n : Nat) : (numF f n).length ≤ f := by
  induction f generalizing n with
  | zero => simp [numF]
  | succ f ih =>
    unfold numF
    split
    · simp
    · have := ih (n / 128); simp; omega

/-- what bytes say -/
def val : List UInt8 → Nat
  | [] => 0
  | b :: r => b.toNat % 128 + 128 * val r
def hi (b : UInt8) : Bool := 128 ≤ b.toNat
/-- how many bytes go on -/
def lead (l : List UInt8) : Nat := (l.takeWhile hi).length

theorem lead_le (l : List UInt8) : lead l ≤ l.length := (List.takeWhile_sublist _).length_le
theorem lead_cons_hi (b : UInt8) (r : List UInt8) (h : 128 ≤ b.toNat) : lead (b :: r) = lead r + 1 := by
  have : hi b = true := by simp [hi, h]
  simp [lead, List.takeWhile_cons, this]
theorem lead_cons_lo (b : UInt8) (r : List UInt8) (h : b.toNat < 128) : lead (b :: r) = 0 := by
  have : hi b = false := by simp [hi]; omega
  simp [lead, List.takeWhile_cons, this]

/-- P17: what is read: the number, how many bytes, the error -/
def getS (l : List UInt8) : Int × Int × Int :=
  if 5 ≤ lead l then (0, 0, 3)
  else if lead l = l.length then (0, 0, 5)
  else if 2147483647 < val (l.take (lead l + 1)) ∨ (0 < lead l ∧ l[lead l]? = some 0) then (0, 0, 3)
  else (val (l.take (lead l + 1)), lead l + 1, 0)

/-- all bytes go on, but the last -/
inductive Word : List UInt8 → Prop
  | one (b : UInt8) : b.toNat < 128 → Word [b]
  | more (b : UInt8) (r : List UInt8) : 128 ≤ b.toNat → Word r → Word (b :: r)

theorem word_take : ∀ (l : List UInt8), lead l < l.length → Word (l.take (lead l + 1))
  | [], h => by simp at h
  | b :: r, h => by
    by_cases hb : 128 ≤ b.toNat
    · rw [lead_cons_hi b r hb] at h ⊢
      exact .more b _ hb (word_take r (by simp at h; omega))
    · rw [lead_cons_lo b r (by omega)]
      simpa using Word.one b (by omega)

theorem val_pos_of_word {l : List UInt8} (h : Word l) (hl : l.getLast? ≠ some 0) : 0 < val l := by
  induction h with
  | one b hb =>
    have : b ≠ 0 := fun e => hl (by simp [e])
    have : b.toNat ≠ 0 := fun e => this (UInt8.toNat_inj.1 (by simpa using e))
    simp [val]; omega
  | more b r hb hr ih =>
    have hr' : r ≠ [] := by cases hr <;> simp
    have := ih (by rwa [List.getLast?_cons_of_ne_nil hr'] at hl)
    simp [val]; omega

/-- a word is the number's own bytes just if its last byte is not 0, or it is alone -/
theorem num_of_word (f : Nat) : ∀ {l : List UInt8}, Word l → l.length ≤ f → (numF f (val l) = l ↔ (l.length = 1 ∨ l.getLast? ≠ some 0)) := by
  induction f with
  | zero => intro l h hl; cases h <;> simp at hl
  | succ f ih =>
    intro l h hl
    cases h with
    | one b hb =>
      have : val [b] = b.toNat := by simp [val]; omega
      rw [this, numF_small f _ hb]
      simp [bt, UInt8.ofNat_toNat]
    | more b r hb hr =>
      have hr' : r ≠ [] := by cases hr <;> simp
      have hlen : 1 ≤ r.length := by cases hr <;> simp
      have hb2 := b.toNat_lt
      rw [List.getLast?_cons_of_ne_nil hr']
      simp at hl
      have h1 : val (b :: r) / 128 = val r := by simp [val]; omega
      have h2 : 128 + val (b :: r) % 128 = b.toNat := by simp [val]; omega
      have hbt : bt (128 + val (b :: r) % 128) = b := by rw [h2]; simp [bt, UInt8.ofNat_toNat]
      constructor
      · intro e
        right
        intro hz
        by_cases hs : val (b :: r) < 128
        · rw [numF_small f _ hs] at e
          injection e with e1 e2
          exact hr' e2.symm
        · rw [numF_large f _ hs, h1] at e
          injection e with e1 e2
          rcases (ih hr hl).1 e2 with h3 | h3
          · match r, h3, hz with
            | [c], _, hz =>
              simp at hz
              subst hz
              simp [val] at hs
              omega
          · exact h3 hz
      · rintro (h3 | h3)
        · simp at h3; exact absurd h3 hr'
        · have hp := val_pos_of_word hr h3
          have hs : ¬ val (b :: r) < 128 := by have e : val (b :: r) = b.toNat % 128 + 128 * val r := rfl; omega
          rw [numF_large f _ hs, h1, hbt, (ih hr hl).2 (.inr h3)]

theorem val_snoc (l : List UInt8) (b : UInt8) : val (l ++ [b]) = val l + b.toNat % 128 * 128 ^ l.length := by
  induction l with
  | nil => simp [val]
  | cons c r ih =>
    simp only [List.cons_append, val, ih, List.length_cons, Nat.pow_succ]
    rw [Nat.mul_add, Nat.mul_comm (128 ^ r.length) 128, ← Nat.mul_assoc, ← Nat.mul_assoc, Nat.mul_comm 128 (b.toNat % 128)]
    omega

theorem val_lt (l : List UInt8) : val l < 128 ^ l.length := by
  induction l with
  | nil => simp [val]
  | cons c r ih => simp only [val, List.length_cons, Nat.pow_succ]; omega

/-- the bit word of a round of Get -/
theorem or_join (n x : Int) (i : Nat) (hi : i ≤ 4) (hn0 : 0 ≤ n) (hn1 : n < 128 ^ i) (hx0 : 0 ≤ x) (hx1 : x < 128) : bits .or .i64 n (x * 128 ^ i) = n + x * 128 ^ i := by
  have hc : bits .or .i64 n (x * 128 ^ i) = bits .or .i64 (x * 128 ^ i) n := by simp only [bits, BitVec.or_comm]
  have e : (128 : Int) ^ i = 2 ^ (7 * i) := by rw [Int.pow_mul]; rfl
  have wraps : ∀ n : Int, 0 ≤ n → n < 2 ^ 62 → IntKind.i64.wrap n = n := fun n h0 h1 => by rw [IntKind.wrap_i64]; omega
  have hp : (128 : Int) ^ i ≤ 268435456 := by
    have h : 128 ^ i ≤ 128 ^ 4 := Nat.pow_le_pow_right (by decide) hi
    have h2 : ((128 ^ i : Nat) : Int) ≤ 268435456 := by omega
    rwa [Int.natCast_pow] at h2
  have hp0 : (0 : Int) < 128 ^ i := Int.pow_pos (by decide)
  have hx : x * 128 ^ i ≤ 127 * 128 ^ i := Int.mul_le_mul_of_nonneg_right (by omega) (by omega)
  have hxn : 0 ≤ x * 128 ^ i := Int.mul_nonneg hx0 (by omega)
  rw [hc, bits_join .i64 62 (by decide) wraps (7 * i) (x * 128 ^ i) n hxn (by rw [e]; exact Int.mul_emod_left _ _) (by omega) hn0 (by rw [← e]; exact hn1) (by omega)]
  omega

theorem or128_nat : ∀ a : Nat, a < 256 → a ||| 128 = 128 + a % 128 := by decide +kernel
theorem or128 (m : Nat) : bits .or .u8 ((m : Int) % 256) 128 = 128 + (m : Int) % 128 := by
  have h1 : ((m : Int) % 256) = ((m % 256 : Nat) : Int) := by omega
  have h2 := u8_or_nat (m % 256) 128 (by omega) (by omega)
  rw [h1]
  refine h2.trans ?_
  rw [or128_nat _ (by omega)]
  omega

/-- the cells of a slice of bytes -/
def byteVals (l : List UInt8) : List Value := l.map (fun b => .int .u8 b.toNat)
theorem byteVals_len (l : List UInt8) : (byteVals l).length = l.length := by simp [byteVals]
theorem byteVals_snoc (l : List UInt8) (b : UInt8) : byteVals (l ++ [b]) = byteVals l ++ [.int .u8 b.toNat] := by simp [byteVals]

theorem lead_ge : ∀ (l : List UInt8) (k : Nat), k ≤ l.length → (∀ j (h : j < l.length), j < k → 128 ≤ l[j].toNat) → k ≤ lead l
  | _, 0, _, _ => Nat.zero_le _
  | [], k + 1, h, _ => by simp at h
  | b :: r, k + 1, h, H => by
    have hb : 128 ≤ b.toNat := H 0 (by simp) (by omega)
    rw [lead_cons_hi b r hb]
    have := lead_ge r k (by simpa using h) (fun j hj hjk => H (j + 1) (by simp; omega) (by omega))
    omega

theorem lead_at_list : ∀ (l : List UInt8) (k : Nat) (h : k < l.length), (∀ j (h : j < l.length), j < k → 128 ≤ l[j].toNat) → l[k].toNat < 128 → lead l = k
  | [], k, h, _, _ => by simp at h
  | b :: r, 0, _, _, hb => lead_cons_lo b r (by simpa using hb)
  | b :: r, k + 1, h, H, hb => by
    have hb0 : 128 ≤ b.toNat := H 0 (by simp) (by omega)
    rw [lead_cons_hi b r hb0, lead_at_list r k (by simpa using h) (fun j hj hjk => H (j + 1) (by simp; omega) (by omega)) (by simpa using hb)]

def HiTo (s : ByteArray) (k : Nat) : Prop := ∀ j (h : j < s.size), j < k → 128 ≤ s[j].toNat
theorem HiTo.list {s : ByteArray} {k : Nat} (H : HiTo s k) : ∀ j (h : j < s.data.toList.length), j < k → 128 ≤ (s.data.toList)[j].toNat := fun j h hj => by
  have := H j (by simpa using h) hj
  rw [Array.getElem_toList]; exact this
theorem HiTo.snoc {s : ByteArray} {k : Nat} (H : HiTo s k) (h : k < s.size) (hb : 128 ≤ s[k].toNat) : HiTo s (k + 1) := fun j hj hjk => by
  by_cases e : j = k
  · subst e; exact hb
  · exact H j hj (by omega)
theorem lead_at (s : ByteArray) (k : Nat) (h : k < s.size) (H : HiTo s k) (hb : s[k].toNat < 128) : lead s.data.toList = k :=
  lead_at_list _ k (by simpa using h) H.list (by rw [Array.getElem_toList]; exact hb)
theorem len_data (s : ByteArray) : s.data.toList.length = s.size := by simp
theorem lead_end (s : ByteArray) (H : HiTo s s.size) : lead s.data.toList = s.size :=
  Nat.le_antisymm (by rw [← len_data]; exact lead_le _) (lead_ge _ _ (by simp) H.list)
theorem lead_five (s : ByteArray) (h : 4 < s.size) (H : HiTo s 5) : 5 ≤ lead s.data.toList := lead_ge _ _ (by simp; omega) H.list
theorem data_at (s : ByteArray) (k : Nat) (h : k < s.size) : s.data.toList[k]? = some s[k] := by
  rw [List.getElem?_eq_getElem (by simpa using h)]; simp; rfl

/-- what Get answers, case by case -/
theorem getS_ok (s : ByteArray) (k : Nat) (h : k < s.size) (hk : k ≤ 4) (H : HiTo s k) (hb : s[k].toNat < 128) (hz : s[k].toNat ≠ 0 ∨ k = 0) (hv : val (s.data.toList.take (k + 1)) ≤ 2147483647) :
    getS s.data.toList = ((val (s.data.toList.take (k + 1)) : Int), (k : Int) + 1, 0) := by
  unfold getS
  rw [lead_at s k h H hb, len_data, if_neg (by omega), if_neg (by omega), if_neg]
  rw [data_at s k h]
  rintro (h1 | ⟨h1, h2⟩)
  · omega
  · have : s[k].toNat = 0 := by injection h2 with h2; rw [h2]; rfl
    omega
theorem getS_zero (s : ByteArray) (k : Nat) (h : k < s.size) (hk : k ≤ 4) (H : HiTo s k) (hb : s[k].toNat = 0) (hz : k ≠ 0) : getS s.data.toList = (0, 0, 3) := by
  unfold getS
  rw [lead_at s k h H (by omega), len_data, if_neg (by omega), if_neg (by omega), if_pos]
  rw [data_at s k h]
  exact .inr ⟨by omega, congrArg some (UInt8.toNat_inj.1 hb)⟩
theorem getS_big (s : ByteArray) (k : Nat) (h : k < s.size) (hk : k ≤ 4) (H : HiTo s k) (hb : s[k].toNat < 128) (hv : 2147483647 < val (s.data.toList.take (k + 1))) : getS s.data.toList = (0, 0, 3) := by
  unfold getS
  rw [lead_at s k h H hb, len_data, if_neg (by omega), if_neg (by omega), if_pos (.inl hv)]
theorem getS_five (s : ByteArray) (h : 4 < s.size) (H : HiTo s 5) : getS s.data.toList = (0, 0, 3) := by
  unfold getS
  rw [if_pos (lead_five s h H)]
theorem getS_short (s : ByteArray) (h : s.size ≤ 4) (H : HiTo s s.size) : getS s.data.toList = (0, 0, 5) := by
  unfold getS
  rw [lead_end s H, len_data, if_neg (by omega), if_pos rfl]

/-- the number after a round -/
theorem get_word (s : ByteArray) (k : Nat) (h : k < s.size) (hk : k ≤ 4) :
    bits .or .i64 (val (s.data.toList.take k) : Int) (wrap64 ((s[k].toNat : Int) % 128 * 2 ^ (7 * k))) = (val (s.data.toList.take (k + 1)) : Int) := by
  have hl : (s.data.toList.take k).length = k := by simp; omega
  have e : s.data.toList.take (k + 1) = s.data.toList.take k ++ [s[k]] := by
    rw [List.take_succ_eq_append_getElem (by simpa using h)]; rfl
  have hv := val_lt (s.data.toList.take k)
  rw [hl] at hv
  rw [e, val_snoc, hl]
  have ep : (2 : Int) ^ (7 * k) = 128 ^ k := by rw [Int.pow_mul]; rfl
  have hp : (128 : Int) ^ k ≤ 268435456 := by
    have h : 128 ^ k ≤ 128 ^ 4 := Nat.pow_le_pow_right (by decide) hk
    have h2 : ((128 ^ k : Nat) : Int) ≤ 268435456 := by omega
    rwa [Int.natCast_pow] at h2
  have hp0 : (0 : Int) < 128 ^ k := Int.pow_pos (by decide)
  have hx : (s[k].toNat : Int) % 128 * 128 ^ k ≤ 127 * 128 ^ k := Int.mul_le_mul_of_nonneg_right (by omega) (by omega)
  have hx0 : 0 ≤ (s[k].toNat : Int) % 128 * 128 ^ k := Int.mul_nonneg (by omega) (by omega)
  have hv2 : (val (s.data.toList.take k) : Int) < 128 ^ k := by
    have : ((val (s.data.toList.take k) : Nat) : Int) < ((128 ^ k : Nat) : Int) := by omega
    rwa [Int.natCast_pow] at this
  rw [ep, IntWalk.wrap64_in _ ⟨by omega, by omega⟩, or_join _ _ k hk (by omega) hv2 (by omega) (by omega)]
  rw [Int.natCast_add, Int.natCast_mul, Int.natCast_pow]
  rfl

theorem take_snoc' (s : ByteArray) (k : Nat) (h : k < s.size) : s.data.toList.take (k + 1) = s.data.toList.take k ++ [s[k]] := by
  rw [List.take_succ_eq_append_getElem (by simpa using h)]; rfl
theorem unnum_eq (s : ByteArray) (k : Nat) (h : k < s.size) (hk : k ≤ 4) (H : HiTo s k) (hb : s[k].toNat < 128) :
    numF 5 (val (s.data.toList.take (k + 1))) = s.data.toList.take (k + 1) ↔ (k = 0 ∨ s[k].toNat ≠ 0) := by
  have hl := lead_at s k h H hb
  have hw := word_take s.data.toList (by rw [hl]; simpa using h)
  rw [hl] at hw
  rw [num_of_word 5 hw (by simp; omega)]
  have e1 : (s.data.toList.take (k + 1)).length = k + 1 := by simp; omega
  rw [e1, take_snoc' s k h]
  simp only [List.getLast?_append, List.getLast?_singleton, Option.some_or, ne_eq, Option.some.injEq]
  constructor
  · rintro (h1 | h1)
    · left; omega
    · right; intro e; exact h1 (UInt8.toNat_inj.1 e)
  · rintro (h1 | h1)
    · left; omega
    · right; intro e; rw [e] at h1; exact h1 rfl

theorem ext_take (s : ByteArray) (k : Nat) : (s.extract 0 k).toList = s.data.toList.take k := by
  rw [Lib.toList_data, Lib.extract_data]
  simp

/-- the number read from the last byte back -/
def valFrom (s : ByteArray) (k i : Nat) : Nat := val ((s.data.toList.take (k + 1)).drop i)
theorem valFrom_end (s : ByteArray) (k : Nat) (h : k < s.size) : valFrom s k (k + 1) = 0 := by
  unfold valFrom
  rw [List.drop_eq_nil_of_le (by simp; omega)]; rfl
theorem valFrom_step (s : ByteArray) (k i : Nat) (h : k < s.size) (hi : i ≤ k) : valFrom s k i = valFrom s k (i + 1) * 128 + (s[i]'(by omega)).toNat % 128 := by
  unfold valFrom
  rw [List.drop_eq_getElem_cons (by simp; omega)]
  have e : (s.data.toList.take (k + 1))[i]'(by simp; omega) = s[i]'(by omega) := by
    rw [List.getElem_take, Array.getElem_toList]; rfl
  simp only [val, e]
  omega
theorem valFrom_lt (s : ByteArray) (k i : Nat) (hk : k ≤ 4) : valFrom s k i < 34359738368 := by
  have h1 := val_lt ((s.data.toList.take (k + 1)).drop i)
  have h2 : ((s.data.toList.take (k + 1)).drop i).length ≤ 5 := by simp; omega
  have h3 := Nat.pow_le_pow_right (show 0 < 128 by decide) h2
  unfold valFrom
  omega
end Go.Proofs.Ytobngncjflogcaa
