/-
  Sums of bytes and what is found: hash.Of, hash.power, hash.Find, the document's Finds, and the law HashFinds (of what is not too large).
-/
import Derived.Test.YtlomnjlfmbolkaaMU
import Derived.Test.YtlomnjlfmbolkaaMInts
import Derived.Test.YtlomnjlfmbolkaaHash0
import Derived.Test.YtlomnjlfmbolkaaHash2
set_option linter.unusedVariables false
set_option linter.unusedSimpArgs false
namespace Go.Proofs.Ytlomnjlfmbolkaa.AM
open Go Go.RowKit
set_option maxRecDepth 100000
set_option maxHeartbeats 2000000
/-! the plain law -/
theorem hash_one (c : UInt8) : hashL [c] = (c.toNat : Int) + 1 := by
  have := c.toNat_lt
  show ((0 : Int) * 257 + c.toNat + 1) % 2147483647 = _
  omega
theorem hash_alg (x y z c : Int) : ((x * 257 + c) % 2147483647 * y + z) % 2147483647 = (x * (y * 257 % 2147483647) + (c * y + z) % 2147483647) % 2147483647 := by
  have e1 : ((x * 257 + c) % 2147483647 * y + z) % 2147483647 = ((x * 257 + c) * y + z) % 2147483647 := by
    rw [Int.add_emod, Int.mul_emod, Int.emod_emod, ← Int.mul_emod, ← Int.add_emod]
  have e2 : (x * (y * 257 % 2147483647) + (c * y + z) % 2147483647) % 2147483647 = (x * (y * 257) + (c * y + z)) % 2147483647 := by
    rw [Int.add_emod, Int.mul_emod, Int.emod_emod, ← Int.mul_emod, Int.emod_emod, ← Int.add_emod]
  rw [e1, e2]
  congr 1
  rw [Int.add_mul, Int.mul_assoc, Int.mul_comm 257 y]; omega
theorem hashL_app : ∀ (b a : List UInt8), hashL (a ++ b) = (hashL a * pwr b.length + hashL b) % 2147483647
  | [], a => by
    have := hashL_bd a
    have h1 : pwr ([] : List UInt8).length = 1 := by decide
    have h2 : hashL [] = 0 := rfl
    rw [List.append_nil, h1, h2]
    omega
  | c :: b, a => by
    have h1 := hashL_app b (a ++ [c])
    have h2 := hashL_app b [c]
    rw [List.append_assoc, hashL_snoc] at h1
    rw [hash_one] at h2
    rw [List.singleton_append] at h1 h2
    rw [h1, h2, List.length_cons, pwr_succ, Int.add_assoc]
    exact hash_alg _ _ _ _
theorem hashL_cons (c : UInt8) (l : List UInt8) : hashL (c :: l) = (((c.toNat : Int) + 1) * pwr l.length + hashL l) % 2147483647 := by
  have h := hashL_app l [c]
  rw [hash_one] at h
  exact h
/-- one step of the window -/
theorem roll (c : UInt8) (l : List UInt8) (d : UInt8) : (((hashL (c :: l) - ((c.toNat : Int) + 1) * pwr l.length % 2147483647 + 2147483647) % 2147483647) * 257 + (d.toNat : Int) + 1) % 2147483647 = hashL (l ++ [d]) := by
  have h := hashL_cons c l
  have hb := hashL_bd l
  rw [hashL_snoc, h]
  generalize ((c.toNat : Int) + 1) * pwr l.length = x
  have : ((x + hashL l) % 2147483647 - x % 2147483647 + 2147483647) % 2147483647 = hashL l := by omega
  rw [this]
def isAt (s t : List UInt8) (i : Nat) : Bool := decide ((s.drop i).take t.length = t)
def posF (s t : List UInt8) (k : Nat) : List Int := ((List.range k).filter (isAt s t)).map fun (i : Nat) => (i : Int)
theorem posF_succ (s t : List UInt8) (k : Nat) : posF s t (k + 1) = if isAt s t k = true then posF s t k ++ [(k : Int)] else posF s t k := by
  unfold posF
  rw [List.range_succ, List.filter_append, List.map_append]
  by_cases h : isAt s t k = true
  · rw [if_pos h]; simp [h]
  · rw [if_neg h]; simp [h]
theorem isAt_len {s t : List UInt8} {i : Nat} (h : isAt s t i = true) : t.length ≤ s.length - i := by
  have := congrArg List.length (of_decide_eq_true h)
  rw [List.length_take, List.length_drop] at this
  omega
theorem posF_end {s t : List UInt8} (ht : t ≠ []) {k : Nat} (hk : k ≤ s.length) : ∀ d : Nat, s.length < k + t.length → posF s t (k + d) = posF s t k
  | 0, _ => rfl
  | d + 1, h => by
    have : 0 < t.length := List.length_pos_iff.2 ht
    rw [show k + (d + 1) = (k + d) + 1 by omega, posF_succ, if_neg (fun g => by have := isAt_len g; omega), posF_end ht hk d h]
theorem posF_len (s t : List UInt8) (k : Nat) : (posF s t k).length ≤ k := by
  unfold posF
  rw [List.length_map]
  exact Nat.le_trans (List.length_filter_le _ _) (by simp)
def findF (s t : List UInt8) : List Int × Int := if t = [] then ([], 1) else (posF s t s.length, 0)
section
variable {P : Prim} (hP : P = std)
include hP
theorem mul_eq (a b : Int) : P.mul a b = a * b := by subst hP; rfl
theorem mod_eq (a b : Int) : P.mod a b = a % b := by subst hP; rfl
theorem sat_eq (s : List UInt8) (k : Nat) : P.sat s (k : Int) = ((s.getD k 0).toNat : Int) := by subst hP; rfl
theorem wr64 {n : Int} (h : 0 ≤ n ∧ n ≤ 255) : P.wrap .i64 n = n := by
  subst hP
  show IntKind.i64.wrap n = n
  exact wrap_id (by have : IntKind.i64.min = -9223372036854775808 := rfl
                    omega) (by have : IntKind.i64.max = 9223372036854775807 := rfl
                               omega)
theorem and1 (n : Int) : P.band .i64 n 1 = n % 2 := by subst hP; exact bits_and1 n
theorem ssub_n (s : List UInt8) (i n : Nat) (h : i + n ≤ s.length) : P.ssub s (i : Int) ((i + n : Nat) : Int) = (s.drop i).take n := by
  subst hP
  show (s.take (i + n)).drop i = _
  rw [List.drop_take]; congr 1; omega
end
/-! Of -/
def ac_hof : AC := .seq (.region false [
    ⟨some 2, none, .mov (.c (.int .i64 0))⟩])
  (.seq (.region false [
    ⟨some 3, none, .mov (.c (.int .i64 0))⟩])
  (.seq (.seq (.region false [
    ⟨some 5, none, .mov (.t 0)⟩,
    ⟨some 6, none, .len true (.t 5)⟩,
    ⟨some 7, none, .mov (.c (.int .i64 0))⟩])
  (.block 0 (.loop (.seq (.region false [
      ⟨some 8, none, .bin .lss (.t 7) (.t 6)⟩])
    (.seq (.cond (.t 8)
      (.skip)
      (.exit 0))
    (.seq (.block 1 (.seq (.region false [
      ⟨some 9, none, .mov (.t 7)⟩,
      ⟨some 4, none, .mov (.t 9)⟩])
    (.region false [
      ⟨some 10, none, .mov (.t 3)⟩,
      ⟨some 11, none, .bin .mul (.t 10) (.c (.int .i64 257))⟩,
      ⟨some 12, none, .mov (.t 0)⟩,
      ⟨some 13, none, .mov (.t 4)⟩,
      ⟨some 14, none, .ixs (.t 12) (.t 13)⟩,
      ⟨some 15, none, .conv .i64 (.t 14)⟩,
      ⟨some 16, none, .bin .add (.t 11) (.t 15)⟩,
      ⟨some 17, none, .bin .add (.t 16) (.c (.int .i64 1))⟩,
      ⟨some 18, none, .bin .rem (.t 17) (.c (.int .i64 2147483647))⟩,
      ⟨some 3, none, .mov (.t 18)⟩])))
    (.region false [
      ⟨some 19, none, .bin .add (.t 7) (.c (.int .i64 1))⟩,
      ⟨some 7, none, .mov (.t 19)⟩])))))))
  (.seq (.region false [
    ⟨some 20, none, .mov (.t 3)⟩,
    ⟨some 2, none, .mov (.t 20)⟩])
  (.ret))))
theorem ok_hof : FnOk Try.prog 54 Try.f54 ac_hof [.t 2] 1 drawD := ⟨Try.func54, by decide +kernel, by kernel_rfl, by kernel_rfl, by decide +kernel⟩
structure YHo (s : List UInt8) where
  m : Nat
  k : Int
  h : Int
  hm : m ≤ s.length
  hk : k = (m : Int)
  hh : h = hashL (s.take m)
theorem vc_hof (P : Prim) (hP : P = std) (T T1 : CallT) (s : List UInt8) (hs : s.length ≤ 1048576)
    (R : S → Prop) (hR : ∀ s0 s' x, x = hashL s → Ent s0 s' → Ret [.t 2] [.int .i64 x] s' → R s0) : awp P T T1 ac_hof (S0 [.str s] Hp.emp) R (fun _ _ => False) R := by
  have hsp : P.slen s = (s.length : Int) := slen_eq hP s
  cbv
  refine ⟨YHo s, fun y => [(0, .str s), (3, .int .i64 y.h), (6, .int .i64 (P.slen s)), (7, .int .i64 y.k)], fun y => [], fun y => s.length - y.m,
    ⟨_, Ent.refl _, ⟨0, 0, 0, by omega, rfl, rfl⟩, ⟨rfl, rfl, rfl, rfl, trivial⟩, trivial⟩, ?_⟩
  rintro ⟨m, k, h, hm, hk, hh⟩
  cbv
  refine br_cases (fun g => ?_) (fun g => ?_)
  · have h6 : k < P.slen s := lt_t hP g
    rw [hsp] at h6
    have hm2 : m < s.length := by ((try simp only [nc] at *); omega)
    have k1 : P.leP 0 k := le0 hP (by ((try simp only [nc] at *); omega))
    have k2 : P.ltP k (P.slen s) := ltI hP (by rw [hsp]; exact h6)
    have k3 : P.i64 (P.add k 1) := by rw [add_eq hP]; exact i64I hP (by ((try simp only [nc] at *); omega))
    have k4 : P.add k 1 = ((m + 1 : Nat) : Int) := by rw [add_eq hP, hk]; ((try simp only [nc] at *); omega)
    have c1 : P.sat s k = ((s.getD m 0).toNat : Int) := by rw [hk]; exact sat_eq hP s m
    have c2 := (s.getD m 0).toNat_lt
    have c3 : P.wrap .i64 (P.sat s k) = ((s.getD m 0).toNat : Int) := by rw [c1]; exact wr64 hP (by ((try simp only [nc] at *); omega))
    have hb := hashL_bd (s.take m)
    rw [← hh] at hb
    have d1 : P.mul h 257 = h * 257 := mul_eq hP _ _
    have d2 : P.i64 (P.mul h 257) := by rw [d1]; exact i64I hP (by omega)
    have d3 : P.add (P.mul h 257) (P.wrap .i64 (P.sat s k)) = h * 257 + ((s.getD m 0).toNat : Int) := by rw [add_eq hP, d1, c3]
    have d4 : P.i64 (P.add (P.mul h 257) (P.wrap .i64 (P.sat s k))) := by rw [d3]; exact i64I hP (by ((try simp only [nc] at *); omega))
    have d5 : P.add (P.add (P.mul h 257) (P.wrap .i64 (P.sat s k))) 1 = h * 257 + ((s.getD m 0).toNat : Int) + 1 := by rw [add_eq hP, d3]
    have d6 : P.i64 (P.add (P.add (P.mul h 257) (P.wrap .i64 (P.sat s k))) 1) := by rw [d5]; exact i64I hP (by ((try simp only [nc] at *); omega))
    have d7 : P.leP 0 (P.add (P.add (P.mul h 257) (P.wrap .i64 (P.sat s k))) 1) := le0 hP (by rw [d5]; ((try simp only [nc] at *); omega))
    have d8 : P.ltP 0 2147483647 := ltI hP (by decide)
    have d9 : P.mod (P.add (P.add (P.mul h 257) (P.wrap .i64 (P.sat s k))) 1) 2147483647 = hashL (s.take (m + 1)) := by
      rw [mod_eq hP, d5, hh, List.take_succ_eq_append_getElem hm2, hashL_snoc]
      congr 4
      rw [List.getD_eq_getElem?_getD, List.getElem?_eq_getElem hm2]; rfl
    cbv
    repeat' (first
      | (refine And.intro (by assumption) ?_; try cbv)
      | (intro β; try cbv))
    exact ⟨_, Ent.refl _, ⟨m + 1, _, _, hm2, k4, d9⟩, ⟨rfl, rfl, rfl, rfl, trivial⟩, trivial, by show s.length - (m + 1) < s.length - m; omega⟩
  · have h6 : ¬ k < P.slen s := lt_f hP g
    rw [hsp] at h6
    have : m = s.length := by ((try simp only [nc] at *); omega)
    cbv
    exact hR _ _ _ (by rw [hh, this, List.take_length]) (Ent.refl _) rfl
theorem sp_hof (s : List UInt8) (hs : s.length ≤ 1048576) : Spec Try.prog 54 [.str s] Hp.emp (Is (.int .i64 (hashL s))) :=
  spec_pure dOk ok_hof [.int .i64 (hashL s)] (.int _ _) fun R hR => vc_hof std rfl _ _ s hs R fun s s' b h he hr => by subst h; exact hR s s' he hr
/-! power -/
def ac_pow : AC := .seq (.region false [
    ⟨some 2, none, .mov (.c (.int .i64 0))⟩])
  (.seq (.region false [
    ⟨some 3, none, .mov (.c (.int .i64 1))⟩,
    ⟨some 4, none, .mov (.c (.int .i64 257))⟩])
  (.seq (.block 0 (.loop (.seq (.seq (.region false [
      ⟨some 5, none, .mov (.t 0)⟩,
      ⟨some 6, none, .bin .gtr (.t 5) (.c (.int .i64 0))⟩])
    (.cond (.t 6)
      (.skip)
      (.exit 0)))
    (.block 1 (.seq (.seq (.region false [
      ⟨some 7, none, .mov (.t 0)⟩,
      ⟨some 8, none, .bin .and (.t 7) (.c (.int .i64 1))⟩,
      ⟨some 9, none, .bin .eql (.t 8) (.c (.int .i64 1))⟩])
    (.cond (.t 9)
      (.region false [
        ⟨some 10, none, .mov (.t 3)⟩,
        ⟨some 11, none, .mov (.t 4)⟩,
        ⟨some 12, none, .bin .mul (.t 10) (.t 11)⟩,
        ⟨some 13, none, .bin .rem (.t 12) (.c (.int .i64 2147483647))⟩,
        ⟨some 3, none, .mov (.t 13)⟩])
      (.skip)))
    (.seq (.region false [
      ⟨some 14, none, .mov (.t 4)⟩,
      ⟨some 15, none, .mov (.t 4)⟩,
      ⟨some 16, none, .bin .mul (.t 14) (.t 15)⟩,
      ⟨some 17, none, .bin .rem (.t 16) (.c (.int .i64 2147483647))⟩,
      ⟨some 4, none, .mov (.t 17)⟩])
    (.region false [
      ⟨some 18, none, .mov (.t 0)⟩,
      ⟨some 19, none, .bin .shr (.t 18) (.c (.int .u64 1))⟩,
      ⟨some 0, none, .mov (.t 19)⟩])))))))
  (.seq (.region false [
    ⟨some 20, none, .mov (.t 3)⟩,
    ⟨some 2, none, .mov (.t 20)⟩])
  (.ret))))
theorem ok_pow : FnOk Try.prog 55 Try.f55 ac_pow [.t 2] 1 drawD := ⟨Try.func55, by decide +kernel, by kernel_rfl, by kernel_rfl, by decide +kernel⟩
structure YPw (N : Nat) where
  m : Nat
  n : Int
  o : Int
  b : Int
  hm : m ≤ 2147483647
  hn : n = (m : Int)
  ho : 0 ≤ o ∧ o < 2147483647
  hb : 0 ≤ b ∧ b < 2147483647
  hi : o * b ^ m % 2147483647 = pwr N
theorem vc_pow (P : Prim) (hP : P = std) (T T1 : CallT) (N : Nat) (hN : N ≤ 2147483647)
    (R : S → Prop) (hR : ∀ s0 s' x, x = pwr N → Ent s0 s' → Ret [.t 2] [.int .i64 x] s' → R s0) : awp P T T1 ac_pow (S0 [.int .i64 (N : Int)] Hp.emp) R (fun _ _ => False) R := by
  cbv
  refine ⟨YPw N, fun y => [(0, .int .i64 y.n), (3, .int .i64 y.o), (4, .int .i64 y.b)], fun y => [], fun y => y.m,
    ⟨_, Ent.refl _, ⟨N, N, 1, 257, hN, rfl, by decide, by decide, by simp [pwr]⟩, ⟨rfl, rfl, rfl, trivial⟩, trivial⟩, ?_⟩
  rintro ⟨m, n, o, b, hm, hn, ho, hb, hi⟩
  cbv
  refine br_cases (fun g => ?_) (fun g => ?_)
  · have h6 : 0 < n := lt_t hP g
    have hb2 := mul_bd hb.1 hb.2 hb.1 hb.2
    have ho2 := mul_bd ho.1 ho.2 hb.1 hb.2
    have a1 : P.band .i64 n 1 = n % 2 := and1 hP n
    have z1 : P.ltP 0 2147483647 := ltI hP (by decide)
    have b1 : P.i64 (P.mul b b) := by rw [mul_eq hP]; exact i64I hP (by omega)
    have b2 : P.leP 0 (P.mul b b) := le0 hP (by rw [mul_eq hP]; omega)
    have b3 : P.mod (P.mul b b) 2147483647 = b * b % 2147483647 := by rw [mod_eq hP, mul_eq hP]
    have s1 : P.leP 0 1 := le0 hP (by decide)
    have s2 : P.ltP 1 (P.bits .i64) := by subst hP; show (1 : Int) < 64; decide
    have s3 : P.shr n 1 = ((m / 2 : Nat) : Int) := by subst hP; show n / 2 ^ (1 : Int).toNat = _; rw [hn]; show (m : Int) / 2 = _; omega
    have b4 : 0 ≤ P.mod (P.mul b b) 2147483647 ∧ P.mod (P.mul b b) 2147483647 < 2147483647 := by rw [b3]; omega
    cbv
    refine br_cases (fun g => ?_) (fun g => ?_)
    · have h7 : P.band .i64 n 1 = 1 := eq_t hP g
      rw [a1] at h7
      have o1 : P.i64 (P.mul o b) := by rw [mul_eq hP]; exact i64I hP (by omega)
      have o2 : P.leP 0 (P.mul o b) := le0 hP (by rw [mul_eq hP]; omega)
      have o3 : P.mod (P.mul o b) 2147483647 = o * b % 2147483647 := by rw [mod_eq hP, mul_eq hP]
      have o4 : 0 ≤ P.mod (P.mul o b) 2147483647 ∧ P.mod (P.mul o b) 2147483647 < 2147483647 := by rw [o3]; omega
      have o5 : P.mod (P.mul o b) 2147483647 * P.mod (P.mul b b) 2147483647 ^ (m / 2) % 2147483647 = pwr N := by
        have hmm : 2 * (m / 2) + 1 = m := by ((try simp only [nc] at *); omega)
        rw [o3, b3, step_odd, hmm, hi]
      cbv
      repeat' (first
        | (refine And.intro (by assumption) ?_; try cbv)
        | (intro β; try cbv))
      exact ⟨_, Ent.refl _, ⟨m / 2, _, _, _, by omega, s3, o4, b4, o5⟩, ⟨rfl, rfl, rfl, trivial⟩, trivial, by show m / 2 < m; ((try simp only [nc] at *); omega)⟩
    · have h7 : ¬ P.band .i64 n 1 = 1 := eq_f hP g
      rw [a1] at h7
      have o5 : o * P.mod (P.mul b b) 2147483647 ^ (m / 2) % 2147483647 = pwr N := by
        have hmm : 2 * (m / 2) = m := by ((try simp only [nc] at *); omega)
        rw [b3, step_even, hmm, hi]
      cbv
      repeat' (first
        | (refine And.intro (by assumption) ?_; try cbv)
        | (intro β; try cbv))
      exact ⟨_, Ent.refl _, ⟨m / 2, _, _, _, by omega, s3, ho, b4, o5⟩, ⟨rfl, rfl, rfl, trivial⟩, trivial, by show m / 2 < m; ((try simp only [nc] at *); omega)⟩
  · have h6 : ¬ 0 < n := lt_f hP g
    have : m = 0 := by ((try simp only [nc] at *); omega)
    subst this
    cbv
    exact hR _ _ _ (by rw [← hi]; simp only [Int.pow_zero, Int.mul_one]; omega) (Ent.refl _) rfl
theorem sp_pow (N : Nat) (hN : N ≤ 2147483647) : Spec Try.prog 55 [.int .i64 (N : Int)] Hp.emp (Is (.int .i64 (pwr N))) :=
  spec_pure dOk ok_pow [.int .i64 (pwr N)] (.int _ _) fun R hR => vc_pow std rfl _ _ N hN R fun s s' b h he hr => by subst h; exact hR s s' he hr
/-! Find -/
def ac_find : AC := .seq (.region false [
    ⟨some 4, none, .mov (.c (.slice none 0 0))⟩,
    ⟨some 5, none, .mov (.c (.int .i64 0))⟩])
  (.seq (.seq (.region false [
    ⟨some 12, none, .mov (.t 1)⟩,
    ⟨some 13, none, .bin .eql (.t 12) (.c (.string ⟨#[]⟩))⟩])
  (.cond (.t 13)
    (.seq (.region false [
      ⟨some 4, none, .mov (.c (.slice none 0 0))⟩,
      ⟨some 5, none, .mov (.c (.int .i64 1))⟩])
    (.ret))
    (.skip)))
  (.seq (.seq (.region false [
    ⟨some 14, none, .mov (.t 1)⟩,
    ⟨some 15, none, .len true (.t 14)⟩,
    ⟨some 16, none, .mov (.t 0)⟩,
    ⟨some 17, none, .len true (.t 16)⟩,
    ⟨some 18, none, .bin .gtr (.t 15) (.t 17)⟩])
  (.cond (.t 18)
    (.seq (.region false [
      ⟨some 4, none, .mov (.c (.slice none 0 0))⟩,
      ⟨some 5, none, .mov (.c (.int .i64 0))⟩])
    (.ret))
    (.skip)))
  (.seq (.region false [
    ⟨some 19, none, .mov (.t 1)⟩,
    ⟨some 20, none, .len true (.t 19)⟩,
    ⟨some 6, none, .mov (.t 20)⟩])
  (.seq (.region true [
    ⟨some 21, none, .mov (.t 1)⟩,
    ⟨some 22, none, .call 54 [(.t 21)]⟩,
    ⟨some 23, none, .mov (.t 0)⟩,
    ⟨some 24, none, .mov (.t 6)⟩,
    ⟨some 25, none, .slstr (.t 23) none (some (.t 24))⟩,
    ⟨some 26, none, .call 54 [(.t 25)]⟩,
    ⟨some 27, none, .mov (.t 6)⟩,
    ⟨some 28, none, .bin .sub (.t 27) (.c (.int .i64 1))⟩,
    ⟨some 29, none, .call 55 [(.t 28)]⟩,
    ⟨some 7, none, .mov (.t 22)⟩,
    ⟨some 8, none, .mov (.t 26)⟩,
    ⟨some 9, none, .mov (.t 29)⟩])
  (.seq (.region false [
    ⟨some 10, none, .mov (.c (.slice none 0 0))⟩])
  (.seq (.region false [
    ⟨some 11, none, .mov (.c (.int .i64 0))⟩])
  (.block 0 (.loop (.seq (.block 1 (.seq (.seq (.region false [
      ⟨some 32, none, .mov (.t 8)⟩,
      ⟨some 33, none, .mov (.t 7)⟩,
      ⟨some 34, none, .bin .eql (.t 32) (.t 33)⟩,
      ⟨some 35, none, .mov (.t 34)⟩,
      ⟨some 36, some (35, true), .mov (.t 0)⟩,
      ⟨some 37, some (35, true), .mov (.t 11)⟩,
      ⟨some 38, some (35, true), .mov (.t 11)⟩,
      ⟨some 39, some (35, true), .mov (.t 6)⟩,
      ⟨some 40, some (35, true), .bin .add (.t 38) (.t 39)⟩,
      ⟨some 41, some (35, true), .slstr (.t 36) (some (.t 37)) (some (.t 40))⟩,
      ⟨some 42, some (35, true), .mov (.t 1)⟩,
      ⟨some 43, some (35, true), .bin .eql (.t 41) (.t 42)⟩,
      ⟨some 44, none, .pick (.t 35) (.t 43) (.c (.bool false))⟩])
    (.cond (.t 44)
      (.region false [
        ⟨some 45, none, .mov (.t 10)⟩,
        ⟨some 46, none, .mov (.t 11)⟩,
        ⟨some 47, none, .bslice 3 1 [(.t 46)]⟩,
        ⟨some 48, none, .append 3 1 8 (.t 45) (.t 47)⟩,
        ⟨some 10, none, .mov (.t 48)⟩])
      (.skip)))
    (.seq (.seq (.region false [
      ⟨some 49, none, .mov (.t 11)⟩,
      ⟨some 50, none, .mov (.t 6)⟩,
      ⟨some 51, none, .bin .add (.t 49) (.t 50)⟩,
      ⟨some 52, none, .mov (.t 0)⟩,
      ⟨some 53, none, .len true (.t 52)⟩,
      ⟨some 54, none, .bin .eql (.t 51) (.t 53)⟩])
    (.cond (.t 54)
      (.seq (.region false [
        ⟨some 55, none, .mov (.t 10)⟩,
        ⟨some 4, none, .mov (.t 55)⟩,
        ⟨some 5, none, .mov (.c (.int .i64 0))⟩])
      (.ret))
      (.skip)))
    (.seq (.region false [
      ⟨some 56, none, .mov (.t 8)⟩,
      ⟨some 57, none, .mov (.t 0)⟩,
      ⟨some 58, none, .mov (.t 11)⟩,
      ⟨some 59, none, .ixs (.t 57) (.t 58)⟩,
      ⟨some 60, none, .conv .i64 (.t 59)⟩,
      ⟨some 61, none, .bin .add (.t 60) (.c (.int .i64 1))⟩,
      ⟨some 62, none, .mov (.t 9)⟩,
      ⟨some 63, none, .bin .mul (.t 61) (.t 62)⟩,
      ⟨some 64, none, .bin .rem (.t 63) (.c (.int .i64 2147483647))⟩,
      ⟨some 65, none, .bin .sub (.t 56) (.t 64)⟩,
      ⟨some 66, none, .bin .add (.t 65) (.c (.int .i64 2147483647))⟩,
      ⟨some 67, none, .bin .rem (.t 66) (.c (.int .i64 2147483647))⟩,
      ⟨some 8, none, .mov (.t 67)⟩])
    (.region false [
      ⟨some 68, none, .mov (.t 8)⟩,
      ⟨some 69, none, .bin .mul (.t 68) (.c (.int .i64 257))⟩,
      ⟨some 70, none, .mov (.t 0)⟩,
      ⟨some 71, none, .mov (.t 11)⟩,
      ⟨some 72, none, .mov (.t 6)⟩,
      ⟨some 73, none, .bin .add (.t 71) (.t 72)⟩,
      ⟨some 74, none, .ixs (.t 70) (.t 73)⟩,
      ⟨some 75, none, .conv .i64 (.t 74)⟩,
      ⟨some 76, none, .bin .add (.t 69) (.t 75)⟩,
      ⟨some 77, none, .bin .add (.t 76) (.c (.int .i64 1))⟩,
      ⟨some 78, none, .bin .rem (.t 77) (.c (.int .i64 2147483647))⟩,
      ⟨some 8, none, .mov (.t 78)⟩])))))
    (.region false [
      ⟨some 30, none, .mov (.t 11)⟩,
      ⟨some 31, none, .bin .add (.t 30) (.c (.int .i64 1))⟩,
      ⟨some 11, none, .mov (.t 31)⟩]))))))))))
theorem ok_find : FnOk Try.prog 24 Try.f24 ac_find [.t 4, .t 5] 2 drawD := ⟨Try.func24, by decide +kernel, by kernel_rfl, by kernel_rfl, by decide +kernel⟩
structure YFi (s t : List UInt8) where
  i : Nat
  k : Int
  h : Int
  b : Option Nat
  c : Nat
  rows : List (List V)
  hi : i + t.length ≤ s.length
  hk : k = (i : Int)
  hh : h = hashL ((s.drop i).take t.length)
  hrows : rows = iRows (posF s t i)
  hc : c = (posF s t i).length
theorem drop_take_cons {s : List UInt8} {i n : Nat} (h : i + (n + 1) < s.length) : ∃ (c d : UInt8) (m : List UInt8), m.length = n ∧ (s.drop i).take (n + 1) = c :: m ∧ (s.drop (i + 1)).take (n + 1) = m ++ [d] ∧ s.getD i 0 = c ∧ s.getD (i + (n + 1)) 0 = d := by
  refine ⟨s[i], s[i + (n + 1)], (s.drop (i + 1)).take n, ?_, ?_, ?_, ?_, ?_⟩
  · rw [List.length_take, List.length_drop]; omega
  · rw [List.drop_eq_getElem_cons (by omega), List.take_succ_cons]
  · rw [List.take_succ_eq_append_getElem (by rw [List.length_drop]; omega), List.getElem_drop]
    congr 3; omega
  · rw [List.getD_eq_getElem?_getD, List.getElem?_eq_getElem (by omega)]; rfl
  · rw [List.getD_eq_getElem?_getD, List.getElem?_eq_getElem h]; rfl
theorem vc_find (P : Prim) (hP : P = std) (T T1 : CallT) (s t : List UInt8) (hs : s.length ≤ 1048576) (ht : t.length ≤ 1048576) (oF : List UInt8 → Int) (hoF : ∀ s, oF s = hashL s)
    (h1 : ∀ s, s.length ≤ 1048576 → Ans T1 54 [.str s] (.int .i64 (oF s))) (pF : Int) (hpF : pF = pwr (t.length - 1))
    (h2 : t ≠ [] → ∀ k : Int, k = (t.length : Int) - 1 → Ans T1 55 [.int .i64 k] (.int .i64 pF))
    (rl : List Int) (re : Int) (hr : findF s t = (rl, re)) (rr : List (List V)) (hrr : rr = iRows rl)
    (R : S → Prop) (hR : ∀ x, x = re → RetSl [.t 4, .t 5] 1 rr [.int .i64 x] R) : awp P T T1 ac_find (S0 [.str s, .str t] Hp.emp) R (fun _ _ => False) R := by
  have hsp : P.slen s = (s.length : Int) := slen_eq hP s
  have htp : P.slen t = (t.length : Int) := slen_eq hP t
  unfold findF at hr
  cbv
  refine br_cases (fun g => ?_) (fun g => ?_)
  · have h0 : t = [] := seq_t hP g
    rw [if_pos h0] at hr
    simp only [Prod.mk.injEq] at hr
    cbv
    exact (hR _ hr.2).1 _ _ (Ent.refl _) rfl (by rw [hrr, ← hr.1]; rfl)
  have h0 : ¬ t = [] := seq_f hP g
  rw [if_neg h0] at hr
  simp only [Prod.mk.injEq] at hr
  have htl : 0 < t.length := List.length_pos_iff.2 h0
  cbv
  refine br_cases (fun g => ?_) (fun g => ?_)
  · have h6 : P.slen s < P.slen t := lt_t hP g
    rw [hsp, htp] at h6
    have := posF_end (s := s) h0 (k := 0) (by ((try simp only [nc] at *); omega)) s.length (by ((try simp only [nc] at *); omega))
    rw [Nat.zero_add] at this
    cbv
    exact (hR _ hr.2).1 _ _ (Ent.refl _) rfl (by rw [hrr, ← hr.1, this]; rfl)
  have h6 : ¬ P.slen s < P.slen t := lt_f hP g
  rw [hsp, htp] at h6
  have hle : t.length ≤ s.length := by ((try simp only [nc] at *); omega)
  have a0 : P.leP 0 0 := le0 hP (by decide)
  have a1 : P.leP 0 (P.slen t) := le0 hP (by rw [htp]; ((try simp only [nc] at *); omega))
  have a2 : P.leP (P.slen t) (P.slen s) := leI hP (by rw [hsp, htp]; ((try simp only [nc] at *); omega))
  have a3 : P.i64 (P.sub (P.slen t) 1) := by rw [sub_eq hP, htp]; exact i64I hP (by ((try simp only [nc] at *); omega))
  have a4 : P.sub (P.slen t) 1 = (t.length : Int) - 1 := by rw [sub_eq hP, htp]
  have c1 := h1 t ht
  have e0 : P.ssub s 0 (P.slen t) = s.take t.length := by rw [htp]; subst hP; rfl
  have c2 := h1 (P.ssub s 0 (P.slen t)) (by rw [e0, List.length_take]; ((try simp only [nc] at *); omega))
  have c3 := h2 h0 _ a4
  have eo : oF (P.ssub s 0 (P.slen t)) = hashL (s.take t.length) := by rw [hoF, e0]
  have et : oF t = hashL t := hoF t
  clear h1 h2 g
  cbv
  refine c1 _ _ ?_
  cbv
  repeat' (first
    | (refine And.intro (by assumption) ?_; try cbv)
    | (intro β; try cbv))
  refine c2 _ _ ?_
  cbv
  refine ⟨a3, ?_⟩
  refine c3 _ _ ?_
  clear c1 c2 c3 e0
  generalize oF (P.ssub s 0 (P.slen t)) = H0 at eo ⊢
  generalize oF t = W at et ⊢
  cbv
  refine ⟨YFi s t, fun y => [(0, .str s), (1, .str t), (6, .int .i64 (P.slen t)), (7, .int .i64 W), (8, .int .i64 y.h), (9, .int .i64 pF), (10, .own 1000048 y.b 1 y.c), (11, .int .i64 y.k)], fun y => [(1000048, ⟨y.b, 3, 1, y.rows⟩)], fun y => s.length - y.i,
    ⟨_, Ent.nil (i := 10) (k := 1000048) (ty := 3) (sz := 1) rfl rfl, ⟨0, 0, H0, _, _, _, by ((try simp only [nc] at *); omega), rfl, eo, rfl, rfl⟩, ⟨rfl, rfl, rfl, rfl, rfl, rfl, rfl, rfl, trivial⟩, ⟨rfl, trivial⟩⟩, ?_⟩
  rintro ⟨i, k, h, b, c, rows, hi, hk, hh, hrows, hc⟩
  have hil := posF_len s t i
  have k0 : P.leP 0 k := le0 hP (by ((try simp only [nc] at *); omega))
  have ea : P.add k (P.slen t) = ((i + t.length : Nat) : Int) := by rw [add_eq hP, hk, htp]; ((try simp only [nc] at *); omega)
  have k1 : P.i64 (P.add k (P.slen t)) := by rw [ea]; exact i64I hP (by ((try simp only [nc] at *); omega))
  have k2 : P.leP k (P.add k (P.slen t)) := leI hP (by rw [ea, hk]; ((try simp only [nc] at *); omega))
  have k3 : P.leP (P.add k (P.slen t)) (P.slen s) := leI hP (by rw [ea, hsp]; ((try simp only [nc] at *); omega))
  have k4 : P.i64 (P.add k 1) := by rw [add_eq hP]; exact i64I hP (by ((try simp only [nc] at *); omega))
  have k5 : P.add k 1 = ((i + 1 : Nat) : Int) := by rw [add_eq hP, hk]; ((try simp only [nc] at *); omega)
  have es : P.ssub s k (P.add k (P.slen t)) = (s.drop i).take t.length := by rw [ea, hk]; exact ssub_n hP s i _ hi
  have f4 : P.neP rows c := by subst hP; show rows.length = c; rw [hrows, hc]; simp [iRows]
  have f5 : ∀ r, P.bytes (P.add (P.int c) (P.rlen [r])) 8 := by intro r; subst hP; show ((c : Int) + 1) * 8 ≤ _; rw [hc]; ((try simp only [nc] at *); omega)
  have f6 : ∀ r, P.neP [r] 1 := by intro r; subst hP; rfl
  have f7 : P.rapp rows [[.int .i64 k]] = iRows (posF s t i ++ [(i : Int)]) := by rw [hrows, hk]; subst hP; simp [std, iRows]
  have f8 : ∀ r : List V, P.nadd c (P.rlenN [r]) = (posF s t i ++ [(i : Int)]).length := by intro r; rw [hc]; subst hP; simp [std]
  -- what is left of a round, whatever has been laid behind
  have tailR : ∀ (i' : Nat), i' = i + 1 → i + t.length = s.length → posF s t s.length = posF s t i' := by
    intro i' h1 h2
    have := posF_end (s := s) h0 (k := i + 1) (by ((try simp only [nc] at *); omega)) (s.length - (i + 1)) (by ((try simp only [nc] at *); omega))
    rw [show i + 1 + (s.length - (i + 1)) = s.length by ((try simp only [nc] at *); omega)] at this
    rw [this, h1]
  -- BEGIN WAYS
  by_cases hend : i + t.length = s.length
  · have en : P.add k (P.slen t) = P.slen s := by rw [ea, hsp, hend]
    cbv
    refine br_cases (fun g => ?_) (fun g => ?_)
    · have hW : h = W := eq_t hP g
      cbv
      repeat' (first
        | (refine And.intro (by first | assumption | exact f6 _ | exact f5 _) ?_; try cbv)
        | (intro β; try cbv))
      refine br_cases (fun g => ?_) (fun g => ?_)
      · have hq := (seq_t hP g)
        have hat : isAt s t i = true := decide_eq_true (es.symm.trans hq)
        have hp := posF_succ s t i
        rw [if_pos hat] at hp
        rw [← hp] at f7 f8
        cbv
        repeat' (first
          | (refine And.intro (by first | assumption | exact f6 _ | exact f5 _) ?_; try cbv)
          | (intro β; try cbv))
        refine br_tt (eq_T hP en) ?_
        cbv
        exact (hR _ hr.2).2.1 _ _ _ _ _ _ _ (Ent.refl _) rfl rfl ⟨(f8 _).trans (by rw [hrr, ← hr.1, tailR _ rfl hend]; simp [iRows]), f7.trans (by rw [hrr, ← hr.1, tailR _ rfl hend])⟩
      · have hq := (seq_f hP g)
        have hat : ¬ isAt s t i = true := fun x => hq (es.trans (of_decide_eq_true x))
        have hp := posF_succ s t i
        rw [if_neg hat] at hp
        rw [← hp] at hrows hc
        cbv
        refine ⟨k1, ?_⟩
        refine br_tt (eq_T hP en) ?_
        cbv
        exact (hR _ hr.2).2.1 _ _ _ _ _ _ _ (Ent.refl _) rfl rfl ⟨by rw [hc, hrr, ← hr.1, tailR _ rfl hend]; simp [iRows], by rw [hrows, hrr, ← hr.1, tailR _ rfl hend]⟩
    · have hW : ¬ h = W := eq_f hP g
      have hat : ¬ isAt s t i = true := fun x => hW (by rw [hh, et, of_decide_eq_true x])
      have hp := posF_succ s t i
      rw [if_neg hat] at hp
      rw [← hp] at hrows hc
      cbv
      refine ⟨k1, ?_⟩
      refine br_tt (eq_T hP en) ?_
      cbv
      exact (hR _ hr.2).2.1 _ _ _ _ _ _ _ (Ent.refl _) rfl rfl ⟨by rw [hc, hrr, ← hr.1, tailR _ rfl hend]; simp [iRows], by rw [hrows, hrr, ← hr.1, tailR _ rfl hend]⟩
  · have en : ¬ P.add k (P.slen t) = P.slen s := by rw [ea, hsp]; ((try simp only [nc] at *); omega)
    have hi2 : i + 1 + t.length ≤ s.length := by omega
    obtain ⟨n, hn⟩ : ∃ n, t.length = n + 1 := ⟨t.length - 1, by omega⟩
    obtain ⟨c0, d0, m0, g1, g2, g3, g4, g5⟩ := drop_take_cons (s := s) (i := i) (n := n) (by omega)
    have hpw : pF = pwr m0.length := by rw [hpF, hn, g1]; rfl
    have hpb := pwr_bd m0.length
    rw [← hpw] at hpb
    have hr1 := roll c0 m0 d0
    rw [← hpw, ← g2, ← g3, ← hn, ← hh] at hr1
    have u1 := c0.toNat_lt
    have u2 := d0.toNat_lt
    have hb1 := hashL_bd ((s.drop i).take t.length)
    rw [← hh] at hb1
    have q1 : P.ltP k (P.slen s) := ltI hP (by rw [hk, hsp]; ((try simp only [nc] at *); omega))
    have q2 : P.leP 0 (P.add k (P.slen t)) := le0 hP (by rw [ea]; omega)
    have q3 : P.ltP (P.add k (P.slen t)) (P.slen s) := ltI hP (by rw [ea, hsp]; ((try simp only [nc] at *); omega))
    have z0 : P.ltP 0 2147483647 := ltI hP (by decide)
    have w1 : P.wrap .i64 (P.sat s k) = (c0.toNat : Int) := by rw [hk, sat_eq hP, g4]; exact wr64 hP (by ((try simp only [nc] at *); omega))
    have w2 : P.wrap .i64 (P.sat s (P.add k (P.slen t))) = (d0.toNat : Int) := by rw [ea, sat_eq hP, hn, g5]; exact wr64 hP (by ((try simp only [nc] at *); omega))
    have x1 : P.add (P.wrap .i64 (P.sat s k)) 1 = (c0.toNat : Int) + 1 := by rw [add_eq hP, w1]
    have x2 : P.i64 (P.add (P.wrap .i64 (P.sat s k)) 1) := by rw [x1]; exact i64I hP (by ((try simp only [nc] at *); omega))
    have hmb : 0 ≤ ((c0.toNat : Int) + 1) * pF ∧ ((c0.toNat : Int) + 1) * pF ≤ 4611686009837453316 := mul_bd (by ((try simp only [nc] at *); omega)) (by ((try simp only [nc] at *); omega)) hpb.1 hpb.2
    have x3 : P.mul (P.add (P.wrap .i64 (P.sat s k)) 1) pF = ((c0.toNat : Int) + 1) * pF := by rw [mul_eq hP, x1]
    have x4 : P.i64 (P.mul (P.add (P.wrap .i64 (P.sat s k)) 1) pF) := by rw [x3]; exact i64I hP (by omega)
    have x5 : P.leP 0 (P.mul (P.add (P.wrap .i64 (P.sat s k)) 1) pF) := le0 hP (by rw [x3]; omega)
    have x6 : P.mod (P.mul (P.add (P.wrap .i64 (P.sat s k)) 1) pF) 2147483647 = ((c0.toNat : Int) + 1) * pF % 2147483647 := by rw [mod_eq hP, x3]
    generalize ((c0.toNat : Int) + 1) * pF = X at hr1 hmb x3 x6
    have x7 : P.sub h (P.mod (P.mul (P.add (P.wrap .i64 (P.sat s k)) 1) pF) 2147483647) = h - X % 2147483647 := by rw [sub_eq hP, x6]
    have x8 : P.i64 (P.sub h (P.mod (P.mul (P.add (P.wrap .i64 (P.sat s k)) 1) pF) 2147483647)) := by rw [x7]; exact i64I hP (by omega)
    have x9 : P.add (P.sub h (P.mod (P.mul (P.add (P.wrap .i64 (P.sat s k)) 1) pF) 2147483647)) 2147483647 = h - X % 2147483647 + 2147483647 := by rw [add_eq hP, x7]
    have y1 : P.i64 (P.add (P.sub h (P.mod (P.mul (P.add (P.wrap .i64 (P.sat s k)) 1) pF) 2147483647)) 2147483647) := by rw [x9]; exact i64I hP (by omega)
    have y2 : P.leP 0 (P.add (P.sub h (P.mod (P.mul (P.add (P.wrap .i64 (P.sat s k)) 1) pF) 2147483647)) 2147483647) := le0 hP (by rw [x9]; omega)
    have y3 : P.mod (P.add (P.sub h (P.mod (P.mul (P.add (P.wrap .i64 (P.sat s k)) 1) pF) 2147483647)) 2147483647) 2147483647 = (h - X % 2147483647 + 2147483647) % 2147483647 := by rw [mod_eq hP, x9]
    obtain ⟨M, hM⟩ : ∃ M, M = P.mod (P.add (P.sub h (P.mod (P.mul (P.add (P.wrap .i64 (P.sat s k)) 1) pF) 2147483647)) 2147483647) 2147483647 := ⟨_, rfl⟩
    rw [← hM] at y3
    have y4 : P.mul M 257 = (h - X % 2147483647 + 2147483647) % 2147483647 * 257 := by rw [mul_eq hP, y3]
    have y5 : P.i64 (P.mul M 257) := by rw [y4]; exact i64I hP (by omega)
    have y6 : P.add (P.mul M 257) (P.wrap .i64 (P.sat s (P.add k (P.slen t)))) = (h - X % 2147483647 + 2147483647) % 2147483647 * 257 + (d0.toNat : Int) := by rw [add_eq hP, y4, w2]
    have y7 : P.i64 (P.add (P.mul M 257) (P.wrap .i64 (P.sat s (P.add k (P.slen t))))) := by rw [y6]; exact i64I hP (by ((try simp only [nc] at *); omega))
    have y8 : P.add (P.add (P.mul M 257) (P.wrap .i64 (P.sat s (P.add k (P.slen t))))) 1 = (h - X % 2147483647 + 2147483647) % 2147483647 * 257 + (d0.toNat : Int) + 1 := by rw [add_eq hP, y6]
    have ya : P.i64 (P.add (P.add (P.mul M 257) (P.wrap .i64 (P.sat s (P.add k (P.slen t))))) 1) := by rw [y8]; exact i64I hP (by ((try simp only [nc] at *); omega))
    have yb : P.leP 0 (P.add (P.add (P.mul M 257) (P.wrap .i64 (P.sat s (P.add k (P.slen t))))) 1) := le0 hP (by rw [y8]; ((try simp only [nc] at *); omega))
    have y9 : P.mod (P.add (P.add (P.mul M 257) (P.wrap .i64 (P.sat s (P.add k (P.slen t))))) 1) 2147483647 = hashL ((s.drop (i + 1)).take t.length) := by rw [mod_eq hP, y8, ← hr1]
    rw [hM] at y5 y7 ya yb y9
    clear x3 x6 x7 x9 y3 y4 y6 y8 hM w1 w2 x1 hr1
    cbv
    refine br_cases (fun g => ?_) (fun g => ?_)
    · have hW : h = W := eq_t hP g
      cbv
      repeat' (first
        | (refine And.intro (by first | assumption | exact f6 _ | exact f5 _) ?_; try cbv)
        | (intro β; try cbv))
      refine br_cases (fun g => ?_) (fun g => ?_)
      · have hq := (seq_t hP g)
        have hat : isAt s t i = true := decide_eq_true (es.symm.trans hq)
        have hp := posF_succ s t i
        rw [if_pos hat] at hp
        rw [← hp] at f7 f8
        cbv
        repeat' (first
          | (refine And.intro (by first | assumption | exact f6 _ | exact f5 _) ?_; try cbv)
          | (intro β; try cbv))
        refine br_ff (eq_F hP en) ?_
        cbv
        repeat' (first
          | (refine And.intro (by first | assumption | exact f6 _ | exact f5 _) ?_; try cbv)
          | (intro β; try cbv))
        exact ⟨_, Ent.refl _, ⟨i + 1, _, _, _, _, _, hi2, k5, y9, f7, f8 _⟩, ⟨rfl, rfl, rfl, rfl, rfl, rfl, rfl, rfl, trivial⟩, ⟨rfl, trivial⟩, by show s.length - (i + 1) < s.length - i; omega⟩
      · have hq := (seq_f hP g)
        have hat : ¬ isAt s t i = true := fun x => hq (es.trans (of_decide_eq_true x))
        have hp := posF_succ s t i
        rw [if_neg hat] at hp
        rw [← hp] at hrows hc
        cbv
        refine ⟨k1, ?_⟩
        refine br_ff (eq_F hP en) ?_
        cbv
        repeat' (first
          | (refine And.intro (by first | assumption | exact f6 _ | exact f5 _) ?_; try cbv)
          | (intro β; try cbv))
        exact ⟨_, Ent.refl _, ⟨i + 1, _, _, _, _, _, hi2, k5, y9, hrows, hc⟩, ⟨rfl, rfl, rfl, rfl, rfl, rfl, rfl, rfl, trivial⟩, ⟨rfl, trivial⟩, by show s.length - (i + 1) < s.length - i; omega⟩
    · have hW : ¬ h = W := eq_f hP g
      have hat : ¬ isAt s t i = true := fun x => hW (by rw [hh, et, of_decide_eq_true x])
      have hp := posF_succ s t i
      rw [if_neg hat] at hp
      rw [← hp] at hrows hc
      cbv
      refine ⟨k1, ?_⟩
      refine br_ff (eq_F hP en) ?_
      cbv
      repeat' (first
        | (refine And.intro (by first | assumption | exact f6 _ | exact f5 _) ?_; try cbv)
        | (intro β; try cbv))
      exact ⟨_, Ent.refl _, ⟨i + 1, _, _, _, _, _, hi2, k5, y9, hrows, hc⟩, ⟨rfl, rfl, rfl, rfl, rfl, rfl, rfl, rfl, trivial⟩, ⟨rfl, trivial⟩, by show s.length - (i + 1) < s.length - i; omega⟩
  -- END WAYS
end Go.Proofs.Ytlomnjlfmbolkaa.AM
