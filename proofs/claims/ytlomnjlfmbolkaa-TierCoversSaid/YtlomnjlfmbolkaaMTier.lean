/-
  Blocks that cover an interval: tier.Cover, the document's Covers, and the law TierCovers.
-/
import Derived.Test.YtlomnjlfmbolkaaMMade
set_option linter.unusedVariables false
set_option linter.unusedSimpArgs false
namespace Go.Proofs.Ytlomnjlfmbolkaa.AM
open Go
set_option maxRecDepth 100000
set_option maxHeartbeats 2000000
/-- the level that the greedy way takes -/
def lvF : Nat → Nat → Nat → Nat → Nat
  | 0, _, _, n => n
  | f + 1, i, k, n => if i % 2 ^ (n + 1) = 0 ∧ i + 2 ^ (n + 1) ≤ k then lvF f i k (n + 1) else n

def covF : Nat → Nat → Nat → List (Nat × Nat)
  | 0, _, _ => []
  | f + 1, i, k => if i < k then (lvF 7 i k 0, i / 2 ^ lvF 7 i k 0) :: covF f (i + 2 ^ lvF 7 i k 0) k else []

/-- the first level, from n on downwards, of which a block lies within -/
def rlF : Nat → Nat → Nat → Option Nat
  | 0, _, _ => none
  | n + 1, i, k => if ((i + 2 ^ n - 1) / 2 ^ n + 1) * 2 ^ n ≤ k then some n else rlF n i k

def rcF : Nat → Nat → Nat → List (Nat × Nat)
  | 0, _, _ => []
  | f + 1, i, k => match rlF 7 i k with
    | none => []
    | some n => (rcF f i ((i + 2 ^ n - 1) / 2 ^ n * 2 ^ n) ++ [(n, (i + 2 ^ n - 1) / 2 ^ n)]) ++ rcF f (((i + 2 ^ n - 1) / 2 ^ n + 1) * 2 ^ n) k

theorem cov_all : ((List.range 65).all fun k => (List.range (k + 1)).all fun i => covF 64 i k == rcF 65 i k && (decide ((covF 64 i k).length ≤ 64))) = true := by decide +kernel

theorem cov_rc {i k : Nat} (hi : i ≤ k) (hk : k ≤ 64) : covF 64 i k = rcF 65 i k ∧ (covF 64 i k).length ≤ 64 := by
  have h := cov_all
  rw [List.all_eq_true] at h
  have h1 := h k (List.mem_range.2 (by omega))
  rw [List.all_eq_true] at h1
  have h2 := h1 i (List.mem_range.2 (by omega))
  simpa using h2


theorem covF_stop {f i k : Nat} (h : ¬ i < k) : covF f i k = [] := by cases f <;> simp [covF, h]
def coverF (i k : Int) : List (Nat × Nat) × Int := if i < 0 ∨ 64 < k ∨ k < i then ([], 1) else (covF 64 i.toNat k.toNat, 0)
def ac_cover : AC := .seq (.region false [
    ⟨some 4, none, .mov (.c (.slice none 0 0))⟩,
    ⟨some 5, none, .mov (.c (.int .i64 0))⟩])
  (.seq (.seq (.region false [
    ⟨some 8, none, .mov (.t 0)⟩,
    ⟨some 9, none, .bin .lss (.t 8) (.c (.int .i64 0))⟩,
    ⟨some 10, none, .mov (.t 9)⟩,
    ⟨some 11, some (10, false), .mov (.t 1)⟩,
    ⟨some 12, some (10, false), .bin .gtr (.t 11) (.c (.int .i64 64))⟩,
    ⟨some 13, none, .pick (.t 10) (.c (.bool true)) (.t 12)⟩,
    ⟨some 14, none, .mov (.t 13)⟩,
    ⟨some 15, some (14, false), .mov (.t 0)⟩,
    ⟨some 16, some (14, false), .mov (.t 1)⟩,
    ⟨some 17, some (14, false), .bin .gtr (.t 15) (.t 16)⟩,
    ⟨some 18, none, .pick (.t 14) (.c (.bool true)) (.t 17)⟩])
  (.cond (.t 18)
    (.seq (.region false [
      ⟨some 4, none, .mov (.c (.slice none 0 0))⟩,
      ⟨some 5, none, .mov (.c (.int .i64 1))⟩])
    (.ret))
    (.skip)))
  (.seq (.region false [
    ⟨some 6, none, .mov (.c (.slice none 0 0))⟩])
  (.seq (.block 0 (.loop (.seq (.seq (.region false [
      ⟨some 19, none, .mov (.t 0)⟩,
      ⟨some 20, none, .mov (.t 1)⟩,
      ⟨some 21, none, .bin .lss (.t 19) (.t 20)⟩])
    (.cond (.t 21)
      (.skip)
      (.exit 0)))
    (.block 1 (.seq (.region false [
      ⟨some 7, none, .mov (.c (.int .i64 0))⟩])
    (.seq (.block 2 (.loop (.seq (.seq (.region false [
        ⟨some 22, none, .mov (.t 0)⟩,
        ⟨some 23, none, .mov (.t 7)⟩,
        ⟨some 24, none, .bin .shl (.c (.int .i64 2)) (.t 23)⟩,
        ⟨some 25, none, .bin .rem (.t 22) (.t 24)⟩,
        ⟨some 26, none, .bin .eql (.t 25) (.c (.int .i64 0))⟩,
        ⟨some 27, none, .mov (.t 26)⟩,
        ⟨some 28, some (27, true), .mov (.t 0)⟩,
        ⟨some 29, some (27, true), .mov (.t 7)⟩,
        ⟨some 30, some (27, true), .bin .shl (.c (.int .i64 2)) (.t 29)⟩,
        ⟨some 31, some (27, true), .bin .add (.t 28) (.t 30)⟩,
        ⟨some 32, some (27, true), .mov (.t 1)⟩,
        ⟨some 33, some (27, true), .bin .leq (.t 31) (.t 32)⟩,
        ⟨some 34, none, .pick (.t 27) (.t 33) (.c (.bool false))⟩])
      (.cond (.t 34)
        (.skip)
        (.exit 2)))
      (.block 3 (.region false [
        ⟨some 35, none, .mov (.t 7)⟩,
        ⟨some 36, none, .bin .add (.t 35) (.c (.int .i64 1))⟩,
        ⟨some 7, none, .mov (.t 36)⟩])))))
    (.seq (.block 4 (.loop (.seq (.seq (.region false [
        ⟨some 37, none, .mov (.t 0)⟩,
        ⟨some 38, none, .mov (.t 7)⟩,
        ⟨some 39, none, .bin .shl (.c (.int .i64 1)) (.t 38)⟩,
        ⟨some 40, none, .bin .add (.t 37) (.t 39)⟩,
        ⟨some 41, none, .mov (.t 1)⟩,
        ⟨some 42, none, .bin .gtr (.t 40) (.t 41)⟩])
      (.cond (.t 42)
        (.skip)
        (.exit 4)))
      (.block 5 (.region false [
        ⟨some 43, none, .mov (.t 7)⟩,
        ⟨some 44, none, .bin .sub (.t 43) (.c (.int .i64 1))⟩,
        ⟨some 7, none, .mov (.t 44)⟩])))))
    (.seq (.region false [
      ⟨some 45, none, .mov (.t 6)⟩,
      ⟨some 46, none, .mov (.t 7)⟩,
      ⟨some 47, none, .mov (.t 0)⟩,
      ⟨some 48, none, .mov (.t 7)⟩,
      ⟨some 49, none, .bin .shr (.t 47) (.t 48)⟩,
      ⟨some 50, none, .build [(.int .i64 0), (.int .i64 0)] [(0, 1, (.t 46)), (1, 1, (.t 49))]⟩,
      ⟨some 51, none, .bslice 28 2 [(.t 50)]⟩,
      ⟨some 52, none, .append 28 2 16 (.t 45) (.t 51)⟩,
      ⟨some 6, none, .mov (.t 52)⟩])
    (.region false [
      ⟨some 53, none, .mov (.t 0)⟩,
      ⟨some 54, none, .mov (.t 7)⟩,
      ⟨some 55, none, .bin .shl (.c (.int .i64 1)) (.t 54)⟩,
      ⟨some 56, none, .bin .add (.t 53) (.t 55)⟩,
      ⟨some 0, none, .mov (.t 56)⟩])))))))))
  (.seq (.region false [
    ⟨some 57, none, .mov (.t 6)⟩,
    ⟨some 4, none, .mov (.t 57)⟩,
    ⟨some 5, none, .mov (.c (.int .i64 0))⟩])
  (.ret)))))
theorem ok_cover : FnOk Try.prog 12 Try.f12 ac_cover [.t 4, .t 5] 2 drawD := ⟨Try.func12, by decide +kernel, by kernel_rfl, by kernel_rfl, by decide +kernel⟩
structure YCv (a c : Nat) where
  i : Nat
  ii : Int
  pre : List (Nat × Nat)
  g : Nat
  n : Nat
  b : Option Nat
  rows : List (List V)
  hii : ii = (i : Int)
  hi : i ≤ c
  hc : covF 64 a c = pre ++ covF g i c
  hg : c ≤ i + g ∧ pre.length + g ≤ 64
  hrows : rows = pairRows pre
  hn : n = pre.length
structure YLv (i c : Nat) where
  n : Nat
  nn : Int
  hnn : nn = (n : Int)
  hn : n ≤ 6
  hl : lvF (7 - n) i c n = lvF 7 i c 0
  hc : i + 2 ^ n ≤ c
theorem vc_cover (P : Prim) (hP : P = std) (T T1 : CallT) (i k : Int) (r : List (Nat × Nat)) (e : Int) (hr : coverF i k = (r, e))
    (R : S → Prop) (hR : ∀ x, x = e → RetSl [.t 4, .t 5] 2 (pairRows r) [.int .i64 x] R) : awp P T T1 ac_cover (S0 [.int .i64 i, .int .i64 k] Hp.emp) R (fun _ _ => False) R := by
  have bad : i < 0 ∨ 64 < k ∨ k < i → r = [] ∧ 1 = e := by intro h; unfold coverF at hr; rw [if_pos h] at hr; simp only [Prod.mk.injEq] at hr; exact ⟨hr.1.symm, hr.2⟩
  cbv
  refine br_cases (fun h => ?_) (fun h => ?_)
  · have := lt_t hP h
    obtain ⟨q1, q2⟩ := bad (by omega)
    cbv
    exact (hR _ q2).1 _ _ (Ent.refl _) rfl (by rw [q1]; rfl)
  have b1 := lt_f hP h
  cbv
  refine br_cases (fun h => ?_) (fun h => ?_)
  · have := lt_t hP h
    obtain ⟨q1, q2⟩ := bad (by omega)
    cbv
    exact (hR _ q2).1 _ _ (Ent.refl _) rfl (by rw [q1]; rfl)
  have b2 := lt_f hP h
  cbv
  refine br_cases (fun h => ?_) (fun h => ?_)
  · have := lt_t hP h
    obtain ⟨q1, q2⟩ := bad (by omega)
    cbv
    exact (hR _ q2).1 _ _ (Ent.refl _) rfl (by rw [q1]; rfl)
  have b3 := lt_f hP h
  unfold coverF at hr
  rw [if_neg (by omega)] at hr
  simp only [Prod.mk.injEq] at hr
  obtain ⟨hr1, hr2⟩ := hr
  obtain ⟨a, ha⟩ : ∃ a : Nat, i = (a : Int) := ⟨i.toNat, by omega⟩
  obtain ⟨c, hc⟩ : ∃ c : Nat, k = (c : Int) := ⟨k.toNat, by omega⟩
  rw [show i.toNat = a by omega, show k.toNat = c by omega] at hr1
  have hac : a ≤ c ∧ c ≤ 64 := by omega
  clear bad b1 b2 b3 h
  cbv
  refine ⟨YCv a c, fun y => [(0, .int .i64 y.ii), (1, .int .i64 k), (6, .own 1000052 y.b 2 y.n)], fun y => [(1000052, ⟨y.b, 28, 2, y.rows⟩)], fun y => c - y.i,
    ⟨_, Ent.nil (i := 6) (k := 1000052) (ty := 28) (sz := 2) rfl rfl, ⟨a, _, [], 64, _, _, _, ha, hac.1, rfl, ⟨by omega, by simp⟩, rfl, rfl⟩, ⟨rfl, rfl, rfl, trivial⟩, ⟨rfl, trivial⟩⟩, ?_⟩
  rintro ⟨i, ii, pre, g, n, b, rows, hii, hi, hcov, ⟨hg1, hg2⟩, hrows, hn⟩
  cbv
  refine br_cases (fun h => ?_) (fun h => ?_)
  · have h5 : ii < k := lt_t hP h
    have hic : i < c := by ((try simp only [nc] at *); omega)
    obtain ⟨g, rfl⟩ : ∃ g', g = g' + 1 := ⟨g - 1, by omega⟩
    cbv
    refine ⟨YLv i c, fun z => [(0, .int .i64 ii), (1, .int .i64 k), (6, .own 1000052 b 2 n), (7, .int .i64 z.nn)], fun z => [(1000052, ⟨b, 28, 2, rows⟩)], fun z => 7 - z.n,
      ⟨_, Ent.refl _, ⟨0, 0, rfl, by omega, rfl, by omega⟩, ⟨rfl, rfl, rfl, rfl, trivial⟩, ⟨rfl, trivial⟩⟩, ?_⟩
    rintro ⟨m, mm, hmm, hm, hl, hmc⟩
    have hpw : 2 ^ (m + 1) ≤ 128 := Nat.pow_le_pow_right (by decide) (show m + 1 ≤ 7 by omega)
    have hpw0 : 0 < 2 ^ (m + 1) := Nat.pos_of_ne_zero (by simp)
    have hpw1 : 2 ^ (m + 1) = 2 * 2 ^ m := by rw [Nat.pow_succ]; omega
    have s1 : P.shl 2 mm = ((2 ^ (m + 1) : Nat) : Int) := by subst hP; show 2 * 2 ^ mm.toNat = _; rw [hmm, Int.toNat_natCast, hpw1]; simp
    have s2 : P.shl 1 mm = ((2 ^ m : Nat) : Int) := by subst hP; show 1 * 2 ^ mm.toNat = _; rw [hmm, Int.toNat_natCast]; simp
    have o1 : P.leP 0 mm := le0 hP (by ((try simp only [nc] at *); omega))
    have o2 : P.ltP mm 64 := ltI hP (by ((try simp only [nc] at *); omega))
    have o3 : P.i64 (P.shl 2 mm) := by rw [s1]; exact i64I hP (by omega)
    have o4 : P.leP 0 ii := le0 hP (by ((try simp only [nc] at *); omega))
    have o5 : P.ltP 0 (P.shl 2 mm) := ltI hP (by rw [s1]; omega)
    have o6 : P.i64 (P.add ii (P.shl 2 mm)) := by rw [add_eq hP, s1, hii]; exact i64I hP (by revert hpw; generalize 2 ^ (m + 1) = A; intro hpw; ((try simp only [nc] at *); omega))
    have o7 : P.i64 (P.add mm 1) := by rw [add_eq hP, hmm]; exact i64I hP (by omega)
    have o8 : P.i64 (P.shl 1 mm) := by rw [s2]; exact i64I hP (by omega)
    have o9 : P.i64 (P.add ii (P.shl 1 mm)) := by rw [add_eq hP, s2, hii]; exact i64I hP (by revert hmc; generalize 2 ^ m = A; intro hmc; ((try simp only [nc] at *); omega))
    have e1 : P.mod ii (P.shl 2 mm) = ((i % 2 ^ (m + 1) : Nat) : Int) := by rw [s1, hii]; subst hP; exact (Int.natCast_emod _ _).symm
    have e2 : P.add ii (P.shl 2 mm) = ((i + 2 ^ (m + 1) : Nat) : Int) := by rw [add_eq hP, s1, hii]; generalize 2 ^ (m + 1) = A; ((try simp only [nc] at *); omega)
    have e3 : P.add ii (P.shl 1 mm) = ((i + 2 ^ m : Nat) : Int) := by rw [add_eq hP, s2, hii]; generalize 2 ^ m = A; ((try simp only [nc] at *); omega)
    have stop : ¬ (i % 2 ^ (m + 1) = 0 ∧ i + 2 ^ (m + 1) ≤ c) → lvF 7 i c 0 = m := by
      intro hh
      rw [← hl, show 7 - m = (6 - m) + 1 by omega, lvF, if_neg hh]
    -- behind both inner loops
    have tail : lvF 7 i c 0 = m → covF (g + 1) i c = (m, i / 2 ^ m) :: covF g (i + 2 ^ m) c := by intro hh; rw [covF, if_pos hic, hh]
    have f1 : P.lt k (P.add ii (P.shl 1 mm)) = false := lt_F hP (by rw [e3]; ((try simp only [nc] at *); omega))
    have f2 : P.shr ii mm = ((i / 2 ^ m : Nat) : Int) := by subst hP; show ii / 2 ^ mm.toNat = _; rw [hmm, hii, Int.toNat_natCast]; simp
    have f3 : P.ltP mm (P.bits .i64) := by subst hP; show mm < 64; ((try simp only [nc] at *); omega)
    have f4 : P.neP rows n := by subst hP; show rows.length = n; rw [hrows, hn]; simp [pairRows]
    have f5 : ∀ r, P.bytes (P.add (P.int n) (P.rlen [r])) 16 := by intro r; subst hP; show ((n : Int) + 1) * 16 ≤ _; ((try simp only [nc] at *); omega)
    have f6 : ∀ r, P.neP [r] 1 := by intro r; subst hP; rfl
    have f7 : P.rapp rows [[.int .i64 mm, .int .i64 (P.shr ii mm)]] = pairRows (pre ++ [(m, i / 2 ^ m)]) := by rw [hrows, f2, hmm]; subst hP; simp [std, pairRows]
    have f8 : ∀ r, P.nadd n (P.rlenN [r]) = (pre ++ [(m, i / 2 ^ m)]).length := by intro r; rw [hn]; subst hP; simp [std]
    have f9 : c - (i + 2 ^ m) < c - i := by have : 0 < 2 ^ m := Nat.pos_of_ne_zero (by simp); omega
    have f10 : c ≤ i + 2 ^ m + g ∧ (pre ++ [(m, i / 2 ^ m)]).length + g ≤ 64 := by have : 0 < 2 ^ m := Nat.pos_of_ne_zero (by simp); simp; omega
    cbv
    refine ⟨o1, o2, o3, o4, o5, ?_⟩
    refine br_cases (fun h => ?_) (fun h => ?_)
    · have h6 : P.mod ii (P.shl 2 mm) = 0 := eq_t hP h
      rw [e1] at h6
      cbv
      refine ⟨o1, o2, o3, o6, ?_⟩
      refine br_cases (fun h => ?_) (fun h => ?_)
      · have h7 : P.add ii (P.shl 2 mm) ≤ k := le_t hP h
        rw [e2] at h7
        have hm5 : m + 1 ≤ 6 := by
          rcases Nat.lt_or_ge m 6 with hx | hx
          · exact hx
          · exfalso
            have : m = 6 := by omega
            subst this
            have : (2 : Nat) ^ (6 + 1) = 128 := rfl
            ((try simp only [nc] at *); omega)
        cbv
        refine ⟨o7, ?_⟩
        refine ⟨_, Ent.refl _, ⟨m + 1, _, ?_, hm5, ?_, by ((try simp only [nc] at *); omega)⟩, ⟨rfl, rfl, rfl, rfl, trivial⟩, ⟨rfl, trivial⟩, by show 7 - (m + 1) < 7 - m; omega⟩
        · show P.add mm 1 = _; rw [add_eq hP, hmm]; ((try simp only [nc] at *); omega)
        · rw [← hl, show 7 - m = (7 - (m + 1)) + 1 by omega, lvF, if_pos ⟨by ((try simp only [nc] at *); omega), by ((try simp only [nc] at *); omega)⟩]
      · have h7 : ¬ P.add ii (P.shl 2 mm) ≤ k := le_f hP h
        rw [e2] at h7
        have ht := tail (stop (by ((try simp only [nc] at *); omega)))
        cbv
        refine ⟨Unit, fun _ => [(0, .int .i64 ii), (1, .int .i64 k), (6, .own 1000052 b 2 n), (7, .int .i64 mm)], fun _ => [(1000052, ⟨b, 28, 2, rows⟩)], fun _ => 0,
          ⟨_, Ent.refl _, (), ⟨rfl, rfl, rfl, rfl, trivial⟩, ⟨rfl, trivial⟩⟩, ?_⟩
        intro _
        cbv
        refine ⟨o1, o2, o8, o9, ?_⟩
        refine br_ff f1 ?_
        cbv
        repeat' (first
          | (refine And.intro (by assumption) ?_; try cbv)
          | (refine And.intro (f6 _) ?_; try cbv)
          | (refine And.intro (f5 _) ?_; try cbv)
          | (intro β; try cbv))
        exact ⟨_, Ent.refl _, ⟨i + 2 ^ m, _, pre ++ [(m, i / 2 ^ m)], g, _, _, _, e3, hmc, by rw [hcov, ht]; simp, f10, f7, f8 _⟩, ⟨rfl, rfl, rfl, trivial⟩, ⟨rfl, trivial⟩, f9⟩
    · have h6 : ¬ P.mod ii (P.shl 2 mm) = 0 := eq_f hP h
      rw [e1] at h6
      have ht := tail (stop (by ((try simp only [nc] at *); omega)))
      cbv
      refine ⟨Unit, fun _ => [(0, .int .i64 ii), (1, .int .i64 k), (6, .own 1000052 b 2 n), (7, .int .i64 mm)], fun _ => [(1000052, ⟨b, 28, 2, rows⟩)], fun _ => 0,
        ⟨_, Ent.refl _, (), ⟨rfl, rfl, rfl, rfl, trivial⟩, ⟨rfl, trivial⟩⟩, ?_⟩
      intro _
      cbv
      refine ⟨o1, o2, o8, o9, ?_⟩
      refine br_ff f1 ?_
      cbv
      repeat' (first
        | (refine And.intro (by assumption) ?_; try cbv)
        | (refine And.intro (f6 _) ?_; try cbv)
        | (refine And.intro (f5 _) ?_; try cbv)
        | (intro β; try cbv))
      exact ⟨_, Ent.refl _, ⟨i + 2 ^ m, _, pre ++ [(m, i / 2 ^ m)], g, _, _, _, e3, hmc, by rw [hcov, ht]; simp, f10, f7, f8 _⟩, ⟨rfl, rfl, rfl, trivial⟩, ⟨rfl, trivial⟩, f9⟩
  · have h5 : ¬ ii < k := lt_f hP h
    have hpre : r = pre := by rw [← hr1, hcov, covF_stop (by ((try simp only [nc] at *); omega))]; simp
    cbv
    exact (hR _ hr2).2.1 _ _ _ _ _ _ _ (Ent.refl _) rfl rfl ⟨by rw [hn, hpre]; simp [pairRows], by rw [hrows, hpre]⟩
theorem sp_cover (i k : Int) : Spec Try.prog 12 [.int .i64 i, .int .i64 k] Hp.emp (Is (.tup [.sl false 2 (pairRows (coverF i k).1), .int .i64 (coverF i k).2])) :=
  spec_frz dOk ok_cover fun R hR => vc_cover std rfl _ _ i k _ _ rfl R fun x hx => by subst hx; exact retSl_of (pairRows_sz _) (pairRows_fz _) (int_fz _) hR
end Go.Proofs.Ytlomnjlfmbolkaa.AM
