/-
  Texts of the plain machine, put together: what the law ShopOpens reaches.
-/
import Derived.Test.YtobngncjflogcaaShopOpens5
import Derived.Test.YtobngncjflogcaaShopOpens4
import Derived.Shelf.Strings.Builder1
import Derived.Test.YtobngncjflogcaaProg
import Derived.WalkKit
import Derived.WalkSpells
import Derived.WalkLawsBesides
import Derived.Lib.AppendStr
import Derived.BigQuiet
import Derived.Lib.Hide
set_option linter.unusedVariables false
set_option linter.unusedSimpArgs false
namespace Go.Proofs.Ytobngncjflogcaa.AM
open Go Go.RowKit
set_option maxRecDepth 100000
set_option maxHeartbeats 2000000
def slotT (x : List UInt8) (n : Int) : Int := if 1048576 < x.length then 2 else if n < 0 ∨ (x.length : Int) < n then 3 else 0
def diskT (a1 : List UInt8) (a2 : Int) (b1 : List UInt8) (b2 : Int) : Int := if slotT a1 a2 ≠ 0 then slotT a1 a2 else slotT b1 b2
def lookT (a1 : List UInt8) (a2 : Int) (b1 : List UInt8) (b2 : Int) (i : Int) : Int := if diskT a1 a2 b1 b2 ≠ 0 then diskT a1 a2 b1 b2 else if i < 0 ∨ 2 ≤ i then 1 else 0
structure D4 where
  x1 : List UInt8
  x2 : Int
  x3 : List UInt8
  x4 : Int
  e : Int
def noD (e : Int) : D4 := ⟨[], 0, [], 0, e⟩
def synT (a1 : List UInt8) (a2 : Int) (b1 : List UInt8) (b2 : Int) (i : Int) : D4 := if lookT a1 a2 b1 b2 i ≠ 0 then noD (lookT a1 a2 b1 b2 i)
  else if i = 0 then ⟨a1, a1.length, b1, b2, 0⟩ else ⟨a1, a2, b1, b1.length, 0⟩
def trmT (a1 : List UInt8) (a2 : Int) (b1 : List UInt8) (b2 : Int) (i n : Int) : D4 := if lookT a1 a2 b1 b2 i ≠ 0 then noD (lookT a1 a2 b1 b2 i)
  else if i = 0 then (if n < 0 ∨ (a1.length : Int) < n then noD 1 else ⟨a1.take n.toNat, min a2 n, b1, b2, 0⟩)
  else (if n < 0 ∨ (b1.length : Int) < n then noD 1 else ⟨a1, a2, b1.take n.toNat, min b2 n, 0⟩)
theorem slot_ok {x : List UInt8} {n : Int} (h : slotT x n = 0) : x.length ≤ 1048576 ∧ 0 ≤ n ∧ n ≤ (x.length : Int) := by
  unfold slotT at h
  split at h
  · exact absurd h (by decide)
  · split at h
    · exact absurd h (by decide)
    · omega
theorem disk_ok {a1 b1 : List UInt8} {a2 b2 : Int} (h : diskT a1 a2 b1 b2 = 0) : slotT a1 a2 = 0 ∧ slotT b1 b2 = 0 := by
  unfold diskT at h
  by_cases g : slotT a1 a2 ≠ 0
  · rw [if_pos g] at h; exact absurd h g
  · rw [if_neg g] at h; exact ⟨Decidable.of_not_not g, h⟩
theorem look_ok {a1 b1 : List UInt8} {a2 b2 i : Int} (h : lookT a1 a2 b1 b2 i = 0) : diskT a1 a2 b1 b2 = 0 ∧ (i = 0 ∨ i = 1) := by
  unfold lookT at h
  by_cases g : diskT a1 a2 b1 b2 ≠ 0
  · rw [if_pos g] at h; exact absurd h g
  · rw [if_neg g] at h
    refine ⟨Decidable.of_not_not g, ?_⟩
    split at h
    · exact absurd h (by decide)
    · omega
structure YDk (a1 : List UInt8) (a2 : Int) (b1 : List UInt8) (b2 : Int) where
  m : Nat
  k : Int
  hm : m ≤ 2
  hk : k = (m : Int)
  h0 : 0 < m → slotT a1 a2 = 0
  h1 : 1 < m → slotT b1 b2 = 0
def ac_dck : AC := .seq (.region false [
    ⟨some 1, none, .box 26 4 (.t 0)⟩,
    ⟨some 2, none, .mov (.c (.int .i64 0))⟩])
  (.seq (.seq (.region false [
    ⟨some 5, none, .faddr 0 (.t 1)⟩,
    ⟨some 6, none, .loadn 4 (.t 5)⟩,
    ⟨some 7, none, .mov (.c (.int .i64 0))⟩])
  (.block 0 (.loop (.seq (.region false [
      ⟨some 8, none, .bin .lss (.t 7) (.c (.int .i64 2))⟩])
    (.seq (.cond (.t 8)
      (.skip)
      (.exit 0))
    (.seq (.block 1 (.seq (.region false [
      ⟨some 9, none, .ixa true 2 2 (.t 6) (.t 7)⟩,
      ⟨some 4, none, .alloc 23 [(.string ⟨#[]⟩), (.int .i64 0)]⟩,
      ⟨none, none, .store 2 (.t 4) (.t 9)⟩])
    (.seq (.seq (.region false [
      ⟨some 10, none, .faddr 0 (.t 4)⟩,
      ⟨some 11, none, .load1 (.t 10)⟩,
      ⟨some 12, none, .len true (.t 11)⟩,
      ⟨some 13, none, .bin .gtr (.t 12) (.c (.int .i64 1048576))⟩])
    (.cond (.t 13)
      (.seq (.region false [
        ⟨some 2, none, .mov (.c (.int .i64 2))⟩])
      (.ret))
      (.skip)))
    (.seq (.region false [
      ⟨some 14, none, .faddr 1 (.t 4)⟩,
      ⟨some 15, none, .load1 (.t 14)⟩,
      ⟨some 16, none, .bin .lss (.t 15) (.c (.int .i64 0))⟩,
      ⟨some 17, none, .mov (.t 16)⟩,
      ⟨some 18, some (17, false), .faddr 1 (.t 4)⟩,
      ⟨some 19, some (17, false), .load1 (.t 18)⟩,
      ⟨some 20, some (17, false), .faddr 0 (.t 4)⟩,
      ⟨some 21, some (17, false), .load1 (.t 20)⟩,
      ⟨some 22, some (17, false), .len true (.t 21)⟩,
      ⟨some 23, some (17, false), .bin .gtr (.t 19) (.t 22)⟩,
      ⟨some 24, none, .pick (.t 17) (.c (.bool true)) (.t 23)⟩])
    (.cond (.t 24)
      (.seq (.region false [
        ⟨some 2, none, .mov (.c (.int .i64 3))⟩])
      (.ret))
      (.skip))))))
    (.region false [
      ⟨some 25, none, .bin .add (.t 7) (.c (.int .i64 1))⟩,
      ⟨some 7, none, .mov (.t 25)⟩])))))))
  (.seq (.region false [
    ⟨some 2, none, .mov (.c (.int .i64 0))⟩])
  (.ret)))
theorem ok_dck : FnOk Try.prog 33 Try.f33 ac_dck [.t 2] 1 drawD := ⟨Try.func33, by decide +kernel, by kernel_rfl, by kernel_rfl, by decide +kernel⟩
theorem vc_dck (P : Prim) (hP : P = std) (T T1 : CallT) (a1 : List UInt8) (a2 : Int) (b1 : List UInt8) (b2 : Int)
    (R : S → Prop) (hR : ∀ s0 s' x, x = diskT a1 a2 b1 b2 → Ent s0 s' → Ret [.t 2] [.int .i64 x] s' → R s0) : awp P T T1 ac_dck (S0 [.agg [.str a1, .int .i64 a2, .str b1, .int .i64 b2]] Hp.emp) R (fun _ _ => False) R := by
  cbv
  intro β
  cbv
  repeat' (first
    | (refine And.intro (by first | assumption | decide) ?_; try cbv)
    | (intro β2; try cbv))
  refine ⟨YDk a1 a2 b1 b2, fun y => [(6, .agg [.str a1, .int .i64 a2, .str b1, .int .i64 b2]), (7, .int .i64 y.k)], fun y => [], fun y => 2 - y.m,
    ⟨_, Ent.refl _, ⟨0, 0, by decide, rfl, fun h => absurd h (by decide), fun h => absurd h (by decide)⟩, ⟨rfl, rfl, trivial⟩, trivial⟩, ?_⟩
  rintro ⟨m, k, hm, hk, h0, h1⟩
  cbv
  refine br_cases (fun g => ?_) (fun g => ?_)
  · have h5 : k < 2 := lt_t hP g
    replace hm : m < 2 := by ((try simp only [nc] at *); omega)
    have k0 : P.leP 0 k := le0 hP (by ((try simp only [nc] at *); omega))
    have k1 : P.ltP k 2 := ltI hP (by ((try simp only [nc] at *); omega))
    have k2 : P.i64 (P.add k 1) := by rw [add_eq hP]; exact i64I hP (by ((try simp only [nc] at *); omega))
    have k3 : P.add k 1 = ((m + 1 : Nat) : Int) := by rw [add_eq hP, hk]; ((try simp only [nc] at *); omega)
    have hc : m = 0 ∨ m = 1 := by omega
    rcases hc with rfl | rfl
    · cbv
      have k4 : P.nat k = 0 := by rw [hk]; subst hP; rfl
      refine ⟨k0, k1, 0, k4, ?_⟩
      cbv
      repeat' (first
        | (refine And.intro (by first | assumption | decide) ?_; try cbv)
        | (intro β2; try cbv))
      refine br_cases (fun g => ?_) (fun g => ?_)
      · have g1 : 1048576 < P.slen a1 := lt_t hP g
        rw [slen_eq hP] at g1
        have hx : slotT a1 a2 = 2 := by unfold slotT; rw [if_pos (by ((try simp only [nc] at *); omega))]
        cbv
        exact hR _ _ _ (by unfold diskT; rw [if_pos (by rw [hx]; decide), hx]) (Ent.refl _) rfl
      have g1 : ¬ 1048576 < P.slen a1 := lt_f hP g
      rw [slen_eq hP] at g1
      cbv
      repeat' (first
        | (refine And.intro (by first | assumption | decide) ?_; try cbv)
        | (intro β2; try cbv))
      refine br_cases (fun g => ?_) (fun g => ?_)
      · have g2 : a2 < 0 := lt_t hP g
        have hx : slotT a1 a2 = 3 := by unfold slotT; rw [if_neg (by ((try simp only [nc] at *); omega)), if_pos (.inl g2)]
        cbv
        exact hR _ _ _ (by unfold diskT; rw [if_pos (by rw [hx]; decide), hx]) (Ent.refl _) rfl
      have g2 : ¬ a2 < 0 := lt_f hP g
      cbv
      repeat' (first
        | (refine And.intro (by first | assumption | decide) ?_; try cbv)
        | (intro β2; try cbv))
      refine br_cases (fun g => ?_) (fun g => ?_)
      · have g3 : P.slen a1 < a2 := lt_t hP g
        rw [slen_eq hP] at g3
        have hx : slotT a1 a2 = 3 := by unfold slotT; rw [if_neg (by ((try simp only [nc] at *); omega)), if_pos (.inr g3)]
        cbv
        exact hR _ _ _ (by unfold diskT; rw [if_pos (by rw [hx]; decide), hx]) (Ent.refl _) rfl
      have g3 : ¬ P.slen a1 < a2 := lt_f hP g
      rw [slen_eq hP] at g3
      have hx : slotT a1 a2 = 0 := by unfold slotT; rw [if_neg (by ((try simp only [nc] at *); omega)), if_neg (by ((try simp only [nc] at *); omega))]
      cbv
      repeat' (first
        | (refine And.intro (by first | assumption | decide) ?_; try cbv)
        | (intro β2; try cbv))
      exact ⟨_, Ent.refl _, ⟨1, _, by decide, k3, fun _ => hx, fun h => absurd h (by decide)⟩, ⟨rfl, rfl, trivial⟩, trivial, by show 2 - (0 + 1) < 2 - 0; decide⟩
    · cbv
      have k4 : P.nat k = 1 := by rw [hk]; subst hP; rfl
      refine ⟨k0, k1, 1, k4, ?_⟩
      cbv
      repeat' (first
        | (refine And.intro (by first | assumption | decide) ?_; try cbv)
        | (intro β2; try cbv))
      refine br_cases (fun g => ?_) (fun g => ?_)
      · have g1 : 1048576 < P.slen b1 := lt_t hP g
        rw [slen_eq hP] at g1
        have hx : slotT b1 b2 = 2 := by unfold slotT; rw [if_pos (by ((try simp only [nc] at *); omega))]
        cbv
        exact hR _ _ _ (by unfold diskT; rw [if_neg (fun g => g (h0 (by decide))), hx]) (Ent.refl _) rfl
      have g1 : ¬ 1048576 < P.slen b1 := lt_f hP g
      rw [slen_eq hP] at g1
      cbv
      repeat' (first
        | (refine And.intro (by first | assumption | decide) ?_; try cbv)
        | (intro β2; try cbv))
      refine br_cases (fun g => ?_) (fun g => ?_)
      · have g2 : b2 < 0 := lt_t hP g
        have hx : slotT b1 b2 = 3 := by unfold slotT; rw [if_neg (by ((try simp only [nc] at *); omega)), if_pos (.inl g2)]
        cbv
        exact hR _ _ _ (by unfold diskT; rw [if_neg (fun g => g (h0 (by decide))), hx]) (Ent.refl _) rfl
      have g2 : ¬ b2 < 0 := lt_f hP g
      cbv
      repeat' (first
        | (refine And.intro (by first | assumption | decide) ?_; try cbv)
        | (intro β2; try cbv))
      refine br_cases (fun g => ?_) (fun g => ?_)
      · have g3 : P.slen b1 < b2 := lt_t hP g
        rw [slen_eq hP] at g3
        have hx : slotT b1 b2 = 3 := by unfold slotT; rw [if_neg (by ((try simp only [nc] at *); omega)), if_pos (.inr g3)]
        cbv
        exact hR _ _ _ (by unfold diskT; rw [if_neg (fun g => g (h0 (by decide))), hx]) (Ent.refl _) rfl
      have g3 : ¬ P.slen b1 < b2 := lt_f hP g
      rw [slen_eq hP] at g3
      have hx : slotT b1 b2 = 0 := by unfold slotT; rw [if_neg (by ((try simp only [nc] at *); omega)), if_neg (by ((try simp only [nc] at *); omega))]
      cbv
      repeat' (first
        | (refine And.intro (by first | assumption | decide) ?_; try cbv)
        | (intro β2; try cbv))
      exact ⟨_, Ent.refl _, ⟨2, _, by decide, k3, fun _ => h0 (by decide), fun _ => hx⟩, ⟨rfl, rfl, trivial⟩, trivial, by show 2 - (1 + 1) < 2 - 1; decide⟩
  · have h5 : ¬ k < 2 := lt_f hP g
    have hm2 : m = 2 := by ((try simp only [nc] at *); omega)
    have e : diskT a1 a2 b1 b2 = 0 := by unfold diskT; rw [if_neg (fun g => g (h0 (by omega))), h1 (by omega)]
    cbv
    exact hR _ _ _ e.symm (Ent.refl _) rfl
theorem sp_dck (a1 : List UInt8) (a2 : Int) (b1 : List UInt8) (b2 : Int) : Spec Try.prog 33 [.agg [.str a1, .int .i64 a2, .str b1, .int .i64 b2]] Hp.emp (Is (.int .i64 (diskT a1 a2 b1 b2))) :=
  spec_pure dOk ok_dck [.int .i64 (diskT a1 a2 b1 b2)] (.int _ _) fun R hR => vc_dck std rfl _ _ a1 a2 b1 b2 R fun s s' b h he hr => by subst h; exact hR s s' he hr
def ac_rdk : AC := .seq (.region false [
    ⟨some 1, none, .box 26 4 (.t 0)⟩,
    ⟨some 2, none, .mov (.c (.int .i64 0))⟩])
  (.seq (.seq (.region false [
    ⟨some 5, none, .faddr 0 (.t 1)⟩,
    ⟨some 6, none, .loadn 4 (.t 5)⟩,
    ⟨some 7, none, .mov (.c (.int .i64 0))⟩])
  (.block 0 (.loop (.seq (.region false [
      ⟨some 8, none, .bin .lss (.t 7) (.c (.int .i64 2))⟩])
    (.seq (.cond (.t 8)
      (.skip)
      (.exit 0))
    (.seq (.block 1 (.seq (.region false [
      ⟨some 9, none, .ixa true 2 2 (.t 6) (.t 7)⟩,
      ⟨some 4, none, .alloc 23 [(.string ⟨#[]⟩), (.int .i64 0)]⟩,
      ⟨none, none, .store 2 (.t 4) (.t 9)⟩])
    (.seq (.seq (.region false [
      ⟨some 10, none, .faddr 0 (.t 4)⟩,
      ⟨some 11, none, .load1 (.t 10)⟩,
      ⟨some 12, none, .len true (.t 11)⟩,
      ⟨some 13, none, .bin .gtr (.t 12) (.c (.int .i64 1048576))⟩])
    (.cond (.t 13)
      (.seq (.region false [
        ⟨some 2, none, .mov (.c (.int .i64 2))⟩])
      (.ret))
      (.skip)))
    (.seq (.region false [
      ⟨some 14, none, .faddr 1 (.t 4)⟩,
      ⟨some 15, none, .load1 (.t 14)⟩,
      ⟨some 16, none, .bin .lss (.t 15) (.c (.int .i64 0))⟩,
      ⟨some 17, none, .mov (.t 16)⟩,
      ⟨some 18, some (17, false), .faddr 1 (.t 4)⟩,
      ⟨some 19, some (17, false), .load1 (.t 18)⟩,
      ⟨some 20, some (17, false), .faddr 0 (.t 4)⟩,
      ⟨some 21, some (17, false), .load1 (.t 20)⟩,
      ⟨some 22, some (17, false), .len true (.t 21)⟩,
      ⟨some 23, some (17, false), .bin .gtr (.t 19) (.t 22)⟩,
      ⟨some 24, none, .pick (.t 17) (.c (.bool true)) (.t 23)⟩])
    (.cond (.t 24)
      (.seq (.region false [
        ⟨some 2, none, .mov (.c (.int .i64 3))⟩])
      (.ret))
      (.skip))))))
    (.region false [
      ⟨some 25, none, .bin .add (.t 7) (.c (.int .i64 1))⟩,
      ⟨some 7, none, .mov (.t 25)⟩])))))))
  (.seq (.region false [
    ⟨some 2, none, .mov (.c (.int .i64 0))⟩])
  (.ret)))
theorem ok_rdk : FnOk Try.prog 37 Try.f37 ac_rdk [.t 2] 1 drawD := ⟨Try.func37, by decide +kernel, by kernel_rfl, by kernel_rfl, by decide +kernel⟩
theorem vc_rdk (P : Prim) (hP : P = std) (T T1 : CallT) (a1 : List UInt8) (a2 : Int) (b1 : List UInt8) (b2 : Int)
    (R : S → Prop) (hR : ∀ s0 s' x, x = diskT a1 a2 b1 b2 → Ent s0 s' → Ret [.t 2] [.int .i64 x] s' → R s0) : awp P T T1 ac_rdk (S0 [.agg [.str a1, .int .i64 a2, .str b1, .int .i64 b2]] Hp.emp) R (fun _ _ => False) R := by
  cbv
  intro β
  cbv
  repeat' (first
    | (refine And.intro (by first | assumption | decide) ?_; try cbv)
    | (intro β2; try cbv))
  refine ⟨YDk a1 a2 b1 b2, fun y => [(6, .agg [.str a1, .int .i64 a2, .str b1, .int .i64 b2]), (7, .int .i64 y.k)], fun y => [], fun y => 2 - y.m,
    ⟨_, Ent.refl _, ⟨0, 0, by decide, rfl, fun h => absurd h (by decide), fun h => absurd h (by decide)⟩, ⟨rfl, rfl, trivial⟩, trivial⟩, ?_⟩
  rintro ⟨m, k, hm, hk, h0, h1⟩
  cbv
  refine br_cases (fun g => ?_) (fun g => ?_)
  · have h5 : k < 2 := lt_t hP g
    replace hm : m < 2 := by ((try simp only [nc] at *); omega)
    have k0 : P.leP 0 k := le0 hP (by ((try simp only [nc] at *); omega))
    have k1 : P.ltP k 2 := ltI hP (by ((try simp only [nc] at *); omega))
    have k2 : P.i64 (P.add k 1) := by rw [add_eq hP]; exact i64I hP (by ((try simp only [nc] at *); omega))
    have k3 : P.add k 1 = ((m + 1 : Nat) : Int) := by rw [add_eq hP, hk]; ((try simp only [nc] at *); omega)
    have hc : m = 0 ∨ m = 1 := by omega
    rcases hc with rfl | rfl
    · cbv
      have k4 : P.nat k = 0 := by rw [hk]; subst hP; rfl
      refine ⟨k0, k1, 0, k4, ?_⟩
      cbv
      repeat' (first
        | (refine And.intro (by first | assumption | decide) ?_; try cbv)
        | (intro β2; try cbv))
      refine br_cases (fun g => ?_) (fun g => ?_)
      · have g1 : 1048576 < P.slen a1 := lt_t hP g
        rw [slen_eq hP] at g1
        have hx : slotT a1 a2 = 2 := by unfold slotT; rw [if_pos (by ((try simp only [nc] at *); omega))]
        cbv
        exact hR _ _ _ (by unfold diskT; rw [if_pos (by rw [hx]; decide), hx]) (Ent.refl _) rfl
      have g1 : ¬ 1048576 < P.slen a1 := lt_f hP g
      rw [slen_eq hP] at g1
      cbv
      repeat' (first
        | (refine And.intro (by first | assumption | decide) ?_; try cbv)
        | (intro β2; try cbv))
      refine br_cases (fun g => ?_) (fun g => ?_)
      · have g2 : a2 < 0 := lt_t hP g
        have hx : slotT a1 a2 = 3 := by unfold slotT; rw [if_neg (by ((try simp only [nc] at *); omega)), if_pos (.inl g2)]
        cbv
        exact hR _ _ _ (by unfold diskT; rw [if_pos (by rw [hx]; decide), hx]) (Ent.refl _) rfl
      have g2 : ¬ a2 < 0 := lt_f hP g
      cbv
      repeat' (first
        | (refine And.intro (by first | assumption | decide) ?_; try cbv)
        | (intro β2; try cbv))
      refine br_cases (fun g => ?_) (fun g => ?_)
      · have g3 : P.slen a1 < a2 := lt_t hP g
        rw [slen_eq hP] at g3
        have hx : slotT a1 a2 = 3 := by unfold slotT; rw [if_neg (by ((try simp only [nc] at *); omega)), if_pos (.inr g3)]
        cbv
        exact hR _ _ _ (by unfold diskT; rw [if_pos (by rw [hx]; decide), hx]) (Ent.refl _) rfl
      have g3 : ¬ P.slen a1 < a2 := lt_f hP g
      rw [slen_eq hP] at g3
      have hx : slotT a1 a2 = 0 := by unfold slotT; rw [if_neg (by ((try simp only [nc] at *); omega)), if_neg (by ((try simp only [nc] at *); omega))]
      cbv
      repeat' (first
        | (refine And.intro (by first | assumption | decide) ?_; try cbv)
        | (intro β2; try cbv))
      exact ⟨_, Ent.refl _, ⟨1, _, by decide, k3, fun _ => hx, fun h => absurd h (by decide)⟩, ⟨rfl, rfl, trivial⟩, trivial, by show 2 - (0 + 1) < 2 - 0; decide⟩
    · cbv
      have k4 : P.nat k = 1 := by rw [hk]; subst hP; rfl
      refine ⟨k0, k1, 1, k4, ?_⟩
      cbv
      repeat' (first
        | (refine And.intro (by first | assumption | decide) ?_; try cbv)
        | (intro β2; try cbv))
      refine br_cases (fun g => ?_) (fun g => ?_)
      · have g1 : 1048576 < P.slen b1 := lt_t hP g
        rw [slen_eq hP] at g1
        have hx : slotT b1 b2 = 2 := by unfold slotT; rw [if_pos (by ((try simp only [nc] at *); omega))]
        cbv
        exact hR _ _ _ (by unfold diskT; rw [if_neg (fun g => g (h0 (by decide))), hx]) (Ent.refl _) rfl
      have g1 : ¬ 1048576 < P.slen b1 := lt_f hP g
      rw [slen_eq hP] at g1
      cbv
      repeat' (first
        | (refine And.intro (by first | assumption | decide) ?_; try cbv)
        | (intro β2; try cbv))
      refine br_cases (fun g => ?_) (fun g => ?_)
      · have g2 : b2 < 0 := lt_t hP g
        have hx : slotT b1 b2 = 3 := by unfold slotT; rw [if_neg (by ((try simp only [nc] at *); omega)), if_pos (.inl g2)]
        cbv
        exact hR _ _ _ (by unfold diskT; rw [if_neg (fun g => g (h0 (by decide))), hx]) (Ent.refl _) rfl
      have g2 : ¬ b2 < 0 := lt_f hP g
      cbv
      repeat' (first
        | (refine And.intro (by first | assumption | decide) ?_; try cbv)
        | (intro β2; try cbv))
      refine br_cases (fun g => ?_) (fun g => ?_)
      · have g3 : P.slen b1 < b2 := lt_t hP g
        rw [slen_eq hP] at g3
        have hx : slotT b1 b2 = 3 := by unfold slotT; rw [if_neg (by ((try simp only [nc] at *); omega)), if_pos (.inr g3)]
        cbv
        exact hR _ _ _ (by unfold diskT; rw [if_neg (fun g => g (h0 (by decide))), hx]) (Ent.refl _) rfl
      have g3 : ¬ P.slen b1 < b2 := lt_f hP g
      rw [slen_eq hP] at g3
      have hx : slotT b1 b2 = 0 := by unfold slotT; rw [if_neg (by ((try simp only [nc] at *); omega)), if_neg (by ((try simp only [nc] at *); omega))]
      cbv
      repeat' (first
        | (refine And.intro (by first | assumption | decide) ?_; try cbv)
        | (intro β2; try cbv))
      exact ⟨_, Ent.refl _, ⟨2, _, by decide, k3, fun _ => h0 (by decide), fun _ => hx⟩, ⟨rfl, rfl, trivial⟩, trivial, by show 2 - (1 + 1) < 2 - 1; decide⟩
  · have h5 : ¬ k < 2 := lt_f hP g
    have hm2 : m = 2 := by ((try simp only [nc] at *); omega)
    have e : diskT a1 a2 b1 b2 = 0 := by unfold diskT; rw [if_neg (fun g => g (h0 (by omega))), h1 (by omega)]
    cbv
    exact hR _ _ _ e.symm (Ent.refl _) rfl
theorem sp_rdk (a1 : List UInt8) (a2 : Int) (b1 : List UInt8) (b2 : Int) : Spec Try.prog 37 [.agg [.str a1, .int .i64 a2, .str b1, .int .i64 b2]] Hp.emp (Is (.int .i64 (diskT a1 a2 b1 b2))) :=
  spec_pure dOk ok_rdk [.int .i64 (diskT a1 a2 b1 b2)] (.int _ _) fun R hR => vc_rdk std rfl _ _ a1 a2 b1 b2 R fun s s' b h he hr => by subst h; exact hR s s' he hr
def ac_dlk : AC := .seq (.region false [
    ⟨some 2, none, .box 26 4 (.t 0)⟩,
    ⟨some 4, none, .mov (.c (.int .i64 0))⟩])
  (.seq (.seq (.region false [
    ⟨some 6, none, .loadn 4 (.t 2)⟩,
    ⟨some 7, none, .call 33 [(.t 6)]⟩,
    ⟨some 5, none, .mov (.t 7)⟩])
  (.seq (.region false [
    ⟨some 8, none, .mov (.t 5)⟩,
    ⟨some 9, none, .bin .neq (.t 8) (.c (.int .i64 0))⟩])
  (.cond (.t 9)
    (.seq (.region false [
      ⟨some 10, none, .mov (.t 5)⟩,
      ⟨some 4, none, .mov (.t 10)⟩])
    (.ret))
    (.skip))))
  (.seq (.seq (.region false [
    ⟨some 11, none, .mov (.t 1)⟩,
    ⟨some 12, none, .bin .lss (.t 11) (.c (.int .i64 0))⟩,
    ⟨some 13, none, .mov (.t 12)⟩,
    ⟨some 14, some (13, false), .mov (.t 1)⟩,
    ⟨some 15, some (13, false), .bin .geq (.t 14) (.c (.int .i64 2))⟩,
    ⟨some 16, none, .pick (.t 13) (.c (.bool true)) (.t 15)⟩])
  (.cond (.t 16)
    (.seq (.region false [
      ⟨some 4, none, .mov (.c (.int .i64 1))⟩])
    (.ret))
    (.skip)))
  (.seq (.region false [
    ⟨some 4, none, .mov (.c (.int .i64 0))⟩])
  (.ret))))
theorem ok_dlk : FnOk Try.prog 101 Try.f101 ac_dlk [.t 4] 2 drawD := ⟨Try.func101, by decide +kernel, by kernel_rfl, by kernel_rfl, by decide +kernel⟩
theorem vc_dlk (P : Prim) (hP : P = std) (T T1 : CallT) (a1 : List UInt8) (a2 : Int) (b1 : List UInt8) (b2 i c : Int) (h1 : Ans T 33 [.agg [.str a1, .int .i64 a2, .str b1, .int .i64 b2]] (.int .i64 c)) (r : Int) (hr : (if c ≠ 0 then c else if i < 0 ∨ 2 ≤ i then 1 else 0) = r)
    (R : S → Prop) (hR : ∀ s0 s' x, x = r → Ent s0 s' → Ret [.t 4] [.int .i64 x] s' → R s0) : awp P T T1 ac_dlk (S0 [.agg [.str a1, .int .i64 a2, .str b1, .int .i64 b2], .int .i64 i] Hp.emp) R (fun _ _ => False) R := by
  cbv
  intro β
  cbv
  repeat' (first
    | (refine And.intro (by first | assumption | decide) ?_; try cbv)
    | (intro β2; try cbv))
  refine h1 _ _ ?_
  cbv
  refine br_cases (fun g => ?_) (fun g => ?_)
  · rw [if_pos (ne_t hP g)] at hr
    cbv
    exact hR _ _ _ hr (Ent.refl _) rfl
  rw [if_neg (fun x => x (ne_f hP g))] at hr
  cbv
  refine br_cases (fun g => ?_) (fun g => ?_)
  · rw [if_pos (.inl (lt_t hP g))] at hr
    cbv
    exact hR _ _ _ hr (Ent.refl _) rfl
  have g1 := lt_f hP g
  cbv
  refine br_cases (fun g => ?_) (fun g => ?_)
  · rw [if_pos (.inr (le_t hP g))] at hr
    cbv
    exact hR _ _ _ hr (Ent.refl _) rfl
  have g2 := le_f hP g
  rw [if_neg (by omega)] at hr
  cbv
  exact hR _ _ _ hr (Ent.refl _) rfl
theorem sp_dlk (a1 : List UInt8) (a2 : Int) (b1 : List UInt8) (b2 i : Int) : Spec Try.prog 101 [.agg [.str a1, .int .i64 a2, .str b1, .int .i64 b2], .int .i64 i] Hp.emp (Is (.int .i64 (lookT a1 a2 b1 b2 i))) :=
  spec_pure dOk ok_dlk [.int .i64 (lookT a1 a2 b1 b2 i)] (.int _ _) fun R hR => vc_dlk std rfl _ _ a1 a2 b1 b2 i _ (ansW (sp_dck a1 a2 b1 b2) (fun h => .cons (.same _) .nil) rfl) _ rfl R fun s s' b h he hr => by subst h; exact hR s s' he hr
def ac_dsy : AC := .seq (.region false [
    ⟨some 2, none, .box 26 4 (.t 0)⟩,
    ⟨some 4, none, .alloc 26 [(.string ⟨#[]⟩), (.int .i64 0), (.string ⟨#[]⟩), (.int .i64 0)]⟩,
    ⟨some 5, none, .mov (.c (.int .i64 0))⟩])
  (.seq (.seq (.region false [
    ⟨some 7, none, .loadn 4 (.t 2)⟩,
    ⟨some 8, none, .mov (.t 1)⟩,
    ⟨some 9, none, .call 101 [(.t 7), (.t 8)]⟩,
    ⟨some 6, none, .mov (.t 9)⟩])
  (.seq (.region false [
    ⟨some 10, none, .mov (.t 6)⟩,
    ⟨some 11, none, .bin .neq (.t 10) (.c (.int .i64 0))⟩])
  (.cond (.t 11)
    (.seq (.region false [
      ⟨some 12, none, .build [(.string ⟨#[]⟩), (.int .i64 0), (.string ⟨#[]⟩), (.int .i64 0)] []⟩,
      ⟨some 13, none, .mov (.t 6)⟩,
      ⟨none, none, .store 4 (.t 4) (.t 12)⟩,
      ⟨some 5, none, .mov (.t 13)⟩])
    (.ret))
    (.skip))))
  (.seq (.region false [
    ⟨some 14, none, .mov (.t 1)⟩,
    ⟨some 15, none, .mov (.t 1)⟩,
    ⟨some 16, none, .faddr 0 (.t 2)⟩,
    ⟨some 17, none, .iarr 2 2 (.t 16) (.t 15)⟩,
    ⟨some 18, none, .faddr 0 (.t 17)⟩,
    ⟨some 19, none, .load1 (.t 18)⟩,
    ⟨some 20, none, .len true (.t 19)⟩,
    ⟨some 21, none, .faddr 0 (.t 2)⟩,
    ⟨some 22, none, .iarr 2 2 (.t 21) (.t 14)⟩,
    ⟨some 23, none, .faddr 1 (.t 22)⟩,
    ⟨none, none, .store 1 (.t 23) (.t 20)⟩])
  (.seq (.region false [
    ⟨some 24, none, .loadn 4 (.t 2)⟩,
    ⟨none, none, .store 4 (.t 4) (.t 24)⟩,
    ⟨some 5, none, .mov (.c (.int .i64 0))⟩])
  (.ret))))
theorem ok_dsy : FnOk Try.prog 72 Try.f72 ac_dsy [.cn 4 4, .t 5] 2 drawD := ⟨Try.func72, by decide +kernel, by kernel_rfl, by kernel_rfl, by decide +kernel⟩
theorem vc_dsy (P : Prim) (hP : P = std) (T T1 : CallT) (a1 : List UInt8) (a2 : Int) (b1 : List UInt8) (b2 i : Int) (c : Int) (hc : c = lookT a1 a2 b1 b2 i) (h1 : Ans T 101 [.agg [.str a1, .int .i64 a2, .str b1, .int .i64 b2], .int .i64 i] (.int .i64 c)) (r : D4) (hr : synT a1 a2 b1 b2 i = r)
    (R : S → Prop) (hR : ∀ s0 s' x1 x2 x3 x4 e, (⟨x1, x2, x3, x4, e⟩ : D4) = r → Ent s0 s' → Ret [.cn 4 4, .t 5] [.agg [.str x1, .int .i64 x2, .str x3, .int .i64 x4], .int .i64 e] s' → R s0) : awp P T T1 ac_dsy (S0 [.agg [.str a1, .int .i64 a2, .str b1, .int .i64 b2], .int .i64 i] Hp.emp) R (fun _ _ => False) R := by
  have a0 : P.leP 0 0 := le0 hP (by decide)
  have a01 : P.leP 0 1 := le0 hP (by decide)
  have l0 : P.ltP 0 2 := ltI hP (by decide)
  have l1 : P.ltP 1 2 := ltI hP (by decide)
  have n0 : P.nat 0 = 0 := by subst hP; rfl
  have n1 : P.nat 1 = 1 := by subst hP; rfl
  unfold synT at hr
  cbv
  intro β
  cbv
  repeat' (first
    | (refine And.intro (by first | assumption | decide) ?_; try cbv)
    | (intro β2; try cbv))
  refine h1 _ _ ?_
  clear h1
  cbv
  refine br_cases (fun g => ?_) (fun g => ?_)
  · rw [← hc, if_pos (ne_t hP g)] at hr
    cbv
    repeat' (first
      | (refine And.intro (by first | assumption | decide) ?_; try cbv)
      | (intro β2; try cbv))
    exact hR _ _ _ _ _ _ _ hr (Ent.refl _) ⟨rfl, rfl, Nat.zero_lt_succ 0, Nat.le_refl 4, rfl⟩
  have g0 : c = 0 := ne_f hP g
  rw [← hc, if_neg (fun x => x g0)] at hr
  obtain ⟨hd, hi⟩ := look_ok (hc.symm.trans g0)
  obtain ⟨ha, hb⟩ := disk_ok hd
  obtain ⟨ha1, ha2, ha3⟩ := slot_ok ha
  obtain ⟨hb1, hb2, hb3⟩ := slot_ok hb
  clear hc g
  rcases hi with rfl | rfl
  · have e1 : P.slen a1 = (a1.length : Int) := slen_eq hP _
    rw [if_pos rfl] at hr
    cbv
    repeat' (first
      | (refine And.intro (by first | assumption | decide) ?_; try cbv)
      | (refine ⟨0, n0, ?_⟩; try cbv)
      | (intro β2; try cbv))
    exact hR _ _ _ _ _ _ _ ((congrArg (fun x => (⟨a1, x, b1, b2, 0⟩ : D4)) e1).trans hr) (Ent.refl _) ⟨rfl, rfl, Nat.zero_lt_succ 0, Nat.le_refl 4, rfl⟩
  · have e1 : P.slen b1 = (b1.length : Int) := slen_eq hP _
    rw [if_neg (by decide)] at hr
    cbv
    repeat' (first
      | (refine And.intro (by first | assumption | decide) ?_; try cbv)
      | (refine ⟨1, n1, ?_⟩; try cbv)
      | (intro β2; try cbv))
    exact hR _ _ _ _ _ _ _ ((congrArg (fun x => (⟨a1, a2, b1, x, 0⟩ : D4)) e1).trans hr) (Ent.refl _) ⟨rfl, rfl, Nat.zero_lt_succ 0, Nat.le_refl 4, rfl⟩
theorem sp_dsy (a1 : List UInt8) (a2 : Int) (b1 : List UInt8) (b2 i : Int) : Spec Try.prog 72 [.agg [.str a1, .int .i64 a2, .str b1, .int .i64 b2], .int .i64 i] Hp.emp (Is (.tup [.agg [.str (synT a1 a2 b1 b2 i).x1, .int .i64 (synT a1 a2 b1 b2 i).x2, .str (synT a1 a2 b1 b2 i).x3, .int .i64 (synT a1 a2 b1 b2 i).x4], .int .i64 (synT a1 a2 b1 b2 i).e])) :=
  spec_pure dOk ok_dsy [.agg [.str (synT a1 a2 b1 b2 i).x1, .int .i64 (synT a1 a2 b1 b2 i).x2, .str (synT a1 a2 b1 b2 i).x3, .int .i64 (synT a1 a2 b1 b2 i).x4], .int .i64 (synT a1 a2 b1 b2 i).e] (.tup _ (by simp; exact ⟨.agg _ (by simp; exact ⟨.str _, .int _ _, .str _, .int _ _⟩), .int _ _⟩)) fun R hR => vc_dsy std rfl _ _ a1 a2 b1 b2 i _ rfl (ansW (sp_dlk a1 a2 b1 b2 i) (fun h => .cons (.same _) (.cons (.same _) .nil)) rfl) (synT a1 a2 b1 b2 i) rfl R
    fun s s' x1 x2 x3 x4 e h he hr => hR s s' he (by rw [← h]; exact hr)
def ac_dtr : AC := .seq (.region false [
    ⟨some 3, none, .box 26 4 (.t 0)⟩,
    ⟨some 6, none, .alloc 26 [(.string ⟨#[]⟩), (.int .i64 0), (.string ⟨#[]⟩), (.int .i64 0)]⟩,
    ⟨some 7, none, .mov (.c (.int .i64 0))⟩])
  (.seq (.seq (.region false [
    ⟨some 10, none, .loadn 4 (.t 3)⟩,
    ⟨some 11, none, .mov (.t 1)⟩,
    ⟨some 12, none, .call 101 [(.t 10), (.t 11)]⟩,
    ⟨some 8, none, .mov (.t 12)⟩])
  (.seq (.region false [
    ⟨some 13, none, .mov (.t 8)⟩,
    ⟨some 14, none, .bin .neq (.t 13) (.c (.int .i64 0))⟩])
  (.cond (.t 14)
    (.seq (.region false [
      ⟨some 15, none, .build [(.string ⟨#[]⟩), (.int .i64 0), (.string ⟨#[]⟩), (.int .i64 0)] []⟩,
      ⟨some 16, none, .mov (.t 8)⟩,
      ⟨none, none, .store 4 (.t 6) (.t 15)⟩,
      ⟨some 7, none, .mov (.t 16)⟩])
    (.ret))
    (.skip))))
  (.seq (.region false [
    ⟨some 17, none, .mov (.t 1)⟩,
    ⟨some 18, none, .faddr 0 (.t 3)⟩,
    ⟨some 19, none, .iarr 2 2 (.t 18) (.t 17)⟩,
    ⟨some 9, none, .mov (.t 19)⟩])
  (.seq (.seq (.region false [
    ⟨some 20, none, .mov (.t 2)⟩,
    ⟨some 21, none, .bin .lss (.t 20) (.c (.int .i64 0))⟩,
    ⟨some 22, none, .mov (.t 21)⟩,
    ⟨some 23, some (22, false), .mov (.t 2)⟩,
    ⟨some 24, some (22, false), .mov (.t 9)⟩,
    ⟨some 25, some (22, false), .nilchk (.t 24)⟩,
    ⟨some 26, some (22, false), .faddr 0 (.t 25)⟩,
    ⟨some 27, some (22, false), .load1 (.t 26)⟩,
    ⟨some 28, some (22, false), .len true (.t 27)⟩,
    ⟨some 29, some (22, false), .bin .gtr (.t 23) (.t 28)⟩,
    ⟨some 30, none, .pick (.t 22) (.c (.bool true)) (.t 29)⟩])
  (.cond (.t 30)
    (.seq (.region false [
      ⟨some 31, none, .build [(.string ⟨#[]⟩), (.int .i64 0), (.string ⟨#[]⟩), (.int .i64 0)] []⟩,
      ⟨none, none, .store 4 (.t 6) (.t 31)⟩,
      ⟨some 7, none, .mov (.c (.int .i64 1))⟩])
    (.ret))
    (.skip)))
  (.seq (.region false [
    ⟨some 32, none, .mov (.t 9)⟩,
    ⟨some 33, none, .mov (.t 9)⟩,
    ⟨some 34, none, .nilchk (.t 33)⟩,
    ⟨some 35, none, .faddr 0 (.t 34)⟩,
    ⟨some 36, none, .load1 (.t 35)⟩,
    ⟨some 37, none, .mov (.t 2)⟩,
    ⟨some 38, none, .slstr (.t 36) none (some (.t 37))⟩,
    ⟨some 39, none, .nilchk (.t 32)⟩,
    ⟨some 40, none, .faddr 0 (.t 39)⟩,
    ⟨none, none, .store 1 (.t 40) (.t 38)⟩])
  (.seq (.region false [
    ⟨some 41, none, .mov (.t 9)⟩,
    ⟨some 42, none, .mov (.t 9)⟩,
    ⟨some 43, none, .nilchk (.t 42)⟩,
    ⟨some 44, none, .faddr 1 (.t 43)⟩,
    ⟨some 45, none, .load1 (.t 44)⟩,
    ⟨some 46, none, .mov (.t 2)⟩,
    ⟨some 47, none, .mm false (.t 45) (.t 46)⟩,
    ⟨some 48, none, .nilchk (.t 41)⟩,
    ⟨some 49, none, .faddr 1 (.t 48)⟩,
    ⟨none, none, .store 1 (.t 49) (.t 47)⟩])
  (.seq (.region false [
    ⟨some 50, none, .loadn 4 (.t 3)⟩,
    ⟨none, none, .store 4 (.t 6) (.t 50)⟩,
    ⟨some 7, none, .mov (.c (.int .i64 0))⟩])
  (.ret)))))))
theorem ok_dtr : FnOk Try.prog 71 Try.f71 ac_dtr [.cn 6 4, .t 7] 3 drawD := ⟨Try.func71, by decide +kernel, by kernel_rfl, by kernel_rfl, by decide +kernel⟩
theorem vc_dtr (P : Prim) (hP : P = std) (T T1 : CallT) (a1 : List UInt8) (a2 : Int) (b1 : List UInt8) (b2 i : Int) (n : Int) (c : Int) (hc : c = lookT a1 a2 b1 b2 i) (h1 : Ans T 101 [.agg [.str a1, .int .i64 a2, .str b1, .int .i64 b2], .int .i64 i] (.int .i64 c)) (r : D4) (hr : trmT a1 a2 b1 b2 i n = r)
    (R : S → Prop) (hR : ∀ s0 s' x1 x2 x3 x4 e, (⟨x1, x2, x3, x4, e⟩ : D4) = r → Ent s0 s' → Ret [.cn 6 4, .t 7] [.agg [.str x1, .int .i64 x2, .str x3, .int .i64 x4], .int .i64 e] s' → R s0) : awp P T T1 ac_dtr (S0 [.agg [.str a1, .int .i64 a2, .str b1, .int .i64 b2], .int .i64 i, .int .i64 n] Hp.emp) R (fun _ _ => False) R := by
  have a0 : P.leP 0 0 := le0 hP (by decide)
  have a01 : P.leP 0 1 := le0 hP (by decide)
  have l0 : P.ltP 0 2 := ltI hP (by decide)
  have l1 : P.ltP 1 2 := ltI hP (by decide)
  have n0 : P.nat 0 = 0 := by subst hP; rfl
  have n1 : P.nat 1 = 1 := by subst hP; rfl
  unfold trmT at hr
  cbv
  intro β
  cbv
  repeat' (first
    | (refine And.intro (by first | assumption | decide) ?_; try cbv)
    | (intro β2; try cbv))
  refine h1 _ _ ?_
  clear h1
  cbv
  refine br_cases (fun g => ?_) (fun g => ?_)
  · rw [← hc, if_pos (ne_t hP g)] at hr
    cbv
    repeat' (first
      | (refine And.intro (by first | assumption | decide) ?_; try cbv)
      | (intro β2; try cbv))
    exact hR _ _ _ _ _ _ _ hr (Ent.refl _) ⟨rfl, rfl, Nat.zero_lt_succ 0, Nat.le_refl 4, rfl⟩
  have g0 : c = 0 := ne_f hP g
  rw [← hc, if_neg (fun x => x g0)] at hr
  obtain ⟨hd, hi⟩ := look_ok (hc.symm.trans g0)
  obtain ⟨ha, hb⟩ := disk_ok hd
  obtain ⟨ha1, ha2, ha3⟩ := slot_ok ha
  obtain ⟨hb1, hb2, hb3⟩ := slot_ok hb
  clear hc g
  rcases hi with rfl | rfl
  · rw [if_pos rfl] at hr
    cbv
    repeat' (first
      | (refine And.intro (by first | assumption | decide) ?_; try cbv)
      | (refine ⟨0, n0, ?_⟩; try cbv)
      | (intro β2; try cbv))
    refine br_cases (fun g => ?_) (fun g => ?_)
    · rw [if_pos (.inl (lt_t hP g))] at hr
      cbv
      repeat' (first
        | (refine And.intro (by first | assumption | decide) ?_; try cbv)
        | (refine ⟨0, n0, ?_⟩; try cbv)
        | (intro β2; try cbv))
      exact hR _ _ _ _ _ _ _ hr (Ent.refl _) ⟨rfl, rfl, Nat.zero_lt_succ 0, Nat.le_refl 4, rfl⟩
    have g1 := lt_f hP g
    cbv
    repeat' (first
      | (refine And.intro (by first | assumption | decide) ?_; try cbv)
      | (refine ⟨0, n0, ?_⟩; try cbv)
      | (intro β2; try cbv))
    refine br_cases (fun g => ?_) (fun g => ?_)
    · have g2 : P.slen a1 < n := lt_t hP g
      rw [slen_eq hP] at g2
      rw [if_pos (.inr g2)] at hr
      cbv
      repeat' (first
        | (refine And.intro (by first | assumption | decide) ?_; try cbv)
        | (refine ⟨0, n0, ?_⟩; try cbv)
        | (intro β2; try cbv))
      exact hR _ _ _ _ _ _ _ hr (Ent.refl _) ⟨rfl, rfl, Nat.zero_lt_succ 0, Nat.le_refl 4, rfl⟩
    have g2 : ¬ P.slen a1 < n := lt_f hP g
    rw [slen_eq hP] at g2
    have m1 : P.leP 0 n := le0 hP (by omega)
    have m2 : P.leP n (P.slen a1) := leI hP (by rw [slen_eq hP]; ((try simp only [nc] at *); omega))
    have e1 : P.ssub a1 0 n = a1.take n.toNat := by subst hP; rfl
    have e2 : P.mn a2 n = min a2 n := by subst hP; rfl
    rw [if_neg (by ((try simp only [nc] at *); omega)), ← e1, ← e2] at hr
    cbv
    repeat' (first
      | (refine And.intro (by first | assumption | decide) ?_; try cbv)
      | (refine ⟨0, n0, ?_⟩; try cbv)
      | (intro β2; try cbv))
    exact hR _ _ _ _ _ _ _ hr (Ent.refl _) ⟨rfl, rfl, Nat.zero_lt_succ 0, Nat.le_refl 4, rfl⟩
  · rw [if_neg (by decide)] at hr
    cbv
    repeat' (first
      | (refine And.intro (by first | assumption | decide) ?_; try cbv)
      | (refine ⟨1, n1, ?_⟩; try cbv)
      | (intro β2; try cbv))
    refine br_cases (fun g => ?_) (fun g => ?_)
    · rw [if_pos (.inl (lt_t hP g))] at hr
      cbv
      repeat' (first
        | (refine And.intro (by first | assumption | decide) ?_; try cbv)
        | (refine ⟨1, n1, ?_⟩; try cbv)
        | (intro β2; try cbv))
      exact hR _ _ _ _ _ _ _ hr (Ent.refl _) ⟨rfl, rfl, Nat.zero_lt_succ 0, Nat.le_refl 4, rfl⟩
    have g1 := lt_f hP g
    cbv
    repeat' (first
      | (refine And.intro (by first | assumption | decide) ?_; try cbv)
      | (refine ⟨1, n1, ?_⟩; try cbv)
      | (intro β2; try cbv))
    refine br_cases (fun g => ?_) (fun g => ?_)
    · have g2 : P.slen b1 < n := lt_t hP g
      rw [slen_eq hP] at g2
      rw [if_pos (.inr g2)] at hr
      cbv
      repeat' (first
        | (refine And.intro (by first | assumption | decide) ?_; try cbv)
        | (refine ⟨1, n1, ?_⟩; try cbv)
        | (intro β2; try cbv))
      exact hR _ _ _ _ _ _ _ hr (Ent.refl _) ⟨rfl, rfl, Nat.zero_lt_succ 0, Nat.le_refl 4, rfl⟩
    have g2 : ¬ P.slen b1 < n := lt_f hP g
    rw [slen_eq hP] at g2
    have m1 : P.leP 0 n := le0 hP (by omega)
    have m2 : P.leP n (P.slen b1) := leI hP (by rw [slen_eq hP]; ((try simp only [nc] at *); omega))
    have e1 : P.ssub b1 0 n = b1.take n.toNat := by subst hP; rfl
    have e2 : P.mn b2 n = min b2 n := by subst hP; rfl
    rw [if_neg (by ((try simp only [nc] at *); omega)), ← e1, ← e2] at hr
    cbv
    repeat' (first
      | (refine And.intro (by first | assumption | decide) ?_; try cbv)
      | (refine ⟨1, n1, ?_⟩; try cbv)
      | (intro β2; try cbv))
    exact hR _ _ _ _ _ _ _ hr (Ent.refl _) ⟨rfl, rfl, Nat.zero_lt_succ 0, Nat.le_refl 4, rfl⟩
theorem sp_dtr (a1 : List UInt8) (a2 : Int) (b1 : List UInt8) (b2 i : Int) (n : Int) : Spec Try.prog 71 [.agg [.str a1, .int .i64 a2, .str b1, .int .i64 b2], .int .i64 i, .int .i64 n] Hp.emp (Is (.tup [.agg [.str (trmT a1 a2 b1 b2 i n).x1, .int .i64 (trmT a1 a2 b1 b2 i n).x2, .str (trmT a1 a2 b1 b2 i n).x3, .int .i64 (trmT a1 a2 b1 b2 i n).x4], .int .i64 (trmT a1 a2 b1 b2 i n).e])) :=
  spec_pure dOk ok_dtr [.agg [.str (trmT a1 a2 b1 b2 i n).x1, .int .i64 (trmT a1 a2 b1 b2 i n).x2, .str (trmT a1 a2 b1 b2 i n).x3, .int .i64 (trmT a1 a2 b1 b2 i n).x4], .int .i64 (trmT a1 a2 b1 b2 i n).e] (.tup _ (by simp; exact ⟨.agg _ (by simp; exact ⟨.str _, .int _ _, .str _, .int _ _⟩), .int _ _⟩)) fun R hR => vc_dtr std rfl _ _ a1 a2 b1 b2 i n _ rfl (ansW (sp_dlk a1 a2 b1 b2 i) (fun h => .cons (.same _) (.cons (.same _) .nil)) rfl) (trmT a1 a2 b1 b2 i n) rfl R
    fun s s' x1 x2 x3 x4 e h he hr => hR s s' he (by rw [← h]; exact hr)
end Go.Proofs.Ytobngncjflogcaa.AM

set_option linter.unusedVariables false
set_option linter.unusedSimpArgs false
namespace Go.Proofs
open Go.Shelf Go.RowKit Go.Lib
def Try.lays169_ren : Go.Shelf.Ren := ⟨fun | 169 => 56 | n => n, fun | 70 => 110 | 9 => 9 | 0 => 0 | 72 => 113 | 37 => 111 | 127 => 157 | 3 => 3 | 5 => 5 | n => n, fun | n => n⟩

theorem Try.lays169 : Go.Proofs.Lays.n169 Try.prog Try.lays169_ren := {
  mixed := by kernel_rfl
  f169 := Try.func56.trans (congrArg some (by kernel_rfl))
  t0 := Try.underlying0
  a0 := Try.isAgg0
  z0 := Try.sizeOf0
  v0 := Try.zeroValue0
  t3 := Try.underlying3
  a3 := Try.isAgg3
  z3 := Try.sizeOf3
  v3 := Try.zeroValue3
  t9 := Try.underlying9
  a9 := Try.isAgg9
  z9 := Try.sizeOf9
  v9 := Try.zeroValue9
  t37 := Try.underlying111
  a37 := Try.isAgg111
  z37 := Try.sizeOf111
  v37 := Try.zeroValue111
  t70 := Try.underlying110
  a70 := Try.isAgg110
  z70 := Try.sizeOf110
  v70 := Try.zeroValue110
  t72 := Try.underlying113
  a72 := Try.isAgg113
  z72 := Try.sizeOf113
  v72 := Try.zeroValue113
  t127 := Try.underlying157
  a127 := Try.isAgg157
  z127 := Try.sizeOf157
  v127 := Try.zeroValue157 }

theorem Try.Builder_Extra_169 : Builder.Extra Try.prog Try.lays169_ren := {
  sizeBuilder := by kernel_rfl
  liesBuilder := by kernel_rfl
  t5 := Try.underlying5
  a5 := Try.isAgg5
  z5 := Try.sizeOf5
  v5 := Try.zeroValue5
  infoByte := by kernel_rfl
  cellsByte := by kernel_rfl
  sizeByte := by kernel_rfl
  neB5 := by decide }

theorem Try.Builder_String_any (B b : Nat) (l : List UInt8) (w : World) (h : Lib.IsBuilder 113 5 B b (Lib.byteCells l) w) (hBw : B ≤ w.heap.size) :
    Calls Try.prog 56 #[.pointer (some ⟨b, 0, none⟩)] w fun e w' => e = .returned (.string ⟨l.toArray⟩) ∧ Below B w w' := Any.Builder_String_any Try.lays169 Try.Builder_Extra_169 B b l w h hBw

end Go.Proofs
namespace Go.Proofs.Ytobngncjflogcaa.Bld
open Go Go.RowKit
def T : TypeId := 113
def E : TypeId := 5
set_option maxRecDepth 100000 in
set_option maxHeartbeats 4000000 in
theorem check_used (b : Nat) (w : World) (h0 : w.cell? ⟨b, 0, none⟩ = some (.pointer (some ⟨b, 0, none⟩))) :
    Calls Try.prog 91 #[.pointer (some ⟨b, 0, none⟩)] w fun e w' => e = .returned (.tuple #[]) ∧ w' = w := by
  obtain ⟨j, hj⟩ : ∃ j, Try.prog.info? 113 = some j := Option.isSome_iff_exists.1 (by kernel_rfl)
  go_enter Try.func91, Try.ntmps91
  go_wp2
  rw [Lib.run_neq_ptr_same w _ Try.underlying110 hj]
  go_wp2
  go_end0
  exact ⟨rfl, rfl⟩
set_option maxRecDepth 100000 in
set_option maxHeartbeats 4000000 in
theorem check_fresh (b : Nat) (w : World) (h0 : w.cell? ⟨b, 0, none⟩ = some (.pointer none)) (hsh : w.shape? b = some (113, 2)) (hfz : w.frozen? ⟨b, 0, none⟩ = false) :
    Calls Try.prog 91 #[.pointer (some ⟨b, 0, none⟩)] w fun e w' => e = .returned (.tuple #[]) ∧ w' = w.setCell ⟨b, 0, none⟩ (.pointer (some ⟨b, 0, none⟩)) := by
  obtain ⟨j, hj⟩ : ∃ j, Try.prog.info? 113 = some j := Option.isSome_iff_exists.1 (by kernel_rfl)
  have hjs : j.size = 2 := by
    have h : (Try.prog.info? 113).map (·.size) = some 2 := by kernel_rfl
    rw [hj] at h
    exact Option.some.inj h
  go_enter Try.func91, Try.ntmps91
  go_wp2
  rw [Lib.run_to_unsafe w ⟨b, 0, none⟩ Try.underlying110 Try.underlying184 hj (by rw [hjs]; decide) hsh (Nat.zero_lt_succ 1)]
  simp only [Result.andThen]
  rw [Oper.upon_value]
  go_wp2
  rw [run_callFunc_extern Try.func113 (by kernel_rfl) (by kernel_rfl) (by kernel_rfl) (e := Extern.AbiNoEscape.same) (by kernel_rfl)]
  rw [Lib.run_noEscape]
  simp only [Result.andThen]
  rw [Oper.upon_value]
  go_wp2
  rw [Lib.run_from_unsafe w ⟨b, 0, none⟩ Try.underlying184 Try.underlying110 hj hsh (by kernel_rfl)]
  simp only [Result.andThen]
  rw [Oper.upon_value]
  go_wp2
  go_end0
  exact ⟨rfl, rfl⟩
/-- blocks of other types, but for b, are as they were -/
def Keep (b : Nat) (w w' : World) : Prop := ∀ (k : Nat) (cs : Array Value) (ty : TypeId) (fr : Nat × Nat), k ≠ b → ty ≠ E → w.heap[k]? = some (.cells cs ty fr) → w'.heap[k]? = some (.cells cs ty fr)
theorem Keep.refl (b : Nat) (w : World) : Keep b w w := fun _ _ _ _ _ _ h => h
theorem Keep.trans {b : Nat} {w w1 w2 : World} (h : Keep b w w1) (h' : Keep b w1 w2) : Keep b w w2 := fun k cs ty fr h1 h2 h3 => h' k cs ty fr h1 h2 (h k cs ty fr h1 h2 h3)
theorem Keep.set (b j : Nat) (v : Value) (w : World) : Keep b w (w.setCell ⟨b, j, none⟩ v) := fun k cs ty fr h1 h2 h3 => by
  rw [← h3]; simp [World.setCell, Array.getElem?_modify, Ne.symm h1]
theorem check (B b : Nat) (bs : List Value) (w : World) (h : Lib.IsBuilder T E B b bs w) :
    Calls Try.prog 91 #[.pointer (some ⟨b, 0, none⟩)] w fun e w' => e = .returned (.tuple #[]) ∧ (Lib.BuilderAt T E B b (.pointer (some ⟨b, 0, none⟩)) bs w' ∧ Below B w w' ∧ Keep b w w') := by
  rcases h with h | h
  · refine (check_fresh b w h.cell0 h.shape h.frozen0).mono ?_
    rintro e w' ⟨rfl, rfl⟩
    exact ⟨rfl, h.used _, (Below.refl B w).setCell (p := ⟨b, 0, none⟩) h.1 _, Keep.set _ _ _ _⟩
  · refine (check_used b w h.cell0).mono ?_
    rintro e w' ⟨rfl, rfl⟩
    exact ⟨rfl, h, Below.refl B _, Keep.refl _ _⟩
set_option maxRecDepth 100000 in
set_option maxHeartbeats 4000000 in
theorem writeString (B b : Nat) (bs : List Value) (s : ByteArray) (w : World) (h : Lib.IsBuilder T E B b bs w) (hlen : bs.length + s.size ≤ 140737488355328) (hBw : B ≤ w.heap.size) :
    Calls Try.prog 55 #[.pointer (some ⟨b, 0, none⟩), .string s] w fun e w' => e = .returned (.tuple #[.int .i64 s.size, .nilIface]) ∧ (Lib.BuilderAt T E B b (.pointer (some ⟨b, 0, none⟩)) (bs ++ Lib.strCells s) w' ∧ Below B w w' ∧ Keep b w w') := by
  obtain ⟨i0, hi, hz0, hz1, hz2⟩ := info_parts (show (Try.prog.info? 5).map (fun i => (i.zero, i.size, i.bytes)) = some (some (.int .u8 0), 1, 1) by kernel_rfl)
  have hck := check B b bs w h
  unfold T E at *
  go_enter Try.func55, Try.ntmps55
  go_wp2_with fail
  refine hck.mono ?_
  rintro e w1 ⟨rfl, h1, hb1, hkp1⟩
  obtain ⟨hB, v, hbk, hown, hne⟩ := h1
  have c0 : w1.cell? ⟨b, 0, none⟩ = some (.pointer (some ⟨b, 0, none⟩)) := by rw [Lib.cell_of_heap hbk]; rfl
  have c1 : w1.cell? ⟨b, 1, none⟩ = some v := by rw [Lib.cell_of_heap hbk]; rfl
  go_wp2_with (at_builtin; refine Lib.wpList_append_own_string _ rfl _ _ 111 9 rfl B 5 i0 Try.underlying111 Try.underlying9 hi hz0 hz1 hz2 _ _ _ rfl hown s rfl ?c3 ?c4 ?c5 ?_)
  case c3 => unfold maxLen; omega
  case c4 => omega
  case c5 => have := hb1.size; omega
  intro v' w2 hown' hgrow _
  have hlt : b < w1.heap.size := by
    rcases Nat.lt_or_ge b w1.heap.size with h' | h'
    · exact h'
    · simp [Array.getElem?_eq_none h'] at hbk
  have hb2 : w2.heap[b]? = some (.cells #[.pointer (some ⟨b, 0, none⟩), v] 113 (0, 0)) := by
    rw [hgrow.block b hlt (fun e => hne e.symm)]
    exact hbk
  have d0 : w2.cell? ⟨b, 0, none⟩ = some (.pointer (some ⟨b, 0, none⟩)) := by rw [Lib.cell_of_heap hb2]; rfl
  have d1 : w2.cell? ⟨b, 1, none⟩ = some v := by rw [Lib.cell_of_heap hb2]; rfl
  have f1 : w2.frozen? ⟨b, 1, none⟩ = false := Lib.frozen_of_heap hb2 1
  have hkp2 : Keep b w1 w2 := fun k cs ty fr h1 h2 h3 => by
    rw [hgrow.block k (Array.getElem?_eq_some_iff.1 h3).1 (fun e => Lib.ownBlock_ne hown h3 h2 e.symm)]; exact h3
  obtain ⟨ao, n', cap, rfl⟩ : ∃ ao n' cap, v' = .slice ao n' cap := by
    rcases hown'.2 with ⟨hv, _⟩ | ⟨g, cap, cur, hv, _⟩
    · exact ⟨_, _, _, hv⟩
    · exact ⟨_, _, _, hv⟩
  go_wp2
  go_ret2
  refine ⟨rfl, ?_, ?_, (hkp1.trans hkp2).trans (Keep.set _ _ _ _)⟩
  · exact Lib.BuilderAt.put (T := 113) (e := 5) hB hb2 (bs' := bs ++ Lib.strCells s) (by simpa [Lib.strCells_length] using hown') (by decide)
  · exact (hb1.grown hgrow (by have := hb1.size; omega) (fun k hk => (hown.lt k hk).1)).setCell (p := ⟨b, 1, none⟩) hB _
end Go.Proofs.Ytobngncjflogcaa.Bld

set_option linter.unusedVariables false
set_option linter.unusedSimpArgs false
namespace Go.Proofs.Ytobngncjflogcaa.AM
open Go
set_option maxRecDepth 100000
set_option maxHeartbeats 2000000
def fitsF (d : List Part) (n : Int) : Int := if checkF d ≠ 0 then checkF d else if n ≠ inF d then 4 else 0
def ac_fits : AC := .seq (.region false [
    ⟨some 4, none, .mov (.c (.int .i64 0))⟩])
  (.seq (.region false [
    ⟨some 9, none, .mov (.t 0)⟩,
    ⟨some 10, none, .call 67 [(.t 9)]⟩,
    ⟨some 8, none, .mov (.t 10)⟩,
    ⟨some 11, none, .ext 0 (.t 8)⟩,
    ⟨some 12, none, .ext 1 (.t 8)⟩,
    ⟨some 13, none, .ext 2 (.t 8)⟩,
    ⟨some 5, none, .mov (.t 11)⟩,
    ⟨some 6, none, .mov (.t 12)⟩,
    ⟨some 7, none, .mov (.t 13)⟩])
  (.seq (.seq (.region false [
    ⟨some 14, none, .mov (.t 7)⟩,
    ⟨some 15, none, .bin .neq (.t 14) (.c (.int .i64 0))⟩])
  (.cond (.t 15)
    (.seq (.region false [
      ⟨some 16, none, .mov (.t 7)⟩,
      ⟨some 4, none, .mov (.t 16)⟩])
    (.ret))
    (.skip)))
  (.seq (.seq (.region false [
    ⟨some 17, none, .mov (.t 1)⟩,
    ⟨some 18, none, .mov (.t 5)⟩,
    ⟨some 19, none, .bin .neq (.t 17) (.t 18)⟩])
  (.cond (.t 19)
    (.seq (.region false [
      ⟨some 4, none, .mov (.c (.int .i64 4))⟩])
    (.ret))
    (.skip)))
  (.seq (.region false [
    ⟨some 4, none, .mov (.c (.int .i64 0))⟩])
  (.ret)))))
theorem ok_fits : FnOk Try.prog 54 Try.f54 ac_fits [.t 4] 2 drawD := ⟨Try.func54, by decide +kernel, by kernel_rfl, by kernel_rfl, by decide +kernel⟩
theorem vc_fits (P : Prim) (hP : P = std) (T T1 : CallT) (rows : List (List V)) (n i o c : Int) (hc1 : Ans T 67 [.sl true 3 rows] (.tup [.int .i64 i, .int .i64 o, .int .i64 c])) (r : Int) (hr : (if c ≠ 0 then c else if n ≠ i then 4 else 0) = r)
    (R : S → Prop) (hR : ∀ s s' q, q = r → Ent s s' → Ret [.t 4] [.int .i64 q] s' → R s) : awp P T T1 ac_fits (S0 [.sl true 3 rows, .int .i64 n] Hp.emp) R (fun _ _ => False) R := by
  cbv
  repeat' (first | (intro β; try cbv) | (refine And.intro (by assumption) ?_; try cbv) | (refine br_cases (fun h => ?_) (fun h => ?_) <;> try cbv) | (refine Exists.intro _ (And.intro (by assumption) ?_); try cbv) | (refine hc1 _ _ ?_; try cbv) | (refine hc2 _ _ ?_; try cbv) | (refine hc3 _ _ ?_; try cbv) | (refine hc4 _ _ ?_; try cbv) | (refine hc5 _ _ ?_; try cbv) | (refine hc6 _ _ ?_; try cbv) | (refine And.intro (by (clear hR; subst hP; simp [std, I64, nc] at * <;> first | omega | grind)) ?_; try cbv))
  all_goals
    refine hR _ _ _ ?_ (Ent.refl _) rfl
    clear hR hc1; subst hP; simp [std] at *; grind
theorem sp_fits (d : List Part) (hd : d.length ≤ maxLen) (n : Int) : Spec Try.prog 54 [.sl true 3 (d.map encPart), .int .i64 n] Hp.emp (Is (.int .i64 (fitsF d n))) :=
  spec_pure dOk ok_fits [.int .i64 (fitsF d n)] (.int _ _) fun R hR => vc_fits std rfl _ _ _ n _ _ _ (ansW (sp_szs d hd) (fun h => .cons (.same _) .nil) rfl) (fitsF d n) (by unfold szF fitsF; by_cases h : checkF d = 0 <;> simp [h]) R fun s s' q h he hr => by subst h; exact hR s s' he hr
def ac_rfits : AC := .seq (.region false [
    ⟨some 4, none, .mov (.c (.int .i64 0))⟩])
  (.seq (.seq (.region false [
    ⟨some 6, none, .mov (.t 0)⟩,
    ⟨some 7, none, .call 104 [(.t 6)]⟩,
    ⟨some 5, none, .mov (.t 7)⟩])
  (.seq (.region false [
    ⟨some 8, none, .mov (.t 5)⟩,
    ⟨some 9, none, .bin .neq (.t 8) (.c (.int .i64 0))⟩])
  (.cond (.t 9)
    (.seq (.region false [
      ⟨some 10, none, .mov (.t 5)⟩,
      ⟨some 4, none, .mov (.t 10)⟩])
    (.ret))
    (.skip))))
  (.seq (.seq (.region false [
    ⟨some 11, none, .mov (.t 0)⟩,
    ⟨some 12, none, .call 124 [(.t 11)]⟩,
    ⟨some 13, none, .mov (.t 1)⟩,
    ⟨some 14, none, .bin .neq (.t 12) (.t 13)⟩])
  (.cond (.t 14)
    (.seq (.region false [
      ⟨some 4, none, .mov (.c (.int .i64 4))⟩])
    (.ret))
    (.skip)))
  (.seq (.region false [
    ⟨some 4, none, .mov (.c (.int .i64 0))⟩])
  (.ret))))
theorem ok_rfits : FnOk Try.prog 106 Try.f106 ac_rfits [.t 4] 2 drawD := ⟨Try.func106, by decide +kernel, by kernel_rfl, by kernel_rfl, by decide +kernel⟩
theorem vc_rfits (P : Prim) (hP : P = std) (T T1 : CallT) (rows : List (List V)) (n i c : Int) (hc1 : Ans T 104 [.sl true 3 rows] (.int .i64 c)) (hi : c = 0 → Ans T 124 [.sl true 3 rows] (.int .i64 i)) (r : Int) (hr : (if c ≠ 0 then c else if n ≠ i then 4 else 0) = r)
    (R : S → Prop) (hR : ∀ s s' q, q = r → Ent s s' → Ret [.t 4] [.int .i64 q] s' → R s) : awp P T T1 ac_rfits (S0 [.sl true 3 rows, .int .i64 n] Hp.emp) R (fun _ _ => False) R := by
  cbv
  refine hc1 _ _ ?_
  clear hc1
  cbv
  refine br_cases (fun h => ?_) (fun h => ?_)
  · cbv
    refine hR _ _ _ ?_ (Ent.refl _) rfl
    clear hR hi; subst hP; simp [std] at *; grind
  · have hc1 := hi (ne_f hP h)
    clear hi
    cbv
    repeat' (first | (intro β; try cbv) | (refine And.intro (by assumption) ?_; try cbv) | (refine br_cases (fun h => ?_) (fun h => ?_) <;> try cbv) | (refine Exists.intro _ (And.intro (by assumption) ?_); try cbv) | (refine hc1 _ _ ?_; try cbv) | (refine hc2 _ _ ?_; try cbv) | (refine hc3 _ _ ?_; try cbv) | (refine hc4 _ _ ?_; try cbv) | (refine hc5 _ _ ?_; try cbv) | (refine hc6 _ _ ?_; try cbv) | (refine And.intro (by (clear hR; subst hP; simp [std, I64, nc] at * <;> first | omega | grind)) ?_; try cbv))
    all_goals
      refine hR _ _ _ ?_ (Ent.refl _) rfl
      clear hR hc1; subst hP; simp [std] at *; grind
theorem sp_rfits (d : List Part) (hd : d.length ≤ maxLen) (n : Int) : Spec Try.prog 106 [.sl true 3 (d.map encPart), .int .i64 n] Hp.emp (Is (.int .i64 (fitsF d n))) :=
  spec_pure dOk ok_rfits [.int .i64 (fitsF d n)] (.int _ _) fun R hR => vc_rfits std rfl _ _ _ n _ _ (ansW (sp_rdelta d hd) (fun h => .cons (.same _) .nil) rfl) (fun h => ansW (sp_rin d (checkF_ok h).1 (chk_ok 0 d (checkF_ok h).2.1)) (fun h => .cons (.same _) .nil) rfl) (fitsF d n) (by unfold fitsF; rfl) R fun s s' q h he hr => by subst h; exact hR s s' he hr
theorem fitsF_ok {d : List Part} {n : Int} (h : fitsF d n = 0) : checkF d = 0 ∧ n = inF d := by
  unfold fitsF at h
  by_cases hc : checkF d = 0
  · rw [if_neg (fun h => h hc)] at h
    exact ⟨hc, by by_cases hn : n = inF d; exact hn; rw [if_pos hn] at h; omega⟩
  · rw [if_pos hc] at h; contradiction
end Go.Proofs.Ytobngncjflogcaa.AM

set_option linter.unusedVariables false
set_option linter.unusedSimpArgs false
namespace Go.Proofs.Ytobngncjflogcaa.Bld
open Go Go.RowKit AM
theorem own_keep' {w w' : World} {base n B : Nat} {e : TypeId} {size : Nat} {v : Value} {xs : List Value} (h : w.ownsRow base e size v n xs) (hb : Below B w w') (hB : w.heap.size ≤ B) : w'.ownsRow base e size v n xs := by
  refine ⟨h.1, ?_⟩
  rcases h.2 with hn | ⟨g, cap, cur, rfl, hbg, hh, rest⟩
  · exact .inl hn
  · exact .inr ⟨g, cap, cur, rfl, hbg, (hb.block g (Nat.lt_of_lt_of_le (Array.getElem?_eq_some_iff.1 hh).1 hB)).trans hh, rest⟩
theorem at_keep {B b : Nat} {p : Value} {bs : List Value} {w w' : World} (h : Lib.BuilderAt T E B b p bs w) (hb : Below w.heap.size w w') : Lib.BuilderAt T E B b p bs w' := by
  have hlt := h.lt
  obtain ⟨hB, v, hbk, hown, hne⟩ := h
  exact ⟨hB, v, (hb.block b hlt).trans hbk, own_keep' hown hb (Nat.le_refl _), hne⟩
theorem is_keep {B b : Nat} {bs : List Value} {w w' : World} (h : Lib.IsBuilder T E B b bs w) (hb : Below w.heap.size w w') : Lib.IsBuilder T E B b bs w' :=
  h.elim (fun h => .inl (at_keep h hb)) fun h => .inr (at_keep h hb)
theorem is_lt {B b : Nat} {bs : List Value} {w : World} (h : Lib.IsBuilder T E B b bs w) : b < w.heap.size := h.elim (·.lt) (·.lt)
theorem doT_keep (n : Nat) (ts : List Tok) (s : List UInt8) : doT (List.replicate n .keep ++ ts) s = s.take n ++ doT ts (s.drop n) := by
  induction n generalizing s with
  | zero => simp
  | succ n ih =>
    simp only [List.replicate_succ, List.cons_append, doT, ih, List.drop_drop]
    rw [← List.append_assoc, show n + 1 = 1 + n by omega, List.take_add]
theorem doT_cut (n : Nat) (ts : List Tok) (s : List UInt8) : doT (List.replicate n .cut ++ ts) s = doT ts (s.drop n) := by
  induction n generalizing s with
  | zero => simp
  | succ n ih => simp only [List.replicate_succ, List.cons_append, doT, ih, List.drop_drop]; rw [show n + 1 = 1 + n by omega]
theorem doT_put (t : List UInt8) (ts : List Tok) (s : List UInt8) : doT (t.map .put ++ ts) s = t ++ doT ts s := by
  induction t with
  | nil => simp
  | cons b t ih => simp [doT, ih]
theorem bytes_app (a : List UInt8) (x : ByteArray) : Lib.byteCells a ++ Lib.strCells x = Lib.byteCells (a ++ x.data.toList) := by simp [Lib.byteCells, Lib.strCells]
theorem ex_list (x : ByteArray) (a b : Nat) : (x.extract a b).data.toList = (x.data.toList.take b).drop a := by
  rw [ByteArray.data_extract, Array.toList_extract, List.extract_eq_take_drop, List.drop_take]
theorem ex_size (x : ByteArray) (a b : Nat) : (x.extract a b).size = min b x.size - a := by
  show (x.extract a b).data.size = _
  rw [ByteArray.data_extract, Array.size_extract]; rfl
/-- a slice of parts in memory -/
def PartsAt (w : World) (oa : Option Addr) (d : List Part) : Prop := ∀ (i : Nat) (p : Part), d[i]? = some p → ∃ b off, oa = some ⟨b, off, none⟩ ∧ b < w.heap.size ∧
  w.cell? ⟨b, off + (i * 3), none⟩ = some (.int .i64 p.kind) ∧ w.cell? ⟨b, off + (i * 3 + 1), none⟩ = some (.int .i64 p.n) ∧ w.cell? ⟨b, off + (i * 3 + 2), none⟩ = some (.string ⟨p.text.toArray⟩)
set_option maxRecDepth 100000 in
set_option maxHeartbeats 4000000 in
theorem do_bad (n c : Nat) (s : ByteArray) (oa : Option Addr) (W : World) (f : Int) (hf : f ≠ 0) (hfits : Calls Try.prog 54 #[.slice oa n c, .int .i64 s.size] W fun e w' => e = .returned (.int .i64 f) ∧ Below W.heap.size W w') :
    Calls Try.prog 16 #[.slice oa n c, .string s] W fun e w' => e = .returned (.tuple #[.string ⟨#[]⟩, .int .i64 f]) ∧ Below W.heap.size W w' := by
  go_enter Try.func16, Try.ntmps16
  go_wp2_with fail
  refine hfits.mono ?_
  rintro e w1 ⟨rfl, hb1⟩
  go_wp2_with fail
  go_ret2
  exact ⟨rfl, hb1⟩
set_option maxRecDepth 100000 in
set_option maxHeartbeats 4000000 in
theorem do_ok (d : List Part) (c : Nat) (s : ByteArray) (oa : Option Addr) (W : World) (hd : d.length ≤ 1600) (hat : PartsAt W oa d) (hok : ∀ p ∈ d, okP p) (hin : inF d = (s.size : Int)) (hs : s.size ≤ 500) (hout : outF d ≤ 500)
    (hfits : Calls Try.prog 54 #[.slice oa d.length c, .int .i64 s.size] W fun e w' => e = .returned (.int .i64 0) ∧ Below W.heap.size W w') :
    Calls Try.prog 16 #[.slice oa d.length c, .string s] W fun e w' => e = .returned (.tuple #[.string ⟨(doT (toks d) s.data.toList).toArray⟩, .int .i64 0]) ∧ Below W.heap.size W w' := by
  have HD : Hid (doT (toks d) s.data.toList = [] ++ doT (toks d) s.data.toList) := Lib.hid rfl
  go_enter Try.func16, Try.ntmps16
  go_wp2_with fail
  refine hfits.mono ?_
  rintro e w1 ⟨rfl, hb1⟩
  clear hfits
  go_wp2_with fail
  go_loopw [1, 19] (fun sv kv wr => ∃ (pre rest : List Part) (s' : ByteArray) (out : List UInt8), sv = .string s' ∧ kv = .int .i64 pre.length ∧ d = pre ++ rest ∧ inF rest = s'.size ∧ s'.size ≤ 500 ∧ (out.length : Int) + outF rest = outF d ∧ Lib.IsBuilder T E W.heap.size w1.heap.size (Lib.byteCells out) wr ∧ Below W.heap.size W wr ∧ Hid (doT (toks d) s.data.toList = out ++ doT (toks rest) s'.data.toList)) (fun _ kv _ => d.length - (intOf kv).toNat)
  case atStart => exact ⟨[], d, s, [], rfl, rfl, rfl, hin, hs, by show ((0 : Nat) : Int) + _ = _; omega, .inl ⟨hb1.size, .slice none 0 0, heap_alloc_new w1 _, World.ownsRow_nil _ _ _ _, by simp [Value.ownBlock]⟩, hb1.alloc hb1.size _, HD⟩
  case round =>
    obtain ⟨pre, rest, s', out, rfl, rfl, hd', hin', hs', hout', hib, hb, HN⟩ := hrel
    rcases rest with _ | ⟨p, rest⟩
    · have hpl : pre.length = d.length := by rw [hd']; simp
      have hstr := Try.Builder_String_any W.heap.size w1.heap.size out wr hib hb.size
      rw [hpl]
      have HN2 : Hid (doT (toks d) s.data.toList = out) := by show _ = _; rw [HN.out]; simp [toks, doT]
      clear hd' hin' hout' HN hat hok hin hout HD hib
      go_wp2_with fail
      refine hstr.mono ?_
      rintro e w2 ⟨rfl, hb2⟩
      go_wp2_with fail
      go_ret2
      exact ⟨by rw [HN2.out]; rfl, hb.trans hb2⟩
    · have hpl : pre.length < d.length := by rw [hd']; simp
      obtain ⟨b, off, rfl, hblt, q0, q1, q2⟩ := hat pre.length p (by rw [hd']; simp)
      have r0 : wr.cell? ⟨b, off + pre.length * 3, none⟩ = some (.int .i64 p.kind) := by rw [hb.cell (p := ⟨b, _, none⟩) hblt]; exact q0
      have r1 : wr.cell? ⟨b, off + pre.length * 3 + 1, none⟩ = some (.int .i64 p.n) := by rw [hb.cell (p := ⟨b, _, none⟩) hblt]; exact q1
      have r2 : wr.cell? ⟨b, off + pre.length * 3 + 2, none⟩ = some (.string ⟨p.text.toArray⟩) := by rw [hb.cell (p := ⟨b, _, none⟩) hblt]; exact q2
      have hp := okP_bd (hok p (by rw [hd']; simp))
      have hokp := hok p (by rw [hd']; simp)
      clear q0 q1 q2 hat
      have hrest := inF_bd rest fun q hq => hok q (by rw [hd']; simp [hq])
      have hrest2 := outF_bd rest fun q hq => hok q (by rw [hd']; simp [hq])
      have HD' : Hid (d = (pre ++ [p]) ++ rest ∧ (pre ++ [p]).length = pre.length + 1) := by show _ ∧ _; rw [hd']; simp
      have HR : Hid (0 ≤ inF rest ∧ 0 ≤ outF rest) := ⟨hrest.1, hrest2.1⟩
      have HL : Hid (out.length ≤ 500) := by show _ ≤ _; have h := (outF_bd (p :: rest) fun q hq => hok q (by rw [hd']; exact List.mem_append_right _ hq)).1; omega
      clear hd' hok hin hout HD hrest hrest2
      obtain ⟨kd, n, t⟩ := p
      simp only [] at r0 r1 r2 hp
      simp only [inF, outF] at hin' hout'
      have hwr : W.heap.size ≤ wr.heap.size := hb.size
      have hbl := is_lt hib
      rcases hp.2.2.2 with ⟨rfl, rfl, hne⟩ | ⟨rfl | rfl, hn0, rfl⟩
      · rw [if_neg (by decide)] at hin' 
        rw [if_neg (by decide), if_neg (by decide)] at hout'
        have H1 : Hid (inF rest = (s'.size : Int) ∧ (out.length : Int) + (t.length + outF rest) = outF d ∧ t.length ≤ 500) := ⟨by omega, by omega, hp.2.2.1⟩
        have H2 : Hid (doT (toks d) s.data.toList = (out ++ t) ++ doT (toks rest) s'.data.toList) := by
          show _ = _
          rw [HN.out, show toks (⟨2, 0, t⟩ :: rest) = t.map .put ++ toks rest by simp [toks, toks1], doT_put]; simp
        clear hin' hout' hp HN hokp
        go_wp2_with fail
        refine (writeString W.heap.size w1.heap.size (Lib.byteCells out) ⟨t.toArray⟩ _ (is_keep hib (Below.alloc (Below.refl _ _) (Nat.le_refl _) _)) (by rw [Lib.byteCells_length]; have := H1.out.2.2; have := HL.out; show out.length + t.toArray.size ≤ _; rw [List.size_toArray]; omega) (by simp; omega)).mono ?_
        rintro e w2 ⟨rfl, hib2, hb2, hk2⟩
        have c1 := hb2.size
        go_wp2_with fail
        go_roundw
        case rel => exact ⟨pre ++ [⟨2, 0, t⟩], rest, s', out ++ t, rfl, by rw [HD'.out.2, Int.natCast_add]; rfl, HD'.out.1, H1.out.1, hs', by rw [List.length_append]; have := H1.out; omega, .inr (by rw [bytes_app] at hib2; simpa using hib2), (hb.alloc hb.size _).trans hb2, H2⟩
        case measure => simp [intOf]; omega
      · rw [if_pos (by decide)] at hin' 
        rw [if_pos rfl] at hout'
        have hns : n ≤ s'.size := by have := HR.out; omega
        have hn1 : 0 ≤ n := by omega
        have e1 : (n.toNat : Int) = n := by omega
        have H1 : Hid (inF rest = ((s'.extract n.toNat s'.size).size : Int) ∧ ((out ++ (s'.extract 0 n.toNat).data.toList).length : Int) + outF rest = outF d ∧ (s'.extract n.toNat s'.size).size ≤ 500 ∧ (s'.extract 0 n.toNat).size ≤ 500) := by
          show _ ∧ _ ∧ _ ∧ _
          have h1 : ((s'.extract 0 n.toNat).data.toList).length = n.toNat := by rw [Array.length_toList]; show (s'.extract 0 n.toNat).size = _; rw [ex_size]; omega
          rw [List.length_append, h1, ex_size, ex_size]
          have := HR.out
          refine ⟨by omega, by omega, by omega, by omega⟩
        have H2 : Hid (doT (toks d) s.data.toList = (out ++ (s'.extract 0 n.toNat).data.toList) ++ doT (toks rest) (s'.extract n.toNat s'.size).data.toList) := by
          show _ = _
          rw [HN.out, ex_list, ex_list, show toks (⟨1, n, []⟩ :: rest) = List.replicate n.toNat .keep ++ toks rest by simp [toks, toks1], doT_keep]
          have : (s'.data.toList.take s'.size) = s'.data.toList := List.take_of_length_le (by rw [Array.length_toList]; exact Nat.le_refl _)
          rw [this]; simp
        clear hin' hout' hp HN hokp
        go_wp2_with fail
        refine (writeString W.heap.size w1.heap.size (Lib.byteCells out) (s'.extract 0 n.toNat) _ (is_keep hib (Below.alloc (Below.refl _ _) (Nat.le_refl _) _)) (by rw [Lib.byteCells_length]; have := H1.out; have := HL.out; omega) (by simp; omega)).mono ?_
        rintro e w2 ⟨rfl, hib2, hb2, hk2⟩
        have q9 := hk2 wr.heap.size _ _ _ (by omega) (by decide) (heap_alloc_new wr _)
        have q91 : w2.cell? ⟨wr.heap.size, 1, none⟩ = some (.int .i64 n) := by rw [Lib.cell_of_heap q9]; rfl
        have c1 := hb2.size
        go_wp2_with fail
        go_roundw
        case rel => exact ⟨pre ++ [⟨1, n, []⟩], rest, s'.extract n.toNat s'.size, out ++ (s'.extract 0 n.toNat).data.toList, rfl, by rw [HD'.out.2, Int.natCast_add]; rfl, HD'.out.1, H1.out.1, H1.out.2.2.1, H1.out.2.1, .inr (by rw [bytes_app] at hib2; exact hib2), (hb.alloc hb.size _).trans hb2, H2⟩
        case measure => simp [intOf]; omega
      · rw [if_pos (by decide)] at hin' 
        rw [if_neg (by decide), if_pos (by decide)] at hout'
        have hns : n ≤ s'.size := by have := HR.out; omega
        have hn1 : 0 ≤ n := by omega
        have H1 : Hid (inF rest = ((s'.extract n.toNat s'.size).size : Int) ∧ (out.length : Int) + outF rest = outF d ∧ (s'.extract n.toNat s'.size).size ≤ 500) := by
          show _ ∧ _ ∧ _
          rw [ex_size]
          have := HR.out
          refine ⟨by omega, by omega, by omega⟩
        have H2 : Hid (doT (toks d) s.data.toList = out ++ doT (toks rest) (s'.extract n.toNat s'.size).data.toList) := by
          show _ = _
          rw [HN.out, ex_list, show toks (⟨3, n, []⟩ :: rest) = List.replicate n.toNat .cut ++ toks rest by simp [toks, toks1], doT_cut]
          have : (s'.data.toList.take s'.size) = s'.data.toList := List.take_of_length_le (by rw [Array.length_toList]; exact Nat.le_refl _)
          rw [this]
        clear hin' hout' hp HN hokp
        go_wp2_with fail
        go_roundw
        case rel => exact ⟨pre ++ [⟨3, n, []⟩], rest, s'.extract n.toNat s'.size, out, rfl, by rw [HD'.out.2, Int.natCast_add]; rfl, HD'.out.1, H1.out.1, H1.out.2.2, H1.out.2.1, is_keep hib (Below.alloc (Below.refl _ _) (Nat.le_refl _) _), hb.alloc hb.size _, H2⟩
        case measure => simp [intOf]; omega
end Go.Proofs.Ytobngncjflogcaa.Bld

set_option linter.unusedVariables false
set_option linter.unusedSimpArgs false
namespace Go.Proofs.Ytobngncjflogcaa.AM
open Go
set_option maxRecDepth 100000
set_option maxHeartbeats 2000000
def ac_pdo : AC := .seq (.region false [
    ⟨some 2, none, .box 176 2 (.t 0)⟩,
    ⟨some 4, none, .mov (.c (.string ⟨#[]⟩))⟩])
  (.seq (.region false [
    ⟨some 5, none, .mov (.c (.string ⟨#[]⟩))⟩])
  (.seq (.seq (.region false [
    ⟨some 8, none, .faddr 1 (.t 2)⟩,
    ⟨some 9, none, .load1 (.t 8)⟩,
    ⟨some 10, none, .len false (.t 9)⟩,
    ⟨some 11, none, .mov (.c (.int .i64 0))⟩])
  (.block 0 (.loop (.seq (.region false [
      ⟨some 12, none, .bin .lss (.t 11) (.t 10)⟩])
    (.seq (.cond (.t 12)
      (.skip)
      (.exit 0))
    (.seq (.block 1 (.seq (.region false [
      ⟨some 13, none, .mov (.t 11)⟩,
      ⟨some 14, none, .iaddr 1 (.t 9) (.t 11)⟩,
      ⟨some 15, none, .load1 (.t 14)⟩,
      ⟨some 6, none, .mov (.t 13)⟩,
      ⟨some 7, none, .mov (.t 15)⟩])
    (.seq (.region false [
      ⟨some 16, none, .mov (.t 5)⟩,
      ⟨some 17, none, .faddr 0 (.t 2)⟩,
      ⟨some 18, none, .load1 (.t 17)⟩,
      ⟨some 19, none, .mov (.t 6)⟩,
      ⟨some 20, none, .iaddr 1 (.t 18) (.t 19)⟩,
      ⟨some 21, none, .load1 (.t 20)⟩,
      ⟨some 22, none, .bin .add (.t 16) (.t 21)⟩,
      ⟨some 5, none, .mov (.t 22)⟩])
    (.seq (.region false [
      ⟨some 23, none, .mov (.t 7)⟩])
    (.cond (.t 23)
      (.region false [
        ⟨some 24, none, .mov (.t 5)⟩,
        ⟨some 25, none, .mov (.t 1)⟩,
        ⟨some 26, none, .mov (.t 6)⟩,
        ⟨some 27, none, .mov (.t 6)⟩,
        ⟨some 28, none, .bin .add (.t 27) (.c (.int .i64 1))⟩,
        ⟨some 29, none, .slstr (.t 25) (some (.t 26)) (some (.t 28))⟩,
        ⟨some 30, none, .bin .add (.t 24) (.t 29)⟩,
        ⟨some 5, none, .mov (.t 30)⟩])
      (.skip))))))
    (.region false [
      ⟨some 31, none, .bin .add (.t 11) (.c (.int .i64 1))⟩,
      ⟨some 11, none, .mov (.t 31)⟩])))))))
  (.seq (.region false [
    ⟨some 32, none, .mov (.t 5)⟩,
    ⟨some 33, none, .faddr 0 (.t 2)⟩,
    ⟨some 34, none, .load1 (.t 33)⟩,
    ⟨some 35, none, .faddr 1 (.t 2)⟩,
    ⟨some 36, none, .load1 (.t 35)⟩,
    ⟨some 37, none, .len false (.t 36)⟩,
    ⟨some 38, none, .iaddr 1 (.t 34) (.t 37)⟩,
    ⟨some 39, none, .load1 (.t 38)⟩,
    ⟨some 40, none, .bin .add (.t 32) (.t 39)⟩,
    ⟨some 4, none, .mov (.t 40)⟩])
  (.ret))))
theorem ok_pdo : FnOk Try.prog 108 Try.f108 ac_pdo [.t 4] 2 drawD := ⟨Try.func108, by decide +kernel, by kernel_rfl, by kernel_rfl, by decide +kernel⟩
structure YDo (ps : List (List UInt8)) (ks : List Bool) (s : List UInt8) where
  i : Nat
  k : Int
  out : List UInt8
  p1 : List (List UInt8)
  r1 : List (List UInt8)
  p2 : List Bool
  r2 : List Bool
  h1 : ps = p1 ++ r1
  h2 : ks = p2 ++ r2
  hl : p1.length = i ∧ p2.length = i
  hk : k = (i : Int)
  ho : out.length ≤ p1.flatten.length + i
  hd : doP ps ks s = out ++ doP r1 r2 (s.drop i)
theorem vc_pdo (P : Prim) (hP : P = std) (T T1 : CallT) (ps : List (List UInt8)) (ks : List Bool) (s : List UInt8) (hlen : ps.length = ks.length + 1) (hs : s.length = ks.length) (hb1 : ks.length ≤ 1000000) (hb2 : ps.flatten.length ≤ 1000000000) (pr kr : List (List V)) (hpr : pr = strRows ps) (hkr : kr = boolRows ks) (r : List UInt8) (hr : doP ps ks s = r)
    (R : S → Prop) (hR : ∀ s s' q, q = r → Ent s s' → Ret [.t 4] [.str q] s' → R s) : awp P T T1 ac_pdo (S0 [.agg [.sl true 1 pr, .sl true 1 kr], .str s] Hp.emp) R (fun _ _ => False) R := by
  have hklen : P.rlen kr = (ks.length : Int) := by rw [rlen_eq hP, hkr]; simp [boolRows]
  cbv
  intro β2
  cbv
  refine ⟨YDo ps ks s, fun y => [(1, .str s), (2, .ptr 2 (some β2) 2 0 0), (5, .str y.out), (9, .sl true 1 kr), (10, .int .i64 (P.rlen kr)), (11, .int .i64 y.k)],
    fun y => [(2, ⟨some β2, 176, 2, [[.sl true 1 pr, .sl true 1 kr]]⟩)], fun y => y.r2.length,
    ⟨_, Ent.refl _, ⟨0, 0, [], [], ps, [], ks, rfl, rfl, ⟨rfl, rfl⟩, rfl, by simp, by simp⟩, ⟨rfl, rfl, rfl, rfl, rfl, rfl, trivial⟩, ⟨rfl, trivial⟩⟩, ?_⟩
  rintro ⟨i, k, out, p1, r1, p2, r2, h1, h2, ⟨hl1, hl2⟩, hk, ho, hd⟩
  have hlp : r1.length = r2.length + 1 := by rw [h1, h2] at hlen; simp at hlen; omega
  have hkl : i + r2.length = ks.length := by rw [h2]; simp; omega
  rcases r1 with _ | ⟨p, r1⟩
  · simp at hlp
  have hpf : p1.flatten.length + p.length ≤ 1000000000 := by rw [h1] at hb2; simp at hb2 ⊢; omega
  have hrow1 : P.row pr (P.nat k) [.str p] := row_of hP hk (by rw [hpr, strRows, List.getElem?_map, h1, ← hl1]; simp)
  have ho1 : P.leP 0 k := le0 hP (by omega)
  have ho2 : P.i64 (P.add k 1) := by rw [add_eq hP]; exact i64I hP (by omega)
  have ho3 : P.i64 (P.add (P.slen out) (P.slen p)) := by rw [add_eq hP, slen_eq hP, slen_eq hP]; exact i64I hP (by omega)
  cbv
  refine br_cases (fun h => ?_) (fun h => ?_)
  · have h3 : k < P.rlen kr := lt_t hP h
    rw [hklen] at h3
    rcases r2 with _ | ⟨q, r2⟩
    · exfalso; simp at hkl; ((try simp only [nc] at *); omega)
    have hrow2 : P.row kr (P.nat k) [.bool q] := row_of hP hk (by rw [hkr, boolRows, List.getElem?_map, h2, ← hl2]; simp)
    cbv
    refine ⟨ho1, _, hrow2, ?_⟩
    cbv
    refine ⟨ho1, _, hrow1, ?_⟩
    cbv
    refine ⟨ho3, ?_⟩
    cases q
    · cbv
      refine ⟨ho2, ?_⟩
      refine ⟨_, Ent.refl _, ⟨i + 1, _, _, p1 ++ [p], r1, p2 ++ [false], r2, by simp [h1], by simp [h2], by simp [hl1, hl2], ?_, ?_, ?_⟩, ⟨rfl, rfl, rfl, rfl, rfl, rfl, trivial⟩, ⟨rfl, trivial⟩, by simp⟩
      · show P.add k 1 = _; rw [add_eq hP, hk]; ((try simp only [nc] at *); omega)
      · show (P.sapp out p).length ≤ _
        subst hP; simp only [std, List.length_append, List.flatten_append, List.flatten_cons, List.flatten_nil, List.append_nil]; omega
      · show _ = P.sapp out p ++ _
        rw [hd]; subst hP; simp [doP, std, List.drop_drop]
    · have hx : (P.ssub s k (P.add k 1)) = (s.drop i).take 1 := by
        rw [add_eq hP, hk]; subst hP
        show (s.take ((i : Int) + 1).toNat).drop ((i : Int)).toNat = _
        rw [List.drop_take, Int.toNat_natCast, show ((i : Int) + 1).toNat - i = 1 by omega]
      have ho4 : P.leP k (P.add k 1) := leI hP (by rw [add_eq hP]; omega)
      have ho5 : P.leP (P.add k 1) (P.slen s) := leI hP (by rw [add_eq hP, slen_eq hP]; simp at hkl; ((try simp only [nc] at *); omega))
      have ho6 : P.i64 (P.add (P.slen (P.sapp out p)) (P.slen (P.ssub s k (P.add k 1)))) := by
        rw [hx, add_eq hP, slen_eq hP, slen_eq hP]; refine i64I hP ?_; subst hP; simp only [std, List.length_append, List.length_take]; omega
      cbv
      refine ⟨ho2, ho1, ho4, ho5, ho6, ho2, ?_⟩
      refine ⟨_, Ent.refl _, ⟨i + 1, _, _, p1 ++ [p], r1, p2 ++ [true], r2, by simp [h1], by simp [h2], by simp [hl1, hl2], ?_, ?_, ?_⟩, ⟨rfl, rfl, rfl, rfl, rfl, rfl, trivial⟩, ⟨rfl, trivial⟩, by simp⟩
      · show P.add k 1 = _; rw [add_eq hP, hk]; ((try simp only [nc] at *); omega)
      · show (P.sapp (P.sapp out p) (P.ssub s k (P.add k 1))).length ≤ _
        rw [hx]; subst hP; simp only [std, List.length_append, List.length_take, List.flatten_append, List.flatten_cons, List.flatten_nil, List.append_nil]; omega
      · show _ = P.sapp (P.sapp out p) (P.ssub s k (P.add k 1)) ++ _
        rw [hd, hx]; subst hP; simp [doP, std, List.drop_drop]
  · have h3 : ¬ k < P.rlen kr := lt_f hP h
    rw [hklen] at h3
    rcases r2 with _ | ⟨q, r2⟩
    rotate_left
    · exfalso; simp at hkl; ((try simp only [nc] at *); omega)
    have hk2 : k = P.rlen kr := by rw [hklen]; simp at hkl; ((try simp only [nc] at *); omega)
    subst hk2
    cbv
    refine ⟨ho1, _, hrow1, ?_⟩
    cbv
    refine ⟨ho3, ?_⟩
    refine hR _ _ _ ?_ (Ent.refl _) rfl
    show P.sapp out p = r
    rw [← hr, hd]; subst hP
    cases r1 <;> simp [doP, std]
theorem sp_pdo (ts : List Tok) (h : ts.length ≤ 1000000) (s : List UInt8) (hs : s.length = inT ts) : Spec Try.prog 108 [.agg [.sl true 1 (strRows (puts ts)), .sl true 1 (boolRows (kepts ts))], .str s] Hp.emp (Is (.str (doT ts s))) :=
  spec_pure dOk ok_pdo [.str (doT ts s)] (.str _) fun R hR => vc_pdo std rfl _ _ (puts ts) (kepts ts) s (puts_len ts) hs (by have := kepts_le ts; omega) (by have := puts_flat ts; omega) _ _ rfl rfl _ (doP_eq ts s) R fun s s' q h he hr => by subst h; exact hR s s' he hr

end Go.Proofs.Ytobngncjflogcaa.AM

set_option linter.unusedVariables false
set_option linter.unusedSimpArgs false
namespace Go.Proofs.Ytobngncjflogcaa.AM
open Go Go.RowKit
set_option maxRecDepth 100000
set_option maxHeartbeats 2000000
/-- a contract of the plain machine as one of the walks' kind -/
theorem calls_of_spec {f : Nat} {args : List V} {v : V} {us : Array Value} {W : World} (hs : Spec Try.prog f args Hp.emp (Is v)) (hl : us.size = args.length)
    (hr : ∀ (i : Nat) (v : V) (u : Value), args[i]? = some v → us[i]? = some u → Rel (OldB W) (fun _ => False) W v u) :
    Calls Try.prog f us W fun e w' => (∃ u F', e = .returned u ∧ Rel F' (fun _ => False) w' v u) ∧ Below W.heap.size W w' := by
  let C : Ctx := ⟨W, OldB W, fun _ => False, fun _ => False⟩
  have hC : C.Ok := ⟨fun b hb => ⟨hb, fun h => h⟩, fun b hb => hb.elim, fun b hb => hb.elim⟩
  refine (hs.run C us hC hl hr ⟨fun k o hk => by simp [Hp.emp] at hk, fun k k' o o' b hk => by simp [Hp.emp] at hk, fun k o b hk => by simp [Hp.emp] at hk, fun b hb => .inl hb, fun b hb => hb, fun b hb => hb, Ev.refl _ _⟩).mono ?_
  rintro e w' ⟨u, v', h', F', rfl, hv, hs2, rfl, rfl⟩
  have hev : Ev (fun _ => False) W w' := hs2.ev
  exact ⟨⟨u, F', rfl, hv⟩, hev.os, hev.tape, hev.output, hev.size, fun k hk => hev.same k hk (fun h => h)⟩
theorem rel_parts {F B : Nat → Prop} {w : World} {t : Bool} {d : List Part} {u : Value} (h : Rel F B w (.sl t 3 (d.map encPart)) u) (hlt : ∀ b, F b ∨ B b → b < w.heap.size) : ∃ oa c, u = .slice oa d.length c ∧ Bld.PartsAt w oa d := by
  generalize hrows : d.map encPart = rows at h
  cases h with
  | slnil =>
    have : d = [] := by simpa using hrows
    subst this
    exact ⟨none, 0, rfl, fun i p hp => by simp at hp⟩
  | slemp _ _ a cap =>
    have : d = [] := by simpa using hrows
    subst this
    exact ⟨some a, cap, rfl, fun i p hp => by simp at hp⟩
  | sl _ _ _ b off cap us hF hcap hsz hc hr =>
    subst hrows
    refine ⟨some ⟨b, off, none⟩, cap, by rw [List.length_map], fun i p hp => ⟨b, off, rfl, hlt b (by rcases hF with h | ⟨_, h⟩ <;> simp [h]), ?_, ?_, ?_⟩⟩
    all_goals have hi : (d.map encPart)[i]? = some (encPart p) := by rw [List.getElem?_map, hp]; rfl
    · have h1 := (hc i 0 _ (.int .i64 p.kind) hi rfl).1
      have h2 := hr i 0 _ (.int .i64 p.kind) hi rfl
      generalize us i 0 = x at h1 h2
      cases h2
      exact h1
    · have h1 := (hc i 1 _ (.int .i64 p.n) hi rfl).1
      have h2 := hr i 1 _ (.int .i64 p.n) hi rfl
      generalize us i 1 = x at h1 h2
      cases h2
      exact h1
    · have h1 := (hc i 2 _ (.str p.text) hi rfl).1
      have h2 := hr i 2 _ (.str p.text) hi rfl
      generalize us i 2 = x at h1 h2
      cases h2
      exact h1
def doF (d : List Part) (s : List UInt8) : List UInt8 × Int := if fitsF d s.length = 0 then (doT (toks d) s, 0) else ([], fitsF d s.length)
theorem sp_do (d : List Part) (hd : d.length ≤ maxLen) (s : List UInt8) : Spec Try.prog 16 [.sl true 3 (d.map encPart), .str s] Hp.emp (Is (.tup [.str (doF d s).1, .int .i64 (doF d s).2])) := by
  refine ⟨⟨Try.f16, Try.func16, by decide +kernel, Option.isSome_iff_exists.1 (by decide +kernel)⟩, fun C us hC hl hargs _ => ?_⟩
  have main : Calls Try.prog 16 us C.w0 fun e w' => e = .returned (.tuple #[.string ⟨(doF d s).1.toArray⟩, .int .i64 (doF d s).2]) ∧ Below C.w0.heap.size C.w0 w' := by
    match us, hl, hargs with
    | ⟨[x, y]⟩, _, hargs =>
      have a0 := hargs 0 _ x rfl rfl
      have a1 := hargs 1 _ y rfl rfl
      have a0' := a0.mono (F' := OldB C.w0) (B' := fun _ => False) (fun b hb => (hC.F0 b hb).1) (fun b hb => .inl (hC.B b hb).1)
      obtain ⟨oa, c, rfl, hat⟩ := rel_parts a0 fun b hb => hb.elim (fun h => (hC.F0 b h).1) fun h => (hC.B b h).1
      cases a1
      have hsz : (⟨s.toArray⟩ : ByteArray).size = s.length := by show s.toArray.size = _; simp
      have hfits : Calls Try.prog 54 #[.slice oa d.length c, .int .i64 ((⟨s.toArray⟩ : ByteArray).size : Int)] C.w0 fun e w' => e = .returned (.int .i64 (fitsF d s.length)) ∧ Below C.w0.heap.size C.w0 w' := by
        rw [hsz]
        refine (calls_of_spec (sp_fits d hd s.length) rfl (fun i v u hv hu => ?_)).mono ?_
        · match i with
          | 0 => simp at hv hu; subst hv hu; exact a0'
          | 1 => simp at hv hu; subst hv hu; exact .int _ _
          | i + 2 => simp at hv
        · rintro e w' ⟨⟨u, F', rfl, hu⟩, hb⟩
          cases hu
          exact ⟨rfl, hb⟩
      unfold doF
      by_cases hf : fitsF d s.length = 0
      · rw [if_pos hf]
        rw [hf] at hfits
        obtain ⟨hz, hin⟩ := fitsF_ok hf
        obtain ⟨h1, h2, h3, h4, _, _⟩ := checkF_all hz
        exact Bld.do_ok d c ⟨s.toArray⟩ oa C.w0 h1 hat h2 (by rw [hsz]; exact hin.symm) (by rw [hsz]; omega) h4 hfits
      · rw [if_neg hf]
        exact Bld.do_bad d.length c ⟨s.toArray⟩ oa C.w0 _ hf hfits
  refine main.mono ?_
  rintro e w' ⟨rfl, hb⟩
  refine ⟨_, .tup [.str (doF d s).1, .int .i64 (doF d s).2], Hp.emp, C.F0, rfl, .tup _ _ rfl (fun i v u hv hu => ?_), ⟨fun k o hk => by simp [Hp.emp] at hk, fun k k' o o' b hk => by simp [Hp.emp] at hk, fun k o b hk => by simp [Hp.emp] at hk, fun b hb => .inl hb, fun b hb => hb, fun b hb' => Nat.lt_of_lt_of_le (hC.F0 b hb').1 hb.size, ?_⟩, rfl, rfl⟩
  · match i with
    | 0 => simp at hv hu; subst hv hu; exact .str _
    | 1 => simp at hv hu; subst hv hu; exact .int _ _
    | i + 2 => simp at hv
  · exact ⟨hb.os, hb.tape, hb.output, hb.size, fun b hlt _ => hb.block b hlt, fun b c e fr hc => ⟨c, fr, by rw [hb.block b (Array.getElem?_eq_some_iff.1 hc).1]; exact hc, rfl⟩⟩

def ac_rdo : AC := .seq (.region false [
    ⟨some 4, none, .mov (.c (.string ⟨#[]⟩))⟩,
    ⟨some 5, none, .mov (.c (.int .i64 0))⟩])
  (.seq (.seq (.region false [
    ⟨some 7, none, .mov (.t 0)⟩,
    ⟨some 8, none, .mov (.t 1)⟩,
    ⟨some 9, none, .len true (.t 8)⟩,
    ⟨some 10, none, .call 106 [(.t 7), (.t 9)]⟩,
    ⟨some 6, none, .mov (.t 10)⟩])
  (.seq (.region false [
    ⟨some 11, none, .mov (.t 6)⟩,
    ⟨some 12, none, .bin .neq (.t 11) (.c (.int .i64 0))⟩])
  (.cond (.t 12)
    (.seq (.region false [
      ⟨some 13, none, .mov (.t 6)⟩,
      ⟨some 4, none, .mov (.c (.string ⟨#[]⟩))⟩,
      ⟨some 5, none, .mov (.t 13)⟩])
    (.ret))
    (.skip))))
  (.seq (.region false [
    ⟨some 14, none, .mov (.t 0)⟩,
    ⟨some 15, none, .call 107 [(.t 14)]⟩,
    ⟨some 16, none, .mov (.t 1)⟩,
    ⟨some 17, none, .call 108 [(.t 15), (.t 16)]⟩,
    ⟨some 4, none, .mov (.t 17)⟩,
    ⟨some 5, none, .mov (.c (.int .i64 0))⟩])
  (.ret)))
theorem ok_rdo : FnOk Try.prog 77 Try.f77 ac_rdo [.t 4, .t 5] 2 drawD := ⟨Try.func77, by decide +kernel, by kernel_rfl, by kernel_rfl, by decide +kernel⟩
theorem vc_rdo (P : Prim) (hP : P = std) (T T1 : CallT) (rows : List (List V)) (s r : List UInt8) (c e : Int) (pv : V)
    (hc1 : Ans T 106 [.sl true 3 rows, .int .i64 (P.slen s)] (.int .i64 c)) (ho : c = 0 → Ans T 107 [.sl true 3 rows] pv) (hd : c = 0 → Ans T 108 [pv, .str s] (.str r))
    (hr : (c ≠ 0 → r = [] ∧ c = e) ∧ (c = 0 → 0 = e))
    (R : S → Prop) (hR : ∀ s s' r2 e2, r2 = r ∧ e2 = e → Ent s s' → Ret [.t 4, .t 5] [.str r2, .int .i64 e2] s' → R s) : awp P T T1 ac_rdo (S0 [.sl true 3 rows, .str s] Hp.emp) R (fun _ _ => False) R := by
  cbv
  refine hc1 _ _ ?_
  cbv
  refine br_cases (fun h => ?_) (fun h => ?_)
  · have hc := ne_t hP h
    cbv
    exact hR _ _ _ _ ⟨(hr.1 hc).1.symm, (hr.1 hc).2⟩ (Ent.refl _) rfl
  · have hc := ne_f hP h
    have f1 := ho hc
    have f2 := hd hc
    clear ho hd
    cbv
    refine f1 _ _ ?_
    cbv
    refine f2 _ _ ?_
    cbv
    exact hR _ _ _ _ ⟨rfl, hr.2 hc⟩ (Ent.refl _) rfl
theorem sp_rdo (d : List Part) (hd : d.length ≤ maxLen) (s : List UInt8) : Spec Try.prog 77 [.sl true 3 (d.map encPart), .str s] Hp.emp (Is (.tup [.str (doF d s).1, .int .i64 (doF d s).2])) := by
  refine spec_pure dOk ok_rdo [.str (doF d s).1, .int .i64 (doF d s).2] (.tup _ (by simp; exact ⟨.str _, .int _ _⟩)) fun R hR => vc_rdo std rfl _ _ _ s (doF d s).1 (fitsF d s.length) (doF d s).2 (encPl (puts (toks d)) (kepts (toks d)))
    (ansW (sp_rfits d hd s.length) (fun h => .cons (.same _) (.cons (.same _) .nil)) rfl) (fun hz => ?_) (fun hz => ?_) ⟨fun h => by unfold doF; rw [if_neg h]; exact ⟨rfl, rfl⟩, fun h => by unfold doF; rw [if_pos h]⟩ R fun s s' r2 e2 h he hr => by obtain ⟨rfl, rfl⟩ := h; exact hR s s' he hr
  all_goals
    obtain ⟨z, hin⟩ := fitsF_ok hz
    obtain ⟨h1, h2, h3, h4, _, _⟩ := checkF_all z
    have e1 := inT_toks d h2
  · exact ansW (sp_rof d h1 (ok_bd h2)) (fun h => .cons (.same _) .nil) rfl
  · have : (doF d s).1 = doT (toks d) s := by unfold doF; rw [if_pos hz]
    rw [this]
    exact ansW (sp_pdo (toks d) (fits_len z) s (by omega)) (fun h => .cons (arg_pl h _ _) (.cons (.same _) .nil)) rfl

end Go.Proofs.Ytobngncjflogcaa.AM
