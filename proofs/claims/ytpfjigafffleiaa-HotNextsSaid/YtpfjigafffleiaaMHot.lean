/-
  May a revision come behind a log: hot.Next, the document's Next, and the law HotNexts.
-/
import Derived.Test.YtpfjigafffleiaaMRevs
import Derived.Test.YtpfjigafffleiaaMInts
set_option linter.unusedVariables false
set_option linter.unusedSimpArgs false
namespace Go.Proofs.Ytpfjigafffleiaa.AM
open Go
set_option maxRecDepth 100000
set_option maxHeartbeats 2000000
def ac_hnext : AC := .seq (.region false [
    ⟨some 3, none, .box 82 38 (.t 0)⟩,
    ⟨some 5, none, .box 76 3 (.t 2)⟩,
    ⟨some 6, none, .mov (.c (.int .i64 0))⟩])
  (.seq (.seq (.region false [
    ⟨some 8, none, .loadn 3 (.t 5)⟩,
    ⟨some 9, none, .call 56 [(.t 8)]⟩,
    ⟨some 7, none, .mov (.t 9)⟩])
  (.seq (.region false [
    ⟨some 10, none, .mov (.t 7)⟩,
    ⟨some 11, none, .bin .neq (.t 10) (.c (.int .i64 0))⟩])
  (.cond (.t 11)
    (.seq (.region false [
      ⟨some 12, none, .mov (.t 7)⟩,
      ⟨some 6, none, .mov (.t 12)⟩])
    (.ret))
    (.skip))))
  (.seq (.seq (.region true [
    ⟨some 13, none, .faddr 1 (.t 5)⟩,
    ⟨some 14, none, .load1 (.t 13)⟩,
    ⟨some 15, none, .faddr 0 (.t 5)⟩,
    ⟨some 16, none, .load1 (.t 15)⟩,
    ⟨some 17, none, .faddr 19 (.t 3)⟩,
    ⟨some 18, none, .iarr 8 2 (.t 17) (.t 16)⟩,
    ⟨some 19, none, .faddr 0 (.t 18)⟩,
    ⟨some 20, none, .load1 (.t 19)⟩,
    ⟨some 21, none, .bin .leq (.t 14) (.t 20)⟩])
  (.cond (.t 21)
    (.seq (.region false [
      ⟨some 6, none, .mov (.c (.int .i64 10))⟩])
    (.ret))
    (.skip)))
  (.seq (.seq (.region false [
    ⟨some 22, none, .faddr 35 (.t 3)⟩,
    ⟨some 23, none, .load1 (.t 22)⟩,
    ⟨some 24, none, .len false (.t 23)⟩,
    ⟨some 25, none, .bin .geq (.t 24) (.c (.int .i64 64))⟩,
    ⟨some 26, none, .mov (.t 25)⟩,
    ⟨some 27, some (26, false), .faddr 1 (.t 3)⟩,
    ⟨some 28, some (26, false), .load1 (.t 27)⟩,
    ⟨some 29, some (26, false), .faddr 35 (.t 3)⟩,
    ⟨some 30, some (26, false), .load1 (.t 29)⟩,
    ⟨some 31, some (26, false), .len false (.t 30)⟩,
    ⟨some 32, some (26, false), .bin .add (.t 28) (.t 31)⟩,
    ⟨some 33, some (26, false), .bin .geq (.t 32) (.c (.int .i64 2147483647))⟩,
    ⟨some 34, none, .pick (.t 26) (.c (.bool true)) (.t 33)⟩])
  (.cond (.t 34)
    (.seq (.region false [
      ⟨some 6, none, .mov (.c (.int .i64 11))⟩])
    (.ret))
    (.skip)))
  (.seq (.region false [
    ⟨some 35, none, .faddr 2 (.t 5)⟩,
    ⟨some 36, none, .load1 (.t 35)⟩,
    ⟨some 37, none, .mov (.t 1)⟩,
    ⟨some 38, none, .call 50 [(.t 36), (.t 37)]⟩,
    ⟨some 6, none, .mov (.t 38)⟩])
  (.ret)))))
theorem ok_hnext : FnOk Try.prog 46 Try.f46 ac_hnext [.t 6] 3 drawD := ⟨Try.func46, by decide +kernel, by kernel_rfl, by kernel_rfl, by decide +kernel⟩
theorem vc_hnext (P : Prim) (hP : P = std) (T T1 : CallT) (gn b gd w q sz o f n : Int) (tx : List UInt8) (fs tb : Nat → Int) (rv dr : List (List V)) (wh : Bool) (hn : P.rlen rv = n) (hb : 0 ≤ b ∧ b ≤ 2147483647)
    (hc1 : Ans T 56 [.agg [.int .i64 w, .int .i64 q, .sl false 3 dr]] (.int .i64 o)) (hw : o = 0 → w = 0 ∨ w = 1 ∨ w = 2 ∨ w = 3 ∨ w = 4 ∨ w = 5 ∨ w = 6 ∨ w = 7) (hc2 : o = 0 → Ans T 50 [.sl false 3 dr, .int .i64 sz] (.int .i64 f))
    (res : Int) (g1 : o ≠ 0 → o = res) (g2 : o = 0 → q ≤ tb (2 * w.toNat) → 10 = res) (g3 : o = 0 → ¬ q ≤ tb (2 * w.toNat) → 64 ≤ n ∨ 2147483647 ≤ b + n → 11 = res) (g4 : o = 0 → ¬ q ≤ tb (2 * w.toNat) → ¬ (64 ≤ n ∨ 2147483647 ≤ b + n) → f = res) (hn0 : 0 ≤ n)
    (R : S → Prop) (hR : ∀ s s' x, x = res → Ent s s' → Ret [.t 6] [.int .i64 x] s' → R s) : awp P T T1 ac_hnext (S0 [.agg [.int .i64 gn, .int .i64 b, .str tx, .int .i64 (fs 0), .int .i64 (fs 1), .int .i64 (fs 2), .int .i64 (fs 3), .int .i64 (fs 4), .int .i64 (fs 5), .int .i64 (fs 6), .int .i64 (fs 7), .int .i64 (fs 8), .int .i64 (fs 9), .int .i64 (fs 10), .int .i64 (fs 11), .int .i64 (fs 12), .int .i64 (fs 13), .int .i64 (fs 14), .int .i64 (fs 15), .int .i64 (tb 0), .int .i64 (tb 1), .int .i64 (tb 2), .int .i64 (tb 3), .int .i64 (tb 4), .int .i64 (tb 5), .int .i64 (tb 6), .int .i64 (tb 7), .int .i64 (tb 8), .int .i64 (tb 9), .int .i64 (tb 10), .int .i64 (tb 11), .int .i64 (tb 12), .int .i64 (tb 13), .int .i64 (tb 14), .int .i64 (tb 15), .sl false 3 rv, .bool wh, .int .i64 gd], .int .i64 sz, .agg [.int .i64 w, .int .i64 q, .sl false 3 dr]] Hp.emp) R (fun _ _ => False) R := by
  have hN0 : P.nat 0 = 0 := by subst hP; rfl
  have hN1 : P.nat 1 = 1 := by subst hP; rfl
  have hN2 : P.nat 2 = 2 := by subst hP; rfl
  have hN3 : P.nat 3 = 3 := by subst hP; rfl
  have hN4 : P.nat 4 = 4 := by subst hP; rfl
  have hN5 : P.nat 5 = 5 := by subst hP; rfl
  have hN6 : P.nat 6 = 6 := by subst hP; rfl
  have hN7 : P.nat 7 = 7 := by subst hP; rfl
  have hnl : ∀ i : Nat, i < 8 → P.leP 0 (i : Int) ∧ P.ltP (i : Int) 8 := fun i hi => ⟨le0 hP (by omega), ltI hP (by omega)⟩
  cbv
  intro β3
  cbv
  intro β5
  cbv
  refine hc1 _ _ ?_
  clear hc1
  cbv
  refine br_cases (fun h => ?_) (fun h => ?_)
  · have hz := ne_t hP h
    cbv
    exact hR _ _ _ (g1 hz) (Ent.refl _) rfl
  have hz := ne_f hP h
  have hw := hw hz
  have c2 := hc2 hz
  replace g2 := g2 hz
  replace g3 := g3 hz
  replace g4 := g4 hz
  clear g1 hc2 h
  cbv
  rcases hw with rfl | rfl | rfl | rfl | rfl | rfl | rfl | rfl
  · have q1 : P.leP 0 0 := (hnl 0 (by decide)).1
    have q2 : P.ltP 0 8 := (hnl 0 (by decide)).2
    refine ⟨q1, q2, 0, hN0, ?_⟩
    cbv
    refine br_cases (fun h => ?_) (fun h => ?_)
    · have hq := le_t hP h
      cbv
      exact hR _ _ _ (g2 hq) (Ent.refl _) rfl
    have hq := le_f hP h
    replace g3 := g3 hq
    replace g4 := g4 hq
    cbv
    refine br_cases (fun h => ?_) (fun h => ?_)
    · have h64 : 64 ≤ P.rlen rv := le_t hP h
      rw [hn] at h64
      cbv
      exact hR _ _ _ (g3 (.inl (by omega))) (Ent.refl _) rfl
    have h64 : ¬ 64 ≤ P.rlen rv := le_f hP h
    rw [hn] at h64
    have o1 : P.i64 (P.add b (P.rlen rv)) := by rw [add_eq hP, hn]; exact i64I hP (by omega)
    cbv
    refine ⟨o1, ?_⟩
    refine br_cases (fun h => ?_) (fun h => ?_)
    · have h31 : 2147483647 ≤ P.add b (P.rlen rv) := le_t hP h
      rw [add_eq hP, hn] at h31
      cbv
      exact hR _ _ _ (g3 (.inr (by omega))) (Ent.refl _) rfl
    have h31 : ¬ 2147483647 ≤ P.add b (P.rlen rv) := le_f hP h
    rw [add_eq hP, hn] at h31
    cbv
    refine c2 _ _ ?_
    cbv
    exact hR _ _ _ (g4 (by omega)) (Ent.refl _) rfl
  · have q1 : P.leP 0 1 := (hnl 1 (by decide)).1
    have q2 : P.ltP 1 8 := (hnl 1 (by decide)).2
    refine ⟨q1, q2, 1, hN1, ?_⟩
    cbv
    refine br_cases (fun h => ?_) (fun h => ?_)
    · have hq := le_t hP h
      cbv
      exact hR _ _ _ (g2 hq) (Ent.refl _) rfl
    have hq := le_f hP h
    replace g3 := g3 hq
    replace g4 := g4 hq
    cbv
    refine br_cases (fun h => ?_) (fun h => ?_)
    · have h64 : 64 ≤ P.rlen rv := le_t hP h
      rw [hn] at h64
      cbv
      exact hR _ _ _ (g3 (.inl (by omega))) (Ent.refl _) rfl
    have h64 : ¬ 64 ≤ P.rlen rv := le_f hP h
    rw [hn] at h64
    have o1 : P.i64 (P.add b (P.rlen rv)) := by rw [add_eq hP, hn]; exact i64I hP (by omega)
    cbv
    refine ⟨o1, ?_⟩
    refine br_cases (fun h => ?_) (fun h => ?_)
    · have h31 : 2147483647 ≤ P.add b (P.rlen rv) := le_t hP h
      rw [add_eq hP, hn] at h31
      cbv
      exact hR _ _ _ (g3 (.inr (by omega))) (Ent.refl _) rfl
    have h31 : ¬ 2147483647 ≤ P.add b (P.rlen rv) := le_f hP h
    rw [add_eq hP, hn] at h31
    cbv
    refine c2 _ _ ?_
    cbv
    exact hR _ _ _ (g4 (by omega)) (Ent.refl _) rfl
  · have q1 : P.leP 0 2 := (hnl 2 (by decide)).1
    have q2 : P.ltP 2 8 := (hnl 2 (by decide)).2
    refine ⟨q1, q2, 2, hN2, ?_⟩
    cbv
    refine br_cases (fun h => ?_) (fun h => ?_)
    · have hq := le_t hP h
      cbv
      exact hR _ _ _ (g2 hq) (Ent.refl _) rfl
    have hq := le_f hP h
    replace g3 := g3 hq
    replace g4 := g4 hq
    cbv
    refine br_cases (fun h => ?_) (fun h => ?_)
    · have h64 : 64 ≤ P.rlen rv := le_t hP h
      rw [hn] at h64
      cbv
      exact hR _ _ _ (g3 (.inl (by omega))) (Ent.refl _) rfl
    have h64 : ¬ 64 ≤ P.rlen rv := le_f hP h
    rw [hn] at h64
    have o1 : P.i64 (P.add b (P.rlen rv)) := by rw [add_eq hP, hn]; exact i64I hP (by omega)
    cbv
    refine ⟨o1, ?_⟩
    refine br_cases (fun h => ?_) (fun h => ?_)
    · have h31 : 2147483647 ≤ P.add b (P.rlen rv) := le_t hP h
      rw [add_eq hP, hn] at h31
      cbv
      exact hR _ _ _ (g3 (.inr (by omega))) (Ent.refl _) rfl
    have h31 : ¬ 2147483647 ≤ P.add b (P.rlen rv) := le_f hP h
    rw [add_eq hP, hn] at h31
    cbv
    refine c2 _ _ ?_
    cbv
    exact hR _ _ _ (g4 (by omega)) (Ent.refl _) rfl
  · have q1 : P.leP 0 3 := (hnl 3 (by decide)).1
    have q2 : P.ltP 3 8 := (hnl 3 (by decide)).2
    refine ⟨q1, q2, 3, hN3, ?_⟩
    cbv
    refine br_cases (fun h => ?_) (fun h => ?_)
    · have hq := le_t hP h
      cbv
      exact hR _ _ _ (g2 hq) (Ent.refl _) rfl
    have hq := le_f hP h
    replace g3 := g3 hq
    replace g4 := g4 hq
    cbv
    refine br_cases (fun h => ?_) (fun h => ?_)
    · have h64 : 64 ≤ P.rlen rv := le_t hP h
      rw [hn] at h64
      cbv
      exact hR _ _ _ (g3 (.inl (by omega))) (Ent.refl _) rfl
    have h64 : ¬ 64 ≤ P.rlen rv := le_f hP h
    rw [hn] at h64
    have o1 : P.i64 (P.add b (P.rlen rv)) := by rw [add_eq hP, hn]; exact i64I hP (by omega)
    cbv
    refine ⟨o1, ?_⟩
    refine br_cases (fun h => ?_) (fun h => ?_)
    · have h31 : 2147483647 ≤ P.add b (P.rlen rv) := le_t hP h
      rw [add_eq hP, hn] at h31
      cbv
      exact hR _ _ _ (g3 (.inr (by omega))) (Ent.refl _) rfl
    have h31 : ¬ 2147483647 ≤ P.add b (P.rlen rv) := le_f hP h
    rw [add_eq hP, hn] at h31
    cbv
    refine c2 _ _ ?_
    cbv
    exact hR _ _ _ (g4 (by omega)) (Ent.refl _) rfl
  · have q1 : P.leP 0 4 := (hnl 4 (by decide)).1
    have q2 : P.ltP 4 8 := (hnl 4 (by decide)).2
    refine ⟨q1, q2, 4, hN4, ?_⟩
    cbv
    refine br_cases (fun h => ?_) (fun h => ?_)
    · have hq := le_t hP h
      cbv
      exact hR _ _ _ (g2 hq) (Ent.refl _) rfl
    have hq := le_f hP h
    replace g3 := g3 hq
    replace g4 := g4 hq
    cbv
    refine br_cases (fun h => ?_) (fun h => ?_)
    · have h64 : 64 ≤ P.rlen rv := le_t hP h
      rw [hn] at h64
      cbv
      exact hR _ _ _ (g3 (.inl (by omega))) (Ent.refl _) rfl
    have h64 : ¬ 64 ≤ P.rlen rv := le_f hP h
    rw [hn] at h64
    have o1 : P.i64 (P.add b (P.rlen rv)) := by rw [add_eq hP, hn]; exact i64I hP (by omega)
    cbv
    refine ⟨o1, ?_⟩
    refine br_cases (fun h => ?_) (fun h => ?_)
    · have h31 : 2147483647 ≤ P.add b (P.rlen rv) := le_t hP h
      rw [add_eq hP, hn] at h31
      cbv
      exact hR _ _ _ (g3 (.inr (by omega))) (Ent.refl _) rfl
    have h31 : ¬ 2147483647 ≤ P.add b (P.rlen rv) := le_f hP h
    rw [add_eq hP, hn] at h31
    cbv
    refine c2 _ _ ?_
    cbv
    exact hR _ _ _ (g4 (by omega)) (Ent.refl _) rfl
  · have q1 : P.leP 0 5 := (hnl 5 (by decide)).1
    have q2 : P.ltP 5 8 := (hnl 5 (by decide)).2
    refine ⟨q1, q2, 5, hN5, ?_⟩
    cbv
    refine br_cases (fun h => ?_) (fun h => ?_)
    · have hq := le_t hP h
      cbv
      exact hR _ _ _ (g2 hq) (Ent.refl _) rfl
    have hq := le_f hP h
    replace g3 := g3 hq
    replace g4 := g4 hq
    cbv
    refine br_cases (fun h => ?_) (fun h => ?_)
    · have h64 : 64 ≤ P.rlen rv := le_t hP h
      rw [hn] at h64
      cbv
      exact hR _ _ _ (g3 (.inl (by omega))) (Ent.refl _) rfl
    have h64 : ¬ 64 ≤ P.rlen rv := le_f hP h
    rw [hn] at h64
    have o1 : P.i64 (P.add b (P.rlen rv)) := by rw [add_eq hP, hn]; exact i64I hP (by omega)
    cbv
    refine ⟨o1, ?_⟩
    refine br_cases (fun h => ?_) (fun h => ?_)
    · have h31 : 2147483647 ≤ P.add b (P.rlen rv) := le_t hP h
      rw [add_eq hP, hn] at h31
      cbv
      exact hR _ _ _ (g3 (.inr (by omega))) (Ent.refl _) rfl
    have h31 : ¬ 2147483647 ≤ P.add b (P.rlen rv) := le_f hP h
    rw [add_eq hP, hn] at h31
    cbv
    refine c2 _ _ ?_
    cbv
    exact hR _ _ _ (g4 (by omega)) (Ent.refl _) rfl
  · have q1 : P.leP 0 6 := (hnl 6 (by decide)).1
    have q2 : P.ltP 6 8 := (hnl 6 (by decide)).2
    refine ⟨q1, q2, 6, hN6, ?_⟩
    cbv
    refine br_cases (fun h => ?_) (fun h => ?_)
    · have hq := le_t hP h
      cbv
      exact hR _ _ _ (g2 hq) (Ent.refl _) rfl
    have hq := le_f hP h
    replace g3 := g3 hq
    replace g4 := g4 hq
    cbv
    refine br_cases (fun h => ?_) (fun h => ?_)
    · have h64 : 64 ≤ P.rlen rv := le_t hP h
      rw [hn] at h64
      cbv
      exact hR _ _ _ (g3 (.inl (by omega))) (Ent.refl _) rfl
    have h64 : ¬ 64 ≤ P.rlen rv := le_f hP h
    rw [hn] at h64
    have o1 : P.i64 (P.add b (P.rlen rv)) := by rw [add_eq hP, hn]; exact i64I hP (by omega)
    cbv
    refine ⟨o1, ?_⟩
    refine br_cases (fun h => ?_) (fun h => ?_)
    · have h31 : 2147483647 ≤ P.add b (P.rlen rv) := le_t hP h
      rw [add_eq hP, hn] at h31
      cbv
      exact hR _ _ _ (g3 (.inr (by omega))) (Ent.refl _) rfl
    have h31 : ¬ 2147483647 ≤ P.add b (P.rlen rv) := le_f hP h
    rw [add_eq hP, hn] at h31
    cbv
    refine c2 _ _ ?_
    cbv
    exact hR _ _ _ (g4 (by omega)) (Ent.refl _) rfl
  · have q1 : P.leP 0 7 := (hnl 7 (by decide)).1
    have q2 : P.ltP 7 8 := (hnl 7 (by decide)).2
    refine ⟨q1, q2, 7, hN7, ?_⟩
    cbv
    refine br_cases (fun h => ?_) (fun h => ?_)
    · have hq := le_t hP h
      cbv
      exact hR _ _ _ (g2 hq) (Ent.refl _) rfl
    have hq := le_f hP h
    replace g3 := g3 hq
    replace g4 := g4 hq
    cbv
    refine br_cases (fun h => ?_) (fun h => ?_)
    · have h64 : 64 ≤ P.rlen rv := le_t hP h
      rw [hn] at h64
      cbv
      exact hR _ _ _ (g3 (.inl (by omega))) (Ent.refl _) rfl
    have h64 : ¬ 64 ≤ P.rlen rv := le_f hP h
    rw [hn] at h64
    have o1 : P.i64 (P.add b (P.rlen rv)) := by rw [add_eq hP, hn]; exact i64I hP (by omega)
    cbv
    refine ⟨o1, ?_⟩
    refine br_cases (fun h => ?_) (fun h => ?_)
    · have h31 : 2147483647 ≤ P.add b (P.rlen rv) := le_t hP h
      rw [add_eq hP, hn] at h31
      cbv
      exact hR _ _ _ (g3 (.inr (by omega))) (Ent.refl _) rfl
    have h31 : ¬ 2147483647 ≤ P.add b (P.rlen rv) := le_f hP h
    rw [add_eq hP, hn] at h31
    cbv
    refine c2 _ _ ?_
    cbv
    exact hR _ _ _ (g4 (by omega)) (Ent.refl _) rfl
def ac_rnext : AC := .seq (.region false [
    ⟨some 3, none, .box 82 38 (.t 0)⟩,
    ⟨some 5, none, .box 76 3 (.t 2)⟩,
    ⟨some 6, none, .mov (.c (.int .i64 0))⟩])
  (.seq (.seq (.region false [
    ⟨some 8, none, .loadn 3 (.t 5)⟩,
    ⟨some 9, none, .call 57 [(.t 8)]⟩,
    ⟨some 7, none, .mov (.t 9)⟩])
  (.seq (.region false [
    ⟨some 10, none, .mov (.t 7)⟩,
    ⟨some 11, none, .bin .neq (.t 10) (.c (.int .i64 0))⟩])
  (.cond (.t 11)
    (.seq (.region false [
      ⟨some 12, none, .mov (.t 7)⟩,
      ⟨some 6, none, .mov (.t 12)⟩])
    (.ret))
    (.skip))))
  (.seq (.seq (.region true [
    ⟨some 13, none, .faddr 0 (.t 5)⟩,
    ⟨some 14, none, .load1 (.t 13)⟩,
    ⟨some 15, none, .faddr 19 (.t 3)⟩,
    ⟨some 16, none, .iarr 8 2 (.t 15) (.t 14)⟩,
    ⟨some 17, none, .faddr 0 (.t 16)⟩,
    ⟨some 18, none, .load1 (.t 17)⟩,
    ⟨some 19, none, .faddr 1 (.t 5)⟩,
    ⟨some 20, none, .load1 (.t 19)⟩,
    ⟨some 21, none, .bin .geq (.t 18) (.t 20)⟩])
  (.cond (.t 21)
    (.seq (.region false [
      ⟨some 6, none, .mov (.c (.int .i64 10))⟩])
    (.ret))
    (.skip)))
  (.seq (.seq (.region false [
    ⟨some 22, none, .faddr 35 (.t 3)⟩,
    ⟨some 23, none, .load1 (.t 22)⟩,
    ⟨some 24, none, .len false (.t 23)⟩,
    ⟨some 25, none, .bin .gtr (.t 24) (.c (.int .i64 63))⟩,
    ⟨some 26, none, .mov (.t 25)⟩,
    ⟨some 27, some (26, false), .faddr 1 (.t 3)⟩,
    ⟨some 28, some (26, false), .load1 (.t 27)⟩,
    ⟨some 29, some (26, false), .faddr 35 (.t 3)⟩,
    ⟨some 30, some (26, false), .load1 (.t 29)⟩,
    ⟨some 31, some (26, false), .len false (.t 30)⟩,
    ⟨some 32, some (26, false), .bin .sub (.c (.int .i64 2147483646)) (.t 31)⟩,
    ⟨some 33, some (26, false), .bin .gtr (.t 28) (.t 32)⟩,
    ⟨some 34, none, .pick (.t 26) (.c (.bool true)) (.t 33)⟩])
  (.cond (.t 34)
    (.seq (.region false [
      ⟨some 6, none, .mov (.c (.int .i64 11))⟩])
    (.ret))
    (.skip)))
  (.seq (.region false [
    ⟨some 35, none, .faddr 2 (.t 5)⟩,
    ⟨some 36, none, .load1 (.t 35)⟩,
    ⟨some 37, none, .mov (.t 1)⟩,
    ⟨some 38, none, .call 51 [(.t 36), (.t 37)]⟩,
    ⟨some 6, none, .mov (.t 38)⟩])
  (.ret)))))
theorem ok_rnext : FnOk Try.prog 48 Try.f48 ac_rnext [.t 6] 3 drawD := ⟨Try.func48, by decide +kernel, by kernel_rfl, by kernel_rfl, by decide +kernel⟩
theorem vc_rnext (P : Prim) (hP : P = std) (T T1 : CallT) (gn b gd w q sz o f n : Int) (tx : List UInt8) (fs tb : Nat → Int) (rv dr : List (List V)) (wh : Bool) (hn : P.rlen rv = n) (hb : 0 ≤ b ∧ b ≤ 2147483647)
    (hc1 : Ans T 57 [.agg [.int .i64 w, .int .i64 q, .sl false 3 dr]] (.int .i64 o)) (hw : o = 0 → w = 0 ∨ w = 1 ∨ w = 2 ∨ w = 3 ∨ w = 4 ∨ w = 5 ∨ w = 6 ∨ w = 7) (hc2 : o = 0 → Ans T 51 [.sl false 3 dr, .int .i64 sz] (.int .i64 f))
    (res : Int) (g1 : o ≠ 0 → o = res) (g2 : o = 0 → q ≤ tb (2 * w.toNat) → 10 = res) (g3 : o = 0 → ¬ q ≤ tb (2 * w.toNat) → 64 ≤ n ∨ 2147483647 ≤ b + n → 11 = res) (g4 : o = 0 → ¬ q ≤ tb (2 * w.toNat) → ¬ (64 ≤ n ∨ 2147483647 ≤ b + n) → f = res) (hn0 : 0 ≤ n)
    (R : S → Prop) (hR : ∀ s s' x, x = res → Ent s s' → Ret [.t 6] [.int .i64 x] s' → R s) : awp P T T1 ac_rnext (S0 [.agg [.int .i64 gn, .int .i64 b, .str tx, .int .i64 (fs 0), .int .i64 (fs 1), .int .i64 (fs 2), .int .i64 (fs 3), .int .i64 (fs 4), .int .i64 (fs 5), .int .i64 (fs 6), .int .i64 (fs 7), .int .i64 (fs 8), .int .i64 (fs 9), .int .i64 (fs 10), .int .i64 (fs 11), .int .i64 (fs 12), .int .i64 (fs 13), .int .i64 (fs 14), .int .i64 (fs 15), .int .i64 (tb 0), .int .i64 (tb 1), .int .i64 (tb 2), .int .i64 (tb 3), .int .i64 (tb 4), .int .i64 (tb 5), .int .i64 (tb 6), .int .i64 (tb 7), .int .i64 (tb 8), .int .i64 (tb 9), .int .i64 (tb 10), .int .i64 (tb 11), .int .i64 (tb 12), .int .i64 (tb 13), .int .i64 (tb 14), .int .i64 (tb 15), .sl false 3 rv, .bool wh, .int .i64 gd], .int .i64 sz, .agg [.int .i64 w, .int .i64 q, .sl false 3 dr]] Hp.emp) R (fun _ _ => False) R := by
  have hN0 : P.nat 0 = 0 := by subst hP; rfl
  have hN1 : P.nat 1 = 1 := by subst hP; rfl
  have hN2 : P.nat 2 = 2 := by subst hP; rfl
  have hN3 : P.nat 3 = 3 := by subst hP; rfl
  have hN4 : P.nat 4 = 4 := by subst hP; rfl
  have hN5 : P.nat 5 = 5 := by subst hP; rfl
  have hN6 : P.nat 6 = 6 := by subst hP; rfl
  have hN7 : P.nat 7 = 7 := by subst hP; rfl
  have hnl : ∀ i : Nat, i < 8 → P.leP 0 (i : Int) ∧ P.ltP (i : Int) 8 := fun i hi => ⟨le0 hP (by omega), ltI hP (by omega)⟩
  cbv
  intro β3
  cbv
  intro β5
  cbv
  refine hc1 _ _ ?_
  clear hc1
  cbv
  refine br_cases (fun h => ?_) (fun h => ?_)
  · have hz := ne_t hP h
    cbv
    exact hR _ _ _ (g1 hz) (Ent.refl _) rfl
  have hz := ne_f hP h
  have hw := hw hz
  have c2 := hc2 hz
  replace g2 := g2 hz
  replace g3 := g3 hz
  replace g4 := g4 hz
  clear g1 hc2 h
  cbv
  rcases hw with rfl | rfl | rfl | rfl | rfl | rfl | rfl | rfl
  · have q1 : P.leP 0 0 := (hnl 0 (by decide)).1
    have q2 : P.ltP 0 8 := (hnl 0 (by decide)).2
    refine ⟨q1, q2, 0, hN0, ?_⟩
    cbv
    refine br_cases (fun h => ?_) (fun h => ?_)
    · have hq := le_t hP h
      cbv
      exact hR _ _ _ (g2 hq) (Ent.refl _) rfl
    have hq := le_f hP h
    replace g3 := g3 hq
    replace g4 := g4 hq
    cbv
    refine br_cases (fun h => ?_) (fun h => ?_)
    · have h64 : 63 < P.rlen rv := lt_t hP h
      rw [hn] at h64
      cbv
      exact hR _ _ _ (g3 (.inl (by omega))) (Ent.refl _) rfl
    have h64 : ¬ 63 < P.rlen rv := lt_f hP h
    rw [hn] at h64
    have o1 : P.i64 (P.sub 2147483646 (P.rlen rv)) := by rw [sub_eq hP, hn]; exact i64I hP (by omega)
    cbv
    refine ⟨o1, ?_⟩
    refine br_cases (fun h => ?_) (fun h => ?_)
    · have h31 : P.sub 2147483646 (P.rlen rv) < b := lt_t hP h
      rw [sub_eq hP, hn] at h31
      cbv
      exact hR _ _ _ (g3 (.inr (by omega))) (Ent.refl _) rfl
    have h31 : ¬ P.sub 2147483646 (P.rlen rv) < b := lt_f hP h
    rw [sub_eq hP, hn] at h31
    cbv
    refine c2 _ _ ?_
    cbv
    exact hR _ _ _ (g4 (by omega)) (Ent.refl _) rfl
  · have q1 : P.leP 0 1 := (hnl 1 (by decide)).1
    have q2 : P.ltP 1 8 := (hnl 1 (by decide)).2
    refine ⟨q1, q2, 1, hN1, ?_⟩
    cbv
    refine br_cases (fun h => ?_) (fun h => ?_)
    · have hq := le_t hP h
      cbv
      exact hR _ _ _ (g2 hq) (Ent.refl _) rfl
    have hq := le_f hP h
    replace g3 := g3 hq
    replace g4 := g4 hq
    cbv
    refine br_cases (fun h => ?_) (fun h => ?_)
    · have h64 : 63 < P.rlen rv := lt_t hP h
      rw [hn] at h64
      cbv
      exact hR _ _ _ (g3 (.inl (by omega))) (Ent.refl _) rfl
    have h64 : ¬ 63 < P.rlen rv := lt_f hP h
    rw [hn] at h64
    have o1 : P.i64 (P.sub 2147483646 (P.rlen rv)) := by rw [sub_eq hP, hn]; exact i64I hP (by omega)
    cbv
    refine ⟨o1, ?_⟩
    refine br_cases (fun h => ?_) (fun h => ?_)
    · have h31 : P.sub 2147483646 (P.rlen rv) < b := lt_t hP h
      rw [sub_eq hP, hn] at h31
      cbv
      exact hR _ _ _ (g3 (.inr (by omega))) (Ent.refl _) rfl
    have h31 : ¬ P.sub 2147483646 (P.rlen rv) < b := lt_f hP h
    rw [sub_eq hP, hn] at h31
    cbv
    refine c2 _ _ ?_
    cbv
    exact hR _ _ _ (g4 (by omega)) (Ent.refl _) rfl
  · have q1 : P.leP 0 2 := (hnl 2 (by decide)).1
    have q2 : P.ltP 2 8 := (hnl 2 (by decide)).2
    refine ⟨q1, q2, 2, hN2, ?_⟩
    cbv
    refine br_cases (fun h => ?_) (fun h => ?_)
    · have hq := le_t hP h
      cbv
      exact hR _ _ _ (g2 hq) (Ent.refl _) rfl
    have hq := le_f hP h
    replace g3 := g3 hq
    replace g4 := g4 hq
    cbv
    refine br_cases (fun h => ?_) (fun h => ?_)
    · have h64 : 63 < P.rlen rv := lt_t hP h
      rw [hn] at h64
      cbv
      exact hR _ _ _ (g3 (.inl (by omega))) (Ent.refl _) rfl
    have h64 : ¬ 63 < P.rlen rv := lt_f hP h
    rw [hn] at h64
    have o1 : P.i64 (P.sub 2147483646 (P.rlen rv)) := by rw [sub_eq hP, hn]; exact i64I hP (by omega)
    cbv
    refine ⟨o1, ?_⟩
    refine br_cases (fun h => ?_) (fun h => ?_)
    · have h31 : P.sub 2147483646 (P.rlen rv) < b := lt_t hP h
      rw [sub_eq hP, hn] at h31
      cbv
      exact hR _ _ _ (g3 (.inr (by omega))) (Ent.refl _) rfl
    have h31 : ¬ P.sub 2147483646 (P.rlen rv) < b := lt_f hP h
    rw [sub_eq hP, hn] at h31
    cbv
    refine c2 _ _ ?_
    cbv
    exact hR _ _ _ (g4 (by omega)) (Ent.refl _) rfl
  · have q1 : P.leP 0 3 := (hnl 3 (by decide)).1
    have q2 : P.ltP 3 8 := (hnl 3 (by decide)).2
    refine ⟨q1, q2, 3, hN3, ?_⟩
    cbv
    refine br_cases (fun h => ?_) (fun h => ?_)
    · have hq := le_t hP h
      cbv
      exact hR _ _ _ (g2 hq) (Ent.refl _) rfl
    have hq := le_f hP h
    replace g3 := g3 hq
    replace g4 := g4 hq
    cbv
    refine br_cases (fun h => ?_) (fun h => ?_)
    · have h64 : 63 < P.rlen rv := lt_t hP h
      rw [hn] at h64
      cbv
      exact hR _ _ _ (g3 (.inl (by omega))) (Ent.refl _) rfl
    have h64 : ¬ 63 < P.rlen rv := lt_f hP h
    rw [hn] at h64
    have o1 : P.i64 (P.sub 2147483646 (P.rlen rv)) := by rw [sub_eq hP, hn]; exact i64I hP (by omega)
    cbv
    refine ⟨o1, ?_⟩
    refine br_cases (fun h => ?_) (fun h => ?_)
    · have h31 : P.sub 2147483646 (P.rlen rv) < b := lt_t hP h
      rw [sub_eq hP, hn] at h31
      cbv
      exact hR _ _ _ (g3 (.inr (by omega))) (Ent.refl _) rfl
    have h31 : ¬ P.sub 2147483646 (P.rlen rv) < b := lt_f hP h
    rw [sub_eq hP, hn] at h31
    cbv
    refine c2 _ _ ?_
    cbv
    exact hR _ _ _ (g4 (by omega)) (Ent.refl _) rfl
  · have q1 : P.leP 0 4 := (hnl 4 (by decide)).1
    have q2 : P.ltP 4 8 := (hnl 4 (by decide)).2
    refine ⟨q1, q2, 4, hN4, ?_⟩
    cbv
    refine br_cases (fun h => ?_) (fun h => ?_)
    · have hq := le_t hP h
      cbv
      exact hR _ _ _ (g2 hq) (Ent.refl _) rfl
    have hq := le_f hP h
    replace g3 := g3 hq
    replace g4 := g4 hq
    cbv
    refine br_cases (fun h => ?_) (fun h => ?_)
    · have h64 : 63 < P.rlen rv := lt_t hP h
      rw [hn] at h64
      cbv
      exact hR _ _ _ (g3 (.inl (by omega))) (Ent.refl _) rfl
    have h64 : ¬ 63 < P.rlen rv := lt_f hP h
    rw [hn] at h64
    have o1 : P.i64 (P.sub 2147483646 (P.rlen rv)) := by rw [sub_eq hP, hn]; exact i64I hP (by omega)
    cbv
    refine ⟨o1, ?_⟩
    refine br_cases (fun h => ?_) (fun h => ?_)
    · have h31 : P.sub 2147483646 (P.rlen rv) < b := lt_t hP h
      rw [sub_eq hP, hn] at h31
      cbv
      exact hR _ _ _ (g3 (.inr (by omega))) (Ent.refl _) rfl
    have h31 : ¬ P.sub 2147483646 (P.rlen rv) < b := lt_f hP h
    rw [sub_eq hP, hn] at h31
    cbv
    refine c2 _ _ ?_
    cbv
    exact hR _ _ _ (g4 (by omega)) (Ent.refl _) rfl
  · have q1 : P.leP 0 5 := (hnl 5 (by decide)).1
    have q2 : P.ltP 5 8 := (hnl 5 (by decide)).2
    refine ⟨q1, q2, 5, hN5, ?_⟩
    cbv
    refine br_cases (fun h => ?_) (fun h => ?_)
    · have hq := le_t hP h
      cbv
      exact hR _ _ _ (g2 hq) (Ent.refl _) rfl
    have hq := le_f hP h
    replace g3 := g3 hq
    replace g4 := g4 hq
    cbv
    refine br_cases (fun h => ?_) (fun h => ?_)
    · have h64 : 63 < P.rlen rv := lt_t hP h
      rw [hn] at h64
      cbv
      exact hR _ _ _ (g3 (.inl (by omega))) (Ent.refl _) rfl
    have h64 : ¬ 63 < P.rlen rv := lt_f hP h
    rw [hn] at h64
    have o1 : P.i64 (P.sub 2147483646 (P.rlen rv)) := by rw [sub_eq hP, hn]; exact i64I hP (by omega)
    cbv
    refine ⟨o1, ?_⟩
    refine br_cases (fun h => ?_) (fun h => ?_)
    · have h31 : P.sub 2147483646 (P.rlen rv) < b := lt_t hP h
      rw [sub_eq hP, hn] at h31
      cbv
      exact hR _ _ _ (g3 (.inr (by omega))) (Ent.refl _) rfl
    have h31 : ¬ P.sub 2147483646 (P.rlen rv) < b := lt_f hP h
    rw [sub_eq hP, hn] at h31
    cbv
    refine c2 _ _ ?_
    cbv
    exact hR _ _ _ (g4 (by omega)) (Ent.refl _) rfl
  · have q1 : P.leP 0 6 := (hnl 6 (by decide)).1
    have q2 : P.ltP 6 8 := (hnl 6 (by decide)).2
    refine ⟨q1, q2, 6, hN6, ?_⟩
    cbv
    refine br_cases (fun h => ?_) (fun h => ?_)
    · have hq := le_t hP h
      cbv
      exact hR _ _ _ (g2 hq) (Ent.refl _) rfl
    have hq := le_f hP h
    replace g3 := g3 hq
    replace g4 := g4 hq
    cbv
    refine br_cases (fun h => ?_) (fun h => ?_)
    · have h64 : 63 < P.rlen rv := lt_t hP h
      rw [hn] at h64
      cbv
      exact hR _ _ _ (g3 (.inl (by omega))) (Ent.refl _) rfl
    have h64 : ¬ 63 < P.rlen rv := lt_f hP h
    rw [hn] at h64
    have o1 : P.i64 (P.sub 2147483646 (P.rlen rv)) := by rw [sub_eq hP, hn]; exact i64I hP (by omega)
    cbv
    refine ⟨o1, ?_⟩
    refine br_cases (fun h => ?_) (fun h => ?_)
    · have h31 : P.sub 2147483646 (P.rlen rv) < b := lt_t hP h
      rw [sub_eq hP, hn] at h31
      cbv
      exact hR _ _ _ (g3 (.inr (by omega))) (Ent.refl _) rfl
    have h31 : ¬ P.sub 2147483646 (P.rlen rv) < b := lt_f hP h
    rw [sub_eq hP, hn] at h31
    cbv
    refine c2 _ _ ?_
    cbv
    exact hR _ _ _ (g4 (by omega)) (Ent.refl _) rfl
  · have q1 : P.leP 0 7 := (hnl 7 (by decide)).1
    have q2 : P.ltP 7 8 := (hnl 7 (by decide)).2
    refine ⟨q1, q2, 7, hN7, ?_⟩
    cbv
    refine br_cases (fun h => ?_) (fun h => ?_)
    · have hq := le_t hP h
      cbv
      exact hR _ _ _ (g2 hq) (Ent.refl _) rfl
    have hq := le_f hP h
    replace g3 := g3 hq
    replace g4 := g4 hq
    cbv
    refine br_cases (fun h => ?_) (fun h => ?_)
    · have h64 : 63 < P.rlen rv := lt_t hP h
      rw [hn] at h64
      cbv
      exact hR _ _ _ (g3 (.inl (by omega))) (Ent.refl _) rfl
    have h64 : ¬ 63 < P.rlen rv := lt_f hP h
    rw [hn] at h64
    have o1 : P.i64 (P.sub 2147483646 (P.rlen rv)) := by rw [sub_eq hP, hn]; exact i64I hP (by omega)
    cbv
    refine ⟨o1, ?_⟩
    refine br_cases (fun h => ?_) (fun h => ?_)
    · have h31 : P.sub 2147483646 (P.rlen rv) < b := lt_t hP h
      rw [sub_eq hP, hn] at h31
      cbv
      exact hR _ _ _ (g3 (.inr (by omega))) (Ent.refl _) rfl
    have h31 : ¬ P.sub 2147483646 (P.rlen rv) < b := lt_f hP h
    rw [sub_eq hP, hn] at h31
    cbv
    refine c2 _ _ ?_
    cbv
    exact hR _ _ _ (g4 (by omega)) (Ent.refl _) rfl
def logV (gn b : Int) (tx : List UInt8) (fs tb : Nat → Int) (rv : List (List V)) (wh : Bool) (gd : Int) : V := .agg [.int .i64 gn, .int .i64 b, .str tx, .int .i64 (fs 0), .int .i64 (fs 1), .int .i64 (fs 2), .int .i64 (fs 3), .int .i64 (fs 4), .int .i64 (fs 5), .int .i64 (fs 6), .int .i64 (fs 7), .int .i64 (fs 8), .int .i64 (fs 9), .int .i64 (fs 10), .int .i64 (fs 11), .int .i64 (fs 12), .int .i64 (fs 13), .int .i64 (fs 14), .int .i64 (fs 15), .int .i64 (tb 0), .int .i64 (tb 1), .int .i64 (tb 2), .int .i64 (tb 3), .int .i64 (tb 4), .int .i64 (tb 5), .int .i64 (tb 6), .int .i64 (tb 7), .int .i64 (tb 8), .int .i64 (tb 9), .int .i64 (tb 10), .int .i64 (tb 11), .int .i64 (tb 12), .int .i64 (tb 13), .int .i64 (tb 14), .int .i64 (tb 15), .sl false 3 rv, .bool wh, .int .i64 gd]
def nextF (b : Int) (tb : Nat → Int) (n : Nat) (size : Int) (r : Rev) : Int := if oneF r ≠ 0 then oneF r else if r.seq ≤ tb (2 * r.who.toNat) then 10 else if 64 ≤ (n : Int) ∨ 2147483647 ≤ b + n then 11 else fitsF r.delta size
theorem one_who {r : Rev} (h : oneF r = 0) : 0 ≤ r.who ∧ r.who ≤ 7 ∧ 0 ≤ r.seq ∧ r.seq ≤ 2147483647 ∧ checkF r.delta = 0 := by
  unfold oneF at h
  split at h
  · contradiction
  · omega
theorem sp_hnext (gn b : Int) (tx : List UInt8) (fs tb : Nat → Int) (l : List Rev) (wh : Bool) (gd size : Int) (r : Rev) (hb : 0 ≤ b ∧ b ≤ 2147483647) (hr : PartsOk r.delta) : Spec Try.prog 46 [logV gn b tx fs tb (l.map encRev) wh gd, .int .i64 size, .agg (encRev r)] Hp.emp (Is (.int .i64 (nextF b tb l.length size r))) :=
  spec_pure dOk ok_hnext [.int .i64 (nextF b tb l.length size r)] (.int _ _) fun R hR => vc_hnext std rfl _ _ gn b gd r.who r.seq size (oneF r) (fitsF r.delta size) l.length tx fs tb (l.map encRev) (r.delta.map encPart) wh (by show ((l.map encRev).length : Int) = _; simp) hb
    (ansW (sp_one r hr) (fun h => .cons (.same _) .nil) rfl) (fun h => by have := one_who h; omega) (fun _ => ansLs (sp_fits r.delta hr.1 size) rfl rfl) (nextF b tb l.length size r)
    (fun h => by unfold nextF; rw [if_pos h]) (fun h h2 => by unfold nextF; rw [if_neg (fun g => g h), if_pos h2]) (fun h h2 h3 => by unfold nextF; rw [if_neg (fun g => g h), if_neg h2, if_pos h3]) (fun h h2 h3 => by unfold nextF; rw [if_neg (fun g => g h), if_neg h2, if_neg h3]) (by omega)
    R fun s s' x h he hq => by subst h; exact hR s s' he hq
theorem sp_rnext (gn b : Int) (tx : List UInt8) (fs tb : Nat → Int) (l : List Rev) (wh : Bool) (gd size : Int) (r : Rev) (hb : 0 ≤ b ∧ b ≤ 2147483647) (hr : PartsOk r.delta) : Spec Try.prog 48 [logV gn b tx fs tb (l.map encRev) wh gd, .int .i64 size, .agg (encRev r)] Hp.emp (Is (.int .i64 (nextF b tb l.length size r))) :=
  spec_pure dOk ok_rnext [.int .i64 (nextF b tb l.length size r)] (.int _ _) fun R hR => vc_rnext std rfl _ _ gn b gd r.who r.seq size (oneF r) (fitsF r.delta size) l.length tx fs tb (l.map encRev) (r.delta.map encPart) wh (by show ((l.map encRev).length : Int) = _; simp) hb
    (ansW (sp_rrev r hr) (fun h => .cons (.same _) .nil) rfl) (fun h => by have := one_who h; omega) (fun _ => ansLs (sp_rfits r.delta hr.1 size) rfl rfl) (nextF b tb l.length size r)
    (fun h => by unfold nextF; rw [if_pos h]) (fun h h2 => by unfold nextF; rw [if_neg (fun g => g h), if_pos h2]) (fun h h2 h3 => by unfold nextF; rw [if_neg (fun g => g h), if_neg h2, if_pos h3]) (fun h h2 h3 => by unfold nextF; rw [if_neg (fun g => g h), if_neg h2, if_neg h3]) (by omega)
    R fun s s' x h he hq => by subst h; exact hR s s' he hq
def tabC (l : List Int) (j : Nat) : Int := if j / 2 * 2 + 1 < l.length then l.getD j 0 else 0
def tabV (f : Nat → Int) : V := .agg [.int .i64 (f 0), .int .i64 (f 1), .int .i64 (f 2), .int .i64 (f 3), .int .i64 (f 4), .int .i64 (f 5), .int .i64 (f 6), .int .i64 (f 7), .int .i64 (f 8), .int .i64 (f 9), .int .i64 (f 10), .int .i64 (f 11), .int .i64 (f 12), .int .i64 (f 13), .int .i64 (f 14), .int .i64 (f 15)]
def ac_tab : AC := .seq (.region false [
    ⟨some 2, none, .alloc 80 [(.int .i64 0), (.int .i64 0), (.int .i64 0), (.int .i64 0), (.int .i64 0), (.int .i64 0), (.int .i64 0), (.int .i64 0), (.int .i64 0), (.int .i64 0), (.int .i64 0), (.int .i64 0), (.int .i64 0), (.int .i64 0), (.int .i64 0), (.int .i64 0)]⟩])
  (.seq (.seq (.region false [
    ⟨some 4, none, .mov (.c (.int .i64 0))⟩])
  (.block 0 (.loop (.seq (.region false [
      ⟨some 5, none, .bin .lss (.t 4) (.c (.int .i64 8))⟩])
    (.seq (.cond (.t 5)
      (.skip)
      (.exit 0))
    (.seq (.block 1 (.seq (.region false [
      ⟨some 6, none, .mov (.t 4)⟩,
      ⟨some 3, none, .mov (.t 6)⟩])
    (.seq (.region false [
      ⟨some 7, none, .mov (.t 3)⟩,
      ⟨some 8, none, .bin .mul (.c (.int .i64 2)) (.t 7)⟩,
      ⟨some 9, none, .bin .add (.t 8) (.c (.int .i64 1))⟩,
      ⟨some 10, none, .mov (.t 0)⟩,
      ⟨some 11, none, .len false (.t 10)⟩,
      ⟨some 12, none, .bin .lss (.t 9) (.t 11)⟩])
    (.cond (.t 12)
      (.region true [
        ⟨some 13, none, .mov (.t 3)⟩,
        ⟨some 14, none, .mov (.t 0)⟩,
        ⟨some 15, none, .mov (.t 3)⟩,
        ⟨some 16, none, .bin .mul (.c (.int .i64 2)) (.t 15)⟩,
        ⟨some 17, none, .iaddr 1 (.t 14) (.t 16)⟩,
        ⟨some 18, none, .load1 (.t 17)⟩,
        ⟨some 19, none, .mov (.t 0)⟩,
        ⟨some 20, none, .mov (.t 3)⟩,
        ⟨some 21, none, .bin .mul (.c (.int .i64 2)) (.t 20)⟩,
        ⟨some 22, none, .bin .add (.t 21) (.c (.int .i64 1))⟩,
        ⟨some 23, none, .iaddr 1 (.t 19) (.t 22)⟩,
        ⟨some 24, none, .load1 (.t 23)⟩,
        ⟨some 25, none, .build [(.int .i64 0), (.int .i64 0)] [(0, 1, (.t 18)), (1, 1, (.t 24))]⟩,
        ⟨some 26, none, .iarr 8 2 (.t 2) (.t 13)⟩,
        ⟨none, none, .store 2 (.t 26) (.t 25)⟩])
      (.skip)))))
    (.region false [
      ⟨some 27, none, .bin .add (.t 4) (.c (.int .i64 1))⟩,
      ⟨some 4, none, .mov (.t 27)⟩])))))))
  (.seq (.region false [
    ⟨some 28, none, .loadn 16 (.t 2)⟩,
    ⟨none, none, .store 16 (.t 2) (.t 28)⟩])
  (.ret)))
theorem ok_tab : FnOk Try.prog 47 Try.f47 ac_tab [.cn 2 16] 1 drawD := ⟨Try.func47, by decide +kernel, by kernel_rfl, by kernel_rfl, by decide +kernel⟩
structure YTb (l : List Int) where
  i : Nat
  k : Int
  f : Nat → Int
  hk : k = (i : Int)
  hi : i ≤ 8
  hf : ∀ j, j < 16 → f j = if j < 2 * i then tabC l j else 0
theorem vc_tab (P : Prim) (hP : P = std) (T T1 : CallT) (l : List Int) (rows : List (List V)) (hrows : rows = iRows l) (t : Nat → Int) (ht : ∀ j, j < 16 → t j = tabC l j)
    (R : S → Prop) (hR : ∀ s s' (f : Nat → Int), (∀ j, j < 16 → f j = t j) → Ent s s' → Ret [.cn 2 16] [.agg [.int .i64 (f 0), .int .i64 (f 1), .int .i64 (f 2), .int .i64 (f 3), .int .i64 (f 4), .int .i64 (f 5), .int .i64 (f 6), .int .i64 (f 7), .int .i64 (f 8), .int .i64 (f 9), .int .i64 (f 10), .int .i64 (f 11), .int .i64 (f 12), .int .i64 (f 13), .int .i64 (f 14), .int .i64 (f 15)]] s' → R s) : awp P T T1 ac_tab (S0 [.sl true 1 rows] Hp.emp) R (fun _ _ => False) R := by
  have hl1 : P.rlen rows = (l.length : Int) := by rw [rlen_eq hP, hrows]; simp [iRows]
  have hN0 : P.nat 0 = 0 := by subst hP; rfl
  have hN1 : P.nat 1 = 1 := by subst hP; rfl
  have hN2 : P.nat 2 = 2 := by subst hP; rfl
  have hN3 : P.nat 3 = 3 := by subst hP; rfl
  have hN4 : P.nat 4 = 4 := by subst hP; rfl
  have hN5 : P.nat 5 = 5 := by subst hP; rfl
  have hN6 : P.nat 6 = 6 := by subst hP; rfl
  have hN7 : P.nat 7 = 7 := by subst hP; rfl
  have hnl : ∀ i : Nat, i < 8 → P.leP 0 (i : Int) ∧ P.ltP (i : Int) 8 := fun i hi => ⟨le0 hP (by omega), ltI hP (by omega)⟩
  cbv
  intro β2
  cbv
  refine ⟨YTb l, fun y => [(0, .sl true 1 rows), (2, .ptr 2 (some β2) 16 0 0), (4, .int .i64 y.k)], fun y => [(2, ⟨some β2, 80, 16, [[.int .i64 (y.f 0), .int .i64 (y.f 1), .int .i64 (y.f 2), .int .i64 (y.f 3), .int .i64 (y.f 4), .int .i64 (y.f 5), .int .i64 (y.f 6), .int .i64 (y.f 7), .int .i64 (y.f 8), .int .i64 (y.f 9), .int .i64 (y.f 10), .int .i64 (y.f 11), .int .i64 (y.f 12), .int .i64 (y.f 13), .int .i64 (y.f 14), .int .i64 (y.f 15)]]⟩)], fun y => 8 - y.i,
    ⟨_, Ent.refl _, ⟨0, 0, fun _ => 0, rfl, by omega, fun j _ => by simp⟩, ⟨rfl, rfl, rfl, trivial⟩, ⟨rfl, trivial⟩⟩, ?_⟩
  rintro ⟨i, k, f, hk, hi, hf⟩
  cbv
  refine br_cases (fun h => ?_) (fun h => ?_)
  · have h5 : k < 8 := lt_t hP h
    have hi8 : i < 8 := by ((try simp only [nc] at *); omega)
    have m1 : P.i64 (P.mul 2 k) := by subst hP; exact ⟨by show _ ≤ 2 * k; ((try simp only [nc] at *); omega), by show 2 * k ≤ _; ((try simp only [nc] at *); omega)⟩
    have em : P.mul 2 k = ((2 * i : Nat) : Int) := by subst hP; show 2 * k = _; ((try simp only [nc] at *); omega)
    have ea : P.add (P.mul 2 k) 1 = ((2 * i + 1 : Nat) : Int) := by rw [add_eq hP, em]; ((try simp only [nc] at *); omega)
    have m2 : P.i64 (P.add (P.mul 2 k) 1) := by rw [ea]; exact i64I hP (by omega)
    have m3 : P.i64 (P.add k 1) := by rw [add_eq hP]; exact i64I hP (by ((try simp only [nc] at *); omega))
    have e1 : P.add k 1 = ((i + 1 : Nat) : Int) := by rw [add_eq hP, hk]; ((try simp only [nc] at *); omega)
    have q1 : P.leP 0 k := (by have := (hnl i hi8).1; rw [← hk] at this; exact this)
    have q2 : P.ltP k 8 := (by have := (hnl i hi8).2; rw [← hk] at this; exact this)
    have q3 : P.leP 0 (P.mul 2 k) := le0 hP (by rw [em]; omega)
    have q4 : P.leP 0 (P.add (P.mul 2 k) 1) := le0 hP (by rw [ea]; omega)
    cbv
    refine ⟨m1, m2, ?_⟩
    refine br_cases (fun h => ?_) (fun h => ?_)
    · have h6 : P.add (P.mul 2 k) 1 < P.rlen rows := lt_t hP h
      rw [ea, hl1] at h6
      have h6' : 2 * i + 1 < l.length := by ((try simp only [nc] at *); omega)
      have r1 : P.row rows (P.nat (P.mul 2 k)) [.int .i64 (l.getD (2 * i) 0)] := row_of hP em (by rw [hrows, iRows, List.getElem?_map, List.getElem?_eq_getElem (by omega)]; simp [List.getD_eq_getElem?_getD, List.getElem?_eq_getElem (show 2 * i < l.length by omega)])
      have r2 : P.row rows (P.nat (P.add (P.mul 2 k) 1)) [.int .i64 (l.getD (2 * i + 1) 0)] := row_of hP ea (by rw [hrows, iRows, List.getElem?_map, List.getElem?_eq_getElem h6']; simp [List.getD_eq_getElem?_getD, List.getElem?_eq_getElem h6'])
      have fin : ∀ f' : Nat → Int, f' (2 * i) = l.getD (2 * i) 0 → f' (2 * i + 1) = l.getD (2 * i + 1) 0 → (∀ j, j ≠ 2 * i → j ≠ 2 * i + 1 → f' j = f j) → ∀ j, j < 16 → f' j = if j < 2 * (i + 1) then tabC l j else 0 := by
        intro f' a b c j hj
        by_cases j1 : j = 2 * i
        · subst j1; rw [a, if_pos (by omega)]; unfold tabC; rw [if_pos (by omega)]
        · by_cases j2 : j = 2 * i + 1
          · subst j2; rw [b, if_pos (by omega)]; unfold tabC; rw [if_pos (by omega)]
          · rw [c j j1 j2, hf j hj]
            by_cases j3 : j < 2 * i
            · rw [if_pos j3, if_pos (by omega)]
            · rw [if_neg j3, if_neg (by omega)]
      generalize ha : l.getD (2 * i) 0 = a at r1 fin
      generalize hb : l.getD (2 * i + 1) 0 = b at r2 fin
      cbv
      refine ⟨m1, q3, _, r1, ?_⟩
      cbv
      refine ⟨m1, m2, q4, _, r2, ?_⟩
      cbv
      have hc : i = 0 ∨ i = 1 ∨ i = 2 ∨ i = 3 ∨ i = 4 ∨ i = 5 ∨ i = 6 ∨ i = 7 := by omega
      clear r1 r2 ha hb m1 m2 em ea q3 q4 hl1 h5 h6 h6' hi8 hR ht
      rcases hc with rfl | rfl | rfl | rfl | rfl | rfl | rfl | rfl
      · refine ⟨q1, q2, 0, by rw [hk]; exact hN0, ?_⟩
        cbv
        refine ⟨m3, ?_⟩
        exact ⟨_, Ent.refl _, ⟨0 + 1, _, fun j => if j = 0 then a else if j = 1 then b else f j, e1, by decide, fin _ rfl rfl (fun j h1 h2 => (if_neg h1).trans (if_neg h2))⟩, ⟨rfl, rfl, rfl, trivial⟩, ⟨rfl, trivial⟩, by show 8 - (0 + 1) < 8 - 0; decide⟩
      · refine ⟨q1, q2, 1, by rw [hk]; exact hN1, ?_⟩
        cbv
        refine ⟨m3, ?_⟩
        exact ⟨_, Ent.refl _, ⟨1 + 1, _, fun j => if j = 2 then a else if j = 3 then b else f j, e1, by decide, fin _ rfl rfl (fun j h1 h2 => (if_neg h1).trans (if_neg h2))⟩, ⟨rfl, rfl, rfl, trivial⟩, ⟨rfl, trivial⟩, by show 8 - (1 + 1) < 8 - 1; decide⟩
      · refine ⟨q1, q2, 2, by rw [hk]; exact hN2, ?_⟩
        cbv
        refine ⟨m3, ?_⟩
        exact ⟨_, Ent.refl _, ⟨2 + 1, _, fun j => if j = 4 then a else if j = 5 then b else f j, e1, by decide, fin _ rfl rfl (fun j h1 h2 => (if_neg h1).trans (if_neg h2))⟩, ⟨rfl, rfl, rfl, trivial⟩, ⟨rfl, trivial⟩, by show 8 - (2 + 1) < 8 - 2; decide⟩
      · refine ⟨q1, q2, 3, by rw [hk]; exact hN3, ?_⟩
        cbv
        refine ⟨m3, ?_⟩
        exact ⟨_, Ent.refl _, ⟨3 + 1, _, fun j => if j = 6 then a else if j = 7 then b else f j, e1, by decide, fin _ rfl rfl (fun j h1 h2 => (if_neg h1).trans (if_neg h2))⟩, ⟨rfl, rfl, rfl, trivial⟩, ⟨rfl, trivial⟩, by show 8 - (3 + 1) < 8 - 3; decide⟩
      · refine ⟨q1, q2, 4, by rw [hk]; exact hN4, ?_⟩
        cbv
        refine ⟨m3, ?_⟩
        exact ⟨_, Ent.refl _, ⟨4 + 1, _, fun j => if j = 8 then a else if j = 9 then b else f j, e1, by decide, fin _ rfl rfl (fun j h1 h2 => (if_neg h1).trans (if_neg h2))⟩, ⟨rfl, rfl, rfl, trivial⟩, ⟨rfl, trivial⟩, by show 8 - (4 + 1) < 8 - 4; decide⟩
      · refine ⟨q1, q2, 5, by rw [hk]; exact hN5, ?_⟩
        cbv
        refine ⟨m3, ?_⟩
        exact ⟨_, Ent.refl _, ⟨5 + 1, _, fun j => if j = 10 then a else if j = 11 then b else f j, e1, by decide, fin _ rfl rfl (fun j h1 h2 => (if_neg h1).trans (if_neg h2))⟩, ⟨rfl, rfl, rfl, trivial⟩, ⟨rfl, trivial⟩, by show 8 - (5 + 1) < 8 - 5; decide⟩
      · refine ⟨q1, q2, 6, by rw [hk]; exact hN6, ?_⟩
        cbv
        refine ⟨m3, ?_⟩
        exact ⟨_, Ent.refl _, ⟨6 + 1, _, fun j => if j = 12 then a else if j = 13 then b else f j, e1, by decide, fin _ rfl rfl (fun j h1 h2 => (if_neg h1).trans (if_neg h2))⟩, ⟨rfl, rfl, rfl, trivial⟩, ⟨rfl, trivial⟩, by show 8 - (6 + 1) < 8 - 6; decide⟩
      · refine ⟨q1, q2, 7, by rw [hk]; exact hN7, ?_⟩
        cbv
        refine ⟨m3, ?_⟩
        exact ⟨_, Ent.refl _, ⟨7 + 1, _, fun j => if j = 14 then a else if j = 15 then b else f j, e1, by decide, fin _ rfl rfl (fun j h1 h2 => (if_neg h1).trans (if_neg h2))⟩, ⟨rfl, rfl, rfl, trivial⟩, ⟨rfl, trivial⟩, by show 8 - (7 + 1) < 8 - 7; decide⟩
    · have h6 : ¬ P.add (P.mul 2 k) 1 < P.rlen rows := lt_f hP h
      rw [ea, hl1] at h6
      cbv
      refine ⟨m3, ?_⟩
      refine ⟨_, Ent.refl _, ⟨i + 1, _, f, e1, hi8, fun j hj => ?_⟩, ⟨rfl, rfl, rfl, trivial⟩, ⟨rfl, trivial⟩, by show 8 - (i + 1) < 8 - i; omega⟩
      rw [hf j hj]
      by_cases j1 : j < 2 * i
      · rw [if_pos j1, if_pos (by omega)]
      · rw [if_neg j1]
        split
        · unfold tabC; rw [if_neg (by ((try simp only [nc] at *); omega))]
        · rfl
  · have h5 : ¬ k < 8 := lt_f hP h
    have hi8 : i = 8 := by ((try simp only [nc] at *); omega)
    cbv
    refine hR _ _ f (fun j hj => ?_) (Ent.refl _) ⟨rfl, rfl, Nat.zero_lt_succ 0, Nat.le_refl 16, rfl⟩
    rw [hf j hj, if_pos (by omega), ht j hj]
theorem sp_tab (l : List Int) : Spec Try.prog 47 [.sl true 1 (iRows l)] Hp.emp (Is (tabV (tabC l))) :=
  spec_pure dOk ok_tab [tabV (tabC l)] (.agg _ (by simp; exact ⟨.int _ _, .int _ _, .int _ _, .int _ _, .int _ _, .int _ _, .int _ _, .int _ _, .int _ _, .int _ _, .int _ _, .int _ _, .int _ _, .int _ _, .int _ _, .int _ _⟩)) fun R hR => vc_tab std rfl _ _ l _ rfl (tabC l) (fun _ _ => rfl) R fun s s' f h he hr => by
    refine hR s s' he ?_
    unfold tabV
    rw [← h 0 (by decide), ← h 1 (by decide), ← h 2 (by decide), ← h 3 (by decide), ← h 4 (by decide), ← h 5 (by decide), ← h 6 (by decide), ← h 7 (by decide), ← h 8 (by decide), ← h 9 (by decide), ← h 10 (by decide), ← h 11 (by decide), ← h 12 (by decide), ← h 13 (by decide), ← h 14 (by decide), ← h 15 (by decide)]
    exact hr
/-! the law -/
def ac_lhn : AC := .seq (.region false [
    ⟨some 9, none, .box 76 3 (.t 4)⟩,
    ⟨some 10, none, .mov (.c (.bool false))⟩])
  (.seq (.seq (.region false [
    ⟨some 12, none, .build [(.int .i64 0), (.int .i64 0), (.string ⟨#[]⟩), (.int .i64 0), (.int .i64 0), (.int .i64 0), (.int .i64 0), (.int .i64 0), (.int .i64 0), (.int .i64 0), (.int .i64 0), (.int .i64 0), (.int .i64 0), (.int .i64 0), (.int .i64 0), (.int .i64 0), (.int .i64 0), (.int .i64 0), (.int .i64 0), (.int .i64 0), (.int .i64 0), (.int .i64 0), (.int .i64 0), (.int .i64 0), (.int .i64 0), (.int .i64 0), (.int .i64 0), (.int .i64 0), (.int .i64 0), (.int .i64 0), (.int .i64 0), (.int .i64 0), (.int .i64 0), (.int .i64 0), (.int .i64 0), (.slice none 0 0), (.bool false), (.int .i64 0)] []⟩,
    ⟨some 13, none, .build [(.int .i64 0), (.int .i64 0), (.slice none 0 0)] []⟩,
    ⟨some 14, none, .call 46 [(.t 12), (.c (.int .i64 0)), (.t 13)]⟩,
    ⟨some 15, none, .bin .neq (.t 14) (.c (.int .i64 10))⟩])
  (.cond (.t 15)
    (.seq (.region false [
      ⟨some 10, none, .mov (.c (.bool false))⟩])
    (.ret))
    (.skip)))
  (.seq (.seq (.region false [
    ⟨some 16, none, .mov (.t 0)⟩,
    ⟨some 17, none, .bin .lss (.t 16) (.c (.int .i64 0))⟩,
    ⟨some 18, none, .mov (.t 17)⟩,
    ⟨some 19, some (18, false), .mov (.t 0)⟩,
    ⟨some 20, some (18, false), .bin .gtr (.t 19) (.c (.int .i64 2147483647))⟩,
    ⟨some 21, none, .pick (.t 18) (.c (.bool true)) (.t 20)⟩])
  (.cond (.t 21)
    (.seq (.region false [
      ⟨some 10, none, .mov (.c (.bool true))⟩])
    (.ret))
    (.skip)))
  (.seq (.region false [
    ⟨some 22, none, .mov (.t 0)⟩,
    ⟨some 23, none, .mov (.t 1)⟩,
    ⟨some 24, none, .call 47 [(.t 23)]⟩,
    ⟨some 25, none, .mov (.t 2)⟩,
    ⟨some 26, none, .build [(.int .i64 0), (.int .i64 0), (.string ⟨#[]⟩), (.int .i64 0), (.int .i64 0), (.int .i64 0), (.int .i64 0), (.int .i64 0), (.int .i64 0), (.int .i64 0), (.int .i64 0), (.int .i64 0), (.int .i64 0), (.int .i64 0), (.int .i64 0), (.int .i64 0), (.int .i64 0), (.int .i64 0), (.int .i64 0), (.int .i64 0), (.int .i64 0), (.int .i64 0), (.int .i64 0), (.int .i64 0), (.int .i64 0), (.int .i64 0), (.int .i64 0), (.int .i64 0), (.int .i64 0), (.int .i64 0), (.int .i64 0), (.int .i64 0), (.int .i64 0), (.int .i64 0), (.int .i64 0), (.slice none 0 0), (.bool false), (.int .i64 0)] [(1, 1, (.t 22)), (19, 16, (.t 24)), (35, 1, (.t 25))]⟩,
    ⟨some 11, none, .alloc 82 [(.int .i64 0), (.int .i64 0), (.string ⟨#[]⟩), (.int .i64 0), (.int .i64 0), (.int .i64 0), (.int .i64 0), (.int .i64 0), (.int .i64 0), (.int .i64 0), (.int .i64 0), (.int .i64 0), (.int .i64 0), (.int .i64 0), (.int .i64 0), (.int .i64 0), (.int .i64 0), (.int .i64 0), (.int .i64 0), (.int .i64 0), (.int .i64 0), (.int .i64 0), (.int .i64 0), (.int .i64 0), (.int .i64 0), (.int .i64 0), (.int .i64 0), (.int .i64 0), (.int .i64 0), (.int .i64 0), (.int .i64 0), (.int .i64 0), (.int .i64 0), (.int .i64 0), (.int .i64 0), (.slice none 0 0), (.bool false), (.int .i64 0)]⟩,
    ⟨none, none, .store 38 (.t 11) (.t 26)⟩])
  (.seq (.region true [
    ⟨some 27, none, .loadn 38 (.t 11)⟩,
    ⟨some 28, none, .mov (.t 3)⟩,
    ⟨some 29, none, .loadn 3 (.t 9)⟩,
    ⟨some 30, none, .call 46 [(.t 27), (.t 28), (.t 29)]⟩,
    ⟨some 31, none, .loadn 38 (.t 11)⟩,
    ⟨some 32, none, .mov (.t 3)⟩,
    ⟨some 33, none, .loadn 3 (.t 9)⟩,
    ⟨some 34, none, .call 48 [(.t 31), (.t 32), (.t 33)]⟩,
    ⟨some 35, none, .bin .eql (.t 30) (.t 34)⟩,
    ⟨some 10, none, .mov (.t 35)⟩])
  (.ret)))))
theorem ok_lhn : FnOk Try.prog 10 Try.f10 ac_lhn [.t 10] 5 drawD := ⟨Try.func10, by decide +kernel, by kernel_rfl, by kernel_rfl, by decide +kernel⟩
theorem vc_lhn (P : Prim) (hP : P = std) (T T1 : CallT) (b sz w q x : Int) (lr mr dr : List (List V)) (tb : Nat → Int)
    (h1 : Ans T 46 [.agg [.int .i64 0, .int .i64 0, .str [], .int .i64 0, .int .i64 0, .int .i64 0, .int .i64 0, .int .i64 0, .int .i64 0, .int .i64 0, .int .i64 0, .int .i64 0, .int .i64 0, .int .i64 0, .int .i64 0, .int .i64 0, .int .i64 0, .int .i64 0, .int .i64 0, .int .i64 0, .int .i64 0, .int .i64 0, .int .i64 0, .int .i64 0, .int .i64 0, .int .i64 0, .int .i64 0, .int .i64 0, .int .i64 0, .int .i64 0, .int .i64 0, .int .i64 0, .int .i64 0, .int .i64 0, .int .i64 0, .nilsl, .bool false, .int .i64 0], .int .i64 0, .agg [.int .i64 0, .int .i64 0, .nilsl]] (.int .i64 10))
    (h2 : Ans T 47 [.sl false 1 lr] (.agg [.int .i64 (tb 0), .int .i64 (tb 1), .int .i64 (tb 2), .int .i64 (tb 3), .int .i64 (tb 4), .int .i64 (tb 5), .int .i64 (tb 6), .int .i64 (tb 7), .int .i64 (tb 8), .int .i64 (tb 9), .int .i64 (tb 10), .int .i64 (tb 11), .int .i64 (tb 12), .int .i64 (tb 13), .int .i64 (tb 14), .int .i64 (tb 15)]))
    (h3 : 0 ≤ b → b ≤ 2147483647 → Ans T1 46 [.agg [.int .i64 0, .int .i64 b, .str [], .int .i64 0, .int .i64 0, .int .i64 0, .int .i64 0, .int .i64 0, .int .i64 0, .int .i64 0, .int .i64 0, .int .i64 0, .int .i64 0, .int .i64 0, .int .i64 0, .int .i64 0, .int .i64 0, .int .i64 0, .int .i64 0, .int .i64 (tb 0), .int .i64 (tb 1), .int .i64 (tb 2), .int .i64 (tb 3), .int .i64 (tb 4), .int .i64 (tb 5), .int .i64 (tb 6), .int .i64 (tb 7), .int .i64 (tb 8), .int .i64 (tb 9), .int .i64 (tb 10), .int .i64 (tb 11), .int .i64 (tb 12), .int .i64 (tb 13), .int .i64 (tb 14), .int .i64 (tb 15), .sl false 3 mr, .bool false, .int .i64 0], .int .i64 sz, .agg [.int .i64 w, .int .i64 q, .sl false 3 dr]] (.int .i64 x))
    (h4 : 0 ≤ b → b ≤ 2147483647 → Ans T1 48 [.agg [.int .i64 0, .int .i64 b, .str [], .int .i64 0, .int .i64 0, .int .i64 0, .int .i64 0, .int .i64 0, .int .i64 0, .int .i64 0, .int .i64 0, .int .i64 0, .int .i64 0, .int .i64 0, .int .i64 0, .int .i64 0, .int .i64 0, .int .i64 0, .int .i64 0, .int .i64 (tb 0), .int .i64 (tb 1), .int .i64 (tb 2), .int .i64 (tb 3), .int .i64 (tb 4), .int .i64 (tb 5), .int .i64 (tb 6), .int .i64 (tb 7), .int .i64 (tb 8), .int .i64 (tb 9), .int .i64 (tb 10), .int .i64 (tb 11), .int .i64 (tb 12), .int .i64 (tb 13), .int .i64 (tb 14), .int .i64 (tb 15), .sl false 3 mr, .bool false, .int .i64 0], .int .i64 sz, .agg [.int .i64 w, .int .i64 q, .sl false 3 dr]] (.int .i64 x))
    (R : S → Prop) (hR : ∀ s s' v, v = true → Ent s s' → Ret [.t 10] [.bool v] s' → R s) : awp P T T1 ac_lhn (S0 [.int .i64 b, .sl false 1 lr, .sl false 3 mr, .int .i64 sz, .agg [.int .i64 w, .int .i64 q, .sl false 3 dr]] Hp.emp) R (fun _ _ => False) R := by
  have n10 : P.ne 10 10 = false := ne_F hP rfl
  cbv
  intro β9
  cbv
  refine h1 _ _ ?_
  cbv
  refine br_ff n10 ?_
  cbv
  refine br_cases (fun h => ?_) (fun h => ?_)
  · cbv
    exact hR _ _ _ rfl (Ent.refl _) rfl
  have b1 := lt_f hP h
  cbv
  refine br_cases (fun h => ?_) (fun h => ?_)
  · cbv
    exact hR _ _ _ rfl (Ent.refl _) rfl
  have b2 := lt_f hP h
  have f3 := h3 (by omega) (by omega)
  have f4 := h4 (by omega) (by omega)
  clear h1 h3 h4
  cbv
  refine h2 _ _ ?_
  cbv
  intro β11
  cbv
  refine f3 _ _ ?_
  cbv
  refine f4 _ _ ?_
  cbv
  exact hR _ _ _ (eq_T hP rfl) (Ent.refl _) rfl
theorem sp_law_hotNexts (b : Int) (l : List Int) (m : List Rev) (sz : Int) (r : Rev) (hb : I64 b) (hl : l.length ≤ maxLen ∧ ∀ a ∈ l, I64 a) (hm : RevsOk m) (_ : I64 sz) (hr : Rev.Ok r) : Spec Try.prog 10 [.int .i64 b, .sl false 1 (l.map fun n => [.int .i64 n]), encRevs m, .int .i64 sz, .agg (encRev r)] Hp.emp (Is (.bool true)) :=
  spec_pure dOk ok_lhn [.bool true] (.bool _) fun R hR => vc_lhn std rfl _ _ b sz r.who r.seq (nextF b (tabC l) m.length sz r) (iRows l) (m.map encRev) (r.delta.map encPart) (tabC l)
    (by
      have h := sp_hnext 0 0 [] (fun _ => 0) (fun _ => 0) [] false 0 0 ⟨0, 0, []⟩ ⟨by decide, by decide⟩ ⟨by simp, by simp⟩
      refine ansW h (fun h => .cons (.agg _ _ rfl fun i v v' h1 h2 => ?_) (.cons (.same _) (.cons (.agg _ _ rfl fun i v v' h1 h2 => ?_) .nil))) rfl
      · match i with
        | 0 => simp at h1 h2; subst h1 h2; exact .same _
        | 1 => simp at h1 h2; subst h1 h2; exact .same _
        | 2 => simp at h1 h2; subst h1 h2; exact .same _
        | 3 => simp at h1 h2; subst h1 h2; exact .same _
        | 4 => simp at h1 h2; subst h1 h2; exact .same _
        | 5 => simp at h1 h2; subst h1 h2; exact .same _
        | 6 => simp at h1 h2; subst h1 h2; exact .same _
        | 7 => simp at h1 h2; subst h1 h2; exact .same _
        | 8 => simp at h1 h2; subst h1 h2; exact .same _
        | 9 => simp at h1 h2; subst h1 h2; exact .same _
        | 10 => simp at h1 h2; subst h1 h2; exact .same _
        | 11 => simp at h1 h2; subst h1 h2; exact .same _
        | 12 => simp at h1 h2; subst h1 h2; exact .same _
        | 13 => simp at h1 h2; subst h1 h2; exact .same _
        | 14 => simp at h1 h2; subst h1 h2; exact .same _
        | 15 => simp at h1 h2; subst h1 h2; exact .same _
        | 16 => simp at h1 h2; subst h1 h2; exact .same _
        | 17 => simp at h1 h2; subst h1 h2; exact .same _
        | 18 => simp at h1 h2; subst h1 h2; exact .same _
        | 19 => simp at h1 h2; subst h1 h2; exact .same _
        | 20 => simp at h1 h2; subst h1 h2; exact .same _
        | 21 => simp at h1 h2; subst h1 h2; exact .same _
        | 22 => simp at h1 h2; subst h1 h2; exact .same _
        | 23 => simp at h1 h2; subst h1 h2; exact .same _
        | 24 => simp at h1 h2; subst h1 h2; exact .same _
        | 25 => simp at h1 h2; subst h1 h2; exact .same _
        | 26 => simp at h1 h2; subst h1 h2; exact .same _
        | 27 => simp at h1 h2; subst h1 h2; exact .same _
        | 28 => simp at h1 h2; subst h1 h2; exact .same _
        | 29 => simp at h1 h2; subst h1 h2; exact .same _
        | 30 => simp at h1 h2; subst h1 h2; exact .same _
        | 31 => simp at h1 h2; subst h1 h2; exact .same _
        | 32 => simp at h1 h2; subst h1 h2; exact .same _
        | 33 => simp at h1 h2; subst h1 h2; exact .same _
        | 34 => simp at h1 h2; subst h1 h2; exact .same _
        | 35 => simp at h1 h2; subst h1 h2; exact .nil _ _
        | 36 => simp at h1 h2; subst h1 h2; exact .same _
        | 37 => simp at h1 h2; subst h1 h2; exact .same _
        | i + 38 => simp at h1
      · match i with
        | 0 => simp [encRev] at h1 h2; subst h1 h2; exact .same _
        | 1 => simp [encRev] at h1 h2; subst h1 h2; exact .same _
        | 2 => simp [encRev, encParts] at h1 h2; subst h1 h2; exact .nil _ _
        | i + 3 => simp at h1)
    (ansIn (sp_tab l) rfl rfl)
    (fun h0 h1 => ansP (sp_hnext 0 b [] (fun _ => 0) (tabC l) m false 0 sz r ⟨h0, h1⟩ hr.2.2) (fun h => .cons (.same _) (.cons (.same _) (.cons (.same _) .nil))) rfl)
    (fun h0 h1 => ansP (sp_rnext 0 b [] (fun _ => 0) (tabC l) m false 0 sz r ⟨h0, h1⟩ hr.2.2) (fun h => .cons (.same _) (.cons (.same _) (.cons (.same _) .nil))) rfl)
    R fun s s' v h he hq => by subst h; exact hR s s' he hq

end Go.Proofs.Ytpfjigafffleiaa.AM
