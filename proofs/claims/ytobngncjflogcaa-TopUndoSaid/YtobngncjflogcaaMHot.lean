/-
  May a revision come behind a log: hot.Next, the document's Next, and the law HotNexts.
-/
import Derived.Test.YtobngncjflogcaaMRevs
import Derived.Test.YtobngncjflogcaaMInts
set_option linter.unusedVariables false
set_option linter.unusedSimpArgs false
namespace Go.Proofs.Ytobngncjflogcaa.AM
open Go
set_option maxRecDepth 100000
set_option maxHeartbeats 2000000
def ac_hnext : AC := .seq (.region false [
    ⟨some 3, none, .box 81 38 (.t 0)⟩,
    ⟨some 5, none, .box 45 3 (.t 2)⟩,
    ⟨some 6, none, .mov (.c (.int .i64 0))⟩])
  (.seq (.seq (.region false [
    ⟨some 8, none, .loadn 3 (.t 5)⟩,
    ⟨some 9, none, .call 90 [(.t 8)]⟩,
    ⟨some 7, none, .mov (.t 9)⟩])
  (.seq (.region false [
    ⟨some 10, none, .mov (.t 7)⟩,
    ⟨some 11, none, .bin .neq (.t 10) (.c (.int .i64 0))⟩])
  (.cond (.t 11)
    (.seq (.region false [
      ⟨some 12, none, .mov (.t 7)⟩,
      ⟨some 6, none, .mov (.t 12)⟩])
    (.ret))
    (.skip))))
  (.seq (.seq (.region true [
    ⟨some 13, none, .faddr 1 (.t 5)⟩,
    ⟨some 14, none, .load1 (.t 13)⟩,
    ⟨some 15, none, .faddr 0 (.t 5)⟩,
    ⟨some 16, none, .load1 (.t 15)⟩,
    ⟨some 17, none, .faddr 19 (.t 3)⟩,
    ⟨some 18, none, .iarr 8 2 (.t 17) (.t 16)⟩,
    ⟨some 19, none, .faddr 0 (.t 18)⟩,
    ⟨some 20, none, .load1 (.t 19)⟩,
    ⟨some 21, none, .bin .leq (.t 14) (.t 20)⟩])
  (.cond (.t 21)
    (.seq (.region false [
      ⟨some 6, none, .mov (.c (.int .i64 10))⟩])
    (.ret))
    (.skip)))
  (.seq (.seq (.region false [
    ⟨some 22, none, .faddr 35 (.t 3)⟩,
    ⟨some 23, none, .load1 (.t 22)⟩,
    ⟨some 24, none, .len false (.t 23)⟩,
    ⟨some 25, none, .bin .geq (.t 24) (.c (.int .i64 64))⟩,
    ⟨some 26, none, .mov (.t 25)⟩,
    ⟨some 27, some (26, false), .faddr 1 (.t 3)⟩,
    ⟨some 28, some (26, false), .load1 (.t 27)⟩,
    ⟨some 29, some (26, false), .faddr 35 (.t 3)⟩,
    ⟨some 30, some (26, false), .load1 (.t 29)⟩,
    ⟨some 31, some (26, false), .len false (.t 30)⟩,
    ⟨some 32, some (26, false), .bin .add (.t 28) (.t 31)⟩,
    ⟨some 33, some (26, false), .bin .geq (.t 32) (.c (.int .i64 2147483647))⟩,
    ⟨some 34, none, .pick (.t 26) (.c (.bool true)) (.t 33)⟩])
  (.cond (.t 34)
    (.seq (.region false [
      ⟨some 6, none, .mov (.c (.int .i64 11))⟩])
    (.ret))
    (.skip)))
  (.seq (.region false [
    ⟨some 35, none, .faddr 2 (.t 5)⟩,
    ⟨some 36, none, .load1 (.t 35)⟩,
    ⟨some 37, none, .mov (.t 1)⟩,
    ⟨some 38, none, .call 54 [(.t 36), (.t 37)]⟩,
    ⟨some 6, none, .mov (.t 38)⟩])
  (.ret)))))
theorem ok_hnext : FnOk Try.prog 60 Try.f60 ac_hnext [.t 6] 3 drawD := ⟨Try.func60, by decide +kernel, by kernel_rfl, by kernel_rfl, by decide +kernel⟩
theorem vc_hnext (P : Prim) (hP : P = std) (T T1 : CallT) (gn b gd w q sz o f n : Int) (tx : List UInt8) (fs tb : Nat → Int) (rv dr : List (List V)) (wh tt : Bool) (hn : P.rlen rv = n) (hb : 0 ≤ b ∧ b ≤ 2147483647)
    (hc1 : Ans T 90 [.agg [.int .i64 w, .int .i64 q, .sl false 3 dr]] (.int .i64 o)) (hw : o = 0 → w = 0 ∨ w = 1 ∨ w = 2 ∨ w = 3 ∨ w = 4 ∨ w = 5 ∨ w = 6 ∨ w = 7) (hc2 : o = 0 → Ans T 54 [.sl false 3 dr, .int .i64 sz] (.int .i64 f))
    (res : Int) (g1 : o ≠ 0 → o = res) (g2 : o = 0 → q ≤ tb (2 * w.toNat) → 10 = res) (g3 : o = 0 → ¬ q ≤ tb (2 * w.toNat) → 64 ≤ n ∨ 2147483647 ≤ b + n → 11 = res) (g4 : o = 0 → ¬ q ≤ tb (2 * w.toNat) → ¬ (64 ≤ n ∨ 2147483647 ≤ b + n) → f = res) (hn0 : 0 ≤ n)
    (R : S → Prop) (hR : ∀ s s' x, x = res → Ent s s' → Ret [.t 6] [.int .i64 x] s' → R s) : awp P T T1 ac_hnext (S0 [.agg [.int .i64 gn, .int .i64 b, .str tx, .int .i64 (fs 0), .int .i64 (fs 1), .int .i64 (fs 2), .int .i64 (fs 3), .int .i64 (fs 4), .int .i64 (fs 5), .int .i64 (fs 6), .int .i64 (fs 7), .int .i64 (fs 8), .int .i64 (fs 9), .int .i64 (fs 10), .int .i64 (fs 11), .int .i64 (fs 12), .int .i64 (fs 13), .int .i64 (fs 14), .int .i64 (fs 15), .int .i64 (tb 0), .int .i64 (tb 1), .int .i64 (tb 2), .int .i64 (tb 3), .int .i64 (tb 4), .int .i64 (tb 5), .int .i64 (tb 6), .int .i64 (tb 7), .int .i64 (tb 8), .int .i64 (tb 9), .int .i64 (tb 10), .int .i64 (tb 11), .int .i64 (tb 12), .int .i64 (tb 13), .int .i64 (tb 14), .int .i64 (tb 15), .sl tt 3 rv, .bool wh, .int .i64 gd], .int .i64 sz, .agg [.int .i64 w, .int .i64 q, .sl false 3 dr]] Hp.emp) R (fun _ _ => False) R := by
  have hN0 : P.nat 0 = 0 := by subst hP; rfl
  have hN1 : P.nat 1 = 1 := by subst hP; rfl
  have hN2 : P.nat 2 = 2 := by subst hP; rfl
  have hN3 : P.nat 3 = 3 := by subst hP; rfl
  have hN4 : P.nat 4 = 4 := by subst hP; rfl
  have hN5 : P.nat 5 = 5 := by subst hP; rfl
  have hN6 : P.nat 6 = 6 := by subst hP; rfl
  have hN7 : P.nat 7 = 7 := by subst hP; rfl
  have hnl : ∀ i : Nat, i < 8 → P.leP 0 (i : Int) ∧ P.ltP (i : Int) 8 := fun i hi => ⟨le0 hP (by omega), ltI hP (by omega)⟩
  cbv
  intro β3
  cbv
  intro β5
  cbv
  refine hc1 _ _ ?_
  clear hc1
  cbv
  refine br_cases (fun h => ?_) (fun h => ?_)
  · have hz := ne_t hP h
    cbv
    exact hR _ _ _ (g1 hz) (Ent.refl _) rfl
  have hz := ne_f hP h
  have hw := hw hz
  have c2 := hc2 hz
  replace g2 := g2 hz
  replace g3 := g3 hz
  replace g4 := g4 hz
  clear g1 hc2 h
  cbv
  rcases hw with rfl | rfl | rfl | rfl | rfl | rfl | rfl | rfl
  · have q1 : P.leP 0 0 := (hnl 0 (by decide)).1
    have q2 : P.ltP 0 8 := (hnl 0 (by decide)).2
    refine ⟨q1, q2, 0, hN0, ?_⟩
    cbv
    refine br_cases (fun h => ?_) (fun h => ?_)
    · have hq := le_t hP h
      cbv
      exact hR _ _ _ (g2 hq) (Ent.refl _) rfl
    have hq := le_f hP h
    replace g3 := g3 hq
    replace g4 := g4 hq
    cbv
    refine br_cases (fun h => ?_) (fun h => ?_)
    · have h64 : 64 ≤ P.rlen rv := le_t hP h
      rw [hn] at h64
      cbv
      exact hR _ _ _ (g3 (.inl (by omega))) (Ent.refl _) rfl
    have h64 : ¬ 64 ≤ P.rlen rv := le_f hP h
    rw [hn] at h64
    have o1 : P.i64 (P.add b (P.rlen rv)) := by rw [add_eq hP, hn]; exact i64I hP (by omega)
    cbv
    refine ⟨o1, ?_⟩
    refine br_cases (fun h => ?_) (fun h => ?_)
    · have h31 : 2147483647 ≤ P.add b (P.rlen rv) := le_t hP h
      rw [add_eq hP, hn] at h31
      cbv
      exact hR _ _ _ (g3 (.inr (by omega))) (Ent.refl _) rfl
    have h31 : ¬ 2147483647 ≤ P.add b (P.rlen rv) := le_f hP h
    rw [add_eq hP, hn] at h31
    cbv
    refine c2 _ _ ?_
    cbv
    exact hR _ _ _ (g4 (by omega)) (Ent.refl _) rfl
  · have q1 : P.leP 0 1 := (hnl 1 (by decide)).1
    have q2 : P.ltP 1 8 := (hnl 1 (by decide)).2
    refine ⟨q1, q2, 1, hN1, ?_⟩
    cbv
    refine br_cases (fun h => ?_) (fun h => ?_)
    · have hq := le_t hP h
      cbv
      exact hR _ _ _ (g2 hq) (Ent.refl _) rfl
    have hq := le_f hP h
    replace g3 := g3 hq
    replace g4 := g4 hq
    cbv
    refine br_cases (fun h => ?_) (fun h => ?_)
    · have h64 : 64 ≤ P.rlen rv := le_t hP h
      rw [hn] at h64
      cbv
      exact hR _ _ _ (g3 (.inl (by omega))) (Ent.refl _) rfl
    have h64 : ¬ 64 ≤ P.rlen rv := le_f hP h
    rw [hn] at h64
    have o1 : P.i64 (P.add b (P.rlen rv)) := by rw [add_eq hP, hn]; exact i64I hP (by omega)
    cbv
    refine ⟨o1, ?_⟩
    refine br_cases (fun h => ?_) (fun h => ?_)
    · have h31 : 2147483647 ≤ P.add b (P.rlen rv) := le_t hP h
      rw [add_eq hP, hn] at h31
      cbv
      exact hR _ _ _ (g3 (.inr (by omega))) (Ent.refl _) rfl
    have h31 : ¬ 2147483647 ≤ P.add b (P.rlen rv) := le_f hP h
    rw [add_eq hP, hn] at h31
    cbv
    refine c2 _ _ ?_
    cbv
    exact hR _ _ _ (g4 (by omega)) (Ent.refl _) rfl
  · have q1 : P.leP 0 2 := (hnl 2 (by decide)).1
    have q2 : P.ltP 2 8 := (hnl 2 (by decide)).2
    refine ⟨q1, q2, 2, hN2, ?_⟩
    cbv
    refine br_cases (fun h => ?_) (fun h => ?_)
    · have hq := le_t hP h
      cbv
      exact hR _ _ _ (g2 hq) (Ent.refl _) rfl
    have hq := le_f hP h
    replace g3 := g3 hq
    replace g4 := g4 hq
    cbv
    refine br_cases (fun h => ?_) (fun h => ?_)
    · have h64 : 64 ≤ P.rlen rv := le_t hP h
      rw [hn] at h64
      cbv
      exact hR _ _ _ (g3 (.inl (by omega))) (Ent.refl _) rfl
    have h64 : ¬ 64 ≤ P.rlen rv := le_f hP h
    rw [hn] at h64
    have o1 : P.i64 (P.add b (P.rlen rv)) := by rw [add_eq hP, hn]; exact i64I hP (by omega)
    cbv
    refine ⟨o1, ?_⟩
    refine br_cases (fun h => ?_) (fun h => ?_)
    · have h31 : 2147483647 ≤ P.add b (P.rlen rv) := le_t hP h
      rw [add_eq hP, hn] at h31
      cbv
      exact hR _ _ _ (g3 (.inr (by omega))) (Ent.refl _) rfl
    have h31 : ¬ 2147483647 ≤ P.add b (P.rlen rv) := le_f hP h
    rw [add_eq hP, hn] at h31
    cbv
    refine c2 _ _ ?_
    cbv
    exact hR _ _ _ (g4 (by omega)) (Ent.refl _) rfl
  · have q1 : P.leP 0 3 := (hnl 3 (by decide)).1
    have q2 : P.ltP 3 8 := (hnl 3 (by decide)).2
    refine ⟨q1, q2, 3, hN3, ?_⟩
    cbv
    refine br_cases (fun h => ?_) (fun h => ?_)
    · have hq := le_t hP h
      cbv
      exact hR _ _ _ (g2 hq) (Ent.refl _) rfl
    have hq := le_f hP h
    replace g3 := g3 hq
    replace g4 := g4 hq
    cbv
    refine br_cases (fun h => ?_) (fun h => ?_)
    · have h64 : 64 ≤ P.rlen rv := le_t hP h
      rw [hn] at h64
      cbv
      exact hR _ _ _ (g3 (.inl (by omega))) (Ent.refl _) rfl
    have h64 : ¬ 64 ≤ P.rlen rv := le_f hP h
    rw [hn] at h64
    have o1 : P.i64 (P.add b (P.rlen rv)) := by rw [add_eq hP, hn]; exact i64I hP (by omega)
    cbv
    refine ⟨o1, ?_⟩
    refine br_cases (fun h => ?_) (fun h => ?_)
    · have h31 : 2147483647 ≤ P.add b (P.rlen rv) := le_t hP h
      rw [add_eq hP, hn] at h31
      cbv
      exact hR _ _ _ (g3 (.inr (by omega))) (Ent.refl _) rfl
    have h31 : ¬ 2147483647 ≤ P.add b (P.rlen rv) := le_f hP h
    rw [add_eq hP, hn] at h31
    cbv
    refine c2 _ _ ?_
    cbv
    exact hR _ _ _ (g4 (by omega)) (Ent.refl _) rfl
  · have q1 : P.leP 0 4 := (hnl 4 (by decide)).1
    have q2 : P.ltP 4 8 := (hnl 4 (by decide)).2
    refine ⟨q1, q2, 4, hN4, ?_⟩
    cbv
    refine br_cases (fun h => ?_) (fun h => ?_)
    · have hq := le_t hP h
      cbv
      exact hR _ _ _ (g2 hq) (Ent.refl _) rfl
    have hq := le_f hP h
    replace g3 := g3 hq
    replace g4 := g4 hq
    cbv
    refine br_cases (fun h => ?_) (fun h => ?_)
    · have h64 : 64 ≤ P.rlen rv := le_t hP h
      rw [hn] at h64
      cbv
      exact hR _ _ _ (g3 (.inl (by omega))) (Ent.refl _) rfl
    have h64 : ¬ 64 ≤ P.rlen rv := le_f hP h
    rw [hn] at h64
    have o1 : P.i64 (P.add b (P.rlen rv)) := by rw [add_eq hP, hn]; exact i64I hP (by omega)
    cbv
    refine ⟨o1, ?_⟩
    refine br_cases (fun h => ?_) (fun h => ?_)
    · have h31 : 2147483647 ≤ P.add b (P.rlen rv) := le_t hP h
      rw [add_eq hP, hn] at h31
      cbv
      exact hR _ _ _ (g3 (.inr (by omega))) (Ent.refl _) rfl
    have h31 : ¬ 2147483647 ≤ P.add b (P.rlen rv) := le_f hP h
    rw [add_eq hP, hn] at h31
    cbv
    refine c2 _ _ ?_
    cbv
    exact hR _ _ _ (g4 (by omega)) (Ent.refl _) rfl
  · have q1 : P.leP 0 5 := (hnl 5 (by decide)).1
    have q2 : P.ltP 5 8 := (hnl 5 (by decide)).2
    refine ⟨q1, q2, 5, hN5, ?_⟩
    cbv
    refine br_cases (fun h => ?_) (fun h => ?_)
    · have hq := le_t hP h
      cbv
      exact hR _ _ _ (g2 hq) (Ent.refl _) rfl
    have hq := le_f hP h
    replace g3 := g3 hq
    replace g4 := g4 hq
    cbv
    refine br_cases (fun h => ?_) (fun h => ?_)
    · have h64 : 64 ≤ P.rlen rv := le_t hP h
      rw [hn] at h64
      cbv
      exact hR _ _ _ (g3 (.inl (by omega))) (Ent.refl _) rfl
    have h64 : ¬ 64 ≤ P.rlen rv := le_f hP h
    rw [hn] at h64
    have o1 : P.i64 (P.add b (P.rlen rv)) := by rw [add_eq hP, hn]; exact i64I hP (by omega)
    cbv
    refine ⟨o1, ?_⟩
    refine br_cases (fun h => ?_) (fun h => ?_)
    · have h31 : 2147483647 ≤ P.add b (P.rlen rv) := le_t hP h
      rw [add_eq hP, hn] at h31
      cbv
      exact hR _ _ _ (g3 (.inr (by omega))) (Ent.refl _) rfl
    have h31 : ¬ 2147483647 ≤ P.add b (P.rlen rv) := le_f hP h
    rw [add_eq hP, hn] at h31
    cbv
    refine c2 _ _ ?_
    cbv
    exact hR _ _ _ (g4 (by omega)) (Ent.refl _) rfl
  · have q1 : P.leP 0 6 := (hnl 6 (by decide)).1
    have q2 : P.ltP 6 8 := (hnl 6 (by decide)).2
    refine ⟨q1, q2, 6, hN6, ?_⟩
    cbv
    refine br_cases (fun h => ?_) (fun h => ?_)
    · have hq := le_t hP h
      cbv
      exact hR _ _ _ (g2 hq) (Ent.refl _) rfl
    have hq := le_f hP h
    replace g3 := g3 hq
    replace g4 := g4 hq
    cbv
    refine br_cases (fun h => ?_) (fun h => ?_)
    · have h64 : 64 ≤ P.rlen rv := le_t hP h
      rw [hn] at h64
      cbv
      exact hR _ _ _ (g3 (.inl (by omega))) (Ent.refl _) rfl
    have h64 : ¬ 64 ≤ P.rlen rv := le_f hP h
    rw [hn] at h64
    have o1 : P.i64 (P.add b (P.rlen rv)) := by rw [add_eq hP, hn]; exact i64I hP (by omega)
    cbv
    refine ⟨o1, ?_⟩
    refine br_cases (fun h => ?_) (fun h => ?_)
    · have h31 : 2147483647 ≤ P.add b (P.rlen rv) := le_t hP h
      rw [add_eq hP, hn] at h31
      cbv
      exact hR _ _ _ (g3 (.inr (by omega))) (Ent.refl _) rfl
    have h31 : ¬ 2147483647 ≤ P.add b (P.rlen rv) := le_f hP h
    rw [add_eq hP, hn] at h31
    cbv
    refine c2 _ _ ?_
    cbv
    exact hR _ _ _ (g4 (by omega)) (Ent.refl _) rfl
  · have q1 : P.leP 0 7 := (hnl 7 (by decide)).1
    have q2 : P.ltP 7 8 := (hnl 7 (by decide)).2
    refine ⟨q1, q2, 7, hN7, ?_⟩
    cbv
    refine br_cases (fun h => ?_) (fun h => ?_)
    · have hq := le_t hP h
      cbv
      exact hR _ _ _ (g2 hq) (Ent.refl _) rfl
    have hq := le_f hP h
    replace g3 := g3 hq
    replace g4 := g4 hq
    cbv
    refine br_cases (fun h => ?_) (fun h => ?_)
    · have h64 : 64 ≤ P.rlen rv := le_t hP h
      rw [hn] at h64
      cbv
      exact hR _ _ _ (g3 (.inl (by omega))) (Ent.refl _) rfl
    have h64 : ¬ 64 ≤ P.rlen rv := le_f hP h
    rw [hn] at h64
    have o1 : P.i64 (P.add b (P.rlen rv)) := by rw [add_eq hP, hn]; exact i64I hP (by omega)
    cbv
    refine ⟨o1, ?_⟩
    refine br_cases (fun h => ?_) (fun h => ?_)
    · have h31 : 2147483647 ≤ P.add b (P.rlen rv) := le_t hP h
      rw [add_eq hP, hn] at h31
      cbv
      exact hR _ _ _ (g3 (.inr (by omega))) (Ent.refl _) rfl
    have h31 : ¬ 2147483647 ≤ P.add b (P.rlen rv) := le_f hP h
    rw [add_eq hP, hn] at h31
    cbv
    refine c2 _ _ ?_
    cbv
    exact hR _ _ _ (g4 (by omega)) (Ent.refl _) rfl
def ac_rnext : AC := .seq (.region false [
    ⟨some 3, none, .box 81 38 (.t 0)⟩,
    ⟨some 5, none, .box 45 3 (.t 2)⟩,
    ⟨some 6, none, .mov (.c (.int .i64 0))⟩])
  (.seq (.seq (.region false [
    ⟨some 8, none, .loadn 3 (.t 5)⟩,
    ⟨some 9, none, .call 78 [(.t 8)]⟩,
    ⟨some 7, none, .mov (.t 9)⟩])
  (.seq (.region false [
    ⟨some 10, none, .mov (.t 7)⟩,
    ⟨some 11, none, .bin .neq (.t 10) (.c (.int .i64 0))⟩])
  (.cond (.t 11)
    (.seq (.region false [
      ⟨some 12, none, .mov (.t 7)⟩,
      ⟨some 6, none, .mov (.t 12)⟩])
    (.ret))
    (.skip))))
  (.seq (.seq (.region true [
    ⟨some 13, none, .faddr 0 (.t 5)⟩,
    ⟨some 14, none, .load1 (.t 13)⟩,
    ⟨some 15, none, .faddr 19 (.t 3)⟩,
    ⟨some 16, none, .iarr 8 2 (.t 15) (.t 14)⟩,
    ⟨some 17, none, .faddr 0 (.t 16)⟩,
    ⟨some 18, none, .load1 (.t 17)⟩,
    ⟨some 19, none, .faddr 1 (.t 5)⟩,
    ⟨some 20, none, .load1 (.t 19)⟩,
    ⟨some 21, none, .bin .geq (.t 18) (.t 20)⟩])
  (.cond (.t 21)
    (.seq (.region false [
      ⟨some 6, none, .mov (.c (.int .i64 10))⟩])
    (.ret))
    (.skip)))
  (.seq (.seq (.region false [
    ⟨some 22, none, .faddr 35 (.t 3)⟩,
    ⟨some 23, none, .load1 (.t 22)⟩,
    ⟨some 24, none, .len false (.t 23)⟩,
    ⟨some 25, none, .bin .gtr (.t 24) (.c (.int .i64 63))⟩,
    ⟨some 26, none, .mov (.t 25)⟩,
    ⟨some 27, some (26, false), .faddr 1 (.t 3)⟩,
    ⟨some 28, some (26, false), .load1 (.t 27)⟩,
    ⟨some 29, some (26, false), .faddr 35 (.t 3)⟩,
    ⟨some 30, some (26, false), .load1 (.t 29)⟩,
    ⟨some 31, some (26, false), .len false (.t 30)⟩,
    ⟨some 32, some (26, false), .bin .sub (.c (.int .i64 2147483646)) (.t 31)⟩,
    ⟨some 33, some (26, false), .bin .gtr (.t 28) (.t 32)⟩,
    ⟨some 34, none, .pick (.t 26) (.c (.bool true)) (.t 33)⟩])
  (.cond (.t 34)
    (.seq (.region false [
      ⟨some 6, none, .mov (.c (.int .i64 11))⟩])
    (.ret))
    (.skip)))
  (.seq (.region false [
    ⟨some 35, none, .faddr 2 (.t 5)⟩,
    ⟨some 36, none, .load1 (.t 35)⟩,
    ⟨some 37, none, .mov (.t 1)⟩,
    ⟨some 38, none, .call 106 [(.t 36), (.t 37)]⟩,
    ⟨some 6, none, .mov (.t 38)⟩])
  (.ret)))))
theorem ok_rnext : FnOk Try.prog 76 Try.f76 ac_rnext [.t 6] 3 drawD := ⟨Try.func76, by decide +kernel, by kernel_rfl, by kernel_rfl, by decide +kernel⟩
theorem vc_rnext (P : Prim) (hP : P = std) (T T1 : CallT) (gn b gd w q sz o f n : Int) (tx : List UInt8) (fs tb : Nat → Int) (rv dr : List (List V)) (wh tt : Bool) (hn : P.rlen rv = n) (hb : 0 ≤ b ∧ b ≤ 2147483647)
    (hc1 : Ans T 78 [.agg [.int .i64 w, .int .i64 q, .sl false 3 dr]] (.int .i64 o)) (hw : o = 0 → w = 0 ∨ w = 1 ∨ w = 2 ∨ w = 3 ∨ w = 4 ∨ w = 5 ∨ w = 6 ∨ w = 7) (hc2 : o = 0 → Ans T 106 [.sl false 3 dr, .int .i64 sz] (.int .i64 f))
    (res : Int) (g1 : o ≠ 0 → o = res) (g2 : o = 0 → q ≤ tb (2 * w.toNat) → 10 = res) (g3 : o = 0 → ¬ q ≤ tb (2 * w.toNat) → 64 ≤ n ∨ 2147483647 ≤ b + n → 11 = res) (g4 : o = 0 → ¬ q ≤ tb (2 * w.toNat) → ¬ (64 ≤ n ∨ 2147483647 ≤ b + n) → f = res) (hn0 : 0 ≤ n)
    (R : S → Prop) (hR : ∀ s s' x, x = res → Ent s s' → Ret [.t 6] [.int .i64 x] s' → R s) : awp P T T1 ac_rnext (S0 [.agg [.int .i64 gn, .int .i64 b, .str tx, .int .i64 (fs 0), .int .i64 (fs 1), .int .i64 (fs 2), .int .i64 (fs 3), .int .i64 (fs 4), .int .i64 (fs 5), .int .i64 (fs 6), .int .i64 (fs 7), .int .i64 (fs 8), .int .i64 (fs 9), .int .i64 (fs 10), .int .i64 (fs 11), .int .i64 (fs 12), .int .i64 (fs 13), .int .i64 (fs 14), .int .i64 (fs 15), .int .i64 (tb 0), .int .i64 (tb 1), .int .i64 (tb 2), .int .i64 (tb 3), .int .i64 (tb 4), .int .i64 (tb 5), .int .i64 (tb 6), .int .i64 (tb 7), .int .i64 (tb 8), .int .i64 (tb 9), .int .i64 (tb 10), .int .i64 (tb 11), .int .i64 (tb 12), .int .i64 (tb 13), .int .i64 (tb 14), .int .i64 (tb 15), .sl tt 3 rv, .bool wh, .int .i64 gd], .int .i64 sz, .agg [.int .i64 w, .int .i64 q, .sl false 3 dr]] Hp.emp) R (fun _ _ => False) R := by
  have hN0 : P.nat 0 = 0 := by subst hP; rfl
  have hN1 : P.nat 1 = 1 := by subst hP; rfl
  have hN2 : P.nat 2 = 2 := by subst hP; rfl
  have hN3 : P.nat 3 = 3 := by subst hP; rfl
  have hN4 : P.nat 4 = 4 := by subst hP; rfl
  have hN5 : P.nat 5 = 5 := by subst hP; rfl
  have hN6 : P.nat 6 = 6 := by subst hP; rfl
  have hN7 : P.nat 7 = 7 := by subst hP; rfl
  have hnl : ∀ i : Nat, i < 8 → P.leP 0 (i : Int) ∧ P.ltP (i : Int) 8 := fun i hi => ⟨le0 hP (by omega), ltI hP (by omega)⟩
  cbv
  intro β3
  cbv
  intro β5
  cbv
  refine hc1 _ _ ?_
  clear hc1
  cbv
  refine br_cases (fun h => ?_) (fun h => ?_)
  · have hz := ne_t hP h
    cbv
    exact hR _ _ _ (g1 hz) (Ent.refl _) rfl
  have hz := ne_f hP h
  have hw := hw hz
  have c2 := hc2 hz
  replace g2 := g2 hz
  replace g3 := g3 hz
  replace g4 := g4 hz
  clear g1 hc2 h
  cbv
  rcases hw with rfl | rfl | rfl | rfl | rfl | rfl | rfl | rfl
  · have q1 : P.leP 0 0 := (hnl 0 (by decide)).1
    have q2 : P.ltP 0 8 := (hnl 0 (by decide)).2
    refine ⟨q1, q2, 0, hN0, ?_⟩
    cbv
    refine br_cases (fun h => ?_) (fun h => ?_)
    · have hq := le_t hP h
      cbv
      exact hR _ _ _ (g2 hq) (Ent.refl _) rfl
    have hq := le_f hP h
    replace g3 := g3 hq
    replace g4 := g4 hq
    cbv
    refine br_cases (fun h => ?_) (fun h => ?_)
    · have h64 : 63 < P.rlen rv := lt_t hP h
      rw [hn] at h64
      cbv
      exact hR _ _ _ (g3 (.inl (by omega))) (Ent.refl _) rfl
    have h64 : ¬ 63 < P.rlen rv := lt_f hP h
    rw [hn] at h64
    have o1 : P.i64 (P.sub 2147483646 (P.rlen rv)) := by rw [sub_eq hP, hn]; exact i64I hP (by omega)
    cbv
    refine ⟨o1, ?_⟩
    refine br_cases (fun h => ?_) (fun h => ?_)
    · have h31 : P.sub 2147483646 (P.rlen rv) < b := lt_t hP h
      rw [sub_eq hP, hn] at h31
      cbv
      exact hR _ _ _ (g3 (.inr (by omega))) (Ent.refl _) rfl
    have h31 : ¬ P.sub 2147483646 (P.rlen rv) < b := lt_f hP h
    rw [sub_eq hP, hn] at h31
    cbv
    refine c2 _ _ ?_
    cbv
    exact hR _ _ _ (g4 (by omega)) (Ent.refl _) rfl
  · have q1 : P.leP 0 1 := (hnl 1 (by decide)).1
    have q2 : P.ltP 1 8 := (hnl 1 (by decide)).2
    refine ⟨q1, q2, 1, hN1, ?_⟩
    cbv
    refine br_cases (fun h => ?_) (fun h => ?_)
    · have hq := le_t hP h
      cbv
      exact hR _ _ _ (g2 hq) (Ent.refl _) rfl
    have hq := le_f hP h
    replace g3 := g3 hq
    replace g4 := g4 hq
    cbv
    refine br_cases (fun h => ?_) (fun h => ?_)
    · have h64 : 63 < P.rlen rv := lt_t hP h
      rw [hn] at h64
      cbv
      exact hR _ _ _ (g3 (.inl (by omega))) (Ent.refl _) rfl
    have h64 : ¬ 63 < P.rlen rv := lt_f hP h
    rw [hn] at h64
    have o1 : P.i64 (P.sub 2147483646 (P.rlen rv)) := by rw [sub_eq hP, hn]; exact i64I hP (by omega)
    cbv
    refine ⟨o1, ?_⟩
    refine br_cases (fun h => ?_) (fun h => ?_)
    · have h31 : P.sub 2147483646 (P.rlen rv) < b := lt_t hP h
      rw [sub_eq hP, hn] at h31
      cbv
      exact hR _ _ _ (g3 (.inr (by omega))) (Ent.refl _) rfl
    have h31 : ¬ P.sub 2147483646 (P.rlen rv) < b := lt_f hP h
    rw [sub_eq hP, hn] at h31
    cbv
    refine c2 _ _ ?_
    cbv
    exact hR _ _ _ (g4 (by omega)) (Ent.refl _) rfl
  · have q1 : P.leP 0 2 := (hnl 2 (by decide)).1
    have q2 : P.ltP 2 8 := (hnl 2 (by decide)).2
    refine ⟨q1, q2, 2, hN2, ?_⟩
    cbv
    refine br_cases (fun h => ?_) (fun h => ?_)
    · have hq := le_t hP h
      cbv
      exact hR _ _ _ (g2 hq) (Ent.refl _) rfl
    have hq := le_f hP h
    replace g3 := g3 hq
    replace g4 := g4 hq
    cbv
    refine br_cases (fun h => ?_) (fun h => ?_)
    · have h64 : 63 < P.rlen rv := lt_t hP h
      rw [hn] at h64
      cbv
      exact hR _ _ _ (g3 (.inl (by omega))) (Ent.refl _) rfl
    have h64 : ¬ 63 < P.rlen rv := lt_f hP h
    rw [hn] at h64
    have o1 : P.i64 (P.sub 2147483646 (P.rlen rv)) := by rw [sub_eq hP, hn]; exact i64I hP (by omega)
    cbv
    refine ⟨o1, ?_⟩
    refine br_cases (fun h => ?_) (fun h => ?_)
    · have h31 : P.sub 2147483646 (P.rlen rv) < b := lt_t hP h
      rw [sub_eq hP, hn] at h31
      cbv
      exact hR _ _ _ (g3 (.inr (by omega))) (Ent.refl _) rfl
    have h31 : ¬ P.sub 2147483646 (P.rlen rv) < b := lt_f hP h
    rw [sub_eq hP, hn] at h31
    cbv
    refine c2 _ _ ?_
    cbv
    exact hR _ _ _ (g4 (by omega)) (Ent.refl _) rfl
  · have q1 : P.leP 0 3 := (hnl 3 (by decide)).1
    have q2 : P.ltP 3 8 := (hnl 3 (by decide)).2
    refine ⟨q1, q2, 3, hN3, ?_⟩
    cbv
    refine br_cases (fun h => ?_) (fun h => ?_)
    · have hq := le_t hP h
      cbv
      exact hR _ _ _ (g2 hq) (Ent.refl _) rfl
    have hq := le_f hP h
    replace g3 := g3 hq
    replace g4 := g4 hq
    cbv
    refine br_cases (fun h => ?_) (fun h => ?_)
    · have h64 : 63 < P.rlen rv := lt_t hP h
      rw [hn] at h64
      cbv
      exact hR _ _ _ (g3 (.inl (by omega))) (Ent.refl _) rfl
    have h64 : ¬ 63 < P.rlen rv := lt_f hP h
    rw [hn] at h64
    have o1 : P.i64 (P.sub 2147483646 (P.rlen rv)) := by rw [sub_eq hP, hn]; exact i64I hP (by omega)
    cbv
    refine ⟨o1, ?_⟩
    refine br_cases (fun h => ?_) (fun h => ?_)
    · have h31 : P.sub 2147483646 (P.rlen rv) < b := lt_t hP h
      rw [sub_eq hP, hn] at h31
      cbv
      exact hR _ _ _ (g3 (.inr (by omega))) (Ent.refl _) rfl
    have h31 : ¬ P.sub 2147483646 (P.rlen rv) < b := lt_f hP h
    rw [sub_eq hP, hn] at h31
    cbv
    refine c2 _ _ ?_
    cbv
    exact hR _ _ _ (g4 (by omega)) (Ent.refl _) rfl
  · have q1 : P.leP 0 4 := (hnl 4 (by decide)).1
    have q2 : P.ltP 4 8 := (hnl 4 (by decide)).2
    refine ⟨q1, q2, 4, hN4, ?_⟩
    cbv
    refine br_cases (fun h => ?_) (fun h => ?_)
    · have hq := le_t hP h
      cbv
      exact hR _ _ _ (g2 hq) (Ent.refl _) rfl
    have hq := le_f hP h
    replace g3 := g3 hq
    replace g4 := g4 hq
    cbv
    refine br_cases (fun h => ?_) (fun h => ?_)
    · have h64 : 63 < P.rlen rv := lt_t hP h
      rw [hn] at h64
      cbv
      exact hR _ _ _ (g3 (.inl (by omega))) (Ent.refl _) rfl
    have h64 : ¬ 63 < P.rlen rv := lt_f hP h
    rw [hn] at h64
    have o1 : P.i64 (P.sub 2147483646 (P.rlen rv)) := by rw [sub_eq hP, hn]; exact i64I hP (by omega)
    cbv
    refine ⟨o1, ?_⟩
    refine br_cases (fun h => ?_) (fun h => ?_)
    · have h31 : P.sub 2147483646 (P.rlen rv) < b := lt_t hP h
      rw [sub_eq hP, hn] at h31
      cbv
      exact hR _ _ _ (g3 (.inr (by omega))) (Ent.refl _) rfl
    have h31 : ¬ P.sub 2147483646 (P.rlen rv) < b := lt_f hP h
    rw [sub_eq hP, hn] at h31
    cbv
    refine c2 _ _ ?_
    cbv
    exact hR _ _ _ (g4 (by omega)) (Ent.refl _) rfl
  · have q1 : P.leP 0 5 := (hnl 5 (by decide)).1
    have q2 : P.ltP 5 8 := (hnl 5 (by decide)).2
    refine ⟨q1, q2, 5, hN5, ?_⟩
    cbv
    refine br_cases (fun h => ?_) (fun h => ?_)
    · have hq := le_t hP h
      cbv
      exact hR _ _ _ (g2 hq) (Ent.refl _) rfl
    have hq := le_f hP h
    replace g3 := g3 hq
    replace g4 := g4 hq
    cbv
    refine br_cases (fun h => ?_) (fun h => ?_)
    · have h64 : 63 < P.rlen rv := lt_t hP h
      rw [hn] at h64
      cbv
      exact hR _ _ _ (g3 (.inl (by omega))) (Ent.refl _) rfl
    have h64 : ¬ 63 < P.rlen rv := lt_f hP h
    rw [hn] at h64
    have o1 : P.i64 (P.sub 2147483646 (P.rlen rv)) := by rw [sub_eq hP, hn]; exact i64I hP (by omega)
    cbv
    refine ⟨o1, ?_⟩
    refine br_cases (fun h => ?_) (fun h => ?_)
    · have h31 : P.sub 2147483646 (P.rlen rv) < b := lt_t hP h
      rw [sub_eq hP, hn] at h31
      cbv
      exact hR _ _ _ (g3 (.inr (by omega))) (Ent.refl _) rfl
    have h31 : ¬ P.sub 2147483646 (P.rlen rv) < b := lt_f hP h
    rw [sub_eq hP, hn] at h31
    cbv
    refine c2 _ _ ?_
    cbv
    exact hR _ _ _ (g4 (by omega)) (Ent.refl _) rfl
  · have q1 : P.leP 0 6 := (hnl 6 (by decide)).1
    have q2 : P.ltP 6 8 := (hnl 6 (by decide)).2
    refine ⟨q1, q2, 6, hN6, ?_⟩
    cbv
    refine br_cases (fun h => ?_) (fun h => ?_)
    · have hq := le_t hP h
      cbv
      exact hR _ _ _ (g2 hq) (Ent.refl _) rfl
    have hq := le_f hP h
    replace g3 := g3 hq
    replace g4 := g4 hq
    cbv
    refine br_cases (fun h => ?_) (fun h => ?_)
    · have h64 : 63 < P.rlen rv := lt_t hP h
      rw [hn] at h64
      cbv
      exact hR _ _ _ (g3 (.inl (by omega))) (Ent.refl _) rfl
    have h64 : ¬ 63 < P.rlen rv := lt_f hP h
    rw [hn] at h64
    have o1 : P.i64 (P.sub 2147483646 (P.rlen rv)) := by rw [sub_eq hP, hn]; exact i64I hP (by omega)
    cbv
    refine ⟨o1, ?_⟩
    refine br_cases (fun h => ?_) (fun h => ?_)
    · have h31 : P.sub 2147483646 (P.rlen rv) < b := lt_t hP h
      rw [sub_eq hP, hn] at h31
      cbv
      exact hR _ _ _ (g3 (.inr (by omega))) (Ent.refl _) rfl
    have h31 : ¬ P.sub 2147483646 (P.rlen rv) < b := lt_f hP h
    rw [sub_eq hP, hn] at h31
    cbv
    refine c2 _ _ ?_
    cbv
    exact hR _ _ _ (g4 (by omega)) (Ent.refl _) rfl
  · have q1 : P.leP 0 7 := (hnl 7 (by decide)).1
    have q2 : P.ltP 7 8 := (hnl 7 (by decide)).2
    refine ⟨q1, q2, 7, hN7, ?_⟩
    cbv
    refine br_cases (fun h => ?_) (fun h => ?_)
    · have hq := le_t hP h
      cbv
      exact hR _ _ _ (g2 hq) (Ent.refl _) rfl
    have hq := le_f hP h
    replace g3 := g3 hq
    replace g4 := g4 hq
    cbv
    refine br_cases (fun h => ?_) (fun h => ?_)
    · have h64 : 63 < P.rlen rv := lt_t hP h
      rw [hn] at h64
      cbv
      exact hR _ _ _ (g3 (.inl (by omega))) (Ent.refl _) rfl
    have h64 : ¬ 63 < P.rlen rv := lt_f hP h
    rw [hn] at h64
    have o1 : P.i64 (P.sub 2147483646 (P.rlen rv)) := by rw [sub_eq hP, hn]; exact i64I hP (by omega)
    cbv
    refine ⟨o1, ?_⟩
    refine br_cases (fun h => ?_) (fun h => ?_)
    · have h31 : P.sub 2147483646 (P.rlen rv) < b := lt_t hP h
      rw [sub_eq hP, hn] at h31
      cbv
      exact hR _ _ _ (g3 (.inr (by omega))) (Ent.refl _) rfl
    have h31 : ¬ P.sub 2147483646 (P.rlen rv) < b := lt_f hP h
    rw [sub_eq hP, hn] at h31
    cbv
    refine c2 _ _ ?_
    cbv
    exact hR _ _ _ (g4 (by omega)) (Ent.refl _) rfl
def logV (gn b : Int) (tx : List UInt8) (fs tb : Nat → Int) (rv : List (List V)) (wh : Bool) (gd : Int) : V := .agg [.int .i64 gn, .int .i64 b, .str tx, .int .i64 (fs 0), .int .i64 (fs 1), .int .i64 (fs 2), .int .i64 (fs 3), .int .i64 (fs 4), .int .i64 (fs 5), .int .i64 (fs 6), .int .i64 (fs 7), .int .i64 (fs 8), .int .i64 (fs 9), .int .i64 (fs 10), .int .i64 (fs 11), .int .i64 (fs 12), .int .i64 (fs 13), .int .i64 (fs 14), .int .i64 (fs 15), .int .i64 (tb 0), .int .i64 (tb 1), .int .i64 (tb 2), .int .i64 (tb 3), .int .i64 (tb 4), .int .i64 (tb 5), .int .i64 (tb 6), .int .i64 (tb 7), .int .i64 (tb 8), .int .i64 (tb 9), .int .i64 (tb 10), .int .i64 (tb 11), .int .i64 (tb 12), .int .i64 (tb 13), .int .i64 (tb 14), .int .i64 (tb 15), .sl false 3 rv, .bool wh, .int .i64 gd]
def logT (gn b : Int) (tx : List UInt8) (fs tb : Nat → Int) (rv : List (List V)) (wh : Bool) (gd : Int) : V := .agg [.int .i64 gn, .int .i64 b, .str tx, .int .i64 (fs 0), .int .i64 (fs 1), .int .i64 (fs 2), .int .i64 (fs 3), .int .i64 (fs 4), .int .i64 (fs 5), .int .i64 (fs 6), .int .i64 (fs 7), .int .i64 (fs 8), .int .i64 (fs 9), .int .i64 (fs 10), .int .i64 (fs 11), .int .i64 (fs 12), .int .i64 (fs 13), .int .i64 (fs 14), .int .i64 (fs 15), .int .i64 (tb 0), .int .i64 (tb 1), .int .i64 (tb 2), .int .i64 (tb 3), .int .i64 (tb 4), .int .i64 (tb 5), .int .i64 (tb 6), .int .i64 (tb 7), .int .i64 (tb 8), .int .i64 (tb 9), .int .i64 (tb 10), .int .i64 (tb 11), .int .i64 (tb 12), .int .i64 (tb 13), .int .i64 (tb 14), .int .i64 (tb 15), .sl true 3 rv, .bool wh, .int .i64 gd]
def nextF (b : Int) (tb : Nat → Int) (n : Nat) (size : Int) (r : Rev) : Int := if oneF r ≠ 0 then oneF r else if r.seq ≤ tb (2 * r.who.toNat) then 10 else if 64 ≤ (n : Int) ∨ 2147483647 ≤ b + n then 11 else fitsF r.delta size
theorem one_who {r : Rev} (h : oneF r = 0) : 0 ≤ r.who ∧ r.who ≤ 7 ∧ 0 ≤ r.seq ∧ r.seq ≤ 2147483647 ∧ checkF r.delta = 0 := by
  unfold oneF at h
  split at h
  · contradiction
  · omega
theorem sp_hnext (gn b : Int) (tx : List UInt8) (fs tb : Nat → Int) (l : List Rev) (wh : Bool) (gd size : Int) (r : Rev) (hb : 0 ≤ b ∧ b ≤ 2147483647) (hr : PartsOk r.delta) : Spec Try.prog 60 [logV gn b tx fs tb (l.map encRev) wh gd, .int .i64 size, .agg (encRev r)] Hp.emp (Is (.int .i64 (nextF b tb l.length size r))) :=
  spec_pure dOk ok_hnext [.int .i64 (nextF b tb l.length size r)] (.int _ _) fun R hR => vc_hnext std rfl _ _ gn b gd r.who r.seq size (oneF r) (fitsF r.delta size) l.length tx fs tb (l.map encRev) (r.delta.map encPart) wh false (by show ((l.map encRev).length : Int) = _; simp) hb
    (ansW (sp_one r hr) (fun h => .cons (.same _) .nil) rfl) (fun h => by have := one_who h; omega) (fun _ => ansLs (sp_fits r.delta hr.1 size) rfl rfl) (nextF b tb l.length size r)
    (fun h => by unfold nextF; rw [if_pos h]) (fun h h2 => by unfold nextF; rw [if_neg (fun g => g h), if_pos h2]) (fun h h2 h3 => by unfold nextF; rw [if_neg (fun g => g h), if_neg h2, if_pos h3]) (fun h h2 h3 => by unfold nextF; rw [if_neg (fun g => g h), if_neg h2, if_neg h3]) (by omega)
    R fun s s' x h he hq => by subst h; exact hR s s' he hq
theorem sp_rnext (gn b : Int) (tx : List UInt8) (fs tb : Nat → Int) (l : List Rev) (wh : Bool) (gd size : Int) (r : Rev) (hb : 0 ≤ b ∧ b ≤ 2147483647) (hr : PartsOk r.delta) : Spec Try.prog 76 [logV gn b tx fs tb (l.map encRev) wh gd, .int .i64 size, .agg (encRev r)] Hp.emp (Is (.int .i64 (nextF b tb l.length size r))) :=
  spec_pure dOk ok_rnext [.int .i64 (nextF b tb l.length size r)] (.int _ _) fun R hR => vc_rnext std rfl _ _ gn b gd r.who r.seq size (oneF r) (fitsF r.delta size) l.length tx fs tb (l.map encRev) (r.delta.map encPart) wh false (by show ((l.map encRev).length : Int) = _; simp) hb
    (ansW (sp_rrev r hr) (fun h => .cons (.same _) .nil) rfl) (fun h => by have := one_who h; omega) (fun _ => ansLs (sp_rfits r.delta hr.1 size) rfl rfl) (nextF b tb l.length size r)
    (fun h => by unfold nextF; rw [if_pos h]) (fun h h2 => by unfold nextF; rw [if_neg (fun g => g h), if_pos h2]) (fun h h2 h3 => by unfold nextF; rw [if_neg (fun g => g h), if_neg h2, if_pos h3]) (fun h h2 h3 => by unfold nextF; rw [if_neg (fun g => g h), if_neg h2, if_neg h3]) (by omega)
    R fun s s' x h he hq => by subst h; exact hR s s' he hq
theorem sp_hnextT (gn b : Int) (tx : List UInt8) (fs tb : Nat → Int) (l : List Rev) (wh : Bool) (gd size : Int) (r : Rev) (hb : 0 ≤ b ∧ b ≤ 2147483647) (hr : PartsOk r.delta) : Spec Try.prog 60 [logT gn b tx fs tb (l.map encRev) wh gd, .int .i64 size, .agg (encRev r)] Hp.emp (Is (.int .i64 (nextF b tb l.length size r))) :=
  spec_pure dOk ok_hnext [.int .i64 (nextF b tb l.length size r)] (.int _ _) fun R hR => vc_hnext std rfl _ _ gn b gd r.who r.seq size (oneF r) (fitsF r.delta size) l.length tx fs tb (l.map encRev) (r.delta.map encPart) wh true (by show ((l.map encRev).length : Int) = _; simp) hb
    (ansW (sp_one r hr) (fun h => .cons (.same _) .nil) rfl) (fun h => by have := one_who h; omega) (fun _ => ansLs (sp_fits r.delta hr.1 size) rfl rfl) (nextF b tb l.length size r)
    (fun h => by unfold nextF; rw [if_pos h]) (fun h h2 => by unfold nextF; rw [if_neg (fun g => g h), if_pos h2]) (fun h h2 h3 => by unfold nextF; rw [if_neg (fun g => g h), if_neg h2, if_pos h3]) (fun h h2 h3 => by unfold nextF; rw [if_neg (fun g => g h), if_neg h2, if_neg h3]) (by omega)
    R fun s s' x h he hq => by subst h; exact hR s s' he hq
theorem sp_rnextT (gn b : Int) (tx : List UInt8) (fs tb : Nat → Int) (l : List Rev) (wh : Bool) (gd size : Int) (r : Rev) (hb : 0 ≤ b ∧ b ≤ 2147483647) (hr : PartsOk r.delta) : Spec Try.prog 76 [logT gn b tx fs tb (l.map encRev) wh gd, .int .i64 size, .agg (encRev r)] Hp.emp (Is (.int .i64 (nextF b tb l.length size r))) :=
  spec_pure dOk ok_rnext [.int .i64 (nextF b tb l.length size r)] (.int _ _) fun R hR => vc_rnext std rfl _ _ gn b gd r.who r.seq size (oneF r) (fitsF r.delta size) l.length tx fs tb (l.map encRev) (r.delta.map encPart) wh true (by show ((l.map encRev).length : Int) = _; simp) hb
    (ansW (sp_rrev r hr) (fun h => .cons (.same _) .nil) rfl) (fun h => by have := one_who h; omega) (fun _ => ansLs (sp_rfits r.delta hr.1 size) rfl rfl) (nextF b tb l.length size r)
    (fun h => by unfold nextF; rw [if_pos h]) (fun h h2 => by unfold nextF; rw [if_neg (fun g => g h), if_pos h2]) (fun h h2 h3 => by unfold nextF; rw [if_neg (fun g => g h), if_neg h2, if_pos h3]) (fun h h2 h3 => by unfold nextF; rw [if_neg (fun g => g h), if_neg h2, if_neg h3]) (by omega)
    R fun s s' x h he hq => by subst h; exact hR s s' he hq
def tabC (l : List Int) (j : Nat) : Int := if j / 2 * 2 + 1 < l.length then l.getD j 0 else 0
def tabV (f : Nat → Int) : V := .agg [.int .i64 (f 0), .int .i64 (f 1), .int .i64 (f 2), .int .i64 (f 3), .int .i64 (f 4), .int .i64 (f 5), .int .i64 (f 6), .int .i64 (f 7), .int .i64 (f 8), .int .i64 (f 9), .int .i64 (f 10), .int .i64 (f 11), .int .i64 (f 12), .int .i64 (f 13), .int .i64 (f 14), .int .i64 (f 15)]
structure YTb (l : List Int) where
  i : Nat
  k : Int
  f : Nat → Int
  hk : k = (i : Int)
  hi : i ≤ 8
  hf : ∀ j, j < 16 → f j = if j < 2 * i then tabC l j else 0
/-! the law -/
end Go.Proofs.Ytobngncjflogcaa.AM
