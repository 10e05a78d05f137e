/-
  The law TierCovers.
-/
import Derived.Test.YtlomnjlfmbolkaaMCovers
set_option linter.unusedVariables false
set_option linter.unusedSimpArgs false
namespace Go.Proofs.Ytlomnjlfmbolkaa.AM
open Go
set_option maxRecDepth 100000
set_option maxHeartbeats 2000000
def ac_eqb : AC := .seq (.region false [
    ⟨some 4, none, .mov (.c (.bool false))⟩])
  (.seq (.seq (.region false [
    ⟨some 6, none, .mov (.t 0)⟩,
    ⟨some 7, none, .len false (.t 6)⟩,
    ⟨some 8, none, .mov (.t 1)⟩,
    ⟨some 9, none, .len false (.t 8)⟩,
    ⟨some 10, none, .bin .neq (.t 7) (.t 9)⟩])
  (.cond (.t 10)
    (.seq (.region false [
      ⟨some 4, none, .mov (.c (.bool false))⟩])
    (.ret))
    (.skip)))
  (.seq (.seq (.region false [
    ⟨some 11, none, .mov (.t 0)⟩,
    ⟨some 12, none, .len false (.t 11)⟩,
    ⟨some 13, none, .mov (.c (.int .i64 0))⟩])
  (.block 0 (.loop (.seq (.region false [
      ⟨some 14, none, .bin .lss (.t 13) (.t 12)⟩])
    (.seq (.cond (.t 14)
      (.skip)
      (.exit 0))
    (.seq (.block 1 (.seq (.region false [
      ⟨some 15, none, .mov (.t 13)⟩,
      ⟨some 5, none, .mov (.t 15)⟩])
    (.seq (.region true [
      ⟨some 16, none, .mov (.t 0)⟩,
      ⟨some 17, none, .mov (.t 5)⟩,
      ⟨some 18, none, .iaddr 2 (.t 16) (.t 17)⟩,
      ⟨some 19, none, .loadn 2 (.t 18)⟩,
      ⟨some 20, none, .mov (.t 1)⟩,
      ⟨some 21, none, .mov (.t 5)⟩,
      ⟨some 22, none, .iaddr 2 (.t 20) (.t 21)⟩,
      ⟨some 23, none, .loadn 2 (.t 22)⟩,
      ⟨some 24, none, .eqs true [1, 1] (.t 19) (.t 23)⟩])
    (.cond (.t 24)
      (.seq (.region false [
        ⟨some 4, none, .mov (.c (.bool false))⟩])
      (.ret))
      (.skip)))))
    (.region false [
      ⟨some 25, none, .bin .add (.t 13) (.c (.int .i64 1))⟩,
      ⟨some 13, none, .mov (.t 25)⟩])))))))
  (.seq (.region false [
    ⟨some 4, none, .mov (.c (.bool true))⟩])
  (.ret))))
theorem ok_eqb : FnOk Try.prog 13 Try.f13 ac_eqb [.t 4] 2 drawD := ⟨Try.func13, by decide +kernel, by kernel_rfl, by kernel_rfl, by decide +kernel⟩
structure YEb (l : List (Nat × Nat)) where
  k : Int
  pre : List (Nat × Nat)
  rest : List (Nat × Nat)
  hd : l = pre ++ rest
  hk : k = (pre.length : Int)
theorem vc_eqb (P : Prim) (hP : P = std) (T T1 : CallT) (l : List (Nat × Nat)) (hl : l.length ≤ 10000000) (rows : List (List V)) (hrows : rows = pairRows l)
    (R : S → Prop) (hR : ∀ s s', Ent s s' → Ret [.t 4] [.bool true] s' → R s) : awp P T T1 ac_eqb (S0 [.sl true 2 rows, .sl true 2 rows] Hp.emp) R (fun _ _ => False) R := by
  have h1 : P.rlen rows = (l.length : Int) := by rw [rlen_eq hP, hrows]; simp [pairRows]
  cbv
  refine br_ff (ne_F hP rfl) ?_
  cbv
  refine ⟨YEb l, fun y => [(0, .sl true 2 rows), (1, .sl true 2 rows), (12, .int .i64 (P.rlen rows)), (13, .int .i64 y.k)], fun _ => [], fun y => y.rest.length,
    ⟨_, Ent.refl _, ⟨0, [], l, rfl, rfl⟩, ⟨rfl, rfl, rfl, rfl, trivial⟩, trivial⟩, ?_⟩
  rintro ⟨k, pre, rest, hd, hk⟩
  have hlp : pre.length + rest.length = l.length := by rw [hd]; simp
  cbv
  refine br_cases (fun h => ?_) (fun h => ?_)
  · have h5 : k < P.rlen rows := lt_t hP h
    rw [h1] at h5
    rcases rest with _ | ⟨⟨v, b⟩, rest⟩
    · exfalso; simp at hlp; ((try simp only [nc] at *); omega)
    have hrow : P.row rows (P.nat k) [.int .i64 v, .int .i64 b] := row_of hP hk (by rw [hrows, pairRows, List.getElem?_map, hd]; simp)
    have q1 : P.leP 0 k := le0 hP (by ((try simp only [nc] at *); omega))
    have q2 : P.i64 (P.add k 1) := by rw [add_eq hP]; exact i64I hP (by ((try simp only [nc] at *); omega))
    have q3 : P.add k 1 = (((pre ++ [(v, b)]).length : Nat) : Int) := by rw [add_eq hP, hk]; simp
    cbv
    refine ⟨q1, _, hrow, ?_⟩
    cbv
    refine ⟨q1, _, hrow, ?_⟩
    cbv
    refine br_cases (fun h => ?_) (fun h => ?_)
    · cbv
      refine ⟨q2, _, Ent.refl _, ⟨_, pre ++ [(v, b)], rest, by simp [hd], q3⟩, ⟨rfl, rfl, rfl, rfl, trivial⟩, trivial, by simp⟩
    · exfalso
      clear hR hrow q1 q2 q3
      subst hP
      simp [std] at h
  · cbv
    exact hR _ _ (Ent.refl _) rfl
theorem sp_eqb (l : List (Nat × Nat)) (hl : l.length ≤ 10000000) : Spec Try.prog 13 [.sl true 2 (pairRows l), .sl true 2 (pairRows l)] Hp.emp (Is (.bool true)) :=
  spec_pure dOk ok_eqb [.bool true] (.bool _) fun R hR => vc_eqb std rfl _ _ l hl _ rfl R hR
def ac_ltc : AC := .seq (.region false [
    ⟨some 4, none, .mov (.c (.bool false))⟩])
  (.seq (.region false [
    ⟨some 8, none, .mov (.t 0)⟩,
    ⟨some 9, none, .mov (.t 1)⟩,
    ⟨some 10, none, .call 12 [(.t 8), (.t 9)]⟩,
    ⟨some 7, none, .mov (.t 10)⟩,
    ⟨some 11, none, .ext 0 (.t 7)⟩,
    ⟨some 12, none, .ext 1 (.t 7)⟩,
    ⟨some 5, none, .mov (.t 11)⟩,
    ⟨some 6, none, .mov (.t 12)⟩])
  (.seq (.seq (.region false [
    ⟨some 13, none, .mov (.t 0)⟩,
    ⟨some 14, none, .bin .lss (.t 13) (.c (.int .i64 0))⟩,
    ⟨some 15, none, .mov (.t 14)⟩,
    ⟨some 16, some (15, false), .mov (.t 0)⟩,
    ⟨some 17, some (15, false), .mov (.t 1)⟩,
    ⟨some 18, some (15, false), .bin .gtr (.t 16) (.t 17)⟩,
    ⟨some 19, none, .pick (.t 15) (.c (.bool true)) (.t 18)⟩,
    ⟨some 20, none, .mov (.t 19)⟩,
    ⟨some 21, some (20, false), .mov (.t 1)⟩,
    ⟨some 22, some (20, false), .bin .gtr (.t 21) (.c (.int .i64 64))⟩,
    ⟨some 23, none, .pick (.t 20) (.c (.bool true)) (.t 22)⟩])
  (.cond (.t 23)
    (.seq (.region false [
      ⟨some 24, none, .mov (.t 6)⟩,
      ⟨some 25, none, .bin .eql (.t 24) (.c (.int .i64 1))⟩,
      ⟨some 26, none, .mov (.t 25)⟩,
      ⟨some 27, some (26, true), .mov (.t 5)⟩,
      ⟨some 28, some (26, true), .len false (.t 27)⟩,
      ⟨some 29, some (26, true), .bin .eql (.t 28) (.c (.int .i64 0))⟩,
      ⟨some 30, none, .pick (.t 26) (.t 29) (.c (.bool false))⟩,
      ⟨some 4, none, .mov (.t 30)⟩])
    (.ret))
    (.skip)))
  (.seq (.region false [
    ⟨some 31, none, .mov (.t 6)⟩,
    ⟨some 32, none, .bin .eql (.t 31) (.c (.int .i64 0))⟩,
    ⟨some 33, none, .mov (.t 32)⟩,
    ⟨some 34, some (33, true), .mov (.t 5)⟩,
    ⟨some 35, some (33, true), .mov (.t 0)⟩,
    ⟨some 36, some (33, true), .mov (.t 1)⟩,
    ⟨some 37, some (33, true), .call 14 [(.t 35), (.t 36)]⟩,
    ⟨some 38, some (33, true), .call 13 [(.t 34), (.t 37)]⟩,
    ⟨some 39, none, .pick (.t 33) (.t 38) (.c (.bool false))⟩,
    ⟨some 4, none, .mov (.t 39)⟩])
  (.ret))))
theorem ok_ltc : FnOk Try.prog 3 Try.f3 ac_ltc [.t 4] 2 drawD := ⟨Try.func3, by decide +kernel, by kernel_rfl, by kernel_rfl, by decide +kernel⟩
theorem vc_ltc (P : Prim) (hP : P = std) (T T1 : CallT) (i k e : Int) (rows : List (List V))
    (h1 : Ans T 12 [.int .i64 i, .int .i64 k] (.tup [.sl false 2 rows, .int .i64 e]))
    (h2 : 0 ≤ i → i ≤ k → k ≤ 64 → Ans T 14 [.int .i64 i, .int .i64 k] (.sl false 2 rows))
    (h3 : Ans T 13 [.sl false 2 rows, .sl false 2 rows] (.bool true))
    (g1 : i < 0 ∨ k < i ∨ 64 < k → rows = [] ∧ e = 1) (g2 : 0 ≤ i → i ≤ k → k ≤ 64 → e = 0)
    (R : S → Prop) (hR : ∀ s s' b, b = true → Ent s s' → Ret [.t 4] [.bool b] s' → R s) : awp P T T1 ac_ltc (S0 [.int .i64 i, .int .i64 k] Hp.emp) R (fun _ _ => False) R := by
  have fin : i < 0 ∨ k < i ∨ 64 < k → P.eq e 1 = true ∧ P.eq (P.rlen rows) 0 = true := fun h => ⟨eq_T hP (g1 h).2, eq_T hP (by rw [rlen_eq hP, (g1 h).1]; rfl)⟩
  cbv
  refine h1 _ _ ?_
  cbv
  by_cases hk : i < 0 ∨ k < i ∨ 64 < k
  · obtain ⟨q1, q2⟩ := fin hk
    have last : ∀ s s' : S, Ent s s' → Ret [.t 4] [.bool (P.eq (P.rlen rows) 0)] s' → R s := fun s s' he hr => hR s s' _ q2 he hr
    by_cases hk1 : i < 0
    · refine br_tt (lt_T hP hk1) ?_
      cbv
      refine br_tt q1 ?_
      cbv
      exact last _ _ (Ent.refl _) rfl
    refine br_ff (lt_F hP hk1) ?_
    cbv
    by_cases hk2 : k < i
    · refine br_tt (lt_T hP hk2) ?_
      cbv
      refine br_tt q1 ?_
      cbv
      exact last _ _ (Ent.refl _) rfl
    refine br_ff (lt_F hP hk2) ?_
    cbv
    refine br_tt (lt_T hP (by omega)) ?_
    cbv
    refine br_tt q1 ?_
    cbv
    exact last _ _ (Ent.refl _) rfl
  have f2 := h2 (by omega) (by omega) (by omega)
  have f3 := g2 (by omega) (by omega) (by omega)
  refine br_ff (lt_F hP (by omega)) ?_
  cbv
  refine br_ff (lt_F hP (by omega)) ?_
  cbv
  refine br_ff (lt_F hP (by omega)) ?_
  cbv
  refine br_tt (eq_T hP f3) ?_
  cbv
  refine f2 _ _ ?_
  cbv
  refine h3 _ _ ?_
  cbv
  exact hR _ _ _ rfl (Ent.refl _) rfl
theorem sp_law_tierCovers (i k : Int) (hi : I64 i) (hk : I64 k) : Spec Try.prog 3 [.int .i64 i, .int .i64 k] Hp.emp (Is (.bool true)) := by
  have hl : (coverF i k).1.length ≤ 10000000 := by
    unfold coverF
    split
    · simp
    · have := (cov_rc (i := i.toNat) (k := k.toNat) (by omega) (by omega)).2
      simp only []
      omega
  exact spec_pure dOk ok_ltc [.bool true] (.bool _) fun R hR => vc_ltc std rfl _ _ i k (coverF i k).2 (pairRows (coverF i k).1)
    (ansW (sp_cover i k) (fun _ => args_plain rfl) rfl)
    (fun h1 h2 h3 => by
      have := ansW (sp_covs i.toNat k.toNat (by omega) (by omega)) (fun _ => args_plain rfl) rfl
      rw [show ((i.toNat : Nat) : Int) = i by omega, show ((k.toNat : Nat) : Int) = k by omega] at this
      have e : (coverF i k).1 = covF 64 i.toNat k.toNat := by unfold coverF; rw [if_neg (by omega)]
      rw [e]
      exact this)
    (ansW (sp_eqb _ hl) (fun _ => .cons (.weak _ _) (.cons (.weak _ _) .nil)) rfl)
    (fun h => by unfold coverF; rw [if_pos (by omega)]; exact ⟨rfl, rfl⟩) (fun h1 h2 h3 => by unfold coverF; rw [if_neg (by omega)])
    R fun s s' b h he hr => by subst h; exact hR s s' he hr
end Go.Proofs.Ytlomnjlfmbolkaa.AM
