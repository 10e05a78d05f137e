/-
  Which revisions are kept: keep.Check, Of, Floor, the document's, and the law KeepSays.
-/
import Derived.Test.YtpfjigafffleiaaMInts
set_option linter.unusedVariables false
set_option linter.unusedSimpArgs false
namespace Go.Proofs.Ytpfjigafffleiaa.AM
open Go
set_option maxRecDepth 100000
set_option maxHeartbeats 2000000
def pinBad (r : Int) : Bool := decide (r < 0) || decide (2147483647 < r)
def polF (p : Pol) : Int := if p.last < 1 ∨ 2147483647 < p.last ∨ p.every < 0 ∨ 2147483647 < p.every then 1 else if 16 < p.pins.length then 2 else if p.pins.any pinBad then 1 else 0
def keptF (last every : Int) (pins : List Int) (head r : Int) : Bool := decide (head - last < r) || (decide (0 < every) && decide (r % every = 0)) || decide (r ∈ pins)
def keptL (last every : Int) (pins : List Int) (head : Int) : Nat → List Int
  | 0 => []
  | n + 1 => keptL last every pins head n ++ (if keptF last every pins head n then [(n : Int)] else [])
theorem keptL_len (last every : Int) (pins : List Int) (head : Int) (n : Nat) : (keptL last every pins head n).length ≤ n := by
  induction n with
  | zero => simp [keptL]
  | succ n ih => unfold keptL; split <;> simp <;> omega
theorem polF_ok {p : Pol} (h : polF p = 0) : 1 ≤ p.last ∧ p.last ≤ 2147483647 ∧ 0 ≤ p.every ∧ p.every ≤ 2147483647 ∧ p.pins.length ≤ 16 := by
  unfold polF at h
  split at h
  · contradiction
  · split at h
    · contradiction
    · omega
def ac_kcheck : AC := .seq (.region false [
    ⟨some 1, none, .box 67 3 (.t 0)⟩,
    ⟨some 2, none, .mov (.c (.int .i64 0))⟩])
  (.seq (.seq (.region false [
    ⟨some 5, none, .faddr 0 (.t 1)⟩,
    ⟨some 6, none, .load1 (.t 5)⟩,
    ⟨some 7, none, .bin .lss (.t 6) (.c (.int .i64 1))⟩,
    ⟨some 8, none, .mov (.t 7)⟩,
    ⟨some 9, some (8, false), .faddr 0 (.t 1)⟩,
    ⟨some 10, some (8, false), .load1 (.t 9)⟩,
    ⟨some 11, some (8, false), .bin .gtr (.t 10) (.c (.int .i64 2147483647))⟩,
    ⟨some 12, none, .pick (.t 8) (.c (.bool true)) (.t 11)⟩,
    ⟨some 13, none, .mov (.t 12)⟩,
    ⟨some 14, some (13, false), .faddr 1 (.t 1)⟩,
    ⟨some 15, some (13, false), .load1 (.t 14)⟩,
    ⟨some 16, some (13, false), .bin .lss (.t 15) (.c (.int .i64 0))⟩,
    ⟨some 17, none, .pick (.t 13) (.c (.bool true)) (.t 16)⟩,
    ⟨some 18, none, .mov (.t 17)⟩,
    ⟨some 19, some (18, false), .faddr 1 (.t 1)⟩,
    ⟨some 20, some (18, false), .load1 (.t 19)⟩,
    ⟨some 21, some (18, false), .bin .gtr (.t 20) (.c (.int .i64 2147483647))⟩,
    ⟨some 22, none, .pick (.t 18) (.c (.bool true)) (.t 21)⟩])
  (.cond (.t 22)
    (.seq (.region false [
      ⟨some 2, none, .mov (.c (.int .i64 1))⟩])
    (.ret))
    (.skip)))
  (.seq (.seq (.region false [
    ⟨some 23, none, .faddr 2 (.t 1)⟩,
    ⟨some 24, none, .load1 (.t 23)⟩,
    ⟨some 25, none, .len false (.t 24)⟩,
    ⟨some 26, none, .bin .gtr (.t 25) (.c (.int .i64 16))⟩])
  (.cond (.t 26)
    (.seq (.region false [
      ⟨some 2, none, .mov (.c (.int .i64 2))⟩])
    (.ret))
    (.skip)))
  (.seq (.seq (.region false [
    ⟨some 27, none, .faddr 2 (.t 1)⟩,
    ⟨some 28, none, .load1 (.t 27)⟩,
    ⟨some 29, none, .len false (.t 28)⟩,
    ⟨some 30, none, .mov (.c (.int .i64 0))⟩])
  (.block 0 (.loop (.seq (.region false [
      ⟨some 31, none, .bin .lss (.t 30) (.t 29)⟩])
    (.seq (.cond (.t 31)
      (.skip)
      (.exit 0))
    (.seq (.block 1 (.seq (.region false [
      ⟨some 32, none, .iaddr 1 (.t 28) (.t 30)⟩,
      ⟨some 33, none, .load1 (.t 32)⟩,
      ⟨some 4, none, .mov (.t 33)⟩])
    (.seq (.region false [
      ⟨some 34, none, .mov (.t 4)⟩,
      ⟨some 35, none, .bin .lss (.t 34) (.c (.int .i64 0))⟩,
      ⟨some 36, none, .mov (.t 35)⟩,
      ⟨some 37, some (36, false), .mov (.t 4)⟩,
      ⟨some 38, some (36, false), .bin .gtr (.t 37) (.c (.int .i64 2147483647))⟩,
      ⟨some 39, none, .pick (.t 36) (.c (.bool true)) (.t 38)⟩])
    (.cond (.t 39)
      (.seq (.region false [
        ⟨some 2, none, .mov (.c (.int .i64 1))⟩])
      (.ret))
      (.skip)))))
    (.region false [
      ⟨some 40, none, .bin .add (.t 30) (.c (.int .i64 1))⟩,
      ⟨some 30, none, .mov (.t 40)⟩])))))))
  (.seq (.region false [
    ⟨some 2, none, .mov (.c (.int .i64 0))⟩])
  (.ret)))))
theorem ok_kcheck : FnOk Try.prog 44 Try.f44 ac_kcheck [.t 2] 1 drawD := ⟨Try.func44, by decide +kernel, by kernel_rfl, by kernel_rfl, by decide +kernel⟩
theorem vc_kcheck (P : Prim) (hP : P = std) (T T1 : CallT) (a e : Int) (l : List Int) (rows : List (List V)) (hrows : rows = iRows l) (r : Int) (hr : polF ⟨a, e, l⟩ = r)
    (R : S → Prop) (hR : ∀ s s' q, q = r → Ent s s' → Ret [.t 2] [.int .i64 q] s' → R s) : awp P T T1 ac_kcheck (S0 [.agg [.int .i64 a, .int .i64 e, .sl false 1 rows]] Hp.emp) R (fun _ _ => False) R := by
  have hl1 : P.rlen rows = (l.length : Int) := by rw [rlen_eq hP, hrows]; simp [iRows]
  have bad : (a < 1 ∨ 2147483647 < a ∨ e < 0 ∨ 2147483647 < e) → 1 = r := by intro h; rw [← hr]; unfold polF; rw [if_pos h]
  cbv
  intro β1
  cbv
  refine br_cases (fun h => ?_) (fun h => ?_)
  · have := lt_t hP h
    cbv
    exact hR _ _ _ (bad (by omega)) (Ent.refl _) rfl
  have n1 := lt_f hP h
  cbv
  refine br_cases (fun h => ?_) (fun h => ?_)
  · have := lt_t hP h
    cbv
    exact hR _ _ _ (bad (by omega)) (Ent.refl _) rfl
  have n2 := lt_f hP h
  cbv
  refine br_cases (fun h => ?_) (fun h => ?_)
  · have := lt_t hP h
    cbv
    exact hR _ _ _ (bad (by omega)) (Ent.refl _) rfl
  have n3 := lt_f hP h
  cbv
  refine br_cases (fun h => ?_) (fun h => ?_)
  · have := lt_t hP h
    cbv
    exact hR _ _ _ (bad (by omega)) (Ent.refl _) rfl
  have n4 := lt_f hP h
  have hr2 : (if 16 < l.length then 2 else if l.any pinBad then 1 else 0) = r := by rw [← hr]; unfold polF; exact (if_neg (by simp only []; omega)).symm
  cbv
  refine br_cases (fun h => ?_) (fun h => ?_)
  · have h5 : 16 < P.rlen rows := lt_t hP h
    rw [hl1] at h5
    rw [if_pos (by ((try simp only [nc] at *); omega))] at hr2
    cbv
    exact hR _ _ _ hr2 (Ent.refl _) rfl
  have h5 : ¬ 16 < P.rlen rows := lt_f hP h
  rw [hl1] at h5
  have hl16 : l.length ≤ 16 := by ((try simp only [nc] at *); omega)
  rw [if_neg (by omega)] at hr2
  clear bad h
  cbv
  refine ⟨{ y : YIx Int l // y.pre.any pinBad = false }, fun y => [(28, .sl false 1 rows), (29, .int .i64 (P.rlen rows)), (30, .int .i64 y.1.k)], fun y => [], fun y => y.1.rest.length,
    ⟨_, Ent.refl _, ⟨⟨0, [], l, rfl, rfl⟩, rfl⟩, ⟨rfl, rfl, rfl, trivial⟩, trivial⟩, ?_⟩
  rintro ⟨⟨k, pre, rest, hd, hk⟩, hpre⟩
  simp only [] at hpre
  have hlp : pre.length + rest.length = l.length := by rw [hd]; simp
  cbv
  refine br_cases (fun h => ?_) (fun h => ?_)
  · have h5 : k < P.rlen rows := lt_t hP h
    rw [hl1] at h5
    rcases rest with _ | ⟨x, rest⟩
    · exfalso; simp at hlp; ((try simp only [nc] at *); omega)
    have hrow : P.row rows (P.nat k) [.int .i64 x] := row_of hP hk (by rw [hrows, iRows, List.getElem?_map, hd]; simp)
    have q1 : P.leP 0 k := le0 hP (by ((try simp only [nc] at *); omega))
    have q2 : P.i64 (P.add k 1) := by rw [add_eq hP]; exact i64I hP (by ((try simp only [nc] at *); omega))
    have bad : pinBad x = true → 1 = r := by
      intro hb
      rw [if_pos (by rw [hd]; simp [hb])] at hr2
      exact hr2
    cbv
    refine ⟨q1, _, hrow, ?_⟩
    cbv
    refine br_cases (fun h => ?_) (fun h => ?_)
    · have := lt_t hP h
      cbv
      exact hR _ _ _ (bad (by simp [pinBad, this])) (Ent.refl _) rfl
    have m1 := lt_f hP h
    cbv
    refine br_cases (fun h => ?_) (fun h => ?_)
    · have := lt_t hP h
      cbv
      exact hR _ _ _ (bad (by simp [pinBad, this])) (Ent.refl _) rfl
    have m2 := lt_f hP h
    cbv
    refine ⟨q2, ?_⟩
    refine ⟨_, Ent.refl _, ⟨⟨_, pre ++ [x], rest, by simp [hd], ?_⟩, ?_⟩, ⟨rfl, rfl, rfl, trivial⟩, trivial, by simp⟩
    · show P.add k 1 = _; rw [add_eq hP, hk]; simp
    · show (pre ++ [x]).any pinBad = false
      rw [List.any_append, hpre]; simp [pinBad]; omega
  · have h5 : ¬ k < P.rlen rows := lt_f hP h
    rw [hl1] at h5
    rcases rest with _ | ⟨a, rest⟩
    rotate_left
    · exfalso; simp at hlp; ((try simp only [nc] at *); omega)
    rw [List.append_nil] at hd
    rw [hd, hpre] at hr2
    cbv
    exact hR _ _ _ hr2 (Ent.refl _) rfl
theorem sp_kcheck (p : Pol) : Spec Try.prog 44 [.agg (encPol p)] Hp.emp (Is (.int .i64 (polF p))) :=
  spec_pure dOk ok_kcheck [.int .i64 (polF p)] (.int _ _) fun R hR => vc_kcheck std rfl _ _ p.last p.every p.pins _ rfl _ rfl R fun s s' q h he hr => by subst h; exact hR s s' he hr

/-! kept -/
def ac_kept : AC := .seq (.region false [
    ⟨some 3, none, .box 67 3 (.t 0)⟩,
    ⟨some 6, none, .mov (.c (.bool false))⟩])
  (.seq (.region false [
    ⟨some 7, none, .mov (.t 2)⟩,
    ⟨some 8, none, .mov (.t 1)⟩,
    ⟨some 9, none, .faddr 0 (.t 3)⟩,
    ⟨some 10, none, .load1 (.t 9)⟩,
    ⟨some 11, none, .bin .sub (.t 8) (.t 10)⟩,
    ⟨some 12, none, .bin .gtr (.t 7) (.t 11)⟩,
    ⟨some 13, none, .mov (.t 12)⟩,
    ⟨some 14, some (13, false), .faddr 1 (.t 3)⟩,
    ⟨some 15, some (13, false), .load1 (.t 14)⟩,
    ⟨some 16, some (13, false), .bin .gtr (.t 15) (.c (.int .i64 0))⟩,
    ⟨some 17, some (13, false), .mov (.t 16)⟩,
    ⟨some 18, some (17, true), .mov (.t 2)⟩,
    ⟨some 19, some (17, true), .faddr 1 (.t 3)⟩,
    ⟨some 20, some (17, true), .load1 (.t 19)⟩,
    ⟨some 21, some (17, true), .bin .rem (.t 18) (.t 20)⟩,
    ⟨some 22, some (17, true), .bin .eql (.t 21) (.c (.int .i64 0))⟩,
    ⟨some 23, some (13, false), .pick (.t 17) (.t 22) (.c (.bool false))⟩,
    ⟨some 24, none, .pick (.t 13) (.c (.bool true)) (.t 23)⟩,
    ⟨some 25, none, .mov (.t 24)⟩,
    ⟨some 26, some (25, false), .faddr 2 (.t 3)⟩,
    ⟨some 27, some (25, false), .load1 (.t 26)⟩,
    ⟨some 28, some (25, false), .mov (.t 2)⟩,
    ⟨some 29, some (25, false), .call 95 [(.t 27), (.t 28)]⟩,
    ⟨some 30, none, .pick (.t 25) (.c (.bool true)) (.t 29)⟩,
    ⟨some 6, none, .mov (.t 30)⟩])
  (.ret))
theorem ok_kept : FnOk Try.prog 92 Try.f92 ac_kept [.t 6] 3 drawD := ⟨Try.func92, by decide +kernel, by kernel_rfl, by kernel_rfl, by decide +kernel⟩
theorem vc_kept (P : Prim) (hP : P = std) (T T1 : CallT) (a e : Int) (l : List Int) (rows : List (List V)) (head x : Int) (ha : 1 ≤ a ∧ a ≤ 2147483647) (he : 0 ≤ e ∧ e ≤ 2147483647) (hh : 0 ≤ head ∧ head ≤ 640) (hx : 0 ≤ x ∧ x ≤ 640) (c : Bool) (hc : c = decide (x ∈ l))
    (hc1 : Ans T 95 [.sl false 1 rows, .int .i64 x] (.bool c)) (r : Bool) (hr : keptF a e l head x = r)
    (R : S → Prop) (hR : ∀ s s' q, q = r → Ent s s' → Ret [.t 6] [.bool q] s' → R s) : awp P T T1 ac_kept (S0 [.agg [.int .i64 a, .int .i64 e, .sl false 1 rows], .int .i64 head, .int .i64 x] Hp.emp) R (fun _ _ => False) R := by
  have o1 : P.i64 (P.sub head a) := by rw [sub_eq hP]; exact i64I hP (by omega)
  have o2 : P.leP 0 x := le0 hP hx.1
  unfold keptF at hr
  rw [← hc] at hr
  cbv
  intro β3
  cbv
  refine ⟨o1, ?_⟩
  refine br_cases (fun h => ?_) (fun h => ?_)
  · have h1 : P.sub head a < x := lt_t hP h
    rw [sub_eq hP] at h1
    cbv
    refine hR _ _ _ ?_ (Ent.refl _) rfl
    rw [← hr]; simp [h1]
  have h1 : ¬ P.sub head a < x := lt_f hP h
  rw [sub_eq hP] at h1
  rw [decide_eq_false h1, Bool.false_or] at hr
  cbv
  refine br_cases (fun h => ?_) (fun h => ?_)
  · have h2 : 0 < e := lt_t hP h
    have o3 : P.ltP 0 e := ltI hP h2
    rw [decide_eq_true h2, Bool.true_and] at hr
    cbv
    refine ⟨o2, o3, ?_⟩
    refine br_cases (fun h => ?_) (fun h => ?_)
    · have h3 : P.mod x e = 0 := eq_t hP h
      have h4 : x % e = 0 := by subst hP; exact h3
      cbv
      refine hR _ _ _ ?_ (Ent.refl _) rfl
      rw [← hr]; simp [h4]
    · have h3 : ¬ P.mod x e = 0 := eq_f hP h
      have h4 : ¬ x % e = 0 := by subst hP; exact h3
      rw [decide_eq_false h4, Bool.false_or] at hr
      cbv
      refine hc1 _ _ ?_
      cbv
      exact hR _ _ _ hr (Ent.refl _) rfl
  · have h2 : ¬ 0 < e := lt_f hP h
    rw [decide_eq_false h2, Bool.false_and, Bool.false_or] at hr
    cbv
    refine hc1 _ _ ?_
    cbv
    exact hR _ _ _ hr (Ent.refl _) rfl
theorem ansIn {f : Nat} {l : List Int} {vs : List V} {v : V} (h : Spec Try.prog f (.sl true 1 (iRows l) :: vs) Hp.emp (Is v)) (hv : v.ren (lab []) = v) (hvs : vs.all V.pl = true) : Ans (CallE Try.prog) f (.sl false 1 (iRows l) :: vs) v := ansW h (fun _ => .cons (.weak _ _) (args_plain hvs)) hv
theorem sp_kept (p : Pol) (hp : polF p = 0) (head x : Int) (hh : 0 ≤ head ∧ head ≤ 640) (hx : 0 ≤ x ∧ x ≤ 640) : Spec Try.prog 92 [.agg (encPol p), .int .i64 head, .int .i64 x] Hp.emp (Is (.bool (keptF p.last p.every p.pins head x))) := by
  obtain ⟨h1, h2, h3, h4, h5⟩ := polF_ok hp
  exact spec_pure dOk ok_kept [.bool _] (.bool _) fun R hR => vc_kept std rfl _ _ p.last p.every p.pins _ head x ⟨h1, h2⟩ ⟨h3, h4⟩ hh hx _ rfl (ansIn (sp_contains p.pins (by omega) x) rfl rfl) _ rfl R fun s s' q h he hr => by subst h; exact hR s s' he hr
def ofF (p : Pol) (head : Int) : List Int × Int := if polF p ≠ 0 then ([], polF p) else if head < 0 ∨ 640 < head then ([], 1) else (keptL p.last p.every p.pins head (head.toNat + 1), 0)
structure YKp (a e : Int) (l : List Int) (head : Int) where
  i : Nat
  k : Int
  n : Nat
  b : Option Nat
  rows : List (List V)
  hk : k = (i : Int)
  hi : k ≤ head + 1
  hrows : rows = iRows (keptL a e l head i)
  hn : n = (keptL a e l head i).length
def ac_kof : AC := .seq (.region false [
    ⟨some 2, none, .box 67 3 (.t 0)⟩,
    ⟨some 4, none, .mov (.c (.slice none 0 0))⟩,
    ⟨some 5, none, .mov (.c (.int .i64 0))⟩])
  (.seq (.seq (.region false [
    ⟨some 9, none, .loadn 3 (.t 2)⟩,
    ⟨some 10, none, .call 44 [(.t 9)]⟩,
    ⟨some 6, none, .mov (.t 10)⟩])
  (.seq (.region false [
    ⟨some 11, none, .mov (.t 6)⟩,
    ⟨some 12, none, .bin .neq (.t 11) (.c (.int .i64 0))⟩])
  (.cond (.t 12)
    (.seq (.region false [
      ⟨some 13, none, .mov (.t 6)⟩,
      ⟨some 4, none, .mov (.c (.slice none 0 0))⟩,
      ⟨some 5, none, .mov (.t 13)⟩])
    (.ret))
    (.skip))))
  (.seq (.seq (.region false [
    ⟨some 14, none, .mov (.t 1)⟩,
    ⟨some 15, none, .bin .lss (.t 14) (.c (.int .i64 0))⟩,
    ⟨some 16, none, .mov (.t 15)⟩,
    ⟨some 17, some (16, false), .mov (.t 1)⟩,
    ⟨some 18, some (16, false), .bin .gtr (.t 17) (.c (.int .i64 640))⟩,
    ⟨some 19, none, .pick (.t 16) (.c (.bool true)) (.t 18)⟩])
  (.cond (.t 19)
    (.seq (.region false [
      ⟨some 4, none, .mov (.c (.slice none 0 0))⟩,
      ⟨some 5, none, .mov (.c (.int .i64 1))⟩])
    (.ret))
    (.skip)))
  (.seq (.region false [
    ⟨some 7, none, .mov (.c (.slice none 0 0))⟩])
  (.seq (.seq (.region false [
    ⟨some 20, none, .mov (.t 1)⟩,
    ⟨some 21, none, .bin .add (.t 20) (.c (.int .i64 1))⟩,
    ⟨some 22, none, .mov (.c (.int .i64 0))⟩])
  (.block 0 (.loop (.seq (.region false [
      ⟨some 23, none, .bin .lss (.t 22) (.t 21)⟩])
    (.seq (.cond (.t 23)
      (.skip)
      (.exit 0))
    (.seq (.block 1 (.seq (.region false [
      ⟨some 24, none, .mov (.t 22)⟩,
      ⟨some 8, none, .mov (.t 24)⟩])
    (.seq (.region false [
      ⟨some 25, none, .loadn 3 (.t 2)⟩,
      ⟨some 26, none, .mov (.t 1)⟩,
      ⟨some 27, none, .mov (.t 8)⟩,
      ⟨some 28, none, .call 92 [(.t 25), (.t 26), (.t 27)]⟩])
    (.cond (.t 28)
      (.region false [
        ⟨some 29, none, .mov (.t 7)⟩,
        ⟨some 30, none, .mov (.t 8)⟩,
        ⟨some 31, none, .bslice 3 1 [(.t 30)]⟩,
        ⟨some 32, none, .append 3 1 8 (.t 29) (.t 31)⟩,
        ⟨some 7, none, .mov (.t 32)⟩])
      (.skip)))))
    (.region false [
      ⟨some 33, none, .bin .add (.t 22) (.c (.int .i64 1))⟩,
      ⟨some 22, none, .mov (.t 33)⟩])))))))
  (.seq (.region false [
    ⟨some 34, none, .mov (.t 7)⟩,
    ⟨some 4, none, .mov (.t 34)⟩,
    ⟨some 5, none, .mov (.c (.int .i64 0))⟩])
  (.ret))))))
theorem ok_kof : FnOk Try.prog 41 Try.f41 ac_kof [.t 4, .t 5] 2 drawD := ⟨Try.func41, by decide +kernel, by kernel_rfl, by kernel_rfl, by decide +kernel⟩
theorem vc_kof (P : Prim) (hP : P = std) (T T1 : CallT) (a e : Int) (l : List Int) (rows : List (List V)) (head c : Int)
    (hc1 : Ans T 44 [.agg [.int .i64 a, .int .i64 e, .sl false 1 rows]] (.int .i64 c)) (kF : Int → Bool) (hkF : ∀ x, kF x = keptF a e l head x)
    (hkept : c = 0 → 0 ≤ head → head ≤ 640 → ∀ x, 0 ≤ x → x ≤ 640 → Ans T 92 [.agg [.int .i64 a, .int .i64 e, .sl false 1 rows], .int .i64 head, .int .i64 x] (.bool (kF x)))
    (r : List Int) (re : Int) (g1 : c ≠ 0 → r = [] ∧ c = re) (g2 : c = 0 → head < 0 ∨ 640 < head → r = [] ∧ 1 = re) (g3 : c = 0 → 0 ≤ head → head ≤ 640 → keptL a e l head (head.toNat + 1) = r ∧ 0 = re)
    (R : S → Prop) (hR : ∀ x, x = re → RetSl [.t 4, .t 5] 1 (iRows r) [.int .i64 x] R) : awp P T T1 ac_kof (S0 [.agg [.int .i64 a, .int .i64 e, .sl false 1 rows], .int .i64 head] Hp.emp) R (fun _ _ => False) R := by
  cbv
  intro β2
  cbv
  refine hc1 _ _ ?_
  cbv
  refine br_cases (fun h => ?_) (fun h => ?_)
  · have hz := ne_t hP h
    obtain ⟨q1, q2⟩ := g1 hz
    cbv
    exact (hR _ q2).1 _ _ (Ent.refl _) rfl (by rw [q1]; rfl)
  have hz := ne_f hP h
  cbv
  refine br_cases (fun h => ?_) (fun h => ?_)
  · have hy := lt_t hP h
    obtain ⟨q1, q2⟩ := g2 hz (.inl hy)
    cbv
    exact (hR _ q2).1 _ _ (Ent.refl _) rfl (by rw [q1]; rfl)
  have hy1 := lt_f hP h
  cbv
  refine br_cases (fun h => ?_) (fun h => ?_)
  · have hy := lt_t hP h
    obtain ⟨q1, q2⟩ := g2 hz (.inr hy)
    cbv
    exact (hR _ q2).1 _ _ (Ent.refl _) rfl (by rw [q1]; rfl)
  have hy2 := lt_f hP h
  have hk := hkept hz (by omega) (by omega)
  obtain ⟨g4, g5⟩ := g3 hz (by omega) (by omega)
  have o1 : P.i64 (P.add head 1) := by rw [add_eq hP]; exact i64I hP (by omega)
  clear hkept g1 g2 g3 h hc1
  cbv
  refine ⟨o1, ?_⟩
  refine ⟨YKp a e l head, fun y => [(1, .int .i64 head), (2, .ptr 2 (some β2) 3 0 0), (7, .own 1000032 y.b 1 y.n), (21, .int .i64 (P.add head 1)), (22, .int .i64 y.k)],
    fun y => [(2, ⟨some β2, 67, 3, [[.int .i64 a, .int .i64 e, .sl false 1 rows]]⟩), (1000032, ⟨y.b, 3, 1, y.rows⟩)], fun y => (head + 1 - y.k).toNat,
    ⟨_, Ent.nil (i := 7) (k := 1000032) (ty := 3) (sz := 1) rfl rfl, ⟨0, 0, _, _, _, rfl, by omega, rfl, rfl⟩, ⟨rfl, rfl, rfl, rfl, rfl, trivial⟩, ⟨rfl, rfl, trivial⟩⟩, ?_⟩
  rintro ⟨i, k, n, b, rows2, hki, hi, hrows2, hn⟩
  have hlen := keptL_len a e l head i
  cbv
  refine br_cases (fun h => ?_) (fun h => ?_)
  · have h5 : k < P.add head 1 := lt_t hP h
    rw [add_eq hP] at h5
    have c1 := hk k (by ((try simp only [nc] at *); omega)) (by ((try simp only [nc] at *); omega))
    have q2 : P.i64 (P.add k 1) := by rw [add_eq hP]; exact i64I hP (by ((try simp only [nc] at *); omega))
    have q3 : P.add k 1 = ((i + 1 : Nat) : Int) := by rw [add_eq hP, hki]; ((try simp only [nc] at *); omega)
    have ho5 : P.neP rows2 n := by subst hP; show rows2.length = n; rw [hrows2, hn]; simp [iRows]
    have ho6 : ∀ r, P.bytes (P.add (P.int n) (P.rlen [r])) 8 := by intro r; subst hP; show ((n : Int) + 1) * 8 ≤ _; ((try simp only [nc] at *); omega)
    have ho7 : ∀ r, P.neP [r] 1 := by intro r; subst hP; rfl
    have hm : (head + 1 - P.add k 1).toNat < (head + 1 - k).toNat := by rw [add_eq hP]; omega
    have hi' : P.add k 1 ≤ head + 1 := by rw [add_eq hP]; omega
    have hst : keptL a e l head (i + 1) = keptL a e l head i ++ (if kF k then [k] else []) := by rw [hkF, hki]; rfl
    cbv
    refine c1 _ _ ?_
    cbv
    refine br_cases (fun h => ?_) (fun h => ?_)
    · rw [if_pos h] at hst
      cbv
      repeat' (first
        | (refine And.intro (by assumption) ?_; try cbv)
        | (refine And.intro (ho7 _) ?_; try cbv)
        | (refine And.intro (ho6 _) ?_; try cbv)
        | (intro β; try cbv))
      refine ⟨_, Ent.refl _, ⟨i + 1, _, _, _, _, q3, hi', ?_, ?_⟩, ⟨rfl, rfl, rfl, rfl, rfl, trivial⟩, ⟨rfl, rfl, trivial⟩, hm⟩
      · show P.rapp rows2 [[.int .i64 k]] = _
        rw [hst, hrows2]; subst hP; simp [std, iRows]
      · show P.nadd n (P.rlenN [_]) = _
        rw [hst, hn]; subst hP; simp [std]
    · rw [if_neg (by rw [h]; decide), List.append_nil] at hst
      cbv
      refine ⟨q2, ?_⟩
      exact ⟨_, Ent.refl _, ⟨i + 1, _, _, _, _, q3, hi', by rw [hst]; exact hrows2, by rw [hst]; exact hn⟩, ⟨rfl, rfl, rfl, rfl, rfl, trivial⟩, ⟨rfl, rfl, trivial⟩, hm⟩
  · have h5 : ¬ k < P.add head 1 := lt_f hP h
    rw [add_eq hP] at h5
    have e1 : head.toNat + 1 = i := by ((try simp only [nc] at *); omega)
    rw [e1] at g4
    cbv
    exact (hR _ g5).2.1 _ _ _ _ _ _ _ (Ent.refl _) rfl rfl ⟨by rw [hn, g4]; simp [iRows], by rw [hrows2, g4]⟩
theorem sp_kof (p : Pol) (head : Int) : Spec Try.prog 41 [.agg (encPol p), .int .i64 head] Hp.emp (Is (.tup [.sl false 1 (iRows (ofF p head).1), .int .i64 (ofF p head).2])) :=
  spec_frz dOk ok_kof fun R hR => vc_kof std rfl _ _ p.last p.every p.pins _ head _ (ansW (sp_kcheck p) (fun h => .cons (.same _) .nil) rfl) (fun x => keptF p.last p.every p.pins head x) (fun _ => rfl)
    (fun hz h0 h1 x hx0 hx1 => ansW (sp_kept p hz head x ⟨h0, h1⟩ ⟨hx0, hx1⟩) (fun h => .cons (.same _) (.cons (.same _) (.cons (.same _) .nil))) rfl) (ofF p head).1 (ofF p head).2
    (fun h => by unfold ofF; rw [if_pos h]; exact ⟨rfl, rfl⟩) (fun h h' => by unfold ofF; rw [if_neg (fun g => g h), if_pos h']; exact ⟨rfl, rfl⟩) (fun h h0 h1 => by unfold ofF; rw [if_neg (fun g => g h), if_neg (by omega)]; exact ⟨rfl, rfl⟩)
    R fun x hx => by subst hx; exact ints_ret (int_fz _) hR
theorem keptL_ne {a e : Int} {l : List Int} {head : Int} (ha : 1 ≤ a) (h0 : 0 ≤ head) : keptL a e l head (head.toNat + 1) ≠ [] := by
  have : keptF a e l head (head.toNat : Int) = true := by
    unfold keptF
    rw [decide_eq_true (by omega)]; rfl
  unfold keptL
  rw [if_pos this]
  simp
theorem ofF_ne {p : Pol} {head : Int} (h : (ofF p head).2 = 0) : ∃ x r, (ofF p head).1 = x :: r := by
  unfold ofF at h ⊢
  split at h
  · rename_i hz; exact absurd h hz
  · rename_i hz
    rw [if_neg hz]
    split at h
    · contradiction
    · rename_i hy
      rw [if_neg hy]
      have h1 := polF_ok (Decidable.of_not_not hz)
      have := keptL_ne (a := p.last) (e := p.every) (l := p.pins) (head := head) h1.1 (by omega)
      rcases hq : keptL p.last p.every p.pins head (head.toNat + 1) with _ | ⟨x, r⟩
      · exact absurd hq this
      · exact ⟨x, r, rfl⟩
def flF (p : Pol) (head : Int) : Int × Int := if (ofF p head).2 ≠ 0 then (0, (ofF p head).2) else ((ofF p head).1.headD 0, 0)
def ac_kfl : AC := .seq (.region false [
    ⟨some 2, none, .box 67 3 (.t 0)⟩,
    ⟨some 4, none, .mov (.c (.int .i64 0))⟩,
    ⟨some 5, none, .mov (.c (.int .i64 0))⟩])
  (.seq (.region false [
    ⟨some 9, none, .loadn 3 (.t 2)⟩,
    ⟨some 10, none, .mov (.t 1)⟩,
    ⟨some 11, none, .call 41 [(.t 9), (.t 10)]⟩,
    ⟨some 8, none, .mov (.t 11)⟩,
    ⟨some 12, none, .ext 0 (.t 8)⟩,
    ⟨some 13, none, .ext 1 (.t 8)⟩,
    ⟨some 6, none, .mov (.t 12)⟩,
    ⟨some 7, none, .mov (.t 13)⟩])
  (.seq (.seq (.region false [
    ⟨some 14, none, .mov (.t 7)⟩,
    ⟨some 15, none, .bin .neq (.t 14) (.c (.int .i64 0))⟩])
  (.cond (.t 15)
    (.seq (.region false [
      ⟨some 16, none, .mov (.t 7)⟩,
      ⟨some 4, none, .mov (.c (.int .i64 0))⟩,
      ⟨some 5, none, .mov (.t 16)⟩])
    (.ret))
    (.skip)))
  (.seq (.region false [
    ⟨some 17, none, .mov (.t 6)⟩,
    ⟨some 18, none, .iaddr 1 (.t 17) (.c (.int .i64 0))⟩,
    ⟨some 19, none, .load1 (.t 18)⟩,
    ⟨some 4, none, .mov (.t 19)⟩,
    ⟨some 5, none, .mov (.c (.int .i64 0))⟩])
  (.ret))))
theorem ok_kfl : FnOk Try.prog 42 Try.f42 ac_kfl [.t 4, .t 5] 2 drawD := ⟨Try.func42, by decide +kernel, by kernel_rfl, by kernel_rfl, by decide +kernel⟩
theorem vc_kfl (P : Prim) (hP : P = std) (T T1 : CallT) (a e : Int) (rows fr : List (List V)) (head c x : Int) (hc1 : Ans T 41 [.agg [.int .i64 a, .int .i64 e, .sl false 1 rows], .int .i64 head] (.tup [.sl false 1 fr, .int .i64 c]))
    (hrow : c = 0 → P.row fr (P.nat 0) [.int .i64 x]) (r re : Int) (g1 : c ≠ 0 → 0 = r ∧ c = re) (g2 : c = 0 → x = r ∧ 0 = re)
    (R : S → Prop) (hR : ∀ s s' q1 q2, q1 = r ∧ q2 = re → Ent s s' → Ret [.t 4, .t 5] [.int .i64 q1, .int .i64 q2] s' → R s) : awp P T T1 ac_kfl (S0 [.agg [.int .i64 a, .int .i64 e, .sl false 1 rows], .int .i64 head] Hp.emp) R (fun _ _ => False) R := by
  have o1 : P.leP 0 0 := le0 hP (by omega)
  cbv
  intro β2
  cbv
  refine hc1 _ _ ?_
  cbv
  refine br_cases (fun h => ?_) (fun h => ?_)
  · have hz := ne_t hP h
    cbv
    exact hR _ _ _ _ (g1 hz) (Ent.refl _) rfl
  · have hz := ne_f hP h
    have hr := hrow hz
    cbv
    refine ⟨o1, _, hr, ?_⟩
    cbv
    exact hR _ _ _ _ (g2 hz) (Ent.refl _) rfl
theorem sp_kfl (p : Pol) (head : Int) : Spec Try.prog 42 [.agg (encPol p), .int .i64 head] Hp.emp (Is (.tup [.int .i64 (flF p head).1, .int .i64 (flF p head).2])) :=
  spec_pure dOk ok_kfl [.int .i64 (flF p head).1, .int .i64 (flF p head).2] (.tup _ (by simp; exact ⟨.int _ _, .int _ _⟩)) fun R hR => vc_kfl std rfl _ _ p.last p.every _ (iRows (ofF p head).1) head (ofF p head).2 ((ofF p head).1.headD 0) (ansW (sp_kof p head) (fun h => .cons (.same _) (.cons (.same _) .nil)) rfl)
    (fun h => by obtain ⟨x, r, hx⟩ := ofF_ne h; rw [hx]; rfl) (flF p head).1 (flF p head).2 (fun h => by unfold flF; rw [if_pos h]; exact ⟨rfl, rfl⟩) (fun h => by unfold flF; rw [if_neg (fun g => g h)]; exact ⟨rfl, rfl⟩)
    R fun s s' q1 q2 h he hr => by obtain ⟨rfl, rfl⟩ := h; exact hR s s' he hr

/-! the document's policy -/
def idxB (l : List Int) (i : Int) : Int := match l with
  | [] => -1
  | a :: l => if pinBad a then i else idxB l (i + 1)
theorem idxB_any : ∀ (l : List Int) (i : Int), 0 ≤ i → (0 ≤ idxB l i ↔ l.any pinBad = true)
  | [], i, _ => by simp [idxB]
  | a :: l, i, h => by
    unfold idxB
    split
    · rename_i e; simp [h, e]
    · rename_i e; rw [idxB_any l (i + 1) (by omega)]; simp [e]
def ac_polb : AC := .seq (.region false [
    ⟨some 2, none, .mov (.c (.bool false))⟩])
  (.seq (.region false [
    ⟨some 3, none, .mov (.t 0)⟩,
    ⟨some 4, none, .bin .lss (.t 3) (.c (.int .i64 0))⟩,
    ⟨some 5, none, .mov (.t 4)⟩,
    ⟨some 6, some (5, false), .mov (.t 0)⟩,
    ⟨some 7, some (5, false), .bin .gtr (.t 6) (.c (.int .i64 2147483647))⟩,
    ⟨some 8, none, .pick (.t 5) (.c (.bool true)) (.t 7)⟩,
    ⟨some 2, none, .mov (.t 8)⟩])
  (.ret))
theorem ok_polb : FnOk Try.prog 94 Try.f94 ac_polb [.t 2] 1 drawD := ⟨Try.func94, by decide +kernel, by kernel_rfl, by kernel_rfl, by decide +kernel⟩
theorem vc_polb (P : Prim) (hP : P = std) (T T1 : CallT) (x : Int) (r : Bool) (hr : pinBad x = r)
    (R : S → Prop) (hR : ∀ s s' q, q = r → Ent s s' → Ret [.t 2] [.bool q] s' → R s) : awp P T T1 ac_polb (S0 [.int .i64 x] Hp.emp) R (fun _ _ => False) R := by
  cbv
  refine br_cases (fun h => ?_) (fun h => ?_)
  · have h1 := lt_t hP h
    cbv
    exact hR _ _ _ (by rw [← hr]; simp [pinBad, h1]) (Ent.refl _) rfl
  · have h1 := lt_f hP h
    cbv
    exact hR _ _ _ (by rw [← hr]; unfold pinBad; rw [decide_eq_false h1]; subst hP; rfl) (Ent.refl _) rfl
theorem sp_polb (x : Int) : Spec Try.prog 94 [.int .i64 x] Hp.emp (Is (.bool (pinBad x))) :=
  spec_pure dOk ok_polb [.bool (pinBad x)] (.bool _) fun R hR => vc_polb std rfl _ _ x _ rfl R fun s s' q h he hr => by subst h; exact hR s s' he hr
def ac_ixf : AC := .seq (.region false [
    ⟨some 4, none, .mov (.c (.int .i64 0))⟩])
  (.seq (.seq (.region false [
    ⟨some 6, none, .mov (.t 0)⟩,
    ⟨some 7, none, .len false (.t 6)⟩,
    ⟨some 8, none, .mov (.c (.int .i64 0))⟩])
  (.block 0 (.loop (.seq (.region false [
      ⟨some 9, none, .bin .lss (.t 8) (.t 7)⟩])
    (.seq (.cond (.t 9)
      (.skip)
      (.exit 0))
    (.seq (.block 1 (.seq (.region false [
      ⟨some 10, none, .mov (.t 8)⟩,
      ⟨some 5, none, .mov (.t 10)⟩])
    (.seq (.region false [
      ⟨some 11, none, .mov (.t 1)⟩,
      ⟨some 12, none, .mov (.t 0)⟩,
      ⟨some 13, none, .mov (.t 5)⟩,
      ⟨some 14, none, .iaddr 1 (.t 12) (.t 13)⟩,
      ⟨some 15, none, .load1 (.t 14)⟩,
      ⟨some 16, none, .callv (.t 11) [(.t 15)]⟩])
    (.cond (.t 16)
      (.seq (.region false [
        ⟨some 17, none, .mov (.t 5)⟩,
        ⟨some 4, none, .mov (.t 17)⟩])
      (.ret))
      (.skip)))))
    (.region false [
      ⟨some 18, none, .bin .add (.t 8) (.c (.int .i64 1))⟩,
      ⟨some 8, none, .mov (.t 18)⟩])))))))
  (.seq (.region false [
    ⟨some 4, none, .mov (.c (.int .i64 (-1)))⟩])
  (.ret)))
theorem ok_ixf : FnOk Try.prog 124 Try.f124 ac_ixf [.t 4] 2 drawD := ⟨Try.func124, by decide +kernel, by kernel_rfl, by kernel_rfl, by decide +kernel⟩
theorem vc_ixf (P : Prim) (hP : P = std) (T T1 : CallT) (l : List Int) (hll : l.length ≤ 16) (rows : List (List V)) (hrows : rows = iRows l) (bF : Int → Bool) (hbF : ∀ x, bF x = pinBad x) (hb : ∀ x, Ans T 94 [.int .i64 x] (.bool (bF x))) (r : Int) (hr : idxB l 0 = r)
    (R : S → Prop) (hR : ∀ s s' q, q = r → Ent s s' → Ret [.t 4] [.int .i64 q] s' → R s) : awp P T T1 ac_ixf (S0 [.sl true 1 rows, .fn 94 []] Hp.emp) R (fun _ _ => False) R := by
  have hl1 : P.rlen rows = (l.length : Int) := by rw [rlen_eq hP, hrows]; simp [iRows]
  cbv
  refine ⟨{ y : YIx Int l // idxB y.rest y.k = r }, fun y => [(0, .sl true 1 rows), (1, .fn 94 []), (6, .sl true 1 rows), (7, .int .i64 (P.rlen rows)), (8, .int .i64 y.1.k)], fun y => [], fun y => y.1.rest.length,
    ⟨_, Ent.refl _, ⟨⟨0, [], l, rfl, rfl⟩, hr⟩, ⟨rfl, rfl, rfl, rfl, rfl, trivial⟩, trivial⟩, ?_⟩
  rintro ⟨⟨k, pre, rest, hd, hk⟩, hr⟩
  simp only [] at hr
  have hlp : pre.length + rest.length = l.length := by rw [hd]; simp
  cbv
  refine br_cases (fun h => ?_) (fun h => ?_)
  · have h5 : k < P.rlen rows := lt_t hP h
    rw [hl1] at h5
    rcases rest with _ | ⟨a, rest⟩
    · exfalso; simp at hlp; ((try simp only [nc] at *); omega)
    have hrow : P.row rows (P.nat k) [.int .i64 a] := row_of hP hk (by rw [hrows, iRows, List.getElem?_map, hd]; simp)
    have q1 : P.leP 0 k := le0 hP (by ((try simp only [nc] at *); omega))
    have q2 : P.i64 (P.add k 1) := by rw [add_eq hP]; exact i64I hP (by ((try simp only [nc] at *); omega))
    have q3 : P.add k 1 = k + 1 := add_eq hP _ _
    have hr' : (if bF a then k else idxB rest (P.add k 1)) = r := by rw [hbF, q3]; exact hr
    have c1 := hb a
    cbv
    refine ⟨q1, _, hrow, ?_⟩
    cbv
    refine c1 _ _ ?_
    cbv
    refine br_cases (fun h => ?_) (fun h => ?_)
    · rw [if_pos h] at hr'
      cbv
      exact hR _ _ _ hr' (Ent.refl _) rfl
    · rw [if_neg (by rw [h]; decide)] at hr'
      cbv
      refine ⟨q2, ?_⟩
      refine ⟨_, Ent.refl _, ⟨⟨_, pre ++ [a], rest, by simp [hd], ?_⟩, hr'⟩, ⟨rfl, rfl, rfl, rfl, rfl, trivial⟩, trivial, by simp⟩
      show P.add k 1 = _; rw [q3, hk]; simp
  · have h5 : ¬ k < P.rlen rows := lt_f hP h
    rw [hl1] at h5
    rcases rest with _ | ⟨a, rest⟩
    rotate_left
    · exfalso; simp at hlp; ((try simp only [nc] at *); omega)
    cbv
    exact hR _ _ _ hr (Ent.refl _) rfl
theorem sp_ixf (l : List Int) (hll : l.length ≤ 16) : Spec Try.prog 124 [.sl true 1 (iRows l), .fn 94 []] Hp.emp (Is (.int .i64 (idxB l 0))) :=
  spec_pure dOk ok_ixf [.int .i64 (idxB l 0)] (.int _ _) fun R hR => vc_ixf std rfl _ _ l hll _ rfl pinBad (fun _ => rfl) (fun x => ansW (sp_polb x) (fun h => .cons (.same _) .nil) rfl) _ rfl R fun s s' q h he hr => by subst h; exact hR s s' he hr
def ac_ctf : AC := .seq (.region false [
    ⟨some 4, none, .mov (.c (.bool false))⟩])
  (.seq (.region false [
    ⟨some 5, none, .mov (.t 0)⟩,
    ⟨some 6, none, .mov (.t 1)⟩,
    ⟨some 7, none, .call 124 [(.t 5), (.t 6)]⟩,
    ⟨some 8, none, .bin .geq (.t 7) (.c (.int .i64 0))⟩,
    ⟨some 4, none, .mov (.t 8)⟩])
  (.ret))
theorem ok_ctf : FnOk Try.prog 93 Try.f93 ac_ctf [.t 4] 2 drawD := ⟨Try.func93, by decide +kernel, by kernel_rfl, by kernel_rfl, by decide +kernel⟩
theorem vc_ctf (P : Prim) (hP : P = std) (T T1 : CallT) (rows : List (List V)) (i : Int) (hc1 : Ans T 124 [.sl true 1 rows, .fn 94 []] (.int .i64 i)) (r : Bool) (hr : decide (0 ≤ i) = r)
    (R : S → Prop) (hR : ∀ s s' q, q = r → Ent s s' → Ret [.t 4] [.bool q] s' → R s) : awp P T T1 ac_ctf (S0 [.sl true 1 rows, .fn 94 []] Hp.emp) R (fun _ _ => False) R := by
  cbv
  refine hc1 _ _ ?_
  cbv
  exact hR _ _ _ (by subst hP; exact hr) (Ent.refl _) rfl
theorem sp_ctf (l : List Int) (hll : l.length ≤ 16) : Spec Try.prog 93 [.sl true 1 (iRows l), .fn 94 []] Hp.emp (Is (.bool (l.any pinBad))) :=
  spec_pure dOk ok_ctf [.bool (l.any pinBad)] (.bool _) fun R hR => vc_ctf std rfl _ _ _ _ (ansW (sp_ixf l hll) (fun h => .cons (.same _) (.cons (.same _) .nil)) rfl) (l.any pinBad) (by
    have h := idxB_any l 0 (Int.le_refl _)
    by_cases g : l.any pinBad = true
    · rw [g]; exact decide_eq_true (h.2 g)
    · rw [Bool.not_eq_true] at g; rw [g]; exact decide_eq_false (fun q => by rw [h.1 q] at g; cases g)) R fun s s' q h he hr => by subst h; exact hR s s' he hr
def ac_rpol : AC := .seq (.region false [
    ⟨some 1, none, .box 67 3 (.t 0)⟩,
    ⟨some 2, none, .mov (.c (.int .i64 0))⟩])
  (.seq (.seq (.region false [
    ⟨some 3, none, .faddr 0 (.t 1)⟩,
    ⟨some 4, none, .load1 (.t 3)⟩,
    ⟨some 5, none, .bin .lss (.t 4) (.c (.int .i64 1))⟩,
    ⟨some 6, none, .mov (.t 5)⟩,
    ⟨some 7, some (6, false), .faddr 1 (.t 1)⟩,
    ⟨some 8, some (6, false), .load1 (.t 7)⟩,
    ⟨some 9, some (6, false), .bin .lss (.t 8) (.c (.int .i64 0))⟩,
    ⟨some 10, none, .pick (.t 6) (.c (.bool true)) (.t 9)⟩,
    ⟨some 11, none, .mov (.t 10)⟩,
    ⟨some 12, some (11, false), .faddr 0 (.t 1)⟩,
    ⟨some 13, some (11, false), .load1 (.t 12)⟩,
    ⟨some 14, some (11, false), .faddr 1 (.t 1)⟩,
    ⟨some 15, some (11, false), .load1 (.t 14)⟩,
    ⟨some 16, some (11, false), .mm true (.t 13) (.t 15)⟩,
    ⟨some 17, some (11, false), .bin .gtr (.t 16) (.c (.int .i64 2147483647))⟩,
    ⟨some 18, none, .pick (.t 11) (.c (.bool true)) (.t 17)⟩])
  (.cond (.t 18)
    (.seq (.region false [
      ⟨some 2, none, .mov (.c (.int .i64 1))⟩])
    (.ret))
    (.skip)))
  (.seq (.seq (.region false [
    ⟨some 19, none, .faddr 2 (.t 1)⟩,
    ⟨some 20, none, .load1 (.t 19)⟩,
    ⟨some 21, none, .len false (.t 20)⟩,
    ⟨some 22, none, .bin .gtr (.t 21) (.c (.int .i64 16))⟩])
  (.cond (.t 22)
    (.seq (.region false [
      ⟨some 2, none, .mov (.c (.int .i64 2))⟩])
    (.ret))
    (.skip)))
  (.seq (.seq (.region false [
    ⟨some 23, none, .faddr 2 (.t 1)⟩,
    ⟨some 24, none, .load1 (.t 23)⟩,
    ⟨some 25, none, .call 93 [(.t 24), (.c (.func (.func 94) #[] #[]))]⟩])
  (.cond (.t 25)
    (.seq (.region false [
      ⟨some 2, none, .mov (.c (.int .i64 1))⟩])
    (.ret))
    (.skip)))
  (.seq (.region false [
    ⟨some 2, none, .mov (.c (.int .i64 0))⟩])
  (.ret)))))
theorem ok_rpol : FnOk Try.prog 43 Try.f43 ac_rpol [.t 2] 1 drawD := ⟨Try.func43, by decide +kernel, by kernel_rfl, by kernel_rfl, by decide +kernel⟩
theorem vc_rpol (P : Prim) (hP : P = std) (T T1 : CallT) (a e n : Int) (rows : List (List V)) (hn : P.rlen rows = n) (c : Bool) (hc : n ≤ 16 → Ans T 93 [.sl false 1 rows, .fn 94 []] (.bool c)) (r : Int)
    (hr : (if a < 1 ∨ 2147483647 < a ∨ e < 0 ∨ 2147483647 < e then 1 else if 16 < n then 2 else if c then 1 else 0) = r)
    (R : S → Prop) (hR : ∀ s s' q, q = r → Ent s s' → Ret [.t 2] [.int .i64 q] s' → R s) : awp P T T1 ac_rpol (S0 [.agg [.int .i64 a, .int .i64 e, .sl false 1 rows]] Hp.emp) R (fun _ _ => False) R := by
  have bad : (a < 1 ∨ 2147483647 < a ∨ e < 0 ∨ 2147483647 < e) → 1 = r := by intro h; rw [← hr, if_pos h]
  cbv
  intro β1
  cbv
  refine br_cases (fun h => ?_) (fun h => ?_)
  · have := lt_t hP h
    cbv
    exact hR _ _ _ (bad (by omega)) (Ent.refl _) rfl
  have n1 := lt_f hP h
  cbv
  refine br_cases (fun h => ?_) (fun h => ?_)
  · have := lt_t hP h
    cbv
    exact hR _ _ _ (bad (by omega)) (Ent.refl _) rfl
  have n2 := lt_f hP h
  cbv
  refine br_cases (fun h => ?_) (fun h => ?_)
  · have h3 : 2147483647 < P.mx a e := lt_t hP h
    rw [mx_eq hP] at h3
    cbv
    exact hR _ _ _ (bad (by omega)) (Ent.refl _) rfl
  have h3 : ¬ 2147483647 < P.mx a e := lt_f hP h
  rw [mx_eq hP] at h3
  rw [if_neg (by omega)] at hr
  cbv
  refine br_cases (fun h => ?_) (fun h => ?_)
  · have h5 : 16 < P.rlen rows := lt_t hP h
    rw [hn] at h5
    rw [if_pos h5] at hr
    cbv
    exact hR _ _ _ hr (Ent.refl _) rfl
  have h5 : ¬ 16 < P.rlen rows := lt_f hP h
  rw [hn] at h5
  rw [if_neg h5] at hr
  have c1 := hc (by omega)
  clear bad h hc
  cbv
  refine c1 _ _ ?_
  cbv
  refine br_cases (fun h => ?_) (fun h => ?_)
  · rw [if_pos h] at hr
    cbv
    exact hR _ _ _ hr (Ent.refl _) rfl
  · rw [if_neg (by rw [h]; decide)] at hr
    cbv
    exact hR _ _ _ hr (Ent.refl _) rfl
theorem sp_rpol (p : Pol) : Spec Try.prog 43 [.agg (encPol p)] Hp.emp (Is (.int .i64 (polF p))) :=
  spec_pure dOk ok_rpol [.int .i64 (polF p)] (.int _ _) fun R hR => vc_rpol std rfl _ _ p.last p.every p.pins.length (iRows p.pins) (by show ((iRows p.pins).length : Int) = _; simp [iRows]) (p.pins.any pinBad)
    (fun h => ansW (sp_ctf p.pins (by omega)) (fun _ => .cons (.weak _ _) (.cons (.same _) .nil)) rfl) (polF p) (by unfold polF; simp only [show ((16 : Int) < p.pins.length) = (16 < p.pins.length) by apply propext; omega]) R fun s s' q h he hr => by subst h; exact hR s s' he hr
/-! the document's list -/
def ac_rkept : AC := .seq (.region false [
    ⟨some 2, none, .box 67 3 (.t 0)⟩,
    ⟨some 4, none, .mov (.c (.slice none 0 0))⟩])
  (.seq (.region false [
    ⟨some 5, none, .mov (.c (.slice none 0 0))⟩])
  (.seq (.seq (.region false [
    ⟨some 6, none, .mov (.c (.int .i64 0))⟩])
  (.block 0 (.loop (.seq (.seq (.region false [
      ⟨some 9, none, .mov (.t 6)⟩,
      ⟨some 10, none, .mov (.t 1)⟩,
      ⟨some 11, none, .bin .leq (.t 9) (.t 10)⟩])
    (.cond (.t 11)
      (.skip)
      (.exit 0)))
    (.seq (.block 1 (.seq (.region false [
      ⟨some 14, none, .mov (.t 1)⟩,
      ⟨some 15, none, .mov (.t 6)⟩,
      ⟨some 16, none, .bin .sub (.t 14) (.t 15)⟩,
      ⟨some 17, none, .faddr 0 (.t 2)⟩,
      ⟨some 18, none, .load1 (.t 17)⟩,
      ⟨some 19, none, .bin .lss (.t 16) (.t 18)⟩,
      ⟨some 7, none, .mov (.t 19)⟩])
    (.seq (.region true [
      ⟨some 20, none, .faddr 1 (.t 2)⟩,
      ⟨some 21, none, .load1 (.t 20)⟩,
      ⟨some 22, none, .bin .gtr (.t 21) (.c (.int .i64 0))⟩,
      ⟨some 23, none, .mov (.t 22)⟩,
      ⟨some 24, some (23, true), .mov (.t 6)⟩,
      ⟨some 25, some (23, true), .mov (.t 6)⟩,
      ⟨some 26, some (23, true), .faddr 1 (.t 2)⟩,
      ⟨some 27, some (23, true), .load1 (.t 26)⟩,
      ⟨some 28, some (23, true), .bin .quo (.t 25) (.t 27)⟩,
      ⟨some 29, some (23, true), .faddr 1 (.t 2)⟩,
      ⟨some 30, some (23, true), .load1 (.t 29)⟩,
      ⟨some 31, some (23, true), .bin .mul (.t 28) (.t 30)⟩,
      ⟨some 32, some (23, true), .bin .sub (.t 24) (.t 31)⟩,
      ⟨some 33, some (23, true), .bin .eql (.t 32) (.c (.int .i64 0))⟩,
      ⟨some 34, none, .pick (.t 23) (.t 33) (.c (.bool false))⟩,
      ⟨some 8, none, .mov (.t 34)⟩])
    (.seq (.region false [
      ⟨some 35, none, .mov (.t 7)⟩,
      ⟨some 36, none, .mov (.t 35)⟩,
      ⟨some 37, some (36, false), .mov (.t 8)⟩,
      ⟨some 38, none, .pick (.t 36) (.c (.bool true)) (.t 37)⟩,
      ⟨some 39, none, .mov (.t 38)⟩,
      ⟨some 40, some (39, false), .faddr 2 (.t 2)⟩,
      ⟨some 41, some (39, false), .load1 (.t 40)⟩,
      ⟨some 42, some (39, false), .mov (.t 6)⟩,
      ⟨some 43, some (39, false), .call 95 [(.t 41), (.t 42)]⟩,
      ⟨some 44, none, .pick (.t 39) (.c (.bool true)) (.t 43)⟩])
    (.cond (.t 44)
      (.region false [
        ⟨some 45, none, .mov (.t 5)⟩,
        ⟨some 46, none, .mov (.t 6)⟩,
        ⟨some 47, none, .bslice 3 1 [(.t 46)]⟩,
        ⟨some 48, none, .append 3 1 8 (.t 45) (.t 47)⟩,
        ⟨some 5, none, .mov (.t 48)⟩])
      (.skip))))))
    (.region false [
      ⟨some 12, none, .mov (.t 6)⟩,
      ⟨some 13, none, .bin .add (.t 12) (.c (.int .i64 1))⟩,
      ⟨some 6, none, .mov (.t 13)⟩]))))))
  (.seq (.region false [
    ⟨some 49, none, .mov (.t 5)⟩,
    ⟨some 4, none, .mov (.t 49)⟩])
  (.ret))))
theorem ok_rkept : FnOk Try.prog 45 Try.f45 ac_rkept [.t 4] 2 drawD := ⟨Try.func45, by decide +kernel, by kernel_rfl, by kernel_rfl, by decide +kernel⟩
theorem vc_rkept (P : Prim) (hP : P = std) (T T1 : CallT) (a e : Int) (l : List Int) (rows : List (List V)) (head : Int) (ha : 1 ≤ a ∧ a ≤ 2147483647) (he : 0 ≤ e ∧ e ≤ 2147483647) (hh : 0 ≤ head ∧ head ≤ 640) (mF : Int → Bool) (hmF : ∀ x, mF x = decide (x ∈ l))
    (hcont : ∀ x, Ans T 95 [.sl false 1 rows, .int .i64 x] (.bool (mF x)))
    (r : List Int) (g4 : keptL a e l head (head.toNat + 1) = r)
    (R : S → Prop) (hR : RetSl [.t 4] 1 (iRows r) [] R) : awp P T T1 ac_rkept (S0 [.agg [.int .i64 a, .int .i64 e, .sl false 1 rows], .int .i64 head] Hp.emp) R (fun _ _ => False) R := by
  cbv
  intro β2
  cbv
  refine ⟨YKp a e l head, fun y => [(1, .int .i64 head), (2, .ptr 2 (some β2) 3 0 0), (5, .own 1000048 y.b 1 y.n), (6, .int .i64 y.k)],
    fun y => [(2, ⟨some β2, 67, 3, [[.int .i64 a, .int .i64 e, .sl false 1 rows]]⟩), (1000048, ⟨y.b, 3, 1, y.rows⟩)], fun y => (head + 1 - y.k).toNat,
    ⟨_, Ent.nil (i := 5) (k := 1000048) (ty := 3) (sz := 1) rfl rfl, ⟨0, 0, _, _, _, rfl, by omega, rfl, rfl⟩, ⟨rfl, rfl, rfl, rfl, trivial⟩, ⟨rfl, rfl, trivial⟩⟩, ?_⟩
  rintro ⟨i, k, n, b, rows2, hki, hi, hrows2, hn⟩
  have hlen := keptL_len a e l head i
  cbv
  refine br_cases (fun h => ?_) (fun h => ?_)
  · have h5 : k ≤ head := le_t hP h
    have hk0 : 0 ≤ k := by ((try simp only [nc] at *); omega)
    have c1 := hcont k
    have q2 : P.i64 (P.add k 1) := by rw [add_eq hP]; exact i64I hP (by omega)
    have q3 : P.add k 1 = ((i + 1 : Nat) : Int) := by rw [add_eq hP, hki]; ((try simp only [nc] at *); omega)
    have ho5 : P.neP rows2 n := by subst hP; show rows2.length = n; rw [hrows2, hn]; simp [iRows]
    have ho6 : ∀ r, P.bytes (P.add (P.int n) (P.rlen [r])) 8 := by intro r; subst hP; show ((n : Int) + 1) * 8 ≤ _; ((try simp only [nc] at *); omega)
    have ho7 : ∀ r, P.neP [r] 1 := by intro r; subst hP; rfl
    have hm : (head + 1 - P.add k 1).toNat < (head + 1 - k).toNat := by rw [add_eq hP]; omega
    have hi' : P.add k 1 ≤ head + 1 := by rw [add_eq hP]; omega
    have o1 : P.i64 (P.sub head k) := by rw [sub_eq hP]; exact i64I hP (by omega)
    have o2 : P.leP 0 k := le0 hP hk0
    have hst : ∀ t, keptF a e l head k = t → keptL a e l head (i + 1) = keptL a e l head i ++ (if t then [k] else []) := by intro t ht; rw [← ht, hki]; rfl
    have fin1 : keptF a e l head k = true → P.rapp rows2 [[.int .i64 k]] = iRows (keptL a e l head (i + 1)) ∧ ∀ z, P.nadd n (P.rlenN [z]) = (keptL a e l head (i + 1)).length := by
      intro h; rw [hst _ h, if_pos rfl]
      refine ⟨by rw [hrows2]; subst hP; simp [std, iRows], fun z => by rw [hn]; subst hP; simp [std]⟩
    have fin0 : keptF a e l head k = false → rows2 = iRows (keptL a e l head (i + 1)) ∧ n = (keptL a e l head (i + 1)).length := by
      intro h; rw [hst _ h, if_neg (by decide), List.append_nil]
      exact ⟨hrows2, hn⟩
    have hq : 0 < e → (P.eq (P.sub k (P.mul (P.div k e) e)) 0 = decide (k % e = 0)) ∧ P.i64 (P.div k e) ∧ P.i64 (P.mul (P.div k e) e) ∧ P.i64 (P.sub k (P.mul (P.div k e) e)) := by
      intro he0
      have h1 : k % e = k - k / e * e := by rw [Int.emod_def, Int.mul_comm]
      have h2 := Int.emod_nonneg k (show e ≠ 0 by omega)
      have h3 := Int.emod_lt_of_pos k he0
      have h4 : 0 ≤ k / e := Int.ediv_nonneg hk0 (by omega)
      have h5 : k / e ≤ k := Int.ediv_le_self e hk0
      have d1 : P.div k e = k / e := by subst hP; rfl
      have d2 : P.mul (k / e) e = k / e * e := by subst hP; rfl
      rw [d1, d2, sub_eq hP, ← h1]
      refine ⟨by subst hP; rfl, i64I hP (by omega), i64I hP (by omega), i64I hP (by omega)⟩
    have kf : keptF a e l head k = (decide (head - k < a) || (decide (0 < e) && decide (k % e = 0)) || mF k) := by
      unfold keptF; rw [hmF, show decide (head - a < k) = decide (head - k < a) by apply decide_eq_decide.2; omega]
    clear hcont hst
    cbv
    refine ⟨o1, ?_⟩
    by_cases he0 : 0 < e
    · obtain ⟨w1, w2, w3, w4⟩ := hq he0
      have o3 : P.ltP 0 e := ltI hP he0
      refine br_tt (lt_T hP he0) ?_
      cbv
      refine ⟨o2, o3, w2, w3, w4, ?_⟩
      refine br_cases (fun h => ?_) (fun h => ?_)
      · have h1 : P.sub head k < a := lt_t hP h
        rw [sub_eq hP] at h1
        obtain ⟨z1, z2⟩ := fin1 (by rw [kf, decide_eq_true h1]; rfl)
        cbv
        repeat' (first
          | (refine And.intro (by assumption) ?_; try cbv)
          | (refine And.intro (ho7 _) ?_; try cbv)
          | (refine And.intro (ho6 _) ?_; try cbv)
          | (intro β; try cbv))
        exact ⟨_, Ent.refl _, ⟨i + 1, _, _, _, _, q3, hi', z1, z2 _⟩, ⟨rfl, rfl, rfl, rfl, trivial⟩, ⟨rfl, rfl, trivial⟩, hm⟩
      · have h1 : ¬ P.sub head k < a := lt_f hP h
        rw [sub_eq hP] at h1
        cbv
        refine br_cases (fun h => ?_) (fun h => ?_)
        · have h2 : k % e = 0 := of_decide_eq_true (w1.symm.trans h)
          obtain ⟨z1, z2⟩ := fin1 (by rw [kf, decide_eq_true h2, decide_eq_true he0]; simp)
          cbv
          repeat' (first
            | (refine And.intro (by assumption) ?_; try cbv)
            | (refine And.intro (ho7 _) ?_; try cbv)
            | (refine And.intro (ho6 _) ?_; try cbv)
            | (intro β; try cbv))
          exact ⟨_, Ent.refl _, ⟨i + 1, _, _, _, _, q3, hi', z1, z2 _⟩, ⟨rfl, rfl, rfl, rfl, trivial⟩, ⟨rfl, rfl, trivial⟩, hm⟩
        · have h2 : ¬ k % e = 0 := of_decide_eq_false (w1.symm.trans h)
          have kf2 : keptF a e l head k = mF k := by rw [kf, decide_eq_false h1, decide_eq_false h2]; simp
          rw [kf2] at fin1 fin0
          cbv
          refine c1 _ _ ?_
          cbv
          refine br_cases (fun h => ?_) (fun h => ?_)
          · obtain ⟨z1, z2⟩ := fin1 h
            cbv
            repeat' (first
              | (refine And.intro (by assumption) ?_; try cbv)
              | (refine And.intro (ho7 _) ?_; try cbv)
              | (refine And.intro (ho6 _) ?_; try cbv)
              | (intro β; try cbv))
            exact ⟨_, Ent.refl _, ⟨i + 1, _, _, _, _, q3, hi', z1, z2 _⟩, ⟨rfl, rfl, rfl, rfl, trivial⟩, ⟨rfl, rfl, trivial⟩, hm⟩
          · obtain ⟨z1, z2⟩ := fin0 h
            cbv
            refine ⟨q2, ?_⟩
            exact ⟨_, Ent.refl _, ⟨i + 1, _, _, _, _, q3, hi', z1, z2⟩, ⟨rfl, rfl, rfl, rfl, trivial⟩, ⟨rfl, rfl, trivial⟩, hm⟩
    · refine br_ff (lt_F hP he0) ?_
      cbv
      refine br_cases (fun h => ?_) (fun h => ?_)
      · have h1 : P.sub head k < a := lt_t hP h
        rw [sub_eq hP] at h1
        obtain ⟨z1, z2⟩ := fin1 (by rw [kf, decide_eq_true h1]; rfl)
        cbv
        repeat' (first
          | (refine And.intro (by assumption) ?_; try cbv)
          | (refine And.intro (ho7 _) ?_; try cbv)
          | (refine And.intro (ho6 _) ?_; try cbv)
          | (intro β; try cbv))
        exact ⟨_, Ent.refl _, ⟨i + 1, _, _, _, _, q3, hi', z1, z2 _⟩, ⟨rfl, rfl, rfl, rfl, trivial⟩, ⟨rfl, rfl, trivial⟩, hm⟩
      · have h1 : ¬ P.sub head k < a := lt_f hP h
        rw [sub_eq hP] at h1
        have kf2 : keptF a e l head k = mF k := by rw [kf, decide_eq_false h1, decide_eq_false he0]; simp
        rw [kf2] at fin1 fin0
        cbv
        refine c1 _ _ ?_
        cbv
        refine br_cases (fun h => ?_) (fun h => ?_)
        · obtain ⟨z1, z2⟩ := fin1 h
          cbv
          repeat' (first
            | (refine And.intro (by assumption) ?_; try cbv)
            | (refine And.intro (ho7 _) ?_; try cbv)
            | (refine And.intro (ho6 _) ?_; try cbv)
            | (intro β; try cbv))
          exact ⟨_, Ent.refl _, ⟨i + 1, _, _, _, _, q3, hi', z1, z2 _⟩, ⟨rfl, rfl, rfl, rfl, trivial⟩, ⟨rfl, rfl, trivial⟩, hm⟩
        · obtain ⟨z1, z2⟩ := fin0 h
          cbv
          refine ⟨q2, ?_⟩
          exact ⟨_, Ent.refl _, ⟨i + 1, _, _, _, _, q3, hi', z1, z2⟩, ⟨rfl, rfl, rfl, rfl, trivial⟩, ⟨rfl, rfl, trivial⟩, hm⟩
  · have h5 : ¬ k ≤ head := le_f hP h
    have e1 : head.toNat + 1 = i := by ((try simp only [nc] at *); omega)
    rw [e1] at g4
    cbv
    exact hR.2.1 _ _ _ _ _ _ _ (Ent.refl _) rfl rfl ⟨by rw [hn, g4]; simp [iRows], by rw [hrows2, g4]⟩
theorem sp_rkept (p : Pol) (hp : polF p = 0) (head : Int) (hh : 0 ≤ head ∧ head ≤ 640) : Spec Try.prog 45 [.agg (encPol p), .int .i64 head] Hp.emp (Is (.sl false 1 (iRows (ofF p head).1))) := by
  obtain ⟨h1, h2, h3, h4, h5⟩ := polF_ok hp
  exact spec_frz dOk ok_rkept fun R hR => vc_rkept std rfl _ _ p.last p.every p.pins _ head ⟨h1, h2⟩ ⟨h3, h4⟩ hh (fun x => decide (x ∈ p.pins)) (fun _ => rfl) (fun x => ansIn (sp_contains p.pins (by omega) x) rfl rfl) (ofF p head).1
    (by unfold ofF; rw [if_neg (fun g => g hp), if_neg (by omega)]) R (ints_ret (by simp) hR)

/-! the law -/
def ac_lkeep : AC := .seq (.region false [
    ⟨some 2, none, .box 67 3 (.t 0)⟩,
    ⟨some 4, none, .mov (.c (.bool false))⟩])
  (.seq (.region false [
    ⟨some 12, none, .loadn 3 (.t 2)⟩,
    ⟨some 13, none, .mov (.t 1)⟩,
    ⟨some 14, none, .call 41 [(.t 12), (.t 13)]⟩,
    ⟨some 11, none, .mov (.t 14)⟩,
    ⟨some 15, none, .ext 0 (.t 11)⟩,
    ⟨some 16, none, .ext 1 (.t 11)⟩,
    ⟨some 5, none, .mov (.t 15)⟩,
    ⟨some 6, none, .mov (.t 16)⟩])
  (.seq (.region false [
    ⟨some 18, none, .loadn 3 (.t 2)⟩,
    ⟨some 19, none, .mov (.t 1)⟩,
    ⟨some 20, none, .call 42 [(.t 18), (.t 19)]⟩,
    ⟨some 17, none, .mov (.t 20)⟩,
    ⟨some 21, none, .ext 0 (.t 17)⟩,
    ⟨some 22, none, .ext 1 (.t 17)⟩,
    ⟨some 7, none, .mov (.t 21)⟩,
    ⟨some 8, none, .mov (.t 22)⟩])
  (.seq (.region false [
    ⟨some 23, none, .loadn 3 (.t 2)⟩,
    ⟨some 24, none, .call 43 [(.t 23)]⟩,
    ⟨some 9, none, .mov (.t 24)⟩])
  (.seq (.seq (.region false [
    ⟨some 25, none, .loadn 3 (.t 2)⟩,
    ⟨some 26, none, .call 44 [(.t 25)]⟩,
    ⟨some 27, none, .mov (.t 9)⟩,
    ⟨some 28, none, .bin .neq (.t 26) (.t 27)⟩])
  (.cond (.t 28)
    (.seq (.region false [
      ⟨some 4, none, .mov (.c (.bool false))⟩])
    (.ret))
    (.skip)))
  (.seq (.seq (.region false [
    ⟨some 29, none, .mov (.t 9)⟩,
    ⟨some 30, none, .bin .eql (.t 29) (.c (.int .i64 0))⟩,
    ⟨some 31, none, .mov (.t 30)⟩,
    ⟨some 32, some (31, true), .mov (.t 1)⟩,
    ⟨some 33, some (31, true), .bin .lss (.t 32) (.c (.int .i64 0))⟩,
    ⟨some 34, some (31, true), .mov (.t 33)⟩,
    ⟨some 35, some (34, false), .mov (.t 1)⟩,
    ⟨some 36, some (34, false), .bin .gtr (.t 35) (.c (.int .i64 640))⟩,
    ⟨some 37, some (31, true), .pick (.t 34) (.c (.bool true)) (.t 36)⟩,
    ⟨some 38, none, .pick (.t 31) (.t 37) (.c (.bool false))⟩])
  (.cond (.t 38)
    (.region false [
      ⟨some 9, none, .mov (.c (.int .i64 1))⟩])
    (.skip)))
  (.seq (.seq (.region false [
    ⟨some 39, none, .mov (.t 9)⟩,
    ⟨some 40, none, .bin .neq (.t 39) (.c (.int .i64 0))⟩])
  (.cond (.t 40)
    (.seq (.region false [
      ⟨some 41, none, .mov (.t 6)⟩,
      ⟨some 42, none, .mov (.t 9)⟩,
      ⟨some 43, none, .bin .eql (.t 41) (.t 42)⟩,
      ⟨some 44, none, .mov (.t 43)⟩,
      ⟨some 45, some (44, true), .mov (.t 8)⟩,
      ⟨some 46, some (44, true), .mov (.t 9)⟩,
      ⟨some 47, some (44, true), .bin .eql (.t 45) (.t 46)⟩,
      ⟨some 48, none, .pick (.t 44) (.t 47) (.c (.bool false))⟩,
      ⟨some 49, none, .mov (.t 48)⟩,
      ⟨some 50, some (49, true), .mov (.t 5)⟩,
      ⟨some 51, some (49, true), .len false (.t 50)⟩,
      ⟨some 52, some (49, true), .bin .eql (.t 51) (.c (.int .i64 0))⟩,
      ⟨some 53, none, .pick (.t 49) (.t 52) (.c (.bool false))⟩,
      ⟨some 54, none, .mov (.t 53)⟩,
      ⟨some 55, some (54, true), .mov (.t 7)⟩,
      ⟨some 56, some (54, true), .bin .eql (.t 55) (.c (.int .i64 0))⟩,
      ⟨some 57, none, .pick (.t 54) (.t 56) (.c (.bool false))⟩,
      ⟨some 4, none, .mov (.t 57)⟩])
    (.ret))
    (.skip)))
  (.seq (.region false [
    ⟨some 58, none, .loadn 3 (.t 2)⟩,
    ⟨some 59, none, .mov (.t 1)⟩,
    ⟨some 60, none, .call 45 [(.t 58), (.t 59)]⟩,
    ⟨some 10, none, .mov (.t 60)⟩])
  (.seq (.region false [
    ⟨some 61, none, .mov (.t 6)⟩,
    ⟨some 62, none, .bin .eql (.t 61) (.c (.int .i64 0))⟩,
    ⟨some 63, none, .mov (.t 62)⟩,
    ⟨some 64, some (63, true), .mov (.t 8)⟩,
    ⟨some 65, some (63, true), .bin .eql (.t 64) (.c (.int .i64 0))⟩,
    ⟨some 66, none, .pick (.t 63) (.t 65) (.c (.bool false))⟩,
    ⟨some 67, none, .mov (.t 66)⟩,
    ⟨some 68, some (67, true), .mov (.t 5)⟩,
    ⟨some 69, some (67, true), .mov (.t 10)⟩,
    ⟨some 70, some (67, true), .call 32 [(.t 68), (.t 69)]⟩,
    ⟨some 71, none, .pick (.t 67) (.t 70) (.c (.bool false))⟩,
    ⟨some 72, none, .mov (.t 71)⟩,
    ⟨some 73, some (72, true), .mov (.t 7)⟩,
    ⟨some 74, some (72, true), .mov (.t 10)⟩,
    ⟨some 75, some (72, true), .iaddr 1 (.t 74) (.c (.int .i64 0))⟩,
    ⟨some 76, some (72, true), .load1 (.t 75)⟩,
    ⟨some 77, some (72, true), .bin .eql (.t 73) (.t 76)⟩,
    ⟨some 78, none, .pick (.t 72) (.t 77) (.c (.bool false))⟩,
    ⟨some 4, none, .mov (.t 78)⟩])
  (.ret)))))))))
theorem ok_lkeep : FnOk Try.prog 9 Try.f9 ac_lkeep [.t 4] 2 drawD := ⟨Try.func9, by decide +kernel, by kernel_rfl, by kernel_rfl, by decide +kernel⟩
theorem vc_lkeep (P : Prim) (hP : P = std) (T T1 : CallT) (a e head c e1 f n1 x : Int) (rows lr : List (List V))
    (h1 : Ans T 41 [.agg [.int .i64 a, .int .i64 e, .sl false 1 rows], .int .i64 head] (.tup [.sl false 1 lr, .int .i64 e1])) (h2 : Ans T 42 [.agg [.int .i64 a, .int .i64 e, .sl false 1 rows], .int .i64 head] (.tup [.int .i64 n1, .int .i64 f]))
    (h3 : Ans T 43 [.agg [.int .i64 a, .int .i64 e, .sl false 1 rows]] (.int .i64 c)) (h4 : Ans T 44 [.agg [.int .i64 a, .int .i64 e, .sl false 1 rows]] (.int .i64 c))
    (h5 : c = 0 → 0 ≤ head → head ≤ 640 → Ans T 45 [.agg [.int .i64 a, .int .i64 e, .sl false 1 rows], .int .i64 head] (.sl false 1 lr)) (h6 : Ans T 32 [.sl false 1 lr, .sl false 1 lr] (.bool true))
    (g1 : c ≠ 0 → lr = [] ∧ e1 = c ∧ f = c ∧ n1 = 0) (g2 : c = 0 → head < 0 ∨ 640 < head → lr = [] ∧ e1 = 1 ∧ f = 1 ∧ n1 = 0) (g3 : c = 0 → 0 ≤ head → head ≤ 640 → e1 = 0 ∧ f = 0 ∧ P.row lr (P.nat 0) [.int .i64 x] ∧ n1 = x)
    (R : S → Prop) (hR : ∀ s s' b, b = true → Ent s s' → Ret [.t 4] [.bool b] s' → R s) : awp P T T1 ac_lkeep (S0 [.agg [.int .i64 a, .int .i64 e, .sl false 1 rows], .int .i64 head] Hp.emp) R (fun _ _ => False) R := by
  have n0 : P.ne 1 0 = true := ne_T hP (by decide)
  have o1 : P.leP 0 0 := le0 hP (by omega)
  cbv
  intro β2
  cbv
  refine h1 _ _ ?_
  cbv
  refine h2 _ _ ?_
  cbv
  refine h3 _ _ ?_
  cbv
  refine h4 _ _ ?_
  clear h1 h2 h3 h4
  cbv
  refine br_ff (ne_F hP rfl) ?_
  cbv
  by_cases hc : c = 0
  · refine br_tt (eq_T hP hc) ?_
    cbv
    by_cases hh : head < 0 ∨ 640 < head
    · obtain ⟨q1, q2, q3, q4⟩ := g2 hc hh
      have z1 : P.eq e1 1 = true := eq_T hP q2
      have z2 : P.eq f 1 = true := eq_T hP q3
      have z3 : P.eq (P.rlen lr) 0 = true := eq_T hP (by rw [rlen_eq hP, q1]; rfl)
      have z4 : P.eq n1 0 = true := eq_T hP q4
      by_cases hh1 : head < 0
      · refine br_tt (lt_T hP hh1) ?_
        cbv
        refine br_tt n0 ?_
        cbv
        refine br_tt z1 ?_
        cbv
        refine br_tt z2 ?_
        cbv
        refine br_tt z3 ?_
        cbv
        exact hR _ _ _ z4 (Ent.refl _) rfl
      · refine br_ff (lt_F hP hh1) ?_
        cbv
        refine br_tt (lt_T hP (hh.resolve_left hh1)) ?_
        cbv
        refine br_tt n0 ?_
        cbv
        refine br_tt z1 ?_
        cbv
        refine br_tt z2 ?_
        cbv
        refine br_tt z3 ?_
        cbv
        exact hR _ _ _ z4 (Ent.refl _) rfl
    · have hh1 : ¬ head < 0 := fun h => hh (.inl h)
      have hh2 : ¬ 640 < head := fun h => hh (.inr h)
      obtain ⟨q1, q2, q3, q4⟩ := g3 hc (by omega) (by omega)
      have f5 := h5 hc (by omega) (by omega)
      clear h5 g1 g2 g3
      refine br_ff (lt_F hP hh1) ?_
      cbv
      refine br_ff (lt_F hP hh2) ?_
      cbv
      refine br_ff (ne_F hP hc) ?_
      cbv
      refine f5 _ _ ?_
      cbv
      refine br_tt (eq_T hP q1) ?_
      cbv
      refine br_tt (eq_T hP q2) ?_
      cbv
      refine h6 _ _ ?_
      cbv
      refine ⟨o1, _, q3, ?_⟩
      cbv
      exact hR _ _ _ (eq_T hP q4) (Ent.refl _) rfl
  · obtain ⟨q1, q2, q3, q4⟩ := g1 hc
    have z1 : P.eq e1 c = true := eq_T hP q2
    have z2 : P.eq f c = true := eq_T hP q3
    have z3 : P.eq (P.rlen lr) 0 = true := eq_T hP (by rw [rlen_eq hP, q1]; rfl)
    have z4 : P.eq n1 0 = true := eq_T hP q4
    refine br_ff (eq_F hP hc) ?_
    cbv
    refine br_tt (ne_T hP hc) ?_
    cbv
    refine br_tt z1 ?_
    cbv
    refine br_tt z2 ?_
    cbv
    refine br_tt z3 ?_
    cbv
    exact hR _ _ _ z4 (Ent.refl _) rfl
theorem ofF_1 {p : Pol} {head : Int} (h : polF p ≠ 0) : ofF p head = ([], polF p) := by unfold ofF; rw [if_pos h]
theorem ofF_2 {p : Pol} {head : Int} (h : polF p = 0) (h' : head < 0 ∨ 640 < head) : ofF p head = ([], 1) := by unfold ofF; rw [if_neg (fun g => g h), if_pos h']
theorem ofF_len (p : Pol) (head : Int) : (ofF p head).1.length ≤ 9000000000000000000 := by
  unfold ofF
  split
  · simp
  · split
    · simp
    · have := keptL_len p.last p.every p.pins head (head.toNat + 1)
      simp only []
      omega
theorem sp_law_keepSays (p : Pol) (head : Int) (hp : Pol.Ok p) (hh : I64 head) : Spec Try.prog 9 [.agg (encPol p), .int .i64 head] Hp.emp (Is (.bool true)) :=
  spec_pure dOk ok_lkeep [.bool true] (.bool _) fun R hR => vc_lkeep std rfl _ _ p.last p.every head (polF p) (ofF p head).2 (flF p head).2 (flF p head).1 ((ofF p head).1.headD 0) (iRows p.pins) (iRows (ofF p head).1)
    (ansW (sp_kof p head) (fun h => .cons (.same _) (.cons (.same _) .nil)) rfl) (ansW (sp_kfl p head) (fun h => .cons (.same _) (.cons (.same _) .nil)) rfl) (ansW (sp_rpol p) (fun h => .cons (.same _) .nil) rfl) (ansW (sp_kcheck p) (fun h => .cons (.same _) .nil) rfl)
    (fun hz h0 h1 => ansW (sp_rkept p hz head ⟨h0, h1⟩) (fun h => .cons (.same _) (.cons (.same _) .nil)) rfl) (ansEqi _ (ofF_len p head))
    (fun h => by have h2 := ofF_1 h (head := head); unfold flF; rw [h2]; exact ⟨rfl, rfl, by rw [if_pos h], by rw [if_pos h]⟩)
    (fun h h' => by have h2 := ofF_2 h h'; unfold flF; rw [h2]; exact ⟨rfl, rfl, by rw [if_pos (by decide)], by rw [if_pos (by decide)]⟩)
    (fun h h0 h1 => by
      have h2 : (ofF p head).2 = 0 := by unfold ofF; rw [if_neg (fun g => g h), if_neg (by omega)]
      obtain ⟨x, r, hx⟩ := ofF_ne h2
      refine ⟨h2, by unfold flF; rw [if_neg (fun g => g h2)], by rw [hx]; rfl, by unfold flF; rw [if_neg (fun g => g h2)]⟩)
    R fun s s' b h he hr => by subst h; exact hR s s' he hr
end Go.Proofs.Ytpfjigafffleiaa.AM
