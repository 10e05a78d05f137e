/-
  The document's Delta, and the law PartChecks.
-/
import Derived.Test.YtdmpbdmgaepndaaMPart1
import Derived.Test.YtdmpbdmgaepndaaMTypes
set_option linter.unusedVariables false
set_option linter.unusedSimpArgs false
namespace Go.Proofs.Ytdmpbdmgaepndaa.AM
open Go
set_option maxRecDepth 100000
set_option maxHeartbeats 2000000
def lk (pre : List Part) : Int := match pre.getLast? with
  | some p => p.kind
  | none => 0
theorem lk_app (pre : List Part) (p : Part) : lk (pre ++ [p]) = p.kind := by simp [lk]
theorem chk_step (pre : List Part) (p : Part) (rest : List Part) (h : ¬ (pre ≠ [] ∧ (lk pre = p.kind ∨ lk pre = 3 ∧ p.kind = 2))) (hf : fitF p = 0) : chk (lk pre) (p :: rest) = chk (lk (pre ++ [p])) rest := by
  rw [lk_app, chk]
  by_cases hp : pre = []
  · subst hp
    have : lk [] = 0 := rfl
    rw [this]
    unfold fitF at hf
    grind [fitF]
  · grind
def ac_rdelta : AC := .seq (.region false [
    ⟨some 2, none, .mov (.c (.int .i64 0))⟩])
  (.seq (.seq (.region false [
    ⟨some 6, none, .mov (.t 0)⟩,
    ⟨some 7, none, .len false (.t 6)⟩,
    ⟨some 8, none, .bin .gtr (.t 7) (.c (.int .i64 1600))⟩])
  (.cond (.t 8)
    (.seq (.region false [
      ⟨some 2, none, .mov (.c (.int .i64 2))⟩])
    (.ret))
    (.skip)))
  (.seq (.seq (.region false [
    ⟨some 9, none, .mov (.t 0)⟩,
    ⟨some 10, none, .len false (.t 9)⟩,
    ⟨some 11, none, .mov (.c (.int .i64 0))⟩])
  (.block 0 (.loop (.seq (.region false [
      ⟨some 12, none, .bin .lss (.t 11) (.t 10)⟩])
    (.seq (.cond (.t 12)
      (.skip)
      (.exit 0))
    (.seq (.block 1 (.seq (.region false [
      ⟨some 13, none, .mov (.t 11)⟩,
      ⟨some 14, none, .iaddr 3 (.t 9) (.t 11)⟩,
      ⟨some 15, none, .loadn 3 (.t 14)⟩,
      ⟨some 4, none, .alloc 132 [(.int .i64 0), (.int .i64 0), (.string ⟨#[]⟩)]⟩,
      ⟨some 3, none, .mov (.t 13)⟩,
      ⟨none, none, .store 3 (.t 4) (.t 15)⟩])
    (.seq (.seq (.region true [
      ⟨some 16, none, .mov (.t 3)⟩,
      ⟨some 17, none, .bin .gtr (.t 16) (.c (.int .i64 0))⟩,
      ⟨some 18, none, .mov (.t 17)⟩,
      ⟨some 19, some (18, true), .mov (.t 0)⟩,
      ⟨some 20, some (18, true), .mov (.t 3)⟩,
      ⟨some 21, some (18, true), .bin .sub (.t 20) (.c (.int .i64 1))⟩,
      ⟨some 22, some (18, true), .iaddr 3 (.t 19) (.t 21)⟩,
      ⟨some 23, some (18, true), .faddr 0 (.t 22)⟩,
      ⟨some 24, some (18, true), .load1 (.t 23)⟩,
      ⟨some 25, some (18, true), .faddr 0 (.t 4)⟩,
      ⟨some 26, some (18, true), .load1 (.t 25)⟩,
      ⟨some 27, some (18, true), .bin .eql (.t 24) (.t 26)⟩,
      ⟨some 28, some (18, true), .mov (.t 27)⟩,
      ⟨some 29, some (28, false), .mov (.t 0)⟩,
      ⟨some 30, some (28, false), .mov (.t 3)⟩,
      ⟨some 31, some (28, false), .bin .sub (.t 30) (.c (.int .i64 1))⟩,
      ⟨some 32, some (28, false), .iaddr 3 (.t 29) (.t 31)⟩,
      ⟨some 33, some (28, false), .faddr 0 (.t 32)⟩,
      ⟨some 34, some (28, false), .load1 (.t 33)⟩,
      ⟨some 35, some (28, false), .bin .eql (.t 34) (.c (.int .i64 3))⟩,
      ⟨some 36, some (28, false), .mov (.t 35)⟩,
      ⟨some 37, some (36, true), .faddr 0 (.t 4)⟩,
      ⟨some 38, some (36, true), .load1 (.t 37)⟩,
      ⟨some 39, some (36, true), .bin .eql (.t 38) (.c (.int .i64 2))⟩,
      ⟨some 40, some (28, false), .pick (.t 36) (.t 39) (.c (.bool false))⟩,
      ⟨some 41, some (18, true), .pick (.t 28) (.c (.bool true)) (.t 40)⟩,
      ⟨some 42, none, .pick (.t 18) (.t 41) (.c (.bool false))⟩])
    (.cond (.t 42)
      (.seq (.region false [
        ⟨some 2, none, .mov (.c (.int .i64 3))⟩])
      (.ret))
      (.skip)))
    (.seq (.region false [
      ⟨some 43, none, .loadn 3 (.t 4)⟩,
      ⟨some 44, none, .call 91 [(.t 43)]⟩,
      ⟨some 5, none, .mov (.t 44)⟩])
    (.seq (.region false [
      ⟨some 45, none, .mov (.t 5)⟩,
      ⟨some 46, none, .bin .neq (.t 45) (.c (.int .i64 0))⟩])
    (.cond (.t 46)
      (.seq (.region false [
        ⟨some 47, none, .mov (.t 5)⟩,
        ⟨some 2, none, .mov (.t 47)⟩])
      (.ret))
      (.skip)))))))
    (.region false [
      ⟨some 48, none, .bin .add (.t 11) (.c (.int .i64 1))⟩,
      ⟨some 11, none, .mov (.t 48)⟩])))))))
  (.seq (.seq (.region false [
    ⟨some 49, none, .mov (.t 0)⟩,
    ⟨some 50, none, .call 39 [(.t 49)]⟩,
    ⟨some 51, none, .bin .gtr (.t 50) (.c (.int .i64 500))⟩,
    ⟨some 52, none, .mov (.t 51)⟩,
    ⟨some 53, some (52, false), .mov (.t 0)⟩,
    ⟨some 54, some (52, false), .call 40 [(.t 53)]⟩,
    ⟨some 55, some (52, false), .bin .gtr (.t 54) (.c (.int .i64 500))⟩,
    ⟨some 56, none, .pick (.t 52) (.c (.bool true)) (.t 55)⟩])
  (.cond (.t 56)
    (.seq (.region false [
      ⟨some 2, none, .mov (.c (.int .i64 2))⟩])
    (.ret))
    (.skip)))
  (.seq (.region false [
    ⟨some 2, none, .mov (.c (.int .i64 0))⟩])
  (.ret)))))
theorem ok_rdelta : FnOk Try.prog 37 Try.f37 ac_rdelta [.t 2] 1 drawD := ⟨Try.func37, by decide +kernel, by kernel_rfl, by kernel_rfl, by decide +kernel⟩
theorem vc_rdelta (P : Prim) (hP : P = std) (T T1 : CallT) (d : List Part) (hd1 : d.length ≤ maxLen) (rows : List (List V)) (hrows : rows = d.map encPart) (r : Int) (hr : checkF d = r)
    (fF : Int → Int → List UInt8 → Int) (hfF : ∀ k n t, fF k n t = fitF ⟨k, n, t⟩) (hc1 : ∀ {k n t}, Ans T 91 [.agg [.int .i64 k, .int .i64 n, .str t]] (.int .i64 (fF k n t)))
    (a b : Int) (ha : a = inF d) (hb : b = outF d) (hc2 : d.length ≤ 1600 → chk 0 d = 0 → Ans T 39 [.sl true 3 rows] (.int .i64 a)) (hc3 : d.length ≤ 1600 → chk 0 d = 0 → Ans T 40 [.sl true 3 rows] (.int .i64 b))
    (R : S → Prop) (hR : ∀ s s', Ent s s' → Ret [.t 2] [.int .i64 r] s' → R s) : awp P T T1 ac_rdelta (S0 [.sl true 3 rows] Hp.emp) R (fun _ _ => False) R := by
  cbv
  have hl : P.rlen rows = d.length := by subst hP; simp [std, hrows]
  refine br_cases (fun h => ?_) (fun h => ?_)
  · cbv
    refine hR _ _ (Ent.refl _) ?_
    cbv
    clear hR hc1 hc2 hc3; subst hP; subst hr; simp [std, nc] at *; grind [checkF]
  cbv
  have hd2 : d.length ≤ 1600 := by clear hR hc1 hc2 hc3; subst hP; simp [std, nc] at *; omega
  refine ⟨{ y : Int × List Part × List Part // d = y.2.1 ++ y.2.2 ∧ y.1 = y.2.1.length ∧ chk 0 d = chk (lk y.2.1) y.2.2 }, fun y => [(0, .sl true 3 rows), (9, .sl true 3 rows), (10, .int .i64 (P.rlen rows)), (11, .int .i64 y.1.1)], fun _ => [], fun y => y.1.2.2.length,
    ⟨_, Ent.refl _, ⟨(0, [], d), rfl, rfl, rfl⟩, ?_, ?_⟩, ?_⟩
  · cbv
  · cbv
  rintro ⟨⟨k, pre, rest⟩, hd, hk, hc⟩
  dsimp only at hd hk hc
  cbv
  have hl2 : P.rlen rows = pre.length + rest.length := by subst hP; simp [std, hrows, hd]
  refine br_cases (fun h => ?_) (fun h => ?_)
  · rcases rest with _ | ⟨⟨kd, n, t⟩, rest⟩
    · clear hc1 hc2 hc3; (exfalso; clear hR; subst hP; simp [std, nc] at *; first | omega | grind)
    cbv
    have hrow := row_at hrows hd hk P hP
    have hpl : pre.length ≤ 1600 := by rw [hd] at hd2; simp at hd2; omega
    refine ⟨by clear hc1 hc2 hc3; (clear hR; subst hP; simp [std, I64, nc] at * <;> first | omega | grind), _, hrow, ?_⟩
    cbv
    intro β
    cbv
    have hx := hfF kd n t
    rcases List.eq_nil_or_concat pre with hpre | ⟨pre', ⟨qk, qn, qt⟩, hpre⟩
    · refine br_cases (fun h => ?_) (fun h => ?_)
      · exfalso; clear hR hc1 hc2 hc3; subst hpre; subst hP; simp [std] at *; omega
      repeat' (first | (intro β; try cbv) | (refine And.intro (by assumption) ?_; try cbv) | (refine br_cases (fun h => ?_) (fun h => ?_) <;> try cbv) | (refine Exists.intro _ (And.intro (by assumption) ?_); try cbv) | (refine hc1 _ _ ?_; try cbv) | (refine hc2 _ _ ?_; try cbv) | (refine hc3 _ _ ?_; try cbv) | (refine hc4 _ _ ?_; try cbv) | (refine hc5 _ _ ?_; try cbv) | (refine hc6 _ _ ?_; try cbv) | (refine And.intro (by (clear hR; subst hP; simp [std, I64, nc] at * <;> first | omega | grind)) ?_; try cbv))
      all_goals first
        | (refine hR _ _ (Ent.refl _) ?_
           cbv
           clear hR hc1 hc2 hc3 hrow hfF; subst hP; subst hr; subst hpre; simp [std, nc, lk] at *; grind [checkF, chk, fitF])
        | (refine ⟨_, Ent.refl _, ⟨(_, pre ++ [⟨kd, n, t⟩], rest), ?_⟩, ⟨rfl, rfl, rfl, rfl, trivial⟩, trivial, by simp⟩
           clear hR hrow hc1 hc2 hc3 hfF; subst hP
           refine ⟨by simp [hd], by simp [std, hk], ?_⟩
           rw [hc]
           exact chk_step _ _ _ (fun h => h.1 hpre) (by simp [std] at *; omega))
    · have hrow2 : P.row rows (P.nat (P.sub k 1)) (encPart ⟨qk, qn, qt⟩) := by
        subst hP; simp [std, hrows, hd, hk, hpre]
      have hlk : lk pre = qk := by rw [hpre, List.concat_eq_append, lk_app]
      have hpp : 0 < pre.length := by rw [hpre]; simp
      have hk2 : (k : Int) = (pre.length : Int) := hk
      have hpp2 : (1 : Int) ≤ k := by rw [hk2]; omega
      have hpp3 : k ≤ 1600 := by rw [hk2]; omega
      have ho1 : P.i64 (P.sub k 1) := by clear hR hc1 hc2 hc3 hl hl2 hk hk2 h; subst hP; show I64 (k - 1); unfold I64; omega
      have ho2 : P.leP 0 (P.sub k 1) := by clear hR hc1 hc2 hc3 hl hl2 hk hk2 h; subst hP; show 0 ≤ k - 1; omega
      refine br_cases (fun h => ?_) (fun h => ?_)
      rotate_left
      · exfalso; clear hR hc1 hc2 hc3; subst hP; simp [std] at *; omega
      repeat' (first | (intro β; try cbv) | (refine And.intro (by assumption) ?_; try cbv) | (refine br_cases (fun h => ?_) (fun h => ?_) <;> try cbv) | (refine Exists.intro _ (And.intro (by assumption) ?_); try cbv) | (refine hc1 _ _ ?_; try cbv) | (refine hc2 _ _ ?_; try cbv) | (refine hc3 _ _ ?_; try cbv) | (refine hc4 _ _ ?_; try cbv) | (refine hc5 _ _ ?_; try cbv) | (refine hc6 _ _ ?_; try cbv) | (refine And.intro (by (clear hR; subst hP; simp [std, I64, nc] at * <;> first | omega | grind)) ?_; try cbv))
      all_goals first
        | (refine hR _ _ (Ent.refl _) ?_
           cbv
           clear hR hc1 hc2 hc3 hrow hrow2 hfF; subst hP; subst hr; simp [std, nc] at *; grind [checkF, chk, fitF])
        | (refine ⟨_, Ent.refl _, ⟨(_, pre ++ [⟨kd, n, t⟩], rest), ?_⟩, ⟨rfl, rfl, rfl, rfl, trivial⟩, trivial, by simp⟩
           clear hR hrow hrow2 hc1 hc2 hc3 hfF; subst hP
           refine ⟨by simp [hd], by simp [std, hk], ?_⟩
           rw [hc]
           refine chk_step _ _ _ ?_ (by simp [std] at *; omega)
           simp [std, hlk] at *
           grind)
  · have : rest = [] := by
      cases rest with
      | nil => rfl
      | cons p rest => clear hc1 hc2 hc3; (exfalso; clear hR; subst hP; simp [std, nc] at *; first | omega | grind)
    subst this
    have hc0 : chk 0 d = 0 := hc
    have hc4 := hc2 hd2 hc0
    have hc5 := hc3 hd2 hc0
    clear hc2 hc3
    cbv
    repeat' (first | (intro β; try cbv) | (refine And.intro (by assumption) ?_; try cbv) | (refine br_cases (fun h => ?_) (fun h => ?_) <;> try cbv) | (refine Exists.intro _ (And.intro (by assumption) ?_); try cbv) | (refine hc1 _ _ ?_; try cbv) | (refine hc2 _ _ ?_; try cbv) | (refine hc3 _ _ ?_; try cbv) | (refine hc4 _ _ ?_; try cbv) | (refine hc5 _ _ ?_; try cbv) | (refine hc6 _ _ ?_; try cbv) | (refine And.intro (by (clear hR; subst hP; simp [std, I64, nc] at * <;> first | omega | grind)) ?_; try cbv))
    all_goals
      refine hR _ _ (Ent.refl _) ?_
      cbv
      clear hR hc1 hc4 hc5; subst hP; subst hr; simp [std, nc] at *; grind [checkF]
theorem sp_rdelta (d : List Part) (hd1 : d.length ≤ maxLen) : Spec Try.prog 37 [.sl true 3 (d.map encPart)] Hp.emp (Is (.int .i64 (checkF d))) :=
  spec_pure dOk ok_rdelta [.int .i64 (checkF d)] (.int _ _) fun R hR => vc_rdelta std rfl _ _ d hd1 _ rfl _ rfl (fun k n t => fitF ⟨k, n, t⟩) (fun _ _ _ => rfl) (ansW (sp_right ⟨_, _, _⟩) (fun h => .cons (.same _) .nil) rfl) _ _ rfl rfl
    (fun h1 h2 => ansW (sp_rin d h1 (chk_ok 0 d h2)) (fun h => .cons (.same _) .nil) rfl) (fun h1 h2 => ansW (sp_rout d h1 (chk_ok 0 d h2)) (fun h => .cons (.same _) .nil) rfl) R hR

def ac_lpc : AC := .seq (.region false [
    ⟨some 2, none, .mov (.c (.bool false))⟩])
  (.seq (.region false [
    ⟨some 8, none, .mov (.t 0)⟩,
    ⟨some 9, none, .call 36 [(.t 8)]⟩,
    ⟨some 7, none, .mov (.t 9)⟩,
    ⟨some 10, none, .ext 0 (.t 7)⟩,
    ⟨some 11, none, .ext 1 (.t 7)⟩,
    ⟨some 12, none, .ext 2 (.t 7)⟩,
    ⟨some 3, none, .mov (.t 10)⟩,
    ⟨some 4, none, .mov (.t 11)⟩,
    ⟨some 5, none, .mov (.t 12)⟩])
  (.seq (.region false [
    ⟨some 13, none, .mov (.t 0)⟩,
    ⟨some 14, none, .call 37 [(.t 13)]⟩,
    ⟨some 6, none, .mov (.t 14)⟩])
  (.seq (.seq (.region false [
    ⟨some 15, none, .mov (.t 0)⟩,
    ⟨some 16, none, .call 38 [(.t 15)]⟩,
    ⟨some 17, none, .mov (.t 6)⟩,
    ⟨some 18, none, .bin .neq (.t 16) (.t 17)⟩])
  (.cond (.t 18)
    (.seq (.region false [
      ⟨some 2, none, .mov (.c (.bool false))⟩])
    (.ret))
    (.skip)))
  (.seq (.seq (.region false [
    ⟨some 19, none, .mov (.t 6)⟩,
    ⟨some 20, none, .bin .neq (.t 19) (.c (.int .i64 0))⟩])
  (.cond (.t 20)
    (.seq (.region false [
      ⟨some 21, none, .mov (.t 5)⟩,
      ⟨some 22, none, .mov (.t 6)⟩,
      ⟨some 23, none, .bin .eql (.t 21) (.t 22)⟩,
      ⟨some 24, none, .mov (.t 23)⟩,
      ⟨some 25, some (24, true), .mov (.t 3)⟩,
      ⟨some 26, some (24, true), .bin .eql (.t 25) (.c (.int .i64 0))⟩,
      ⟨some 27, none, .pick (.t 24) (.t 26) (.c (.bool false))⟩,
      ⟨some 28, none, .mov (.t 27)⟩,
      ⟨some 29, some (28, true), .mov (.t 4)⟩,
      ⟨some 30, some (28, true), .bin .eql (.t 29) (.c (.int .i64 0))⟩,
      ⟨some 31, none, .pick (.t 28) (.t 30) (.c (.bool false))⟩,
      ⟨some 2, none, .mov (.t 31)⟩])
    (.ret))
    (.skip)))
  (.seq (.region false [
    ⟨some 32, none, .mov (.t 5)⟩,
    ⟨some 33, none, .bin .eql (.t 32) (.c (.int .i64 0))⟩,
    ⟨some 34, none, .mov (.t 33)⟩,
    ⟨some 35, some (34, true), .mov (.t 3)⟩,
    ⟨some 36, some (34, true), .mov (.t 0)⟩,
    ⟨some 37, some (34, true), .call 39 [(.t 36)]⟩,
    ⟨some 38, some (34, true), .bin .eql (.t 35) (.t 37)⟩,
    ⟨some 39, none, .pick (.t 34) (.t 38) (.c (.bool false))⟩,
    ⟨some 40, none, .mov (.t 39)⟩,
    ⟨some 41, some (40, true), .mov (.t 4)⟩,
    ⟨some 42, some (40, true), .mov (.t 0)⟩,
    ⟨some 43, some (40, true), .call 40 [(.t 42)]⟩,
    ⟨some 44, some (40, true), .bin .eql (.t 41) (.t 43)⟩,
    ⟨some 45, none, .pick (.t 40) (.t 44) (.c (.bool false))⟩,
    ⟨some 2, none, .mov (.t 45)⟩])
  (.ret))))))
theorem ok_lpc : FnOk Try.prog 7 Try.f7 ac_lpc [.t 2] 1 drawD := ⟨Try.func7, by decide +kernel, by kernel_rfl, by kernel_rfl, by decide +kernel⟩
theorem vc_lpc (P : Prim) (hP : P = std) (T T1 : CallT) (rows : List (List V)) (c a b : Int) (i o e : Int) (hs : (i, o, e) = if c = 0 then (a, b, 0) else (0, 0, c))
    (hc1 : Ans T 36 [.sl false 3 rows] (.tup [.int .i64 i, .int .i64 o, .int .i64 e])) (hc2 : Ans T 37 [.sl false 3 rows] (.int .i64 c)) (hc3 : Ans T 38 [.sl false 3 rows] (.int .i64 c))
    (hc4 : c = 0 → Ans T 39 [.sl false 3 rows] (.int .i64 a)) (hc5 : c = 0 → Ans T 40 [.sl false 3 rows] (.int .i64 b))
    (R : S → Prop) (hR : ∀ s s', Ent s s' → Ret [.t 2] [.bool true] s' → R s) : awp P T T1 ac_lpc (S0 [.sl false 3 rows] Hp.emp) R (fun _ _ => False) R := by
  cbv
  refine hc1 _ _ ?_; cbv
  refine hc2 _ _ ?_; cbv
  refine hc3 _ _ ?_; cbv
  clear hc1 hc2 hc3
  refine br_cases (fun h => ?_) (fun h => ?_)
  · exfalso; clear hc4 hc5; subst hP; simp [std] at h
  cbv
  clear h
  refine br_cases (fun h => ?_) (fun h => ?_)
  · clear hc4 hc5
    repeat' (first | (intro β; try cbv) | (refine And.intro (by assumption) ?_; try cbv) | (refine br_cases (fun h => ?_) (fun h => ?_) <;> try cbv) | (refine Exists.intro _ (And.intro (by assumption) ?_); try cbv) | (refine hc1 _ _ ?_; try cbv) | (refine hc2 _ _ ?_; try cbv) | (refine hc3 _ _ ?_; try cbv) | (refine hc4 _ _ ?_; try cbv) | (refine hc5 _ _ ?_; try cbv) | (refine hc6 _ _ ?_; try cbv) | (refine And.intro (by (clear hR; subst hP; simp [std, I64, nc] at * <;> first | omega | grind)) ?_; try cbv))
    all_goals
      refine hR _ _ (Ent.refl _) ?_
      cbv
      clear hR; subst hP; simp [std] at *; grind
  · have hc0 : c = 0 := by clear hR hc4 hc5; subst hP; simp [std] at *; omega
    have hc6 := hc4 hc0
    have hc1 := hc5 hc0
    clear hc4 hc5
    repeat' (first | (intro β; try cbv) | (refine And.intro (by assumption) ?_; try cbv) | (refine br_cases (fun h => ?_) (fun h => ?_) <;> try cbv) | (refine Exists.intro _ (And.intro (by assumption) ?_); try cbv) | (refine hc1 _ _ ?_; try cbv) | (refine hc2 _ _ ?_; try cbv) | (refine hc3 _ _ ?_; try cbv) | (refine hc4 _ _ ?_; try cbv) | (refine hc5 _ _ ?_; try cbv) | (refine hc6 _ _ ?_; try cbv) | (refine And.intro (by (clear hR; subst hP; simp [std, I64, nc] at * <;> first | omega | grind)) ?_; try cbv))
    all_goals
      refine hR _ _ (Ent.refl _) ?_
      cbv
      clear hR hc6 hc1; subst hP; simp [std] at *; grind
theorem ansL {f : Nat} {d : List Part} {v : V} (h : Spec Try.prog f [.sl true 3 (d.map encPart)] Hp.emp (Is v)) (hv : v.ren (lab []) = v) : Ans (CallE Try.prog) f [encParts d] v := ansW h (fun _ => .cons (.weak _ _) .nil) hv
theorem sp_law_partChecks (d : List Part) (hd : PartsOk d) : Spec Try.prog 7 [encParts d] Hp.emp (Is (.bool true)) :=
  spec_pure dOk ok_lpc [.bool true] (.bool _) fun R hR => vc_lpc std rfl _ _ (d.map encPart) (checkF d) (inF d) (outF d) _ _ _ (by unfold szF; rfl) (ansL (sp_szs d hd.1) rfl) (ansL (sp_rdelta d hd.1) rfl) (ansL (sp_check d hd.1) rfl)
    (fun h => ansL (sp_rin d (checkF_ok h).1 (chk_ok 0 d (checkF_ok h).2.1)) rfl) (fun h => ansL (sp_rout d (checkF_ok h).1 (chk_ok 0 d (checkF_ok h).2.1)) rfl) R hR
end Go.Proofs.Ytdmpbdmgaepndaa.AM
