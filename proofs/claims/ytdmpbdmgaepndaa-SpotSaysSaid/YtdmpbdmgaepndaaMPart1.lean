/-
  Deltas: what sizes and Check, In and Out and Delta answer.
-/
import Derived.Test.YtdmpbdmgaepndaaMPart
set_option linter.unusedVariables false
set_option linter.unusedSimpArgs false
namespace Go.Proofs.Ytdmpbdmgaepndaa.AM
open Go
set_option maxRecDepth 100000
set_option maxHeartbeats 2000000

def inF : List Part → Int
  | [] => 0
  | p :: l => (if p.kind = 1 ∨ p.kind = 3 then p.n else 0) + inF l
def outF : List Part → Int
  | [] => 0
  | p :: l => (if p.kind = 1 then p.n else if p.kind = 3 then 0 else p.text.length) + outF l
theorem inF_app (a b : List Part) : inF (a ++ b) = inF a + inF b := by induction a with
  | nil => simp [inF]
  | cons p a ih => simp only [List.cons_append, inF, ih]; omega
theorem outF_app (a b : List Part) : outF (a ++ b) = outF a + outF b := by induction a with
  | nil => simp [outF]
  | cons p a ih => simp only [List.cons_append, outF, ih]; omega
def okP (p : Part) : Prop := fitF p = 0
theorem okP_bd {p : Part} (h : okP p) : 0 ≤ p.n ∧ p.n ≤ 500 ∧ p.text.length ≤ 500 ∧ ((p.kind = 2 ∧ p.n = 0 ∧ p.text ≠ []) ∨ ((p.kind = 1 ∨ p.kind = 3) ∧ 0 < p.n ∧ p.text = [])) := by
  unfold okP fitF at h
  grind
theorem inF_bd (l : List Part) (h : ∀ p ∈ l, okP p) : 0 ≤ inF l ∧ inF l ≤ 500 * l.length := by induction l with
  | nil => simp [inF]
  | cons p l ih =>
    have h1 := okP_bd (h p (by simp))
    have h2 := ih fun q hq => h q (by simp [hq])
    simp only [inF, List.length_cons]
    split <;> omega
theorem outF_bd (l : List Part) (h : ∀ p ∈ l, okP p) : 0 ≤ outF l ∧ outF l ≤ 500 * l.length := by induction l with
  | nil => simp [outF]
  | cons p l ih =>
    have h1 := okP_bd (h p (by simp))
    have h2 := ih fun q hq => h q (by simp [hq])
    simp only [outF, List.length_cons]
    split
    · omega
    · split <;> omega
def chk : Int → List Part → Int
  | _, [] => 0
  | last, p :: l => if p.kind = last ∨ last = 3 ∧ p.kind = 2 then 3 else if fitF p ≠ 0 then fitF p else chk p.kind l
theorem chk_ok : ∀ (last : Int) (l : List Part), chk last l = 0 → ∀ p ∈ l, okP p
  | _, [], _ => by simp
  | last, p :: l, h => by
    unfold chk at h
    split at h
    · omega
    · split at h
      · contradiction
      · rename_i h2
        intro q hq
        rcases List.mem_cons.1 hq with rfl | hq
        · exact Decidable.of_not_not (p := fitF q = 0) h2
        · exact chk_ok _ l h q hq
def checkF (d : List Part) : Int := if 1600 < d.length then 2 else if chk 0 d ≠ 0 then chk 0 d else if 500 < inF d ∨ 500 < outF d then 2 else 0

theorem row_at {d : List Part} {rows : List (List V)} {p : Part} {pre rest : List Part} {k : Int} (hrows : rows = d.map encPart) (hd : d = pre ++ p :: rest) (hk : k = pre.length) (P : Prim) (hP : P = std) : P.row rows (P.nat k) (encPart p) := by
  subst hP; simp [std, hrows, hd, hk]

def ac_sizes : AC := .seq (.region false [
    ⟨some 2, none, .mov (.c (.int .i64 0))⟩,
    ⟨some 3, none, .mov (.c (.int .i64 0))⟩])
  (.seq (.seq (.region false [
    ⟨some 6, none, .mov (.t 0)⟩,
    ⟨some 7, none, .len false (.t 6)⟩,
    ⟨some 8, none, .mov (.c (.int .i64 0))⟩])
  (.block 0 (.loop (.seq (.region false [
      ⟨some 9, none, .bin .lss (.t 8) (.t 7)⟩])
    (.seq (.cond (.t 9)
      (.skip)
      (.exit 0))
    (.seq (.block 1 (.seq (.region false [
      ⟨some 10, none, .iaddr 3 (.t 6) (.t 8)⟩,
      ⟨some 11, none, .loadn 3 (.t 10)⟩,
      ⟨some 5, none, .alloc 132 [(.int .i64 0), (.int .i64 0), (.string ⟨#[]⟩)]⟩,
      ⟨none, none, .store 3 (.t 5) (.t 11)⟩])
    (.seq (.region false [
      ⟨some 12, none, .faddr 0 (.t 5)⟩,
      ⟨some 13, none, .load1 (.t 12)⟩])
    (.block 2 (.seq (.region false [
      ⟨some 20, none, .bin .eql (.t 13) (.c (.int .i64 1))⟩,
      ⟨some 19, none, .mov (.t 20)⟩])
    (.cond (.t 19)
      (.seq (.region false [
        ⟨some 21, none, .mov (.t 2)⟩,
        ⟨some 22, none, .faddr 1 (.t 5)⟩,
        ⟨some 23, none, .load1 (.t 22)⟩,
        ⟨some 24, none, .bin .add (.t 21) (.t 23)⟩,
        ⟨some 2, none, .mov (.t 24)⟩])
      (.region false [
        ⟨some 25, none, .mov (.t 3)⟩,
        ⟨some 26, none, .faddr 1 (.t 5)⟩,
        ⟨some 27, none, .load1 (.t 26)⟩,
        ⟨some 28, none, .bin .add (.t 25) (.t 27)⟩,
        ⟨some 3, none, .mov (.t 28)⟩]))
      (.seq (.region false [
        ⟨some 30, none, .bin .eql (.t 13) (.c (.int .i64 3))⟩,
        ⟨some 29, none, .mov (.t 30)⟩])
      (.cond (.t 29)
        (.region false [
          ⟨some 31, none, .mov (.t 2)⟩,
          ⟨some 32, none, .faddr 1 (.t 5)⟩,
          ⟨some 33, none, .load1 (.t 32)⟩,
          ⟨some 34, none, .bin .add (.t 31) (.t 33)⟩,
          ⟨some 2, none, .mov (.t 34)⟩])
        (.region false [
          ⟨some 14, none, .mov (.t 3)⟩,
          ⟨some 15, none, .faddr 2 (.t 5)⟩,
          ⟨some 16, none, .load1 (.t 15)⟩,
          ⟨some 17, none, .len true (.t 16)⟩,
          ⟨some 18, none, .bin .add (.t 14) (.t 17)⟩,
          ⟨some 3, none, .mov (.t 18)⟩])))))))))
    (.region false [
      ⟨some 35, none, .bin .add (.t 8) (.c (.int .i64 1))⟩,
      ⟨some 8, none, .mov (.t 35)⟩])))))))
  (.seq (.region false [
    ⟨some 36, none, .mov (.t 2)⟩,
    ⟨some 37, none, .mov (.t 3)⟩,
    ⟨some 2, none, .mov (.t 36)⟩,
    ⟨some 3, none, .mov (.t 37)⟩])
  (.ret)))
theorem ok_sizes : FnOk Try.prog 90 Try.f90 ac_sizes [.t 2, .t 3] 1 drawD := ⟨Try.func90, by decide +kernel, by kernel_rfl, by kernel_rfl, by decide +kernel⟩
theorem vc_sizes (P : Prim) (hP : P = std) (T T1 : CallT) (d : List Part) (hd1 : d.length ≤ 1600) (hd2 : ∀ p ∈ d, okP p) (rows : List (List V)) (hrows : rows = d.map encPart) (r1 r2 : Int) (hr1 : inF d = r1) (hr2 : outF d = r2)
    (R : S → Prop) (hR : ∀ s s', Ent s s' → Ret [.t 2, .t 3] [.int .i64 r1, .int .i64 r2] s' → R s) : awp P T T1 ac_sizes (S0 [.sl true 3 rows] Hp.emp) R (fun _ _ => False) R := by
  cbv
  refine ⟨{ y : Int × Int × Int × List Part × List Part // d = y.2.2.2.1 ++ y.2.2.2.2 ∧ y.2.2.1 = y.2.2.2.1.length ∧ y.1 = inF y.2.2.2.1 ∧ y.2.1 = outF y.2.2.2.1 }, fun y => [(2, .int .i64 y.1.1), (3, .int .i64 y.1.2.1), (6, .sl true 3 rows), (7, .int .i64 (P.rlen rows)), (8, .int .i64 y.1.2.2.1)], fun _ => [], fun y => y.1.2.2.2.2.length,
    ⟨_, Ent.refl _, ⟨(0, 0, 0, [], d), rfl, rfl, rfl, rfl⟩, ?_, ?_⟩, ?_⟩
  · cbv
  · cbv
  rintro ⟨⟨i, o, k, pre, rest⟩, hd, hk, hi, ho⟩
  dsimp only at hd hk hi ho
  cbv
  have hl : P.rlen rows = pre.length + rest.length := by subst hP; simp [std, hrows, hd]
  have hl2 : d.length = pre.length + rest.length := by rw [hd]; simp
  refine br_cases (fun h => ?_) (fun h => ?_)
  · rcases rest with _ | ⟨⟨kd, n, t⟩, rest⟩
    · (exfalso; clear hR; subst hP; simp [std, nc] at *; first | omega | grind)
    cbv
    have hrow := row_at hrows hd hk P hP
    have hp := okP_bd (hd2 ⟨kd, n, t⟩ (by simp [hd]))
    have hb1 := inF_bd pre (fun p hp => hd2 p (by simp [hd, hp]))
    have hb2 := outF_bd pre (fun p hp => hd2 p (by simp [hd, hp]))
    repeat' (first | (intro β; try cbv) | (refine And.intro (by assumption) ?_; try cbv) | (refine br_cases (fun h => ?_) (fun h => ?_) <;> try cbv) | (refine Exists.intro _ (And.intro (by assumption) ?_); try cbv) | (refine hc1 _ _ ?_; try cbv) | (refine hc2 _ _ ?_; try cbv) | (refine hc3 _ _ ?_; try cbv) | (refine hc4 _ _ ?_; try cbv) | (refine hc5 _ _ ?_; try cbv) | (refine hc6 _ _ ?_; try cbv) | (refine And.intro (by (clear hR; subst hP; simp [std, I64, nc] at * <;> first | omega | grind)) ?_; try cbv))
    all_goals
      refine ⟨_, Ent.refl _, ⟨(_, _, _, pre ++ [⟨kd, n, t⟩], rest), ?_⟩, ⟨rfl, rfl, rfl, rfl, rfl, trivial⟩, trivial, by simp⟩
      clear hR hrow; subst hP
      simp [std, nc, inF_app, outF_app, inF, outF] at *
      grind
  · cbv
    refine hR _ _ (Ent.refl _) ?_
    have : rest = [] := by
      cases rest with
      | nil => rfl
      | cons p rest => (exfalso; clear hR; subst hP; simp [std, nc] at *; first | omega | grind)
    subst this
    simp only [List.append_nil] at hd
    cbv
    rw [← hr1, ← hr2, hd, ← hi, ← ho]
theorem sp_sizes (d : List Part) (hd1 : d.length ≤ 1600) (hd2 : ∀ p ∈ d, okP p) : Spec Try.prog 90 [.sl true 3 (d.map encPart)] Hp.emp (Is (.tup [.int .i64 (inF d), .int .i64 (outF d)])) :=
  spec_pure dOk ok_sizes [.int .i64 (inF d), .int .i64 (outF d)] (.tup _ (by simp; exact ⟨.int _ _, .int _ _⟩)) fun R hR => vc_sizes std rfl _ _ d hd1 hd2 _ rfl _ _ rfl rfl R hR

/-! Check -/
def ac_check : AC := .seq (.region false [
    ⟨some 2, none, .mov (.c (.int .i64 0))⟩])
  (.seq (.seq (.region false [
    ⟨some 9, none, .mov (.t 0)⟩,
    ⟨some 10, none, .len false (.t 9)⟩,
    ⟨some 11, none, .bin .gtr (.t 10) (.c (.int .i64 1600))⟩])
  (.cond (.t 11)
    (.seq (.region false [
      ⟨some 2, none, .mov (.c (.int .i64 2))⟩])
    (.ret))
    (.skip)))
  (.seq (.region false [
    ⟨some 3, none, .mov (.c (.int .i64 0))⟩])
  (.seq (.seq (.region false [
    ⟨some 12, none, .mov (.t 0)⟩,
    ⟨some 13, none, .len false (.t 12)⟩,
    ⟨some 14, none, .mov (.c (.int .i64 0))⟩])
  (.block 0 (.loop (.seq (.region false [
      ⟨some 15, none, .bin .lss (.t 14) (.t 13)⟩])
    (.seq (.cond (.t 15)
      (.skip)
      (.exit 0))
    (.seq (.block 1 (.seq (.region false [
      ⟨some 16, none, .iaddr 3 (.t 12) (.t 14)⟩,
      ⟨some 17, none, .loadn 3 (.t 16)⟩,
      ⟨some 5, none, .alloc 132 [(.int .i64 0), (.int .i64 0), (.string ⟨#[]⟩)]⟩,
      ⟨none, none, .store 3 (.t 5) (.t 17)⟩])
    (.seq (.seq (.region false [
      ⟨some 18, none, .faddr 0 (.t 5)⟩,
      ⟨some 19, none, .load1 (.t 18)⟩,
      ⟨some 20, none, .mov (.t 3)⟩,
      ⟨some 21, none, .bin .eql (.t 19) (.t 20)⟩,
      ⟨some 22, none, .mov (.t 21)⟩,
      ⟨some 23, some (22, false), .mov (.t 3)⟩,
      ⟨some 24, some (22, false), .bin .eql (.t 23) (.c (.int .i64 3))⟩,
      ⟨some 25, some (22, false), .mov (.t 24)⟩,
      ⟨some 26, some (25, true), .faddr 0 (.t 5)⟩,
      ⟨some 27, some (25, true), .load1 (.t 26)⟩,
      ⟨some 28, some (25, true), .bin .eql (.t 27) (.c (.int .i64 2))⟩,
      ⟨some 29, some (22, false), .pick (.t 25) (.t 28) (.c (.bool false))⟩,
      ⟨some 30, none, .pick (.t 22) (.c (.bool true)) (.t 29)⟩])
    (.cond (.t 30)
      (.seq (.region false [
        ⟨some 2, none, .mov (.c (.int .i64 3))⟩])
      (.ret))
      (.skip)))
    (.seq (.seq (.region false [
      ⟨some 31, none, .loadn 3 (.t 5)⟩,
      ⟨some 32, none, .call 92 [(.t 31)]⟩,
      ⟨some 6, none, .mov (.t 32)⟩])
    (.seq (.region false [
      ⟨some 33, none, .mov (.t 6)⟩,
      ⟨some 34, none, .bin .neq (.t 33) (.c (.int .i64 0))⟩])
    (.cond (.t 34)
      (.seq (.region false [
        ⟨some 35, none, .mov (.t 6)⟩,
        ⟨some 2, none, .mov (.t 35)⟩])
      (.ret))
      (.skip))))
    (.region false [
      ⟨some 36, none, .faddr 0 (.t 5)⟩,
      ⟨some 37, none, .load1 (.t 36)⟩,
      ⟨some 3, none, .mov (.t 37)⟩])))))
    (.region false [
      ⟨some 38, none, .bin .add (.t 14) (.c (.int .i64 1))⟩,
      ⟨some 14, none, .mov (.t 38)⟩])))))))
  (.seq (.seq (.region false [
    ⟨some 40, none, .mov (.t 0)⟩,
    ⟨some 41, none, .call 90 [(.t 40)]⟩,
    ⟨some 39, none, .mov (.t 41)⟩,
    ⟨some 42, none, .ext 0 (.t 39)⟩,
    ⟨some 43, none, .ext 1 (.t 39)⟩,
    ⟨some 7, none, .mov (.t 42)⟩,
    ⟨some 8, none, .mov (.t 43)⟩])
  (.seq (.region false [
    ⟨some 44, none, .mov (.t 7)⟩,
    ⟨some 45, none, .mov (.t 8)⟩,
    ⟨some 46, none, .mm true (.t 44) (.t 45)⟩,
    ⟨some 47, none, .bin .gtr (.t 46) (.c (.int .i64 500))⟩])
  (.cond (.t 47)
    (.seq (.region false [
      ⟨some 2, none, .mov (.c (.int .i64 2))⟩])
    (.ret))
    (.skip))))
  (.seq (.region false [
    ⟨some 2, none, .mov (.c (.int .i64 0))⟩])
  (.ret))))))
theorem ok_check : FnOk Try.prog 38 Try.f38 ac_check [.t 2] 1 drawD := ⟨Try.func38, by decide +kernel, by kernel_rfl, by kernel_rfl, by decide +kernel⟩
theorem vc_check (P : Prim) (hP : P = std) (T T1 : CallT) (d : List Part) (hd1 : d.length ≤ maxLen) (rows : List (List V)) (hrows : rows = d.map encPart) (r : Int) (hr : checkF d = r)
    (fF : Int → Int → List UInt8 → Int) (hfF : ∀ k n t, fF k n t = fitF ⟨k, n, t⟩) (hc1 : ∀ {k n t}, Ans T 92 [.agg [.int .i64 k, .int .i64 n, .str t]] (.int .i64 (fF k n t)))
    (a b : Int) (ha : a = inF d) (hb : b = outF d) (hc2 : d.length ≤ 1600 → chk 0 d = 0 → Ans T 90 [.sl true 3 rows] (.tup [.int .i64 a, .int .i64 b]))
    (R : S → Prop) (hR : ∀ s s', Ent s s' → Ret [.t 2] [.int .i64 r] s' → R s) : awp P T T1 ac_check (S0 [.sl true 3 rows] Hp.emp) R (fun _ _ => False) R := by
  cbv
  have hl : P.rlen rows = d.length := by subst hP; simp [std, hrows]
  refine br_cases (fun h => ?_) (fun h => ?_)
  · cbv
    refine hR _ _ (Ent.refl _) ?_
    cbv
    clear hR hc1 hc2; subst hP; subst hr; simp [std, nc] at *; grind [checkF]
  cbv
  have hd2 : d.length ≤ 1600 := by clear hR hc1 hc2; subst hP; simp [std, nc] at *; omega
  refine ⟨{ y : Int × Int × List Part × List Part // d = y.2.2.1 ++ y.2.2.2 ∧ y.2.1 = y.2.2.1.length ∧ chk 0 d = chk y.1 y.2.2.2 }, fun y => [(0, .sl true 3 rows), (3, .int .i64 y.1.1), (12, .sl true 3 rows), (13, .int .i64 (P.rlen rows)), (14, .int .i64 y.1.2.1)], fun _ => [], fun y => y.1.2.2.2.length,
    ⟨_, Ent.refl _, ⟨(0, 0, [], d), rfl, rfl, rfl⟩, ?_, ?_⟩, ?_⟩
  · cbv
  · cbv
  rintro ⟨⟨last, k, pre, rest⟩, hd, hk, hc⟩
  dsimp only at hd hk hc
  cbv
  have hl2 : P.rlen rows = pre.length + rest.length := by subst hP; simp [std, hrows, hd]
  refine br_cases (fun h => ?_) (fun h => ?_)
  · rcases rest with _ | ⟨⟨kd, n, t⟩, rest⟩
    · clear hc1 hc2; (exfalso; clear hR; subst hP; simp [std, nc] at *; first | omega | grind)
    cbv
    have hrow := row_at hrows hd hk P hP
    have hpl : pre.length ≤ 1600 := by rw [hd] at hd2; simp at hd2; omega
    refine ⟨by clear hc1 hc2; (clear hR; subst hP; simp [std, I64, nc] at * <;> first | omega | grind), _, hrow, ?_⟩
    cbv
    intro β
    cbv
    have hx := hfF kd n t
    repeat' (first | (intro β; try cbv) | (refine And.intro (by assumption) ?_; try cbv) | (refine br_cases (fun h => ?_) (fun h => ?_) <;> try cbv) | (refine Exists.intro _ (And.intro (by assumption) ?_); try cbv) | (refine hc1 _ _ ?_; try cbv) | (refine hc2 _ _ ?_; try cbv) | (refine hc3 _ _ ?_; try cbv) | (refine hc4 _ _ ?_; try cbv) | (refine hc5 _ _ ?_; try cbv) | (refine hc6 _ _ ?_; try cbv) | (refine And.intro (by (clear hR; subst hP; simp [std, I64, nc] at * <;> first | omega | grind)) ?_; try cbv))
    all_goals first
      | (refine hR _ _ (Ent.refl _) ?_
         cbv
         clear hR hc1 hc2 hrow hfF; subst hP; subst hr; simp [std, nc, chk] at *; grind [checkF])
      | (refine ⟨_, Ent.refl _, ⟨(_, _, pre ++ [⟨kd, n, t⟩], rest), ?_⟩, ⟨rfl, rfl, rfl, rfl, rfl, trivial⟩, trivial, by simp⟩
         clear hR hrow hc1 hc2 hfF; subst hP
         simp [std, nc, chk] at *
         grind)
  · have : rest = [] := by
      cases rest with
      | nil => rfl
      | cons p rest => clear hc1 hc2; (exfalso; clear hR; subst hP; simp [std, nc] at *; first | omega | grind)
    subst this
    have hc0 : chk 0 d = 0 := hc
    have hc3 := hc2 hd2 hc0
    clear hc2
    cbv
    repeat' (first | (intro β; try cbv) | (refine And.intro (by assumption) ?_; try cbv) | (refine br_cases (fun h => ?_) (fun h => ?_) <;> try cbv) | (refine Exists.intro _ (And.intro (by assumption) ?_); try cbv) | (refine hc1 _ _ ?_; try cbv) | (refine hc2 _ _ ?_; try cbv) | (refine hc3 _ _ ?_; try cbv) | (refine hc4 _ _ ?_; try cbv) | (refine hc5 _ _ ?_; try cbv) | (refine hc6 _ _ ?_; try cbv) | (refine And.intro (by (clear hR; subst hP; simp [std, I64, nc] at * <;> first | omega | grind)) ?_; try cbv))
    all_goals
      refine hR _ _ (Ent.refl _) ?_
      cbv
      clear hR hc1 hc3; subst hP; subst hr; simp [std, nc] at *; grind [checkF]
theorem sp_check (d : List Part) (hd1 : d.length ≤ maxLen) : Spec Try.prog 38 [.sl true 3 (d.map encPart)] Hp.emp (Is (.int .i64 (checkF d))) :=
  spec_pure dOk ok_check [.int .i64 (checkF d)] (.int _ _) fun R hR => vc_check std rfl _ _ d hd1 _ rfl _ rfl (fun k n t => fitF ⟨k, n, t⟩) (fun _ _ _ => rfl) (ansW (sp_fit ⟨_, _, _⟩) (fun h => .cons (.same _) .nil) rfl) _ _ rfl rfl
    (fun h1 h2 => ansW (sp_sizes d h1 (chk_ok 0 d h2)) (fun h => .cons (.same _) .nil) rfl) R hR

/-! Sizes -/
def ac_szs : AC := .seq (.region false [
    ⟨some 2, none, .mov (.c (.int .i64 0))⟩,
    ⟨some 3, none, .mov (.c (.int .i64 0))⟩,
    ⟨some 4, none, .mov (.c (.int .i64 0))⟩])
  (.seq (.seq (.region false [
    ⟨some 8, none, .mov (.t 0)⟩,
    ⟨some 9, none, .call 38 [(.t 8)]⟩,
    ⟨some 5, none, .mov (.t 9)⟩])
  (.seq (.region false [
    ⟨some 10, none, .mov (.t 5)⟩,
    ⟨some 11, none, .bin .neq (.t 10) (.c (.int .i64 0))⟩])
  (.cond (.t 11)
    (.seq (.region false [
      ⟨some 12, none, .mov (.t 5)⟩,
      ⟨some 2, none, .mov (.c (.int .i64 0))⟩,
      ⟨some 3, none, .mov (.c (.int .i64 0))⟩,
      ⟨some 4, none, .mov (.t 12)⟩])
    (.ret))
    (.skip))))
  (.seq (.region false [
    ⟨some 14, none, .mov (.t 0)⟩,
    ⟨some 15, none, .call 90 [(.t 14)]⟩,
    ⟨some 13, none, .mov (.t 15)⟩,
    ⟨some 16, none, .ext 0 (.t 13)⟩,
    ⟨some 17, none, .ext 1 (.t 13)⟩,
    ⟨some 6, none, .mov (.t 16)⟩,
    ⟨some 7, none, .mov (.t 17)⟩])
  (.seq (.region false [
    ⟨some 18, none, .mov (.t 6)⟩,
    ⟨some 19, none, .mov (.t 7)⟩,
    ⟨some 2, none, .mov (.t 18)⟩,
    ⟨some 3, none, .mov (.t 19)⟩,
    ⟨some 4, none, .mov (.c (.int .i64 0))⟩])
  (.ret))))
theorem ok_szs : FnOk Try.prog 36 Try.f36 ac_szs [.t 2, .t 3, .t 4] 1 drawD := ⟨Try.func36, by decide +kernel, by kernel_rfl, by kernel_rfl, by decide +kernel⟩
def szF (d : List Part) : Int × Int × Int := if checkF d = 0 then (inF d, outF d, 0) else (0, 0, checkF d)
theorem checkF_ok {d : List Part} (h : checkF d = 0) : d.length ≤ 1600 ∧ chk 0 d = 0 ∧ inF d ≤ 500 ∧ outF d ≤ 500 := by
  unfold checkF at h
  grind
theorem vc_szs (P : Prim) (hP : P = std) (T T1 : CallT) (d : List Part) (rows : List (List V)) (r1 r2 r3 : Int) (hr : szF d = (r1, r2, r3))
    (c : Int) (hc : checkF d = c) (hc1 : Ans T 38 [.sl true 3 rows] (.int .i64 c))
    (a b : Int) (ha : a = inF d) (hb : b = outF d) (hc2 : c = 0 → Ans T 90 [.sl true 3 rows] (.tup [.int .i64 a, .int .i64 b]))
    (R : S → Prop) (hR : ∀ s s', Ent s s' → Ret [.t 2, .t 3, .t 4] [.int .i64 r1, .int .i64 r2, .int .i64 r3] s' → R s) : awp P T T1 ac_szs (S0 [.sl true 3 rows] Hp.emp) R (fun _ _ => False) R := by
  cbv
  refine hc1 _ _ ?_
  cbv
  refine br_cases (fun h => ?_) (fun h => ?_)
  · repeat' (first | (intro β; try cbv) | (refine And.intro (by assumption) ?_; try cbv) | (refine br_cases (fun h => ?_) (fun h => ?_) <;> try cbv) | (refine Exists.intro _ (And.intro (by assumption) ?_); try cbv) | (refine hc1 _ _ ?_; try cbv) | (refine hc2 _ _ ?_; try cbv) | (refine hc3 _ _ ?_; try cbv) | (refine hc4 _ _ ?_; try cbv) | (refine hc5 _ _ ?_; try cbv) | (refine hc6 _ _ ?_; try cbv) | (refine And.intro (by (clear hR; subst hP; simp [std, I64, nc] at * <;> first | omega | grind)) ?_; try cbv))
    all_goals
      refine hR _ _ (Ent.refl _) ?_
      cbv
      clear hR hc1 hc2; subst hP; simp [std, nc] at *; grind [szF]
  · have hc0 : c = 0 := by clear hR hc1 hc2; subst hP; simp [std, nc] at *; omega
    have hc3 := hc2 hc0
    repeat' (first | (intro β; try cbv) | (refine And.intro (by assumption) ?_; try cbv) | (refine br_cases (fun h => ?_) (fun h => ?_) <;> try cbv) | (refine Exists.intro _ (And.intro (by assumption) ?_); try cbv) | (refine hc1 _ _ ?_; try cbv) | (refine hc2 _ _ ?_; try cbv) | (refine hc3 _ _ ?_; try cbv) | (refine hc4 _ _ ?_; try cbv) | (refine hc5 _ _ ?_; try cbv) | (refine hc6 _ _ ?_; try cbv) | (refine And.intro (by (clear hR; subst hP; simp [std, I64, nc] at * <;> first | omega | grind)) ?_; try cbv))
    all_goals
      refine hR _ _ (Ent.refl _) ?_
      cbv
      clear hR hc1 hc2 hc3; subst hP; simp [std, nc] at *; grind [szF]
theorem sp_szs (d : List Part) (hd1 : d.length ≤ maxLen) : Spec Try.prog 36 [.sl true 3 (d.map encPart)] Hp.emp (Is (.tup [.int .i64 (szF d).1, .int .i64 (szF d).2.1, .int .i64 (szF d).2.2])) :=
  spec_pure dOk ok_szs [.int .i64 (szF d).1, .int .i64 (szF d).2.1, .int .i64 (szF d).2.2] (.tup _ (by simp; exact ⟨.int _ _, .int _ _, .int _ _⟩)) fun R hR => vc_szs std rfl _ _ d _ _ _ _ rfl _ rfl (ansW (sp_check d hd1) (fun h => .cons (.same _) .nil) rfl) _ _ rfl rfl
    (fun h1 => ansW (sp_sizes d (checkF_ok h1).1 (chk_ok 0 d (checkF_ok h1).2.1)) (fun h => .cons (.same _) .nil) rfl) R hR

/-! the document's: In, Out, Delta -/
def ac_rin : AC := .seq (.region false [
    ⟨some 2, none, .mov (.c (.int .i64 0))⟩])
  (.seq (.region false [
    ⟨some 3, none, .mov (.c (.int .i64 0))⟩])
  (.seq (.seq (.region false [
    ⟨some 6, none, .mov (.t 0)⟩,
    ⟨some 7, none, .len false (.t 6)⟩,
    ⟨some 8, none, .mov (.c (.int .i64 0))⟩])
  (.block 0 (.loop (.seq (.region false [
      ⟨some 9, none, .bin .lss (.t 8) (.t 7)⟩])
    (.seq (.cond (.t 9)
      (.skip)
      (.exit 0))
    (.seq (.block 1 (.seq (.region false [
      ⟨some 10, none, .iaddr 3 (.t 6) (.t 8)⟩,
      ⟨some 11, none, .loadn 3 (.t 10)⟩,
      ⟨some 5, none, .alloc 132 [(.int .i64 0), (.int .i64 0), (.string ⟨#[]⟩)]⟩,
      ⟨none, none, .store 3 (.t 5) (.t 11)⟩])
    (.region false [
      ⟨some 12, none, .mov (.t 3)⟩,
      ⟨some 13, none, .faddr 1 (.t 5)⟩,
      ⟨some 14, none, .load1 (.t 13)⟩,
      ⟨some 15, none, .bin .add (.t 12) (.t 14)⟩,
      ⟨some 3, none, .mov (.t 15)⟩])))
    (.region false [
      ⟨some 16, none, .bin .add (.t 8) (.c (.int .i64 1))⟩,
      ⟨some 8, none, .mov (.t 16)⟩])))))))
  (.seq (.region false [
    ⟨some 17, none, .mov (.t 3)⟩,
    ⟨some 2, none, .mov (.t 17)⟩])
  (.ret))))
theorem ok_rin : FnOk Try.prog 39 Try.f39 ac_rin [.t 2] 1 drawD := ⟨Try.func39, by decide +kernel, by kernel_rfl, by kernel_rfl, by decide +kernel⟩
theorem vc_rin (P : Prim) (hP : P = std) (T T1 : CallT) (d : List Part) (hd1 : d.length ≤ 1600) (hd2 : ∀ p ∈ d, okP p) (rows : List (List V)) (hrows : rows = d.map encPart) (r1 : Int) (hr1 : inF d = r1)
    (R : S → Prop) (hR : ∀ s s', Ent s s' → Ret [.t 2] [.int .i64 r1] s' → R s) : awp P T T1 ac_rin (S0 [.sl true 3 rows] Hp.emp) R (fun _ _ => False) R := by
  cbv
  refine ⟨{ y : Int × Int × List Part × List Part // d = y.2.2.1 ++ y.2.2.2 ∧ y.2.1 = y.2.2.1.length ∧ y.1 = inF y.2.2.1 }, fun y => [(3, .int .i64 y.1.1), (6, .sl true 3 rows), (7, .int .i64 (P.rlen rows)), (8, .int .i64 y.1.2.1)], fun _ => [], fun y => y.1.2.2.2.length,
    ⟨_, Ent.refl _, ⟨(0, 0, [], d), rfl, rfl, rfl⟩, ?_, ?_⟩, ?_⟩
  · cbv
  · cbv
  rintro ⟨⟨i, k, pre, rest⟩, hd, hk, hi⟩
  dsimp only at hd hk hi
  cbv
  have hl : P.rlen rows = pre.length + rest.length := by subst hP; simp [std, hrows, hd]
  have hl2 : d.length = pre.length + rest.length := by rw [hd]; simp
  refine br_cases (fun h => ?_) (fun h => ?_)
  · rcases rest with _ | ⟨⟨kd, n, t⟩, rest⟩
    · (exfalso; clear hR; subst hP; simp [std, nc] at *; first | omega | grind)
    cbv
    have hrow := row_at hrows hd hk P hP
    have hp := okP_bd (hd2 ⟨kd, n, t⟩ (by simp [hd]))
    have hb1 := inF_bd pre (fun p hp => hd2 p (by simp [hd, hp]))
    repeat' (first | (intro β; try cbv) | (refine And.intro (by assumption) ?_; try cbv) | (refine br_cases (fun h => ?_) (fun h => ?_) <;> try cbv) | (refine Exists.intro _ (And.intro (by assumption) ?_); try cbv) | (refine hc1 _ _ ?_; try cbv) | (refine hc2 _ _ ?_; try cbv) | (refine hc3 _ _ ?_; try cbv) | (refine hc4 _ _ ?_; try cbv) | (refine hc5 _ _ ?_; try cbv) | (refine hc6 _ _ ?_; try cbv) | (refine And.intro (by (clear hR; subst hP; simp [std, I64, nc] at * <;> first | omega | grind)) ?_; try cbv))
    all_goals
      refine ⟨_, Ent.refl _, ⟨(_, _, pre ++ [⟨kd, n, t⟩], rest), ?_⟩, ⟨rfl, rfl, rfl, rfl, trivial⟩, trivial, by simp⟩
      clear hR hrow; subst hP
      simp [std, nc, inF_app, inF] at *
      grind
  · cbv
    refine hR _ _ (Ent.refl _) ?_
    have : rest = [] := by
      cases rest with
      | nil => rfl
      | cons p rest => (exfalso; clear hR; subst hP; simp [std, nc] at *; first | omega | grind)
    subst this
    simp only [List.append_nil] at hd
    cbv
    rw [← hr1, hd, ← hi]
theorem sp_rin (d : List Part) (hd1 : d.length ≤ 1600) (hd2 : ∀ p ∈ d, okP p) : Spec Try.prog 39 [.sl true 3 (d.map encPart)] Hp.emp (Is (.int .i64 (inF d))) :=
  spec_pure dOk ok_rin [.int .i64 (inF d)] (.int _ _) fun R hR => vc_rin std rfl _ _ d hd1 hd2 _ rfl _ rfl R hR

def ac_rout : AC := .seq (.region false [
    ⟨some 2, none, .mov (.c (.int .i64 0))⟩])
  (.seq (.region false [
    ⟨some 3, none, .mov (.c (.int .i64 0))⟩])
  (.seq (.seq (.region false [
    ⟨some 6, none, .mov (.t 0)⟩,
    ⟨some 7, none, .len false (.t 6)⟩,
    ⟨some 8, none, .mov (.c (.int .i64 0))⟩])
  (.block 0 (.loop (.seq (.region false [
      ⟨some 9, none, .bin .lss (.t 8) (.t 7)⟩])
    (.seq (.cond (.t 9)
      (.skip)
      (.exit 0))
    (.seq (.block 1 (.seq (.region false [
      ⟨some 10, none, .iaddr 3 (.t 6) (.t 8)⟩,
      ⟨some 11, none, .loadn 3 (.t 10)⟩,
      ⟨some 5, none, .alloc 132 [(.int .i64 0), (.int .i64 0), (.string ⟨#[]⟩)]⟩,
      ⟨none, none, .store 3 (.t 5) (.t 11)⟩])
    (.seq (.region false [
      ⟨some 12, none, .faddr 0 (.t 5)⟩,
      ⟨some 13, none, .load1 (.t 12)⟩,
      ⟨some 14, none, .bin .neq (.t 13) (.c (.int .i64 3))⟩])
    (.cond (.t 14)
      (.region false [
        ⟨some 15, none, .mov (.t 3)⟩,
        ⟨some 16, none, .faddr 1 (.t 5)⟩,
        ⟨some 17, none, .load1 (.t 16)⟩,
        ⟨some 18, none, .faddr 2 (.t 5)⟩,
        ⟨some 19, none, .load1 (.t 18)⟩,
        ⟨some 20, none, .len true (.t 19)⟩,
        ⟨some 21, none, .bin .add (.t 17) (.t 20)⟩,
        ⟨some 22, none, .bin .add (.t 15) (.t 21)⟩,
        ⟨some 3, none, .mov (.t 22)⟩])
      (.skip)))))
    (.region false [
      ⟨some 23, none, .bin .add (.t 8) (.c (.int .i64 1))⟩,
      ⟨some 8, none, .mov (.t 23)⟩])))))))
  (.seq (.region false [
    ⟨some 24, none, .mov (.t 3)⟩,
    ⟨some 2, none, .mov (.t 24)⟩])
  (.ret))))
theorem ok_rout : FnOk Try.prog 40 Try.f40 ac_rout [.t 2] 1 drawD := ⟨Try.func40, by decide +kernel, by kernel_rfl, by kernel_rfl, by decide +kernel⟩
theorem vc_rout (P : Prim) (hP : P = std) (T T1 : CallT) (d : List Part) (hd1 : d.length ≤ 1600) (hd2 : ∀ p ∈ d, okP p) (rows : List (List V)) (hrows : rows = d.map encPart) (r1 : Int) (hr1 : outF d = r1)
    (R : S → Prop) (hR : ∀ s s', Ent s s' → Ret [.t 2] [.int .i64 r1] s' → R s) : awp P T T1 ac_rout (S0 [.sl true 3 rows] Hp.emp) R (fun _ _ => False) R := by
  cbv
  refine ⟨{ y : Int × Int × List Part × List Part // d = y.2.2.1 ++ y.2.2.2 ∧ y.2.1 = y.2.2.1.length ∧ y.1 = outF y.2.2.1 }, fun y => [(3, .int .i64 y.1.1), (6, .sl true 3 rows), (7, .int .i64 (P.rlen rows)), (8, .int .i64 y.1.2.1)], fun _ => [], fun y => y.1.2.2.2.length,
    ⟨_, Ent.refl _, ⟨(0, 0, [], d), rfl, rfl, rfl⟩, ?_, ?_⟩, ?_⟩
  · cbv
  · cbv
  rintro ⟨⟨i, k, pre, rest⟩, hd, hk, hi⟩
  dsimp only at hd hk hi
  cbv
  have hl : P.rlen rows = pre.length + rest.length := by subst hP; simp [std, hrows, hd]
  have hl2 : d.length = pre.length + rest.length := by rw [hd]; simp
  refine br_cases (fun h => ?_) (fun h => ?_)
  · rcases rest with _ | ⟨⟨kd, n, t⟩, rest⟩
    · (exfalso; clear hR; subst hP; simp [std, nc] at *; first | omega | grind)
    cbv
    have hrow := row_at hrows hd hk P hP
    have hp := okP_bd (hd2 ⟨kd, n, t⟩ (by simp [hd]))
    have hb1 := outF_bd pre (fun p hp => hd2 p (by simp [hd, hp]))
    repeat' (first | (intro β; try cbv) | (refine And.intro (by assumption) ?_; try cbv) | (refine br_cases (fun h => ?_) (fun h => ?_) <;> try cbv) | (refine Exists.intro _ (And.intro (by assumption) ?_); try cbv) | (refine hc1 _ _ ?_; try cbv) | (refine hc2 _ _ ?_; try cbv) | (refine hc3 _ _ ?_; try cbv) | (refine hc4 _ _ ?_; try cbv) | (refine hc5 _ _ ?_; try cbv) | (refine hc6 _ _ ?_; try cbv) | (refine And.intro (by (clear hR; subst hP; simp [std, I64, nc] at * <;> first | omega | grind)) ?_; try cbv))
    all_goals
      refine ⟨_, Ent.refl _, ⟨(_, _, pre ++ [⟨kd, n, t⟩], rest), ?_⟩, ⟨rfl, rfl, rfl, rfl, trivial⟩, trivial, by simp⟩
      clear hR hrow; subst hP
      simp [std, nc, outF_app, outF] at *
      grind
  · cbv
    refine hR _ _ (Ent.refl _) ?_
    have : rest = [] := by
      cases rest with
      | nil => rfl
      | cons p rest => (exfalso; clear hR; subst hP; simp [std, nc] at *; first | omega | grind)
    subst this
    simp only [List.append_nil] at hd
    cbv
    rw [← hr1, hd, ← hi]
theorem sp_rout (d : List Part) (hd1 : d.length ≤ 1600) (hd2 : ∀ p ∈ d, okP p) : Spec Try.prog 40 [.sl true 3 (d.map encPart)] Hp.emp (Is (.int .i64 (outF d))) :=
  spec_pure dOk ok_rout [.int .i64 (outF d)] (.int _ _) fun R hR => vc_rout std rfl _ _ d hd1 hd2 _ rfl _ rfl R hR
end Go.Proofs.Ytdmpbdmgaepndaa.AM
