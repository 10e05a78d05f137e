/-
  Does a delta fit a text, the program's word and the document's.
-/
import Derived.Test.YtobngncjflogcaaMU
set_option linter.unusedVariables false
set_option linter.unusedSimpArgs false
namespace Go.Proofs.Ytobngncjflogcaa.AM
open Go
set_option maxRecDepth 100000
set_option maxHeartbeats 2000000
def fitsF (d : List Part) (n : Int) : Int := if checkF d ≠ 0 then checkF d else if n ≠ inF d then 4 else 0
def ac_fits : AC := .seq (.region false [
    ⟨some 4, none, .mov (.c (.int .i64 0))⟩])
  (.seq (.region false [
    ⟨some 9, none, .mov (.t 0)⟩,
    ⟨some 10, none, .call 67 [(.t 9)]⟩,
    ⟨some 8, none, .mov (.t 10)⟩,
    ⟨some 11, none, .ext 0 (.t 8)⟩,
    ⟨some 12, none, .ext 1 (.t 8)⟩,
    ⟨some 13, none, .ext 2 (.t 8)⟩,
    ⟨some 5, none, .mov (.t 11)⟩,
    ⟨some 6, none, .mov (.t 12)⟩,
    ⟨some 7, none, .mov (.t 13)⟩])
  (.seq (.seq (.region false [
    ⟨some 14, none, .mov (.t 7)⟩,
    ⟨some 15, none, .bin .neq (.t 14) (.c (.int .i64 0))⟩])
  (.cond (.t 15)
    (.seq (.region false [
      ⟨some 16, none, .mov (.t 7)⟩,
      ⟨some 4, none, .mov (.t 16)⟩])
    (.ret))
    (.skip)))
  (.seq (.seq (.region false [
    ⟨some 17, none, .mov (.t 1)⟩,
    ⟨some 18, none, .mov (.t 5)⟩,
    ⟨some 19, none, .bin .neq (.t 17) (.t 18)⟩])
  (.cond (.t 19)
    (.seq (.region false [
      ⟨some 4, none, .mov (.c (.int .i64 4))⟩])
    (.ret))
    (.skip)))
  (.seq (.region false [
    ⟨some 4, none, .mov (.c (.int .i64 0))⟩])
  (.ret)))))
theorem ok_fits : FnOk Try.prog 54 Try.f54 ac_fits [.t 4] 2 drawD := ⟨Try.func54, by decide +kernel, by kernel_rfl, by kernel_rfl, by decide +kernel⟩
theorem vc_fits (P : Prim) (hP : P = std) (T T1 : CallT) (rows : List (List V)) (n i o c : Int) (hc1 : Ans T 67 [.sl true 3 rows] (.tup [.int .i64 i, .int .i64 o, .int .i64 c])) (r : Int) (hr : (if c ≠ 0 then c else if n ≠ i then 4 else 0) = r)
    (R : S → Prop) (hR : ∀ s s' q, q = r → Ent s s' → Ret [.t 4] [.int .i64 q] s' → R s) : awp P T T1 ac_fits (S0 [.sl true 3 rows, .int .i64 n] Hp.emp) R (fun _ _ => False) R := by
  cbv
  repeat' (first | (intro β; try cbv) | (refine And.intro (by assumption) ?_; try cbv) | (refine br_cases (fun h => ?_) (fun h => ?_) <;> try cbv) | (refine Exists.intro _ (And.intro (by assumption) ?_); try cbv) | (refine hc1 _ _ ?_; try cbv) | (refine hc2 _ _ ?_; try cbv) | (refine hc3 _ _ ?_; try cbv) | (refine hc4 _ _ ?_; try cbv) | (refine hc5 _ _ ?_; try cbv) | (refine hc6 _ _ ?_; try cbv) | (refine And.intro (by (clear hR; subst hP; simp [std, I64, nc] at * <;> first | omega | grind)) ?_; try cbv))
  all_goals
    refine hR _ _ _ ?_ (Ent.refl _) rfl
    clear hR hc1; subst hP; simp [std] at *; grind
theorem sp_fits (d : List Part) (hd : d.length ≤ maxLen) (n : Int) : Spec Try.prog 54 [.sl true 3 (d.map encPart), .int .i64 n] Hp.emp (Is (.int .i64 (fitsF d n))) :=
  spec_pure dOk ok_fits [.int .i64 (fitsF d n)] (.int _ _) fun R hR => vc_fits std rfl _ _ _ n _ _ _ (ansW (sp_szs d hd) (fun h => .cons (.same _) .nil) rfl) (fitsF d n) (by unfold szF fitsF; by_cases h : checkF d = 0 <;> simp [h]) R fun s s' q h he hr => by subst h; exact hR s s' he hr
def ac_rfits : AC := .seq (.region false [
    ⟨some 4, none, .mov (.c (.int .i64 0))⟩])
  (.seq (.seq (.region false [
    ⟨some 6, none, .mov (.t 0)⟩,
    ⟨some 7, none, .call 104 [(.t 6)]⟩,
    ⟨some 5, none, .mov (.t 7)⟩])
  (.seq (.region false [
    ⟨some 8, none, .mov (.t 5)⟩,
    ⟨some 9, none, .bin .neq (.t 8) (.c (.int .i64 0))⟩])
  (.cond (.t 9)
    (.seq (.region false [
      ⟨some 10, none, .mov (.t 5)⟩,
      ⟨some 4, none, .mov (.t 10)⟩])
    (.ret))
    (.skip))))
  (.seq (.seq (.region false [
    ⟨some 11, none, .mov (.t 0)⟩,
    ⟨some 12, none, .call 124 [(.t 11)]⟩,
    ⟨some 13, none, .mov (.t 1)⟩,
    ⟨some 14, none, .bin .neq (.t 12) (.t 13)⟩])
  (.cond (.t 14)
    (.seq (.region false [
      ⟨some 4, none, .mov (.c (.int .i64 4))⟩])
    (.ret))
    (.skip)))
  (.seq (.region false [
    ⟨some 4, none, .mov (.c (.int .i64 0))⟩])
  (.ret))))
theorem ok_rfits : FnOk Try.prog 106 Try.f106 ac_rfits [.t 4] 2 drawD := ⟨Try.func106, by decide +kernel, by kernel_rfl, by kernel_rfl, by decide +kernel⟩
theorem vc_rfits (P : Prim) (hP : P = std) (T T1 : CallT) (rows : List (List V)) (n i c : Int) (hc1 : Ans T 104 [.sl true 3 rows] (.int .i64 c)) (hi : c = 0 → Ans T 124 [.sl true 3 rows] (.int .i64 i)) (r : Int) (hr : (if c ≠ 0 then c else if n ≠ i then 4 else 0) = r)
    (R : S → Prop) (hR : ∀ s s' q, q = r → Ent s s' → Ret [.t 4] [.int .i64 q] s' → R s) : awp P T T1 ac_rfits (S0 [.sl true 3 rows, .int .i64 n] Hp.emp) R (fun _ _ => False) R := by
  cbv
  refine hc1 _ _ ?_
  clear hc1
  cbv
  refine br_cases (fun h => ?_) (fun h => ?_)
  · cbv
    refine hR _ _ _ ?_ (Ent.refl _) rfl
    clear hR hi; subst hP; simp [std] at *; grind
  · have hc1 := hi (ne_f hP h)
    clear hi
    cbv
    repeat' (first | (intro β; try cbv) | (refine And.intro (by assumption) ?_; try cbv) | (refine br_cases (fun h => ?_) (fun h => ?_) <;> try cbv) | (refine Exists.intro _ (And.intro (by assumption) ?_); try cbv) | (refine hc1 _ _ ?_; try cbv) | (refine hc2 _ _ ?_; try cbv) | (refine hc3 _ _ ?_; try cbv) | (refine hc4 _ _ ?_; try cbv) | (refine hc5 _ _ ?_; try cbv) | (refine hc6 _ _ ?_; try cbv) | (refine And.intro (by (clear hR; subst hP; simp [std, I64, nc] at * <;> first | omega | grind)) ?_; try cbv))
    all_goals
      refine hR _ _ _ ?_ (Ent.refl _) rfl
      clear hR hc1; subst hP; simp [std] at *; grind
theorem sp_rfits (d : List Part) (hd : d.length ≤ maxLen) (n : Int) : Spec Try.prog 106 [.sl true 3 (d.map encPart), .int .i64 n] Hp.emp (Is (.int .i64 (fitsF d n))) :=
  spec_pure dOk ok_rfits [.int .i64 (fitsF d n)] (.int _ _) fun R hR => vc_rfits std rfl _ _ _ n _ _ (ansW (sp_rdelta d hd) (fun h => .cons (.same _) .nil) rfl) (fun h => ansW (sp_rin d (checkF_ok h).1 (chk_ok 0 d (checkF_ok h).2.1)) (fun h => .cons (.same _) .nil) rfl) (fitsF d n) (by unfold fitsF; rfl) R fun s s' q h he hr => by subst h; exact hR s s' he hr
theorem fitsF_ok {d : List Part} {n : Int} (h : fitsF d n = 0) : checkF d = 0 ∧ n = inF d := by
  unfold fitsF at h
  by_cases hc : checkF d = 0
  · rw [if_neg (fun h => h hc)] at h
    exact ⟨hc, by by_cases hn : n = inF d; exact hn; rw [if_pos hn] at h; omega⟩
  · rw [if_pos hc] at h; contradiction
end Go.Proofs.Ytobngncjflogcaa.AM
