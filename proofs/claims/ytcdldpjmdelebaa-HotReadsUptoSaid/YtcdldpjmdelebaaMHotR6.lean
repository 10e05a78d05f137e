/-
  What a slot says, read: the law HotReads (of what is not too large). (Printed by gen_hotr6.py.)
-/
import Derived.Test.YtcdldpjmdelebaaMHotR5
set_option linter.unusedVariables false
set_option linter.unusedSimpArgs false
namespace Go.Proofs.Ytcdldpjmdelebaa.AM
open Go Go.RowKit
set_option maxRecDepth 100000
set_option maxHeartbeats 2000000
theorem scan_body : ∀ (n : Nat) (s : List UInt8), s.length ≤ n → ∀ f ∈ (scanF s).1, f.body.length ≤ 4000
  | 0, s, h, f, hf => by
    rw [scan_step] at hf
    have : (getFr s).2.2 ≠ 0 := by
      intro hg
      have := getFr_ok hg
      omega
    rw [if_pos this] at hf
    cases hf
  | n + 1, s, h, f, hf => by
    rw [scan_step] at hf
    by_cases he : (getFr s).2.2 ≠ 0
    · rw [if_pos he] at hf; cases hf
    · have hg := getFr_ok (Decidable.of_not_not he)
      rw [if_neg he] at hf
      have hd : (s.drop (getFr s).2.1.toNat).length = s.length - (getFr s).2.1.toNat := List.length_drop ..
      rcases List.mem_cons.1 hf with rfl | hf
      · exact hg.2.2.2.2.2
      · exact scan_body n _ (by omega) f hf
theorem small_max {n : Nat} (h : n ≤ 4000) : n ≤ maxLen := by
  have : maxLen = 9223372036854775807 := by decide
  omega
theorem sp_hread (s : List UInt8) (hs : s.length ≤ 1048576) : Spec Try.prog 14 [.str s] Hp.emp (Is (.tup [logE (readL (scanF s).1).1, .int .i64 (readL (scanF s).1).2])) :=
  spec_frz dOk ok_hread fun R hR => vc_hread std rfl _ _ s (scanF s).1 (scan_body _ s (Nat.le_refl _)) (by have := scan_len _ s (Nat.le_refl _); omega) _ rfl (scanF s).2 (ansSame (sp_scan s hs) rfl rfl)
    (fun x => tkN x 0) (fun x => tkN x 1) (fun x => (tkS x 18).1) (fun x j => tkN x (j + 2)) headOk (fun x hx => ansSame (sp_head x (small_max hx)) rfl rfl) (fun x => tkN_bd x 1)
    (fun x => (revB x).who) (fun x => (revB x).seq) (fun x => (revB x).delta.map encPart) revOk (fun x hx => ansSame (sp_hrv x (small_max hx)) rfl rfl) (fun x => ⟨rfl, rfl, rfl, rfl⟩)
    nextF (nxC_of fun gn b tx fs tb l wh gd size r hb hp => sp_hnextT gn b tx fs tb l wh gd size r hb hp) (fun _ _ _ _ _ => rfl) (fun x now => (doF (revB x).delta now).1) (fun x now => (doF (revB x).delta now).2)
    (fun x now => ansLs (sp_do (revB x).delta (readF_ok _).1 now) rfl rfl) (fun _ _ => rfl) addC (readL (scanF s).1).1 (readL (scanF s).1).2 rfl R (retLog_of hR)
theorem range18 : List.range 18 = 0 :: 1 :: (List.range 16).map (fun j => j + 2) := by decide
theorem map18 (g : Nat → Int) : (List.range 18).map g = g 0 :: g 1 :: (List.range 16).map (fun j => g (j + 2)) := by
  rw [range18, List.map_cons, List.map_cons, List.map_map]; rfl
theorem some18 {x : List UInt8} (h : (tkS x 18).2 = true) : iRows (someR x 18) = iRows (tkN x 0 :: tkN x 1 :: (List.range 16).map (fun j => tkN x (j + 2))) ∧ someS x 18 = (tkS x 18).1 := by
  have e1 : someR x 18 = (List.range 18).map (tkN x) := if_pos h
  have e2 : someS x 18 = (tkS x 18).1 := if_pos h
  rw [e1, e2, map18]
  exact ⟨Eq.refl _, Eq.refl _⟩
theorem some2 {x : List UInt8} (h : (tkS x 2).2 = true) : iRows (someR x 2) = iRows [(revB x).who, (revB x).seq] ∧ someS x 2 = (tkS x 2).1 := by
  unfold someR someS
  rw [if_pos h, if_pos h]
  exact ⟨rfl, rfl⟩
theorem headOk_gen (st : List UInt8 × Bool) : (st.2 && decide (st.1.length ≤ 500)) = (st.2 && decide ((if st.2 = true then st.1 else []).length ≤ 500)) := by
  obtain ⟨a, b⟩ := st
  cases b <;> rfl
theorem headOk_eq (x : List UInt8) : headOk x = ((tkS x 18).2 && decide ((someS x 18).length ≤ 500)) := headOk_gen (tkS x 18)
theorem revOk_iff (x : List UInt8) : revOk x = true ↔ ((tkS x 2).2 = true ∧ (readF (tkS x 2).1).2 = 0 ∧ oneF (revB x) = 0) := by
  unfold revOk
  rw [Bool.and_eq_true, Bool.and_eq_true, decide_eq_true_eq, decide_eq_true_eq]
theorem sp_rlog (s : List UInt8) (hs : s.length ≤ 1048576) : Spec Try.prog 15 [.str s] Hp.emp (Is (.tup [logE (readL (scanF s).1).1, .int .i64 (readL (scanF s).1).2])) :=
  spec_frz dOk ok_rlog fun R hR => vc_rlog std rfl _ _ s (scanF s).1 (scan_body _ s (Nat.le_refl _)) (by have := scan_len _ s (Nat.le_refl _); omega) _ rfl (scanF s).2 (ansSame (sp_rfr (s.length + 1) s (Nat.lt_succ_self _) hs) rfl rfl)
    (fun x => tkN x 0) (fun x => tkN x 1) (fun x => (tkS x 18).1) (fun x j => tkN x (j + 2)) headOk
    (fun x => iRows (someR x 18)) (fun x => (tkS x 18).2) (fun x => someS x 18) (fun x hx => ansSame (sp_some x (small_max hx) 18 (by decide)) rfl rfl) (fun x h => some18 h) headOk_eq (fun x => tkN_bd x 1)
    (fun x => iRows (someR x 2)) (fun x => (tkS x 2).2) (fun x => someS x 2) (fun x hx => ansSame (sp_some x (small_max hx) 2 (by decide)) rfl rfl)
    (fun x => (revB x).who) (fun x => (revB x).seq) (fun x => (revB x).delta.map encPart) revOk (fun x => (readF (tkS x 2).1).2) (fun x h => (some2 h).1)
    (fun x hx h => by
      have hl := tkS_len x 2
      rw [(some2 h).2]
      exact ansSame (sp_rdec (tkS x 2).1 (Nat.le_trans hl (small_max hx))) rfl rfl)
    (fun x => ⟨rfl, rfl, rfl, rfl⟩) revOk_iff
    nextF (nxC_of fun gn b tx fs tb l wh gd size r hb hp => sp_rnextT gn b tx fs tb l wh gd size r hb hp) (fun _ _ _ _ _ => rfl) (fun x now => (doF (revB x).delta now).1) (fun x now => (doF (revB x).delta now).2)
    (fun x now => ansLs (sp_rdo (revB x).delta (readF_ok _).1 now) rfl rfl) (fun _ _ => rfl) (readL (scanF s).1).1 (readL (scanF s).1).2 rfl R (retLog_of hR)
/-! the law -/
theorem step_revs {l l2 : LogD} {now n2 : List UInt8} {f : Frame} (h : stepL l now f = some (l2, n2)) (h1 : l.revs.length ≤ 64 ∧ ∀ r ∈ l.revs, r.delta.length ≤ 1600) : l2.revs.length ≤ 64 ∧ ∀ r ∈ l2.revs, r.delta.length ≤ 1600 := by
  unfold stepL at h
  split at h
  · split at h
    · cases h
    · cases h; exact h1
  · split at h
    · split at h
      · rename_i hx
        obtain ⟨x1, x2⟩ := nextF_ok hx.2
        cases h
        refine ⟨by simp; omega, fun r hr => ?_⟩
        rcases List.mem_append.1 hr with hr | hr
        · exact h1.2 r hr
        · rw [List.mem_singleton.1 hr]
          exact (checkF_all (one_who x1).2.2.2.2).1
      · cases h
    · cases h
theorem all_revs : ∀ (fs : List Frame) (l : LogD) (now : List UInt8), (l.revs.length ≤ 64 ∧ ∀ r ∈ l.revs, r.delta.length ≤ 1600) → (allL fs l now).revs.length ≤ 64 ∧ ∀ r ∈ (allL fs l now).revs, r.delta.length ≤ 1600
  | [], l, now, h => h
  | f :: fs, l, now, h => by
    rw [allL]
    cases hs : stepL l now f with
    | none => exact h
    | some x =>
      obtain ⟨l2, n2⟩ := x
      exact all_revs fs l2 n2 (step_revs hs h)
theorem readL_revs (fs : List Frame) : (readL fs).1.revs.length ≤ 64 ∧ ∀ r ∈ (readL fs).1.revs, r.delta.length ≤ 1600 := by
  unfold readL readG
  split
  · exact ⟨Nat.zero_le _, by simp [zeroL]⟩
  · split
    · exact ⟨Nat.zero_le _, by simp [zeroL]⟩
    · exact all_revs _ _ _ ⟨Nat.zero_le _, by simp [headG]⟩
def ac_lhr : AC := .seq (.region false [
    ⟨some 2, none, .mov (.c (.bool false))⟩])
  (.seq (.region false [
    ⟨some 8, none, .mov (.t 0)⟩,
    ⟨some 9, none, .call 14 [(.t 8)]⟩,
    ⟨some 7, none, .mov (.t 9)⟩,
    ⟨some 10, none, .ext 0 (.t 7)⟩,
    ⟨some 11, none, .ext 1 (.t 7)⟩,
    ⟨some 3, none, .alloc 37 [(.int .i64 0), (.int .i64 0), (.string ⟨#[]⟩), (.int .i64 0), (.int .i64 0), (.int .i64 0), (.int .i64 0), (.int .i64 0), (.int .i64 0), (.int .i64 0), (.int .i64 0), (.int .i64 0), (.int .i64 0), (.int .i64 0), (.int .i64 0), (.int .i64 0), (.int .i64 0), (.int .i64 0), (.int .i64 0), (.int .i64 0), (.int .i64 0), (.int .i64 0), (.int .i64 0), (.int .i64 0), (.int .i64 0), (.int .i64 0), (.int .i64 0), (.int .i64 0), (.int .i64 0), (.int .i64 0), (.int .i64 0), (.int .i64 0), (.int .i64 0), (.int .i64 0), (.int .i64 0), (.slice none 0 0), (.bool false), (.int .i64 0)]⟩,
    ⟨none, none, .store 38 (.t 3) (.t 10)⟩,
    ⟨some 4, none, .mov (.t 11)⟩])
  (.seq (.region false [
    ⟨some 13, none, .mov (.t 0)⟩,
    ⟨some 14, none, .call 15 [(.t 13)]⟩,
    ⟨some 12, none, .mov (.t 14)⟩,
    ⟨some 15, none, .ext 0 (.t 12)⟩,
    ⟨some 16, none, .ext 1 (.t 12)⟩,
    ⟨some 5, none, .alloc 37 [(.int .i64 0), (.int .i64 0), (.string ⟨#[]⟩), (.int .i64 0), (.int .i64 0), (.int .i64 0), (.int .i64 0), (.int .i64 0), (.int .i64 0), (.int .i64 0), (.int .i64 0), (.int .i64 0), (.int .i64 0), (.int .i64 0), (.int .i64 0), (.int .i64 0), (.int .i64 0), (.int .i64 0), (.int .i64 0), (.int .i64 0), (.int .i64 0), (.int .i64 0), (.int .i64 0), (.int .i64 0), (.int .i64 0), (.int .i64 0), (.int .i64 0), (.int .i64 0), (.int .i64 0), (.int .i64 0), (.int .i64 0), (.int .i64 0), (.int .i64 0), (.int .i64 0), (.int .i64 0), (.slice none 0 0), (.bool false), (.int .i64 0)]⟩,
    ⟨none, none, .store 38 (.t 5) (.t 15)⟩,
    ⟨some 6, none, .mov (.t 16)⟩])
  (.seq (.region false [
    ⟨some 17, none, .loadn 38 (.t 3)⟩,
    ⟨some 18, none, .loadn 38 (.t 5)⟩,
    ⟨some 19, none, .call 16 [(.t 17), (.t 18)]⟩,
    ⟨some 20, none, .mov (.t 19)⟩,
    ⟨some 21, some (20, true), .mov (.t 4)⟩,
    ⟨some 22, some (20, true), .mov (.t 6)⟩,
    ⟨some 23, some (20, true), .bin .eql (.t 21) (.t 22)⟩,
    ⟨some 24, none, .pick (.t 20) (.t 23) (.c (.bool false))⟩,
    ⟨some 2, none, .mov (.t 24)⟩])
  (.ret))))
theorem ok_lhr : FnOk Try.prog 4 Try.f4 ac_lhr [.t 2] 1 drawD := ⟨Try.func4, by decide +kernel, by kernel_rfl, by kernel_rfl, by decide +kernel⟩
theorem vc_lhr (P : Prim) (hP : P = std) (T T1 : CallT) (s : List UInt8) (gn b gd : Int) (tx : List UInt8) (fs tb : Nat → Int) (rows : List (List V)) (wh : Bool) (e : Int)
    (h1 : Ans T 14 [.str s] (.tup [.agg [.int .i64 gn, .int .i64 b, .str tx, .int .i64 (fs 0), .int .i64 (fs 1), .int .i64 (fs 2), .int .i64 (fs 3), .int .i64 (fs 4), .int .i64 (fs 5), .int .i64 (fs 6), .int .i64 (fs 7), .int .i64 (fs 8), .int .i64 (fs 9), .int .i64 (fs 10), .int .i64 (fs 11), .int .i64 (fs 12), .int .i64 (fs 13), .int .i64 (fs 14), .int .i64 (fs 15), .int .i64 (tb 0), .int .i64 (tb 1), .int .i64 (tb 2), .int .i64 (tb 3), .int .i64 (tb 4), .int .i64 (tb 5), .int .i64 (tb 6), .int .i64 (tb 7), .int .i64 (tb 8), .int .i64 (tb 9), .int .i64 (tb 10), .int .i64 (tb 11), .int .i64 (tb 12), .int .i64 (tb 13), .int .i64 (tb 14), .int .i64 (tb 15), .sl false 3 rows, .bool wh, .int .i64 gd], .int .i64 e])) (h2 : Ans T 15 [.str s] (.tup [.agg [.int .i64 gn, .int .i64 b, .str tx, .int .i64 (fs 0), .int .i64 (fs 1), .int .i64 (fs 2), .int .i64 (fs 3), .int .i64 (fs 4), .int .i64 (fs 5), .int .i64 (fs 6), .int .i64 (fs 7), .int .i64 (fs 8), .int .i64 (fs 9), .int .i64 (fs 10), .int .i64 (fs 11), .int .i64 (fs 12), .int .i64 (fs 13), .int .i64 (fs 14), .int .i64 (fs 15), .int .i64 (tb 0), .int .i64 (tb 1), .int .i64 (tb 2), .int .i64 (tb 3), .int .i64 (tb 4), .int .i64 (tb 5), .int .i64 (tb 6), .int .i64 (tb 7), .int .i64 (tb 8), .int .i64 (tb 9), .int .i64 (tb 10), .int .i64 (tb 11), .int .i64 (tb 12), .int .i64 (tb 13), .int .i64 (tb 14), .int .i64 (tb 15), .sl false 3 rows, .bool wh, .int .i64 gd], .int .i64 e]))
    (h3 : Ans T 16 [.agg [.int .i64 gn, .int .i64 b, .str tx, .int .i64 (fs 0), .int .i64 (fs 1), .int .i64 (fs 2), .int .i64 (fs 3), .int .i64 (fs 4), .int .i64 (fs 5), .int .i64 (fs 6), .int .i64 (fs 7), .int .i64 (fs 8), .int .i64 (fs 9), .int .i64 (fs 10), .int .i64 (fs 11), .int .i64 (fs 12), .int .i64 (fs 13), .int .i64 (fs 14), .int .i64 (fs 15), .int .i64 (tb 0), .int .i64 (tb 1), .int .i64 (tb 2), .int .i64 (tb 3), .int .i64 (tb 4), .int .i64 (tb 5), .int .i64 (tb 6), .int .i64 (tb 7), .int .i64 (tb 8), .int .i64 (tb 9), .int .i64 (tb 10), .int .i64 (tb 11), .int .i64 (tb 12), .int .i64 (tb 13), .int .i64 (tb 14), .int .i64 (tb 15), .sl false 3 rows, .bool wh, .int .i64 gd], .agg [.int .i64 gn, .int .i64 b, .str tx, .int .i64 (fs 0), .int .i64 (fs 1), .int .i64 (fs 2), .int .i64 (fs 3), .int .i64 (fs 4), .int .i64 (fs 5), .int .i64 (fs 6), .int .i64 (fs 7), .int .i64 (fs 8), .int .i64 (fs 9), .int .i64 (fs 10), .int .i64 (fs 11), .int .i64 (fs 12), .int .i64 (fs 13), .int .i64 (fs 14), .int .i64 (fs 15), .int .i64 (tb 0), .int .i64 (tb 1), .int .i64 (tb 2), .int .i64 (tb 3), .int .i64 (tb 4), .int .i64 (tb 5), .int .i64 (tb 6), .int .i64 (tb 7), .int .i64 (tb 8), .int .i64 (tb 9), .int .i64 (tb 10), .int .i64 (tb 11), .int .i64 (tb 12), .int .i64 (tb 13), .int .i64 (tb 14), .int .i64 (tb 15), .sl false 3 rows, .bool wh, .int .i64 gd]] (.bool true))
    (R : S → Prop) (hR : ∀ s s' b, b = true → Ent s s' → Ret [.t 2] [.bool b] s' → R s) : awp P T T1 ac_lhr (S0 [.str s] Hp.emp) R (fun _ _ => False) R := by
  cbv
  refine h1 _ _ ?_
  cbv
  repeat' (first
    | (refine And.intro (by first | assumption | decide) ?_; try cbv)
    | (intro β2; try cbv))
  refine h2 _ _ ?_
  cbv
  repeat' (first
    | (refine And.intro (by first | assumption | decide) ?_; try cbv)
    | (intro β2; try cbv))
  refine h3 _ _ ?_
  cbv
  repeat' (first
    | (refine And.intro (by first | assumption | decide) ?_; try cbv)
    | (intro β2; try cbv))
  exact hR _ _ _ (eq_T hP rfl) (Ent.refl _) rfl
theorem sp_law_hotReads (s : List UInt8) (hs : s.length ≤ 1048576) : Spec Try.prog 4 [.str s] Hp.emp (Is (.bool true)) :=
  spec_pure dOk ok_lhr [.bool true] (.bool _) fun R hR => by
    have hrd := sp_hread s hs
    have hlg := sp_rlog s hs
    have hrv := readL_revs (scanF s).1
    obtain ⟨l, hl⟩ : ∃ l, l = (readL (scanF s).1).1 := ⟨_, rfl⟩
    obtain ⟨e, he⟩ : ∃ e, e = (readL (scanF s).1).2 := ⟨_, rfl⟩
    rw [← hl, ← he] at hrd hlg
    rw [← hl] at hrv
    exact vc_lhr std rfl _ _ s l.gen l.base l.good l.text l.first l.table (l.revs.map encRev) l.whole e (ansSame hrd rfl rfl) (ansSame hlg rfl rfl)
      (ansW (sp_slg l.gen l.base l.good l.text l.first l.table l.revs l.whole (by omega) (fun r hr => by have := hrv.2 r hr; omega)) (fun h => .cons (.same _) (.cons (.same _) .nil)) rfl)
      R fun s s' b h he hr => by subst h; exact hR s s' he hr
end Go.Proofs.Ytcdldpjmdelebaa.AM
