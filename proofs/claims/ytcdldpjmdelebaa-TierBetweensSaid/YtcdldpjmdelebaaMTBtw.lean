/-
  From one revision to a later one, out of the tiers: tier.Between, and the law TierBetweens.
-/
import Derived.Test.YtcdldpjmdelebaaBB
import Derived.Test.YtcdldpjmdelebaaMCovers
import Derived.Test.YtcdldpjmdelebaaMUndo
import Derived.Test.YtcdldpjmdelebaaMRComp
set_option linter.unusedVariables false
set_option linter.unusedSimpArgs false
namespace Go.Proofs.Ytcdldpjmdelebaa.AM
open Go
set_option maxRecDepth 100000
set_option maxHeartbeats 2000000
def encTiers (t : List (List (List Part))) : List (List V) := t.map fun r => [.sl false 1 (r.map fun d => [encParts d])]
def TierOk (r : List (List Part)) : Prop := r.length ≤ maxLen ∧ ∀ d ∈ r, PartsOk d
def TiersOk (t : List (List (List Part))) : Prop := t.length ≤ maxLen ∧ ∀ r ∈ t, TierOk r
theorem reads_partss : ReadsAs 49 (List (List Part)) (fun r => [.sl false 1 (r.map fun d => [encParts d])]) TierOk := reads_slice Try.underlying49 reads_parts (by kernel_rfl) (fun _ => rfl) (by decide)
theorem reads_partsss : ReadsAs 42 (List (List (List Part))) (fun t => [.sl false 1 (encTiers t)]) TiersOk := reads_slice Try.underlying42 reads_partss (by kernel_rfl) (fun _ => rfl) (by decide)
def getT (t : List (List (List Part))) (v b : Nat) : Option (List Part) := (t[v]?).bind fun r => r[b]?
def goB (t : List (List (List Part))) : Bool → List Part → List (Nat × Nat) → List Part × Int
  | _, out, [] => (out, 0)
  | f, out, (v, b) :: l => match getT t v b with
    | none => ([], 7)
    | some d => if checkF d ≠ 0 then ([], checkF d) else if f = true then goB t false d l else if (compF out d).2 ≠ 0 then ([], (compF out d).2) else goB t false (compF out d).1 l
def tbF (t : List (List (List Part))) (i k : Int) : List Part × Int := if i < 0 ∨ 64 < k ∨ k ≤ i then ([], 1) else goB t true [] (covF 64 i.toNat k.toNat)
theorem getT_mem {t : List (List (List Part))} {v b : Nat} {d : List Part} (h : getT t v b = some d) : ∃ r ∈ t, d ∈ r := by
  unfold getT at h
  obtain ⟨r, h1, h2⟩ := Option.bind_eq_some_iff.1 h
  exact ⟨r, List.mem_of_getElem? h1, List.mem_of_getElem? h2⟩
def ac_tbtw : AC := .seq (.region false [
    ⟨some 6, none, .mov (.c (.slice none 0 0))⟩,
    ⟨some 7, none, .mov (.c (.int .i64 0))⟩])
  (.seq (.region false [
    ⟨some 16, none, .mov (.t 1)⟩,
    ⟨some 17, none, .mov (.t 2)⟩,
    ⟨some 18, none, .call 53 [(.t 16), (.t 17)]⟩,
    ⟨some 15, none, .mov (.t 18)⟩,
    ⟨some 19, none, .ext 0 (.t 15)⟩,
    ⟨some 20, none, .ext 1 (.t 15)⟩,
    ⟨some 8, none, .mov (.t 19)⟩,
    ⟨some 9, none, .mov (.t 20)⟩])
  (.seq (.seq (.region false [
    ⟨some 21, none, .mov (.t 9)⟩,
    ⟨some 22, none, .bin .neq (.t 21) (.c (.int .i64 0))⟩,
    ⟨some 23, none, .mov (.t 22)⟩,
    ⟨some 24, some (23, false), .mov (.t 1)⟩,
    ⟨some 25, some (23, false), .mov (.t 2)⟩,
    ⟨some 26, some (23, false), .bin .eql (.t 24) (.t 25)⟩,
    ⟨some 27, none, .pick (.t 23) (.c (.bool true)) (.t 26)⟩])
  (.cond (.t 27)
    (.seq (.seq (.region false [
      ⟨some 28, none, .mov (.t 9)⟩,
      ⟨some 29, none, .bin .eql (.t 28) (.c (.int .i64 0))⟩])
    (.cond (.t 29)
      (.region false [
        ⟨some 9, none, .mov (.c (.int .i64 1))⟩])
      (.skip)))
    (.seq (.region false [
      ⟨some 30, none, .mov (.t 9)⟩,
      ⟨some 6, none, .mov (.c (.slice none 0 0))⟩,
      ⟨some 7, none, .mov (.t 30)⟩])
    (.ret)))
    (.skip)))
  (.seq (.region false [
    ⟨some 10, none, .mov (.c (.slice none 0 0))⟩])
  (.seq (.seq (.region false [
    ⟨some 31, none, .mov (.t 8)⟩,
    ⟨some 32, none, .len false (.t 31)⟩,
    ⟨some 33, none, .mov (.c (.int .i64 0))⟩])
  (.block 0 (.loop (.seq (.region false [
      ⟨some 34, none, .bin .lss (.t 33) (.t 32)⟩])
    (.seq (.cond (.t 34)
      (.skip)
      (.exit 0))
    (.seq (.block 1 (.seq (.region false [
      ⟨some 35, none, .mov (.t 33)⟩,
      ⟨some 36, none, .iaddr 2 (.t 31) (.t 33)⟩,
      ⟨some 37, none, .loadn 2 (.t 36)⟩,
      ⟨some 12, none, .alloc 48 [(.int .i64 0), (.int .i64 0)]⟩,
      ⟨some 11, none, .mov (.t 35)⟩,
      ⟨none, none, .store 2 (.t 12) (.t 37)⟩])
    (.seq (.seq (.region true [
      ⟨some 38, none, .faddr 0 (.t 12)⟩,
      ⟨some 39, none, .load1 (.t 38)⟩,
      ⟨some 40, none, .mov (.t 0)⟩,
      ⟨some 41, none, .len false (.t 40)⟩,
      ⟨some 42, none, .bin .geq (.t 39) (.t 41)⟩,
      ⟨some 43, none, .mov (.t 42)⟩,
      ⟨some 44, some (43, false), .faddr 1 (.t 12)⟩,
      ⟨some 45, some (43, false), .load1 (.t 44)⟩,
      ⟨some 46, some (43, false), .mov (.t 0)⟩,
      ⟨some 47, some (43, false), .faddr 0 (.t 12)⟩,
      ⟨some 48, some (43, false), .load1 (.t 47)⟩,
      ⟨some 49, some (43, false), .iaddr 1 (.t 46) (.t 48)⟩,
      ⟨some 50, some (43, false), .load1 (.t 49)⟩,
      ⟨some 51, some (43, false), .len false (.t 50)⟩,
      ⟨some 52, some (43, false), .bin .geq (.t 45) (.t 51)⟩,
      ⟨some 53, none, .pick (.t 43) (.c (.bool true)) (.t 52)⟩])
    (.cond (.t 53)
      (.seq (.region false [
        ⟨some 6, none, .mov (.c (.slice none 0 0))⟩,
        ⟨some 7, none, .mov (.c (.int .i64 7))⟩])
      (.ret))
      (.skip)))
    (.seq (.region true [
      ⟨some 54, none, .mov (.t 0)⟩,
      ⟨some 55, none, .faddr 0 (.t 12)⟩,
      ⟨some 56, none, .load1 (.t 55)⟩,
      ⟨some 57, none, .iaddr 1 (.t 54) (.t 56)⟩,
      ⟨some 58, none, .load1 (.t 57)⟩,
      ⟨some 59, none, .faddr 1 (.t 12)⟩,
      ⟨some 60, none, .load1 (.t 59)⟩,
      ⟨some 61, none, .iaddr 1 (.t 58) (.t 60)⟩,
      ⟨some 62, none, .load1 (.t 61)⟩,
      ⟨some 13, none, .mov (.t 62)⟩])
    (.seq (.seq (.region false [
      ⟨some 63, none, .mov (.t 13)⟩,
      ⟨some 64, none, .call 37 [(.t 63)]⟩,
      ⟨some 14, none, .mov (.t 64)⟩])
    (.seq (.region false [
      ⟨some 65, none, .mov (.t 14)⟩,
      ⟨some 66, none, .bin .neq (.t 65) (.c (.int .i64 0))⟩])
    (.cond (.t 66)
      (.seq (.region false [
        ⟨some 67, none, .mov (.t 14)⟩,
        ⟨some 6, none, .mov (.c (.slice none 0 0))⟩,
        ⟨some 7, none, .mov (.t 67)⟩])
      (.ret))
      (.skip))))
    (.seq (.seq (.region false [
      ⟨some 68, none, .mov (.t 11)⟩,
      ⟨some 69, none, .bin .eql (.t 68) (.c (.int .i64 0))⟩])
    (.cond (.t 69)
      (.seq (.region false [
        ⟨some 70, none, .mov (.t 13)⟩,
        ⟨some 71, none, .append 112 3 32 (.c (.slice none 0 0)) (.t 70)⟩,
        ⟨some 10, none, .mov (.t 71)⟩])
      (.exit 1))
      (.skip)))
    (.seq (.region false [
      ⟨some 73, none, .mov (.t 10)⟩,
      ⟨some 74, none, .mov (.t 13)⟩,
      ⟨some 75, none, .call 54 [(.t 73), (.t 74)]⟩,
      ⟨some 72, none, .mov (.t 75)⟩,
      ⟨some 76, none, .ext 0 (.t 72)⟩,
      ⟨some 77, none, .ext 1 (.t 72)⟩,
      ⟨some 10, none, .mov (.t 76)⟩,
      ⟨some 9, none, .mov (.t 77)⟩])
    (.seq (.region false [
      ⟨some 78, none, .mov (.t 9)⟩,
      ⟨some 79, none, .bin .neq (.t 78) (.c (.int .i64 0))⟩])
    (.cond (.t 79)
      (.seq (.region false [
        ⟨some 80, none, .mov (.t 9)⟩,
        ⟨some 6, none, .mov (.c (.slice none 0 0))⟩,
        ⟨some 7, none, .mov (.t 80)⟩])
      (.ret))
      (.skip))))))))))
    (.region false [
      ⟨some 81, none, .bin .add (.t 33) (.c (.int .i64 1))⟩,
      ⟨some 33, none, .mov (.t 81)⟩])))))))
  (.seq (.region false [
    ⟨some 82, none, .mov (.t 10)⟩,
    ⟨some 6, none, .mov (.t 82)⟩,
    ⟨some 7, none, .mov (.c (.int .i64 0))⟩])
  (.ret))))))
theorem ok_tbtw : FnOk Try.prog 17 Try.f17 ac_tbtw [.t 6, .t 7] 3 drawD := ⟨Try.func17, by decide +kernel, by kernel_rfl, by kernel_rfl, by decide +kernel⟩
def tRows (eP : List Part → List (List V)) (t : List (List (List Part))) : List (List V) := t.map fun r => [.sl false 1 (r.map fun d => [.sl false 3 (eP d)])]
structure YTb (t : List (List (List Part))) (eP : List Part → List (List V)) (res : List Part × Int) (l : List (Nat × Nat)) where
  j : Int
  pre : List (Nat × Nat)
  rest : List (Nat × Nat)
  x : List Part
  ov : V
  e : Int
  hd : l = pre ++ rest
  hj : j = (pre.length : Int)
  hx : x.length ≤ 10000000
  ho : pre ≠ [] → ov = .sl false 3 (eP x)
  hr : goB t (decide (pre = [])) x rest = res
theorem vc_tbtw (P : Prim) (hP : P = std) (T T1 : CallT) (t : List (List (List Part))) (i k : Int) (eP : List Part → List (List V)) (rows : List (List V)) (hrows : rows = tRows eP t) (bl : List (Nat × Nat)) (brows : List (List V)) (hbr : brows = pairRows bl) (c : Int)
    (cK : List Part → Int) (hcK : ∀ d, cK d = checkF d) (mC : List Part → List Part → List Part) (mE : List Part → List Part → Int) (hmC : ∀ d x, mC d x = (compF d x).1) (hmE : ∀ d x, mE d x = (compF d x).2)
    (hc1 : Ans T 53 [.int .i64 i, .int .i64 k] (.tup [.sl false 2 brows, .int .i64 c])) (hbl : c = 0 → bl.length ≤ 64) (heL : ∀ d, (eP d).length = d.length)
    (hck : ∀ v b d, getT t v b = some d → Ans T 37 [.sl false 3 (eP d)] (.int .i64 (cK d))) (hz : ∀ d, ∀ r ∈ eP d, ∀ v ∈ r, Fz v)
    (hcomp : ∀ v b d x, getT t v b = some d → x.length ≤ 10000000 → Ans T 54 [.sl false 3 (eP x), .sl false 3 (eP d)] (.tup [.sl false 3 (eP (mC x d)), .int .i64 (mE x d)])) (heP : eP [] = [])
    (r : List Part) (re : Int) (g1 : c ≠ 0 → r = [] ∧ c = re) (g2 : c = 0 → i = k → r = [] ∧ 1 = re) (g3 : c = 0 → i ≠ k → goB t true [] bl = (r, re) ∧ bl ≠ [])
    (R : S → Prop) (hR : ∀ x, x = re → RetSl [.t 6, .t 7] 3 (eP r) [.int .i64 x] R) : awp P T T1 ac_tbtw (S0 [.sl false 1 rows, .int .i64 i, .int .i64 k] Hp.emp) R (fun _ _ => False) R := by
  have hb1 : P.rlen brows = (bl.length : Int) := by rw [rlen_eq hP, hbr]; simp [pairRows]
  have ht1 : P.rlen rows = (t.length : Int) := by rw [rlen_eq hP, hrows]; simp [tRows]
  have bad : ∀ x, r = [] ∧ x = re → ∀ s s', Ent s s' → Ret [.t 6, .t 7] [.nilsl, .int .i64 x] s' → R s := fun x hx s s' he hr => (hR _ hx.2).1 _ _ he hr (by rw [hx.1, heP])
  cbv
  refine hc1 _ _ ?_
  clear hc1
  cbv
  by_cases hc : c = 0
  rotate_left
  · refine br_tt (ne_T hP hc) ?_
    cbv
    refine br_ff (eq_F hP hc) ?_
    cbv
    exact bad _ (g1 hc) _ _ (Ent.refl _) rfl
  refine br_ff (ne_F hP hc) ?_
  cbv
  refine br_cases (fun h => ?_) (fun h => ?_)
  · cbv
    refine br_tt (eq_T hP hc) ?_
    cbv
    exact bad _ (g2 hc (eq_t hP h)) _ _ (Ent.refl _) rfl
  obtain ⟨hres, hne⟩ := g3 hc (eq_f hP h)
  have hb64 := hbl hc
  clear g1 g2 g3 h hbl
  cbv
  refine ⟨YTb t eP (r, re) bl, fun y => [(0, .sl false 1 rows), (9, .int .i64 y.e), (10, y.ov), (31, .sl false 2 brows), (32, .int .i64 (P.rlen brows)), (33, .int .i64 y.j)], fun y => [], fun y => y.rest.length,
    ⟨_, Ent.refl _, ⟨0, [], bl, [], .nilsl, c, rfl, rfl, by simp, fun h => absurd rfl h, hres⟩, ⟨rfl, rfl, rfl, rfl, rfl, rfl, trivial⟩, trivial⟩, ?_⟩
  rintro ⟨j, pre, rest, x, ov, e, hd, hj, hx, ho, hr⟩
  have hlp : pre.length + rest.length = bl.length := by rw [hd]; simp
  cbv
  refine br_cases (fun h => ?_) (fun h => ?_)
  · have h5 : j < P.rlen brows := lt_t hP h
    rw [hb1] at h5
    rcases rest with _ | ⟨⟨v, b⟩, rest⟩
    · exfalso; simp at hlp; ((try simp only [nc] at *); omega)
    have hrow2 : P.row brows (P.nat j) [.int .i64 v, .int .i64 b] := row_of hP hj (by rw [hbr, pairRows, List.getElem?_map, hd]; simp)
    have q1 : P.leP 0 j := le0 hP (by ((try simp only [nc] at *); omega))
    have q2 : P.i64 (P.add j 1) := by rw [add_eq hP]; exact i64I hP (by ((try simp only [nc] at *); omega))
    have q3 : P.add j 1 = (((pre ++ [(v, b)]).length : Nat) : Int) := by rw [add_eq hP, hj]; simp
    have q4 : P.leP 0 (v : Int) := le0 hP (by omega)
    have q5 : P.leP 0 (b : Int) := le0 hP (by omega)
    cbv
    refine ⟨q1, _, hrow2, ?_⟩
    cbv
    intro β
    cbv
    unfold goB at hr
    refine br_cases (fun h => ?_) (fun h => ?_)
    · have h6 : P.rlen rows ≤ (v : Int) := le_t hP h
      have hg : getT t v b = none := by unfold getT; rw [List.getElem?_eq_none (show t.length ≤ v by ((try simp only [nc] at *); omega))]; rfl
      rw [hg] at hr
      simp only [Prod.mk.injEq] at hr
      cbv
      exact bad _ ⟨hr.1.symm, hr.2⟩ _ _ (Ent.refl _) rfl
    have h6 : ¬ P.rlen rows ≤ (v : Int) := le_f hP h
    have hvl : v < t.length := by ((try simp only [nc] at *); omega)
    obtain ⟨tr, hv⟩ : ∃ tr, t[v]? = some tr := ⟨_, List.getElem?_eq_getElem hvl⟩
    have hrow3 : P.row rows (P.nat (v : Int)) [.sl false 1 (tr.map fun d => [.sl false 3 (eP d)])] := row_of hP (i := v) rfl (by rw [hrows, tRows, List.getElem?_map, hv]; rfl)
    have hg : getT t v b = tr[b]? := by unfold getT; rw [hv]; rfl
    rw [hg] at hr
    have htl : P.rlen (tr.map fun d => [.sl false 3 (eP d)]) = (tr.length : Int) := by rw [rlen_eq hP]; simp
    generalize hee : (tr.map fun d => [V.sl false 3 (eP d)]) = er at hrow3 htl
    cbv
    refine ⟨q4, _, hrow3, ?_⟩
    cbv
    refine br_cases (fun h => ?_) (fun h => ?_)
    · have h7 : P.rlen er ≤ (b : Int) := le_t hP h
      rw [List.getElem?_eq_none (show tr.length ≤ b by ((try simp only [nc] at *); omega))] at hr
      simp only [Prod.mk.injEq] at hr
      cbv
      exact bad _ ⟨hr.1.symm, hr.2⟩ _ _ (Ent.refl _) rfl
    have h7 : ¬ P.rlen er ≤ (b : Int) := le_f hP h
    have hbl2 : b < tr.length := by ((try simp only [nc] at *); omega)
    obtain ⟨d, hbd⟩ : ∃ d, tr[b]? = some d := ⟨_, List.getElem?_eq_getElem hbl2⟩
    rw [hbd] at hr hg
    simp only [] at hr
    have hrow4 : P.row er (P.nat (b : Int)) [.sl false 3 (eP d)] := row_of hP (i := b) rfl (by rw [← hee, List.getElem?_map, hbd]; rfl)
    have c1 := hck v b d hg
    have c2 := hcomp v b d x hg hx
    have hzd := hz d
    have hel := heL d
    rw [← hcK, ← hmE, ← hmC] at hr
    have hxl : (mC x d).length ≤ 10000000 := by rw [hmC]; exact comp_len x d
    clear hck hcomp hz heL
    cbv
    refine ⟨q4, _, hrow3, ?_⟩
    cbv
    refine ⟨q5, _, hrow4, ?_⟩
    cbv
    refine c1 _ _ ?_
    cbv
    refine br_cases (fun h => ?_) (fun h => ?_)
    · rw [if_pos (ne_t hP h)] at hr
      simp only [Prod.mk.injEq] at hr
      cbv
      exact bad _ ⟨hr.1.symm, hr.2⟩ _ _ (Ent.refl _) rfl
    have hk0 := ne_f hP h
    rw [if_neg (fun g => g hk0)] at hr
    have hdl : d.length ≤ 1600 := (checkF_all (by rw [← hcK]; exact hk0)).1
    have o1 : P.bytes (P.rlen (eP d)) 32 := by subst hP; show ((eP d).length : Int) * 32 ≤ _; ((try simp only [nc] at *); omega)
    cbv
    refine br_cases (fun h => ?_) (fun h => ?_)
    · have hj0 : j = 0 := eq_t hP h
      have hp0 : pre = [] := List.eq_nil_of_length_eq_zero (by ((try simp only [nc] at *); omega))
      subst hp0
      simp only [decide_true, if_true] at hr
      cbv
      repeat' first | (refine And.intro (by assumption) ?_; try cbv) | (intro β; try cbv)
      refine ⟨_, Ent.frzS (i := 10) (k := 1000071) (sz := 3) rfl rfl rfl rfl (by subst hP; rfl) hzd, ⟨_, [(v, b)], rest, d, _, e, hd, q3, by omega, fun _ => rfl, by simpa using hr⟩, ⟨rfl, rfl, rfl, rfl, rfl, rfl, trivial⟩, trivial, by simp⟩
    · have hj0 : ¬ j = 0 := eq_f hP h
      have hp0 : pre ≠ [] := by rintro rfl; exact hj0 (by rw [hj]; rfl)
      have hov := ho hp0
      subst hov
      rw [if_neg (by simp [hp0])] at hr
      cbv
      refine c2 _ _ ?_
      cbv
      refine br_cases (fun h => ?_) (fun h => ?_)
      · rw [if_pos (ne_t hP h)] at hr
        simp only [Prod.mk.injEq] at hr
        cbv
        exact bad _ ⟨hr.1.symm, hr.2⟩ _ _ (Ent.refl _) rfl
      · have he0 := ne_f hP h
        rw [if_neg (fun g => g he0)] at hr
        cbv
        refine ⟨q2, ?_⟩
        refine ⟨_, Ent.refl _, ⟨_, pre ++ [(v, b)], rest, mC x d, _, mE x d, by simp [hd], q3, hxl, fun _ => rfl, by simpa using hr⟩, ⟨rfl, rfl, rfl, rfl, rfl, rfl, trivial⟩, trivial, by simp⟩
  · have h5 : ¬ j < P.rlen brows := lt_f hP h
    rw [hb1] at h5
    rcases rest with _ | ⟨y, rest⟩
    rotate_left
    · exfalso; simp at hlp; ((try simp only [nc] at *); omega)
    have hp0 : pre ≠ [] := by rintro rfl; exact hne (by rw [hd]; rfl)
    have hov := ho hp0
    subst hov
    have hr1 : x = r ∧ 0 = re := by simpa [goB] using hr
    cbv
    exact (hR _ hr1.2).2.2 _ _ _ (Ent.refl _) rfl (by show eP x = eP r; rw [hr1.1])
theorem tRows_enc (t : List (List (List Part))) : encTiers t = tRows (fun d => d.map encPart) t := rfl
theorem covF_ne {i k : Nat} (h : i < k) : covF 64 i k ≠ [] := by simp [covF, h]
theorem pairs_len (l : List (Nat × Nat)) : (pairRows l).length = l.length := by simp [pairRows]
theorem getT_ok {t : List (List (List Part))} (ht : TiersOk t) {v b : Nat} {d : List Part} (h : getT t v b = some d) : PartsOk d := by
  obtain ⟨r, h1, h2⟩ := getT_mem h
  exact (ht.2 r h1).2 d h2
theorem ansSP {f : Nat} {vs : List V} {v : V} (h : Spec Try.prog f vs Hp.emp (Is v)) (hv : v.ren (lab []) = v) (hvs : vs.all V.pl = true) : Ans (CallP Try.prog) f vs v := ansP h (fun _ => args_plain hvs) hv
theorem sp_tbtw (t : List (List (List Part))) (i k : Int) (ht : TiersOk t) : Spec Try.prog 17 [.sl false 1 (encTiers t), .int .i64 i, .int .i64 k] Hp.emp (Is (.tup [encParts (tbF t i k).1, .int .i64 (tbF t i k).2])) :=
  spec_frz dOk ok_tbtw fun R hR => vc_tbtw std rfl _ _ t i k (fun d => d.map encPart) _ rfl (coverF i k).1 _ rfl (coverF i k).2 checkF (fun _ => rfl) (fun d x => (compF d x).1) (fun d x => (compF d x).2) (fun _ _ => rfl) (fun _ _ => rfl)
    (ansSame (sp_cover i k) rfl rfl) (fun h => by
      unfold coverF at h ⊢
      split at h
      · exact absurd h (by decide)
      · rename_i g
        rw [if_neg g]
        exact (cov_rc (by omega) (by omega)).2) (fun d => List.length_map _)
    (fun v b d hg => ansLs (sp_check d (getT_ok ht hg).1) rfl rfl) (fun d => encParts_fz d)
    (fun v b d x hg hx => ansSame (sp_comp x d (len_of hx) (getT_ok ht hg).1) rfl rfl) rfl (tbF t i k).1 (tbF t i k).2
    (fun h => by
      unfold coverF at h
      split at h
      · rename_i g
        have e1 : tbF t i k = ([], 1) := by unfold tbF; rw [if_pos (by omega)]
        have e2 : coverF i k = ([], 1) := by unfold coverF; rw [if_pos g]
        rw [e1, e2]; exact ⟨rfl, rfl⟩
      · exact absurd rfl h)
    (fun h g => by
      have e1 : tbF t i k = ([], 1) := by unfold tbF; rw [if_pos (by omega)]
      rw [e1]; exact ⟨rfl, rfl⟩)
    (fun h g => by
      unfold coverF at h ⊢
      split at h
      · exact absurd h (by decide)
      · rename_i g2
        rw [if_neg g2]
        refine ⟨?_, covF_ne (by omega)⟩
        unfold tbF
        rw [if_neg (by omega)]) R (parts_ret hR)
/-! the law -/
def ac_ltb : AC := .seq (.region false [
    ⟨some 6, none, .mov (.c (.bool false))⟩])
  (.seq (.region false [
    ⟨some 14, none, .mov (.t 0)⟩,
    ⟨some 15, none, .mov (.t 1)⟩,
    ⟨some 16, none, .mov (.t 2)⟩,
    ⟨some 17, none, .call 17 [(.t 14), (.t 15), (.t 16)]⟩,
    ⟨some 13, none, .mov (.t 17)⟩,
    ⟨some 18, none, .ext 0 (.t 13)⟩,
    ⟨some 19, none, .ext 1 (.t 13)⟩,
    ⟨some 7, none, .mov (.t 18)⟩,
    ⟨some 8, none, .mov (.t 19)⟩])
  (.seq (.seq (.region false [
    ⟨some 20, none, .mov (.t 1)⟩,
    ⟨some 21, none, .bin .lss (.t 20) (.c (.int .i64 0))⟩,
    ⟨some 22, none, .mov (.t 21)⟩,
    ⟨some 23, some (22, false), .mov (.t 1)⟩,
    ⟨some 24, some (22, false), .mov (.t 2)⟩,
    ⟨some 25, some (22, false), .bin .geq (.t 23) (.t 24)⟩,
    ⟨some 26, none, .pick (.t 22) (.c (.bool true)) (.t 25)⟩,
    ⟨some 27, none, .mov (.t 26)⟩,
    ⟨some 28, some (27, false), .mov (.t 2)⟩,
    ⟨some 29, some (27, false), .bin .gtr (.t 28) (.c (.int .i64 64))⟩,
    ⟨some 30, none, .pick (.t 27) (.c (.bool true)) (.t 29)⟩])
  (.cond (.t 30)
    (.seq (.region false [
      ⟨some 31, none, .mov (.t 8)⟩,
      ⟨some 32, none, .bin .eql (.t 31) (.c (.int .i64 1))⟩,
      ⟨some 33, none, .mov (.t 32)⟩,
      ⟨some 34, some (33, true), .mov (.t 7)⟩,
      ⟨some 35, some (33, true), .len false (.t 34)⟩,
      ⟨some 36, some (33, true), .bin .eql (.t 35) (.c (.int .i64 0))⟩,
      ⟨some 37, none, .pick (.t 33) (.t 36) (.c (.bool false))⟩,
      ⟨some 6, none, .mov (.t 37)⟩])
    (.ret))
    (.skip)))
  (.seq (.region false [
    ⟨some 9, none, .mov (.c (.slice none 0 0))⟩])
  (.seq (.region false [
    ⟨some 10, none, .mov (.c (.int .i64 0))⟩])
  (.seq (.seq (.region false [
    ⟨some 38, none, .mov (.t 1)⟩,
    ⟨some 39, none, .mov (.t 2)⟩,
    ⟨some 40, none, .call 18 [(.t 38), (.t 39)]⟩,
    ⟨some 41, none, .len false (.t 40)⟩,
    ⟨some 42, none, .mov (.c (.int .i64 0))⟩])
  (.block 0 (.loop (.seq (.region false [
      ⟨some 43, none, .bin .lss (.t 42) (.t 41)⟩])
    (.seq (.cond (.t 43)
      (.skip)
      (.exit 0))
    (.seq (.block 1 (.seq (.region false [
      ⟨some 44, none, .mov (.t 42)⟩,
      ⟨some 45, none, .iaddr 2 (.t 40) (.t 42)⟩,
      ⟨some 46, none, .loadn 2 (.t 45)⟩,
      ⟨some 12, none, .alloc 48 [(.int .i64 0), (.int .i64 0)]⟩,
      ⟨some 11, none, .mov (.t 44)⟩,
      ⟨none, none, .store 2 (.t 12) (.t 46)⟩])
    (.seq (.block 2 (.seq (.region true [
      ⟨some 62, none, .faddr 0 (.t 12)⟩,
      ⟨some 63, none, .load1 (.t 62)⟩,
      ⟨some 64, none, .mov (.t 0)⟩,
      ⟨some 65, none, .len false (.t 64)⟩,
      ⟨some 66, none, .bin .geq (.t 63) (.t 65)⟩,
      ⟨some 67, none, .mov (.t 66)⟩,
      ⟨some 68, some (67, false), .faddr 1 (.t 12)⟩,
      ⟨some 69, some (67, false), .load1 (.t 68)⟩,
      ⟨some 70, some (67, false), .mov (.t 0)⟩,
      ⟨some 71, some (67, false), .faddr 0 (.t 12)⟩,
      ⟨some 72, some (67, false), .load1 (.t 71)⟩,
      ⟨some 73, some (67, false), .iaddr 1 (.t 70) (.t 72)⟩,
      ⟨some 74, some (67, false), .load1 (.t 73)⟩,
      ⟨some 75, some (67, false), .len false (.t 74)⟩,
      ⟨some 76, some (67, false), .bin .geq (.t 69) (.t 75)⟩,
      ⟨some 77, none, .pick (.t 67) (.c (.bool true)) (.t 76)⟩,
      ⟨some 61, none, .mov (.t 77)⟩])
    (.cond (.t 61)
      (.region false [
        ⟨some 10, none, .mov (.c (.int .i64 7))⟩])
      (.seq (.region true [
        ⟨some 79, none, .mov (.t 0)⟩,
        ⟨some 80, none, .faddr 0 (.t 12)⟩,
        ⟨some 81, none, .load1 (.t 80)⟩,
        ⟨some 82, none, .iaddr 1 (.t 79) (.t 81)⟩,
        ⟨some 83, none, .load1 (.t 82)⟩,
        ⟨some 84, none, .faddr 1 (.t 12)⟩,
        ⟨some 85, none, .load1 (.t 84)⟩,
        ⟨some 86, none, .iaddr 1 (.t 83) (.t 85)⟩,
        ⟨some 87, none, .load1 (.t 86)⟩,
        ⟨some 88, none, .call 19 [(.t 87)]⟩,
        ⟨some 89, none, .bin .neq (.t 88) (.c (.int .i64 0))⟩,
        ⟨some 78, none, .mov (.t 89)⟩])
      (.cond (.t 78)
        (.region true [
          ⟨some 90, none, .mov (.t 0)⟩,
          ⟨some 91, none, .faddr 0 (.t 12)⟩,
          ⟨some 92, none, .load1 (.t 91)⟩,
          ⟨some 93, none, .iaddr 1 (.t 90) (.t 92)⟩,
          ⟨some 94, none, .load1 (.t 93)⟩,
          ⟨some 95, none, .faddr 1 (.t 12)⟩,
          ⟨some 96, none, .load1 (.t 95)⟩,
          ⟨some 97, none, .iaddr 1 (.t 94) (.t 96)⟩,
          ⟨some 98, none, .load1 (.t 97)⟩,
          ⟨some 99, none, .call 19 [(.t 98)]⟩,
          ⟨some 10, none, .mov (.t 99)⟩])
        (.seq (.region false [
          ⟨some 101, none, .mov (.t 11)⟩,
          ⟨some 102, none, .bin .eql (.t 101) (.c (.int .i64 0))⟩,
          ⟨some 100, none, .mov (.t 102)⟩])
        (.cond (.t 100)
          (.region true [
            ⟨some 103, none, .mov (.t 0)⟩,
            ⟨some 104, none, .faddr 0 (.t 12)⟩,
            ⟨some 105, none, .load1 (.t 104)⟩,
            ⟨some 106, none, .iaddr 1 (.t 103) (.t 105)⟩,
            ⟨some 107, none, .load1 (.t 106)⟩,
            ⟨some 108, none, .faddr 1 (.t 12)⟩,
            ⟨some 109, none, .load1 (.t 108)⟩,
            ⟨some 110, none, .iaddr 1 (.t 107) (.t 109)⟩,
            ⟨some 111, none, .load1 (.t 110)⟩,
            ⟨some 9, none, .mov (.t 111)⟩])
          (.region true [
            ⟨some 48, none, .mov (.t 9)⟩,
            ⟨some 49, none, .mov (.t 0)⟩,
            ⟨some 50, none, .faddr 0 (.t 12)⟩,
            ⟨some 51, none, .load1 (.t 50)⟩,
            ⟨some 52, none, .iaddr 1 (.t 49) (.t 51)⟩,
            ⟨some 53, none, .load1 (.t 52)⟩,
            ⟨some 54, none, .faddr 1 (.t 12)⟩,
            ⟨some 55, none, .load1 (.t 54)⟩,
            ⟨some 56, none, .iaddr 1 (.t 53) (.t 55)⟩,
            ⟨some 57, none, .load1 (.t 56)⟩,
            ⟨some 58, none, .call 20 [(.t 48), (.t 57)]⟩,
            ⟨some 47, none, .mov (.t 58)⟩,
            ⟨some 59, none, .ext 0 (.t 47)⟩,
            ⟨some 60, none, .ext 1 (.t 47)⟩,
            ⟨some 9, none, .mov (.t 59)⟩,
            ⟨some 10, none, .mov (.t 60)⟩]))))))))
    (.seq (.region false [
      ⟨some 112, none, .mov (.t 10)⟩,
      ⟨some 113, none, .bin .neq (.t 112) (.c (.int .i64 0))⟩])
    (.cond (.t 113)
      (.seq (.region false [
        ⟨some 114, none, .mov (.t 8)⟩,
        ⟨some 115, none, .mov (.t 10)⟩,
        ⟨some 116, none, .bin .eql (.t 114) (.t 115)⟩,
        ⟨some 117, none, .mov (.t 116)⟩,
        ⟨some 118, some (117, true), .mov (.t 7)⟩,
        ⟨some 119, some (117, true), .len false (.t 118)⟩,
        ⟨some 120, some (117, true), .bin .eql (.t 119) (.c (.int .i64 0))⟩,
        ⟨some 121, none, .pick (.t 117) (.t 120) (.c (.bool false))⟩,
        ⟨some 6, none, .mov (.t 121)⟩])
      (.ret))
      (.skip))))))
    (.region false [
      ⟨some 122, none, .bin .add (.t 42) (.c (.int .i64 1))⟩,
      ⟨some 42, none, .mov (.t 122)⟩])))))))
  (.seq (.region false [
    ⟨some 123, none, .mov (.t 8)⟩,
    ⟨some 124, none, .bin .eql (.t 123) (.c (.int .i64 0))⟩,
    ⟨some 125, none, .mov (.t 124)⟩,
    ⟨some 126, some (125, true), .mov (.t 7)⟩,
    ⟨some 127, some (125, true), .mov (.t 9)⟩,
    ⟨some 128, some (125, true), .call 21 [(.t 126), (.t 127)]⟩,
    ⟨some 129, none, .pick (.t 125) (.t 128) (.c (.bool false))⟩,
    ⟨some 6, none, .mov (.t 129)⟩])
  (.ret)))))))
theorem ok_ltb : FnOk Try.prog 5 Try.f5 ac_ltb [.t 6] 3 drawD := ⟨Try.func5, by decide +kernel, by kernel_rfl, by kernel_rfl, by decide +kernel⟩
theorem vc_ltb (P : Prim) (hP : P = std) (T T1 : CallT) (t : List (List (List Part))) (i k e : Int) (eP : List Part → List (List V)) (rows dr : List (List V)) (hrows : rows = tRows eP t) (bl : List (Nat × Nat)) (brows : List (List V)) (hbr : brows = pairRows bl)
    (cK : List Part → Int) (hcK : ∀ d, cK d = checkF d) (mC : List Part → List Part → List Part) (mE : List Part → List Part → Int) (hmC : ∀ d x, mC d x = (compF d x).1) (hmE : ∀ d x, mE d x = (compF d x).2)
    (hc0 : Ans T 17 [.sl false 1 rows, .int .i64 i, .int .i64 k] (.tup [.sl false 3 dr, .int .i64 e]))
    (hc1 : 0 ≤ i → i < k → k ≤ 64 → Ans T 18 [.int .i64 i, .int .i64 k] (.sl false 2 brows)) (hbl : bl.length ≤ 64)
    (hck : ∀ v b d, getT t v b = some d → Ans T1 19 [.sl false 3 (eP d)] (.int .i64 (cK d)))
    (hcomp : ∀ v b d x, getT t v b = some d → x.length ≤ 10000000 → Ans T1 20 [.sl false 3 (eP x), .sl false 3 (eP d)] (.tup [.sl false 3 (eP (mC x d)), .int .i64 (mE x d)])) (heP : ∀ d, eP d = [] ↔ d = [])
    (hsame : Ans T 21 [.sl false 3 dr, .sl false 3 dr] (.bool true))
    (r : List Part) (hdr : dr = eP r) (g1 : i < 0 ∨ 64 < k ∨ k ≤ i → r = [] ∧ e = 1) (g3 : 0 ≤ i → i < k → k ≤ 64 → goB t true [] bl = (r, e) ∧ bl ≠ [])
    (R : S → Prop) (hR : ∀ s s' b, b = true → Ent s s' → Ret [.t 6] [.bool b] s' → R s) : awp P T T1 ac_ltb (S0 [.sl false 1 rows, .int .i64 i, .int .i64 k] Hp.emp) R (fun _ _ => False) R := by
  have hb1 : P.rlen brows = (bl.length : Int) := by rw [rlen_eq hP, hbr]; simp [pairRows]
  have ht1 : P.rlen rows = (t.length : Int) := by rw [rlen_eq hP, hrows]; simp [tRows]
  have fin : ∀ w, r = [] ∧ e = w → P.eq e w = true ∧ P.eq (P.rlen dr) 0 = true := fun w ⟨q1, q4⟩ => ⟨eq_T hP q4, eq_T hP (by rw [rlen_eq hP, hdr, (heP r).2 q1]; rfl)⟩
  have last : r = [] ∧ (∃ w, e = w) → ∀ s s' : S, Ent s s' → Ret [.t 6] [.bool (P.eq (P.rlen dr) 0)] s' → R s := fun ⟨h1, w, h2⟩ s s' he hr => hR s s' _ (fin w ⟨h1, h2⟩).2 he hr
  cbv
  refine hc0 _ _ ?_
  clear hc0
  cbv
  by_cases hk : i < 0 ∨ 64 < k ∨ k ≤ i
  · obtain ⟨q1, q2⟩ := fin _ (g1 hk)
    have last' := last ⟨(g1 hk).1, _, (g1 hk).2⟩
    by_cases hk1 : i < 0
    · refine br_tt (lt_T hP hk1) ?_
      cbv
      refine br_tt q1 ?_
      cbv
      exact last' _ _ (Ent.refl _) rfl
    refine br_ff (lt_F hP hk1) ?_
    cbv
    by_cases hk2 : k ≤ i
    · refine br_tt (le_T hP hk2) ?_
      cbv
      refine br_tt q1 ?_
      cbv
      exact last' _ _ (Ent.refl _) rfl
    have hk3 : 64 < k := by omega
    refine br_ff (le_F hP hk2) ?_
    cbv
    refine br_tt (lt_T hP hk3) ?_
    cbv
    refine br_tt q1 ?_
    cbv
    exact last' _ _ (Ent.refl _) rfl
  have hk1 : ¬ i < 0 := fun h => hk (.inl h)
  have hk2 : ¬ k ≤ i := fun h => hk (.inr (.inr h))
  have hk3 : ¬ 64 < k := fun h => hk (.inr (.inl h))
  have f1 := hc1 (by omega) (by omega) (by omega)
  obtain ⟨hres, hne⟩ := g3 (by omega) (by omega) (by omega)
  clear hc1 g1 g3 hk
  refine br_ff (lt_F hP hk1) ?_
  cbv
  refine br_ff (le_F hP hk2) ?_
  cbv
  refine br_ff (lt_F hP hk3) ?_
  cbv
  refine f1 _ _ ?_
  cbv
  refine ⟨YTb t eP (r, e) bl, fun y => [(0, .sl false 1 rows), (7, .sl false 3 dr), (8, .int .i64 e), (10, .int .i64 0), (9, y.ov), (40, .sl false 2 brows), (41, .int .i64 (P.rlen brows)), (42, .int .i64 y.j)], fun y => [], fun y => y.rest.length,
    ⟨_, Ent.refl _, ⟨0, [], bl, [], .nilsl, 0, rfl, rfl, by simp, fun h => absurd rfl h, hres⟩, ⟨rfl, rfl, rfl, rfl, rfl, rfl, rfl, rfl, trivial⟩, trivial⟩, ?_⟩
  rintro ⟨j, pre, rest, x, ov, e0, hd, hj, hx, ho, hr⟩
  have hlp : pre.length + rest.length = bl.length := by rw [hd]; simp
  cbv
  refine br_cases (fun h => ?_) (fun h => ?_)
  · have h5 : j < P.rlen brows := lt_t hP h
    rw [hb1] at h5
    rcases rest with _ | ⟨⟨v, b⟩, rest⟩
    · exfalso; simp at hlp; ((try simp only [nc] at *); omega)
    have hrow2 : P.row brows (P.nat j) [.int .i64 v, .int .i64 b] := row_of hP hj (by rw [hbr, pairRows, List.getElem?_map, hd]; simp)
    have q1 : P.leP 0 j := le0 hP (by ((try simp only [nc] at *); omega))
    have q2 : P.i64 (P.add j 1) := by rw [add_eq hP]; exact i64I hP (by ((try simp only [nc] at *); omega))
    have q3 : P.add j 1 = (((pre ++ [(v, b)]).length : Nat) : Int) := by rw [add_eq hP, hj]; simp
    have q4 : P.leP 0 (v : Int) := le0 hP (by omega)
    have q5 : P.leP 0 (b : Int) := le0 hP (by omega)
    have n7 : P.ne 7 0 = true := ne_T hP (by decide)
    cbv
    refine ⟨q1, _, hrow2, ?_⟩
    cbv
    intro β
    cbv
    unfold goB at hr
    refine br_cases (fun h => ?_) (fun h => ?_)
    · have h6 : P.rlen rows ≤ (v : Int) := le_t hP h
      have hg : getT t v b = none := by unfold getT; rw [List.getElem?_eq_none (show t.length ≤ v by ((try simp only [nc] at *); omega))]; rfl
      rw [hg] at hr
      simp only [Prod.mk.injEq] at hr
      have hf := fin _ ⟨hr.1.symm, hr.2.symm⟩
      cbv
      refine br_tt n7 ?_
      cbv
      refine br_tt hf.1 ?_
      cbv
      exact last ⟨hr.1.symm, _, rfl⟩ _ _ (Ent.refl _) rfl
    have h6 : ¬ P.rlen rows ≤ (v : Int) := le_f hP h
    have hvl : v < t.length := by ((try simp only [nc] at *); omega)
    obtain ⟨tr, hv⟩ : ∃ tr, t[v]? = some tr := ⟨_, List.getElem?_eq_getElem hvl⟩
    have hrow3 : P.row rows (P.nat (v : Int)) [.sl false 1 (tr.map fun d => [.sl false 3 (eP d)])] := row_of hP (i := v) rfl (by rw [hrows, tRows, List.getElem?_map, hv]; rfl)
    have hg : getT t v b = tr[b]? := by unfold getT; rw [hv]; rfl
    rw [hg] at hr
    have htl : P.rlen (tr.map fun d => [.sl false 3 (eP d)]) = (tr.length : Int) := by rw [rlen_eq hP]; simp
    generalize hee : (tr.map fun d => [V.sl false 3 (eP d)]) = er at hrow3 htl
    cbv
    refine ⟨q4, _, hrow3, ?_⟩
    cbv
    refine br_cases (fun h => ?_) (fun h => ?_)
    · have h7 : P.rlen er ≤ (b : Int) := le_t hP h
      rw [List.getElem?_eq_none (show tr.length ≤ b by ((try simp only [nc] at *); omega))] at hr
      simp only [Prod.mk.injEq] at hr
      have hf := fin _ ⟨hr.1.symm, hr.2.symm⟩
      cbv
      refine br_tt n7 ?_
      cbv
      refine br_tt hf.1 ?_
      cbv
      exact last ⟨hr.1.symm, _, rfl⟩ _ _ (Ent.refl _) rfl
    have h7 : ¬ P.rlen er ≤ (b : Int) := le_f hP h
    have hbl2 : b < tr.length := by ((try simp only [nc] at *); omega)
    obtain ⟨d, hbd⟩ : ∃ d, tr[b]? = some d := ⟨_, List.getElem?_eq_getElem hbl2⟩
    rw [hbd] at hr hg
    simp only [] at hr
    have hrow4 : P.row er (P.nat (b : Int)) [.sl false 3 (eP d)] := row_of hP (i := b) rfl (by rw [← hee, List.getElem?_map, hbd]; rfl)
    have c1 := hck v b d hg
    have c2 := hcomp v b d x hg hx
    rw [← hcK, ← hmE, ← hmC] at hr
    have hxl : (mC x d).length ≤ 10000000 := by rw [hmC]; exact comp_len x d
    clear hck hcomp
    cbv
    refine ⟨q4, _, hrow3, ?_⟩
    cbv
    refine ⟨q5, _, hrow4, ?_⟩
    cbv
    refine c1 _ _ ?_
    cbv
    refine br_cases (fun h => ?_) (fun h => ?_)
    · rw [if_pos (ne_t hP h)] at hr
      simp only [Prod.mk.injEq] at hr
      have hf := fin _ ⟨hr.1.symm, hr.2.symm⟩
      cbv
      refine ⟨q4, _, hrow3, ?_⟩
      cbv
      refine ⟨q5, _, hrow4, ?_⟩
      cbv
      refine c1 _ _ ?_
      cbv
      refine br_tt h ?_
      cbv
      refine br_tt hf.1 ?_
      cbv
      exact last ⟨hr.1.symm, _, rfl⟩ _ _ (Ent.refl _) rfl
    have hk0 := ne_f hP h
    rw [if_neg (fun g => g hk0)] at hr
    have hdl : d.length ≤ 1600 := (checkF_all (by rw [← hcK]; exact hk0)).1
    cbv
    refine br_cases (fun h => ?_) (fun h => ?_)
    · have hj0 : j = 0 := eq_t hP h
      have hp0 : pre = [] := List.eq_nil_of_length_eq_zero (by ((try simp only [nc] at *); omega))
      subst hp0
      simp only [decide_true, if_true] at hr
      cbv
      refine ⟨q4, _, hrow3, ?_⟩
      cbv
      refine ⟨q5, _, hrow4, ?_⟩
      cbv
      refine br_ff (ne_F hP rfl) ?_
      cbv
      refine ⟨q2, ?_⟩
      exact ⟨_, Ent.refl _, ⟨_, [(v, b)], rest, d, _, 0, hd, q3, by omega, fun _ => rfl, by simpa using hr⟩, ⟨rfl, rfl, rfl, rfl, rfl, rfl, rfl, rfl, trivial⟩, trivial, by simp⟩
    · have hj0 : ¬ j = 0 := eq_f hP h
      have hp0 : pre ≠ [] := by rintro rfl; exact hj0 (by rw [hj]; rfl)
      have hov := ho hp0
      subst hov
      rw [if_neg (by simp [hp0])] at hr
      cbv
      refine ⟨q4, _, hrow3, ?_⟩
      cbv
      refine ⟨q5, _, hrow4, ?_⟩
      cbv
      refine c2 _ _ ?_
      cbv
      refine br_cases (fun h => ?_) (fun h => ?_)
      · rw [if_pos (ne_t hP h)] at hr
        simp only [Prod.mk.injEq] at hr
        have hf := fin _ ⟨hr.1.symm, hr.2.symm⟩
        cbv
        refine br_tt hf.1 ?_
        cbv
        exact last ⟨hr.1.symm, _, rfl⟩ _ _ (Ent.refl _) rfl
      · have he0 := ne_f hP h
        rw [if_neg (fun g => g he0)] at hr
        cbv
        refine ⟨q2, ?_⟩
        refine ⟨_, Ent.refl _, ⟨_, pre ++ [(v, b)], rest, mC x d, _, mE x d, by simp [hd], q3, hxl, fun _ => rfl, by simpa using hr⟩, ⟨rfl, rfl, rfl, by rw [← he0]; rfl, rfl, rfl, rfl, rfl, trivial⟩, trivial, by simp⟩
  · have h5 : ¬ j < P.rlen brows := lt_f hP h
    rw [hb1] at h5
    rcases rest with _ | ⟨y, rest⟩
    rotate_left
    · exfalso; simp at hlp; ((try simp only [nc] at *); omega)
    have hp0 : pre ≠ [] := by rintro rfl; exact hne (by rw [hd]; rfl)
    have hov := ho hp0
    subst hov
    have hr1 : x = r ∧ 0 = e := by simpa [goB] using hr
    have hxr : eP x = dr := by rw [hdr, hr1.1]
    subst hxr
    cbv
    refine br_tt (eq_T hP hr1.2.symm) ?_
    cbv
    refine hsame _ _ ?_
    cbv
    exact hR _ _ _ rfl (Ent.refl _) rfl
theorem goB_len (t : List (List (List Part))) : ∀ (l : List (Nat × Nat)) (f : Bool) (x : List Part), x.length ≤ 10000000 → (goB t f x l).1.length ≤ 10000000
  | [], _, _, h => h
  | (v, b) :: l, f, x, h => by
    unfold goB
    split
    · simp
    · rename_i d hd
      split
      · simp
      · rename_i hc
        have h3 := (checkF_all (Decidable.of_not_not hc)).1
        split
        · exact goB_len t l false d (by omega)
        · split
          · simp
          · exact goB_len t l false _ (comp_len x d)
theorem tb_len (t : List (List (List Part))) (i k : Int) : (tbF t i k).1.length ≤ 10000000 := by
  unfold tbF
  split
  · simp
  · exact goB_len t _ _ _ (by simp)
theorem sp_law_tierBetweens (t : List (List (List Part))) (i k : Int) (ht : TiersOk t) (hi : I64 i) (hk : I64 k) : Spec Try.prog 5 [.sl false 1 (encTiers t), .int .i64 i, .int .i64 k] Hp.emp (Is (.bool true)) :=
  spec_pure dOk ok_ltb [.bool true] (.bool _) fun R hR => vc_ltb std rfl _ _ t i k (tbF t i k).2 (fun d => d.map encPart) _ ((tbF t i k).1.map encPart) rfl (if 0 ≤ i ∧ i ≤ k ∧ k ≤ 64 then covF 64 i.toNat k.toNat else []) _ rfl checkF (fun _ => rfl) (fun d x => (compF d x).1) (fun d x => (compF d x).2) (fun _ _ => rfl) (fun _ _ => rfl)
    (ansSame (sp_tbtw t i k ht) rfl rfl)
    (fun h1 h2 h3 => by
      rw [if_pos ⟨h1, by omega, h3⟩]
      have := ansSame (sp_covs i.toNat k.toNat (by omega) (by omega)) rfl rfl
      rw [show ((i.toNat : Nat) : Int) = i by omega, show ((k.toNat : Nat) : Int) = k by omega] at this
      exact this)
    (by split
        · exact (cov_rc (by omega) (by omega)).2
        · simp)
    (fun v b d hg => ansPs (sp_rdelta d (getT_ok ht hg).1) rfl rfl) (fun v b d x hg hx => ansSP (sp_rcomp x d (len_of hx) (getT_ok ht hg).1) rfl rfl) (fun d => by simp) (same_self _ (tb_len t i k)) (tbF t i k).1 rfl
    (fun h => by
      have e1 : tbF t i k = ([], 1) := by unfold tbF; rw [if_pos (by omega)]
      rw [e1]; exact ⟨rfl, rfl⟩)
    (fun h1 h2 h3 => by
      rw [if_pos ⟨h1, by omega, h3⟩]
      refine ⟨?_, covF_ne (by omega)⟩
      unfold tbF
      rw [if_neg (by omega)])
    R fun s s' b h he hr => by subst h; exact hR s s' he hr
end Go.Proofs.Ytcdldpjmdelebaa.AM
