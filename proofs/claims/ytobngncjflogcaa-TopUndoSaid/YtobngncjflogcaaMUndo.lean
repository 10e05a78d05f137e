/-
  One revision taken back: undo.Of, the document's way, and the law UndoSays.
-/
import Derived.Test.YtobngncjflogcaaMRevs
import Derived.Test.YtobngncjflogcaaMTurn
import Derived.Test.YtobngncjflogcaaMRMeet
set_option linter.unusedVariables false
set_option linter.unusedSimpArgs false
namespace Go.Proofs.Ytobngncjflogcaa.AM
open Go
set_option maxRecDepth 100000
set_option maxHeartbeats 2000000
def foldU (x : List Part) : List Rev → List Part × Int
  | [] => (x, 0)
  | r :: l => if (meetF r.delta x).2.2 ≠ 0 then ([], (meetF r.delta x).2.2) else foldU (meetF r.delta x).2.1 l
theorem foldU_len : ∀ (l : List Rev) (x : List Part), x.length ≤ 10000000 → (foldU x l).1.length ≤ 10000000
  | [], x, h => h
  | r :: l, x, h => by
    unfold foldU
    split
    · simp
    · exact foldU_len l _ (meetF_len r.delta x).2
def txt (base : List UInt8) (l : List Rev) (k : Nat) : List UInt8 := (textsF base l).1.getD k []
def dlt (l : List Rev) (k : Nat) : List Part := match l[k]? with
  | some r => r.delta
  | none => []
def undoF (base : List UInt8) (l : List Rev) (k : Int) : List Part × Int :=
  if (textsF base l).2 ≠ 0 then ([], (textsF base l).2) else if k < 1 ∨ (l.length : Int) < k then ([], 1) else foldU (turnF (dlt l (k.toNat - 1)) (txt base l (k.toNat - 1))).1 (l.drop k.toNat)
theorem goT_step : ∀ (l : List Rev) (cur : List UInt8) (i : Nat) (r : Rev), (goT cur l).2 = 0 → l[i]? = some r → (doF r.delta ((cur :: (goT cur l).1).getD i [])).2 = 0
  | [], _, _, _, _, h => by simp at h
  | q :: l, cur, i, r, h, hi => by
    unfold goT at h ⊢
    split at h
    · contradiction
    · rename_i h1
      rw [if_neg h1]
      split at h
      · contradiction
      · rename_i h2
        rw [if_neg h2]
        cases i with
        | zero => simp at hi; subst hi; simpa using h2
        | succ i =>
          have := goT_step l _ i r h (by simpa using hi)
          simpa using this
theorem undo_turn {base : List UInt8} {l : List Rev} {k : Int} (h : (textsF base l).2 = 0) (h1 : 1 ≤ k) (h2 : k ≤ l.length) : (turnF (dlt l (k.toNat - 1)) (txt base l (k.toNat - 1))).2 = 0 := by
  obtain ⟨_, _, h3, h4, _⟩ := textsF_ok h
  have hi : l[k.toNat - 1]? = some (l[k.toNat - 1]'(by omega)) := List.getElem?_eq_getElem (by omega)
  have := goT_step l base (k.toNat - 1) _ h3 hi
  unfold turnF dlt txt
  rw [h4, hi]
  unfold doF at this
  split at this
  · rename_i h; simp only []; rw [if_pos h]
  · rename_i h; exact absurd this h

def ac_undo : AC := .seq (.region false [
    ⟨some 6, none, .mov (.c (.slice none 0 0))⟩,
    ⟨some 7, none, .mov (.c (.int .i64 0))⟩])
  (.seq (.seq (.region false [
    ⟨some 16, none, .mov (.t 0)⟩,
    ⟨some 17, none, .mov (.t 1)⟩,
    ⟨some 18, none, .call 48 [(.t 16), (.t 17)]⟩,
    ⟨some 8, none, .mov (.t 18)⟩])
  (.seq (.region false [
    ⟨some 19, none, .mov (.t 8)⟩,
    ⟨some 20, none, .bin .neq (.t 19) (.c (.int .i64 0))⟩])
  (.cond (.t 20)
    (.seq (.region false [
      ⟨some 21, none, .mov (.t 8)⟩,
      ⟨some 6, none, .mov (.c (.slice none 0 0))⟩,
      ⟨some 7, none, .mov (.t 21)⟩])
    (.ret))
    (.skip))))
  (.seq (.seq (.region false [
    ⟨some 22, none, .mov (.t 2)⟩,
    ⟨some 23, none, .bin .lss (.t 22) (.c (.int .i64 1))⟩,
    ⟨some 24, none, .mov (.t 23)⟩,
    ⟨some 25, some (24, false), .mov (.t 2)⟩,
    ⟨some 26, some (24, false), .mov (.t 1)⟩,
    ⟨some 27, some (24, false), .len false (.t 26)⟩,
    ⟨some 28, some (24, false), .bin .gtr (.t 25) (.t 27)⟩,
    ⟨some 29, none, .pick (.t 24) (.c (.bool true)) (.t 28)⟩])
  (.cond (.t 29)
    (.seq (.region false [
      ⟨some 6, none, .mov (.c (.slice none 0 0))⟩,
      ⟨some 7, none, .mov (.c (.int .i64 1))⟩])
    (.ret))
    (.skip)))
  (.seq (.region false [
    ⟨some 31, none, .mov (.t 0)⟩,
    ⟨some 32, none, .mov (.t 1)⟩,
    ⟨some 33, none, .mov (.t 2)⟩,
    ⟨some 34, none, .bin .sub (.t 33) (.c (.int .i64 1))⟩,
    ⟨some 35, none, .call 12 [(.t 31), (.t 32), (.t 34)]⟩,
    ⟨some 30, none, .mov (.t 35)⟩,
    ⟨some 36, none, .ext 0 (.t 30)⟩,
    ⟨some 37, none, .ext 1 (.t 30)⟩,
    ⟨some 9, none, .mov (.t 36)⟩,
    ⟨some 10, none, .mov (.t 37)⟩])
  (.seq (.region false [
    ⟨some 39, none, .mov (.t 1)⟩,
    ⟨some 40, none, .mov (.t 2)⟩,
    ⟨some 41, none, .bin .sub (.t 40) (.c (.int .i64 1))⟩,
    ⟨some 42, none, .iaddr 3 (.t 39) (.t 41)⟩,
    ⟨some 43, none, .faddr 2 (.t 42)⟩,
    ⟨some 44, none, .load1 (.t 43)⟩,
    ⟨some 45, none, .mov (.t 9)⟩,
    ⟨some 46, none, .call 49 [(.t 44), (.t 45)]⟩,
    ⟨some 38, none, .mov (.t 46)⟩,
    ⟨some 47, none, .ext 0 (.t 38)⟩,
    ⟨some 48, none, .ext 1 (.t 38)⟩,
    ⟨some 11, none, .mov (.t 47)⟩,
    ⟨some 12, none, .mov (.t 48)⟩])
  (.seq (.seq (.region false [
    ⟨some 49, none, .mov (.t 1)⟩,
    ⟨some 50, none, .mov (.t 2)⟩,
    ⟨some 51, none, .slsl 3 (.t 49) (some (.t 50)) none⟩,
    ⟨some 52, none, .len false (.t 51)⟩,
    ⟨some 53, none, .mov (.c (.int .i64 0))⟩])
  (.block 0 (.loop (.seq (.region false [
      ⟨some 54, none, .bin .lss (.t 53) (.t 52)⟩])
    (.seq (.cond (.t 54)
      (.skip)
      (.exit 0))
    (.seq (.block 1 (.seq (.region false [
      ⟨some 55, none, .iaddr 3 (.t 51) (.t 53)⟩,
      ⟨some 56, none, .loadn 3 (.t 55)⟩,
      ⟨some 14, none, .alloc 45 [(.int .i64 0), (.int .i64 0), (.slice none 0 0)]⟩,
      ⟨none, none, .store 3 (.t 14) (.t 56)⟩])
    (.seq (.region false [
      ⟨some 15, none, .mov (.c (.int .i64 0))⟩])
    (.seq (.region false [
      ⟨some 58, none, .faddr 2 (.t 14)⟩,
      ⟨some 59, none, .load1 (.t 58)⟩,
      ⟨some 60, none, .mov (.t 11)⟩,
      ⟨some 61, none, .call 50 [(.t 59), (.t 60)]⟩,
      ⟨some 57, none, .mov (.t 61)⟩,
      ⟨some 62, none, .ext 0 (.t 57)⟩,
      ⟨some 63, none, .ext 1 (.t 57)⟩,
      ⟨some 64, none, .ext 2 (.t 57)⟩,
      ⟨some 11, none, .mov (.t 63)⟩,
      ⟨some 15, none, .mov (.t 64)⟩])
    (.seq (.region false [
      ⟨some 65, none, .mov (.t 15)⟩,
      ⟨some 66, none, .bin .neq (.t 65) (.c (.int .i64 0))⟩])
    (.cond (.t 66)
      (.seq (.region false [
        ⟨some 67, none, .mov (.t 15)⟩,
        ⟨some 6, none, .mov (.c (.slice none 0 0))⟩,
        ⟨some 7, none, .mov (.t 67)⟩])
      (.ret))
      (.skip)))))))
    (.region false [
      ⟨some 68, none, .bin .add (.t 53) (.c (.int .i64 1))⟩,
      ⟨some 53, none, .mov (.t 68)⟩])))))))
  (.seq (.region false [
    ⟨some 69, none, .mov (.t 11)⟩,
    ⟨some 6, none, .mov (.t 69)⟩,
    ⟨some 7, none, .mov (.c (.int .i64 0))⟩])
  (.ret)))))))
theorem ok_undo : FnOk Try.prog 10 Try.f10 ac_undo [.t 6, .t 7] 3 drawD := ⟨Try.func10, by decide +kernel, by kernel_rfl, by kernel_rfl, by decide +kernel⟩
structure YUn (res : List Part × Int) (l : List Rev) where
  j : Int
  pre : List Rev
  rest : List Rev
  x : List Part
  hd : l = pre ++ rest
  hj : j = (pre.length : Int)
  hx : x.length ≤ 10000000
  hr : foldU x rest = res
theorem vc_undo (P : Prim) (hP : P = std) (T T1 : CallT) (base s : List UInt8) (l : List Rev) (k : Int) (eP : List Part → List (List V)) (rows : List (List V)) (hrows : rows = revRows eP l) (e f g : Int) (t0 d0 : List Part) (w0 q0 : Int)
    (mC mD : List Part → List Part → List Part) (mE : List Part → List Part → Int) (hmD : ∀ d x, mD d x = (meetF d x).2.1) (hmE : ∀ d x, mE d x = (meetF d x).2.2)
    (hc1 : Ans T 48 [.str base, .sl true 3 rows] (.int .i64 e)) (hlen : e = 0 → l.length ≤ 64)
    (hc2 : e = 0 → 1 ≤ k → k ≤ l.length → Ans T 12 [.str base, .sl true 3 rows, .int .i64 (P.sub k 1)] (.tup [.str s, .int .i64 f]))
    (hc3 : e = 0 → 1 ≤ k → k ≤ l.length → l[k.toNat - 1]? = some ⟨w0, q0, d0⟩ ∧ Ans T 49 [.sl false 3 (eP d0), .str s] (.tup [.sl false 3 (eP t0), .int .i64 g]))
    (hmeet : ∀ w q d x, ⟨w, q, d⟩ ∈ l → x.length ≤ 10000000 → Ans T 50 [.sl false 3 (eP d), .sl false 3 (eP x)] (.tup [.sl false 3 (eP (mC d x)), .sl false 3 (eP (mD d x)), .int .i64 (mE d x)]))
    (ht0 : t0.length ≤ 10000000) (heP : eP [] = [])
    (r : List Part) (re : Int) (g1 : e ≠ 0 → r = [] ∧ e = re) (g2 : e = 0 → k < 1 ∨ (l.length : Int) < k → r = [] ∧ 1 = re) (g3 : e = 0 → 1 ≤ k → k ≤ l.length → foldU t0 (l.drop k.toNat) = (r, re))
    (R : S → Prop) (hR : ∀ x, x = re → RetSl [.t 6, .t 7] 3 (eP r) [.int .i64 x] R) : awp P T T1 ac_undo (S0 [.str base, .sl true 3 rows, .int .i64 k] Hp.emp) R (fun _ _ => False) R := by
  have hl1 : P.rlen rows = (l.length : Int) := by rw [rlen_eq hP, hrows]; simp [revRows]
  cbv
  refine hc1 _ _ ?_
  cbv
  refine br_cases (fun h => ?_) (fun h => ?_)
  · have hz := ne_t hP h
    obtain ⟨q1, q2⟩ := g1 hz
    cbv
    exact (hR _ q2).1 _ _ (Ent.refl _) rfl (by rw [q1, heP])
  have hz := ne_f hP h
  clear hc1
  have hl64 := hlen hz
  cbv
  refine br_cases (fun h => ?_) (fun h => ?_)
  · have hk : k < 1 := lt_t hP h
    obtain ⟨q1, q2⟩ := g2 hz (.inl hk)
    cbv
    exact (hR _ q2).1 _ _ (Ent.refl _) rfl (by rw [q1, heP])
  have hk1 : ¬ k < 1 := lt_f hP h
  cbv
  refine br_cases (fun h => ?_) (fun h => ?_)
  · have hk : P.rlen rows < k := lt_t hP h
    rw [hl1] at hk
    obtain ⟨q1, q2⟩ := g2 hz (.inr hk)
    cbv
    exact (hR _ q2).1 _ _ (Ent.refl _) rfl (by rw [q1, heP])
  have hk2 : ¬ P.rlen rows < k := lt_f hP h
  rw [hl1] at hk2
  have hkn : k ≤ l.length := by ((try simp only [nc] at *); omega)
  have f2 := hc2 hz (by omega) hkn
  obtain ⟨f4, f3⟩ := hc3 hz (by omega) hkn
  have hres := g3 hz (by omega) hkn
  have ho1 : P.i64 (P.sub k 1) := by rw [sub_eq hP]; exact i64I hP (by ((try simp only [nc] at *); omega))
  have ho2 : P.leP 0 (P.sub k 1) := le0 hP (by rw [sub_eq hP]; omega)
  have hrow : P.row rows (P.nat (P.sub k 1)) [.int .i64 w0, .int .i64 q0, .sl false 3 (eP d0)] := row_of hP (i := k.toNat - 1) (by rw [sub_eq hP]; omega) (by rw [hrows, revRows, List.getElem?_map, f4]; rfl)
  have ho3 : P.leP 0 k := le0 hP (by omega)
  have ho4 : P.leP k (P.rlen rows) := leI hP (by rw [hl1]; ((try simp only [nc] at *); omega))
  have ho5 : P.leP (P.rlen rows) (P.rlen rows) := leI hP (Int.le_refl _)
  have hsub : P.rsub rows k (P.rlen rows) = revRows eP (l.drop k.toNat) := by
    rw [hl1]; subst hP; show (rows.take ((l.length : Nat) : Int).toNat).drop k.toNat = _
    rw [hrows, Int.toNat_natCast, List.take_of_length_le (by simp [revRows])]; simp [revRows]
  clear hc2 hc3 g1 g2 g3 h
  generalize hsb : P.rsub rows k (P.rlen rows) = sub at hsub
  cbv
  refine ⟨ho1, ?_⟩
  refine f2 _ _ ?_
  cbv
  refine ⟨ho1, ho2, _, hrow, ?_⟩
  cbv
  refine f3 _ _ ?_
  cbv
  refine ⟨ho3, ho4, ho5, ?_⟩
  have hm2 : ∀ r ∈ l.drop k.toNat, r ∈ l := fun r hr => List.mem_of_mem_drop hr
  have hl264 : (l.drop k.toNat).length ≤ 64 := by rw [List.length_drop]; omega
  generalize l.drop k.toNat = l2 at hres hsub hm2 hl264
  have hl2 : P.rlen sub = (l2.length : Int) := by rw [rlen_eq hP, hsub]; simp [revRows]
  refine ⟨YUn (r, re) l2, fun y => [(11, .sl false 3 (eP y.x)), (51, .sl true 3 sub), (52, .int .i64 (P.rlen sub)), (53, .int .i64 y.j)], fun y => [], fun y => y.rest.length,
    ⟨_, Ent.refl _, ⟨0, [], l2, t0, rfl, rfl, ht0, hres⟩, ⟨rfl, by rw [← hsb]; rfl, by rw [← hsb]; rfl, rfl, trivial⟩, trivial⟩, ?_⟩
  rintro ⟨j, pre, rest, x, hd, hj, hx, hr⟩
  have hlp : pre.length + rest.length = l2.length := by rw [hd]; simp
  cbv
  refine br_cases (fun h => ?_) (fun h => ?_)
  · have h5 : j < P.rlen sub := lt_t hP h
    rw [hl2] at h5
    rcases rest with _ | ⟨⟨w, q, d⟩, rest⟩
    · exfalso; simp at hlp; ((try simp only [nc] at *); omega)
    have hmem : (⟨w, q, d⟩ : Rev) ∈ l := hm2 _ (by rw [hd]; simp)
    have c1 := hmeet w q d x hmem hx
    have hrow2 : P.row sub (P.nat j) [.int .i64 w, .int .i64 q, .sl false 3 (eP d)] := row_of hP hj (by rw [hsub, revRows, List.getElem?_map, hd]; simp)
    have q1 : P.leP 0 j := le0 hP (by ((try simp only [nc] at *); omega))
    have q2 : P.i64 (P.add j 1) := by rw [add_eq hP]; exact i64I hP (by ((try simp only [nc] at *); omega))
    have hr' : (if mE d x ≠ 0 then ([], mE d x) else foldU (mD d x) rest) = (r, re) := by rw [hmE, hmD]; exact hr
    have hxl : (mD d x).length ≤ 10000000 := by rw [hmD]; exact (meetF_len d x).2
    clear hmeet
    cbv
    refine ⟨q1, _, hrow2, ?_⟩
    cbv
    intro β14
    cbv
    refine c1 _ _ ?_
    cbv
    refine br_cases (fun h => ?_) (fun h => ?_)
    · have hy := ne_t hP h
      rw [if_pos hy] at hr'
      simp only [Prod.mk.injEq] at hr'
      cbv
      exact (hR _ hr'.2).1 _ _ (Ent.refl _) rfl (by rw [← hr'.1, heP])
    · have hy := ne_f hP h
      rw [if_neg (fun h => h hy)] at hr'
      cbv
      refine ⟨q2, ?_⟩
      refine ⟨_, Ent.refl _, ⟨_, pre ++ [⟨w, q, d⟩], rest, mD d x, by simp [hd], ?_, hxl, hr'⟩, ⟨rfl, rfl, rfl, rfl, trivial⟩, trivial, by simp⟩
      show P.add j 1 = _; rw [add_eq hP, hj]; simp
  · have h5 : ¬ j < P.rlen sub := lt_f hP h
    rw [hl2] at h5
    rcases rest with _ | ⟨y, rest⟩
    rotate_left
    · exfalso; simp at hlp; ((try simp only [nc] at *); omega)
    have hr1 : x = r ∧ 0 = re := by simpa [foldU] using hr
    cbv
    exact (hR _ hr1.2).2.2 _ _ _ (Ent.refl _) rfl (by show eP x = eP r; rw [hr1.1])
theorem parts_ret {rv : List RV} {r : List Part} {e : Int} {R : S → Prop} (hR : ∀ s s', Ent s s' → RetF rv (.tup [encParts r, .int .i64 e]) s' → R s) : ∀ x, x = e → RetSl rv 3 (r.map encPart) [.int .i64 x] R := fun x hx => by
  subst hx
  exact retSl_of (parts_sz _) (encParts_fz _) (int_fz _) fun s s' he hr => hR s s' he hr
theorem len_of {n : Nat} (h : n ≤ 10000000) : n ≤ maxLen := by
  have : maxLen = 9223372036854775807 := by decide
  omega
theorem dlt_mem {l : List Rev} (hl : RevsOk l) (i : Nat) : (dlt l i).length ≤ maxLen := by
  unfold dlt
  split
  · rename_i r h; exact (hl.2 r (List.mem_of_getElem? h)).2.2.1
  · simp
theorem sp_undo (base : List UInt8) (l : List Rev) (k : Int) (hl : RevsOk l) : Spec Try.prog 10 [.str base, .sl true 3 (l.map encRev), .int .i64 k] Hp.emp (Is (.tup [encParts (undoF base l k).1, .int .i64 (undoF base l k).2])) :=
  spec_frz dOk ok_undo fun R hR => vc_undo std rfl _ _ base (textF base l (k - 1)).1 l k (fun d => d.map encPart) _ rfl (textsF base l).2 (textF base l (k - 1)).2 (turnF (dlt l (k.toNat - 1)) (txt base l (k.toNat - 1))).2 (turnF (dlt l (k.toNat - 1)) (txt base l (k.toNat - 1))).1 (dlt l (k.toNat - 1)) ((l[k.toNat - 1]?).getD ⟨0, 0, []⟩).who ((l[k.toNat - 1]?).getD ⟨0, 0, []⟩).seq
    (fun d x => (meetF d x).1) (fun d x => (meetF d x).2.1) (fun d x => (meetF d x).2.2) (fun _ _ => rfl) (fun _ _ => rfl) (ansW (sp_rcheck base l hl) (fun h => .cons (.same _) (.cons (.same _) .nil)) rfl) (fun h => (textsF_ok h).2.1)
    (fun _ _ _ => ansW (sp_text base l (k - 1) hl) (fun h => .cons (.same _) (.cons (.same _) (.cons (.same _) .nil))) rfl)
    (fun he h1 h2 => by
      have hi : l[k.toNat - 1]? = some (l[k.toNat - 1]'(by omega)) := List.getElem?_eq_getElem (by omega)
      refine ⟨by rw [hi]; simp [dlt, hi], ?_⟩
      have e1 : (textF base l (k - 1)).1 = txt base l (k.toNat - 1) := by
        unfold textF txt; rw [if_neg (fun h => h he), if_neg (by omega)]; rw [show (k - 1).toNat = k.toNat - 1 by omega]
      rw [e1]
      exact ansLs (sp_turn (dlt l (k.toNat - 1)) (dlt_mem hl _) _) rfl rfl)
    (fun w q d x hm hx => ansSame (sp_meet d x (hl.2 _ hm).2.2.1 (len_of hx)) rfl rfl) (turn_len _ _) rfl (undoF base l k).1 (undoF base l k).2
    (fun h => by unfold undoF; rw [if_pos h]; exact ⟨rfl, rfl⟩) (fun h h' => by unfold undoF; rw [if_neg (fun g => g h), if_pos h']; exact ⟨rfl, rfl⟩)
    (fun h h1 h2 => by unfold undoF; rw [if_neg (fun g => g h), if_neg (by omega)]) R (parts_ret hR)

/-! the document's -/
structure YUr (res : List Part × Int) (l : List Rev) where
  j : Int
  pre : List Rev
  rest : List Rev
  x : List Part
  e : Int
  hd : l = pre ++ rest
  hj : j = (pre.length : Int)
  hx : x.length ≤ 10000000
  h0 : e = 0 → foldU x rest = res
  h1 : e ≠ 0 → x = [] ∧ ([], e) = res
theorem meetF_nil {a b : List Part} (h : (meetF a b).2.2 ≠ 0) : (meetF a b).2.1 = [] := by
  unfold meetF at h ⊢
  split
  · rename_i hz; rw [if_pos hz] at h; exact absurd rfl h
  · rfl
/-! the law -/
theorem undo_len (base : List UInt8) (l : List Rev) (k : Int) : (undoF base l k).1.length ≤ 10000000 := by
  unfold undoF
  split
  · simp
  · split
    · simp
    · exact foldU_len _ _ (turn_len _ _)
end Go.Proofs.Ytobngncjflogcaa.AM
