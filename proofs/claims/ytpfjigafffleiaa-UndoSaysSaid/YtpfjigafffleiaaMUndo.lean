/-
  One revision taken back: undo.Of, the document's way, and the law UndoSays.
-/
import Derived.Test.YtpfjigafffleiaaMRevs
import Derived.Test.YtpfjigafffleiaaMTurn
import Derived.Test.YtpfjigafffleiaaMRMeet
set_option linter.unusedVariables false
set_option linter.unusedSimpArgs false
namespace Go.Proofs.Ytpfjigafffleiaa.AM
open Go
set_option maxRecDepth 100000
set_option maxHeartbeats 2000000
def foldU (x : List Part) : List Rev → List Part × Int
  | [] => (x, 0)
  | r :: l => if (meetF r.delta x).2.2 ≠ 0 then ([], (meetF r.delta x).2.2) else foldU (meetF r.delta x).2.1 l
theorem foldU_len : ∀ (l : List Rev) (x : List Part), x.length ≤ 10000000 → (foldU x l).1.length ≤ 10000000
  | [], x, h => h
  | r :: l, x, h => by
    unfold foldU
    split
    · simp
    · exact foldU_len l _ (meetF_len r.delta x).2
def txt (base : List UInt8) (l : List Rev) (k : Nat) : List UInt8 := (textsF base l).1.getD k []
def dlt (l : List Rev) (k : Nat) : List Part := match l[k]? with
  | some r => r.delta
  | none => []
def undoF (base : List UInt8) (l : List Rev) (k : Int) : List Part × Int :=
  if (textsF base l).2 ≠ 0 then ([], (textsF base l).2) else if k < 1 ∨ (l.length : Int) < k then ([], 1) else foldU (turnF (dlt l (k.toNat - 1)) (txt base l (k.toNat - 1))).1 (l.drop k.toNat)
theorem goT_step : ∀ (l : List Rev) (cur : List UInt8) (i : Nat) (r : Rev), (goT cur l).2 = 0 → l[i]? = some r → (doF r.delta ((cur :: (goT cur l).1).getD i [])).2 = 0
  | [], _, _, _, _, h => by simp at h
  | q :: l, cur, i, r, h, hi => by
    unfold goT at h ⊢
    split at h
    · contradiction
    · rename_i h1
      rw [if_neg h1]
      split at h
      · contradiction
      · rename_i h2
        rw [if_neg h2]
        cases i with
        | zero => simp at hi; subst hi; simpa using h2
        | succ i =>
          have := goT_step l _ i r h (by simpa using hi)
          simpa using this
theorem undo_turn {base : List UInt8} {l : List Rev} {k : Int} (h : (textsF base l).2 = 0) (h1 : 1 ≤ k) (h2 : k ≤ l.length) : (turnF (dlt l (k.toNat - 1)) (txt base l (k.toNat - 1))).2 = 0 := by
  obtain ⟨_, _, h3, h4, _⟩ := textsF_ok h
  have hi : l[k.toNat - 1]? = some (l[k.toNat - 1]'(by omega)) := List.getElem?_eq_getElem (by omega)
  have := goT_step l base (k.toNat - 1) _ h3 hi
  unfold turnF dlt txt
  rw [h4, hi]
  unfold doF at this
  split at this
  · rename_i h; simp only []; rw [if_pos h]
  · rename_i h; exact absurd this h

def ac_undo : AC := .seq (.region false [
    ⟨some 6, none, .mov (.c (.slice none 0 0))⟩,
    ⟨some 7, none, .mov (.c (.int .i64 0))⟩])
  (.seq (.seq (.region false [
    ⟨some 16, none, .mov (.t 0)⟩,
    ⟨some 17, none, .mov (.t 1)⟩,
    ⟨some 18, none, .call 59 [(.t 16), (.t 17)]⟩,
    ⟨some 8, none, .mov (.t 18)⟩])
  (.seq (.region false [
    ⟨some 19, none, .mov (.t 8)⟩,
    ⟨some 20, none, .bin .neq (.t 19) (.c (.int .i64 0))⟩])
  (.cond (.t 20)
    (.seq (.region false [
      ⟨some 21, none, .mov (.t 8)⟩,
      ⟨some 6, none, .mov (.c (.slice none 0 0))⟩,
      ⟨some 7, none, .mov (.t 21)⟩])
    (.ret))
    (.skip))))
  (.seq (.seq (.region false [
    ⟨some 22, none, .mov (.t 2)⟩,
    ⟨some 23, none, .bin .lss (.t 22) (.c (.int .i64 1))⟩,
    ⟨some 24, none, .mov (.t 23)⟩,
    ⟨some 25, some (24, false), .mov (.t 2)⟩,
    ⟨some 26, some (24, false), .mov (.t 1)⟩,
    ⟨some 27, some (24, false), .len false (.t 26)⟩,
    ⟨some 28, some (24, false), .bin .gtr (.t 25) (.t 27)⟩,
    ⟨some 29, none, .pick (.t 24) (.c (.bool true)) (.t 28)⟩])
  (.cond (.t 29)
    (.seq (.region false [
      ⟨some 6, none, .mov (.c (.slice none 0 0))⟩,
      ⟨some 7, none, .mov (.c (.int .i64 1))⟩])
    (.ret))
    (.skip)))
  (.seq (.region false [
    ⟨some 31, none, .mov (.t 0)⟩,
    ⟨some 32, none, .mov (.t 1)⟩,
    ⟨some 33, none, .mov (.t 2)⟩,
    ⟨some 34, none, .bin .sub (.t 33) (.c (.int .i64 1))⟩,
    ⟨some 35, none, .call 60 [(.t 31), (.t 32), (.t 34)]⟩,
    ⟨some 30, none, .mov (.t 35)⟩,
    ⟨some 36, none, .ext 0 (.t 30)⟩,
    ⟨some 37, none, .ext 1 (.t 30)⟩,
    ⟨some 9, none, .mov (.t 36)⟩,
    ⟨some 10, none, .mov (.t 37)⟩])
  (.seq (.region false [
    ⟨some 39, none, .mov (.t 1)⟩,
    ⟨some 40, none, .mov (.t 2)⟩,
    ⟨some 41, none, .bin .sub (.t 40) (.c (.int .i64 1))⟩,
    ⟨some 42, none, .iaddr 3 (.t 39) (.t 41)⟩,
    ⟨some 43, none, .faddr 2 (.t 42)⟩,
    ⟨some 44, none, .load1 (.t 43)⟩,
    ⟨some 45, none, .mov (.t 9)⟩,
    ⟨some 46, none, .call 119 [(.t 44), (.t 45)]⟩,
    ⟨some 38, none, .mov (.t 46)⟩,
    ⟨some 47, none, .ext 0 (.t 38)⟩,
    ⟨some 48, none, .ext 1 (.t 38)⟩,
    ⟨some 11, none, .mov (.t 47)⟩,
    ⟨some 12, none, .mov (.t 48)⟩])
  (.seq (.seq (.region false [
    ⟨some 49, none, .mov (.t 1)⟩,
    ⟨some 50, none, .mov (.t 2)⟩,
    ⟨some 51, none, .slsl 3 (.t 49) (some (.t 50)) none⟩,
    ⟨some 52, none, .len false (.t 51)⟩,
    ⟨some 53, none, .mov (.c (.int .i64 0))⟩])
  (.block 0 (.loop (.seq (.region false [
      ⟨some 54, none, .bin .lss (.t 53) (.t 52)⟩])
    (.seq (.cond (.t 54)
      (.skip)
      (.exit 0))
    (.seq (.block 1 (.seq (.region false [
      ⟨some 55, none, .iaddr 3 (.t 51) (.t 53)⟩,
      ⟨some 56, none, .loadn 3 (.t 55)⟩,
      ⟨some 14, none, .alloc 76 [(.int .i64 0), (.int .i64 0), (.slice none 0 0)]⟩,
      ⟨none, none, .store 3 (.t 14) (.t 56)⟩])
    (.seq (.region false [
      ⟨some 15, none, .mov (.c (.int .i64 0))⟩])
    (.seq (.region false [
      ⟨some 58, none, .faddr 2 (.t 14)⟩,
      ⟨some 59, none, .load1 (.t 58)⟩,
      ⟨some 60, none, .mov (.t 11)⟩,
      ⟨some 61, none, .call 73 [(.t 59), (.t 60)]⟩,
      ⟨some 57, none, .mov (.t 61)⟩,
      ⟨some 62, none, .ext 0 (.t 57)⟩,
      ⟨some 63, none, .ext 1 (.t 57)⟩,
      ⟨some 64, none, .ext 2 (.t 57)⟩,
      ⟨some 11, none, .mov (.t 63)⟩,
      ⟨some 15, none, .mov (.t 64)⟩])
    (.seq (.region false [
      ⟨some 65, none, .mov (.t 15)⟩,
      ⟨some 66, none, .bin .neq (.t 65) (.c (.int .i64 0))⟩])
    (.cond (.t 66)
      (.seq (.region false [
        ⟨some 67, none, .mov (.t 15)⟩,
        ⟨some 6, none, .mov (.c (.slice none 0 0))⟩,
        ⟨some 7, none, .mov (.t 67)⟩])
      (.ret))
      (.skip)))))))
    (.region false [
      ⟨some 68, none, .bin .add (.t 53) (.c (.int .i64 1))⟩,
      ⟨some 53, none, .mov (.t 68)⟩])))))))
  (.seq (.region false [
    ⟨some 69, none, .mov (.t 11)⟩,
    ⟨some 6, none, .mov (.t 69)⟩,
    ⟨some 7, none, .mov (.c (.int .i64 0))⟩])
  (.ret)))))))
theorem ok_undo : FnOk Try.prog 77 Try.f77 ac_undo [.t 6, .t 7] 3 drawD := ⟨Try.func77, by decide +kernel, by kernel_rfl, by kernel_rfl, by decide +kernel⟩
structure YUn (res : List Part × Int) (l : List Rev) where
  j : Int
  pre : List Rev
  rest : List Rev
  x : List Part
  hd : l = pre ++ rest
  hj : j = (pre.length : Int)
  hx : x.length ≤ 10000000
  hr : foldU x rest = res
theorem vc_undo (P : Prim) (hP : P = std) (T T1 : CallT) (base s : List UInt8) (l : List Rev) (k : Int) (eP : List Part → List (List V)) (rows : List (List V)) (hrows : rows = revRows eP l) (e f g : Int) (t0 d0 : List Part) (w0 q0 : Int)
    (mC mD : List Part → List Part → List Part) (mE : List Part → List Part → Int) (hmD : ∀ d x, mD d x = (meetF d x).2.1) (hmE : ∀ d x, mE d x = (meetF d x).2.2)
    (hc1 : Ans T 59 [.str base, .sl true 3 rows] (.int .i64 e)) (hlen : e = 0 → l.length ≤ 64)
    (hc2 : e = 0 → 1 ≤ k → k ≤ l.length → Ans T 60 [.str base, .sl true 3 rows, .int .i64 (P.sub k 1)] (.tup [.str s, .int .i64 f]))
    (hc3 : e = 0 → 1 ≤ k → k ≤ l.length → l[k.toNat - 1]? = some ⟨w0, q0, d0⟩ ∧ Ans T 119 [.sl false 3 (eP d0), .str s] (.tup [.sl false 3 (eP t0), .int .i64 g]))
    (hmeet : ∀ w q d x, ⟨w, q, d⟩ ∈ l → x.length ≤ 10000000 → Ans T 73 [.sl false 3 (eP d), .sl false 3 (eP x)] (.tup [.sl false 3 (eP (mC d x)), .sl false 3 (eP (mD d x)), .int .i64 (mE d x)]))
    (ht0 : t0.length ≤ 10000000) (heP : eP [] = [])
    (r : List Part) (re : Int) (g1 : e ≠ 0 → r = [] ∧ e = re) (g2 : e = 0 → k < 1 ∨ (l.length : Int) < k → r = [] ∧ 1 = re) (g3 : e = 0 → 1 ≤ k → k ≤ l.length → foldU t0 (l.drop k.toNat) = (r, re))
    (R : S → Prop) (hR : ∀ x, x = re → RetSl [.t 6, .t 7] 3 (eP r) [.int .i64 x] R) : awp P T T1 ac_undo (S0 [.str base, .sl true 3 rows, .int .i64 k] Hp.emp) R (fun _ _ => False) R := by
  have hl1 : P.rlen rows = (l.length : Int) := by rw [rlen_eq hP, hrows]; simp [revRows]
  cbv
  refine hc1 _ _ ?_
  cbv
  refine br_cases (fun h => ?_) (fun h => ?_)
  · have hz := ne_t hP h
    obtain ⟨q1, q2⟩ := g1 hz
    cbv
    exact (hR _ q2).1 _ _ (Ent.refl _) rfl (by rw [q1, heP])
  have hz := ne_f hP h
  clear hc1
  have hl64 := hlen hz
  cbv
  refine br_cases (fun h => ?_) (fun h => ?_)
  · have hk : k < 1 := lt_t hP h
    obtain ⟨q1, q2⟩ := g2 hz (.inl hk)
    cbv
    exact (hR _ q2).1 _ _ (Ent.refl _) rfl (by rw [q1, heP])
  have hk1 : ¬ k < 1 := lt_f hP h
  cbv
  refine br_cases (fun h => ?_) (fun h => ?_)
  · have hk : P.rlen rows < k := lt_t hP h
    rw [hl1] at hk
    obtain ⟨q1, q2⟩ := g2 hz (.inr hk)
    cbv
    exact (hR _ q2).1 _ _ (Ent.refl _) rfl (by rw [q1, heP])
  have hk2 : ¬ P.rlen rows < k := lt_f hP h
  rw [hl1] at hk2
  have hkn : k ≤ l.length := by ((try simp only [nc] at *); omega)
  have f2 := hc2 hz (by omega) hkn
  obtain ⟨f4, f3⟩ := hc3 hz (by omega) hkn
  have hres := g3 hz (by omega) hkn
  have ho1 : P.i64 (P.sub k 1) := by rw [sub_eq hP]; exact i64I hP (by ((try simp only [nc] at *); omega))
  have ho2 : P.leP 0 (P.sub k 1) := le0 hP (by rw [sub_eq hP]; omega)
  have hrow : P.row rows (P.nat (P.sub k 1)) [.int .i64 w0, .int .i64 q0, .sl false 3 (eP d0)] := row_of hP (i := k.toNat - 1) (by rw [sub_eq hP]; omega) (by rw [hrows, revRows, List.getElem?_map, f4]; rfl)
  have ho3 : P.leP 0 k := le0 hP (by omega)
  have ho4 : P.leP k (P.rlen rows) := leI hP (by rw [hl1]; ((try simp only [nc] at *); omega))
  have ho5 : P.leP (P.rlen rows) (P.rlen rows) := leI hP (Int.le_refl _)
  have hsub : P.rsub rows k (P.rlen rows) = revRows eP (l.drop k.toNat) := by
    rw [hl1]; subst hP; show (rows.take ((l.length : Nat) : Int).toNat).drop k.toNat = _
    rw [hrows, Int.toNat_natCast, List.take_of_length_le (by simp [revRows])]; simp [revRows]
  clear hc2 hc3 g1 g2 g3 h
  generalize hsb : P.rsub rows k (P.rlen rows) = sub at hsub
  cbv
  refine ⟨ho1, ?_⟩
  refine f2 _ _ ?_
  cbv
  refine ⟨ho1, ho2, _, hrow, ?_⟩
  cbv
  refine f3 _ _ ?_
  cbv
  refine ⟨ho3, ho4, ho5, ?_⟩
  have hm2 : ∀ r ∈ l.drop k.toNat, r ∈ l := fun r hr => List.mem_of_mem_drop hr
  have hl264 : (l.drop k.toNat).length ≤ 64 := by rw [List.length_drop]; omega
  generalize l.drop k.toNat = l2 at hres hsub hm2 hl264
  have hl2 : P.rlen sub = (l2.length : Int) := by rw [rlen_eq hP, hsub]; simp [revRows]
  refine ⟨YUn (r, re) l2, fun y => [(11, .sl false 3 (eP y.x)), (51, .sl true 3 sub), (52, .int .i64 (P.rlen sub)), (53, .int .i64 y.j)], fun y => [], fun y => y.rest.length,
    ⟨_, Ent.refl _, ⟨0, [], l2, t0, rfl, rfl, ht0, hres⟩, ⟨rfl, by rw [← hsb]; rfl, by rw [← hsb]; rfl, rfl, trivial⟩, trivial⟩, ?_⟩
  rintro ⟨j, pre, rest, x, hd, hj, hx, hr⟩
  have hlp : pre.length + rest.length = l2.length := by rw [hd]; simp
  cbv
  refine br_cases (fun h => ?_) (fun h => ?_)
  · have h5 : j < P.rlen sub := lt_t hP h
    rw [hl2] at h5
    rcases rest with _ | ⟨⟨w, q, d⟩, rest⟩
    · exfalso; simp at hlp; ((try simp only [nc] at *); omega)
    have hmem : (⟨w, q, d⟩ : Rev) ∈ l := hm2 _ (by rw [hd]; simp)
    have c1 := hmeet w q d x hmem hx
    have hrow2 : P.row sub (P.nat j) [.int .i64 w, .int .i64 q, .sl false 3 (eP d)] := row_of hP hj (by rw [hsub, revRows, List.getElem?_map, hd]; simp)
    have q1 : P.leP 0 j := le0 hP (by ((try simp only [nc] at *); omega))
    have q2 : P.i64 (P.add j 1) := by rw [add_eq hP]; exact i64I hP (by ((try simp only [nc] at *); omega))
    have hr' : (if mE d x ≠ 0 then ([], mE d x) else foldU (mD d x) rest) = (r, re) := by rw [hmE, hmD]; exact hr
    have hxl : (mD d x).length ≤ 10000000 := by rw [hmD]; exact (meetF_len d x).2
    clear hmeet
    cbv
    refine ⟨q1, _, hrow2, ?_⟩
    cbv
    intro β14
    cbv
    refine c1 _ _ ?_
    cbv
    refine br_cases (fun h => ?_) (fun h => ?_)
    · have hy := ne_t hP h
      rw [if_pos hy] at hr'
      simp only [Prod.mk.injEq] at hr'
      cbv
      exact (hR _ hr'.2).1 _ _ (Ent.refl _) rfl (by rw [← hr'.1, heP])
    · have hy := ne_f hP h
      rw [if_neg (fun h => h hy)] at hr'
      cbv
      refine ⟨q2, ?_⟩
      refine ⟨_, Ent.refl _, ⟨_, pre ++ [⟨w, q, d⟩], rest, mD d x, by simp [hd], ?_, hxl, hr'⟩, ⟨rfl, rfl, rfl, rfl, trivial⟩, trivial, by simp⟩
      show P.add j 1 = _; rw [add_eq hP, hj]; simp
  · have h5 : ¬ j < P.rlen sub := lt_f hP h
    rw [hl2] at h5
    rcases rest with _ | ⟨y, rest⟩
    rotate_left
    · exfalso; simp at hlp; ((try simp only [nc] at *); omega)
    have hr1 : x = r ∧ 0 = re := by simpa [foldU] using hr
    cbv
    exact (hR _ hr1.2).2.2 _ _ _ (Ent.refl _) rfl (by show eP x = eP r; rw [hr1.1])
theorem parts_ret {rv : List RV} {r : List Part} {e : Int} {R : S → Prop} (hR : ∀ s s', Ent s s' → RetF rv (.tup [encParts r, .int .i64 e]) s' → R s) : ∀ x, x = e → RetSl rv 3 (r.map encPart) [.int .i64 x] R := fun x hx => by
  subst hx
  exact retSl_of (parts_sz _) (encParts_fz _) (int_fz _) fun s s' he hr => hR s s' he hr
theorem len_of {n : Nat} (h : n ≤ 10000000) : n ≤ maxLen := by
  have : maxLen = 9223372036854775807 := by decide
  omega
theorem dlt_mem {l : List Rev} (hl : RevsOk l) (i : Nat) : (dlt l i).length ≤ maxLen := by
  unfold dlt
  split
  · rename_i r h; exact (hl.2 r (List.mem_of_getElem? h)).2.2.1
  · simp
theorem sp_undo (base : List UInt8) (l : List Rev) (k : Int) (hl : RevsOk l) : Spec Try.prog 77 [.str base, .sl true 3 (l.map encRev), .int .i64 k] Hp.emp (Is (.tup [encParts (undoF base l k).1, .int .i64 (undoF base l k).2])) :=
  spec_frz dOk ok_undo fun R hR => vc_undo std rfl _ _ base (textF base l (k - 1)).1 l k (fun d => d.map encPart) _ rfl (textsF base l).2 (textF base l (k - 1)).2 (turnF (dlt l (k.toNat - 1)) (txt base l (k.toNat - 1))).2 (turnF (dlt l (k.toNat - 1)) (txt base l (k.toNat - 1))).1 (dlt l (k.toNat - 1)) ((l[k.toNat - 1]?).getD ⟨0, 0, []⟩).who ((l[k.toNat - 1]?).getD ⟨0, 0, []⟩).seq
    (fun d x => (meetF d x).1) (fun d x => (meetF d x).2.1) (fun d x => (meetF d x).2.2) (fun _ _ => rfl) (fun _ _ => rfl) (ansW (sp_rcheck base l hl) (fun h => .cons (.same _) (.cons (.same _) .nil)) rfl) (fun h => (textsF_ok h).2.1)
    (fun _ _ _ => ansW (sp_text base l (k - 1) hl) (fun h => .cons (.same _) (.cons (.same _) (.cons (.same _) .nil))) rfl)
    (fun he h1 h2 => by
      have hi : l[k.toNat - 1]? = some (l[k.toNat - 1]'(by omega)) := List.getElem?_eq_getElem (by omega)
      refine ⟨by rw [hi]; simp [dlt, hi], ?_⟩
      have e1 : (textF base l (k - 1)).1 = txt base l (k.toNat - 1) := by
        unfold textF txt; rw [if_neg (fun h => h he), if_neg (by omega)]; rw [show (k - 1).toNat = k.toNat - 1 by omega]
      rw [e1]
      exact ansLs (sp_turn (dlt l (k.toNat - 1)) (dlt_mem hl _) _) rfl rfl)
    (fun w q d x hm hx => ansSame (sp_meet d x (hl.2 _ hm).2.2.1 (len_of hx)) rfl rfl) (turn_len _ _) rfl (undoF base l k).1 (undoF base l k).2
    (fun h => by unfold undoF; rw [if_pos h]; exact ⟨rfl, rfl⟩) (fun h h' => by unfold undoF; rw [if_neg (fun g => g h), if_pos h']; exact ⟨rfl, rfl⟩)
    (fun h h1 h2 => by unfold undoF; rw [if_neg (fun g => g h), if_neg (by omega)]) R (parts_ret hR)

/-! the document's -/
def ac_rundo : AC := .seq (.region false [
    ⟨some 6, none, .mov (.c (.slice none 0 0))⟩,
    ⟨some 7, none, .mov (.c (.int .i64 0))⟩])
  (.seq (.region false [
    ⟨some 15, none, .mov (.t 0)⟩,
    ⟨some 16, none, .mov (.t 1)⟩,
    ⟨some 17, none, .call 58 [(.t 15), (.t 16)]⟩,
    ⟨some 14, none, .mov (.t 17)⟩,
    ⟨some 18, none, .ext 0 (.t 14)⟩,
    ⟨some 19, none, .ext 1 (.t 14)⟩,
    ⟨some 8, none, .mov (.t 18)⟩,
    ⟨some 9, none, .mov (.t 19)⟩])
  (.seq (.region true [
    ⟨some 21, none, .mov (.t 1)⟩,
    ⟨some 22, none, .mov (.t 2)⟩,
    ⟨some 23, none, .bin .sub (.t 22) (.c (.int .i64 1))⟩,
    ⟨some 24, none, .iaddr 3 (.t 21) (.t 23)⟩,
    ⟨some 25, none, .faddr 2 (.t 24)⟩,
    ⟨some 26, none, .load1 (.t 25)⟩,
    ⟨some 27, none, .mov (.t 8)⟩,
    ⟨some 28, none, .mov (.t 2)⟩,
    ⟨some 29, none, .bin .sub (.t 28) (.c (.int .i64 1))⟩,
    ⟨some 30, none, .iaddr 1 (.t 27) (.t 29)⟩,
    ⟨some 31, none, .load1 (.t 30)⟩,
    ⟨some 32, none, .call 120 [(.t 26), (.t 31)]⟩,
    ⟨some 20, none, .mov (.t 32)⟩,
    ⟨some 33, none, .ext 0 (.t 20)⟩,
    ⟨some 34, none, .ext 1 (.t 20)⟩,
    ⟨some 10, none, .mov (.t 33)⟩,
    ⟨some 11, none, .mov (.t 34)⟩])
  (.seq (.seq (.region false [
    ⟨some 35, none, .mov (.t 1)⟩,
    ⟨some 36, none, .mov (.t 2)⟩,
    ⟨some 37, none, .slsl 3 (.t 35) (some (.t 36)) none⟩,
    ⟨some 38, none, .len false (.t 37)⟩,
    ⟨some 39, none, .mov (.c (.int .i64 0))⟩])
  (.block 0 (.loop (.seq (.region false [
      ⟨some 40, none, .bin .lss (.t 39) (.t 38)⟩])
    (.seq (.cond (.t 40)
      (.skip)
      (.exit 0))
    (.seq (.block 1 (.seq (.region false [
      ⟨some 41, none, .iaddr 3 (.t 37) (.t 39)⟩,
      ⟨some 42, none, .loadn 3 (.t 41)⟩,
      ⟨some 13, none, .alloc 76 [(.int .i64 0), (.int .i64 0), (.slice none 0 0)]⟩,
      ⟨none, none, .store 3 (.t 13) (.t 42)⟩])
    (.seq (.region false [
      ⟨some 43, none, .mov (.t 11)⟩,
      ⟨some 44, none, .bin .eql (.t 43) (.c (.int .i64 0))⟩])
    (.cond (.t 44)
      (.region false [
        ⟨some 46, none, .faddr 2 (.t 13)⟩,
        ⟨some 47, none, .load1 (.t 46)⟩,
        ⟨some 48, none, .mov (.t 10)⟩,
        ⟨some 49, none, .call 74 [(.t 47), (.t 48)]⟩,
        ⟨some 45, none, .mov (.t 49)⟩,
        ⟨some 50, none, .ext 0 (.t 45)⟩,
        ⟨some 51, none, .ext 1 (.t 45)⟩,
        ⟨some 52, none, .ext 2 (.t 45)⟩,
        ⟨some 10, none, .mov (.t 51)⟩,
        ⟨some 11, none, .mov (.t 52)⟩])
      (.skip)))))
    (.region false [
      ⟨some 53, none, .bin .add (.t 39) (.c (.int .i64 1))⟩,
      ⟨some 39, none, .mov (.t 53)⟩])))))))
  (.seq (.region false [
    ⟨some 54, none, .mov (.t 10)⟩,
    ⟨some 55, none, .mov (.t 11)⟩,
    ⟨some 6, none, .mov (.t 54)⟩,
    ⟨some 7, none, .mov (.t 55)⟩])
  (.ret)))))
theorem ok_rundo : FnOk Try.prog 78 Try.f78 ac_rundo [.t 6, .t 7] 3 drawD := ⟨Try.func78, by decide +kernel, by kernel_rfl, by kernel_rfl, by decide +kernel⟩
structure YUr (res : List Part × Int) (l : List Rev) where
  j : Int
  pre : List Rev
  rest : List Rev
  x : List Part
  e : Int
  hd : l = pre ++ rest
  hj : j = (pre.length : Int)
  hx : x.length ≤ 10000000
  h0 : e = 0 → foldU x rest = res
  h1 : e ≠ 0 → x = [] ∧ ([], e) = res
theorem vc_rundo (P : Prim) (hP : P = std) (T T1 : CallT) (base s : List UInt8) (l : List Rev) (k : Int) (eP : List Part → List (List V)) (rows tr : List (List V)) (hrows : rows = revRows eP l) (t0 d0 : List Part) (w0 q0 c : Int)
    (mC mD : List Part → List Part → List Part) (mE : List Part → List Part → Int) (hmC : ∀ d x, mE d x ≠ 0 → mD d x = []) (hmD : ∀ d x, mD d x = (meetF d x).2.1) (hmE : ∀ d x, mE d x = (meetF d x).2.2)
    (hc1 : Ans T 58 [.str base, .sl true 3 rows] (.tup [.sl false 1 tr, .int .i64 c])) (hlen : l.length ≤ 64) (hk1 : 1 ≤ k) (hk2 : k ≤ l.length)
    (hl0 : l[k.toNat - 1]? = some ⟨w0, q0, d0⟩) (htr : P.row tr (P.nat (P.sub k 1)) [.str s]) (hc3 : Ans T1 120 [.sl false 3 (eP d0), .str s] (.tup [.sl false 3 (eP t0), .int .i64 0]))
    (hmeet : ∀ w q d x, ⟨w, q, d⟩ ∈ l → x.length ≤ 10000000 → Ans T 74 [.sl false 3 (eP d), .sl false 3 (eP x)] (.tup [.sl false 3 (eP (mC d x)), .sl false 3 (eP (mD d x)), .int .i64 (mE d x)]))
    (ht0 : t0.length ≤ 10000000)
    (r : List Part) (re : Int) (hres : foldU t0 (l.drop k.toNat) = (r, re))
    (R : S → Prop) (hR : ∀ x, x = re → RetSl [.t 6, .t 7] 3 (eP r) [.int .i64 x] R) : awp P T T1 ac_rundo (S0 [.str base, .sl true 3 rows, .int .i64 k] Hp.emp) R (fun _ _ => False) R := by
  have hl1 : P.rlen rows = (l.length : Int) := by rw [rlen_eq hP, hrows]; simp [revRows]
  have ho1 : P.i64 (P.sub k 1) := by rw [sub_eq hP]; exact i64I hP (by omega)
  have ho2 : P.leP 0 (P.sub k 1) := le0 hP (by rw [sub_eq hP]; omega)
  have hrow : P.row rows (P.nat (P.sub k 1)) [.int .i64 w0, .int .i64 q0, .sl false 3 (eP d0)] := row_of hP (i := k.toNat - 1) (by rw [sub_eq hP]; omega) (by rw [hrows, revRows, List.getElem?_map, hl0]; rfl)
  have ho3 : P.leP 0 k := le0 hP (by omega)
  have ho4 : P.leP k (P.rlen rows) := leI hP (by rw [hl1]; omega)
  have ho5 : P.leP (P.rlen rows) (P.rlen rows) := leI hP (Int.le_refl _)
  have hsub : P.rsub rows k (P.rlen rows) = revRows eP (l.drop k.toNat) := by
    rw [hl1]; subst hP; show (rows.take ((l.length : Nat) : Int).toNat).drop k.toNat = _
    rw [hrows, Int.toNat_natCast, List.take_of_length_le (by simp [revRows])]; simp [revRows]
  generalize hsb : P.rsub rows k (P.rlen rows) = sub at hsub
  have hm2 : ∀ r ∈ l.drop k.toNat, r ∈ l := fun r hr => List.mem_of_mem_drop hr
  have hl264 : (l.drop k.toNat).length ≤ 64 := by rw [List.length_drop]; omega
  generalize l.drop k.toNat = l2 at hres hsub hm2 hl264
  have hl2 : P.rlen sub = (l2.length : Int) := by rw [rlen_eq hP, hsub]; simp [revRows]
  cbv
  refine hc1 _ _ ?_
  clear hc1
  cbv
  refine ⟨ho1, ho2, _, hrow, ?_⟩
  cbv
  refine ⟨ho1, ho2, _, htr, ?_⟩
  cbv
  refine hc3 _ _ ?_
  cbv
  refine ⟨ho3, ho4, ho5, ?_⟩
  refine ⟨YUr (r, re) l2, fun y => [(10, .sl false 3 (eP y.x)), (11, .int .i64 y.e), (37, .sl true 3 sub), (38, .int .i64 (P.rlen sub)), (39, .int .i64 y.j)], fun y => [], fun y => y.rest.length,
    ⟨_, Ent.refl _, ⟨0, [], l2, t0, 0, rfl, rfl, ht0, fun _ => hres, fun h => absurd rfl h⟩, ⟨rfl, rfl, by rw [← hsb]; rfl, by rw [← hsb]; rfl, rfl, trivial⟩, trivial⟩, ?_⟩
  rintro ⟨j, pre, rest, x, e, hd, hj, hx, h0, h1⟩
  have hlp : pre.length + rest.length = l2.length := by rw [hd]; simp
  cbv
  refine br_cases (fun h => ?_) (fun h => ?_)
  · have h5 : j < P.rlen sub := lt_t hP h
    rw [hl2] at h5
    rcases rest with _ | ⟨⟨w, q, d⟩, rest⟩
    · exfalso; simp at hlp; ((try simp only [nc] at *); omega)
    have hmem : (⟨w, q, d⟩ : Rev) ∈ l := hm2 _ (by rw [hd]; simp)
    have c1 := hmeet w q d x hmem hx
    have hrow2 : P.row sub (P.nat j) [.int .i64 w, .int .i64 q, .sl false 3 (eP d)] := row_of hP hj (by rw [hsub, revRows, List.getElem?_map, hd]; simp)
    have q1 : P.leP 0 j := le0 hP (by ((try simp only [nc] at *); omega))
    have q2 : P.i64 (P.add j 1) := by rw [add_eq hP]; exact i64I hP (by ((try simp only [nc] at *); omega))
    have q3 : P.add j 1 = (((pre ++ [(⟨w, q, d⟩ : Rev)]).length : Nat) : Int) := by rw [add_eq hP, hj]; simp
    have hr' : e = 0 → (if mE d x ≠ 0 then ([], mE d x) else foldU (mD d x) rest) = (r, re) := by rw [hmE, hmD]; exact h0
    have hxl : (mD d x).length ≤ 10000000 := by rw [hmD]; exact (meetF_len d x).2
    have hmz := hmC d x
    clear hmeet
    cbv
    refine ⟨q1, _, hrow2, ?_⟩
    cbv
    intro β14
    cbv
    refine br_cases (fun h => ?_) (fun h => ?_)
    · have he := eq_t hP h
      cbv
      refine c1 _ _ ?_
      cbv
      refine ⟨q2, ?_⟩
      refine ⟨_, Ent.refl _, ⟨_, pre ++ [⟨w, q, d⟩], rest, mD d x, mE d x, by simp [hd], q3, hxl, fun hy => ?_, fun hy => ?_⟩, ⟨rfl, rfl, rfl, rfl, rfl, trivial⟩, trivial, by simp⟩
      · have := hr' he; rw [if_neg (fun g => g hy)] at this; exact this
      · have := hr' he; rw [if_pos hy] at this; exact ⟨hmz hy, this⟩
    · have he := eq_f hP h
      cbv
      refine ⟨q2, ?_⟩
      refine ⟨_, Ent.refl _, ⟨_, pre ++ [⟨w, q, d⟩], rest, x, e, by simp [hd], q3, hx, fun hy => absurd hy he, h1⟩, ⟨rfl, rfl, rfl, rfl, rfl, trivial⟩, trivial, by simp⟩
  · have h5 : ¬ j < P.rlen sub := lt_f hP h
    rw [hl2] at h5
    rcases rest with _ | ⟨y, rest⟩
    rotate_left
    · exfalso; simp at hlp; ((try simp only [nc] at *); omega)
    have hr1 : x = r ∧ e = re := by
      by_cases he : e = 0
      · have := h0 he; simp [foldU] at this; exact ⟨this.1, by rw [he]; exact this.2⟩
      · have := h1 he; simp at this; exact ⟨by rw [this.1, this.2.1], this.2.2⟩
    cbv
    exact (hR _ hr1.2).2.2 _ _ _ (Ent.refl _) rfl (by show eP x = eP r; rw [hr1.1])
theorem meetF_nil {a b : List Part} (h : (meetF a b).2.2 ≠ 0) : (meetF a b).2.1 = [] := by
  unfold meetF at h ⊢
  split
  · rename_i hz; rw [if_pos hz] at h; exact absurd rfl h
  · rfl
theorem sp_rundo (base : List UInt8) (l : List Rev) (k : Int) (hl : RevsOk l) (he : (textsF base l).2 = 0) (h1 : 1 ≤ k) (h2 : k ≤ l.length) : Spec Try.prog 78 [.str base, .sl true 3 (l.map encRev), .int .i64 k] Hp.emp (Is (.tup [encParts (undoF base l k).1, .int .i64 (undoF base l k).2])) := by
  have hi : l[k.toNat - 1]? = some (l[k.toNat - 1]'(by omega)) := List.getElem?_eq_getElem (by omega)
  have htz := undo_turn he h1 h2
  exact spec_frz dOk ok_rundo fun R hR => vc_rundo std rfl _ _ base (txt base l (k.toNat - 1)) l k (fun d => d.map encPart) _ (strRows (textsF base l).1) rfl (turnF (dlt l (k.toNat - 1)) (txt base l (k.toNat - 1))).1 (dlt l (k.toNat - 1)) ((l[k.toNat - 1]?).getD ⟨0, 0, []⟩).who ((l[k.toNat - 1]?).getD ⟨0, 0, []⟩).seq (textsF base l).2
    (fun d x => (meetF d x).1) (fun d x => (meetF d x).2.1) (fun d x => (meetF d x).2.2) (fun d x h => meetF_nil h) (fun _ _ => rfl) (fun _ _ => rfl) (ansW (sp_rtexts base l hl) (fun h => .cons (.same _) (.cons (.same _) .nil)) rfl) (textsF_ok he).2.1 h1 h2
    (by rw [hi]; simp [dlt, hi]) (row_of rfl (i := k.toNat - 1) (by show k - 1 = _; omega) (by
      have := textsF_row (base := base) (l := l) (k := k - 1) he (by omega) (by omega)
      rw [show (k - 1).toNat = k.toNat - 1 by omega] at this
      rw [strRows, List.getElem?_map, this]; rfl))
    (by
      have := ansPs (sp_rturn (dlt l (k.toNat - 1)) (dlt_mem hl _) (txt base l (k.toNat - 1))) rfl rfl
      rw [htz] at this
      exact this)
    (fun w q d x hm hx => ansSame (sp_rmeet d x (hl.2 _ hm).2.2.1 (len_of hx)) rfl rfl) (turn_len _ _) (undoF base l k).1 (undoF base l k).2
    (by unfold undoF; rw [if_neg (fun g => g he), if_neg (by omega)]) R (parts_ret hR)

/-! the law -/
def ac_lun : AC := .seq (.region false [
    ⟨some 6, none, .mov (.c (.bool false))⟩])
  (.seq (.region false [
    ⟨some 14, none, .mov (.t 0)⟩,
    ⟨some 15, none, .mov (.t 1)⟩,
    ⟨some 16, none, .mov (.t 2)⟩,
    ⟨some 17, none, .call 77 [(.t 14), (.t 15), (.t 16)]⟩,
    ⟨some 13, none, .mov (.t 17)⟩,
    ⟨some 18, none, .ext 0 (.t 13)⟩,
    ⟨some 19, none, .ext 1 (.t 13)⟩,
    ⟨some 7, none, .mov (.t 18)⟩,
    ⟨some 8, none, .mov (.t 19)⟩])
  (.seq (.region false [
    ⟨some 21, none, .mov (.t 0)⟩,
    ⟨some 22, none, .mov (.t 1)⟩,
    ⟨some 23, none, .call 58 [(.t 21), (.t 22)]⟩,
    ⟨some 20, none, .mov (.t 23)⟩,
    ⟨some 24, none, .ext 0 (.t 20)⟩,
    ⟨some 25, none, .ext 1 (.t 20)⟩,
    ⟨some 9, none, .mov (.t 24)⟩,
    ⟨some 10, none, .mov (.t 25)⟩])
  (.seq (.seq (.region false [
    ⟨some 26, none, .mov (.t 10)⟩,
    ⟨some 27, none, .bin .eql (.t 26) (.c (.int .i64 0))⟩,
    ⟨some 28, none, .mov (.t 27)⟩,
    ⟨some 29, some (28, true), .mov (.t 2)⟩,
    ⟨some 30, some (28, true), .bin .lss (.t 29) (.c (.int .i64 1))⟩,
    ⟨some 31, some (28, true), .mov (.t 30)⟩,
    ⟨some 32, some (31, false), .mov (.t 2)⟩,
    ⟨some 33, some (31, false), .mov (.t 1)⟩,
    ⟨some 34, some (31, false), .len false (.t 33)⟩,
    ⟨some 35, some (31, false), .bin .gtr (.t 32) (.t 34)⟩,
    ⟨some 36, some (28, true), .pick (.t 31) (.c (.bool true)) (.t 35)⟩,
    ⟨some 37, none, .pick (.t 28) (.t 36) (.c (.bool false))⟩])
  (.cond (.t 37)
    (.region false [
      ⟨some 10, none, .mov (.c (.int .i64 1))⟩])
    (.skip)))
  (.seq (.seq (.region false [
    ⟨some 38, none, .mov (.t 10)⟩,
    ⟨some 39, none, .bin .neq (.t 38) (.c (.int .i64 0))⟩])
  (.cond (.t 39)
    (.seq (.region false [
      ⟨some 40, none, .mov (.t 8)⟩,
      ⟨some 41, none, .mov (.t 10)⟩,
      ⟨some 42, none, .bin .eql (.t 40) (.t 41)⟩,
      ⟨some 43, none, .mov (.t 42)⟩,
      ⟨some 44, some (43, true), .mov (.t 7)⟩,
      ⟨some 45, some (43, true), .len false (.t 44)⟩,
      ⟨some 46, some (43, true), .bin .eql (.t 45) (.c (.int .i64 0))⟩,
      ⟨some 47, none, .pick (.t 43) (.t 46) (.c (.bool false))⟩,
      ⟨some 6, none, .mov (.t 47)⟩])
    (.ret))
    (.skip)))
  (.seq (.region false [
    ⟨some 49, none, .mov (.t 0)⟩,
    ⟨some 50, none, .mov (.t 1)⟩,
    ⟨some 51, none, .mov (.t 2)⟩,
    ⟨some 52, none, .call 78 [(.t 49), (.t 50), (.t 51)]⟩,
    ⟨some 48, none, .mov (.t 52)⟩,
    ⟨some 53, none, .ext 0 (.t 48)⟩,
    ⟨some 54, none, .ext 1 (.t 48)⟩,
    ⟨some 11, none, .mov (.t 53)⟩,
    ⟨some 12, none, .mov (.t 54)⟩])
  (.seq (.region false [
    ⟨some 55, none, .mov (.t 7)⟩,
    ⟨some 56, none, .mov (.t 11)⟩,
    ⟨some 57, none, .call 66 [(.t 55), (.t 56)]⟩,
    ⟨some 58, none, .mov (.t 57)⟩,
    ⟨some 59, some (58, true), .mov (.t 8)⟩,
    ⟨some 60, some (58, true), .mov (.t 12)⟩,
    ⟨some 61, some (58, true), .bin .eql (.t 59) (.t 60)⟩,
    ⟨some 62, none, .pick (.t 58) (.t 61) (.c (.bool false))⟩,
    ⟨some 6, none, .mov (.t 62)⟩])
  (.ret)))))))
theorem ok_lun : FnOk Try.prog 18 Try.f18 ac_lun [.t 6] 3 drawD := ⟨Try.func18, by decide +kernel, by kernel_rfl, by kernel_rfl, by decide +kernel⟩
theorem vc_lun (P : Prim) (hP : P = std) (T T1 : CallT) (base : List UInt8) (k n c e : Int) (rows tr dr : List (List V)) (hn : P.rlen rows = n)
    (h1 : Ans T 77 [.str base, .sl false 3 rows, .int .i64 k] (.tup [.sl false 3 dr, .int .i64 e])) (h2 : Ans T 58 [.str base, .sl false 3 rows] (.tup [.sl false 1 tr, .int .i64 c]))
    (h3 : c = 0 → 1 ≤ k → k ≤ n → Ans T 78 [.str base, .sl false 3 rows, .int .i64 k] (.tup [.sl false 3 dr, .int .i64 e])) (h4 : Ans T 66 [.sl false 3 dr, .sl false 3 dr] (.bool true))
    (g1 : c ≠ 0 → dr = [] ∧ e = c) (g2 : c = 0 → k < 1 ∨ n < k → dr = [] ∧ e = 1)
    (R : S → Prop) (hR : ∀ s s' b, b = true → Ent s s' → Ret [.t 6] [.bool b] s' → R s) : awp P T T1 ac_lun (S0 [.str base, .sl false 3 rows, .int .i64 k] Hp.emp) R (fun _ _ => False) R := by
  have n1 : P.ne 1 0 = true := ne_T hP (by decide)
  cbv
  refine h1 _ _ ?_
  cbv
  refine h2 _ _ ?_
  clear h1 h2
  cbv
  by_cases hc : c = 0
  · refine br_tt (eq_T hP hc) ?_
    cbv
    by_cases hk : k < 1 ∨ n < k
    · obtain ⟨q1, q2⟩ := g2 hc hk
      have fin : P.eq e 1 = true ∧ P.eq (P.rlen dr) 0 = true := ⟨eq_T hP q2, eq_T hP (by rw [rlen_eq hP, q1]; rfl)⟩
      by_cases hk1 : k < 1
      · refine br_tt (lt_T hP hk1) ?_
        cbv
        refine br_tt n1 ?_
        cbv
        refine br_tt fin.1 ?_
        cbv
        exact hR _ _ _ fin.2 (Ent.refl _) rfl
      · have hk2 : n < k := hk.resolve_left hk1
        rw [← hn] at hk2
        refine br_ff (lt_F hP hk1) ?_
        cbv
        refine br_tt (lt_T hP hk2) ?_
        cbv
        refine br_tt n1 ?_
        cbv
        refine br_tt fin.1 ?_
        cbv
        exact hR _ _ _ fin.2 (Ent.refl _) rfl
    · have hk1 : ¬ k < 1 := fun h => hk (.inl h)
      have hk2 : ¬ n < k := fun h => hk (.inr h)
      have f3 := h3 hc (by omega) (by omega)
      rw [← hn] at hk2
      refine br_ff (lt_F hP hk1) ?_
      cbv
      refine br_ff (lt_F hP hk2) ?_
      cbv
      refine br_ff (ne_F hP hc) ?_
      cbv
      refine f3 _ _ ?_
      cbv
      refine h4 _ _ ?_
      cbv
      exact hR _ _ _ (eq_T hP rfl) (Ent.refl _) rfl
  · obtain ⟨q1, q2⟩ := g1 hc
    have fin : P.eq e c = true ∧ P.eq (P.rlen dr) 0 = true := ⟨eq_T hP q2, eq_T hP (by rw [rlen_eq hP, q1]; rfl)⟩
    refine br_ff (eq_F hP hc) ?_
    cbv
    refine br_tt (ne_T hP hc) ?_
    cbv
    refine br_tt fin.1 ?_
    cbv
    exact hR _ _ _ fin.2 (Ent.refl _) rfl
theorem undo_len (base : List UInt8) (l : List Rev) (k : Int) : (undoF base l k).1.length ≤ 10000000 := by
  unfold undoF
  split
  · simp
  · split
    · simp
    · exact foldU_len _ _ (turn_len _ _)
theorem sp_law_undoSays (base : List UInt8) (l : List Rev) (k : Int) (_ : base.length ≤ maxLen) (hl : RevsOk l) (hk : I64 k) : Spec Try.prog 18 [.str base, encRevs l, .int .i64 k] Hp.emp (Is (.bool true)) :=
  spec_pure dOk ok_lun [.bool true] (.bool _) fun R hR => vc_lun std rfl _ _ base k l.length (textsF base l).2 (undoF base l k).2 (l.map encRev) (strRows (textsF base l).1) ((undoF base l k).1.map encPart) (by show ((l.map encRev).length : Int) = _; simp)
    (ansStr (sp_undo base l k hl) rfl rfl) (ansStr (sp_rtexts base l hl) rfl rfl) (fun h h1 h2 => ansStr (sp_rundo base l k hl h h1 h2) rfl rfl) (same_self _ (undo_len base l k))
    (fun h => by unfold undoF; rw [if_pos h]; exact ⟨rfl, rfl⟩) (fun h h' => by unfold undoF; rw [if_neg (fun g => g h), if_pos h']; exact ⟨rfl, rfl⟩)
    R fun s s' b h he hr => by subst h; exact hR s s' he hr
end Go.Proofs.Ytpfjigafffleiaa.AM
