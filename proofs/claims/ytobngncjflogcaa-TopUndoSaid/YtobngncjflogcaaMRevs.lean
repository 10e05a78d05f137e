/-
  Histories: revs.One, texts, Check, Text, and the document's.
-/
import Derived.Test.YtobngncjflogcaaMDo2
set_option linter.unusedVariables false
set_option linter.unusedSimpArgs false
namespace Go.Proofs.Ytobngncjflogcaa.AM
open Go
set_option maxRecDepth 100000
set_option maxHeartbeats 2000000
def oneF (r : Rev) : Int := if r.who < 0 ∨ 7 < r.who ∨ r.seq < 0 ∨ 2147483647 < r.seq then 1 else checkF r.delta
def goT (cur : List UInt8) : List Rev → List (List UInt8) × Int
  | [] => ([], 0)
  | r :: l => if oneF r ≠ 0 then ([], oneF r) else if (doF r.delta cur).2 ≠ 0 then ([], (doF r.delta cur).2) else ((doF r.delta cur).1 :: (goT (doF r.delta cur).1 l).1, (goT (doF r.delta cur).1 l).2)
def textsF (base : List UInt8) (l : List Rev) : List (List UInt8) × Int := if 500 < base.length ∨ 64 < l.length then ([], 2) else if (goT base l).2 ≠ 0 then ([], (goT base l).2) else (base :: (goT base l).1, 0)
theorem goT_len : ∀ (l : List Rev) (cur : List UInt8), (goT cur l).2 = 0 → (goT cur l).1.length = l.length
  | [], _, _ => rfl
  | r :: l, cur, h => by
    unfold goT at h ⊢
    split at h
    · contradiction
    · rename_i h1
      rw [if_neg h1]
      split at h
      · contradiction
      · rename_i h2
        rw [if_neg h2]
        simp only [List.length_cons]
        rw [goT_len l _ h]
theorem textsF_ok {base : List UInt8} {l : List Rev} (h : (textsF base l).2 = 0) : base.length ≤ 500 ∧ l.length ≤ 64 ∧ (goT base l).2 = 0 ∧ (textsF base l).1 = base :: (goT base l).1 ∧ (textsF base l).1.length = l.length + 1 := by
  unfold textsF at h ⊢
  split at h
  · contradiction
  · rename_i h1
    rw [if_neg h1]
    split at h
    · contradiction
    · rename_i h2
      rw [if_neg h2]
      have h3 : (goT base l).2 = 0 := Decidable.of_not_not h2
      exact ⟨by omega, by omega, h3, rfl, by simp [goT_len l base h3]⟩
theorem textsF_nil {base : List UInt8} {l : List Rev} (h : (textsF base l).2 ≠ 0) : (textsF base l).1 = [] := by
  unfold textsF at h ⊢
  split
  · rfl
  · split
    · rfl
    · rename_i h1 h2
      rw [if_neg h1, if_neg h2] at h
      exact absurd rfl h

def ac_one : AC := .seq (.region false [
    ⟨some 1, none, .box 45 3 (.t 0)⟩,
    ⟨some 2, none, .mov (.c (.int .i64 0))⟩])
  (.seq (.seq (.region false [
    ⟨some 3, none, .faddr 0 (.t 1)⟩,
    ⟨some 4, none, .load1 (.t 3)⟩,
    ⟨some 5, none, .bin .lss (.t 4) (.c (.int .i64 0))⟩,
    ⟨some 6, none, .mov (.t 5)⟩,
    ⟨some 7, some (6, false), .faddr 0 (.t 1)⟩,
    ⟨some 8, some (6, false), .load1 (.t 7)⟩,
    ⟨some 9, some (6, false), .bin .gtr (.t 8) (.c (.int .i64 7))⟩,
    ⟨some 10, none, .pick (.t 6) (.c (.bool true)) (.t 9)⟩,
    ⟨some 11, none, .mov (.t 10)⟩,
    ⟨some 12, some (11, false), .faddr 1 (.t 1)⟩,
    ⟨some 13, some (11, false), .load1 (.t 12)⟩,
    ⟨some 14, some (11, false), .bin .lss (.t 13) (.c (.int .i64 0))⟩,
    ⟨some 15, none, .pick (.t 11) (.c (.bool true)) (.t 14)⟩,
    ⟨some 16, none, .mov (.t 15)⟩,
    ⟨some 17, some (16, false), .faddr 1 (.t 1)⟩,
    ⟨some 18, some (16, false), .load1 (.t 17)⟩,
    ⟨some 19, some (16, false), .bin .gtr (.t 18) (.c (.int .i64 2147483647))⟩,
    ⟨some 20, none, .pick (.t 16) (.c (.bool true)) (.t 19)⟩])
  (.cond (.t 20)
    (.seq (.region false [
      ⟨some 2, none, .mov (.c (.int .i64 1))⟩])
    (.ret))
    (.skip)))
  (.seq (.region false [
    ⟨some 21, none, .faddr 2 (.t 1)⟩,
    ⟨some 22, none, .load1 (.t 21)⟩,
    ⟨some 23, none, .call 89 [(.t 22)]⟩,
    ⟨some 2, none, .mov (.t 23)⟩])
  (.ret)))
theorem ok_one : FnOk Try.prog 90 Try.f90 ac_one [.t 2] 1 drawD := ⟨Try.func90, by decide +kernel, by kernel_rfl, by kernel_rfl, by decide +kernel⟩
theorem vc_one (P : Prim) (hP : P = std) (T T1 : CallT) (tf : Bool) (w q : Int) (dr : List (List V)) (c r : Int) (hc1 : Ans T 89 [.sl tf 3 dr] (.int .i64 c)) (hr : (if w < 0 ∨ 7 < w ∨ q < 0 ∨ 2147483647 < q then 1 else c) = r)
    (R : S → Prop) (hR : ∀ s s' x, x = r → Ent s s' → Ret [.t 2] [.int .i64 x] s' → R s) : awp P T T1 ac_one (S0 [.agg [.int .i64 w, .int .i64 q, .sl tf 3 dr]] Hp.emp) R (fun _ _ => False) R := by
  cbv
  repeat' (first | (intro β; try cbv) | (refine And.intro (by assumption) ?_; try cbv) | (refine br_cases (fun h => ?_) (fun h => ?_) <;> try cbv) | (refine Exists.intro _ (And.intro (by assumption) ?_); try cbv) | (refine hc1 _ _ ?_; try cbv) | (refine hc2 _ _ ?_; try cbv) | (refine hc3 _ _ ?_; try cbv) | (refine hc4 _ _ ?_; try cbv) | (refine hc5 _ _ ?_; try cbv) | (refine hc6 _ _ ?_; try cbv) | (refine And.intro (by (clear hR; subst hP; simp [std, I64, nc] at * <;> first | omega | grind)) ?_; try cbv))
  all_goals
    refine hR _ _ _ ?_ (Ent.refl _) rfl
    clear hR hc1; subst hP; simp [std] at *; first | omega | grind
theorem sp_one (r : Rev) (hr : PartsOk r.delta) : Spec Try.prog 90 [.agg (encRev r)] Hp.emp (Is (.int .i64 (oneF r))) :=
  spec_pure dOk ok_one [.int .i64 (oneF r)] (.int _ _) fun R hR => vc_one std rfl _ _ false r.who r.seq (r.delta.map encPart) (checkF r.delta) (oneF r) (ansL (sp_check r.delta hr.1) rfl) rfl R fun s s' x h he hq => by subst h; exact hR s s' he hq
def encRevT (r : Rev) : List V := [.int .i64 r.who, .int .i64 r.seq, .sl true 3 (r.delta.map encPart)]
theorem sp_oneT (r : Rev) (hr : PartsOk r.delta) : Spec Try.prog 90 [.agg (encRevT r)] Hp.emp (Is (.int .i64 (oneF r))) :=
  spec_pure dOk ok_one [.int .i64 (oneF r)] (.int _ _) fun R hR => vc_one std rfl _ _ true r.who r.seq (r.delta.map encPart) (checkF r.delta) (oneF r) (ansW (sp_check r.delta hr.1) (fun _ => .cons (.same _) .nil) rfl) rfl R fun s s' x h he hq => by subst h; exact hR s s' he hq
def ac_rrev : AC := .seq (.region false [
    ⟨some 1, none, .box 45 3 (.t 0)⟩,
    ⟨some 2, none, .mov (.c (.int .i64 0))⟩])
  (.seq (.seq (.region false [
    ⟨some 3, none, .faddr 0 (.t 1)⟩,
    ⟨some 4, none, .load1 (.t 3)⟩,
    ⟨some 5, none, .bin .lss (.t 4) (.c (.int .i64 0))⟩,
    ⟨some 6, none, .mov (.t 5)⟩,
    ⟨some 7, some (6, false), .faddr 0 (.t 1)⟩,
    ⟨some 8, some (6, false), .load1 (.t 7)⟩,
    ⟨some 9, some (6, false), .bin .gtr (.t 8) (.c (.int .i64 7))⟩,
    ⟨some 10, none, .pick (.t 6) (.c (.bool true)) (.t 9)⟩,
    ⟨some 11, none, .mov (.t 10)⟩,
    ⟨some 12, some (11, false), .faddr 1 (.t 1)⟩,
    ⟨some 13, some (11, false), .load1 (.t 12)⟩,
    ⟨some 14, some (11, false), .bin .lss (.t 13) (.c (.int .i64 0))⟩,
    ⟨some 15, none, .pick (.t 11) (.c (.bool true)) (.t 14)⟩,
    ⟨some 16, none, .mov (.t 15)⟩,
    ⟨some 17, some (16, false), .faddr 1 (.t 1)⟩,
    ⟨some 18, some (16, false), .load1 (.t 17)⟩,
    ⟨some 19, some (16, false), .bin .gtr (.t 18) (.c (.int .i64 2147483647))⟩,
    ⟨some 20, none, .pick (.t 16) (.c (.bool true)) (.t 19)⟩])
  (.cond (.t 20)
    (.seq (.region false [
      ⟨some 2, none, .mov (.c (.int .i64 1))⟩])
    (.ret))
    (.skip)))
  (.seq (.region false [
    ⟨some 21, none, .faddr 2 (.t 1)⟩,
    ⟨some 22, none, .load1 (.t 21)⟩,
    ⟨some 23, none, .call 104 [(.t 22)]⟩,
    ⟨some 2, none, .mov (.t 23)⟩])
  (.ret)))
theorem ok_rrev : FnOk Try.prog 78 Try.f78 ac_rrev [.t 2] 1 drawD := ⟨Try.func78, by decide +kernel, by kernel_rfl, by kernel_rfl, by decide +kernel⟩
theorem vc_rrev (P : Prim) (hP : P = std) (T T1 : CallT) (w q : Int) (dr : List (List V)) (c r : Int) (hc1 : Ans T 104 [.sl false 3 dr] (.int .i64 c)) (hr : (if w < 0 ∨ 7 < w ∨ q < 0 ∨ 2147483647 < q then 1 else c) = r)
    (R : S → Prop) (hR : ∀ s s' x, x = r → Ent s s' → Ret [.t 2] [.int .i64 x] s' → R s) : awp P T T1 ac_rrev (S0 [.agg [.int .i64 w, .int .i64 q, .sl false 3 dr]] Hp.emp) R (fun _ _ => False) R := by
  cbv
  repeat' (first | (intro β; try cbv) | (refine And.intro (by assumption) ?_; try cbv) | (refine br_cases (fun h => ?_) (fun h => ?_) <;> try cbv) | (refine Exists.intro _ (And.intro (by assumption) ?_); try cbv) | (refine hc1 _ _ ?_; try cbv) | (refine hc2 _ _ ?_; try cbv) | (refine hc3 _ _ ?_; try cbv) | (refine hc4 _ _ ?_; try cbv) | (refine hc5 _ _ ?_; try cbv) | (refine hc6 _ _ ?_; try cbv) | (refine And.intro (by (clear hR; subst hP; simp [std, I64, nc] at * <;> first | omega | grind)) ?_; try cbv))
  all_goals
    refine hR _ _ _ ?_ (Ent.refl _) rfl
    clear hR hc1; subst hP; simp [std] at *; first | omega | grind
theorem sp_rrev (r : Rev) (hr : PartsOk r.delta) : Spec Try.prog 78 [.agg (encRev r)] Hp.emp (Is (.int .i64 (oneF r))) :=
  spec_pure dOk ok_rrev [.int .i64 (oneF r)] (.int _ _) fun R hR => vc_rrev std rfl _ _ r.who r.seq (r.delta.map encPart) (checkF r.delta) (oneF r) (ansL (sp_rdelta r.delta hr.1) rfl) rfl R fun s s' x h he hq => by subst h; exact hR s s' he hq

/-! texts -/
structure YTx (base : List UInt8) (l : List Rev) where
  k : Int
  pre : List Rev
  rest : List Rev
  acc : List (List UInt8)
  cur : List UInt8
  n : Nat
  b : Option Nat
  rows : List (List V)
  hd : l = pre ++ rest
  hk : k = (pre.length : Int)
  hrows : rows = strRows (acc ++ [cur])
  hacc : acc.length = pre.length
  hn : n = pre.length + 1
  h1 : (acc ++ [cur]) ++ (goT cur rest).1 = base :: (goT base l).1
  h2 : (goT cur rest).2 = (goT base l).2
def revRows (eP : List Part → List (List V)) (l : List Rev) : List (List V) := l.map fun r => [.int .i64 r.who, .int .i64 r.seq, .sl false 3 (eP r.delta)]
def ac_texts : AC := .seq (.region false [
    ⟨some 4, none, .mov (.c (.slice none 0 0))⟩,
    ⟨some 5, none, .mov (.c (.int .i64 0))⟩])
  (.seq (.seq (.region false [
    ⟨some 12, none, .mov (.t 0)⟩,
    ⟨some 13, none, .len true (.t 12)⟩,
    ⟨some 14, none, .bin .gtr (.t 13) (.c (.int .i64 500))⟩,
    ⟨some 15, none, .mov (.t 14)⟩,
    ⟨some 16, some (15, false), .mov (.t 1)⟩,
    ⟨some 17, some (15, false), .len false (.t 16)⟩,
    ⟨some 18, some (15, false), .bin .gtr (.t 17) (.c (.int .i64 64))⟩,
    ⟨some 19, none, .pick (.t 15) (.c (.bool true)) (.t 18)⟩])
  (.cond (.t 19)
    (.seq (.region false [
      ⟨some 4, none, .mov (.c (.slice none 0 0))⟩,
      ⟨some 5, none, .mov (.c (.int .i64 2))⟩])
    (.ret))
    (.skip)))
  (.seq (.region false [
    ⟨some 20, none, .mov (.t 0)⟩,
    ⟨some 21, none, .bslice 9 1 [(.t 20)]⟩,
    ⟨some 6, none, .mov (.t 21)⟩])
  (.seq (.seq (.region false [
    ⟨some 22, none, .mov (.t 1)⟩,
    ⟨some 23, none, .len false (.t 22)⟩,
    ⟨some 24, none, .mov (.c (.int .i64 0))⟩])
  (.block 0 (.loop (.seq (.region false [
      ⟨some 25, none, .bin .lss (.t 24) (.t 23)⟩])
    (.seq (.cond (.t 25)
      (.skip)
      (.exit 0))
    (.seq (.block 1 (.seq (.region false [
      ⟨some 26, none, .iaddr 3 (.t 22) (.t 24)⟩,
      ⟨some 27, none, .loadn 3 (.t 26)⟩,
      ⟨some 8, none, .alloc 45 [(.int .i64 0), (.int .i64 0), (.slice none 0 0)]⟩,
      ⟨none, none, .store 3 (.t 8) (.t 27)⟩])
    (.seq (.seq (.region false [
      ⟨some 28, none, .loadn 3 (.t 8)⟩,
      ⟨some 29, none, .call 90 [(.t 28)]⟩,
      ⟨some 9, none, .mov (.t 29)⟩])
    (.seq (.region false [
      ⟨some 30, none, .mov (.t 9)⟩,
      ⟨some 31, none, .bin .neq (.t 30) (.c (.int .i64 0))⟩])
    (.cond (.t 31)
      (.seq (.region false [
        ⟨some 32, none, .mov (.t 9)⟩,
        ⟨some 4, none, .mov (.c (.slice none 0 0))⟩,
        ⟨some 5, none, .mov (.t 32)⟩])
      (.ret))
      (.skip))))
    (.seq (.region true [
      ⟨some 34, none, .faddr 2 (.t 8)⟩,
      ⟨some 35, none, .load1 (.t 34)⟩,
      ⟨some 36, none, .mov (.t 6)⟩,
      ⟨some 37, none, .mov (.t 6)⟩,
      ⟨some 38, none, .len false (.t 37)⟩,
      ⟨some 39, none, .bin .sub (.t 38) (.c (.int .i64 1))⟩,
      ⟨some 40, none, .iaddr 1 (.t 36) (.t 39)⟩,
      ⟨some 41, none, .load1 (.t 40)⟩,
      ⟨some 42, none, .call 16 [(.t 35), (.t 41)]⟩,
      ⟨some 33, none, .mov (.t 42)⟩,
      ⟨some 43, none, .ext 0 (.t 33)⟩,
      ⟨some 44, none, .ext 1 (.t 33)⟩,
      ⟨some 10, none, .mov (.t 43)⟩,
      ⟨some 11, none, .mov (.t 44)⟩])
    (.seq (.seq (.region false [
      ⟨some 45, none, .mov (.t 11)⟩,
      ⟨some 46, none, .bin .neq (.t 45) (.c (.int .i64 0))⟩])
    (.cond (.t 46)
      (.seq (.region false [
        ⟨some 47, none, .mov (.t 11)⟩,
        ⟨some 4, none, .mov (.c (.slice none 0 0))⟩,
        ⟨some 5, none, .mov (.t 47)⟩])
      (.ret))
      (.skip)))
    (.region false [
      ⟨some 48, none, .mov (.t 6)⟩,
      ⟨some 49, none, .mov (.t 10)⟩,
      ⟨some 50, none, .bslice 9 1 [(.t 49)]⟩,
      ⟨some 51, none, .append 9 1 16 (.t 48) (.t 50)⟩,
      ⟨some 6, none, .mov (.t 51)⟩]))))))
    (.region false [
      ⟨some 52, none, .bin .add (.t 24) (.c (.int .i64 1))⟩,
      ⟨some 24, none, .mov (.t 52)⟩])))))))
  (.seq (.region false [
    ⟨some 53, none, .mov (.t 6)⟩,
    ⟨some 4, none, .mov (.t 53)⟩,
    ⟨some 5, none, .mov (.c (.int .i64 0))⟩])
  (.ret)))))
theorem ok_texts : FnOk Try.prog 52 Try.f52 ac_texts [.t 4, .t 5] 2 drawD := ⟨Try.func52, by decide +kernel, by kernel_rfl, by kernel_rfl, by decide +kernel⟩
def RetTx (rv : List RV) (t : List (List UInt8)) (e : Int) (R : S → Prop) : Prop := RetSl rv 1 (strRows t) [.int .i64 e] R
theorem vc_texts (P : Prim) (hP : P = std) (T T1 : CallT) (base : List UInt8) (l : List Rev) (eP : List Part → List (List V)) (rows : List (List V)) (hrows : rows = revRows eP l)
    (oF : Int → Int → List Part → Int) (hoF : ∀ w q d, oF w q d = oneF ⟨w, q, d⟩) (dS : List Part → List UInt8 → List UInt8) (dE : List Part → List UInt8 → Int) (hdS : ∀ d s, dS d s = (doF d s).1) (hdE : ∀ d s, dE d s = (doF d s).2)
    (hone : ∀ w q d, ⟨w, q, d⟩ ∈ l → Ans T 90 [.agg [.int .i64 w, .int .i64 q, .sl false 3 (eP d)]] (.int .i64 (oF w q d)))
    (hdo : ∀ w q d s, ⟨w, q, d⟩ ∈ l → Ans T1 16 [.sl false 3 (eP d), .str s] (.tup [.str (dS d s), .int .i64 (dE d s)]))
    (t : List (List UInt8)) (e : Int) (ht : textsF base l = (t, e))
    (R : S → Prop) (hR : ∀ x, x = e → RetSl [.t 4, .t 5] 1 (strRows t) [.int .i64 x] R) : awp P T T1 ac_texts (S0 [.str base, .sl true 3 rows] Hp.emp) R (fun _ _ => False) R := by
  have hl1 : P.rlen rows = (l.length : Int) := by rw [rlen_eq hP, hrows]; simp [revRows]
  have hb1 : P.slen base = (base.length : Int) := slen_eq hP base
  have hlong : 500 < base.length ∨ 64 < l.length → t = [] ∧ e = 2 := by
    intro h; unfold textsF at ht; rw [if_pos h] at ht; simp only [Prod.mk.injEq] at ht; exact ⟨ht.1.symm, ht.2.symm⟩
  cbv
  refine br_cases (fun h => ?_) (fun h => ?_)
  · have h3 : 500 < P.slen base := lt_t hP h
    rw [hb1] at h3
    obtain ⟨g1, g2⟩ := hlong (.inl (by ((try simp only [nc] at *); omega)))
    cbv
    exact (hR _ g2.symm).1 _ _ (Ent.refl _) rfl (by rw [g1]; rfl)
  have h3 : ¬ 500 < P.slen base := lt_f hP h
  rw [hb1] at h3
  cbv
  refine br_cases (fun h => ?_) (fun h => ?_)
  · have h4 : 64 < P.rlen rows := lt_t hP h
    rw [hl1] at h4
    obtain ⟨g1, g2⟩ := hlong (.inr (by ((try simp only [nc] at *); omega)))
    cbv
    exact (hR _ g2.symm).1 _ _ (Ent.refl _) rfl (by rw [g1]; rfl)
  have h4 : ¬ 64 < P.rlen rows := lt_f hP h
  rw [hl1] at h4
  have hl64 : l.length ≤ 64 := by ((try simp only [nc] at *); omega)
  have ht2 : t = (if (goT base l).2 ≠ 0 then [] else base :: (goT base l).1) ∧ e = (goT base l).2 := by
    unfold textsF at ht
    rw [if_neg (by ((try simp only [nc] at *); omega))] at ht
    split at ht
    · rename_i h; simp only [Prod.mk.injEq] at ht; rw [if_pos h]; exact ⟨ht.1.symm, ht.2.symm⟩
    · rename_i h; simp only [Prod.mk.injEq] at ht; rw [if_neg h]; exact ⟨ht.1.symm, by omega⟩
  obtain ⟨ht3, ht4⟩ := ht2
  clear hlong ht h
  cbv
  intro β21
  cbv
  refine ⟨YTx base l, fun y => [(6, .own 1000021 y.b 1 y.n), (22, .sl true 3 rows), (23, .int .i64 (P.rlen rows)), (24, .int .i64 y.k)],
    fun y => [(1000021, ⟨y.b, 9, 1, y.rows⟩)], fun y => y.rest.length,
    ⟨_, Ent.refl _, ⟨0, [], l, [], base, _, _, _, rfl, rfl, rfl, rfl, rfl, rfl, rfl⟩, ⟨rfl, rfl, rfl, rfl, trivial⟩, ⟨rfl, trivial⟩⟩, ?_⟩
  rintro ⟨k, pre, rest, acc, cur, n, b, rows2, hd, hk, hrows2, hacc, hn, h1, h2⟩
  have hlp : pre.length + rest.length = l.length := by rw [hd]; simp
  cbv
  refine br_cases (fun h => ?_) (fun h => ?_)
  · have h5 : k < P.rlen rows := lt_t hP h
    rw [hl1] at h5
    rcases rest with _ | ⟨⟨w, q, d⟩, rest⟩
    · exfalso; simp at hlp; ((try simp only [nc] at *); omega)
    have hmem : (⟨w, q, d⟩ : Rev) ∈ l := by rw [hd]; simp
    have c1 := hone w q d hmem
    have c2 := hdo w q d cur hmem
    have hrow : P.row rows (P.nat k) [.int .i64 w, .int .i64 q, .sl false 3 (eP d)] := row_of hP hk (by rw [hrows, revRows, List.getElem?_map, hd]; simp)
    have ho1 : P.leP 0 k := le0 hP (by ((try simp only [nc] at *); omega))
    have ho2 : P.i64 (P.add k 1) := by rw [add_eq hP]; exact i64I hP (by ((try simp only [nc] at *); omega))
    have hin : P.sub (P.int n) 1 = ((pre.length : Nat) : Int) := by rw [sub_eq hP, int_eq hP, hn]; ((try simp only [nc] at *); omega)
    have ho3 : P.i64 (P.sub (P.int n) 1) := by rw [hin]; exact i64I hP (by ((try simp only [nc] at *); omega))
    have ho4 : P.leP 0 (P.sub (P.int n) 1) := le0 hP (by rw [hin]; ((try simp only [nc] at *); omega))
    have ho5 : P.ltP (P.sub (P.int n) 1) (P.int n) := ltI hP (by rw [hin, int_eq hP, hn]; ((try simp only [nc] at *); omega))
    have hrow2 : P.row rows2 (P.nat (P.sub (P.int n) 1)) [.str cur] := row_of hP hin (by rw [hrows2, strRows, List.getElem?_map, ← hacc]; simp)
    have ho6 : P.neP rows2 n := by subst hP; show rows2.length = n; rw [hrows2, hn]; simp [strRows, hacc]
    have ho7 : ∀ r, P.bytes (P.add (P.int n) (P.rlen [r])) 16 := by intro r; subst hP; show ((n : Int) + 1) * 16 ≤ _; ((try simp only [nc] at *); omega)
    have ho8 : ∀ r, P.neP [r] 1 := by intro r; subst hP; rfl
    have hstep : goT cur (⟨w, q, d⟩ :: rest) = if oF w q d ≠ 0 then ([], oF w q d) else if dE d cur ≠ 0 then ([], dE d cur) else (dS d cur :: (goT (dS d cur) rest).1, (goT (dS d cur) rest).2) := by rw [hoF, hdE, hdS]; rfl
    rw [hstep] at h1 h2
    clear hone hdo hstep
    cbv
    refine ⟨ho1, _, hrow, ?_⟩
    cbv
    intro β8
    cbv
    refine c1 _ _ ?_
    cbv
    refine br_cases (fun h => ?_) (fun h => ?_)
    · have hz : oF w q d ≠ 0 := ne_t hP h
      rw [if_pos hz] at h2
      simp only [] at h2
      rw [← h2] at ht3 ht4
      rw [if_pos hz] at ht3
      cbv
      exact (hR _ ht4.symm).1 _ _ (Ent.refl _) rfl (by rw [ht3]; rfl)
    have hz : oF w q d = 0 := ne_f hP h
    rw [if_neg (fun h => h hz)] at h1 h2
    cbv
    refine ⟨ho3, ho4, ho5, _, hrow2, ?_⟩
    cbv
    refine c2 _ _ ?_
    cbv
    refine br_cases (fun h => ?_) (fun h => ?_)
    · have hy : dE d cur ≠ 0 := ne_t hP h
      rw [if_pos hy] at h2
      simp only [] at h2
      rw [← h2] at ht3 ht4
      rw [if_pos hy] at ht3
      cbv
      exact (hR _ ht4.symm).1 _ _ (Ent.refl _) rfl (by rw [ht3]; rfl)
    have hy : dE d cur = 0 := ne_f hP h
    rw [if_neg (fun h => h hy)] at h1 h2
    cbv
    repeat' (first
      | (refine And.intro (by assumption) ?_; try cbv)
      | (refine And.intro (ho8 _) ?_; try cbv)
      | (refine And.intro (ho7 _) ?_; try cbv)
      | (intro β; try cbv))
    refine ⟨_, Ent.refl _, ⟨_, pre ++ [⟨w, q, d⟩], rest, acc ++ [cur], dS d cur, _, _, _, by simp [hd], ?_, ?_, by simp [hacc], ?_, by rw [← h1]; simp, h2⟩, ⟨rfl, rfl, rfl, rfl, trivial⟩, ⟨rfl, trivial⟩, by simp⟩
    · show P.add k 1 = _; rw [add_eq hP, hk]; simp
    · show P.rapp rows2 [[.str (dS d cur)]] = _
      rw [hrows2]; subst hP; simp [std, strRows]
    · show P.nadd n (P.rlenN [_]) = _
      subst hP; simp [std, hn]
  · have h5 : ¬ k < P.rlen rows := lt_f hP h
    rw [hl1] at h5
    rcases rest with _ | ⟨r, rest⟩
    rotate_left
    · exfalso; simp at hlp; ((try simp only [nc] at *); omega)
    have h2' : (goT base l).2 = 0 := by rw [← h2]; rfl
    rw [h2', if_neg (by decide)] at ht3
    rw [h2'] at ht4
    have h1' : acc ++ [cur] = t := by rw [ht3, ← h1]; simp [goT]
    cbv
    exact (hR _ ht4.symm).2.1 _ _ _ _ _ _ _ (Ent.refl _) rfl rfl ⟨by rw [← h1', hn]; simp [strRows, hacc], by rw [← h1', hrows2]⟩
theorem rtx_of {rv : List RV} {t : List (List UInt8)} {e : Int} {R : S → Prop} (hR : ∀ s s', Ent s s' → RetF rv (.tup [.sl false 1 (strRows t), .int .i64 e]) s' → R s) : ∀ x, x = e → RetSl rv 1 (strRows t) [.int .i64 x] R := fun x hx => by
  subst hx
  exact retSl_of (strRows_sz _) (strRows_fz _) (int_fz _) fun s s' he hr => hR s s' he hr
theorem ansPs {f : Nat} {d : List Part} {vs : List V} {v : V} (h : Spec Try.prog f (.sl true 3 (d.map encPart) :: vs) Hp.emp (Is v)) (hv : v.ren (lab []) = v) (hvs : vs.all V.pl = true) : Ans (CallP Try.prog) f (encParts d :: vs) v := ansP h (fun _ => .cons (.weak _ _) (args_plain hvs)) hv
theorem sp_texts (base : List UInt8) (l : List Rev) (hl : RevsOk l) : Spec Try.prog 52 [.str base, .sl true 3 (l.map encRev)] Hp.emp (Is (.tup [.sl false 1 (strRows (textsF base l).1), .int .i64 (textsF base l).2])) :=
  spec_frz dOk ok_texts fun R hR => vc_texts std rfl _ _ base l (fun d => d.map encPart) _ rfl (fun w q d => oneF ⟨w, q, d⟩) (fun _ _ _ => rfl) (fun d s => (doF d s).1) (fun d s => (doF d s).2) (fun _ _ => rfl) (fun _ _ => rfl)
    (fun w q d hm => ansW (sp_one ⟨w, q, d⟩ (hl.2 _ hm).2.2) (fun h => .cons (.same _) .nil) rfl)
    (fun w q d s hm => ansPs (sp_do d (hl.2 _ hm).2.2.1 s) rfl rfl) _ _ rfl R (rtx_of hR)

/-! the document's -/
def ac_rtexts : AC := .seq (.region false [
    ⟨some 4, none, .mov (.c (.slice none 0 0))⟩,
    ⟨some 5, none, .mov (.c (.int .i64 0))⟩])
  (.seq (.seq (.region false [
    ⟨some 12, none, .mov (.t 0)⟩,
    ⟨some 13, none, .len true (.t 12)⟩,
    ⟨some 14, none, .bin .gtr (.t 13) (.c (.int .i64 500))⟩,
    ⟨some 15, none, .mov (.t 14)⟩,
    ⟨some 16, some (15, false), .mov (.t 1)⟩,
    ⟨some 17, some (15, false), .len false (.t 16)⟩,
    ⟨some 18, some (15, false), .bin .gtr (.t 17) (.c (.int .i64 64))⟩,
    ⟨some 19, none, .pick (.t 15) (.c (.bool true)) (.t 18)⟩])
  (.cond (.t 19)
    (.seq (.region false [
      ⟨some 4, none, .mov (.c (.slice none 0 0))⟩,
      ⟨some 5, none, .mov (.c (.int .i64 2))⟩])
    (.ret))
    (.skip)))
  (.seq (.region false [
    ⟨some 20, none, .mov (.t 0)⟩,
    ⟨some 21, none, .bslice 9 1 [(.t 20)]⟩,
    ⟨some 6, none, .mov (.t 21)⟩])
  (.seq (.seq (.region false [
    ⟨some 22, none, .mov (.t 1)⟩,
    ⟨some 23, none, .len false (.t 22)⟩,
    ⟨some 24, none, .mov (.c (.int .i64 0))⟩])
  (.block 0 (.loop (.seq (.region false [
      ⟨some 25, none, .bin .lss (.t 24) (.t 23)⟩])
    (.seq (.cond (.t 25)
      (.skip)
      (.exit 0))
    (.seq (.block 1 (.seq (.region false [
      ⟨some 26, none, .mov (.t 24)⟩,
      ⟨some 27, none, .iaddr 3 (.t 22) (.t 24)⟩,
      ⟨some 28, none, .loadn 3 (.t 27)⟩,
      ⟨some 8, none, .alloc 45 [(.int .i64 0), (.int .i64 0), (.slice none 0 0)]⟩,
      ⟨some 7, none, .mov (.t 26)⟩,
      ⟨none, none, .store 3 (.t 8) (.t 28)⟩])
    (.seq (.seq (.region false [
      ⟨some 29, none, .loadn 3 (.t 8)⟩,
      ⟨some 30, none, .call 78 [(.t 29)]⟩,
      ⟨some 9, none, .mov (.t 30)⟩])
    (.seq (.region false [
      ⟨some 31, none, .mov (.t 9)⟩,
      ⟨some 32, none, .bin .neq (.t 31) (.c (.int .i64 0))⟩])
    (.cond (.t 32)
      (.seq (.region false [
        ⟨some 33, none, .mov (.t 9)⟩,
        ⟨some 4, none, .mov (.c (.slice none 0 0))⟩,
        ⟨some 5, none, .mov (.t 33)⟩])
      (.ret))
      (.skip))))
    (.seq (.region true [
      ⟨some 35, none, .faddr 2 (.t 8)⟩,
      ⟨some 36, none, .load1 (.t 35)⟩,
      ⟨some 37, none, .mov (.t 6)⟩,
      ⟨some 38, none, .mov (.t 7)⟩,
      ⟨some 39, none, .iaddr 1 (.t 37) (.t 38)⟩,
      ⟨some 40, none, .load1 (.t 39)⟩,
      ⟨some 41, none, .call 77 [(.t 36), (.t 40)]⟩,
      ⟨some 34, none, .mov (.t 41)⟩,
      ⟨some 42, none, .ext 0 (.t 34)⟩,
      ⟨some 43, none, .ext 1 (.t 34)⟩,
      ⟨some 10, none, .mov (.t 42)⟩,
      ⟨some 11, none, .mov (.t 43)⟩])
    (.seq (.seq (.region false [
      ⟨some 44, none, .mov (.t 11)⟩,
      ⟨some 45, none, .bin .neq (.t 44) (.c (.int .i64 0))⟩])
    (.cond (.t 45)
      (.seq (.region false [
        ⟨some 46, none, .mov (.t 11)⟩,
        ⟨some 4, none, .mov (.c (.slice none 0 0))⟩,
        ⟨some 5, none, .mov (.t 46)⟩])
      (.ret))
      (.skip)))
    (.region false [
      ⟨some 47, none, .mov (.t 6)⟩,
      ⟨some 48, none, .mov (.t 10)⟩,
      ⟨some 49, none, .bslice 9 1 [(.t 48)]⟩,
      ⟨some 50, none, .append 9 1 16 (.t 47) (.t 49)⟩,
      ⟨some 6, none, .mov (.t 50)⟩]))))))
    (.region false [
      ⟨some 51, none, .bin .add (.t 24) (.c (.int .i64 1))⟩,
      ⟨some 24, none, .mov (.t 51)⟩])))))))
  (.seq (.region false [
    ⟨some 52, none, .mov (.t 6)⟩,
    ⟨some 4, none, .mov (.t 52)⟩,
    ⟨some 5, none, .mov (.c (.int .i64 0))⟩])
  (.ret)))))
theorem ok_rtexts : FnOk Try.prog 40 Try.f40 ac_rtexts [.t 4, .t 5] 2 drawD := ⟨Try.func40, by decide +kernel, by kernel_rfl, by kernel_rfl, by decide +kernel⟩
theorem vc_rtexts (P : Prim) (hP : P = std) (T T1 : CallT) (base : List UInt8) (l : List Rev) (eP : List Part → List (List V)) (rows : List (List V)) (hrows : rows = revRows eP l)
    (oF : Int → Int → List Part → Int) (hoF : ∀ w q d, oF w q d = oneF ⟨w, q, d⟩) (dS : List Part → List UInt8 → List UInt8) (dE : List Part → List UInt8 → Int) (hdS : ∀ d s, dS d s = (doF d s).1) (hdE : ∀ d s, dE d s = (doF d s).2)
    (hone : ∀ w q d, ⟨w, q, d⟩ ∈ l → Ans T 78 [.agg [.int .i64 w, .int .i64 q, .sl false 3 (eP d)]] (.int .i64 (oF w q d)))
    (hdo : ∀ w q d s, ⟨w, q, d⟩ ∈ l → Ans T1 77 [.sl false 3 (eP d), .str s] (.tup [.str (dS d s), .int .i64 (dE d s)]))
    (t : List (List UInt8)) (e : Int) (ht : textsF base l = (t, e))
    (R : S → Prop) (hR : ∀ x, x = e → RetSl [.t 4, .t 5] 1 (strRows t) [.int .i64 x] R) : awp P T T1 ac_rtexts (S0 [.str base, .sl true 3 rows] Hp.emp) R (fun _ _ => False) R := by
  have hl1 : P.rlen rows = (l.length : Int) := by rw [rlen_eq hP, hrows]; simp [revRows]
  have hb1 : P.slen base = (base.length : Int) := slen_eq hP base
  have hlong : 500 < base.length ∨ 64 < l.length → t = [] ∧ e = 2 := by
    intro h; unfold textsF at ht; rw [if_pos h] at ht; simp only [Prod.mk.injEq] at ht; exact ⟨ht.1.symm, ht.2.symm⟩
  cbv
  refine br_cases (fun h => ?_) (fun h => ?_)
  · have h3 : 500 < P.slen base := lt_t hP h
    rw [hb1] at h3
    obtain ⟨g1, g2⟩ := hlong (.inl (by ((try simp only [nc] at *); omega)))
    cbv
    exact (hR _ g2.symm).1 _ _ (Ent.refl _) rfl (by rw [g1]; rfl)
  have h3 : ¬ 500 < P.slen base := lt_f hP h
  rw [hb1] at h3
  cbv
  refine br_cases (fun h => ?_) (fun h => ?_)
  · have h4 : 64 < P.rlen rows := lt_t hP h
    rw [hl1] at h4
    obtain ⟨g1, g2⟩ := hlong (.inr (by ((try simp only [nc] at *); omega)))
    cbv
    exact (hR _ g2.symm).1 _ _ (Ent.refl _) rfl (by rw [g1]; rfl)
  have h4 : ¬ 64 < P.rlen rows := lt_f hP h
  rw [hl1] at h4
  have hl64 : l.length ≤ 64 := by ((try simp only [nc] at *); omega)
  have ht2 : t = (if (goT base l).2 ≠ 0 then [] else base :: (goT base l).1) ∧ e = (goT base l).2 := by
    unfold textsF at ht
    rw [if_neg (by ((try simp only [nc] at *); omega))] at ht
    split at ht
    · rename_i h; simp only [Prod.mk.injEq] at ht; rw [if_pos h]; exact ⟨ht.1.symm, ht.2.symm⟩
    · rename_i h; simp only [Prod.mk.injEq] at ht; rw [if_neg h]; exact ⟨ht.1.symm, by omega⟩
  obtain ⟨ht3, ht4⟩ := ht2
  clear hlong ht h
  cbv
  intro β21
  cbv
  refine ⟨YTx base l, fun y => [(6, .own 1000021 y.b 1 y.n), (22, .sl true 3 rows), (23, .int .i64 (P.rlen rows)), (24, .int .i64 y.k)],
    fun y => [(1000021, ⟨y.b, 9, 1, y.rows⟩)], fun y => y.rest.length,
    ⟨_, Ent.refl _, ⟨0, [], l, [], base, _, _, _, rfl, rfl, rfl, rfl, rfl, rfl, rfl⟩, ⟨rfl, rfl, rfl, rfl, trivial⟩, ⟨rfl, trivial⟩⟩, ?_⟩
  rintro ⟨k, pre, rest, acc, cur, n, b, rows2, hd, hk, hrows2, hacc, hn, h1, h2⟩
  have hlp : pre.length + rest.length = l.length := by rw [hd]; simp
  cbv
  refine br_cases (fun h => ?_) (fun h => ?_)
  · have h5 : k < P.rlen rows := lt_t hP h
    rw [hl1] at h5
    rcases rest with _ | ⟨⟨w, q, d⟩, rest⟩
    · exfalso; simp at hlp; ((try simp only [nc] at *); omega)
    have hmem : (⟨w, q, d⟩ : Rev) ∈ l := by rw [hd]; simp
    have c1 := hone w q d hmem
    have c2 := hdo w q d cur hmem
    have hrow : P.row rows (P.nat k) [.int .i64 w, .int .i64 q, .sl false 3 (eP d)] := row_of hP hk (by rw [hrows, revRows, List.getElem?_map, hd]; simp)
    have ho1 : P.leP 0 k := le0 hP (by ((try simp only [nc] at *); omega))
    have ho2 : P.i64 (P.add k 1) := by rw [add_eq hP]; exact i64I hP (by ((try simp only [nc] at *); omega))
    have ho5 : P.ltP k (P.int n) := ltI hP (by rw [int_eq hP, hn]; ((try simp only [nc] at *); omega))
    have hrow2 : P.row rows2 (P.nat k) [.str cur] := row_of hP hk (by rw [hrows2, strRows, List.getElem?_map, ← hacc]; simp)
    have ho6 : P.neP rows2 n := by subst hP; show rows2.length = n; rw [hrows2, hn]; simp [strRows, hacc]
    have ho7 : ∀ r, P.bytes (P.add (P.int n) (P.rlen [r])) 16 := by intro r; subst hP; show ((n : Int) + 1) * 16 ≤ _; ((try simp only [nc] at *); omega)
    have ho8 : ∀ r, P.neP [r] 1 := by intro r; subst hP; rfl
    have hstep : goT cur (⟨w, q, d⟩ :: rest) = if oF w q d ≠ 0 then ([], oF w q d) else if dE d cur ≠ 0 then ([], dE d cur) else (dS d cur :: (goT (dS d cur) rest).1, (goT (dS d cur) rest).2) := by rw [hoF, hdE, hdS]; rfl
    rw [hstep] at h1 h2
    clear hone hdo hstep
    cbv
    refine ⟨ho1, _, hrow, ?_⟩
    cbv
    intro β8
    cbv
    refine c1 _ _ ?_
    cbv
    refine br_cases (fun h => ?_) (fun h => ?_)
    · have hz : oF w q d ≠ 0 := ne_t hP h
      rw [if_pos hz] at h2
      simp only [] at h2
      rw [← h2] at ht3 ht4
      rw [if_pos hz] at ht3
      cbv
      exact (hR _ ht4.symm).1 _ _ (Ent.refl _) rfl (by rw [ht3]; rfl)
    have hz : oF w q d = 0 := ne_f hP h
    rw [if_neg (fun h => h hz)] at h1 h2
    cbv
    refine ⟨ho1, ho5, _, hrow2, ?_⟩
    cbv
    refine c2 _ _ ?_
    cbv
    refine br_cases (fun h => ?_) (fun h => ?_)
    · have hy : dE d cur ≠ 0 := ne_t hP h
      rw [if_pos hy] at h2
      simp only [] at h2
      rw [← h2] at ht3 ht4
      rw [if_pos hy] at ht3
      cbv
      exact (hR _ ht4.symm).1 _ _ (Ent.refl _) rfl (by rw [ht3]; rfl)
    have hy : dE d cur = 0 := ne_f hP h
    rw [if_neg (fun h => h hy)] at h1 h2
    cbv
    repeat' (first
      | (refine And.intro (by assumption) ?_; try cbv)
      | (refine And.intro (ho8 _) ?_; try cbv)
      | (refine And.intro (ho7 _) ?_; try cbv)
      | (intro β; try cbv))
    refine ⟨_, Ent.refl _, ⟨_, pre ++ [⟨w, q, d⟩], rest, acc ++ [cur], dS d cur, _, _, _, by simp [hd], ?_, ?_, by simp [hacc], ?_, by rw [← h1]; simp, h2⟩, ⟨rfl, rfl, rfl, rfl, trivial⟩, ⟨rfl, trivial⟩, by simp⟩
    · show P.add k 1 = _; rw [add_eq hP, hk]; simp
    · show P.rapp rows2 [[.str (dS d cur)]] = _
      rw [hrows2]; subst hP; simp [std, strRows]
    · show P.nadd n (P.rlenN [_]) = _
      subst hP; simp [std, hn]
  · have h5 : ¬ k < P.rlen rows := lt_f hP h
    rw [hl1] at h5
    rcases rest with _ | ⟨r, rest⟩
    rotate_left
    · exfalso; simp at hlp; ((try simp only [nc] at *); omega)
    have h2' : (goT base l).2 = 0 := by rw [← h2]; rfl
    rw [h2', if_neg (by decide)] at ht3
    rw [h2'] at ht4
    have h1' : acc ++ [cur] = t := by rw [ht3, ← h1]; simp [goT]
    cbv
    exact (hR _ ht4.symm).2.1 _ _ _ _ _ _ _ (Ent.refl _) rfl rfl ⟨by rw [← h1', hn]; simp [strRows, hacc], by rw [← h1', hrows2]⟩
theorem sp_rtexts (base : List UInt8) (l : List Rev) (hl : RevsOk l) : Spec Try.prog 40 [.str base, .sl true 3 (l.map encRev)] Hp.emp (Is (.tup [.sl false 1 (strRows (textsF base l).1), .int .i64 (textsF base l).2])) :=
  spec_frz dOk ok_rtexts fun R hR => vc_rtexts std rfl _ _ base l (fun d => d.map encPart) _ rfl (fun w q d => oneF ⟨w, q, d⟩) (fun _ _ _ => rfl) (fun d s => (doF d s).1) (fun d s => (doF d s).2) (fun _ _ => rfl) (fun _ _ => rfl)
    (fun w q d hm => ansW (sp_rrev ⟨w, q, d⟩ (hl.2 _ hm).2.2) (fun h => .cons (.same _) .nil) rfl)
    (fun w q d s hm => ansPs (sp_rdo d (hl.2 _ hm).2.2.1 s) rfl rfl) _ _ rfl R (rtx_of hR)

/-! Check, Text -/
def ac_rcheck : AC := .seq (.region false [
    ⟨some 4, none, .mov (.c (.int .i64 0))⟩])
  (.seq (.region false [
    ⟨some 8, none, .mov (.t 0)⟩,
    ⟨some 9, none, .mov (.t 1)⟩,
    ⟨some 10, none, .call 52 [(.t 8), (.t 9)]⟩,
    ⟨some 7, none, .mov (.t 10)⟩,
    ⟨some 11, none, .ext 0 (.t 7)⟩,
    ⟨some 12, none, .ext 1 (.t 7)⟩,
    ⟨some 5, none, .mov (.t 11)⟩,
    ⟨some 6, none, .mov (.t 12)⟩])
  (.seq (.region false [
    ⟨some 13, none, .mov (.t 6)⟩,
    ⟨some 4, none, .mov (.t 13)⟩])
  (.ret)))
theorem ok_rcheck : FnOk Try.prog 48 Try.f48 ac_rcheck [.t 4] 2 drawD := ⟨Try.func48, by decide +kernel, by kernel_rfl, by kernel_rfl, by decide +kernel⟩
theorem vc_rcheck (P : Prim) (hP : P = std) (T T1 : CallT) (base : List UInt8) (rows tr : List (List V)) (e : Int) (hc1 : Ans T 52 [.str base, .sl true 3 rows] (.tup [.sl false 1 tr, .int .i64 e]))
    (R : S → Prop) (hR : ∀ s s', Ent s s' → Ret [.t 4] [.int .i64 e] s' → R s) : awp P T T1 ac_rcheck (S0 [.str base, .sl true 3 rows] Hp.emp) R (fun _ _ => False) R := by
  cbv
  refine hc1 _ _ ?_
  cbv
  exact hR _ _ (Ent.refl _) rfl
theorem sp_rcheck (base : List UInt8) (l : List Rev) (hl : RevsOk l) : Spec Try.prog 48 [.str base, .sl true 3 (l.map encRev)] Hp.emp (Is (.int .i64 (textsF base l).2)) :=
  spec_pure dOk ok_rcheck [.int .i64 (textsF base l).2] (.int _ _) fun R hR => vc_rcheck std rfl _ _ base _ _ _ (ansW (sp_texts base l hl) (fun h => .cons (.same _) (.cons (.same _) .nil)) rfl) R hR
def textF (base : List UInt8) (l : List Rev) (k : Int) : List UInt8 × Int := if (textsF base l).2 ≠ 0 then ([], (textsF base l).2) else if k < 0 ∨ (l.length : Int) < k then ([], 1) else ((textsF base l).1.getD k.toNat [], 0)
def ac_text : AC := .seq (.region false [
    ⟨some 6, none, .mov (.c (.string ⟨#[]⟩))⟩,
    ⟨some 7, none, .mov (.c (.int .i64 0))⟩])
  (.seq (.region false [
    ⟨some 11, none, .mov (.t 0)⟩,
    ⟨some 12, none, .mov (.t 1)⟩,
    ⟨some 13, none, .call 52 [(.t 11), (.t 12)]⟩,
    ⟨some 10, none, .mov (.t 13)⟩,
    ⟨some 14, none, .ext 0 (.t 10)⟩,
    ⟨some 15, none, .ext 1 (.t 10)⟩,
    ⟨some 8, none, .mov (.t 14)⟩,
    ⟨some 9, none, .mov (.t 15)⟩])
  (.seq (.seq (.region false [
    ⟨some 16, none, .mov (.t 9)⟩,
    ⟨some 17, none, .bin .neq (.t 16) (.c (.int .i64 0))⟩])
  (.cond (.t 17)
    (.seq (.region false [
      ⟨some 18, none, .mov (.t 9)⟩,
      ⟨some 6, none, .mov (.c (.string ⟨#[]⟩))⟩,
      ⟨some 7, none, .mov (.t 18)⟩])
    (.ret))
    (.skip)))
  (.seq (.seq (.region false [
    ⟨some 19, none, .mov (.t 2)⟩,
    ⟨some 20, none, .bin .lss (.t 19) (.c (.int .i64 0))⟩,
    ⟨some 21, none, .mov (.t 20)⟩,
    ⟨some 22, some (21, false), .mov (.t 2)⟩,
    ⟨some 23, some (21, false), .mov (.t 1)⟩,
    ⟨some 24, some (21, false), .len false (.t 23)⟩,
    ⟨some 25, some (21, false), .bin .gtr (.t 22) (.t 24)⟩,
    ⟨some 26, none, .pick (.t 21) (.c (.bool true)) (.t 25)⟩])
  (.cond (.t 26)
    (.seq (.region false [
      ⟨some 6, none, .mov (.c (.string ⟨#[]⟩))⟩,
      ⟨some 7, none, .mov (.c (.int .i64 1))⟩])
    (.ret))
    (.skip)))
  (.seq (.region false [
    ⟨some 27, none, .mov (.t 8)⟩,
    ⟨some 28, none, .mov (.t 2)⟩,
    ⟨some 29, none, .iaddr 1 (.t 27) (.t 28)⟩,
    ⟨some 30, none, .load1 (.t 29)⟩,
    ⟨some 6, none, .mov (.t 30)⟩,
    ⟨some 7, none, .mov (.c (.int .i64 0))⟩])
  (.ret)))))
theorem ok_text : FnOk Try.prog 12 Try.f12 ac_text [.t 6, .t 7] 3 drawD := ⟨Try.func12, by decide +kernel, by kernel_rfl, by kernel_rfl, by decide +kernel⟩
theorem vc_text (P : Prim) (hP : P = std) (T T1 : CallT) (base : List UInt8) (rows tr : List (List V)) (e k n : Int) (s : List UInt8) (hn : P.rlen rows = n) (hc1 : Ans T 52 [.str base, .sl true 3 rows] (.tup [.sl false 1 tr, .int .i64 e]))
    (r : List UInt8) (f : Int) (h1 : e ≠ 0 → r = [] ∧ e = f) (h2 : e = 0 → k < 0 ∨ n < k → r = [] ∧ 1 = f) (h3 : e = 0 → 0 ≤ k → k ≤ n → P.row tr (P.nat k) [.str s] ∧ s = r ∧ 0 = f)
    (R : S → Prop) (hR : ∀ s s' x y, x = r ∧ y = f → Ent s s' → Ret [.t 6, .t 7] [.str x, .int .i64 y] s' → R s) : awp P T T1 ac_text (S0 [.str base, .sl true 3 rows, .int .i64 k] Hp.emp) R (fun _ _ => False) R := by
  cbv
  refine hc1 _ _ ?_
  cbv
  refine br_cases (fun h => ?_) (fun h => ?_)
  · have hz := ne_t hP h
    cbv
    exact hR _ _ _ _ ⟨(h1 hz).1.symm, (h1 hz).2⟩ (Ent.refl _) rfl
  have hz := ne_f hP h
  cbv
  refine br_cases (fun h => ?_) (fun h => ?_)
  · have hk := lt_t hP h
    cbv
    exact hR _ _ _ _ ⟨(h2 hz (.inl hk)).1.symm, (h2 hz (.inl hk)).2⟩ (Ent.refl _) rfl
  have hk := lt_f hP h
  cbv
  refine br_cases (fun h => ?_) (fun h => ?_)
  · have hk2 : P.rlen rows < k := lt_t hP h
    rw [hn] at hk2
    cbv
    exact hR _ _ _ _ ⟨(h2 hz (.inr hk2)).1.symm, (h2 hz (.inr hk2)).2⟩ (Ent.refl _) rfl
  have hk2 : ¬ P.rlen rows < k := lt_f hP h
  rw [hn] at hk2
  obtain ⟨g1, g2, g3⟩ := h3 hz (by omega) (by omega)
  have ho1 : P.leP 0 k := le0 hP (by omega)
  cbv
  refine ⟨ho1, _, g1, ?_⟩
  cbv
  exact hR _ _ _ _ ⟨g2, g3⟩ (Ent.refl _) rfl
theorem textsF_row {base : List UInt8} {l : List Rev} {k : Int} (he : (textsF base l).2 = 0) (h0 : 0 ≤ k) (h1 : k ≤ l.length) : (textsF base l).1[k.toNat]? = some ((textsF base l).1.getD k.toNat []) := by
  obtain ⟨_, _, _, _, h⟩ := textsF_ok he
  rw [List.getD_eq_getElem?_getD, List.getElem?_eq_getElem (by omega)]; rfl
theorem sp_text (base : List UInt8) (l : List Rev) (k : Int) (hl : RevsOk l) : Spec Try.prog 12 [.str base, .sl true 3 (l.map encRev), .int .i64 k] Hp.emp (Is (.tup [.str (textF base l k).1, .int .i64 (textF base l k).2])) :=
  spec_pure dOk ok_text [.str (textF base l k).1, .int .i64 (textF base l k).2] (.tup _ (by simp; exact ⟨.str _, .int _ _⟩)) fun R hR => vc_text std rfl _ _ base _ (strRows (textsF base l).1) (textsF base l).2 k l.length ((textsF base l).1.getD k.toNat []) (by show ((l.map encRev).length : Int) = _; simp)
    (ansW (sp_texts base l hl) (fun h => .cons (.same _) (.cons (.same _) .nil)) rfl) (textF base l k).1 (textF base l k).2 (fun h => by unfold textF; rw [if_pos h]; exact ⟨rfl, rfl⟩) (fun h h' => by unfold textF; rw [if_neg (fun g => g h), if_pos h']; exact ⟨rfl, rfl⟩)
    (fun h h0 h1 => by
      refine ⟨row_of rfl (i := k.toNat) (by omega) (by rw [strRows, List.getElem?_map, textsF_row h h0 h1]; rfl), ?_⟩
      unfold textF; rw [if_neg (fun g => g h), if_neg (by omega)]; exact ⟨rfl, rfl⟩)
    R fun s s' x y h he hr => by obtain ⟨rfl, rfl⟩ := h; exact hR s s' he hr

/-! the law RevsChecks -/
structure YLr (l : List Rev) where
  k : Int
  pre : List Rev
  rest : List Rev
  hd : l = pre ++ rest
  hk : k = (pre.length : Int)
theorem ansStr {f : Nat} {s : List UInt8} {rows : List (List V)} {sz : Nat} {vs : List V} {v : V} (h : Spec Try.prog f (.str s :: .sl true sz rows :: vs) Hp.emp (Is v)) (hv : v.ren (lab []) = v) (hvs : vs.all V.pl = true) : Ans (CallE Try.prog) f (.str s :: .sl false sz rows :: vs) v := ansW h (fun _ => .cons (.same _) (.cons (.weak _ _) (args_plain hvs))) hv
end Go.Proofs.Ytobngncjflogcaa.AM
