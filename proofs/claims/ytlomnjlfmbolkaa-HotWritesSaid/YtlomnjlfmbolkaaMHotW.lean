/-
  What a slot is written as: hot.Head, hot.Rev, hot.Done, the document's Head, RevFrame, DoneFrame, and the law HotWrites. (Printed by gen_hotw.py.)
-/
import Derived.Test.YtlomnjlfmbolkaaMHot
import Derived.Test.YtlomnjlfmbolkaaMCode
import Derived.Test.YtlomnjlfmbolkaaMFrame
set_option linter.unusedVariables false
set_option linter.unusedSimpArgs false
namespace Go.Proofs.Ytlomnjlfmbolkaa.AM
open Go Go.RowKit
set_option maxRecDepth 100000
set_option maxHeartbeats 2000000
/-! the plain law -/
def inR (n : Int) : Prop := 0 ≤ n ∧ n ≤ 2147483647
instance (n : Int) : Decidable (inR n) := inferInstanceAs (Decidable (_ ∧ _))
def numsL (l : List Int) : List UInt8 := (l.map fun n => numL n.toNat).flatten
def numsF (l : List Int) : List UInt8 × Bool := if ∀ n ∈ l, inR n then (numsL l, true) else ([], false)
def flatL (g b : Int) (t : Nat → Int) : List Int := [g, b, t 0, t 1, t 2, t 3, t 4, t 5, t 6, t 7, t 8, t 9, t 10, t 11, t 12, t 13, t 14, t 15]
def headF (g b : Int) (tx : List UInt8) (t : Nat → Int) : List UInt8 × Int :=
  if ∀ n ∈ flatL g b t, inR n then (if 500 < tx.length then ([], 2) else putFr 1 (numsL (flatL g b t) ++ tx)) else ([], 1)
def revF (r : Rev) : List UInt8 × Int := if oneF r ≠ 0 then ([], oneF r) else putFr 2 (numL r.who.toNat ++ numL r.seq.toNat ++ codeF r.delta)
theorem numsL_len (l : List Int) : (numsL l).length ≤ 5 * l.length := by
  induction l with
  | nil => simp [numsL]
  | cons a l ih =>
    have := numL_len a.toNat
    simp only [numsL, List.map_cons, List.flatten_cons, List.length_append, List.length_cons] at ih ⊢
    omega
theorem numsL_app (a : List Int) (n : Int) : numsL (a ++ [n]) = numsL a ++ numL n.toNat := by simp [numsL]
theorem flat_len (g b : Int) (t : Nat → Int) : (flatL g b t).length = 18 := rfl
/-! nums -/
def ac_nums : AC := .seq (.region false [
    ⟨some 2, none, .mov (.c (.string ⟨#[]⟩))⟩,
    ⟨some 3, none, .mov (.c (.bool false))⟩])
  (.seq (.region false [
    ⟨some 4, none, .mov (.c (.string ⟨#[]⟩))⟩])
  (.seq (.seq (.region false [
    ⟨some 9, none, .mov (.t 0)⟩,
    ⟨some 10, none, .len false (.t 9)⟩,
    ⟨some 11, none, .mov (.c (.int .i64 0))⟩])
  (.block 0 (.loop (.seq (.region false [
      ⟨some 12, none, .bin .lss (.t 11) (.t 10)⟩])
    (.seq (.cond (.t 12)
      (.skip)
      (.exit 0))
    (.seq (.block 1 (.seq (.region false [
      ⟨some 13, none, .iaddr 1 (.t 9) (.t 11)⟩,
      ⟨some 14, none, .load1 (.t 13)⟩,
      ⟨some 6, none, .mov (.t 14)⟩])
    (.seq (.region false [
      ⟨some 16, none, .mov (.t 6)⟩,
      ⟨some 17, none, .call 85 [(.t 16)]⟩,
      ⟨some 15, none, .mov (.t 17)⟩,
      ⟨some 18, none, .ext 0 (.t 15)⟩,
      ⟨some 19, none, .ext 1 (.t 15)⟩,
      ⟨some 7, none, .mov (.t 18)⟩,
      ⟨some 8, none, .mov (.t 19)⟩])
    (.seq (.seq (.region false [
      ⟨some 20, none, .mov (.t 8)⟩,
      ⟨some 21, none, .bin .neq (.t 20) (.c (.int .i64 0))⟩])
    (.cond (.t 21)
      (.seq (.region false [
        ⟨some 2, none, .mov (.c (.string ⟨#[]⟩))⟩,
        ⟨some 3, none, .mov (.c (.bool false))⟩])
      (.ret))
      (.skip)))
    (.region false [
      ⟨some 22, none, .mov (.t 4)⟩,
      ⟨some 23, none, .mov (.t 7)⟩,
      ⟨some 24, none, .bin .add (.t 22) (.t 23)⟩,
      ⟨some 4, none, .mov (.t 24)⟩])))))
    (.region false [
      ⟨some 25, none, .bin .add (.t 11) (.c (.int .i64 1))⟩,
      ⟨some 11, none, .mov (.t 25)⟩])))))))
  (.seq (.region false [
    ⟨some 26, none, .mov (.t 4)⟩,
    ⟨some 2, none, .mov (.t 26)⟩,
    ⟨some 3, none, .mov (.c (.bool true))⟩])
  (.ret))))
theorem ok_nums : FnOk Try.prog 74 Try.f74 ac_nums [.t 2, .t 3] 1 drawD := ⟨Try.func74, by decide +kernel, by kernel_rfl, by kernel_rfl, by decide +kernel⟩
structure YNm (l : List Int) where
  k : Int
  pre : List Int
  rest : List Int
  o : List UInt8
  hd : l = pre ++ rest
  hk : k = (pre.length : Int)
  ho : o = numsL pre
  hin : ∀ n ∈ pre, inR n
theorem vc_nums (P : Prim) (hP : P = std) (T T1 : CallT) (l : List Int) (hl : l.length ≤ 1000) (rows : List (List V)) (hrows : rows = iRows l) (pS : Int → List UInt8) (pE : Int → Int)
    (h1 : ∀ n, Ans T 85 [.int .i64 n] (.tup [.str (pS n), .int .i64 (pE n)])) (hp0 : ∀ n, pE n = 0 → inR n ∧ pS n = numL n.toNat) (hp1 : ∀ n, pE n ≠ 0 → ¬ inR n)
    (r : List UInt8) (e : Bool) (hr : numsF l = (r, e))
    (R : S → Prop) (hR : ∀ s0 s' x y, x = r ∧ y = e → Ent s0 s' → Ret [.t 2, .t 3] [.str x, .bool y] s' → R s0) : awp P T T1 ac_nums (S0 [.sl true 1 rows] Hp.emp) R (fun _ _ => False) R := by
  have hl1 : P.rlen rows = (l.length : Int) := by rw [rlen_eq hP, hrows]; simp [iRows]
  cbv
  refine ⟨YNm l, fun y => [(4, .str y.o), (9, .sl true 1 rows), (10, .int .i64 (P.rlen rows)), (11, .int .i64 y.k)], fun y => [], fun y => y.rest.length,
    ⟨_, Ent.refl _, ⟨0, [], l, [], rfl, rfl, rfl, by simp⟩, ⟨rfl, rfl, rfl, rfl, trivial⟩, trivial⟩, ?_⟩
  rintro ⟨k, pre, rest, o, hd, hk, ho, hin⟩
  replace hk : k = (pre.length : Int) := hk
  have hlp : pre.length + rest.length = l.length := by rw [hd]; simp
  cbv
  refine br_cases (fun h => ?_) (fun h => ?_)
  · have h6 : k < P.rlen rows := lt_t hP h
    rw [hl1] at h6
    rcases rest with _ | ⟨n, rest⟩
    · exfalso; simp at hlp; ((try simp only [nc] at *); omega)
    have hrow : P.row rows (P.nat k) [.int .i64 n] := row_of hP hk (by rw [hrows, iRows, List.getElem?_map, hd]; simp)
    have k1 : P.leP 0 k := le0 hP (by ((try simp only [nc] at *); omega))
    have k2 : P.i64 (P.add k 1) := by rw [add_eq hP]; exact i64I hP (by ((try simp only [nc] at *); omega))
    have k3 : P.add k 1 = (((pre ++ [n]).length : Nat) : Int) := by rw [add_eq hP, hk]; simp
    have c1 := h1 n
    have o1 := numsL_len pre
    cbv
    refine ⟨k1, _, hrow, ?_⟩
    cbv
    refine c1 _ _ ?_
    cbv
    refine br_cases (fun h => ?_) (fun h => ?_)
    · have g := hp1 n (ne_t hP h)
      unfold numsF at hr
      rw [if_neg (fun x => g (x n (by rw [hd]; simp)))] at hr
      cbv
      exact hR _ _ _ _ (by simpa using hr) (Ent.refl _) rfl
    have g := hp0 n (ne_f hP h)
    have o2 : P.i64 (P.add (P.slen o) (P.slen (pS n))) := by
      rw [add_eq hP, slen_eq hP, slen_eq hP, ho, g.2]
      have := numL_len n.toNat
      exact i64I hP (by ((try simp only [nc] at *); omega))
    have o3 : P.sapp o (pS n) = numsL (pre ++ [n]) := by rw [sapp_eq hP, numsL_app, ho, g.2]
    have o4 : ∀ x ∈ pre ++ [n], inR x := by
      intro x hx
      rcases List.mem_append.1 hx with hx | hx
      · exact hin x hx
      · rw [List.mem_singleton.1 hx]; exact g.1
    cbv
    refine ⟨o2, ?_⟩
    cbv
    refine ⟨k2, ?_⟩
    exact ⟨_, Ent.refl _, ⟨_, pre ++ [n], rest, _, by simp [hd], k3, o3, o4⟩, ⟨rfl, rfl, rfl, rfl, trivial⟩, trivial, by simp⟩
  · have h6 : ¬ k < P.rlen rows := lt_f hP h
    rw [hl1] at h6
    rcases rest with _ | ⟨y, rest⟩
    rotate_left
    · exfalso; simp at hlp; ((try simp only [nc] at *); omega)
    rw [List.append_nil] at hd
    subst hd
    unfold numsF at hr
    rw [if_pos hin, ← ho] at hr
    cbv
    exact hR _ _ _ _ (by simpa using hr) (Ent.refl _) rfl
theorem put_in {n : Int} (h : (putF n).2 = 0) : inR n ∧ (putF n).1 = numL n.toNat := by
  unfold putF at h ⊢
  by_cases hn : n < 0 ∨ 2147483647 < n
  · rw [if_pos hn] at h; exact absurd h (by decide)
  · rw [if_neg hn]; exact ⟨by unfold inR; omega, rfl⟩
theorem put_out {n : Int} (h : (putF n).2 ≠ 0) : ¬ inR n := by
  unfold putF at h
  by_cases hn : n < 0 ∨ 2147483647 < n
  · unfold inR; omega
  · rw [if_neg hn] at h; exact absurd rfl h
theorem sp_nums (l : List Int) (hl : l.length ≤ 1000) : Spec Try.prog 74 [.sl true 1 (iRows l)] Hp.emp (Is (.tup [.str (numsF l).1, .bool (numsF l).2])) :=
  spec_pure dOk ok_nums [.str (numsF l).1, .bool (numsF l).2] (.tup _ (by simp; exact ⟨.str _, .bool _⟩)) fun R hR => vc_nums std rfl _ _ l hl _ rfl (fun n => (putF n).1) (fun n => (putF n).2)
    (fun n => ansSame (sp_nput n) rfl rfl) (fun n => put_in) (fun n => put_out) _ _ rfl R fun s0 s' x y h he hr => by obtain ⟨rfl, rfl⟩ := h; exact hR s0 s' he hr
/-! flat -/
def ac_flat : AC := .seq (.region false [
    ⟨some 5, none, .box 77 16 (.t 2)⟩,
    ⟨some 6, none, .mov (.c (.slice none 0 0))⟩])
  (.seq (.region false [
    ⟨some 10, none, .mov (.t 0)⟩,
    ⟨some 11, none, .mov (.t 1)⟩,
    ⟨some 12, none, .bslice 3 1 [(.t 10), (.t 11)]⟩,
    ⟨some 7, none, .mov (.t 12)⟩])
  (.seq (.seq (.region false [
    ⟨some 13, none, .loadn 16 (.t 5)⟩,
    ⟨some 14, none, .mov (.c (.int .i64 0))⟩])
  (.block 0 (.loop (.seq (.region false [
      ⟨some 15, none, .bin .lss (.t 14) (.c (.int .i64 8))⟩])
    (.seq (.cond (.t 15)
      (.skip)
      (.exit 0))
    (.seq (.block 1 (.seq (.region false [
      ⟨some 16, none, .ixa true 8 2 (.t 13) (.t 14)⟩,
      ⟨some 9, none, .alloc 76 [(.int .i64 0), (.int .i64 0)]⟩,
      ⟨none, none, .store 2 (.t 9) (.t 16)⟩])
    (.region false [
      ⟨some 17, none, .mov (.t 7)⟩,
      ⟨some 18, none, .faddr 0 (.t 9)⟩,
      ⟨some 19, none, .load1 (.t 18)⟩,
      ⟨some 20, none, .faddr 1 (.t 9)⟩,
      ⟨some 21, none, .load1 (.t 20)⟩,
      ⟨some 22, none, .bslice 3 1 [(.t 19), (.t 21)]⟩,
      ⟨some 23, none, .append 3 1 8 (.t 17) (.t 22)⟩,
      ⟨some 7, none, .mov (.t 23)⟩])))
    (.region false [
      ⟨some 24, none, .bin .add (.t 14) (.c (.int .i64 1))⟩,
      ⟨some 14, none, .mov (.t 24)⟩])))))))
  (.seq (.region false [
    ⟨some 25, none, .mov (.t 7)⟩,
    ⟨some 6, none, .mov (.t 25)⟩])
  (.ret))))
theorem ok_flat : FnOk Try.prog 75 Try.f75 ac_flat [.t 6] 3 drawD := ⟨Try.func75, by decide +kernel, by kernel_rfl, by kernel_rfl, by decide +kernel⟩
structure YFt (L : List Int) where
  m : Nat
  k : Int
  b : Option Nat
  c : Nat
  rows : List (List V)
  hm : m ≤ 8
  hk : k = (m : Int)
  hrows : rows = iRows (L.take (2 + 2 * m))
  hc : c = 2 + 2 * m
theorem vc_flat (P : Prim) (hP : P = std) (T T1 : CallT) (g b : Int) (t : Nat → Int)
    (R : S → Prop) (hR : RetSl [.t 6] 1 (iRows (flatL g b t)) [] R) : awp P T T1 ac_flat (S0 [.int .i64 g, .int .i64 b, .agg [.int .i64 (t 0), .int .i64 (t 1), .int .i64 (t 2), .int .i64 (t 3), .int .i64 (t 4), .int .i64 (t 5), .int .i64 (t 6), .int .i64 (t 7), .int .i64 (t 8), .int .i64 (t 9), .int .i64 (t 10), .int .i64 (t 11), .int .i64 (t 12), .int .i64 (t 13), .int .i64 (t 14), .int .i64 (t 15)]] Hp.emp) R (fun _ _ => False) R := by
  have hN : ∀ n : Nat, P.nat (n : Int) = n := by intro n; subst hP; rfl
  cbv
  intro β
  cbv
  repeat' (first
    | (refine And.intro (by first | assumption | decide) ?_; try cbv)
    | (intro β2; try cbv))
  refine ⟨YFt (flatL g b t), fun y => [(7, .own 1000012 y.b 1 y.c), (13, .agg [.int .i64 (t 0), .int .i64 (t 1), .int .i64 (t 2), .int .i64 (t 3), .int .i64 (t 4), .int .i64 (t 5), .int .i64 (t 6), .int .i64 (t 7), .int .i64 (t 8), .int .i64 (t 9), .int .i64 (t 10), .int .i64 (t 11), .int .i64 (t 12), .int .i64 (t 13), .int .i64 (t 14), .int .i64 (t 15)]), (14, .int .i64 y.k)], fun y => [(1000012, ⟨y.b, 3, 1, y.rows⟩)], fun y => 8 - y.m,
    ⟨_, Ent.refl _, ⟨0, 0, _, _, _, by omega, rfl, rfl, rfl⟩, ⟨rfl, rfl, rfl, trivial⟩, ⟨rfl, trivial⟩⟩, ?_⟩
  rintro ⟨m, k, bb, c, rows, hm, hk, hrows, hc⟩
  cbv
  refine br_cases (fun h => ?_) (fun h => ?_)
  · have h5 : k < 8 := lt_t hP h
    replace hm : m < 8 := by ((try simp only [nc] at *); omega)
    have k0 : P.leP 0 k := le0 hP (by ((try simp only [nc] at *); omega))
    have k1 : P.ltP k 8 := ltI hP (by ((try simp only [nc] at *); omega))
    have k2 : P.i64 (P.add k 1) := by rw [add_eq hP]; exact i64I hP (by ((try simp only [nc] at *); omega))
    have k3 : P.add k 1 = ((m + 1 : Nat) : Int) := by rw [add_eq hP, hk]; ((try simp only [nc] at *); omega)
    have k4 : P.nat k = m := by rw [hk]; exact hN m
    have f4 : P.neP rows c := neP_of hP _ _ (by rw [hrows, hc]; simp [iRows, flat_len]; omega)
    have f5 : ∀ r : List (List V), r.length = 2 → P.bytes (P.add (P.int c) (P.rlen r)) 8 := by intro r hr2; subst hP; show ((c : Int) + (r.length : Int)) * 8 ≤ _; rw [hc, hr2]; ((try simp only [nc] at *); omega)
    have f6 : ∀ x y : List V, P.neP [x, y] 2 := fun x y => neP_of hP _ _ rfl
    have f7 : P.rapp rows [[.int .i64 (t (2 * m))], [.int .i64 (t (2 * m + 1))]] = iRows ((flatL g b t).take (2 + 2 * (m + 1))) := by
      rw [hrows]
      subst hP
      have hc : m = 0 ∨ m = 1 ∨ m = 2 ∨ m = 3 ∨ m = 4 ∨ m = 5 ∨ m = 6 ∨ m = 7 := by omega
      rcases hc with rfl | rfl | rfl | rfl | rfl | rfl | rfl | rfl <;> rfl
    have f8 : ∀ x y : List V, P.nadd c (P.rlenN [x, y]) = 2 + 2 * (m + 1) := by intro x y; subst hP; show c + 2 = _; omega
    clear hR h5 h
    have hc : m = 0 ∨ m = 1 ∨ m = 2 ∨ m = 3 ∨ m = 4 ∨ m = 5 ∨ m = 6 ∨ m = 7 := by omega
    rcases hc with rfl | rfl | rfl | rfl | rfl | rfl | rfl | rfl
    · cbv
      refine ⟨k0, k1, 0, k4, ?_⟩
      cbv
      repeat' (first
        | (refine And.intro (by first | assumption | decide | exact f6 _ _ | exact f5 _ rfl) ?_; try cbv)
        | (intro β; try cbv))
      exact ⟨_, Ent.refl _, ⟨0 + 1, _, _, _, _, by decide, k3, f7, f8 _ _⟩, ⟨rfl, rfl, rfl, trivial⟩, ⟨rfl, trivial⟩, by show 8 - (0 + 1) < 8 - 0; decide⟩
    · cbv
      refine ⟨k0, k1, 1, k4, ?_⟩
      cbv
      repeat' (first
        | (refine And.intro (by first | assumption | decide | exact f6 _ _ | exact f5 _ rfl) ?_; try cbv)
        | (intro β; try cbv))
      exact ⟨_, Ent.refl _, ⟨1 + 1, _, _, _, _, by decide, k3, f7, f8 _ _⟩, ⟨rfl, rfl, rfl, trivial⟩, ⟨rfl, trivial⟩, by show 8 - (1 + 1) < 8 - 1; decide⟩
    · cbv
      refine ⟨k0, k1, 2, k4, ?_⟩
      cbv
      repeat' (first
        | (refine And.intro (by first | assumption | decide | exact f6 _ _ | exact f5 _ rfl) ?_; try cbv)
        | (intro β; try cbv))
      exact ⟨_, Ent.refl _, ⟨2 + 1, _, _, _, _, by decide, k3, f7, f8 _ _⟩, ⟨rfl, rfl, rfl, trivial⟩, ⟨rfl, trivial⟩, by show 8 - (2 + 1) < 8 - 2; decide⟩
    · cbv
      refine ⟨k0, k1, 3, k4, ?_⟩
      cbv
      repeat' (first
        | (refine And.intro (by first | assumption | decide | exact f6 _ _ | exact f5 _ rfl) ?_; try cbv)
        | (intro β; try cbv))
      exact ⟨_, Ent.refl _, ⟨3 + 1, _, _, _, _, by decide, k3, f7, f8 _ _⟩, ⟨rfl, rfl, rfl, trivial⟩, ⟨rfl, trivial⟩, by show 8 - (3 + 1) < 8 - 3; decide⟩
    · cbv
      refine ⟨k0, k1, 4, k4, ?_⟩
      cbv
      repeat' (first
        | (refine And.intro (by first | assumption | decide | exact f6 _ _ | exact f5 _ rfl) ?_; try cbv)
        | (intro β; try cbv))
      exact ⟨_, Ent.refl _, ⟨4 + 1, _, _, _, _, by decide, k3, f7, f8 _ _⟩, ⟨rfl, rfl, rfl, trivial⟩, ⟨rfl, trivial⟩, by show 8 - (4 + 1) < 8 - 4; decide⟩
    · cbv
      refine ⟨k0, k1, 5, k4, ?_⟩
      cbv
      repeat' (first
        | (refine And.intro (by first | assumption | decide | exact f6 _ _ | exact f5 _ rfl) ?_; try cbv)
        | (intro β; try cbv))
      exact ⟨_, Ent.refl _, ⟨5 + 1, _, _, _, _, by decide, k3, f7, f8 _ _⟩, ⟨rfl, rfl, rfl, trivial⟩, ⟨rfl, trivial⟩, by show 8 - (5 + 1) < 8 - 5; decide⟩
    · cbv
      refine ⟨k0, k1, 6, k4, ?_⟩
      cbv
      repeat' (first
        | (refine And.intro (by first | assumption | decide | exact f6 _ _ | exact f5 _ rfl) ?_; try cbv)
        | (intro β; try cbv))
      exact ⟨_, Ent.refl _, ⟨6 + 1, _, _, _, _, by decide, k3, f7, f8 _ _⟩, ⟨rfl, rfl, rfl, trivial⟩, ⟨rfl, trivial⟩, by show 8 - (6 + 1) < 8 - 6; decide⟩
    · cbv
      refine ⟨k0, k1, 7, k4, ?_⟩
      cbv
      repeat' (first
        | (refine And.intro (by first | assumption | decide | exact f6 _ _ | exact f5 _ rfl) ?_; try cbv)
        | (intro β; try cbv))
      exact ⟨_, Ent.refl _, ⟨7 + 1, _, _, _, _, by decide, k3, f7, f8 _ _⟩, ⟨rfl, rfl, rfl, trivial⟩, ⟨rfl, trivial⟩, by show 8 - (7 + 1) < 8 - 7; decide⟩
  · have h5 : ¬ k < 8 := lt_f hP h
    have hm8 : m = 8 := by ((try simp only [nc] at *); omega)
    have e1 : rows = iRows (flatL g b t) := by rw [hrows, hm8]; rfl
    cbv
    exact hR.2.1 _ _ _ _ _ _ _ (Ent.refl _) rfl rfl ⟨by rw [hc, hm8]; rfl, e1⟩
theorem sp_flat (g b : Int) (t : Nat → Int) : Spec Try.prog 75 [.int .i64 g, .int .i64 b, tabV t] Hp.emp (Is (.sl false 1 (iRows (flatL g b t)))) :=
  spec_frz dOk ok_flat fun R hR => vc_flat std rfl _ _ g b t R (retSl_of (iRows_sz _) (iRows_fz _) (by simp) hR)
/-! Head -/
def ac_hhead : AC := .seq (.region false [
    ⟨some 7, none, .box 77 16 (.t 3)⟩,
    ⟨some 8, none, .mov (.c (.string ⟨#[]⟩))⟩,
    ⟨some 9, none, .mov (.c (.int .i64 0))⟩])
  (.seq (.region false [
    ⟨some 13, none, .mov (.t 0)⟩,
    ⟨some 14, none, .mov (.t 1)⟩,
    ⟨some 15, none, .loadn 16 (.t 7)⟩,
    ⟨some 16, none, .call 75 [(.t 13), (.t 14), (.t 15)]⟩,
    ⟨some 17, none, .call 74 [(.t 16)]⟩,
    ⟨some 12, none, .mov (.t 17)⟩,
    ⟨some 18, none, .ext 0 (.t 12)⟩,
    ⟨some 19, none, .ext 1 (.t 12)⟩,
    ⟨some 10, none, .mov (.t 18)⟩,
    ⟨some 11, none, .mov (.t 19)⟩])
  (.seq (.seq (.region false [
    ⟨some 20, none, .mov (.t 11)⟩,
    ⟨some 21, none, .not (.t 20)⟩])
  (.cond (.t 21)
    (.seq (.region false [
      ⟨some 8, none, .mov (.c (.string ⟨#[]⟩))⟩,
      ⟨some 9, none, .mov (.c (.int .i64 1))⟩])
    (.ret))
    (.skip)))
  (.seq (.seq (.region false [
    ⟨some 22, none, .mov (.t 2)⟩,
    ⟨some 23, none, .len true (.t 22)⟩,
    ⟨some 24, none, .bin .gtr (.t 23) (.c (.int .i64 500))⟩])
  (.cond (.t 24)
    (.seq (.region false [
      ⟨some 8, none, .mov (.c (.string ⟨#[]⟩))⟩,
      ⟨some 9, none, .mov (.c (.int .i64 2))⟩])
    (.ret))
    (.skip)))
  (.seq (.region false [
    ⟨some 25, none, .mov (.t 10)⟩,
    ⟨some 26, none, .mov (.t 2)⟩,
    ⟨some 27, none, .bin .add (.t 25) (.t 26)⟩,
    ⟨some 28, none, .build [(.int .i64 0), (.string ⟨#[]⟩)] [(0, 1, (.c (.int .i64 1))), (1, 1, (.t 27))]⟩,
    ⟨some 29, none, .call 15 [(.t 28)]⟩,
    ⟨some 30, none, .ext 0 (.t 29)⟩,
    ⟨some 31, none, .ext 1 (.t 29)⟩,
    ⟨some 8, none, .mov (.t 30)⟩,
    ⟨some 9, none, .mov (.t 31)⟩])
  (.ret)))))
theorem ok_hhead : FnOk Try.prog 40 Try.f40 ac_hhead [.t 8, .t 9] 4 drawD := ⟨Try.func40, by decide +kernel, by kernel_rfl, by kernel_rfl, by decide +kernel⟩
theorem vc_hhead (P : Prim) (hP : P = std) (T T1 : CallT) (g b : Int) (tx : List UInt8) (htx : tx.length ≤ maxLen) (t : Nat → Int) (fr : List (List V)) (o : List UInt8) (ok : Bool) (ho : o.length ≤ 100)
    (h1 : Ans T 75 [.int .i64 g, .int .i64 b, .agg [.int .i64 (t 0), .int .i64 (t 1), .int .i64 (t 2), .int .i64 (t 3), .int .i64 (t 4), .int .i64 (t 5), .int .i64 (t 6), .int .i64 (t 7), .int .i64 (t 8), .int .i64 (t 9), .int .i64 (t 10), .int .i64 (t 11), .int .i64 (t 12), .int .i64 (t 13), .int .i64 (t 14), .int .i64 (t 15)]] (.sl false 1 fr)) (h2 : Ans T 74 [.sl false 1 fr] (.tup [.str o, .bool ok]))
    (uF : List UInt8 → List UInt8) (eF : List UInt8 → Int) (h3 : ∀ s, Ans T 15 [.agg [.int .i64 1, .str s]] (.tup [.str (uF s), .int .i64 (eF s)]))
    (r : List UInt8) (e : Int) (hr : (if ok then (if 500 < tx.length then ([], 2) else (uF (o ++ tx), eF (o ++ tx))) else ([], 1)) = (r, e))
    (R : S → Prop) (hR : ∀ s0 s' x y, x = r ∧ y = e → Ent s0 s' → Ret [.t 8, .t 9] [.str x, .int .i64 y] s' → R s0) : awp P T T1 ac_hhead (S0 [.int .i64 g, .int .i64 b, .str tx, .agg [.int .i64 (t 0), .int .i64 (t 1), .int .i64 (t 2), .int .i64 (t 3), .int .i64 (t 4), .int .i64 (t 5), .int .i64 (t 6), .int .i64 (t 7), .int .i64 (t 8), .int .i64 (t 9), .int .i64 (t 10), .int .i64 (t 11), .int .i64 (t 12), .int .i64 (t 13), .int .i64 (t 14), .int .i64 (t 15)]] Hp.emp) R (fun _ _ => False) R := by
  have hsp : P.slen tx = (tx.length : Int) := slen_eq hP tx
  cbv
  intro β
  cbv
  repeat' (first
    | (refine And.intro (by first | assumption | decide) ?_; try cbv)
    | (intro β2; try cbv))
  refine h1 _ _ ?_
  cbv
  refine h2 _ _ ?_
  cbv
  refine br_cases (fun h => ?_) (fun h => ?_)
  · rw [if_pos h] at hr
    cbv
    refine br_cases (fun h => ?_) (fun h => ?_)
    · have h6 : 500 < P.slen tx := lt_t hP h
      rw [hsp] at h6
      rw [if_pos (by ((try simp only [nc] at *); omega))] at hr
      cbv
      exact hR _ _ _ _ (by simpa using hr) (Ent.refl _) rfl
    · have h6 : ¬ 500 < P.slen tx := lt_f hP h
      rw [hsp] at h6
      rw [if_neg (by ((try simp only [nc] at *); omega))] at hr
      have o2 : P.i64 (P.add (P.slen o) (P.slen tx)) := by rw [add_eq hP, slen_eq hP, slen_eq hP]; exact i64I hP (by ((try simp only [nc] at *); omega))
      have c3 := h3 (P.sapp o tx)
      rw [← sapp_eq hP o tx] at hr
      cbv
      refine ⟨o2, ?_⟩
      cbv
      refine c3 _ _ ?_
      cbv
      exact hR _ _ _ _ (by simpa using hr) (Ent.refl _) rfl
  · rw [if_neg (by rw [h]; decide)] at hr
    cbv
    exact hR _ _ _ _ (by simpa using hr) (Ent.refl _) rfl
theorem nums_len {g b : Int} {t : Nat → Int} : (numsF (flatL g b t)).1.length ≤ 100 := by
  unfold numsF
  split
  · have := numsL_len (flatL g b t)
    rw [flat_len] at this
    simp only []; omega
  · simp
theorem sp_hhead (g b : Int) (tx : List UInt8) (htx : tx.length ≤ maxLen) (t : Nat → Int) : Spec Try.prog 40 [.int .i64 g, .int .i64 b, .str tx, tabV t] Hp.emp (Is (.tup [.str (headF g b tx t).1, .int .i64 (headF g b tx t).2])) :=
  spec_pure dOk ok_hhead [.str (headF g b tx t).1, .int .i64 (headF g b tx t).2] (.tup _ (by simp; exact ⟨.str _, .int _ _⟩)) fun R hR => vc_hhead std rfl _ _ g b tx htx t (iRows (flatL g b t)) (numsF (flatL g b t)).1 (numsF (flatL g b t)).2 nums_len
    (ansW (sp_flat g b t) (fun h => .cons (.same _) (.cons (.same _) (.cons (.same _) .nil))) rfl) (ansIn (sp_nums _ (by rw [flat_len]; omega)) rfl rfl) (fun s => (putFr 1 s).1) (fun s => (putFr 1 s).2) (fun s => ansW (sp_fput ⟨1, s⟩) (fun h => .cons (.same _) .nil) rfl) (headF g b tx t).1 (headF g b tx t).2
    (by
      unfold headF numsF
      by_cases h : ∀ n ∈ flatL g b t, inR n
      · rw [if_pos h, if_pos h]; rfl
      · rw [if_neg h, if_neg h]; rfl) R fun s0 s' x y h he hr => by obtain ⟨rfl, rfl⟩ := h; exact hR s0 s' he hr
/-! Rev -/
def ac_hrev : AC := .seq (.region false [
    ⟨some 1, none, .box 73 3 (.t 0)⟩,
    ⟨some 2, none, .mov (.c (.string ⟨#[]⟩))⟩,
    ⟨some 3, none, .mov (.c (.int .i64 0))⟩])
  (.seq (.seq (.region false [
    ⟨some 9, none, .loadn 3 (.t 1)⟩,
    ⟨some 10, none, .call 76 [(.t 9)]⟩,
    ⟨some 4, none, .mov (.t 10)⟩])
  (.seq (.region false [
    ⟨some 11, none, .mov (.t 4)⟩,
    ⟨some 12, none, .bin .neq (.t 11) (.c (.int .i64 0))⟩])
  (.cond (.t 12)
    (.seq (.region false [
      ⟨some 13, none, .mov (.t 4)⟩,
      ⟨some 2, none, .mov (.c (.string ⟨#[]⟩))⟩,
      ⟨some 3, none, .mov (.t 13)⟩])
    (.ret))
    (.skip))))
  (.seq (.region false [
    ⟨some 15, none, .faddr 0 (.t 1)⟩,
    ⟨some 16, none, .load1 (.t 15)⟩,
    ⟨some 17, none, .faddr 1 (.t 1)⟩,
    ⟨some 18, none, .load1 (.t 17)⟩,
    ⟨some 19, none, .bslice 3 1 [(.t 16), (.t 18)]⟩,
    ⟨some 20, none, .call 74 [(.t 19)]⟩,
    ⟨some 14, none, .mov (.t 20)⟩,
    ⟨some 21, none, .ext 0 (.t 14)⟩,
    ⟨some 22, none, .ext 1 (.t 14)⟩,
    ⟨some 5, none, .mov (.t 21)⟩,
    ⟨some 6, none, .mov (.t 22)⟩])
  (.seq (.region false [
    ⟨some 24, none, .faddr 2 (.t 1)⟩,
    ⟨some 25, none, .load1 (.t 24)⟩,
    ⟨some 26, none, .call 34 [(.t 25)]⟩,
    ⟨some 23, none, .mov (.t 26)⟩,
    ⟨some 27, none, .ext 0 (.t 23)⟩,
    ⟨some 28, none, .ext 1 (.t 23)⟩,
    ⟨some 7, none, .mov (.t 27)⟩,
    ⟨some 8, none, .mov (.t 28)⟩])
  (.seq (.region false [
    ⟨some 29, none, .mov (.t 5)⟩,
    ⟨some 30, none, .mov (.t 7)⟩,
    ⟨some 31, none, .bin .add (.t 29) (.t 30)⟩,
    ⟨some 32, none, .build [(.int .i64 0), (.string ⟨#[]⟩)] [(0, 1, (.c (.int .i64 2))), (1, 1, (.t 31))]⟩,
    ⟨some 33, none, .call 15 [(.t 32)]⟩,
    ⟨some 34, none, .ext 0 (.t 33)⟩,
    ⟨some 35, none, .ext 1 (.t 33)⟩,
    ⟨some 2, none, .mov (.t 34)⟩,
    ⟨some 3, none, .mov (.t 35)⟩])
  (.ret)))))
theorem ok_hrev : FnOk Try.prog 43 Try.f43 ac_hrev [.t 2, .t 3] 1 drawD := ⟨Try.func43, by decide +kernel, by kernel_rfl, by kernel_rfl, by decide +kernel⟩
theorem vc_hrev (P : Prim) (hP : P = std) (T T1 : CallT) (w q : Int) (dr : List (List V)) (c : Int) (h1 : Ans T 76 [.agg [.int .i64 w, .int .i64 q, .sl false 3 dr]] (.int .i64 c)) (o cs : List UInt8) (ho : o.length ≤ 100) (hcs : cs.length ≤ 10000000)
    (h2 : c = 0 → ∀ (h : Hp) (K : V → Hp → Prop) (k : Nat) (b : Option Nat) (rs : List (List V)), rs = iRows [w, q] → h k = some ⟨b, 3, 1, rs⟩ → K (.tup [.str o, .bool true]) h → T 74 [.own k b 1 2] h K)
    (h3 : c = 0 → Ans T 34 [.sl false 3 dr] (.tup [.str cs, .int .i64 0]))
    (uF : List UInt8 → List UInt8) (eF : List UInt8 → Int) (h4 : ∀ s, Ans T 15 [.agg [.int .i64 2, .str s]] (.tup [.str (uF s), .int .i64 (eF s)]))
    (r : List UInt8) (e : Int) (hr : (if c ≠ 0 then ([], c) else (uF (o ++ cs), eF (o ++ cs))) = (r, e))
    (R : S → Prop) (hR : ∀ s0 s' x y, x = r ∧ y = e → Ent s0 s' → Ret [.t 2, .t 3] [.str x, .int .i64 y] s' → R s0) : awp P T T1 ac_hrev (S0 [.agg [.int .i64 w, .int .i64 q, .sl false 3 dr]] Hp.emp) R (fun _ _ => False) R := by
  cbv
  intro β
  cbv
  repeat' (first
    | (refine And.intro (by first | assumption | decide) ?_; try cbv)
    | (intro β2; try cbv))
  refine h1 _ _ ?_
  cbv
  refine br_cases (fun h => ?_) (fun h => ?_)
  · rw [if_pos (ne_t hP h)] at hr
    cbv
    exact hR _ _ _ _ (by simpa using hr) (Ent.refl _) rfl
  have h0 : c = 0 := ne_f hP h
  rw [if_neg (fun x => x h0)] at hr
  have f3 := h3 h0
  have o2 : P.i64 (P.add (P.slen o) (P.slen cs)) := by rw [add_eq hP, slen_eq hP, slen_eq hP]; exact i64I hP (by ((try simp only [nc] at *); omega))
  have c4 := h4 (P.sapp o cs)
  rw [← sapp_eq hP o cs] at hr
  cbv
  intro β
  cbv
  refine h2 h0 _ _ _ _ _ ?_ rfl ?_
  · rfl
  cbv
  repeat' (first
    | (refine And.intro (by first | assumption | decide) ?_; try cbv)
    | (intro β2; try cbv))
  refine f3 _ _ ?_
  cbv
  refine ⟨o2, ?_⟩
  cbv
  refine c4 _ _ ?_
  cbv
  exact hR _ _ _ _ (by simpa using hr) (Ent.refl _) rfl
theorem code_len (d : List Part) (h : checkF d = 0) : (codeF d).length ≤ 1000000 := by
  have hc := checkF_all h
  have := numL_len d.length
  have key : ∀ l : List Part, (∀ p ∈ l, okP p) → ((l.map pcode).flatten).length ≤ 505 * l.length := by
    intro l
    induction l with
    | nil => simp
    | cons p l ih =>
      intro hl
      have := ih fun q hq => hl q (by simp [hq])
      have hp := okP_bd (hl p (by simp))
      have hn := numL_len (4 * (p.n + p.text.length) + p.kind).toNat
      simp only [List.map_cons, List.flatten_cons, List.length_append, List.length_cons, pcode]
      ((try simp only [nc] at *); omega)
  have := key d hc.2.1
  have := hc.1
  unfold codeF
  rw [List.length_append]
  omega
theorem numsF_two {w q : Int} (h1 : inR w) (h2 : inR q) : numsF [w, q] = (numL w.toNat ++ numL q.toNat, true) := by
  unfold numsF
  rw [if_pos (by intro n hn; simp at hn; rcases hn with rfl | rfl <;> assumption)]
  simp [numsL]
theorem sp_hrev (r : Rev) (hr : PartsOk r.delta) : Spec Try.prog 43 [.agg (encRev r)] Hp.emp (Is (.tup [.str (revF r).1, .int .i64 (revF r).2])) :=
  spec_pure dOk ok_hrev [.str (revF r).1, .int .i64 (revF r).2] (.tup _ (by simp; exact ⟨.str _, .int _ _⟩)) fun R hR => vc_hrev std rfl _ _ r.who r.seq (r.delta.map encPart) (oneF r) (ansW (sp_one r hr) (fun h => .cons (.same _) .nil) rfl) (numL r.who.toNat ++ numL r.seq.toNat) (if oneF r = 0 then codeF r.delta else [])
    (by have h1 := numL_len r.who.toNat
        have h2 := numL_len r.seq.toNat
        rw [List.length_append]; omega)
    (by split
        · rename_i h; have := code_len r.delta (one_who h).2.2.2.2; omega
        · simp)
    (fun h0 h K k b rs hrs hk hK => by
      obtain ⟨g1, g2, g3, g4, g5⟩ := one_who h0
      have hs := sp_nums [r.who, r.seq] (by simp)
      rw [numsF_two ⟨g1, by omega⟩ ⟨g3, g4⟩] at hs
      exact ownCall hs rfl h K k b 2 rs hrs (by rw [hrs]; rfl) hk hK)
    (fun h0 => by
      have g5 := (one_who h0).2.2.2.2
      have hs := sp_cwrite r.delta hr.1
      rw [if_pos g5, g5] at hs
      rw [if_pos h0]
      exact ansSame hs rfl rfl)
    (fun s => (putFr 2 s).1) (fun s => (putFr 2 s).2) (fun s => ansW (sp_fput ⟨2, s⟩) (fun h => .cons (.same _) .nil) rfl) (revF r).1 (revF r).2
    (by
      unfold revF
      by_cases h : oneF r ≠ 0
      · rw [if_pos h, if_pos h]
      · rw [if_neg h, if_neg h, if_pos (Decidable.of_not_not h)]) R fun s0 s' x y h he hr => by obtain ⟨rfl, rfl⟩ := h; exact hR s0 s' he hr
/-! Done -/
def ac_hdone : AC := .seq (.region false [
    ⟨some 0, none, .mov (.c (.string ⟨#[]⟩))⟩])
  (.seq (.region false [
    ⟨some 4, none, .build [(.int .i64 0), (.string ⟨#[]⟩)] [(0, 1, (.c (.int .i64 3)))]⟩,
    ⟨some 5, none, .call 15 [(.t 4)]⟩,
    ⟨some 3, none, .mov (.t 5)⟩,
    ⟨some 6, none, .ext 0 (.t 3)⟩,
    ⟨some 7, none, .ext 1 (.t 3)⟩,
    ⟨some 1, none, .mov (.t 6)⟩,
    ⟨some 2, none, .mov (.t 7)⟩])
  (.seq (.region false [
    ⟨some 8, none, .mov (.t 1)⟩,
    ⟨some 0, none, .mov (.t 8)⟩])
  (.ret)))
theorem ok_hdone : FnOk Try.prog 45 Try.f45 ac_hdone [.t 0] 0 drawD := ⟨Try.func45, by decide +kernel, by kernel_rfl, by kernel_rfl, by decide +kernel⟩
theorem vc_hdone (P : Prim) (hP : P = std) (T T1 : CallT) (u : List UInt8) (e : Int) (h1 : Ans T 15 [.agg [.int .i64 3, .str []]] (.tup [.str u, .int .i64 e]))
    (R : S → Prop) (hR : ∀ s0 s' x, x = u → Ent s0 s' → Ret [.t 0] [.str x] s' → R s0) : awp P T T1 ac_hdone (S0 [] Hp.emp) R (fun _ _ => False) R := by
  cbv
  refine h1 _ _ ?_
  cbv
  exact hR _ _ _ rfl (Ent.refl _) rfl
theorem sp_hdone : Spec Try.prog 45 [] Hp.emp (Is (.str (putFr 3 []).1)) :=
  spec_pure dOk ok_hdone [.str (putFr 3 []).1] (.str _) fun R hR => vc_hdone std rfl _ _ _ (putFr 3 []).2 (ansW (sp_fput ⟨3, []⟩) (fun h => .cons (.same _) .nil) rfl) R fun s0 s' x h he hr => by subst h; exact hR s0 s' he hr
/-! the document -/
def ac_rdone : AC := .seq (.region false [
    ⟨some 0, none, .mov (.c (.string ⟨#[]⟩))⟩])
  (.seq (.region false [
    ⟨some 4, none, .build [(.int .i64 0), (.string ⟨#[]⟩)] [(0, 1, (.c (.int .i64 3)))]⟩,
    ⟨some 5, none, .call 16 [(.t 4)]⟩,
    ⟨some 3, none, .mov (.t 5)⟩,
    ⟨some 6, none, .ext 0 (.t 3)⟩,
    ⟨some 7, none, .ext 1 (.t 3)⟩,
    ⟨some 1, none, .mov (.t 6)⟩,
    ⟨some 2, none, .mov (.t 7)⟩])
  (.seq (.region false [
    ⟨some 8, none, .mov (.t 1)⟩,
    ⟨some 0, none, .mov (.t 8)⟩])
  (.ret)))
theorem ok_rdone : FnOk Try.prog 46 Try.f46 ac_rdone [.t 0] 0 drawD := ⟨Try.func46, by decide +kernel, by kernel_rfl, by kernel_rfl, by decide +kernel⟩
theorem vc_rdone (P : Prim) (hP : P = std) (T T1 : CallT) (u : List UInt8) (e : Int) (h1 : Ans T 16 [.agg [.int .i64 3, .str []]] (.tup [.str u, .int .i64 e]))
    (R : S → Prop) (hR : ∀ s0 s' x, x = u → Ent s0 s' → Ret [.t 0] [.str x] s' → R s0) : awp P T T1 ac_rdone (S0 [] Hp.emp) R (fun _ _ => False) R := by
  cbv
  refine h1 _ _ ?_
  cbv
  exact hR _ _ _ rfl (Ent.refl _) rfl
theorem sp_rdone : Spec Try.prog 46 [] Hp.emp (Is (.str (putFr 3 []).1)) :=
  spec_pure dOk ok_rdone [.str (putFr 3 []).1] (.str _) fun R hR => vc_rdone std rfl _ _ _ (putFr 3 []).2 (ansW (sp_rframe ⟨3, []⟩) (fun h => .cons (.same _) .nil) rfl) R fun s0 s' x h he hr => by subst h; exact hR s0 s' he hr
def ac_rrf : AC := .seq (.region false [
    ⟨some 1, none, .box 73 3 (.t 0)⟩,
    ⟨some 2, none, .mov (.c (.string ⟨#[]⟩))⟩,
    ⟨some 3, none, .mov (.c (.int .i64 0))⟩])
  (.seq (.seq (.region false [
    ⟨some 5, none, .loadn 3 (.t 1)⟩,
    ⟨some 6, none, .call 77 [(.t 5)]⟩,
    ⟨some 4, none, .mov (.t 6)⟩])
  (.seq (.region false [
    ⟨some 7, none, .mov (.t 4)⟩,
    ⟨some 8, none, .bin .neq (.t 7) (.c (.int .i64 0))⟩])
  (.cond (.t 8)
    (.seq (.region false [
      ⟨some 9, none, .mov (.t 4)⟩,
      ⟨some 2, none, .mov (.c (.string ⟨#[]⟩))⟩,
      ⟨some 3, none, .mov (.t 9)⟩])
    (.ret))
    (.skip))))
  (.seq (.region true [
    ⟨some 10, none, .faddr 0 (.t 1)⟩,
    ⟨some 11, none, .load1 (.t 10)⟩,
    ⟨some 12, none, .call 69 [(.t 11)]⟩,
    ⟨some 13, none, .faddr 1 (.t 1)⟩,
    ⟨some 14, none, .load1 (.t 13)⟩,
    ⟨some 15, none, .call 69 [(.t 14)]⟩,
    ⟨some 16, none, .bin .add (.t 12) (.t 15)⟩,
    ⟨some 17, none, .faddr 2 (.t 1)⟩,
    ⟨some 18, none, .load1 (.t 17)⟩,
    ⟨some 19, none, .call 36 [(.t 18)]⟩,
    ⟨some 20, none, .bin .add (.t 16) (.t 19)⟩,
    ⟨some 21, none, .build [(.int .i64 0), (.string ⟨#[]⟩)] [(0, 1, (.c (.int .i64 2))), (1, 1, (.t 20))]⟩,
    ⟨some 22, none, .call 16 [(.t 21)]⟩,
    ⟨some 23, none, .ext 0 (.t 22)⟩,
    ⟨some 24, none, .ext 1 (.t 22)⟩,
    ⟨some 2, none, .mov (.t 23)⟩,
    ⟨some 3, none, .mov (.t 24)⟩])
  (.ret)))
theorem ok_rrf : FnOk Try.prog 44 Try.f44 ac_rrf [.t 2, .t 3] 1 drawD := ⟨Try.func44, by decide +kernel, by kernel_rfl, by kernel_rfl, by decide +kernel⟩
theorem vc_rrf (P : Prim) (hP : P = std) (T T1 : CallT) (w q : Int) (dr : List (List V)) (c : Int) (h1 : Ans T 77 [.agg [.int .i64 w, .int .i64 q, .sl false 3 dr]] (.int .i64 c)) (ow oq cs : List UInt8) (how : ow.length ≤ 5) (hoq : oq.length ≤ 5) (hcs : cs.length ≤ 10000000)
    (h2 : c = 0 → Ans T1 69 [.int .i64 w] (.str ow)) (h22 : c = 0 → Ans T1 69 [.int .i64 q] (.str oq))
    (h3 : c = 0 → Ans T1 36 [.sl false 3 dr] (.str cs))
    (uF : List UInt8 → List UInt8) (eF : List UInt8 → Int) (h4 : ∀ s, Ans T1 16 [.agg [.int .i64 2, .str s]] (.tup [.str (uF s), .int .i64 (eF s)]))
    (r : List UInt8) (e : Int) (hr : (if c ≠ 0 then ([], c) else (uF (ow ++ oq ++ cs), eF (ow ++ oq ++ cs))) = (r, e))
    (R : S → Prop) (hR : ∀ s0 s' x y, x = r ∧ y = e → Ent s0 s' → Ret [.t 2, .t 3] [.str x, .int .i64 y] s' → R s0) : awp P T T1 ac_rrf (S0 [.agg [.int .i64 w, .int .i64 q, .sl false 3 dr]] Hp.emp) R (fun _ _ => False) R := by
  cbv
  intro β
  cbv
  repeat' (first
    | (refine And.intro (by first | assumption | decide) ?_; try cbv)
    | (intro β2; try cbv))
  refine h1 _ _ ?_
  cbv
  refine br_cases (fun h => ?_) (fun h => ?_)
  · rw [if_pos (ne_t hP h)] at hr
    cbv
    exact hR _ _ _ _ (by simpa using hr) (Ent.refl _) rfl
  have h0 : c = 0 := ne_f hP h
  rw [if_neg (fun x => x h0)] at hr
  have f2 := h2 h0
  have f22 := h22 h0
  have f3 := h3 h0
  have o1 : P.i64 (P.add (P.slen ow) (P.slen oq)) := by rw [add_eq hP, slen_eq hP, slen_eq hP]; exact i64I hP (by ((try simp only [nc] at *); omega))
  have o2 : P.i64 (P.add (P.slen (P.sapp ow oq)) (P.slen cs)) := by rw [add_eq hP, slen_eq hP, slen_eq hP, sapp_eq hP, List.length_append]; exact i64I hP (by ((try simp only [nc] at *); omega))
  have c4 := h4 (P.sapp (P.sapp ow oq) cs)
  rw [← sapp_eq hP ow oq, ← sapp_eq hP (P.sapp ow oq) cs] at hr
  cbv
  refine f2 _ _ ?_
  cbv
  refine f22 _ _ ?_
  cbv
  refine ⟨o1, ?_⟩
  cbv
  refine f3 _ _ ?_
  cbv
  refine ⟨o2, ?_⟩
  cbv
  refine c4 _ _ ?_
  cbv
  exact hR _ _ _ _ (by simpa using hr) (Ent.refl _) rfl
theorem sp_rrf (r : Rev) (hr : PartsOk r.delta) : Spec Try.prog 44 [.agg (encRev r)] Hp.emp (Is (.tup [.str (revF r).1, .int .i64 (revF r).2])) :=
  spec_pure dOk ok_rrf [.str (revF r).1, .int .i64 (revF r).2] (.tup _ (by simp; exact ⟨.str _, .int _ _⟩)) fun R hR => vc_rrf std rfl _ _ r.who r.seq (r.delta.map encPart) (oneF r) (ansW (sp_rrev r hr) (fun h => .cons (.same _) .nil) rfl) (numL r.who.toNat) (numL r.seq.toNat) (if oneF r = 0 then codeF r.delta else [])
    (numL_len _) (numL_len _)
    (by split
        · rename_i h; have := code_len r.delta (one_who h).2.2.2.2; omega
        · simp)
    (fun h0 => ansP (sp_rnum _ (one_who h0).1 (by have := (one_who h0).2.1; omega)) (fun _ => args_plain rfl) rfl) (fun h0 => ansP (sp_rnum _ (one_who h0).2.2.1 (one_who h0).2.2.2.1) (fun _ => args_plain rfl) rfl)
    (fun h0 => by rw [if_pos h0]; exact ansPs (sp_rcode r.delta (one_who h0).2.2.2.2) rfl rfl)
    (fun s => (putFr 2 s).1) (fun s => (putFr 2 s).2) (fun s => ansP (sp_rframe ⟨2, s⟩) (fun h => .cons (.same _) .nil) rfl) (revF r).1 (revF r).2
    (by
      unfold revF
      by_cases h : oneF r ≠ 0
      · rw [if_pos h, if_pos h]
      · rw [if_neg h, if_neg h, if_pos (Decidable.of_not_not h)]) R fun s0 s' x y h he hr => by obtain ⟨rfl, rfl⟩ := h; exact hR s0 s' he hr
/-! the document's Head -/
def ac_rhead : AC := .seq (.region false [
    ⟨some 7, none, .box 77 16 (.t 3)⟩,
    ⟨some 8, none, .mov (.c (.string ⟨#[]⟩))⟩,
    ⟨some 9, none, .mov (.c (.int .i64 0))⟩])
  (.seq (.region false [
    ⟨some 16, none, .mov (.t 0)⟩,
    ⟨some 17, none, .mov (.t 1)⟩,
    ⟨some 18, none, .bslice 3 1 [(.t 16), (.t 17)]⟩,
    ⟨some 10, none, .mov (.t 18)⟩])
  (.seq (.seq (.region false [
    ⟨some 19, none, .loadn 16 (.t 7)⟩,
    ⟨some 20, none, .mov (.c (.int .i64 0))⟩])
  (.block 0 (.loop (.seq (.region false [
      ⟨some 21, none, .bin .lss (.t 20) (.c (.int .i64 8))⟩])
    (.seq (.cond (.t 21)
      (.skip)
      (.exit 0))
    (.seq (.block 1 (.seq (.region false [
      ⟨some 22, none, .ixa true 8 2 (.t 19) (.t 20)⟩,
      ⟨some 12, none, .alloc 76 [(.int .i64 0), (.int .i64 0)]⟩,
      ⟨none, none, .store 2 (.t 12) (.t 22)⟩])
    (.region false [
      ⟨some 23, none, .mov (.t 10)⟩,
      ⟨some 24, none, .faddr 0 (.t 12)⟩,
      ⟨some 25, none, .load1 (.t 24)⟩,
      ⟨some 26, none, .faddr 1 (.t 12)⟩,
      ⟨some 27, none, .load1 (.t 26)⟩,
      ⟨some 28, none, .bslice 3 1 [(.t 25), (.t 27)]⟩,
      ⟨some 29, none, .append 3 1 8 (.t 23) (.t 28)⟩,
      ⟨some 10, none, .mov (.t 29)⟩])))
    (.region false [
      ⟨some 30, none, .bin .add (.t 20) (.c (.int .i64 1))⟩,
      ⟨some 20, none, .mov (.t 30)⟩])))))))
  (.seq (.region false [
    ⟨some 13, none, .mov (.c (.string ⟨#[]⟩))⟩])
  (.seq (.seq (.region false [
    ⟨some 31, none, .mov (.t 10)⟩,
    ⟨some 32, none, .len false (.t 31)⟩,
    ⟨some 33, none, .mov (.c (.int .i64 0))⟩])
  (.block 2 (.loop (.seq (.region false [
      ⟨some 34, none, .bin .lss (.t 33) (.t 32)⟩])
    (.seq (.cond (.t 34)
      (.skip)
      (.exit 2))
    (.seq (.block 3 (.seq (.region false [
      ⟨some 35, none, .iaddr 1 (.t 31) (.t 33)⟩,
      ⟨some 36, none, .load1 (.t 35)⟩,
      ⟨some 15, none, .mov (.t 36)⟩])
    (.seq (.seq (.region false [
      ⟨some 37, none, .mov (.t 15)⟩,
      ⟨some 38, none, .bin .lss (.t 37) (.c (.int .i64 0))⟩,
      ⟨some 39, none, .mov (.t 38)⟩,
      ⟨some 40, some (39, false), .mov (.t 15)⟩,
      ⟨some 41, some (39, false), .bin .gtr (.t 40) (.c (.int .i64 2147483647))⟩,
      ⟨some 42, none, .pick (.t 39) (.c (.bool true)) (.t 41)⟩])
    (.cond (.t 42)
      (.seq (.region false [
        ⟨some 8, none, .mov (.c (.string ⟨#[]⟩))⟩,
        ⟨some 9, none, .mov (.c (.int .i64 1))⟩])
      (.ret))
      (.skip)))
    (.region false [
      ⟨some 43, none, .mov (.t 13)⟩,
      ⟨some 44, none, .mov (.t 15)⟩,
      ⟨some 45, none, .call 69 [(.t 44)]⟩,
      ⟨some 46, none, .bin .add (.t 43) (.t 45)⟩,
      ⟨some 13, none, .mov (.t 46)⟩]))))
    (.region false [
      ⟨some 47, none, .bin .add (.t 33) (.c (.int .i64 1))⟩,
      ⟨some 33, none, .mov (.t 47)⟩])))))))
  (.seq (.seq (.region false [
    ⟨some 48, none, .mov (.t 2)⟩,
    ⟨some 49, none, .len true (.t 48)⟩,
    ⟨some 50, none, .bin .gtr (.t 49) (.c (.int .i64 500))⟩])
  (.cond (.t 50)
    (.seq (.region false [
      ⟨some 8, none, .mov (.c (.string ⟨#[]⟩))⟩,
      ⟨some 9, none, .mov (.c (.int .i64 2))⟩])
    (.ret))
    (.skip)))
  (.seq (.region false [
    ⟨some 51, none, .mov (.t 13)⟩,
    ⟨some 52, none, .mov (.t 2)⟩,
    ⟨some 53, none, .bin .add (.t 51) (.t 52)⟩,
    ⟨some 54, none, .build [(.int .i64 0), (.string ⟨#[]⟩)] [(0, 1, (.c (.int .i64 1))), (1, 1, (.t 53))]⟩,
    ⟨some 55, none, .call 16 [(.t 54)]⟩,
    ⟨some 56, none, .ext 0 (.t 55)⟩,
    ⟨some 57, none, .ext 1 (.t 55)⟩,
    ⟨some 8, none, .mov (.t 56)⟩,
    ⟨some 9, none, .mov (.t 57)⟩])
  (.ret)))))))
theorem ok_rhead : FnOk Try.prog 42 Try.f42 ac_rhead [.t 8, .t 9] 4 drawD := ⟨Try.func42, by decide +kernel, by kernel_rfl, by kernel_rfl, by decide +kernel⟩
theorem vc_rhead (P : Prim) (hP : P = std) (T T1 : CallT) (g b : Int) (tx : List UInt8) (htx : tx.length ≤ maxLen) (t : Nat → Int) (pF : Int → List UInt8) (hpF : ∀ n, inR n → pF n = numL n.toNat)
    (h1 : ∀ n, inR n → Ans T 69 [.int .i64 n] (.str (pF n)))
    (uF : List UInt8 → List UInt8) (eF : List UInt8 → Int) (h3 : ∀ s, Ans T 16 [.agg [.int .i64 1, .str s]] (.tup [.str (uF s), .int .i64 (eF s)]))
    (r : List UInt8) (e : Int) (hr : (if ∀ n ∈ flatL g b t, inR n then (if 500 < tx.length then ([], 2) else (uF (numsL (flatL g b t) ++ tx), eF (numsL (flatL g b t) ++ tx))) else ([], 1)) = (r, e))
    (R : S → Prop) (hR : ∀ s0 s' x y, x = r ∧ y = e → Ent s0 s' → Ret [.t 8, .t 9] [.str x, .int .i64 y] s' → R s0) : awp P T T1 ac_rhead (S0 [.int .i64 g, .int .i64 b, .str tx, .agg [.int .i64 (t 0), .int .i64 (t 1), .int .i64 (t 2), .int .i64 (t 3), .int .i64 (t 4), .int .i64 (t 5), .int .i64 (t 6), .int .i64 (t 7), .int .i64 (t 8), .int .i64 (t 9), .int .i64 (t 10), .int .i64 (t 11), .int .i64 (t 12), .int .i64 (t 13), .int .i64 (t 14), .int .i64 (t 15)]] Hp.emp) R (fun _ _ => False) R := by
  have hN : ∀ n : Nat, P.nat (n : Int) = n := by intro n; subst hP; rfl
  have hsp : P.slen tx = (tx.length : Int) := slen_eq hP tx
  cbv
  intro β
  cbv
  repeat' (first
    | (refine And.intro (by first | assumption | decide) ?_; try cbv)
    | (intro β2; try cbv))
  refine ⟨YFt (flatL g b t), fun y => [(2, .str tx), (10, .own 1000018 y.b 1 y.c), (19, .agg [.int .i64 (t 0), .int .i64 (t 1), .int .i64 (t 2), .int .i64 (t 3), .int .i64 (t 4), .int .i64 (t 5), .int .i64 (t 6), .int .i64 (t 7), .int .i64 (t 8), .int .i64 (t 9), .int .i64 (t 10), .int .i64 (t 11), .int .i64 (t 12), .int .i64 (t 13), .int .i64 (t 14), .int .i64 (t 15)]), (20, .int .i64 y.k)], fun y => [(1000018, ⟨y.b, 3, 1, y.rows⟩)], fun y => 8 - y.m,
    ⟨_, Ent.refl _, ⟨0, 0, _, _, _, by omega, rfl, rfl, rfl⟩, ⟨rfl, rfl, rfl, rfl, trivial⟩, ⟨rfl, trivial⟩⟩, ?_⟩
  rintro ⟨m, k, bb, c, rows, hm, hk, hrows, hc⟩
  cbv
  refine br_cases (fun h => ?_) (fun h => ?_)
  · have h5 : k < 8 := lt_t hP h
    replace hm : m < 8 := by ((try simp only [nc] at *); omega)
    have k0 : P.leP 0 k := le0 hP (by ((try simp only [nc] at *); omega))
    have k1 : P.ltP k 8 := ltI hP (by ((try simp only [nc] at *); omega))
    have k2 : P.i64 (P.add k 1) := by rw [add_eq hP]; exact i64I hP (by ((try simp only [nc] at *); omega))
    have k3 : P.add k 1 = ((m + 1 : Nat) : Int) := by rw [add_eq hP, hk]; ((try simp only [nc] at *); omega)
    have k4 : P.nat k = m := by rw [hk]; exact hN m
    have f4 : P.neP rows c := neP_of hP _ _ (by rw [hrows, hc]; simp [iRows, flat_len]; omega)
    have f5 : ∀ r : List (List V), r.length = 2 → P.bytes (P.add (P.int c) (P.rlen r)) 8 := by intro r hr2; subst hP; show ((c : Int) + (r.length : Int)) * 8 ≤ _; rw [hc, hr2]; ((try simp only [nc] at *); omega)
    have f6 : ∀ x y : List V, P.neP [x, y] 2 := fun x y => neP_of hP _ _ rfl
    have f7 : P.rapp rows [[.int .i64 (t (2 * m))], [.int .i64 (t (2 * m + 1))]] = iRows ((flatL g b t).take (2 + 2 * (m + 1))) := by
      rw [hrows]
      subst hP
      have hc : m = 0 ∨ m = 1 ∨ m = 2 ∨ m = 3 ∨ m = 4 ∨ m = 5 ∨ m = 6 ∨ m = 7 := by omega
      rcases hc with rfl | rfl | rfl | rfl | rfl | rfl | rfl | rfl <;> rfl
    have f8 : ∀ x y : List V, P.nadd c (P.rlenN [x, y]) = 2 + 2 * (m + 1) := by intro x y; subst hP; show c + 2 = _; omega
    clear hR h5 h
    have hc : m = 0 ∨ m = 1 ∨ m = 2 ∨ m = 3 ∨ m = 4 ∨ m = 5 ∨ m = 6 ∨ m = 7 := by omega
    rcases hc with rfl | rfl | rfl | rfl | rfl | rfl | rfl | rfl
    · cbv
      refine ⟨k0, k1, 0, k4, ?_⟩
      cbv
      repeat' (first
        | (refine And.intro (by first | assumption | decide | exact f6 _ _ | exact f5 _ rfl) ?_; try cbv)
        | (intro β; try cbv))
      exact ⟨_, Ent.refl _, ⟨0 + 1, _, _, _, _, by decide, k3, f7, f8 _ _⟩, ⟨rfl, rfl, rfl, rfl, trivial⟩, ⟨rfl, trivial⟩, by show 8 - (0 + 1) < 8 - 0; decide⟩
    · cbv
      refine ⟨k0, k1, 1, k4, ?_⟩
      cbv
      repeat' (first
        | (refine And.intro (by first | assumption | decide | exact f6 _ _ | exact f5 _ rfl) ?_; try cbv)
        | (intro β; try cbv))
      exact ⟨_, Ent.refl _, ⟨1 + 1, _, _, _, _, by decide, k3, f7, f8 _ _⟩, ⟨rfl, rfl, rfl, rfl, trivial⟩, ⟨rfl, trivial⟩, by show 8 - (1 + 1) < 8 - 1; decide⟩
    · cbv
      refine ⟨k0, k1, 2, k4, ?_⟩
      cbv
      repeat' (first
        | (refine And.intro (by first | assumption | decide | exact f6 _ _ | exact f5 _ rfl) ?_; try cbv)
        | (intro β; try cbv))
      exact ⟨_, Ent.refl _, ⟨2 + 1, _, _, _, _, by decide, k3, f7, f8 _ _⟩, ⟨rfl, rfl, rfl, rfl, trivial⟩, ⟨rfl, trivial⟩, by show 8 - (2 + 1) < 8 - 2; decide⟩
    · cbv
      refine ⟨k0, k1, 3, k4, ?_⟩
      cbv
      repeat' (first
        | (refine And.intro (by first | assumption | decide | exact f6 _ _ | exact f5 _ rfl) ?_; try cbv)
        | (intro β; try cbv))
      exact ⟨_, Ent.refl _, ⟨3 + 1, _, _, _, _, by decide, k3, f7, f8 _ _⟩, ⟨rfl, rfl, rfl, rfl, trivial⟩, ⟨rfl, trivial⟩, by show 8 - (3 + 1) < 8 - 3; decide⟩
    · cbv
      refine ⟨k0, k1, 4, k4, ?_⟩
      cbv
      repeat' (first
        | (refine And.intro (by first | assumption | decide | exact f6 _ _ | exact f5 _ rfl) ?_; try cbv)
        | (intro β; try cbv))
      exact ⟨_, Ent.refl _, ⟨4 + 1, _, _, _, _, by decide, k3, f7, f8 _ _⟩, ⟨rfl, rfl, rfl, rfl, trivial⟩, ⟨rfl, trivial⟩, by show 8 - (4 + 1) < 8 - 4; decide⟩
    · cbv
      refine ⟨k0, k1, 5, k4, ?_⟩
      cbv
      repeat' (first
        | (refine And.intro (by first | assumption | decide | exact f6 _ _ | exact f5 _ rfl) ?_; try cbv)
        | (intro β; try cbv))
      exact ⟨_, Ent.refl _, ⟨5 + 1, _, _, _, _, by decide, k3, f7, f8 _ _⟩, ⟨rfl, rfl, rfl, rfl, trivial⟩, ⟨rfl, trivial⟩, by show 8 - (5 + 1) < 8 - 5; decide⟩
    · cbv
      refine ⟨k0, k1, 6, k4, ?_⟩
      cbv
      repeat' (first
        | (refine And.intro (by first | assumption | decide | exact f6 _ _ | exact f5 _ rfl) ?_; try cbv)
        | (intro β; try cbv))
      exact ⟨_, Ent.refl _, ⟨6 + 1, _, _, _, _, by decide, k3, f7, f8 _ _⟩, ⟨rfl, rfl, rfl, rfl, trivial⟩, ⟨rfl, trivial⟩, by show 8 - (6 + 1) < 8 - 6; decide⟩
    · cbv
      refine ⟨k0, k1, 7, k4, ?_⟩
      cbv
      repeat' (first
        | (refine And.intro (by first | assumption | decide | exact f6 _ _ | exact f5 _ rfl) ?_; try cbv)
        | (intro β; try cbv))
      exact ⟨_, Ent.refl _, ⟨7 + 1, _, _, _, _, by decide, k3, f7, f8 _ _⟩, ⟨rfl, rfl, rfl, rfl, trivial⟩, ⟨rfl, trivial⟩, by show 8 - (7 + 1) < 8 - 7; decide⟩
  have h5 : ¬ k < 8 := lt_f hP h
  have hm8 : m = 8 := by ((try simp only [nc] at *); omega)
  have hrw : rows = iRows (flatL g b t) := by rw [hrows, hm8]; rfl
  have hcl : c = 18 := by rw [hc, hm8]
  have hll : (flatL g b t).length = 18 := flat_len g b t
  clear h5 h hm8 hN
  obtain ⟨L, hL⟩ : ∃ L, flatL g b t = L := ⟨_, rfl⟩
  rw [hL] at hr hrw hll
  clear hL
  cbv
  refine ⟨YNm L, fun y => [(2, .str tx), (13, .str y.o), (31, .own 1000018 bb 1 c), (32, .int .i64 (P.int c)), (33, .int .i64 y.k)], fun y => [(1000018, ⟨bb, 3, 1, rows⟩)], fun y => y.rest.length,
    ⟨_, Ent.refl _, ⟨0, [], L, [], rfl, rfl, rfl, by simp⟩, ⟨rfl, rfl, rfl, rfl, rfl, trivial⟩, ⟨rfl, trivial⟩⟩, ?_⟩
  rintro ⟨k, pre, rest, o, hd, hk, ho, hin⟩
  replace hk : k = (pre.length : Int) := hk
  have hlp : pre.length + rest.length = 18 := by rw [← hll, hd]; simp
  have hic : P.int c = 18 := by rw [int_eq hP, hcl]; rfl
  cbv
  refine br_cases (fun h => ?_) (fun h => ?_)
  · have h6 : k < P.int c := lt_t hP h
    rw [hic] at h6
    rcases rest with _ | ⟨n, rest⟩
    · exfalso; simp at hlp; ((try simp only [nc] at *); omega)
    have hrow : P.row rows (P.nat k) [.int .i64 n] := row_of hP hk (by rw [hrw, iRows, List.getElem?_map, hd]; simp)
    have k1 : P.leP 0 k := le0 hP (by ((try simp only [nc] at *); omega))
    have k4 : P.ltP k (P.int c) := ltI hP (by rw [hic]; exact h6)
    have k2 : P.i64 (P.add k 1) := by rw [add_eq hP]; exact i64I hP (by ((try simp only [nc] at *); omega))
    have k3 : P.add k 1 = (((pre ++ [n]).length : Nat) : Int) := by rw [add_eq hP, hk]; simp
    have o1 := numsL_len pre
    have bad : ¬ inR n → [] = r ∧ 1 = e := fun g => by
      rw [if_neg (fun x => g (x n (by rw [hd]; simp)))] at hr
      simpa using hr
    cbv
    refine ⟨k1, k4, _, hrow, ?_⟩
    cbv
    refine br_cases (fun h => ?_) (fun h => ?_)
    · have g := lt_t hP h
      cbv
      exact hR _ _ _ _ (bad (by unfold inR; omega)) (Ent.refl _) rfl
    have g1 := lt_f hP h
    cbv
    refine br_cases (fun h => ?_) (fun h => ?_)
    · have g := lt_t hP h
      cbv
      exact hR _ _ _ _ (bad (by unfold inR; omega)) (Ent.refl _) rfl
    have g2 := lt_f hP h
    have g : inR n := by unfold inR; omega
    have c1 := h1 n g
    have o2 : P.i64 (P.add (P.slen o) (P.slen (pF n))) := by
      rw [add_eq hP, slen_eq hP, slen_eq hP, ho, hpF n g]
      have := numL_len n.toNat
      exact i64I hP (by ((try simp only [nc] at *); omega))
    have o3 : P.sapp o (pF n) = numsL (pre ++ [n]) := by rw [sapp_eq hP, numsL_app, ho, hpF n g]
    have o4 : ∀ x ∈ pre ++ [n], inR x := by
      intro x hx
      rcases List.mem_append.1 hx with hx | hx
      · exact hin x hx
      · rw [List.mem_singleton.1 hx]; exact g
    cbv
    refine c1 _ _ ?_
    cbv
    refine ⟨o2, ?_⟩
    cbv
    refine ⟨k2, ?_⟩
    exact ⟨_, Ent.refl _, ⟨_, pre ++ [n], rest, _, by simp [hd], k3, o3, o4⟩, ⟨rfl, rfl, rfl, rfl, rfl, trivial⟩, ⟨rfl, trivial⟩, by simp⟩
  · have h6 : ¬ k < P.int c := lt_f hP h
    rw [hic] at h6
    rcases rest with _ | ⟨y, rest⟩
    rotate_left
    · exfalso; simp at hlp; ((try simp only [nc] at *); omega)
    rw [List.append_nil] at hd
    rw [← hd] at hin ho
    have o1 := numsL_len L
    rw [if_pos hin, ← ho] at hr
    rw [← ho] at o1
    cbv
    refine br_cases (fun h => ?_) (fun h => ?_)
    · have h6 : 500 < P.slen tx := lt_t hP h
      rw [hsp] at h6
      rw [if_pos (by ((try simp only [nc] at *); omega))] at hr
      cbv
      exact hR _ _ _ _ (by simpa using hr) (Ent.refl _) rfl
    · have h6 : ¬ 500 < P.slen tx := lt_f hP h
      rw [hsp] at h6
      rw [if_neg (by ((try simp only [nc] at *); omega))] at hr
      have o2 : P.i64 (P.add (P.slen o) (P.slen tx)) := by rw [add_eq hP, slen_eq hP, slen_eq hP]; exact i64I hP (by ((try simp only [nc] at *); omega))
      have c3 := h3 (P.sapp o tx)
      rw [← sapp_eq hP o tx] at hr
      cbv
      refine ⟨o2, ?_⟩
      cbv
      refine c3 _ _ ?_
      cbv
      exact hR _ _ _ _ (by simpa using hr) (Ent.refl _) rfl
theorem sp_rhead (g b : Int) (tx : List UInt8) (htx : tx.length ≤ maxLen) (t : Nat → Int) : Spec Try.prog 42 [.int .i64 g, .int .i64 b, .str tx, tabV t] Hp.emp (Is (.tup [.str (headF g b tx t).1, .int .i64 (headF g b tx t).2])) :=
  spec_pure dOk ok_rhead [.str (headF g b tx t).1, .int .i64 (headF g b tx t).2] (.tup _ (by simp; exact ⟨.str _, .int _ _⟩)) fun R hR => vc_rhead std rfl _ _ g b tx htx t (fun n => numL n.toNat) (fun _ _ => rfl)
    (fun n h => ansSame (sp_rnum n h.1 h.2) rfl rfl) (fun s => (putFr 1 s).1) (fun s => (putFr 1 s).2) (fun s => ansW (sp_rframe ⟨1, s⟩) (fun h => .cons (.same _) .nil) rfl) (headF g b tx t).1 (headF g b tx t).2
    rfl R fun s0 s' x y h he hr => by obtain ⟨rfl, rfl⟩ := h; exact hR s0 s' he hr
/-! the law -/
def ac_lhw : AC := .seq (.region false [
    ⟨some 9, none, .box 73 3 (.t 4)⟩,
    ⟨some 10, none, .mov (.c (.bool false))⟩])
  (.seq (.region false [
    ⟨some 20, none, .mov (.t 0)⟩,
    ⟨some 21, none, .mov (.t 1)⟩,
    ⟨some 22, none, .mov (.t 2)⟩,
    ⟨some 23, none, .mov (.t 3)⟩,
    ⟨some 24, none, .call 41 [(.t 23)]⟩,
    ⟨some 25, none, .call 40 [(.t 20), (.t 21), (.t 22), (.t 24)]⟩,
    ⟨some 19, none, .mov (.t 25)⟩,
    ⟨some 26, none, .ext 0 (.t 19)⟩,
    ⟨some 27, none, .ext 1 (.t 19)⟩,
    ⟨some 11, none, .mov (.t 26)⟩,
    ⟨some 12, none, .mov (.t 27)⟩])
  (.seq (.region false [
    ⟨some 29, none, .mov (.t 0)⟩,
    ⟨some 30, none, .mov (.t 1)⟩,
    ⟨some 31, none, .mov (.t 2)⟩,
    ⟨some 32, none, .mov (.t 3)⟩,
    ⟨some 33, none, .call 41 [(.t 32)]⟩,
    ⟨some 34, none, .call 42 [(.t 29), (.t 30), (.t 31), (.t 33)]⟩,
    ⟨some 28, none, .mov (.t 34)⟩,
    ⟨some 35, none, .ext 0 (.t 28)⟩,
    ⟨some 36, none, .ext 1 (.t 28)⟩,
    ⟨some 13, none, .mov (.t 35)⟩,
    ⟨some 14, none, .mov (.t 36)⟩])
  (.seq (.region false [
    ⟨some 38, none, .loadn 3 (.t 9)⟩,
    ⟨some 39, none, .call 43 [(.t 38)]⟩,
    ⟨some 37, none, .mov (.t 39)⟩,
    ⟨some 40, none, .ext 0 (.t 37)⟩,
    ⟨some 41, none, .ext 1 (.t 37)⟩,
    ⟨some 15, none, .mov (.t 40)⟩,
    ⟨some 16, none, .mov (.t 41)⟩])
  (.seq (.region false [
    ⟨some 43, none, .loadn 3 (.t 9)⟩,
    ⟨some 44, none, .call 44 [(.t 43)]⟩,
    ⟨some 42, none, .mov (.t 44)⟩,
    ⟨some 45, none, .ext 0 (.t 42)⟩,
    ⟨some 46, none, .ext 1 (.t 42)⟩,
    ⟨some 17, none, .mov (.t 45)⟩,
    ⟨some 18, none, .mov (.t 46)⟩])
  (.seq (.region false [
    ⟨some 47, none, .mov (.t 11)⟩,
    ⟨some 48, none, .mov (.t 13)⟩,
    ⟨some 49, none, .bin .eql (.t 47) (.t 48)⟩,
    ⟨some 50, none, .mov (.t 49)⟩,
    ⟨some 51, some (50, true), .mov (.t 12)⟩,
    ⟨some 52, some (50, true), .mov (.t 14)⟩,
    ⟨some 53, some (50, true), .bin .eql (.t 51) (.t 52)⟩,
    ⟨some 54, none, .pick (.t 50) (.t 53) (.c (.bool false))⟩,
    ⟨some 55, none, .mov (.t 54)⟩,
    ⟨some 56, some (55, true), .mov (.t 15)⟩,
    ⟨some 57, some (55, true), .mov (.t 17)⟩,
    ⟨some 58, some (55, true), .bin .eql (.t 56) (.t 57)⟩,
    ⟨some 59, none, .pick (.t 55) (.t 58) (.c (.bool false))⟩,
    ⟨some 60, none, .mov (.t 59)⟩,
    ⟨some 61, some (60, true), .mov (.t 16)⟩,
    ⟨some 62, some (60, true), .mov (.t 18)⟩,
    ⟨some 63, some (60, true), .bin .eql (.t 61) (.t 62)⟩,
    ⟨some 64, none, .pick (.t 60) (.t 63) (.c (.bool false))⟩,
    ⟨some 65, none, .mov (.t 64)⟩,
    ⟨some 66, some (65, true), .call 45 []⟩,
    ⟨some 67, some (65, true), .call 46 []⟩,
    ⟨some 68, some (65, true), .bin .eql (.t 66) (.t 67)⟩,
    ⟨some 69, none, .pick (.t 65) (.t 68) (.c (.bool false))⟩,
    ⟨some 10, none, .mov (.t 69)⟩])
  (.ret))))))
theorem ok_lhw : FnOk Try.prog 10 Try.f10 ac_lhw [.t 10] 5 drawD := ⟨Try.func10, by decide +kernel, by kernel_rfl, by kernel_rfl, by decide +kernel⟩
theorem vc_lhw (P : Prim) (hP : P = std) (T T1 : CallT) (g b : Int) (tx : List UInt8) (lr : List (List V)) (t : Nat → Int) (w q : Int) (dr : List (List V)) (u v : List UInt8) (eu ev : Int) (dn : List UInt8)
    (h0 : Ans T 41 [.sl false 1 lr] (.agg [.int .i64 (t 0), .int .i64 (t 1), .int .i64 (t 2), .int .i64 (t 3), .int .i64 (t 4), .int .i64 (t 5), .int .i64 (t 6), .int .i64 (t 7), .int .i64 (t 8), .int .i64 (t 9), .int .i64 (t 10), .int .i64 (t 11), .int .i64 (t 12), .int .i64 (t 13), .int .i64 (t 14), .int .i64 (t 15)]))
    (h1 : Ans T 40 [.int .i64 g, .int .i64 b, .str tx, .agg [.int .i64 (t 0), .int .i64 (t 1), .int .i64 (t 2), .int .i64 (t 3), .int .i64 (t 4), .int .i64 (t 5), .int .i64 (t 6), .int .i64 (t 7), .int .i64 (t 8), .int .i64 (t 9), .int .i64 (t 10), .int .i64 (t 11), .int .i64 (t 12), .int .i64 (t 13), .int .i64 (t 14), .int .i64 (t 15)]] (.tup [.str u, .int .i64 eu])) (h2 : Ans T 42 [.int .i64 g, .int .i64 b, .str tx, .agg [.int .i64 (t 0), .int .i64 (t 1), .int .i64 (t 2), .int .i64 (t 3), .int .i64 (t 4), .int .i64 (t 5), .int .i64 (t 6), .int .i64 (t 7), .int .i64 (t 8), .int .i64 (t 9), .int .i64 (t 10), .int .i64 (t 11), .int .i64 (t 12), .int .i64 (t 13), .int .i64 (t 14), .int .i64 (t 15)]] (.tup [.str u, .int .i64 eu]))
    (h3 : Ans T 43 [.agg [.int .i64 w, .int .i64 q, .sl false 3 dr]] (.tup [.str v, .int .i64 ev])) (h4 : Ans T 44 [.agg [.int .i64 w, .int .i64 q, .sl false 3 dr]] (.tup [.str v, .int .i64 ev]))
    (h5 : Ans T 45 [] (.str dn)) (h6 : Ans T 46 [] (.str dn))
    (R : S → Prop) (hR : ∀ s s' b, b = true → Ent s s' → Ret [.t 10] [.bool b] s' → R s) : awp P T T1 ac_lhw (S0 [.int .i64 g, .int .i64 b, .str tx, .sl false 1 lr, .agg [.int .i64 w, .int .i64 q, .sl false 3 dr]] Hp.emp) R (fun _ _ => False) R := by
  cbv
  intro β
  cbv
  repeat' (first
    | (refine And.intro (by first | assumption | decide) ?_; try cbv)
    | (intro β2; try cbv))
  refine h0 _ _ ?_
  cbv
  refine h1 _ _ ?_
  cbv
  refine h0 _ _ ?_
  cbv
  refine h2 _ _ ?_
  cbv
  repeat' (first
    | (refine And.intro (by first | assumption | decide) ?_; try cbv)
    | (intro β2; try cbv))
  refine h3 _ _ ?_
  cbv
  repeat' (first
    | (refine And.intro (by first | assumption | decide) ?_; try cbv)
    | (intro β2; try cbv))
  refine h4 _ _ ?_
  cbv
  refine br_tt (seq_T hP rfl) ?_
  cbv
  refine br_tt (eq_T hP rfl) ?_
  cbv
  refine br_tt (seq_T hP rfl) ?_
  cbv
  refine br_tt (eq_T hP rfl) ?_
  cbv
  refine h5 _ _ ?_
  cbv
  refine h6 _ _ ?_
  cbv
  exact hR _ _ _ (seq_T hP rfl) (Ent.refl _) rfl
theorem sp_law_hotWrites (g b : Int) (tx : List UInt8) (l : List Int) (r : Rev) (_ : I64 g) (_ : I64 b) (htx : tx.length ≤ maxLen) (_ : l.length ≤ maxLen ∧ ∀ a ∈ l, I64 a) (hr : Rev.Ok r) :
    Spec Try.prog 10 [.int .i64 g, .int .i64 b, .str tx, .sl false 1 (l.map fun n => [.int .i64 n]), .agg (encRev r)] Hp.emp (Is (.bool true)) :=
  spec_pure dOk ok_lhw [.bool true] (.bool _) fun R hR => vc_lhw std rfl _ _ g b tx (iRows l) (tabC l) r.who r.seq (r.delta.map encPart) (headF g b tx (tabC l)).1 (revF r).1 (headF g b tx (tabC l)).2 (revF r).2 (putFr 3 []).1
    (ansIn (sp_tab l) rfl rfl) (ansW (sp_hhead g b tx htx (tabC l)) (fun h => .cons (.same _) (.cons (.same _) (.cons (.same _) (.cons (.same _) .nil)))) rfl) (ansW (sp_rhead g b tx htx (tabC l)) (fun h => .cons (.same _) (.cons (.same _) (.cons (.same _) (.cons (.same _) .nil)))) rfl)
    (ansW (sp_hrev r hr.2.2) (fun h => .cons (.same _) .nil) rfl) (ansW (sp_rrf r hr.2.2) (fun h => .cons (.same _) .nil) rfl) (ansW sp_hdone (fun h => .nil) rfl) (ansW sp_rdone (fun h => .nil) rfl)
    R fun s s' b h he hr => by subst h; exact hR s s' he hr
end Go.Proofs.Ytlomnjlfmbolkaa.AM
