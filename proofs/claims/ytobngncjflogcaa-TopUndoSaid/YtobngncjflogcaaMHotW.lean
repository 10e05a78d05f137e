/-
  What a slot is written as: hot.Head, hot.Rev, hot.Done, the document's Head, RevFrame, DoneFrame, and the law HotWrites. (Printed by gen_hotw.py.)
-/
import Derived.Test.YtobngncjflogcaaMHot
import Derived.Test.YtobngncjflogcaaMCode
import Derived.Test.YtobngncjflogcaaMFrame
set_option linter.unusedVariables false
set_option linter.unusedSimpArgs false
namespace Go.Proofs.Ytobngncjflogcaa.AM
open Go Go.RowKit
set_option maxRecDepth 100000
set_option maxHeartbeats 2000000
/-! the plain law -/
def inR (n : Int) : Prop := 0 ≤ n ∧ n ≤ 2147483647
instance (n : Int) : Decidable (inR n) := inferInstanceAs (Decidable (_ ∧ _))
def numsL (l : List Int) : List UInt8 := (l.map fun n => numL n.toNat).flatten
def numsF (l : List Int) : List UInt8 × Bool := if ∀ n ∈ l, inR n then (numsL l, true) else ([], false)
def flatL (g b : Int) (t : Nat → Int) : List Int := [g, b, t 0, t 1, t 2, t 3, t 4, t 5, t 6, t 7, t 8, t 9, t 10, t 11, t 12, t 13, t 14, t 15]
def headF (g b : Int) (tx : List UInt8) (t : Nat → Int) : List UInt8 × Int :=
  if ∀ n ∈ flatL g b t, inR n then (if 500 < tx.length then ([], 2) else putFr 1 (numsL (flatL g b t) ++ tx)) else ([], 1)
def revF (r : Rev) : List UInt8 × Int := if oneF r ≠ 0 then ([], oneF r) else putFr 2 (numL r.who.toNat ++ numL r.seq.toNat ++ codeF r.delta)
theorem numsL_len (l : List Int) : (numsL l).length ≤ 5 * l.length := by
  induction l with
  | nil => simp [numsL]
  | cons a l ih =>
    have := numL_len a.toNat
    simp only [numsL, List.map_cons, List.flatten_cons, List.length_append, List.length_cons] at ih ⊢
    omega
theorem numsL_app (a : List Int) (n : Int) : numsL (a ++ [n]) = numsL a ++ numL n.toNat := by simp [numsL]
theorem flat_len (g b : Int) (t : Nat → Int) : (flatL g b t).length = 18 := rfl
/-! nums -/
def ac_nums : AC := .seq (.region false [
    ⟨some 2, none, .mov (.c (.string ⟨#[]⟩))⟩,
    ⟨some 3, none, .mov (.c (.bool false))⟩])
  (.seq (.region false [
    ⟨some 4, none, .mov (.c (.string ⟨#[]⟩))⟩])
  (.seq (.seq (.region false [
    ⟨some 9, none, .mov (.t 0)⟩,
    ⟨some 10, none, .len false (.t 9)⟩,
    ⟨some 11, none, .mov (.c (.int .i64 0))⟩])
  (.block 0 (.loop (.seq (.region false [
      ⟨some 12, none, .bin .lss (.t 11) (.t 10)⟩])
    (.seq (.cond (.t 12)
      (.skip)
      (.exit 0))
    (.seq (.block 1 (.seq (.region false [
      ⟨some 13, none, .iaddr 1 (.t 9) (.t 11)⟩,
      ⟨some 14, none, .load1 (.t 13)⟩,
      ⟨some 6, none, .mov (.t 14)⟩])
    (.seq (.region false [
      ⟨some 16, none, .mov (.t 6)⟩,
      ⟨some 17, none, .call 114 [(.t 16)]⟩,
      ⟨some 15, none, .mov (.t 17)⟩,
      ⟨some 18, none, .ext 0 (.t 15)⟩,
      ⟨some 19, none, .ext 1 (.t 15)⟩,
      ⟨some 7, none, .mov (.t 18)⟩,
      ⟨some 8, none, .mov (.t 19)⟩])
    (.seq (.seq (.region false [
      ⟨some 20, none, .mov (.t 8)⟩,
      ⟨some 21, none, .bin .neq (.t 20) (.c (.int .i64 0))⟩])
    (.cond (.t 21)
      (.seq (.region false [
        ⟨some 2, none, .mov (.c (.string ⟨#[]⟩))⟩,
        ⟨some 3, none, .mov (.c (.bool false))⟩])
      (.ret))
      (.skip)))
    (.region false [
      ⟨some 22, none, .mov (.t 4)⟩,
      ⟨some 23, none, .mov (.t 7)⟩,
      ⟨some 24, none, .bin .add (.t 22) (.t 23)⟩,
      ⟨some 4, none, .mov (.t 24)⟩])))))
    (.region false [
      ⟨some 25, none, .bin .add (.t 11) (.c (.int .i64 1))⟩,
      ⟨some 11, none, .mov (.t 25)⟩])))))))
  (.seq (.region false [
    ⟨some 26, none, .mov (.t 4)⟩,
    ⟨some 2, none, .mov (.t 26)⟩,
    ⟨some 3, none, .mov (.c (.bool true))⟩])
  (.ret))))
theorem ok_nums : FnOk Try.prog 92 Try.f92 ac_nums [.t 2, .t 3] 1 drawD := ⟨Try.func92, by decide +kernel, by kernel_rfl, by kernel_rfl, by decide +kernel⟩
structure YNm (l : List Int) where
  k : Int
  pre : List Int
  rest : List Int
  o : List UInt8
  hd : l = pre ++ rest
  hk : k = (pre.length : Int)
  ho : o = numsL pre
  hin : ∀ n ∈ pre, inR n
theorem vc_nums (P : Prim) (hP : P = std) (T T1 : CallT) (l : List Int) (hl : l.length ≤ 1000) (rows : List (List V)) (hrows : rows = iRows l) (pS : Int → List UInt8) (pE : Int → Int)
    (h1 : ∀ n, Ans T 114 [.int .i64 n] (.tup [.str (pS n), .int .i64 (pE n)])) (hp0 : ∀ n, pE n = 0 → inR n ∧ pS n = numL n.toNat) (hp1 : ∀ n, pE n ≠ 0 → ¬ inR n)
    (r : List UInt8) (e : Bool) (hr : numsF l = (r, e))
    (R : S → Prop) (hR : ∀ s0 s' x y, x = r ∧ y = e → Ent s0 s' → Ret [.t 2, .t 3] [.str x, .bool y] s' → R s0) : awp P T T1 ac_nums (S0 [.sl true 1 rows] Hp.emp) R (fun _ _ => False) R := by
  have hl1 : P.rlen rows = (l.length : Int) := by rw [rlen_eq hP, hrows]; simp [iRows]
  cbv
  refine ⟨YNm l, fun y => [(4, .str y.o), (9, .sl true 1 rows), (10, .int .i64 (P.rlen rows)), (11, .int .i64 y.k)], fun y => [], fun y => y.rest.length,
    ⟨_, Ent.refl _, ⟨0, [], l, [], rfl, rfl, rfl, by simp⟩, ⟨rfl, rfl, rfl, rfl, trivial⟩, trivial⟩, ?_⟩
  rintro ⟨k, pre, rest, o, hd, hk, ho, hin⟩
  replace hk : k = (pre.length : Int) := hk
  have hlp : pre.length + rest.length = l.length := by rw [hd]; simp
  cbv
  refine br_cases (fun h => ?_) (fun h => ?_)
  · have h6 : k < P.rlen rows := lt_t hP h
    rw [hl1] at h6
    rcases rest with _ | ⟨n, rest⟩
    · exfalso; simp at hlp; ((try simp only [nc] at *); omega)
    have hrow : P.row rows (P.nat k) [.int .i64 n] := row_of hP hk (by rw [hrows, iRows, List.getElem?_map, hd]; simp)
    have k1 : P.leP 0 k := le0 hP (by ((try simp only [nc] at *); omega))
    have k2 : P.i64 (P.add k 1) := by rw [add_eq hP]; exact i64I hP (by ((try simp only [nc] at *); omega))
    have k3 : P.add k 1 = (((pre ++ [n]).length : Nat) : Int) := by rw [add_eq hP, hk]; simp
    have c1 := h1 n
    have o1 := numsL_len pre
    cbv
    refine ⟨k1, _, hrow, ?_⟩
    cbv
    refine c1 _ _ ?_
    cbv
    refine br_cases (fun h => ?_) (fun h => ?_)
    · have g := hp1 n (ne_t hP h)
      unfold numsF at hr
      rw [if_neg (fun x => g (x n (by rw [hd]; simp)))] at hr
      cbv
      exact hR _ _ _ _ (by simpa using hr) (Ent.refl _) rfl
    have g := hp0 n (ne_f hP h)
    have o2 : P.i64 (P.add (P.slen o) (P.slen (pS n))) := by
      rw [add_eq hP, slen_eq hP, slen_eq hP, ho, g.2]
      have := numL_len n.toNat
      exact i64I hP (by ((try simp only [nc] at *); omega))
    have o3 : P.sapp o (pS n) = numsL (pre ++ [n]) := by rw [sapp_eq hP, numsL_app, ho, g.2]
    have o4 : ∀ x ∈ pre ++ [n], inR x := by
      intro x hx
      rcases List.mem_append.1 hx with hx | hx
      · exact hin x hx
      · rw [List.mem_singleton.1 hx]; exact g.1
    cbv
    refine ⟨o2, ?_⟩
    cbv
    refine ⟨k2, ?_⟩
    exact ⟨_, Ent.refl _, ⟨_, pre ++ [n], rest, _, by simp [hd], k3, o3, o4⟩, ⟨rfl, rfl, rfl, rfl, trivial⟩, trivial, by simp⟩
  · have h6 : ¬ k < P.rlen rows := lt_f hP h
    rw [hl1] at h6
    rcases rest with _ | ⟨y, rest⟩
    rotate_left
    · exfalso; simp at hlp; ((try simp only [nc] at *); omega)
    rw [List.append_nil] at hd
    subst hd
    unfold numsF at hr
    rw [if_pos hin, ← ho] at hr
    cbv
    exact hR _ _ _ _ (by simpa using hr) (Ent.refl _) rfl
theorem put_in {n : Int} (h : (putF n).2 = 0) : inR n ∧ (putF n).1 = numL n.toNat := by
  unfold putF at h ⊢
  by_cases hn : n < 0 ∨ 2147483647 < n
  · rw [if_pos hn] at h; exact absurd h (by decide)
  · rw [if_neg hn]; exact ⟨by unfold inR; omega, rfl⟩
theorem put_out {n : Int} (h : (putF n).2 ≠ 0) : ¬ inR n := by
  unfold putF at h
  by_cases hn : n < 0 ∨ 2147483647 < n
  · unfold inR; omega
  · rw [if_neg hn] at h; exact absurd rfl h
theorem sp_nums (l : List Int) (hl : l.length ≤ 1000) : Spec Try.prog 92 [.sl true 1 (iRows l)] Hp.emp (Is (.tup [.str (numsF l).1, .bool (numsF l).2])) :=
  spec_pure dOk ok_nums [.str (numsF l).1, .bool (numsF l).2] (.tup _ (by simp; exact ⟨.str _, .bool _⟩)) fun R hR => vc_nums std rfl _ _ l hl _ rfl (fun n => (putF n).1) (fun n => (putF n).2)
    (fun n => ansSame (sp_nput n) rfl rfl) (fun n => put_in) (fun n => put_out) _ _ rfl R fun s0 s' x y h he hr => by obtain ⟨rfl, rfl⟩ := h; exact hR s0 s' he hr
/-! flat -/
def ac_flat : AC := .seq (.region false [
    ⟨some 5, none, .box 79 16 (.t 2)⟩,
    ⟨some 6, none, .mov (.c (.slice none 0 0))⟩])
  (.seq (.region false [
    ⟨some 10, none, .mov (.t 0)⟩,
    ⟨some 11, none, .mov (.t 1)⟩,
    ⟨some 12, none, .bslice 3 1 [(.t 10), (.t 11)]⟩,
    ⟨some 7, none, .mov (.t 12)⟩])
  (.seq (.seq (.region false [
    ⟨some 13, none, .loadn 16 (.t 5)⟩,
    ⟨some 14, none, .mov (.c (.int .i64 0))⟩])
  (.block 0 (.loop (.seq (.region false [
      ⟨some 15, none, .bin .lss (.t 14) (.c (.int .i64 8))⟩])
    (.seq (.cond (.t 15)
      (.skip)
      (.exit 0))
    (.seq (.block 1 (.seq (.region false [
      ⟨some 16, none, .ixa true 8 2 (.t 13) (.t 14)⟩,
      ⟨some 9, none, .alloc 78 [(.int .i64 0), (.int .i64 0)]⟩,
      ⟨none, none, .store 2 (.t 9) (.t 16)⟩])
    (.region false [
      ⟨some 17, none, .mov (.t 7)⟩,
      ⟨some 18, none, .faddr 0 (.t 9)⟩,
      ⟨some 19, none, .load1 (.t 18)⟩,
      ⟨some 20, none, .faddr 1 (.t 9)⟩,
      ⟨some 21, none, .load1 (.t 20)⟩,
      ⟨some 22, none, .bslice 3 1 [(.t 19), (.t 21)]⟩,
      ⟨some 23, none, .append 3 1 8 (.t 17) (.t 22)⟩,
      ⟨some 7, none, .mov (.t 23)⟩])))
    (.region false [
      ⟨some 24, none, .bin .add (.t 14) (.c (.int .i64 1))⟩,
      ⟨some 14, none, .mov (.t 24)⟩])))))))
  (.seq (.region false [
    ⟨some 25, none, .mov (.t 7)⟩,
    ⟨some 6, none, .mov (.t 25)⟩])
  (.ret))))
theorem ok_flat : FnOk Try.prog 93 Try.f93 ac_flat [.t 6] 3 drawD := ⟨Try.func93, by decide +kernel, by kernel_rfl, by kernel_rfl, by decide +kernel⟩
structure YFt (L : List Int) where
  m : Nat
  k : Int
  b : Option Nat
  c : Nat
  rows : List (List V)
  hm : m ≤ 8
  hk : k = (m : Int)
  hrows : rows = iRows (L.take (2 + 2 * m))
  hc : c = 2 + 2 * m
theorem vc_flat (P : Prim) (hP : P = std) (T T1 : CallT) (g b : Int) (t : Nat → Int)
    (R : S → Prop) (hR : RetSl [.t 6] 1 (iRows (flatL g b t)) [] R) : awp P T T1 ac_flat (S0 [.int .i64 g, .int .i64 b, .agg [.int .i64 (t 0), .int .i64 (t 1), .int .i64 (t 2), .int .i64 (t 3), .int .i64 (t 4), .int .i64 (t 5), .int .i64 (t 6), .int .i64 (t 7), .int .i64 (t 8), .int .i64 (t 9), .int .i64 (t 10), .int .i64 (t 11), .int .i64 (t 12), .int .i64 (t 13), .int .i64 (t 14), .int .i64 (t 15)]] Hp.emp) R (fun _ _ => False) R := by
  have hN : ∀ n : Nat, P.nat (n : Int) = n := by intro n; subst hP; rfl
  cbv
  intro β
  cbv
  repeat' (first
    | (refine And.intro (by first | assumption | decide) ?_; try cbv)
    | (intro β2; try cbv))
  refine ⟨YFt (flatL g b t), fun y => [(7, .own 1000012 y.b 1 y.c), (13, .agg [.int .i64 (t 0), .int .i64 (t 1), .int .i64 (t 2), .int .i64 (t 3), .int .i64 (t 4), .int .i64 (t 5), .int .i64 (t 6), .int .i64 (t 7), .int .i64 (t 8), .int .i64 (t 9), .int .i64 (t 10), .int .i64 (t 11), .int .i64 (t 12), .int .i64 (t 13), .int .i64 (t 14), .int .i64 (t 15)]), (14, .int .i64 y.k)], fun y => [(1000012, ⟨y.b, 3, 1, y.rows⟩)], fun y => 8 - y.m,
    ⟨_, Ent.refl _, ⟨0, 0, _, _, _, by omega, rfl, rfl, rfl⟩, ⟨rfl, rfl, rfl, trivial⟩, ⟨rfl, trivial⟩⟩, ?_⟩
  rintro ⟨m, k, bb, c, rows, hm, hk, hrows, hc⟩
  cbv
  refine br_cases (fun h => ?_) (fun h => ?_)
  · have h5 : k < 8 := lt_t hP h
    replace hm : m < 8 := by ((try simp only [nc] at *); omega)
    have k0 : P.leP 0 k := le0 hP (by ((try simp only [nc] at *); omega))
    have k1 : P.ltP k 8 := ltI hP (by ((try simp only [nc] at *); omega))
    have k2 : P.i64 (P.add k 1) := by rw [add_eq hP]; exact i64I hP (by ((try simp only [nc] at *); omega))
    have k3 : P.add k 1 = ((m + 1 : Nat) : Int) := by rw [add_eq hP, hk]; ((try simp only [nc] at *); omega)
    have k4 : P.nat k = m := by rw [hk]; exact hN m
    have f4 : P.neP rows c := neP_of hP _ _ (by rw [hrows, hc]; simp [iRows, flat_len]; omega)
    have f5 : ∀ r : List (List V), r.length = 2 → P.bytes (P.add (P.int c) (P.rlen r)) 8 := by intro r hr2; subst hP; show ((c : Int) + (r.length : Int)) * 8 ≤ _; rw [hc, hr2]; ((try simp only [nc] at *); omega)
    have f6 : ∀ x y : List V, P.neP [x, y] 2 := fun x y => neP_of hP _ _ rfl
    have f7 : P.rapp rows [[.int .i64 (t (2 * m))], [.int .i64 (t (2 * m + 1))]] = iRows ((flatL g b t).take (2 + 2 * (m + 1))) := by
      rw [hrows]
      subst hP
      have hc : m = 0 ∨ m = 1 ∨ m = 2 ∨ m = 3 ∨ m = 4 ∨ m = 5 ∨ m = 6 ∨ m = 7 := by omega
      rcases hc with rfl | rfl | rfl | rfl | rfl | rfl | rfl | rfl <;> rfl
    have f8 : ∀ x y : List V, P.nadd c (P.rlenN [x, y]) = 2 + 2 * (m + 1) := by intro x y; subst hP; show c + 2 = _; omega
    clear hR h5 h
    have hc : m = 0 ∨ m = 1 ∨ m = 2 ∨ m = 3 ∨ m = 4 ∨ m = 5 ∨ m = 6 ∨ m = 7 := by omega
    rcases hc with rfl | rfl | rfl | rfl | rfl | rfl | rfl | rfl
    · cbv
      refine ⟨k0, k1, 0, k4, ?_⟩
      cbv
      repeat' (first
        | (refine And.intro (by first | assumption | decide | exact f6 _ _ | exact f5 _ rfl) ?_; try cbv)
        | (intro β; try cbv))
      exact ⟨_, Ent.refl _, ⟨0 + 1, _, _, _, _, by decide, k3, f7, f8 _ _⟩, ⟨rfl, rfl, rfl, trivial⟩, ⟨rfl, trivial⟩, by show 8 - (0 + 1) < 8 - 0; decide⟩
    · cbv
      refine ⟨k0, k1, 1, k4, ?_⟩
      cbv
      repeat' (first
        | (refine And.intro (by first | assumption | decide | exact f6 _ _ | exact f5 _ rfl) ?_; try cbv)
        | (intro β; try cbv))
      exact ⟨_, Ent.refl _, ⟨1 + 1, _, _, _, _, by decide, k3, f7, f8 _ _⟩, ⟨rfl, rfl, rfl, trivial⟩, ⟨rfl, trivial⟩, by show 8 - (1 + 1) < 8 - 1; decide⟩
    · cbv
      refine ⟨k0, k1, 2, k4, ?_⟩
      cbv
      repeat' (first
        | (refine And.intro (by first | assumption | decide | exact f6 _ _ | exact f5 _ rfl) ?_; try cbv)
        | (intro β; try cbv))
      exact ⟨_, Ent.refl _, ⟨2 + 1, _, _, _, _, by decide, k3, f7, f8 _ _⟩, ⟨rfl, rfl, rfl, trivial⟩, ⟨rfl, trivial⟩, by show 8 - (2 + 1) < 8 - 2; decide⟩
    · cbv
      refine ⟨k0, k1, 3, k4, ?_⟩
      cbv
      repeat' (first
        | (refine And.intro (by first | assumption | decide | exact f6 _ _ | exact f5 _ rfl) ?_; try cbv)
        | (intro β; try cbv))
      exact ⟨_, Ent.refl _, ⟨3 + 1, _, _, _, _, by decide, k3, f7, f8 _ _⟩, ⟨rfl, rfl, rfl, trivial⟩, ⟨rfl, trivial⟩, by show 8 - (3 + 1) < 8 - 3; decide⟩
    · cbv
      refine ⟨k0, k1, 4, k4, ?_⟩
      cbv
      repeat' (first
        | (refine And.intro (by first | assumption | decide | exact f6 _ _ | exact f5 _ rfl) ?_; try cbv)
        | (intro β; try cbv))
      exact ⟨_, Ent.refl _, ⟨4 + 1, _, _, _, _, by decide, k3, f7, f8 _ _⟩, ⟨rfl, rfl, rfl, trivial⟩, ⟨rfl, trivial⟩, by show 8 - (4 + 1) < 8 - 4; decide⟩
    · cbv
      refine ⟨k0, k1, 5, k4, ?_⟩
      cbv
      repeat' (first
        | (refine And.intro (by first | assumption | decide | exact f6 _ _ | exact f5 _ rfl) ?_; try cbv)
        | (intro β; try cbv))
      exact ⟨_, Ent.refl _, ⟨5 + 1, _, _, _, _, by decide, k3, f7, f8 _ _⟩, ⟨rfl, rfl, rfl, trivial⟩, ⟨rfl, trivial⟩, by show 8 - (5 + 1) < 8 - 5; decide⟩
    · cbv
      refine ⟨k0, k1, 6, k4, ?_⟩
      cbv
      repeat' (first
        | (refine And.intro (by first | assumption | decide | exact f6 _ _ | exact f5 _ rfl) ?_; try cbv)
        | (intro β; try cbv))
      exact ⟨_, Ent.refl _, ⟨6 + 1, _, _, _, _, by decide, k3, f7, f8 _ _⟩, ⟨rfl, rfl, rfl, trivial⟩, ⟨rfl, trivial⟩, by show 8 - (6 + 1) < 8 - 6; decide⟩
    · cbv
      refine ⟨k0, k1, 7, k4, ?_⟩
      cbv
      repeat' (first
        | (refine And.intro (by first | assumption | decide | exact f6 _ _ | exact f5 _ rfl) ?_; try cbv)
        | (intro β; try cbv))
      exact ⟨_, Ent.refl _, ⟨7 + 1, _, _, _, _, by decide, k3, f7, f8 _ _⟩, ⟨rfl, rfl, rfl, trivial⟩, ⟨rfl, trivial⟩, by show 8 - (7 + 1) < 8 - 7; decide⟩
  · have h5 : ¬ k < 8 := lt_f hP h
    have hm8 : m = 8 := by ((try simp only [nc] at *); omega)
    have e1 : rows = iRows (flatL g b t) := by rw [hrows, hm8]; rfl
    cbv
    exact hR.2.1 _ _ _ _ _ _ _ (Ent.refl _) rfl rfl ⟨by rw [hc, hm8]; rfl, e1⟩
theorem sp_flat (g b : Int) (t : Nat → Int) : Spec Try.prog 93 [.int .i64 g, .int .i64 b, tabV t] Hp.emp (Is (.sl false 1 (iRows (flatL g b t)))) :=
  spec_frz dOk ok_flat fun R hR => vc_flat std rfl _ _ g b t R (retSl_of (iRows_sz _) (iRows_fz _) (by simp) hR)
/-! Head -/
def ac_hhead : AC := .seq (.region false [
    ⟨some 7, none, .box 79 16 (.t 3)⟩,
    ⟨some 8, none, .mov (.c (.string ⟨#[]⟩))⟩,
    ⟨some 9, none, .mov (.c (.int .i64 0))⟩])
  (.seq (.region false [
    ⟨some 13, none, .mov (.t 0)⟩,
    ⟨some 14, none, .mov (.t 1)⟩,
    ⟨some 15, none, .loadn 16 (.t 7)⟩,
    ⟨some 16, none, .call 93 [(.t 13), (.t 14), (.t 15)]⟩,
    ⟨some 17, none, .call 92 [(.t 16)]⟩,
    ⟨some 12, none, .mov (.t 17)⟩,
    ⟨some 18, none, .ext 0 (.t 12)⟩,
    ⟨some 19, none, .ext 1 (.t 12)⟩,
    ⟨some 10, none, .mov (.t 18)⟩,
    ⟨some 11, none, .mov (.t 19)⟩])
  (.seq (.seq (.region false [
    ⟨some 20, none, .mov (.t 11)⟩,
    ⟨some 21, none, .not (.t 20)⟩])
  (.cond (.t 21)
    (.seq (.region false [
      ⟨some 8, none, .mov (.c (.string ⟨#[]⟩))⟩,
      ⟨some 9, none, .mov (.c (.int .i64 1))⟩])
    (.ret))
    (.skip)))
  (.seq (.seq (.region false [
    ⟨some 22, none, .mov (.t 2)⟩,
    ⟨some 23, none, .len true (.t 22)⟩,
    ⟨some 24, none, .bin .gtr (.t 23) (.c (.int .i64 500))⟩])
  (.cond (.t 24)
    (.seq (.region false [
      ⟨some 8, none, .mov (.c (.string ⟨#[]⟩))⟩,
      ⟨some 9, none, .mov (.c (.int .i64 2))⟩])
    (.ret))
    (.skip)))
  (.seq (.region false [
    ⟨some 25, none, .mov (.t 10)⟩,
    ⟨some 26, none, .mov (.t 2)⟩,
    ⟨some 27, none, .bin .add (.t 25) (.t 26)⟩,
    ⟨some 28, none, .build [(.int .i64 0), (.string ⟨#[]⟩)] [(0, 1, (.c (.int .i64 1))), (1, 1, (.t 27))]⟩,
    ⟨some 29, none, .call 94 [(.t 28)]⟩,
    ⟨some 30, none, .ext 0 (.t 29)⟩,
    ⟨some 31, none, .ext 1 (.t 29)⟩,
    ⟨some 8, none, .mov (.t 30)⟩,
    ⟨some 9, none, .mov (.t 31)⟩])
  (.ret)))))
theorem ok_hhead : FnOk Try.prog 57 Try.f57 ac_hhead [.t 8, .t 9] 4 drawD := ⟨Try.func57, by decide +kernel, by kernel_rfl, by kernel_rfl, by decide +kernel⟩
theorem vc_hhead (P : Prim) (hP : P = std) (T T1 : CallT) (g b : Int) (tx : List UInt8) (htx : tx.length ≤ maxLen) (t : Nat → Int) (fr : List (List V)) (o : List UInt8) (ok : Bool) (ho : o.length ≤ 100)
    (h1 : Ans T 93 [.int .i64 g, .int .i64 b, .agg [.int .i64 (t 0), .int .i64 (t 1), .int .i64 (t 2), .int .i64 (t 3), .int .i64 (t 4), .int .i64 (t 5), .int .i64 (t 6), .int .i64 (t 7), .int .i64 (t 8), .int .i64 (t 9), .int .i64 (t 10), .int .i64 (t 11), .int .i64 (t 12), .int .i64 (t 13), .int .i64 (t 14), .int .i64 (t 15)]] (.sl false 1 fr)) (h2 : Ans T 92 [.sl false 1 fr] (.tup [.str o, .bool ok]))
    (uF : List UInt8 → List UInt8) (eF : List UInt8 → Int) (h3 : ∀ s, Ans T 94 [.agg [.int .i64 1, .str s]] (.tup [.str (uF s), .int .i64 (eF s)]))
    (r : List UInt8) (e : Int) (hr : (if ok then (if 500 < tx.length then ([], 2) else (uF (o ++ tx), eF (o ++ tx))) else ([], 1)) = (r, e))
    (R : S → Prop) (hR : ∀ s0 s' x y, x = r ∧ y = e → Ent s0 s' → Ret [.t 8, .t 9] [.str x, .int .i64 y] s' → R s0) : awp P T T1 ac_hhead (S0 [.int .i64 g, .int .i64 b, .str tx, .agg [.int .i64 (t 0), .int .i64 (t 1), .int .i64 (t 2), .int .i64 (t 3), .int .i64 (t 4), .int .i64 (t 5), .int .i64 (t 6), .int .i64 (t 7), .int .i64 (t 8), .int .i64 (t 9), .int .i64 (t 10), .int .i64 (t 11), .int .i64 (t 12), .int .i64 (t 13), .int .i64 (t 14), .int .i64 (t 15)]] Hp.emp) R (fun _ _ => False) R := by
  have hsp : P.slen tx = (tx.length : Int) := slen_eq hP tx
  cbv
  intro β
  cbv
  repeat' (first
    | (refine And.intro (by first | assumption | decide) ?_; try cbv)
    | (intro β2; try cbv))
  refine h1 _ _ ?_
  cbv
  refine h2 _ _ ?_
  cbv
  refine br_cases (fun h => ?_) (fun h => ?_)
  · rw [if_pos h] at hr
    cbv
    refine br_cases (fun h => ?_) (fun h => ?_)
    · have h6 : 500 < P.slen tx := lt_t hP h
      rw [hsp] at h6
      rw [if_pos (by ((try simp only [nc] at *); omega))] at hr
      cbv
      exact hR _ _ _ _ (by simpa using hr) (Ent.refl _) rfl
    · have h6 : ¬ 500 < P.slen tx := lt_f hP h
      rw [hsp] at h6
      rw [if_neg (by ((try simp only [nc] at *); omega))] at hr
      have o2 : P.i64 (P.add (P.slen o) (P.slen tx)) := by rw [add_eq hP, slen_eq hP, slen_eq hP]; exact i64I hP (by ((try simp only [nc] at *); omega))
      have c3 := h3 (P.sapp o tx)
      rw [← sapp_eq hP o tx] at hr
      cbv
      refine ⟨o2, ?_⟩
      cbv
      refine c3 _ _ ?_
      cbv
      exact hR _ _ _ _ (by simpa using hr) (Ent.refl _) rfl
  · rw [if_neg (by rw [h]; decide)] at hr
    cbv
    exact hR _ _ _ _ (by simpa using hr) (Ent.refl _) rfl
theorem nums_len {g b : Int} {t : Nat → Int} : (numsF (flatL g b t)).1.length ≤ 100 := by
  unfold numsF
  split
  · have := numsL_len (flatL g b t)
    rw [flat_len] at this
    simp only []; omega
  · simp
theorem sp_hhead (g b : Int) (tx : List UInt8) (htx : tx.length ≤ maxLen) (t : Nat → Int) : Spec Try.prog 57 [.int .i64 g, .int .i64 b, .str tx, tabV t] Hp.emp (Is (.tup [.str (headF g b tx t).1, .int .i64 (headF g b tx t).2])) :=
  spec_pure dOk ok_hhead [.str (headF g b tx t).1, .int .i64 (headF g b tx t).2] (.tup _ (by simp; exact ⟨.str _, .int _ _⟩)) fun R hR => vc_hhead std rfl _ _ g b tx htx t (iRows (flatL g b t)) (numsF (flatL g b t)).1 (numsF (flatL g b t)).2 nums_len
    (ansW (sp_flat g b t) (fun h => .cons (.same _) (.cons (.same _) (.cons (.same _) .nil))) rfl) (ansIn (sp_nums _ (by rw [flat_len]; omega)) rfl rfl) (fun s => (putFr 1 s).1) (fun s => (putFr 1 s).2) (fun s => ansW (sp_fput ⟨1, s⟩) (fun h => .cons (.same _) .nil) rfl) (headF g b tx t).1 (headF g b tx t).2
    (by
      unfold headF numsF
      by_cases h : ∀ n ∈ flatL g b t, inR n
      · rw [if_pos h, if_pos h]; rfl
      · rw [if_neg h, if_neg h]; rfl) R fun s0 s' x y h he hr => by obtain ⟨rfl, rfl⟩ := h; exact hR s0 s' he hr
/-! Rev -/
def ac_hrev : AC := .seq (.region false [
    ⟨some 1, none, .box 45 3 (.t 0)⟩,
    ⟨some 2, none, .mov (.c (.string ⟨#[]⟩))⟩,
    ⟨some 3, none, .mov (.c (.int .i64 0))⟩])
  (.seq (.seq (.region false [
    ⟨some 9, none, .loadn 3 (.t 1)⟩,
    ⟨some 10, none, .call 90 [(.t 9)]⟩,
    ⟨some 4, none, .mov (.t 10)⟩])
  (.seq (.region false [
    ⟨some 11, none, .mov (.t 4)⟩,
    ⟨some 12, none, .bin .neq (.t 11) (.c (.int .i64 0))⟩])
  (.cond (.t 12)
    (.seq (.region false [
      ⟨some 13, none, .mov (.t 4)⟩,
      ⟨some 2, none, .mov (.c (.string ⟨#[]⟩))⟩,
      ⟨some 3, none, .mov (.t 13)⟩])
    (.ret))
    (.skip))))
  (.seq (.region false [
    ⟨some 15, none, .faddr 0 (.t 1)⟩,
    ⟨some 16, none, .load1 (.t 15)⟩,
    ⟨some 17, none, .faddr 1 (.t 1)⟩,
    ⟨some 18, none, .load1 (.t 17)⟩,
    ⟨some 19, none, .bslice 3 1 [(.t 16), (.t 18)]⟩,
    ⟨some 20, none, .call 92 [(.t 19)]⟩,
    ⟨some 14, none, .mov (.t 20)⟩,
    ⟨some 21, none, .ext 0 (.t 14)⟩,
    ⟨some 22, none, .ext 1 (.t 14)⟩,
    ⟨some 5, none, .mov (.t 21)⟩,
    ⟨some 6, none, .mov (.t 22)⟩])
  (.seq (.region false [
    ⟨some 24, none, .faddr 2 (.t 1)⟩,
    ⟨some 25, none, .load1 (.t 24)⟩,
    ⟨some 26, none, .call 96 [(.t 25)]⟩,
    ⟨some 23, none, .mov (.t 26)⟩,
    ⟨some 27, none, .ext 0 (.t 23)⟩,
    ⟨some 28, none, .ext 1 (.t 23)⟩,
    ⟨some 7, none, .mov (.t 27)⟩,
    ⟨some 8, none, .mov (.t 28)⟩])
  (.seq (.region false [
    ⟨some 29, none, .mov (.t 5)⟩,
    ⟨some 30, none, .mov (.t 7)⟩,
    ⟨some 31, none, .bin .add (.t 29) (.t 30)⟩,
    ⟨some 32, none, .build [(.int .i64 0), (.string ⟨#[]⟩)] [(0, 1, (.c (.int .i64 2))), (1, 1, (.t 31))]⟩,
    ⟨some 33, none, .call 94 [(.t 32)]⟩,
    ⟨some 34, none, .ext 0 (.t 33)⟩,
    ⟨some 35, none, .ext 1 (.t 33)⟩,
    ⟨some 2, none, .mov (.t 34)⟩,
    ⟨some 3, none, .mov (.t 35)⟩])
  (.ret)))))
theorem ok_hrev : FnOk Try.prog 61 Try.f61 ac_hrev [.t 2, .t 3] 1 drawD := ⟨Try.func61, by decide +kernel, by kernel_rfl, by kernel_rfl, by decide +kernel⟩
theorem vc_hrev (P : Prim) (hP : P = std) (T T1 : CallT) (tf : Bool) (w q : Int) (dr : List (List V)) (c : Int) (h1 : Ans T 90 [.agg [.int .i64 w, .int .i64 q, .sl tf 3 dr]] (.int .i64 c)) (o cs : List UInt8) (ho : o.length ≤ 100) (hcs : cs.length ≤ 10000000)
    (h2 : c = 0 → ∀ (h : Hp) (K : V → Hp → Prop) (k : Nat) (b : Option Nat) (rs : List (List V)), rs = iRows [w, q] → h k = some ⟨b, 3, 1, rs⟩ → K (.tup [.str o, .bool true]) h → T 92 [.own k b 1 2] h K)
    (h3 : c = 0 → Ans T 96 [.sl tf 3 dr] (.tup [.str cs, .int .i64 0]))
    (uF : List UInt8 → List UInt8) (eF : List UInt8 → Int) (h4 : ∀ s, Ans T 94 [.agg [.int .i64 2, .str s]] (.tup [.str (uF s), .int .i64 (eF s)]))
    (r : List UInt8) (e : Int) (hr : (if c ≠ 0 then ([], c) else (uF (o ++ cs), eF (o ++ cs))) = (r, e))
    (R : S → Prop) (hR : ∀ s0 s' x y, x = r ∧ y = e → Ent s0 s' → Ret [.t 2, .t 3] [.str x, .int .i64 y] s' → R s0) : awp P T T1 ac_hrev (S0 [.agg [.int .i64 w, .int .i64 q, .sl tf 3 dr]] Hp.emp) R (fun _ _ => False) R := by
  cbv
  intro β
  cbv
  repeat' (first
    | (refine And.intro (by first | assumption | decide) ?_; try cbv)
    | (intro β2; try cbv))
  refine h1 _ _ ?_
  cbv
  refine br_cases (fun h => ?_) (fun h => ?_)
  · rw [if_pos (ne_t hP h)] at hr
    cbv
    exact hR _ _ _ _ (by simpa using hr) (Ent.refl _) rfl
  have h0 : c = 0 := ne_f hP h
  rw [if_neg (fun x => x h0)] at hr
  have f3 := h3 h0
  have o2 : P.i64 (P.add (P.slen o) (P.slen cs)) := by rw [add_eq hP, slen_eq hP, slen_eq hP]; exact i64I hP (by ((try simp only [nc] at *); omega))
  have c4 := h4 (P.sapp o cs)
  rw [← sapp_eq hP o cs] at hr
  cbv
  intro β
  cbv
  refine h2 h0 _ _ _ _ _ ?_ rfl ?_
  · rfl
  cbv
  repeat' (first
    | (refine And.intro (by first | assumption | decide) ?_; try cbv)
    | (intro β2; try cbv))
  refine f3 _ _ ?_
  cbv
  refine ⟨o2, ?_⟩
  cbv
  refine c4 _ _ ?_
  cbv
  exact hR _ _ _ _ (by simpa using hr) (Ent.refl _) rfl
theorem code_len (d : List Part) (h : checkF d = 0) : (codeF d).length ≤ 1000000 := by
  have hc := checkF_all h
  have := numL_len d.length
  have key : ∀ l : List Part, (∀ p ∈ l, okP p) → ((l.map pcode).flatten).length ≤ 505 * l.length := by
    intro l
    induction l with
    | nil => simp
    | cons p l ih =>
      intro hl
      have := ih fun q hq => hl q (by simp [hq])
      have hp := okP_bd (hl p (by simp))
      have hn := numL_len (4 * (p.n + p.text.length) + p.kind).toNat
      simp only [List.map_cons, List.flatten_cons, List.length_append, List.length_cons, pcode]
      ((try simp only [nc] at *); omega)
  have := key d hc.2.1
  have := hc.1
  unfold codeF
  rw [List.length_append]
  omega
theorem numsF_two {w q : Int} (h1 : inR w) (h2 : inR q) : numsF [w, q] = (numL w.toNat ++ numL q.toNat, true) := by
  unfold numsF
  rw [if_pos (by intro n hn; simp at hn; rcases hn with rfl | rfl <;> assumption)]
  simp [numsL]
theorem sp_hrev (r : Rev) (hr : PartsOk r.delta) : Spec Try.prog 61 [.agg (encRev r)] Hp.emp (Is (.tup [.str (revF r).1, .int .i64 (revF r).2])) :=
  spec_pure dOk ok_hrev [.str (revF r).1, .int .i64 (revF r).2] (.tup _ (by simp; exact ⟨.str _, .int _ _⟩)) fun R hR => vc_hrev std rfl _ _ false r.who r.seq (r.delta.map encPart) (oneF r) (ansW (sp_one r hr) (fun h => .cons (.same _) .nil) rfl) (numL r.who.toNat ++ numL r.seq.toNat) (if oneF r = 0 then codeF r.delta else [])
    (by have h1 := numL_len r.who.toNat
        have h2 := numL_len r.seq.toNat
        rw [List.length_append]; omega)
    (by split
        · rename_i h; have := code_len r.delta (one_who h).2.2.2.2; omega
        · simp)
    (fun h0 h K k b rs hrs hk hK => by
      obtain ⟨g1, g2, g3, g4, g5⟩ := one_who h0
      have hs := sp_nums [r.who, r.seq] (by simp)
      rw [numsF_two ⟨g1, by omega⟩ ⟨g3, g4⟩] at hs
      exact ownCall hs rfl h K k b 2 rs hrs (by rw [hrs]; rfl) hk hK)
    (fun h0 => by
      have g5 := (one_who h0).2.2.2.2
      have hs := sp_cwrite r.delta hr.1
      rw [if_pos g5, g5] at hs
      rw [if_pos h0]
      exact ansSame hs rfl rfl)
    (fun s => (putFr 2 s).1) (fun s => (putFr 2 s).2) (fun s => ansW (sp_fput ⟨2, s⟩) (fun h => .cons (.same _) .nil) rfl) (revF r).1 (revF r).2
    (by
      unfold revF
      by_cases h : oneF r ≠ 0
      · rw [if_pos h, if_pos h]
      · rw [if_neg h, if_neg h, if_pos (Decidable.of_not_not h)]) R fun s0 s' x y h he hr => by obtain ⟨rfl, rfl⟩ := h; exact hR s0 s' he hr
/-! Done -/
theorem sp_hrevT (r : Rev) (hr : PartsOk r.delta) : Spec Try.prog 61 [.agg (encRevT r)] Hp.emp (Is (.tup [.str (revF r).1, .int .i64 (revF r).2])) :=
  spec_pure dOk ok_hrev [.str (revF r).1, .int .i64 (revF r).2] (.tup _ (by simp; exact ⟨.str _, .int _ _⟩)) fun R hR => vc_hrev std rfl _ _ true r.who r.seq (r.delta.map encPart) (oneF r) (ansW (sp_oneT r hr) (fun h => .cons (.same _) .nil) rfl) (numL r.who.toNat ++ numL r.seq.toNat) (if oneF r = 0 then codeF r.delta else [])
    (by have h1 := numL_len r.who.toNat
        have h2 := numL_len r.seq.toNat
        rw [List.length_append]; omega)
    (by split
        · rename_i h; have := code_len r.delta (one_who h).2.2.2.2; omega
        · simp)
    (fun h0 h K k b rs hrs hk hK => by
      obtain ⟨g1, g2, g3, g4, g5⟩ := one_who h0
      have hs := sp_nums [r.who, r.seq] (by simp)
      rw [numsF_two ⟨g1, by omega⟩ ⟨g3, g4⟩] at hs
      exact ownCall hs rfl h K k b 2 rs hrs (by rw [hrs]; rfl) hk hK)
    (fun h0 => by
      have g5 := (one_who h0).2.2.2.2
      have hs := sp_cwriteT r.delta hr.1
      rw [if_pos g5, g5] at hs
      rw [if_pos h0]
      exact ansSame hs rfl rfl)
    (fun s => (putFr 2 s).1) (fun s => (putFr 2 s).2) (fun s => ansW (sp_fput ⟨2, s⟩) (fun h => .cons (.same _) .nil) rfl) (revF r).1 (revF r).2
    (by
      unfold revF
      by_cases h : oneF r ≠ 0
      · rw [if_pos h, if_pos h]
      · rw [if_neg h, if_neg h, if_pos (Decidable.of_not_not h)]) R fun s0 s' x y h he hr => by obtain ⟨rfl, rfl⟩ := h; exact hR s0 s' he hr
/-! Done -/
def ac_hdone : AC := .seq (.region false [
    ⟨some 0, none, .mov (.c (.string ⟨#[]⟩))⟩])
  (.seq (.region false [
    ⟨some 4, none, .build [(.int .i64 0), (.string ⟨#[]⟩)] [(0, 1, (.c (.int .i64 3)))]⟩,
    ⟨some 5, none, .call 94 [(.t 4)]⟩,
    ⟨some 3, none, .mov (.t 5)⟩,
    ⟨some 6, none, .ext 0 (.t 3)⟩,
    ⟨some 7, none, .ext 1 (.t 3)⟩,
    ⟨some 1, none, .mov (.t 6)⟩,
    ⟨some 2, none, .mov (.t 7)⟩])
  (.seq (.region false [
    ⟨some 8, none, .mov (.t 1)⟩,
    ⟨some 0, none, .mov (.t 8)⟩])
  (.ret)))
theorem ok_hdone : FnOk Try.prog 59 Try.f59 ac_hdone [.t 0] 0 drawD := ⟨Try.func59, by decide +kernel, by kernel_rfl, by kernel_rfl, by decide +kernel⟩
theorem vc_hdone (P : Prim) (hP : P = std) (T T1 : CallT) (u : List UInt8) (e : Int) (h1 : Ans T 94 [.agg [.int .i64 3, .str []]] (.tup [.str u, .int .i64 e]))
    (R : S → Prop) (hR : ∀ s0 s' x, x = u → Ent s0 s' → Ret [.t 0] [.str x] s' → R s0) : awp P T T1 ac_hdone (S0 [] Hp.emp) R (fun _ _ => False) R := by
  cbv
  refine h1 _ _ ?_
  cbv
  exact hR _ _ _ rfl (Ent.refl _) rfl
theorem sp_hdone : Spec Try.prog 59 [] Hp.emp (Is (.str (putFr 3 []).1)) :=
  spec_pure dOk ok_hdone [.str (putFr 3 []).1] (.str _) fun R hR => vc_hdone std rfl _ _ _ (putFr 3 []).2 (ansW (sp_fput ⟨3, []⟩) (fun h => .cons (.same _) .nil) rfl) R fun s0 s' x h he hr => by subst h; exact hR s0 s' he hr
/-! the document -/
/-! the document's Head -/
/-! the law -/
end Go.Proofs.Ytobngncjflogcaa.AM
