/-
  Texts of the plain machine, put together: what the law TopArchive reaches.
-/
import Derived.Test.YtobngncjflogcaaTopArchive6
import Derived.Test.YtobngncjflogcaaTopArchive7
import Derived.Test.YtobngncjflogcaaTopArchive9
import Derived.Test.YtobngncjflogcaaTopArchive5
set_option linter.unusedVariables false
set_option linter.unusedSimpArgs false
namespace Go.Proofs.Ytobngncjflogcaa.AM
open Go Go.RowKit
set_option maxRecDepth 100000
set_option maxHeartbeats 2000000
def inR (n : Int) : Prop := 0 ≤ n ∧ n ≤ 2147483647
instance (n : Int) : Decidable (inR n) := inferInstanceAs (Decidable (_ ∧ _))
def numsL (l : List Int) : List UInt8 := (l.map fun n => numL n.toNat).flatten
def numsF (l : List Int) : List UInt8 × Bool := if ∀ n ∈ l, inR n then (numsL l, true) else ([], false)
def flatL (g b : Int) (t : Nat → Int) : List Int := [g, b, t 0, t 1, t 2, t 3, t 4, t 5, t 6, t 7, t 8, t 9, t 10, t 11, t 12, t 13, t 14, t 15]
def headF (g b : Int) (tx : List UInt8) (t : Nat → Int) : List UInt8 × Int :=
  if ∀ n ∈ flatL g b t, inR n then (if 500 < tx.length then ([], 2) else putFr 1 (numsL (flatL g b t) ++ tx)) else ([], 1)
def revF (r : Rev) : List UInt8 × Int := if oneF r ≠ 0 then ([], oneF r) else putFr 2 (numL r.who.toNat ++ numL r.seq.toNat ++ codeF r.delta)
theorem numsL_len (l : List Int) : (numsL l).length ≤ 5 * l.length := by
  induction l with
  | nil => simp [numsL]
  | cons a l ih =>
    have := numL_len a.toNat
    simp only [numsL, List.map_cons, List.flatten_cons, List.length_append, List.length_cons] at ih ⊢
    omega
theorem numsL_app (a : List Int) (n : Int) : numsL (a ++ [n]) = numsL a ++ numL n.toNat := by simp [numsL]
theorem flat_len (g b : Int) (t : Nat → Int) : (flatL g b t).length = 18 := rfl
def ac_nums : AC := .seq (.region false [
    ⟨some 2, none, .mov (.c (.string ⟨#[]⟩))⟩,
    ⟨some 3, none, .mov (.c (.bool false))⟩])
  (.seq (.region false [
    ⟨some 4, none, .mov (.c (.string ⟨#[]⟩))⟩])
  (.seq (.seq (.region false [
    ⟨some 9, none, .mov (.t 0)⟩,
    ⟨some 10, none, .len false (.t 9)⟩,
    ⟨some 11, none, .mov (.c (.int .i64 0))⟩])
  (.block 0 (.loop (.seq (.region false [
      ⟨some 12, none, .bin .lss (.t 11) (.t 10)⟩])
    (.seq (.cond (.t 12)
      (.skip)
      (.exit 0))
    (.seq (.block 1 (.seq (.region false [
      ⟨some 13, none, .iaddr 1 (.t 9) (.t 11)⟩,
      ⟨some 14, none, .load1 (.t 13)⟩,
      ⟨some 6, none, .mov (.t 14)⟩])
    (.seq (.region false [
      ⟨some 16, none, .mov (.t 6)⟩,
      ⟨some 17, none, .call 114 [(.t 16)]⟩,
      ⟨some 15, none, .mov (.t 17)⟩,
      ⟨some 18, none, .ext 0 (.t 15)⟩,
      ⟨some 19, none, .ext 1 (.t 15)⟩,
      ⟨some 7, none, .mov (.t 18)⟩,
      ⟨some 8, none, .mov (.t 19)⟩])
    (.seq (.seq (.region false [
      ⟨some 20, none, .mov (.t 8)⟩,
      ⟨some 21, none, .bin .neq (.t 20) (.c (.int .i64 0))⟩])
    (.cond (.t 21)
      (.seq (.region false [
        ⟨some 2, none, .mov (.c (.string ⟨#[]⟩))⟩,
        ⟨some 3, none, .mov (.c (.bool false))⟩])
      (.ret))
      (.skip)))
    (.region false [
      ⟨some 22, none, .mov (.t 4)⟩,
      ⟨some 23, none, .mov (.t 7)⟩,
      ⟨some 24, none, .bin .add (.t 22) (.t 23)⟩,
      ⟨some 4, none, .mov (.t 24)⟩])))))
    (.region false [
      ⟨some 25, none, .bin .add (.t 11) (.c (.int .i64 1))⟩,
      ⟨some 11, none, .mov (.t 25)⟩])))))))
  (.seq (.region false [
    ⟨some 26, none, .mov (.t 4)⟩,
    ⟨some 2, none, .mov (.t 26)⟩,
    ⟨some 3, none, .mov (.c (.bool true))⟩])
  (.ret))))
theorem ok_nums : FnOk Try.prog 92 Try.f92 ac_nums [.t 2, .t 3] 1 drawD := ⟨Try.func92, by decide +kernel, by kernel_rfl, by kernel_rfl, by decide +kernel⟩
structure YNm (l : List Int) where
  k : Int
  pre : List Int
  rest : List Int
  o : List UInt8
  hd : l = pre ++ rest
  hk : k = (pre.length : Int)
  ho : o = numsL pre
  hin : ∀ n ∈ pre, inR n
theorem vc_nums (P : Prim) (hP : P = std) (T T1 : CallT) (l : List Int) (hl : l.length ≤ 1000) (rows : List (List V)) (hrows : rows = iRows l) (pS : Int → List UInt8) (pE : Int → Int)
    (h1 : ∀ n, Ans T 114 [.int .i64 n] (.tup [.str (pS n), .int .i64 (pE n)])) (hp0 : ∀ n, pE n = 0 → inR n ∧ pS n = numL n.toNat) (hp1 : ∀ n, pE n ≠ 0 → ¬ inR n)
    (r : List UInt8) (e : Bool) (hr : numsF l = (r, e))
    (R : S → Prop) (hR : ∀ s0 s' x y, x = r ∧ y = e → Ent s0 s' → Ret [.t 2, .t 3] [.str x, .bool y] s' → R s0) : awp P T T1 ac_nums (S0 [.sl true 1 rows] Hp.emp) R (fun _ _ => False) R := by
  have hl1 : P.rlen rows = (l.length : Int) := by rw [rlen_eq hP, hrows]; simp [iRows]
  cbv
  refine ⟨YNm l, fun y => [(4, .str y.o), (9, .sl true 1 rows), (10, .int .i64 (P.rlen rows)), (11, .int .i64 y.k)], fun y => [], fun y => y.rest.length,
    ⟨_, Ent.refl _, ⟨0, [], l, [], rfl, rfl, rfl, by simp⟩, ⟨rfl, rfl, rfl, rfl, trivial⟩, trivial⟩, ?_⟩
  rintro ⟨k, pre, rest, o, hd, hk, ho, hin⟩
  replace hk : k = (pre.length : Int) := hk
  have hlp : pre.length + rest.length = l.length := by rw [hd]; simp
  cbv
  refine br_cases (fun h => ?_) (fun h => ?_)
  · have h6 : k < P.rlen rows := lt_t hP h
    rw [hl1] at h6
    rcases rest with _ | ⟨n, rest⟩
    · exfalso; simp at hlp; ((try simp only [nc] at *); omega)
    have hrow : P.row rows (P.nat k) [.int .i64 n] := row_of hP hk (by rw [hrows, iRows, List.getElem?_map, hd]; simp)
    have k1 : P.leP 0 k := le0 hP (by ((try simp only [nc] at *); omega))
    have k2 : P.i64 (P.add k 1) := by rw [add_eq hP]; exact i64I hP (by ((try simp only [nc] at *); omega))
    have k3 : P.add k 1 = (((pre ++ [n]).length : Nat) : Int) := by rw [add_eq hP, hk]; simp
    have c1 := h1 n
    have o1 := numsL_len pre
    cbv
    refine ⟨k1, _, hrow, ?_⟩
    cbv
    refine c1 _ _ ?_
    cbv
    refine br_cases (fun h => ?_) (fun h => ?_)
    · have g := hp1 n (ne_t hP h)
      unfold numsF at hr
      rw [if_neg (fun x => g (x n (by rw [hd]; simp)))] at hr
      cbv
      exact hR _ _ _ _ (by simpa using hr) (Ent.refl _) rfl
    have g := hp0 n (ne_f hP h)
    have o2 : P.i64 (P.add (P.slen o) (P.slen (pS n))) := by
      rw [add_eq hP, slen_eq hP, slen_eq hP, ho, g.2]
      have := numL_len n.toNat
      exact i64I hP (by ((try simp only [nc] at *); omega))
    have o3 : P.sapp o (pS n) = numsL (pre ++ [n]) := by rw [sapp_eq hP, numsL_app, ho, g.2]
    have o4 : ∀ x ∈ pre ++ [n], inR x := by
      intro x hx
      rcases List.mem_append.1 hx with hx | hx
      · exact hin x hx
      · rw [List.mem_singleton.1 hx]; exact g.1
    cbv
    refine ⟨o2, ?_⟩
    cbv
    refine ⟨k2, ?_⟩
    exact ⟨_, Ent.refl _, ⟨_, pre ++ [n], rest, _, by simp [hd], k3, o3, o4⟩, ⟨rfl, rfl, rfl, rfl, trivial⟩, trivial, by simp⟩
  · have h6 : ¬ k < P.rlen rows := lt_f hP h
    rw [hl1] at h6
    rcases rest with _ | ⟨y, rest⟩
    rotate_left
    · exfalso; simp at hlp; ((try simp only [nc] at *); omega)
    rw [List.append_nil] at hd
    subst hd
    unfold numsF at hr
    rw [if_pos hin, ← ho] at hr
    cbv
    exact hR _ _ _ _ (by simpa using hr) (Ent.refl _) rfl
theorem put_in {n : Int} (h : (putF n).2 = 0) : inR n ∧ (putF n).1 = numL n.toNat := by
  unfold putF at h ⊢
  by_cases hn : n < 0 ∨ 2147483647 < n
  · rw [if_pos hn] at h; exact absurd h (by decide)
  · rw [if_neg hn]; exact ⟨by unfold inR; omega, rfl⟩
theorem put_out {n : Int} (h : (putF n).2 ≠ 0) : ¬ inR n := by
  unfold putF at h
  by_cases hn : n < 0 ∨ 2147483647 < n
  · unfold inR; omega
  · rw [if_neg hn] at h; exact absurd rfl h
theorem sp_nums (l : List Int) (hl : l.length ≤ 1000) : Spec Try.prog 92 [.sl true 1 (iRows l)] Hp.emp (Is (.tup [.str (numsF l).1, .bool (numsF l).2])) :=
  spec_pure dOk ok_nums [.str (numsF l).1, .bool (numsF l).2] (.tup _ (by simp; exact ⟨.str _, .bool _⟩)) fun R hR => vc_nums std rfl _ _ l hl _ rfl (fun n => (putF n).1) (fun n => (putF n).2)
    (fun n => ansSame (sp_nput n) rfl rfl) (fun n => put_in) (fun n => put_out) _ _ rfl R fun s0 s' x y h he hr => by obtain ⟨rfl, rfl⟩ := h; exact hR s0 s' he hr
def ac_flat : AC := .seq (.region false [
    ⟨some 5, none, .box 79 16 (.t 2)⟩,
    ⟨some 6, none, .mov (.c (.slice none 0 0))⟩])
  (.seq (.region false [
    ⟨some 10, none, .mov (.t 0)⟩,
    ⟨some 11, none, .mov (.t 1)⟩,
    ⟨some 12, none, .bslice 3 1 [(.t 10), (.t 11)]⟩,
    ⟨some 7, none, .mov (.t 12)⟩])
  (.seq (.seq (.region false [
    ⟨some 13, none, .loadn 16 (.t 5)⟩,
    ⟨some 14, none, .mov (.c (.int .i64 0))⟩])
  (.block 0 (.loop (.seq (.region false [
      ⟨some 15, none, .bin .lss (.t 14) (.c (.int .i64 8))⟩])
    (.seq (.cond (.t 15)
      (.skip)
      (.exit 0))
    (.seq (.block 1 (.seq (.region false [
      ⟨some 16, none, .ixa true 8 2 (.t 13) (.t 14)⟩,
      ⟨some 9, none, .alloc 78 [(.int .i64 0), (.int .i64 0)]⟩,
      ⟨none, none, .store 2 (.t 9) (.t 16)⟩])
    (.region false [
      ⟨some 17, none, .mov (.t 7)⟩,
      ⟨some 18, none, .faddr 0 (.t 9)⟩,
      ⟨some 19, none, .load1 (.t 18)⟩,
      ⟨some 20, none, .faddr 1 (.t 9)⟩,
      ⟨some 21, none, .load1 (.t 20)⟩,
      ⟨some 22, none, .bslice 3 1 [(.t 19), (.t 21)]⟩,
      ⟨some 23, none, .append 3 1 8 (.t 17) (.t 22)⟩,
      ⟨some 7, none, .mov (.t 23)⟩])))
    (.region false [
      ⟨some 24, none, .bin .add (.t 14) (.c (.int .i64 1))⟩,
      ⟨some 14, none, .mov (.t 24)⟩])))))))
  (.seq (.region false [
    ⟨some 25, none, .mov (.t 7)⟩,
    ⟨some 6, none, .mov (.t 25)⟩])
  (.ret))))
theorem ok_flat : FnOk Try.prog 93 Try.f93 ac_flat [.t 6] 3 drawD := ⟨Try.func93, by decide +kernel, by kernel_rfl, by kernel_rfl, by decide +kernel⟩
structure YFt (L : List Int) where
  m : Nat
  k : Int
  b : Option Nat
  c : Nat
  rows : List (List V)
  hm : m ≤ 8
  hk : k = (m : Int)
  hrows : rows = iRows (L.take (2 + 2 * m))
  hc : c = 2 + 2 * m
theorem vc_flat (P : Prim) (hP : P = std) (T T1 : CallT) (g b : Int) (t : Nat → Int)
    (R : S → Prop) (hR : RetSl [.t 6] 1 (iRows (flatL g b t)) [] R) : awp P T T1 ac_flat (S0 [.int .i64 g, .int .i64 b, .agg [.int .i64 (t 0), .int .i64 (t 1), .int .i64 (t 2), .int .i64 (t 3), .int .i64 (t 4), .int .i64 (t 5), .int .i64 (t 6), .int .i64 (t 7), .int .i64 (t 8), .int .i64 (t 9), .int .i64 (t 10), .int .i64 (t 11), .int .i64 (t 12), .int .i64 (t 13), .int .i64 (t 14), .int .i64 (t 15)]] Hp.emp) R (fun _ _ => False) R := by
  have hN : ∀ n : Nat, P.nat (n : Int) = n := by intro n; subst hP; rfl
  cbv
  intro β
  cbv
  repeat' (first
    | (refine And.intro (by first | assumption | decide) ?_; try cbv)
    | (intro β2; try cbv))
  refine ⟨YFt (flatL g b t), fun y => [(7, .own 1000012 y.b 1 y.c), (13, .agg [.int .i64 (t 0), .int .i64 (t 1), .int .i64 (t 2), .int .i64 (t 3), .int .i64 (t 4), .int .i64 (t 5), .int .i64 (t 6), .int .i64 (t 7), .int .i64 (t 8), .int .i64 (t 9), .int .i64 (t 10), .int .i64 (t 11), .int .i64 (t 12), .int .i64 (t 13), .int .i64 (t 14), .int .i64 (t 15)]), (14, .int .i64 y.k)], fun y => [(1000012, ⟨y.b, 3, 1, y.rows⟩)], fun y => 8 - y.m,
    ⟨_, Ent.refl _, ⟨0, 0, _, _, _, by omega, rfl, rfl, rfl⟩, ⟨rfl, rfl, rfl, trivial⟩, ⟨rfl, trivial⟩⟩, ?_⟩
  rintro ⟨m, k, bb, c, rows, hm, hk, hrows, hc⟩
  cbv
  refine br_cases (fun h => ?_) (fun h => ?_)
  · have h5 : k < 8 := lt_t hP h
    replace hm : m < 8 := by ((try simp only [nc] at *); omega)
    have k0 : P.leP 0 k := le0 hP (by ((try simp only [nc] at *); omega))
    have k1 : P.ltP k 8 := ltI hP (by ((try simp only [nc] at *); omega))
    have k2 : P.i64 (P.add k 1) := by rw [add_eq hP]; exact i64I hP (by ((try simp only [nc] at *); omega))
    have k3 : P.add k 1 = ((m + 1 : Nat) : Int) := by rw [add_eq hP, hk]; ((try simp only [nc] at *); omega)
    have k4 : P.nat k = m := by rw [hk]; exact hN m
    have f4 : P.neP rows c := neP_of hP _ _ (by rw [hrows, hc]; simp [iRows, flat_len]; omega)
    have f5 : ∀ r : List (List V), r.length = 2 → P.bytes (P.add (P.int c) (P.rlen r)) 8 := by intro r hr2; subst hP; show ((c : Int) + (r.length : Int)) * 8 ≤ _; rw [hc, hr2]; ((try simp only [nc] at *); omega)
    have f6 : ∀ x y : List V, P.neP [x, y] 2 := fun x y => neP_of hP _ _ rfl
    have f7 : P.rapp rows [[.int .i64 (t (2 * m))], [.int .i64 (t (2 * m + 1))]] = iRows ((flatL g b t).take (2 + 2 * (m + 1))) := by
      rw [hrows]
      subst hP
      have hc : m = 0 ∨ m = 1 ∨ m = 2 ∨ m = 3 ∨ m = 4 ∨ m = 5 ∨ m = 6 ∨ m = 7 := by omega
      rcases hc with rfl | rfl | rfl | rfl | rfl | rfl | rfl | rfl <;> rfl
    have f8 : ∀ x y : List V, P.nadd c (P.rlenN [x, y]) = 2 + 2 * (m + 1) := by intro x y; subst hP; show c + 2 = _; omega
    clear hR h5 h
    have hc : m = 0 ∨ m = 1 ∨ m = 2 ∨ m = 3 ∨ m = 4 ∨ m = 5 ∨ m = 6 ∨ m = 7 := by omega
    rcases hc with rfl | rfl | rfl | rfl | rfl | rfl | rfl | rfl
    · cbv
      refine ⟨k0, k1, 0, k4, ?_⟩
      cbv
      repeat' (first
        | (refine And.intro (by first | assumption | decide | exact f6 _ _ | exact f5 _ rfl) ?_; try cbv)
        | (intro β; try cbv))
      exact ⟨_, Ent.refl _, ⟨0 + 1, _, _, _, _, by decide, k3, f7, f8 _ _⟩, ⟨rfl, rfl, rfl, trivial⟩, ⟨rfl, trivial⟩, by show 8 - (0 + 1) < 8 - 0; decide⟩
    · cbv
      refine ⟨k0, k1, 1, k4, ?_⟩
      cbv
      repeat' (first
        | (refine And.intro (by first | assumption | decide | exact f6 _ _ | exact f5 _ rfl) ?_; try cbv)
        | (intro β; try cbv))
      exact ⟨_, Ent.refl _, ⟨1 + 1, _, _, _, _, by decide, k3, f7, f8 _ _⟩, ⟨rfl, rfl, rfl, trivial⟩, ⟨rfl, trivial⟩, by show 8 - (1 + 1) < 8 - 1; decide⟩
    · cbv
      refine ⟨k0, k1, 2, k4, ?_⟩
      cbv
      repeat' (first
        | (refine And.intro (by first | assumption | decide | exact f6 _ _ | exact f5 _ rfl) ?_; try cbv)
        | (intro β; try cbv))
      exact ⟨_, Ent.refl _, ⟨2 + 1, _, _, _, _, by decide, k3, f7, f8 _ _⟩, ⟨rfl, rfl, rfl, trivial⟩, ⟨rfl, trivial⟩, by show 8 - (2 + 1) < 8 - 2; decide⟩
    · cbv
      refine ⟨k0, k1, 3, k4, ?_⟩
      cbv
      repeat' (first
        | (refine And.intro (by first | assumption | decide | exact f6 _ _ | exact f5 _ rfl) ?_; try cbv)
        | (intro β; try cbv))
      exact ⟨_, Ent.refl _, ⟨3 + 1, _, _, _, _, by decide, k3, f7, f8 _ _⟩, ⟨rfl, rfl, rfl, trivial⟩, ⟨rfl, trivial⟩, by show 8 - (3 + 1) < 8 - 3; decide⟩
    · cbv
      refine ⟨k0, k1, 4, k4, ?_⟩
      cbv
      repeat' (first
        | (refine And.intro (by first | assumption | decide | exact f6 _ _ | exact f5 _ rfl) ?_; try cbv)
        | (intro β; try cbv))
      exact ⟨_, Ent.refl _, ⟨4 + 1, _, _, _, _, by decide, k3, f7, f8 _ _⟩, ⟨rfl, rfl, rfl, trivial⟩, ⟨rfl, trivial⟩, by show 8 - (4 + 1) < 8 - 4; decide⟩
    · cbv
      refine ⟨k0, k1, 5, k4, ?_⟩
      cbv
      repeat' (first
        | (refine And.intro (by first | assumption | decide | exact f6 _ _ | exact f5 _ rfl) ?_; try cbv)
        | (intro β; try cbv))
      exact ⟨_, Ent.refl _, ⟨5 + 1, _, _, _, _, by decide, k3, f7, f8 _ _⟩, ⟨rfl, rfl, rfl, trivial⟩, ⟨rfl, trivial⟩, by show 8 - (5 + 1) < 8 - 5; decide⟩
    · cbv
      refine ⟨k0, k1, 6, k4, ?_⟩
      cbv
      repeat' (first
        | (refine And.intro (by first | assumption | decide | exact f6 _ _ | exact f5 _ rfl) ?_; try cbv)
        | (intro β; try cbv))
      exact ⟨_, Ent.refl _, ⟨6 + 1, _, _, _, _, by decide, k3, f7, f8 _ _⟩, ⟨rfl, rfl, rfl, trivial⟩, ⟨rfl, trivial⟩, by show 8 - (6 + 1) < 8 - 6; decide⟩
    · cbv
      refine ⟨k0, k1, 7, k4, ?_⟩
      cbv
      repeat' (first
        | (refine And.intro (by first | assumption | decide | exact f6 _ _ | exact f5 _ rfl) ?_; try cbv)
        | (intro β; try cbv))
      exact ⟨_, Ent.refl _, ⟨7 + 1, _, _, _, _, by decide, k3, f7, f8 _ _⟩, ⟨rfl, rfl, rfl, trivial⟩, ⟨rfl, trivial⟩, by show 8 - (7 + 1) < 8 - 7; decide⟩
  · have h5 : ¬ k < 8 := lt_f hP h
    have hm8 : m = 8 := by ((try simp only [nc] at *); omega)
    have e1 : rows = iRows (flatL g b t) := by rw [hrows, hm8]; rfl
    cbv
    exact hR.2.1 _ _ _ _ _ _ _ (Ent.refl _) rfl rfl ⟨by rw [hc, hm8]; rfl, e1⟩
theorem sp_flat (g b : Int) (t : Nat → Int) : Spec Try.prog 93 [.int .i64 g, .int .i64 b, tabV t] Hp.emp (Is (.sl false 1 (iRows (flatL g b t)))) :=
  spec_frz dOk ok_flat fun R hR => vc_flat std rfl _ _ g b t R (retSl_of (iRows_sz _) (iRows_fz _) (by simp) hR)
def ac_hhead : AC := .seq (.region false [
    ⟨some 7, none, .box 79 16 (.t 3)⟩,
    ⟨some 8, none, .mov (.c (.string ⟨#[]⟩))⟩,
    ⟨some 9, none, .mov (.c (.int .i64 0))⟩])
  (.seq (.region false [
    ⟨some 13, none, .mov (.t 0)⟩,
    ⟨some 14, none, .mov (.t 1)⟩,
    ⟨some 15, none, .loadn 16 (.t 7)⟩,
    ⟨some 16, none, .call 93 [(.t 13), (.t 14), (.t 15)]⟩,
    ⟨some 17, none, .call 92 [(.t 16)]⟩,
    ⟨some 12, none, .mov (.t 17)⟩,
    ⟨some 18, none, .ext 0 (.t 12)⟩,
    ⟨some 19, none, .ext 1 (.t 12)⟩,
    ⟨some 10, none, .mov (.t 18)⟩,
    ⟨some 11, none, .mov (.t 19)⟩])
  (.seq (.seq (.region false [
    ⟨some 20, none, .mov (.t 11)⟩,
    ⟨some 21, none, .not (.t 20)⟩])
  (.cond (.t 21)
    (.seq (.region false [
      ⟨some 8, none, .mov (.c (.string ⟨#[]⟩))⟩,
      ⟨some 9, none, .mov (.c (.int .i64 1))⟩])
    (.ret))
    (.skip)))
  (.seq (.seq (.region false [
    ⟨some 22, none, .mov (.t 2)⟩,
    ⟨some 23, none, .len true (.t 22)⟩,
    ⟨some 24, none, .bin .gtr (.t 23) (.c (.int .i64 500))⟩])
  (.cond (.t 24)
    (.seq (.region false [
      ⟨some 8, none, .mov (.c (.string ⟨#[]⟩))⟩,
      ⟨some 9, none, .mov (.c (.int .i64 2))⟩])
    (.ret))
    (.skip)))
  (.seq (.region false [
    ⟨some 25, none, .mov (.t 10)⟩,
    ⟨some 26, none, .mov (.t 2)⟩,
    ⟨some 27, none, .bin .add (.t 25) (.t 26)⟩,
    ⟨some 28, none, .build [(.int .i64 0), (.string ⟨#[]⟩)] [(0, 1, (.c (.int .i64 1))), (1, 1, (.t 27))]⟩,
    ⟨some 29, none, .call 94 [(.t 28)]⟩,
    ⟨some 30, none, .ext 0 (.t 29)⟩,
    ⟨some 31, none, .ext 1 (.t 29)⟩,
    ⟨some 8, none, .mov (.t 30)⟩,
    ⟨some 9, none, .mov (.t 31)⟩])
  (.ret)))))
theorem ok_hhead : FnOk Try.prog 57 Try.f57 ac_hhead [.t 8, .t 9] 4 drawD := ⟨Try.func57, by decide +kernel, by kernel_rfl, by kernel_rfl, by decide +kernel⟩
theorem vc_hhead (P : Prim) (hP : P = std) (T T1 : CallT) (g b : Int) (tx : List UInt8) (htx : tx.length ≤ maxLen) (t : Nat → Int) (fr : List (List V)) (o : List UInt8) (ok : Bool) (ho : o.length ≤ 100)
    (h1 : Ans T 93 [.int .i64 g, .int .i64 b, .agg [.int .i64 (t 0), .int .i64 (t 1), .int .i64 (t 2), .int .i64 (t 3), .int .i64 (t 4), .int .i64 (t 5), .int .i64 (t 6), .int .i64 (t 7), .int .i64 (t 8), .int .i64 (t 9), .int .i64 (t 10), .int .i64 (t 11), .int .i64 (t 12), .int .i64 (t 13), .int .i64 (t 14), .int .i64 (t 15)]] (.sl false 1 fr)) (h2 : Ans T 92 [.sl false 1 fr] (.tup [.str o, .bool ok]))
    (uF : List UInt8 → List UInt8) (eF : List UInt8 → Int) (h3 : ∀ s, Ans T 94 [.agg [.int .i64 1, .str s]] (.tup [.str (uF s), .int .i64 (eF s)]))
    (r : List UInt8) (e : Int) (hr : (if ok then (if 500 < tx.length then ([], 2) else (uF (o ++ tx), eF (o ++ tx))) else ([], 1)) = (r, e))
    (R : S → Prop) (hR : ∀ s0 s' x y, x = r ∧ y = e → Ent s0 s' → Ret [.t 8, .t 9] [.str x, .int .i64 y] s' → R s0) : awp P T T1 ac_hhead (S0 [.int .i64 g, .int .i64 b, .str tx, .agg [.int .i64 (t 0), .int .i64 (t 1), .int .i64 (t 2), .int .i64 (t 3), .int .i64 (t 4), .int .i64 (t 5), .int .i64 (t 6), .int .i64 (t 7), .int .i64 (t 8), .int .i64 (t 9), .int .i64 (t 10), .int .i64 (t 11), .int .i64 (t 12), .int .i64 (t 13), .int .i64 (t 14), .int .i64 (t 15)]] Hp.emp) R (fun _ _ => False) R := by
  have hsp : P.slen tx = (tx.length : Int) := slen_eq hP tx
  cbv
  intro β
  cbv
  repeat' (first
    | (refine And.intro (by first | assumption | decide) ?_; try cbv)
    | (intro β2; try cbv))
  refine h1 _ _ ?_
  cbv
  refine h2 _ _ ?_
  cbv
  refine br_cases (fun h => ?_) (fun h => ?_)
  · rw [if_pos h] at hr
    cbv
    refine br_cases (fun h => ?_) (fun h => ?_)
    · have h6 : 500 < P.slen tx := lt_t hP h
      rw [hsp] at h6
      rw [if_pos (by ((try simp only [nc] at *); omega))] at hr
      cbv
      exact hR _ _ _ _ (by simpa using hr) (Ent.refl _) rfl
    · have h6 : ¬ 500 < P.slen tx := lt_f hP h
      rw [hsp] at h6
      rw [if_neg (by ((try simp only [nc] at *); omega))] at hr
      have o2 : P.i64 (P.add (P.slen o) (P.slen tx)) := by rw [add_eq hP, slen_eq hP, slen_eq hP]; exact i64I hP (by ((try simp only [nc] at *); omega))
      have c3 := h3 (P.sapp o tx)
      rw [← sapp_eq hP o tx] at hr
      cbv
      refine ⟨o2, ?_⟩
      cbv
      refine c3 _ _ ?_
      cbv
      exact hR _ _ _ _ (by simpa using hr) (Ent.refl _) rfl
  · rw [if_neg (by rw [h]; decide)] at hr
    cbv
    exact hR _ _ _ _ (by simpa using hr) (Ent.refl _) rfl
theorem nums_len {g b : Int} {t : Nat → Int} : (numsF (flatL g b t)).1.length ≤ 100 := by
  unfold numsF
  split
  · have := numsL_len (flatL g b t)
    rw [flat_len] at this
    simp only []; omega
  · simp
theorem sp_hhead (g b : Int) (tx : List UInt8) (htx : tx.length ≤ maxLen) (t : Nat → Int) : Spec Try.prog 57 [.int .i64 g, .int .i64 b, .str tx, tabV t] Hp.emp (Is (.tup [.str (headF g b tx t).1, .int .i64 (headF g b tx t).2])) :=
  spec_pure dOk ok_hhead [.str (headF g b tx t).1, .int .i64 (headF g b tx t).2] (.tup _ (by simp; exact ⟨.str _, .int _ _⟩)) fun R hR => vc_hhead std rfl _ _ g b tx htx t (iRows (flatL g b t)) (numsF (flatL g b t)).1 (numsF (flatL g b t)).2 nums_len
    (ansW (sp_flat g b t) (fun h => .cons (.same _) (.cons (.same _) (.cons (.same _) .nil))) rfl) (ansIn (sp_nums _ (by rw [flat_len]; omega)) rfl rfl) (fun s => (putFr 1 s).1) (fun s => (putFr 1 s).2) (fun s => ansW (sp_fput ⟨1, s⟩) (fun h => .cons (.same _) .nil) rfl) (headF g b tx t).1 (headF g b tx t).2
    (by
      unfold headF numsF
      by_cases h : ∀ n ∈ flatL g b t, inR n
      · rw [if_pos h, if_pos h]; rfl
      · rw [if_neg h, if_neg h]; rfl) R fun s0 s' x y h he hr => by obtain ⟨rfl, rfl⟩ := h; exact hR s0 s' he hr
def ac_hrev : AC := .seq (.region false [
    ⟨some 1, none, .box 45 3 (.t 0)⟩,
    ⟨some 2, none, .mov (.c (.string ⟨#[]⟩))⟩,
    ⟨some 3, none, .mov (.c (.int .i64 0))⟩])
  (.seq (.seq (.region false [
    ⟨some 9, none, .loadn 3 (.t 1)⟩,
    ⟨some 10, none, .call 90 [(.t 9)]⟩,
    ⟨some 4, none, .mov (.t 10)⟩])
  (.seq (.region false [
    ⟨some 11, none, .mov (.t 4)⟩,
    ⟨some 12, none, .bin .neq (.t 11) (.c (.int .i64 0))⟩])
  (.cond (.t 12)
    (.seq (.region false [
      ⟨some 13, none, .mov (.t 4)⟩,
      ⟨some 2, none, .mov (.c (.string ⟨#[]⟩))⟩,
      ⟨some 3, none, .mov (.t 13)⟩])
    (.ret))
    (.skip))))
  (.seq (.region false [
    ⟨some 15, none, .faddr 0 (.t 1)⟩,
    ⟨some 16, none, .load1 (.t 15)⟩,
    ⟨some 17, none, .faddr 1 (.t 1)⟩,
    ⟨some 18, none, .load1 (.t 17)⟩,
    ⟨some 19, none, .bslice 3 1 [(.t 16), (.t 18)]⟩,
    ⟨some 20, none, .call 92 [(.t 19)]⟩,
    ⟨some 14, none, .mov (.t 20)⟩,
    ⟨some 21, none, .ext 0 (.t 14)⟩,
    ⟨some 22, none, .ext 1 (.t 14)⟩,
    ⟨some 5, none, .mov (.t 21)⟩,
    ⟨some 6, none, .mov (.t 22)⟩])
  (.seq (.region false [
    ⟨some 24, none, .faddr 2 (.t 1)⟩,
    ⟨some 25, none, .load1 (.t 24)⟩,
    ⟨some 26, none, .call 96 [(.t 25)]⟩,
    ⟨some 23, none, .mov (.t 26)⟩,
    ⟨some 27, none, .ext 0 (.t 23)⟩,
    ⟨some 28, none, .ext 1 (.t 23)⟩,
    ⟨some 7, none, .mov (.t 27)⟩,
    ⟨some 8, none, .mov (.t 28)⟩])
  (.seq (.region false [
    ⟨some 29, none, .mov (.t 5)⟩,
    ⟨some 30, none, .mov (.t 7)⟩,
    ⟨some 31, none, .bin .add (.t 29) (.t 30)⟩,
    ⟨some 32, none, .build [(.int .i64 0), (.string ⟨#[]⟩)] [(0, 1, (.c (.int .i64 2))), (1, 1, (.t 31))]⟩,
    ⟨some 33, none, .call 94 [(.t 32)]⟩,
    ⟨some 34, none, .ext 0 (.t 33)⟩,
    ⟨some 35, none, .ext 1 (.t 33)⟩,
    ⟨some 2, none, .mov (.t 34)⟩,
    ⟨some 3, none, .mov (.t 35)⟩])
  (.ret)))))
theorem ok_hrev : FnOk Try.prog 61 Try.f61 ac_hrev [.t 2, .t 3] 1 drawD := ⟨Try.func61, by decide +kernel, by kernel_rfl, by kernel_rfl, by decide +kernel⟩
theorem vc_hrev (P : Prim) (hP : P = std) (T T1 : CallT) (tf : Bool) (w q : Int) (dr : List (List V)) (c : Int) (h1 : Ans T 90 [.agg [.int .i64 w, .int .i64 q, .sl tf 3 dr]] (.int .i64 c)) (o cs : List UInt8) (ho : o.length ≤ 100) (hcs : cs.length ≤ 10000000)
    (h2 : c = 0 → ∀ (h : Hp) (K : V → Hp → Prop) (k : Nat) (b : Option Nat) (rs : List (List V)), rs = iRows [w, q] → h k = some ⟨b, 3, 1, rs⟩ → K (.tup [.str o, .bool true]) h → T 92 [.own k b 1 2] h K)
    (h3 : c = 0 → Ans T 96 [.sl tf 3 dr] (.tup [.str cs, .int .i64 0]))
    (uF : List UInt8 → List UInt8) (eF : List UInt8 → Int) (h4 : ∀ s, Ans T 94 [.agg [.int .i64 2, .str s]] (.tup [.str (uF s), .int .i64 (eF s)]))
    (r : List UInt8) (e : Int) (hr : (if c ≠ 0 then ([], c) else (uF (o ++ cs), eF (o ++ cs))) = (r, e))
    (R : S → Prop) (hR : ∀ s0 s' x y, x = r ∧ y = e → Ent s0 s' → Ret [.t 2, .t 3] [.str x, .int .i64 y] s' → R s0) : awp P T T1 ac_hrev (S0 [.agg [.int .i64 w, .int .i64 q, .sl tf 3 dr]] Hp.emp) R (fun _ _ => False) R := by
  cbv
  intro β
  cbv
  repeat' (first
    | (refine And.intro (by first | assumption | decide) ?_; try cbv)
    | (intro β2; try cbv))
  refine h1 _ _ ?_
  cbv
  refine br_cases (fun h => ?_) (fun h => ?_)
  · rw [if_pos (ne_t hP h)] at hr
    cbv
    exact hR _ _ _ _ (by simpa using hr) (Ent.refl _) rfl
  have h0 : c = 0 := ne_f hP h
  rw [if_neg (fun x => x h0)] at hr
  have f3 := h3 h0
  have o2 : P.i64 (P.add (P.slen o) (P.slen cs)) := by rw [add_eq hP, slen_eq hP, slen_eq hP]; exact i64I hP (by ((try simp only [nc] at *); omega))
  have c4 := h4 (P.sapp o cs)
  rw [← sapp_eq hP o cs] at hr
  cbv
  intro β
  cbv
  refine h2 h0 _ _ _ _ _ ?_ rfl ?_
  · rfl
  cbv
  repeat' (first
    | (refine And.intro (by first | assumption | decide) ?_; try cbv)
    | (intro β2; try cbv))
  refine f3 _ _ ?_
  cbv
  refine ⟨o2, ?_⟩
  cbv
  refine c4 _ _ ?_
  cbv
  exact hR _ _ _ _ (by simpa using hr) (Ent.refl _) rfl
theorem code_len (d : List Part) (h : checkF d = 0) : (codeF d).length ≤ 1000000 := by
  have hc := checkF_all h
  have := numL_len d.length
  have key : ∀ l : List Part, (∀ p ∈ l, okP p) → ((l.map pcode).flatten).length ≤ 505 * l.length := by
    intro l
    induction l with
    | nil => simp
    | cons p l ih =>
      intro hl
      have := ih fun q hq => hl q (by simp [hq])
      have hp := okP_bd (hl p (by simp))
      have hn := numL_len (4 * (p.n + p.text.length) + p.kind).toNat
      simp only [List.map_cons, List.flatten_cons, List.length_append, List.length_cons, pcode]
      ((try simp only [nc] at *); omega)
  have := key d hc.2.1
  have := hc.1
  unfold codeF
  rw [List.length_append]
  omega
theorem numsF_two {w q : Int} (h1 : inR w) (h2 : inR q) : numsF [w, q] = (numL w.toNat ++ numL q.toNat, true) := by
  unfold numsF
  rw [if_pos (by intro n hn; simp at hn; rcases hn with rfl | rfl <;> assumption)]
  simp [numsL]
theorem sp_hrevT (r : Rev) (hr : PartsOk r.delta) : Spec Try.prog 61 [.agg (encRevT r)] Hp.emp (Is (.tup [.str (revF r).1, .int .i64 (revF r).2])) :=
  spec_pure dOk ok_hrev [.str (revF r).1, .int .i64 (revF r).2] (.tup _ (by simp; exact ⟨.str _, .int _ _⟩)) fun R hR => vc_hrev std rfl _ _ true r.who r.seq (r.delta.map encPart) (oneF r) (ansW (sp_oneT r hr) (fun h => .cons (.same _) .nil) rfl) (numL r.who.toNat ++ numL r.seq.toNat) (if oneF r = 0 then codeF r.delta else [])
    (by have h1 := numL_len r.who.toNat
        have h2 := numL_len r.seq.toNat
        rw [List.length_append]; omega)
    (by split
        · rename_i h; have := code_len r.delta (one_who h).2.2.2.2; omega
        · simp)
    (fun h0 h K k b rs hrs hk hK => by
      obtain ⟨g1, g2, g3, g4, g5⟩ := one_who h0
      have hs := sp_nums [r.who, r.seq] (by simp)
      rw [numsF_two ⟨g1, by omega⟩ ⟨g3, g4⟩] at hs
      exact ownCall hs rfl h K k b 2 rs hrs (by rw [hrs]; rfl) hk hK)
    (fun h0 => by
      have g5 := (one_who h0).2.2.2.2
      have hs := sp_cwriteT r.delta hr.1
      rw [if_pos g5, g5] at hs
      rw [if_pos h0]
      exact ansSame hs rfl rfl)
    (fun s => (putFr 2 s).1) (fun s => (putFr 2 s).2) (fun s => ansW (sp_fput ⟨2, s⟩) (fun h => .cons (.same _) .nil) rfl) (revF r).1 (revF r).2
    (by
      unfold revF
      by_cases h : oneF r ≠ 0
      · rw [if_pos h, if_pos h]
      · rw [if_neg h, if_neg h, if_pos (Decidable.of_not_not h)]) R fun s0 s' x y h he hr => by obtain ⟨rfl, rfl⟩ := h; exact hR s0 s' he hr
def ac_hdone : AC := .seq (.region false [
    ⟨some 0, none, .mov (.c (.string ⟨#[]⟩))⟩])
  (.seq (.region false [
    ⟨some 4, none, .build [(.int .i64 0), (.string ⟨#[]⟩)] [(0, 1, (.c (.int .i64 3)))]⟩,
    ⟨some 5, none, .call 94 [(.t 4)]⟩,
    ⟨some 3, none, .mov (.t 5)⟩,
    ⟨some 6, none, .ext 0 (.t 3)⟩,
    ⟨some 7, none, .ext 1 (.t 3)⟩,
    ⟨some 1, none, .mov (.t 6)⟩,
    ⟨some 2, none, .mov (.t 7)⟩])
  (.seq (.region false [
    ⟨some 8, none, .mov (.t 1)⟩,
    ⟨some 0, none, .mov (.t 8)⟩])
  (.ret)))
theorem ok_hdone : FnOk Try.prog 59 Try.f59 ac_hdone [.t 0] 0 drawD := ⟨Try.func59, by decide +kernel, by kernel_rfl, by kernel_rfl, by decide +kernel⟩
theorem vc_hdone (P : Prim) (hP : P = std) (T T1 : CallT) (u : List UInt8) (e : Int) (h1 : Ans T 94 [.agg [.int .i64 3, .str []]] (.tup [.str u, .int .i64 e]))
    (R : S → Prop) (hR : ∀ s0 s' x, x = u → Ent s0 s' → Ret [.t 0] [.str x] s' → R s0) : awp P T T1 ac_hdone (S0 [] Hp.emp) R (fun _ _ => False) R := by
  cbv
  refine h1 _ _ ?_
  cbv
  exact hR _ _ _ rfl (Ent.refl _) rfl
theorem sp_hdone : Spec Try.prog 59 [] Hp.emp (Is (.str (putFr 3 []).1)) :=
  spec_pure dOk ok_hdone [.str (putFr 3 []).1] (.str _) fun R hR => vc_hdone std rfl _ _ _ (putFr 3 []).2 (ansW (sp_fput ⟨3, []⟩) (fun h => .cons (.same _) .nil) rfl) R fun s0 s' x h he hr => by subst h; exact hR s0 s' he hr
end Go.Proofs.Ytobngncjflogcaa.AM

set_option linter.unusedVariables false
set_option linter.unusedSimpArgs false
namespace Go.Proofs.Ytobngncjflogcaa.AM
open Go Go.RowKit
set_option maxRecDepth 100000
set_option maxHeartbeats 2000000
theorem callE_pre (f : Nat) (vs : List V) (h h' : Hp) (K : V → Hp → Prop) (he : HEnt h h') (hc : CallE Try.prog f vs h' K) : CallE Try.prog f vs h K := by
  obtain ⟨h0, h1, h2⟩ := hc
  exact ⟨h0, HEnt.trans he h1, h2⟩
theorem vc_hadd47 (P : Prim) (hP : P = std) (T T1 : CallT) (bl : Nat) (ba : Option Nat) (d : SC) (mv : V) (hv2 : V.one mv = true) (n : Nat) (rows : List (List V)) (hn : n = rows.length) (hn2 : n ≤ 100) (w : Nat) (hw : w < 8) (wi q : Int) (hwi : wi = (w : Int)) (dr : List (List V)) (hb : 0 ≤ d.b ∧ d.b ≤ 4294967295)
    (rows' : List (List V)) (hrows' : rows' = rows ++ [[.int .i64 wi, .int .i64 q, .sl false 3 dr]]) (n' : Nat) (hn' : n' = n + 1) (v : Int) (hv : v = d.b + (n : Int) + 1)
    (R : S → Prop) (hR : ∀ (s0 s' : S) (ba' : Option Nat) (tb' : Nat → Int) (r2 : List (List V)) (n2 : Nat), (∀ j, tb' j = addTb d.tb w q v j) → r2 = rows' → n2 = n' → Ent s0 s' → resV s' [] (fun x => oneV x = .tup []) →
      agreeH (S2 bl { d with tb := tb' } ba' n2 r2 mv) s' → R s0) :
    awp P T T1 ac_hadd (S0 [.ptr 0 (some bl) 47 0 5, .agg [.int .i64 wi, .int .i64 q, .sl false 3 dr]] (lookH (S2 bl d ba n rows mv))) R (fun _ _ => False) R := by
  have f4 : P.neP rows n := neP_of hP _ _ hn.symm
  have f5 : ∀ r, P.bytes (P.add (P.int n) (P.rlen [r])) 40 := by intro r; subst hP; show ((n : Int) + 1) * 40 ≤ _; ((try simp only [nc] at *); omega)
  have f6 : ∀ r, P.neP [r] 1 := by intro r; subst hP; rfl
  have f7 : P.rapp rows [[.int .i64 wi, .int .i64 q, .sl false 3 dr]] = rows' := by rw [hrows']; subst hP; rfl
  have f8 : ∀ r : List V, P.nadd n (P.rlenN [r]) = n' := by intro r; rw [hn']; subst hP; rfl
  have f9 : ∀ r : List V, P.int (P.nadd n (P.rlenN [r])) = (n : Int) + 1 := by intro r; rw [f8, hn', int_eq hP]; ((try simp only [nc] at *); omega)
  have g1 : ∀ r : List V, P.add d.b (P.int (P.nadd n (P.rlenN [r]))) = v := by intro r; rw [add_eq hP, f9, hv]; omega
  have g2 : ∀ r : List V, P.i64 (P.add d.b (P.int (P.nadd n (P.rlenN [r])))) := by intro r; rw [g1, hv]; exact i64I hP (by ((try simp only [nc] at *); omega))
  have q1 : P.leP 0 wi := le0 hP (by omega)
  have q2 : P.ltP wi 8 := ltI hP (by omega)
  have hNk : P.nat wi = w := by rw [hwi]; subst hP; rfl
  cbv
  repeat' (first
    | (refine And.intro (by first | assumption | decide | exact f6 _ | exact f5 _ | exact g2 _) ?_; try cbv)
    | (intro β2; try cbv))
  have hc : w = 0 ∨ w = 1 ∨ w = 2 ∨ w = 3 ∨ w = 4 ∨ w = 5 ∨ w = 6 ∨ w = 7 := by omega
  have g3 := g1 [.int .i64 wi, .int .i64 q, .sl false 3 dr]
  have g4 := f8 [.int .i64 wi, .int .i64 q, .sl false 3 dr]
  rcases hc with rfl | rfl | rfl | rfl | rfl | rfl | rfl | rfl
  · refine ⟨0, hNk, ?_⟩
    cbv
    exact hR _ _ _ (fun j => if j = 0 then q else if j = 1 then P.add d.b (P.int (P.nadd n (P.rlenN [[.int .i64 wi, .int .i64 q, .sl false 3 dr]]))) else d.tb j) _ _ (fun j => by rw [g3]; rfl) f7 g4 (Ent.refl _) rfl ⟨rfl, rfl, trivial⟩
  · refine ⟨1, hNk, ?_⟩
    cbv
    exact hR _ _ _ (fun j => if j = 2 then q else if j = 3 then P.add d.b (P.int (P.nadd n (P.rlenN [[.int .i64 wi, .int .i64 q, .sl false 3 dr]]))) else d.tb j) _ _ (fun j => by rw [g3]; rfl) f7 g4 (Ent.refl _) rfl ⟨rfl, rfl, trivial⟩
  · refine ⟨2, hNk, ?_⟩
    cbv
    exact hR _ _ _ (fun j => if j = 4 then q else if j = 5 then P.add d.b (P.int (P.nadd n (P.rlenN [[.int .i64 wi, .int .i64 q, .sl false 3 dr]]))) else d.tb j) _ _ (fun j => by rw [g3]; rfl) f7 g4 (Ent.refl _) rfl ⟨rfl, rfl, trivial⟩
  · refine ⟨3, hNk, ?_⟩
    cbv
    exact hR _ _ _ (fun j => if j = 6 then q else if j = 7 then P.add d.b (P.int (P.nadd n (P.rlenN [[.int .i64 wi, .int .i64 q, .sl false 3 dr]]))) else d.tb j) _ _ (fun j => by rw [g3]; rfl) f7 g4 (Ent.refl _) rfl ⟨rfl, rfl, trivial⟩
  · refine ⟨4, hNk, ?_⟩
    cbv
    exact hR _ _ _ (fun j => if j = 8 then q else if j = 9 then P.add d.b (P.int (P.nadd n (P.rlenN [[.int .i64 wi, .int .i64 q, .sl false 3 dr]]))) else d.tb j) _ _ (fun j => by rw [g3]; rfl) f7 g4 (Ent.refl _) rfl ⟨rfl, rfl, trivial⟩
  · refine ⟨5, hNk, ?_⟩
    cbv
    exact hR _ _ _ (fun j => if j = 10 then q else if j = 11 then P.add d.b (P.int (P.nadd n (P.rlenN [[.int .i64 wi, .int .i64 q, .sl false 3 dr]]))) else d.tb j) _ _ (fun j => by rw [g3]; rfl) f7 g4 (Ent.refl _) rfl ⟨rfl, rfl, trivial⟩
  · refine ⟨6, hNk, ?_⟩
    cbv
    exact hR _ _ _ (fun j => if j = 12 then q else if j = 13 then P.add d.b (P.int (P.nadd n (P.rlenN [[.int .i64 wi, .int .i64 q, .sl false 3 dr]]))) else d.tb j) _ _ (fun j => by rw [g3]; rfl) f7 g4 (Ent.refl _) rfl ⟨rfl, rfl, trivial⟩
  · refine ⟨7, hNk, ?_⟩
    cbv
    exact hR _ _ _ (fun j => if j = 14 then q else if j = 15 then P.add d.b (P.int (P.nadd n (P.rlenN [[.int .i64 wi, .int .i64 q, .sl false 3 dr]]))) else d.tb j) _ _ (fun j => by rw [g3]; rfl) f7 g4 (Ent.refl _) rfl ⟨rfl, rfl, trivial⟩
def addD (d : SC) (l : List Rev) (r : Rev) : SC := { d with tb := addTb d.tb r.who.toNat r.seq (d.b + (l.length : Int) + 1) }
theorem sp_hadd47 (bl : Nat) (ba : Option Nat) (d : SC) (l : List Rev) (hl : l.length ≤ 100) (r : Rev) (hw : 0 ≤ r.who ∧ r.who ≤ 7) (hb : 0 ≤ d.b ∧ d.b ≤ 4294967295) (mv : V) (hq : MQ mv) :
    Spec Try.prog 62 [.ptr 0 (some bl) 47 0 5, .agg (encRev r)] (lookH (S2 bl d ba l.length (l.map encRev) mv)) fun x h' => ∃ L', (x = .tup [] ∧ ∃ ba', L' = S2 bl (addD d l r) ba' (l.length + 1) ((l ++ [r]).map encRev) mv) ∧ h' = lookH L' :=
  spec_meth dOk ok_hadd (L := S2 bl d ba l.length (l.map encRev) mv) (fun x L' => x = .tup [] ∧ ∃ ba', L' = S2 bl (addD d l r) ba' (l.length + 1) ((l ++ [r]).map encRev) mv) fun R hR =>
    vc_hadd47 std rfl _ _ bl ba d mv hq.1.2 l.length (l.map encRev) (by simp) hl r.who.toNat (by omega) r.who r.seq (by omega) (r.delta.map encPart) hb ((l ++ [r]).map encRev) (by simp [encRev, encParts]) (l.length + 1) rfl (d.b + (l.length : Int) + 1) rfl R
      fun s0 s' ba' tb' r2 n2 htb hr2 hn2 he hr ha => by
        have e : tb' = addTb d.tb r.who.toNat r.seq (d.b + (l.length : Int) + 1) := funext htb
        rw [e, hr2, hn2] at ha
        exact hR s0 s' (.tup []) (S2 bl (addD d l r) ba' (l.length + 1) ((l ++ [r]).map encRev) mv) he hr ha (.tup _ (fun v hv => by cases hv)) (S2_fz hq.1.1) ⟨rfl, ba', rfl⟩
def HAddC (T : CallT) : Prop := ∀ (k ka bl : Nat) (d : SC) (ba : Option Nat) (n : Nat) (rows : List (List V)) (l : List Rev) (mv : V) (w q : Int) (dr : List (List V)) (r : Rev) (h : Hp) (K : V → Hp → Prop), rows = l.map encRev → n = l.length → l.length ≤ 100 → (w = r.who ∧ q = r.seq ∧ dr = r.delta.map encPart) → (0 ≤ r.who ∧ r.who ≤ 7) → (0 ≤ d.b ∧ d.b ≤ 4294967295) → MQ mv → Nat.beq k ka = false → rt2B k ka mv = true →
  h k = some (obSh bl (rowS d (.own ka ba 3 n) mv)) → h ka = some (obV ba rows) → (∀ ba' d' n' rows', d' = addD d l r → n' = l.length + 1 → rows' = (l ++ [r]).map encRev → K (.tup []) (Hp.put (Hp.put h k (obSh bl (rowS d' (.own ka ba' 3 n') mv))) ka (obV ba' rows'))) → T 62 [.ptr k (some bl) 47 0 5, .agg [.int .i64 w, .int .i64 q, .sl false 3 dr]] h K
theorem haddC : HAddC (CallE Try.prog) := by
  rintro k ka bl d ba n rows l mv w q dr r h K rfl rfl hl ⟨rfl, rfl, rfl⟩ hw hb hq hne hr hk hka hK
  exact callS2 (off := 5) (Q := MQ) (rest := [.agg (encRev r)]) (fun g => hq.rl g) (fun mv hq => sp_hadd47 bl ba d l hl r hw hb mv hq) (fun h => .cons (.same _) .nil) (fun _ => rfl) hq.1.1 hne hr hk hka fun ba' => hK ba' _ _ _ rfl rfl rfl
def Z0 : SC := ⟨[], 0, [], 0, 0, 0, 0, [], fun _ => 0, fun _ => 0, false, 0, [], 0, false⟩
def newOf (t : List UInt8) : SC := { synS (putS Z0 0 t) 0 with gn := 1, b := 0, tx := [], fs := fun _ => 0, tb := fun _ => 0, wh := true, gd := 0 }
def ac_snew : AC := .seq (.region false [
    ⟨some 0, none, .mov (.c (.pointer none))⟩])
  (.seq (.region false [
    ⟨some 4, none, .build [(.string ⟨#[]⟩), (.int .i64 0), (.string ⟨#[]⟩), (.int .i64 0), (.int .i64 0), (.int .i64 0), (.int .i64 0), (.string ⟨#[]⟩), (.int .i64 0), (.int .i64 0), (.int .i64 0), (.int .i64 0), (.int .i64 0), (.int .i64 0), (.int .i64 0), (.int .i64 0), (.int .i64 0), (.int .i64 0), (.int .i64 0), (.int .i64 0), (.int .i64 0), (.int .i64 0), (.int .i64 0), (.int .i64 0), (.int .i64 0), (.int .i64 0), (.int .i64 0), (.int .i64 0), (.int .i64 0), (.int .i64 0), (.int .i64 0), (.int .i64 0), (.int .i64 0), (.int .i64 0), (.int .i64 0), (.int .i64 0), (.int .i64 0), (.int .i64 0), (.int .i64 0), (.int .i64 0), (.slice none 0 0), (.bool false), (.int .i64 0), (.string ⟨#[]⟩), (.int .i64 0), (.pointer none), (.bool false)] []⟩,
    ⟨some 5, none, .box 87 47 (.t 4)⟩,
    ⟨some 1, none, .mov (.t 5)⟩])
  (.seq (.region false [
    ⟨some 7, none, .mov (.t 1)⟩,
    ⟨some 8, none, .nilchk (.t 7)⟩,
    ⟨some 9, none, .faddr 5 (.t 8)⟩,
    ⟨some 10, none, .faddr 19 (.t 9)⟩,
    ⟨some 11, none, .loadn 16 (.t 10)⟩,
    ⟨some 12, none, .call 57 [(.c (.int .i64 1)), (.c (.int .i64 0)), (.c (.string ⟨#[]⟩)), (.t 11)]⟩,
    ⟨some 6, none, .mov (.t 12)⟩,
    ⟨some 13, none, .ext 0 (.t 6)⟩,
    ⟨some 14, none, .ext 1 (.t 6)⟩,
    ⟨some 2, none, .mov (.t 13)⟩,
    ⟨some 3, none, .mov (.t 14)⟩])
  (.seq (.region false [
    ⟨some 15, none, .mov (.t 1)⟩,
    ⟨some 16, none, .mov (.t 2)⟩,
    ⟨some 17, none, .call 59 []⟩,
    ⟨some 18, none, .bin .add (.t 16) (.t 17)⟩,
    ⟨some 19, none, .call 58 [(.t 15), (.c (.int .i64 0)), (.t 18)]⟩])
  (.seq (.region false [
    ⟨some 20, none, .mov (.t 1)⟩,
    ⟨some 21, none, .call 36 [(.t 20), (.c (.int .i64 0))]⟩])
  (.seq (.region false [
    ⟨some 22, none, .mov (.t 1)⟩,
    ⟨some 23, none, .build [(.int .i64 0), (.int .i64 0), (.string ⟨#[]⟩), (.int .i64 0), (.int .i64 0), (.int .i64 0), (.int .i64 0), (.int .i64 0), (.int .i64 0), (.int .i64 0), (.int .i64 0), (.int .i64 0), (.int .i64 0), (.int .i64 0), (.int .i64 0), (.int .i64 0), (.int .i64 0), (.int .i64 0), (.int .i64 0), (.int .i64 0), (.int .i64 0), (.int .i64 0), (.int .i64 0), (.int .i64 0), (.int .i64 0), (.int .i64 0), (.int .i64 0), (.int .i64 0), (.int .i64 0), (.int .i64 0), (.int .i64 0), (.int .i64 0), (.int .i64 0), (.int .i64 0), (.int .i64 0), (.slice none 0 0), (.bool false), (.int .i64 0)] [(0, 1, (.c (.int .i64 1))), (36, 1, (.c (.bool true)))]⟩,
    ⟨some 24, none, .nilchk (.t 22)⟩,
    ⟨some 25, none, .faddr 5 (.t 24)⟩,
    ⟨none, none, .store 38 (.t 25) (.t 23)⟩])
  (.seq (.region false [
    ⟨some 26, none, .mov (.t 1)⟩,
    ⟨some 0, none, .mov (.t 26)⟩])
  (.ret)))))))
theorem ok_snew : FnOk Try.prog 17 Try.f17 ac_snew [.t 0] 0 drawD := ⟨Try.func17, by decide +kernel, by kernel_rfl, by kernel_rfl, by decide +kernel⟩
theorem vc_snew (P : Prim) (hP : P = std) (T T1 : CallT) (hput : SPutC T) (hsyn : SSynC T) (t1 t2 : List UInt8) (e1 : Int) (h1 : Ans T 57 [.int .i64 1, .int .i64 0, .str [], tabV fun _ => 0] (.tup [.str t1, .int .i64 e1])) (h2 : Ans T 59 [] (.str t2)) (hl : t1.length + t2.length ≤ 100000)
    (R : S → Prop) (hR : ∀ (s s' : S) (β : Nat) (d : SC), d = newOf (t1 ++ t2) → Ent s s' → Ret [.t 0] [.ptr 5 (some β) 47 0 0] s' → agreeH [(5, obSh β (rowS d (.own 6 none 3 0) .nil)), (6, obV none [])] s' → R s) : awp P T T1 ac_snew (S0 [] Hp.emp) R (fun _ _ => False) R := by
  have g1 : P.i64 (P.add (P.slen t1) (P.slen t2)) := by rw [add_eq hP, slen_eq hP, slen_eq hP]; exact i64I hP (by omega)
  have g2 : P.sapp t1 t2 = t1 ++ t2 := by subst hP; rfl
  cbv
  repeat' (first
    | (refine And.intro (by first | assumption | decide) ?_; try cbv)
    | (intro β2; try cbv))
  refine h1 _ _ ?_
  cbv
  repeat' (first
    | (refine And.intro (by first | assumption | decide) ?_; try cbv)
    | (intro β2; try cbv))
  refine h2 _ _ ?_
  cbv
  repeat' (first
    | (refine And.intro (by first | assumption | decide) ?_; try cbv)
    | (intro β2; try cbv))
  refine hput 5 _ Z0 .nilsl .nil _ _ _ _ (by rw [g2, List.length_append]; omega) ⟨⟨.nilsl, rfl⟩, .nil, rfl⟩ rfl rfl rfl fun d1 hd1 => ?_
  cbv
  repeat' (first
    | (refine And.intro (by first | assumption | decide) ?_; try cbv)
    | (intro β2; try cbv))
  refine hsyn 5 _ d1 .nilsl .nil _ _ _ ⟨⟨.nilsl, rfl⟩, .nil, rfl⟩ rfl rfl rfl fun d2 hd2 => ?_
  cbv
  repeat' (first
    | (refine And.intro (by first | assumption | decide) ?_; try cbv)
    | (intro β2; try cbv))
  exact hR _ _ _ { d2 with gn := 1, b := 0, tx := [], fs := fun _ => 0, tb := fun _ => 0, wh := true, gd := 0 } (by rw [hd2, hd1, g2]; rfl) (Ent.nilcell (k := 5) (k' := 6) (ty := 45) (sz := 3) (r := 0) (c := 40) rfl rfl rfl rfl) rfl ⟨rfl, rfl, trivial⟩
def newD : SC := newOf ((headF 1 0 [] fun _ => 0).1 ++ (putFr 3 []).1)
end Go.Proofs.Ytobngncjflogcaa.AM

set_option linter.unusedVariables false
set_option linter.unusedSimpArgs false
namespace Go.Proofs.Ytobngncjflogcaa.AM
open Go Go.RowKit
set_option maxRecDepth 100000
set_option maxHeartbeats 2000000
def ac_sadd : AC := .seq (.region false [
    ⟨some 3, none, .box 45 3 (.t 1)⟩,
    ⟨some 4, none, .mov (.c (.int .i64 0))⟩,
    ⟨some 5, none, .mov (.c (.int .i64 0))⟩])
  (.seq (.seq (.region true [
    ⟨some 9, none, .mov (.t 0)⟩,
    ⟨some 10, none, .nilchk (.t 9)⟩,
    ⟨some 11, none, .faddr 5 (.t 10)⟩,
    ⟨some 12, none, .loadn 38 (.t 11)⟩,
    ⟨some 13, none, .mov (.t 0)⟩,
    ⟨some 14, none, .nilchk (.t 13)⟩,
    ⟨some 15, none, .faddr 43 (.t 14)⟩,
    ⟨some 16, none, .load1 (.t 15)⟩,
    ⟨some 17, none, .len true (.t 16)⟩,
    ⟨some 18, none, .loadn 3 (.t 3)⟩,
    ⟨some 19, none, .call 60 [(.t 12), (.t 17), (.t 18)]⟩,
    ⟨some 6, none, .mov (.t 19)⟩])
  (.seq (.region false [
    ⟨some 20, none, .mov (.t 6)⟩,
    ⟨some 21, none, .bin .neq (.t 20) (.c (.int .i64 0))⟩])
  (.cond (.t 21)
    (.seq (.region false [
      ⟨some 22, none, .mov (.t 6)⟩,
      ⟨some 4, none, .mov (.c (.int .i64 0))⟩,
      ⟨some 5, none, .mov (.t 22)⟩])
    (.ret))
    (.skip))))
  (.seq (.region false [
    ⟨some 23, none, .faddr 2 (.t 3)⟩,
    ⟨some 24, none, .load1 (.t 23)⟩,
    ⟨some 25, none, .append 108 3 32 (.c (.slice none 0 0)) (.t 24)⟩,
    ⟨some 26, none, .faddr 2 (.t 3)⟩,
    ⟨none, none, .store 1 (.t 26) (.t 25)⟩])
  (.seq (.region false [
    ⟨some 28, none, .loadn 3 (.t 3)⟩,
    ⟨some 29, none, .call 61 [(.t 28)]⟩,
    ⟨some 27, none, .mov (.t 29)⟩,
    ⟨some 30, none, .ext 0 (.t 27)⟩,
    ⟨some 31, none, .ext 1 (.t 27)⟩,
    ⟨some 7, none, .mov (.t 30)⟩,
    ⟨some 8, none, .mov (.t 31)⟩])
  (.seq (.seq (.region false [
    ⟨some 32, none, .mov (.t 8)⟩,
    ⟨some 33, none, .bin .neq (.t 32) (.c (.int .i64 0))⟩])
  (.cond (.t 33)
    (.seq (.region false [
      ⟨some 34, none, .mov (.t 8)⟩,
      ⟨some 4, none, .mov (.c (.int .i64 0))⟩,
      ⟨some 5, none, .mov (.t 34)⟩])
    (.ret))
    (.skip)))
  (.seq (.region false [
    ⟨some 35, none, .mov (.t 0)⟩,
    ⟨some 36, none, .mov (.t 0)⟩,
    ⟨some 37, none, .nilchk (.t 36)⟩,
    ⟨some 38, none, .faddr 4 (.t 37)⟩,
    ⟨some 39, none, .load1 (.t 38)⟩,
    ⟨some 40, none, .mov (.t 7)⟩,
    ⟨some 41, none, .call 58 [(.t 35), (.t 39), (.t 40)]⟩])
  (.seq (.seq (.region false [
    ⟨some 42, none, .mov (.t 0)⟩,
    ⟨some 43, none, .nilchk (.t 42)⟩,
    ⟨some 44, none, .faddr 45 (.t 43)⟩,
    ⟨some 45, none, .load1 (.t 44)⟩,
    ⟨some 46, none, .eqp true (.t 45) (.c (.pointer none))⟩,
    ⟨some 47, none, .mov (.t 46)⟩,
    ⟨some 48, some (47, true), .mov (.t 0)⟩,
    ⟨some 49, some (47, true), .nilchk (.t 48)⟩,
    ⟨some 50, some (47, true), .faddr 45 (.t 49)⟩,
    ⟨some 51, some (47, true), .load1 (.t 50)⟩,
    ⟨some 52, some (47, true), .nilchk (.t 51)⟩,
    ⟨some 53, some (47, true), .faddr 2 (.t 52)⟩,
    ⟨some 54, some (47, true), .load1 (.t 53)⟩,
    ⟨some 55, none, .pick (.t 47) (.t 54) (.c (.bool false))⟩])
  (.cond (.t 55)
    (.region false [
      ⟨some 56, none, .mov (.t 0)⟩,
      ⟨some 57, none, .mov (.t 0)⟩,
      ⟨some 58, none, .nilchk (.t 57)⟩,
      ⟨some 59, none, .faddr 4 (.t 58)⟩,
      ⟨some 60, none, .load1 (.t 59)⟩,
      ⟨some 61, none, .bin .sub (.c (.int .i64 1)) (.t 60)⟩,
      ⟨some 62, none, .mov (.t 7)⟩,
      ⟨some 63, none, .call 58 [(.t 56), (.t 61), (.t 62)]⟩])
    (.skip)))
  (.seq (.region true [
    ⟨some 65, none, .mov (.t 0)⟩,
    ⟨some 66, none, .faddr 2 (.t 3)⟩,
    ⟨some 67, none, .load1 (.t 66)⟩,
    ⟨some 68, none, .mov (.t 0)⟩,
    ⟨some 69, none, .nilchk (.t 68)⟩,
    ⟨some 70, none, .faddr 43 (.t 69)⟩,
    ⟨some 71, none, .load1 (.t 70)⟩,
    ⟨some 72, none, .call 16 [(.t 67), (.t 71)]⟩,
    ⟨some 64, none, .mov (.t 72)⟩,
    ⟨some 73, none, .ext 0 (.t 64)⟩,
    ⟨some 74, none, .ext 1 (.t 64)⟩,
    ⟨some 75, none, .nilchk (.t 65)⟩,
    ⟨some 76, none, .faddr 43 (.t 75)⟩,
    ⟨none, none, .store 1 (.t 76) (.t 73)⟩])
  (.seq (.seq (.region true [
    ⟨some 77, none, .mov (.t 0)⟩,
    ⟨some 78, none, .nilchk (.t 77)⟩,
    ⟨some 79, none, .faddr 5 (.t 78)⟩,
    ⟨some 80, none, .loadn 3 (.t 3)⟩])
  (.region false [
    ⟨some 81, none, .call 62 [(.t 79), (.t 80)]⟩]))
  (.seq (.region false [
    ⟨some 82, none, .mov (.t 0)⟩,
    ⟨some 83, none, .call 20 [(.t 82)]⟩,
    ⟨some 4, none, .mov (.t 83)⟩,
    ⟨some 5, none, .mov (.c (.int .i64 0))⟩])
  (.ret))))))))))
theorem ok_sadd : FnOk Try.prog 18 Try.f18 ac_sadd [.t 4, .t 5] 2 drawD := ⟨Try.func18, by decide +kernel, by kernel_rfl, by kernel_rfl, by decide +kernel⟩
structure AddR where
  d : SC
  l : List Rev
  v : Int
  e : Int
theorem vc_sadd0 (P : Prim) (hP : P = std) (T T1 : CallT) (hpre : ∀ f vs h h' K, HEnt h h' → T f vs h' K → T f vs h K) (hput : SPutC T) (hadd : HAddC T) (hhd : SHeadC T) (bl : Nat) (d : SC) (ba : Option Nat) (l : List Rev) (n : Nat) (hn : n = l.length) (rows : List (List V)) (hrows : rows = l.map encRev)
    (r : Rev) (w q : Int) (dr : List (List V)) (hwq : w = r.who ∧ q = r.seq ∧ dr = r.delta.map encPart) (hdz : ∀ x ∈ dr, ∀ v ∈ x, Fz v) (hdl : dr.length ≤ 1000000000) (hb : 0 ≤ d.b ∧ d.b ≤ 2147483647)
    (e1 : Int) (h1 : ∀ (h : Hp) (K : V → Hp → Prop), h 1000001 = some ⟨ba, 45, 3, rows⟩ → K (.int .i64 e1) h → T1 60 [.agg [.int .i64 d.gn, .int .i64 d.b, .str d.tx, .int .i64 (d.fs 0), .int .i64 (d.fs 1), .int .i64 (d.fs 2), .int .i64 (d.fs 3), .int .i64 (d.fs 4), .int .i64 (d.fs 5), .int .i64 (d.fs 6), .int .i64 (d.fs 7), .int .i64 (d.fs 8), .int .i64 (d.fs 9), .int .i64 (d.fs 10), .int .i64 (d.fs 11), .int .i64 (d.fs 12), .int .i64 (d.fs 13), .int .i64 (d.fs 14), .int .i64 (d.fs 15), .int .i64 (d.tb 0), .int .i64 (d.tb 1), .int .i64 (d.tb 2), .int .i64 (d.tb 3), .int .i64 (d.tb 4), .int .i64 (d.tb 5), .int .i64 (d.tb 6), .int .i64 (d.tb 7), .int .i64 (d.tb 8), .int .i64 (d.tb 9), .int .i64 (d.tb 10), .int .i64 (d.tb 11), .int .i64 (d.tb 12), .int .i64 (d.tb 13), .int .i64 (d.tb 14), .int .i64 (d.tb 15), .own 1000001 ba 3 n, .bool d.wh, .int .i64 d.gd], .int .i64 (P.slen d.now), .agg [.int .i64 w, .int .i64 q, .sl false 3 dr]] h K)
    (he1 : e1 = 0 → (0 ≤ r.who ∧ r.who ≤ 7) ∧ l.length < 64) (t : List UInt8) (e : Int) (htl : t.length ≤ 140737488355328)
    (h2 : e1 = 0 → ∀ (k : Nat) (b : Option Nat) (n' : Nat) (h : Hp) (K : V → Hp → Prop), n' = dr.length → h k = some ⟨b, 108, 3, dr⟩ → K (.tup [.str t, .int .i64 e]) h → T 61 [.agg [.int .i64 w, .int .i64 q, .own k b 3 n']] h K)
    (u : List UInt8) (f : Int) (h3 : e1 = 0 → Ans T1 16 [.sl false 3 dr, .str d.now] (.tup [.str u, .int .i64 f]))
    (Y : AddR) (hY : Y = (if e1 ≠ 0 then ⟨d, l, 0, e1⟩ else if e ≠ 0 then ⟨d, l, 0, e⟩ else ⟨addD { putS d d.at' t with now := u } l r, l ++ [r], d.b + (l.length + 1 : Nat), 0⟩))
    (R : S → Prop) (hR : ∀ s s' ba' n' rows', n' = Y.l.length → rows' = Y.l.map encRev → Ent s s' → Ret [.t 4, .t 5] [.int .i64 Y.v, .int .i64 Y.e] s' → agreeH (S2 bl Y.d ba' n' rows' .nil) s' → R s) :
    awp P T T1 ac_sadd (S0 [.ptr 0 (some bl) 47 0 0, .agg [.int .i64 w, .int .i64 q, .sl false 3 dr]] (lookH (S2 bl d ba n rows .nil))) R (fun _ _ => False) R := by
  have f1 : P.bytes (P.rlen dr) 32 := by subst hP; show (dr.length : Int) * 32 ≤ _; ((try simp only [nc] at *); omega)
  have f2 : dr.length = P.rlenN dr := by subst hP; rfl
  cbv
  repeat' (first
    | (refine And.intro (by first | assumption | decide) ?_; try cbv)
    | (intro β2; try cbv))
  refine h1 _ _ rfl ?_
  cbv
  repeat' (first
    | (refine And.intro (by first | assumption | decide) ?_; try cbv)
    | (intro β2; try cbv))
  refine br_cases (fun g => ?_) (fun g => ?_)
  · have g1 : e1 ≠ 0 := ne_t hP g
    rw [if_pos g1] at hY
    cbv
    repeat' (first
    | (refine And.intro (by first | assumption | decide) ?_; try cbv)
    | (intro β2; try cbv))
    subst hY
    exact hR _ _ ba n rows hn hrows (Ent.refl _) rfl ⟨rfl, rfl, trivial⟩
  have g1 : e1 = 0 := ne_f hP g
  rw [if_neg (fun hh => hh g1)] at hY
  obtain ⟨hw, hl64⟩ := he1 g1
  cbv
  repeat' (first
    | (refine And.intro (by first | assumption | decide) ?_; try cbv)
    | (intro β2; try cbv))
  refine h2 g1 1000025 _ _ _ _ f2.symm rfl ?_
  cbv
  repeat' (first
    | (refine And.intro (by first | assumption | decide) ?_; try cbv)
    | (intro β2; try cbv))
  refine br_cases (fun g => ?_) (fun g => ?_)
  · have g2 : e ≠ 0 := ne_t hP g
    rw [if_pos g2] at hY
    cbv
    repeat' (first
    | (refine And.intro (by first | assumption | decide) ?_; try cbv)
    | (intro β2; try cbv))
    subst hY
    exact hR _ _ ba n rows hn hrows (Ent.refl _) rfl ⟨rfl, rfl, trivial⟩
  have g2 : e = 0 := ne_f hP g
  rw [if_neg (fun hh => hh g2)] at hY
  cbv
  repeat' (first
    | (refine And.intro (by first | assumption | decide) ?_; try cbv)
    | (intro β2; try cbv))
  refine hpre _ _ _ _ _ (HEnt.frzC (k := 1000025) (q := 3) (c := 2) rfl rfl rfl rfl rfl rfl f2 hdz) ?_
  refine hput 0 bl d (.own 1000001 ba 3 n) .nil _ _ _ _ htl ⟨⟨.own _ _ _ _, rfl⟩, .nil, rfl⟩ rfl rfl rfl fun d1 hd1 => ?_
  have hb1 : d1.b = d.b := by rw [hd1]; rfl
  have hnow1 : d1.now = d.now := by rw [hd1]; rfl
  have h3' : Ans T1 16 [.sl false 3 dr, .str d1.now] (.tup [.str u, .int .i64 f]) := by rw [hnow1]; exact h3 g1
  cbv
  repeat' (first
    | (refine And.intro (by first | assumption | decide) ?_; try cbv)
    | (intro β2; try cbv))
  refine h3' _ _ ?_
  cbv
  repeat' (first
    | (refine And.intro (by first | assumption | decide) ?_; try cbv)
    | (intro β2; try cbv))
  refine hadd 0 1000001 bl { d1 with now := u } ba n rows l .nil w q dr r _ _ hrows hn (by omega) hwq hw (by show 0 ≤ d1.b ∧ d1.b ≤ _; rw [hb1]; omega) ⟨⟨.nil, rfl⟩, rfl⟩ rfl rfl rfl rfl fun ba2 d2 n2 rows2 hd2 hn2 hrows2 => ?_
  have hb2 : d2.b = d.b := by rw [hd2]; exact hb1
  cbv
  repeat' (first
    | (refine And.intro (by first | assumption | decide) ?_; try cbv)
    | (intro β2; try cbv))
  refine hhd 0 bl d2 1000001 ba2 n2 .nil _ _ (by rw [hb2]; omega) (by omega) ⟨.nil, rfl⟩ rfl rfl rfl fun v hv => ?_
  cbv
  repeat' (first
    | (refine And.intro (by first | assumption | decide) ?_; try cbv)
    | (intro β2; try cbv))
  have hv2 : v = Y.v := by rw [hY, hv, hb2, hn2]
  have hYd : Y.d = d2 := by rw [hY, hd2, hd1]
  have hYl : Y.l = l ++ [r] := by rw [hY]
  have hYe : Y.e = 0 := by rw [hY]
  subst hv2
  refine hR _ _ ba2 n2 rows2 (by rw [hYl, hn2]; simp) (by rw [hYl, hrows2]) (Ent.refl _) (by rw [hYe]; rfl) ?_
  rw [hYd]
  exact ⟨rfl, rfl, trivial⟩
end Go.Proofs.Ytobngncjflogcaa.AM

set_option linter.unusedVariables false
set_option linter.unusedSimpArgs false
namespace Go.Proofs.Ytobngncjflogcaa.AM
open Go Go.RowKit
set_option maxRecDepth 100000
set_option maxHeartbeats 2000000
def newH : List UInt8 := (headF 1 0 [] fun _ => 0).1
def doneH : List UInt8 := (putFr 3 []).1
theorem frameL_len (k : Int) (b : List UInt8) : (frameL k b).length = b.length + 7 := by
  simp [frameL, headL, fourL]
theorem putFr_len (k : Int) (b : List UInt8) : (putFr k b).1.length ≤ 4007 := by
  unfold putFr
  split
  · simp
  · split
    · simp
    · rename_i h
      rw [frameL_len]
      omega
theorem headF_len (g b : Int) (tx : List UInt8) (t : Nat → Int) : (headF g b tx t).1.length ≤ 4007 := by
  unfold headF
  split
  · split
    · simp
    · exact putFr_len _ _
  · simp
theorem revF_len (r : Rev) : (revF r).1.length ≤ 4007 := by
  unfold revF
  split
  · simp
  · exact putFr_len _ _
theorem newH_len : newH.length + doneH.length ≤ 100000 := by
  have h1 := headF_len 1 0 [] fun _ => 0
  have h2 := putFr_len 3 []
  show (headF 1 0 [] fun _ => 0).1.length + (putFr 3 []).1.length ≤ _
  omega
theorem sp_snew : Spec Try.prog 17 [] (lookH []) fun x h' => ∃ L', (∃ β, x = .ptr 5 (some β) 47 0 0 ∧ L' = [(5, obSh β (rowS newD (.own 6 none 3 0) .nil)), (6, obV none [])]) ∧ h' = lookH L' :=
  spec_meth dOk ok_snew (L := []) (fun x L' => ∃ β, x = .ptr 5 (some β) 47 0 0 ∧ L' = [(5, obSh β (rowS newD (.own 6 none 3 0) .nil)), (6, obV none [])]) fun R hR =>
    vc_snew std rfl _ _ sputC ssynC newH doneH _ (ansW (sp_hhead 1 0 [] (by simp) fun _ => 0) (fun _ => .cons (.same _) (.cons (.same _) (.cons (.same _) (.cons (.same _) .nil)))) rfl) (ansSame sp_hdone rfl rfl) newH_len R
      fun s s' β d hd he hr ha => by
        subst hd
        refine hR s s' (.ptr 5 (some β) 47 0 0) [(5, obSh β (rowS newD (.own 6 none 3 0) .nil)), (6, obV none [])] he (resV_mono _ _ _ (fun x hx => by rw [hx]; rfl) hr) ha (.ptr _ _ _ _ _) (fun p hp => ?_) ⟨β, rfl, rfl⟩
        rcases List.mem_cons.1 hp with rfl | hp
        · exact rowS_fz (.own _ _ _ _) .nil β
        · rw [List.mem_singleton.1 hp]; exact encRevs_fz []
def SNewC (T : CallT) : Prop := ∀ (k ka : Nat) (h : Hp) (K : V → Hp → Prop), h k = none → h ka = none → Nat.beq k ka = false → Nat.beq ka 5 = false → (∀ β d, d = newD → K (.ptr k (some β) 47 0 0) (Hp.put (Hp.put h k (obSh β (rowS d (.own ka none 3 0) .nil))) ka (obV none []))) → T 17 [] h K
theorem snewC : SNewC (CallE Try.prog) := by
  intro k ka h K hk hka hne hne5 hK
  have hne' : k ≠ ka := by intro e; subst e; rw [Nat.beq_refl] at hne; cases hne
  have hne2 : ¬ ka = k := fun e => hne' e.symm
  have h6 : lab [(5, k), (6, ka)] 6 = ka := by simp [lab]
  have h5 : lab [(5, k), (6, ka)] 5 = k := by simp [lab]
  refine callG sp_snew (m := [(5, k), (6, ka)]) .nil (fun j o hj => by cases hj) (fun q hq => ?_) ?_
  · simp only [List.mem_cons, List.not_mem_nil, or_false] at hq
    rcases hq with rfl | rfl
    · exact ⟨h5, by simp [bal], fun o ho => by cases ho⟩
    · exact ⟨h6, by simp [bal, hne2], fun o ho => by cases ho⟩
  · rintro v L' ⟨β, rfl, rfl⟩
    have e : h.upd [(5, k), (6, ka)] (lookH [(5, obSh β (rowS newD (.own 6 none 3 0) .nil)), (6, obV none [])]) = Hp.put (Hp.put h k (obSh β (rowS newD (.own ka none 3 0) .nil))) ka (obV none []) := by
      funext i
      simp only [Hp.upd, Hp.put, List.any_cons, List.any_nil, Bool.or_false, Bool.or_eq_true, decide_eq_true_eq]
      by_cases h1 : ka = i
      · subst h1
        have hb : bal [(5, k), (6, ka)] ka = 6 := by simp [bal, hne2]
        rw [if_pos (.inr rfl), if_pos rfl, hb]
        rfl
      · by_cases h2 : k = i
        · subst h2
          have hb : bal [(5, k), (6, ka)] k = 5 := by simp [bal]
          rw [if_pos (.inl rfl), if_neg (fun e => h1 e.symm), if_pos rfl, hb]
          show (some (obSh β (rowS newD (.own 6 none 3 0) .nil))).map (Ob.ren (lab [(5, k), (6, ka)])) = _
          rw [Option.map_some, obSh_ren]
          show some (obSh β (rowS newD (.own (lab [(5, k), (6, ka)] 6) none 3 0) .nil)) = _
          rw [h6]
        · rw [if_neg (by rintro (h | h); exact h2 h; exact h1 h), if_neg (fun e => h1 e.symm), if_neg (fun e => h2 e.symm)]
    rw [e]
    have : (V.ptr 5 (some β) 47 0 0).ren (lab [(5, k), (6, ka)]) = .ptr k (some β) 47 0 0 := by
      show V.ptr (lab [(5, k), (6, ka)] 5) (some β) 47 0 0 = _
      rw [h5]
    rw [this]
    exact hK β _ rfl
theorem arg_log {d : SC} {ba : Option Nat} {l : List Rev} {h : Hp} (h1 : h 1000001 = some ⟨ba, 45, 3, l.map encRev⟩) : Arg h [] (.agg [.int .i64 d.gn, .int .i64 d.b, .str d.tx, .int .i64 (d.fs 0), .int .i64 (d.fs 1), .int .i64 (d.fs 2), .int .i64 (d.fs 3), .int .i64 (d.fs 4), .int .i64 (d.fs 5), .int .i64 (d.fs 6), .int .i64 (d.fs 7), .int .i64 (d.fs 8), .int .i64 (d.fs 9), .int .i64 (d.fs 10), .int .i64 (d.fs 11), .int .i64 (d.fs 12), .int .i64 (d.fs 13), .int .i64 (d.fs 14), .int .i64 (d.fs 15), .int .i64 (d.tb 0), .int .i64 (d.tb 1), .int .i64 (d.tb 2), .int .i64 (d.tb 3), .int .i64 (d.tb 4), .int .i64 (d.tb 5), .int .i64 (d.tb 6), .int .i64 (d.tb 7), .int .i64 (d.tb 8), .int .i64 (d.tb 9), .int .i64 (d.tb 10), .int .i64 (d.tb 11), .int .i64 (d.tb 12), .int .i64 (d.tb 13), .int .i64 (d.tb 14), .int .i64 (d.tb 15), .own 1000001 ba 3 l.length, .bool d.wh, .int .i64 d.gd]) (logT d.gn d.b d.tx d.fs d.tb (l.map encRev) d.wh d.gd) := by
  have hown : Arg h [] (.own 1000001 ba 3 l.length) (.sl true 3 (l.map encRev)) := .own 1000001 ba 3 l.length _ (rowsOf_own (by simp) h1) (by simp)
  obtain ⟨a1, a2⟩ := arg_agg (h := h) (m := []) (l := [.int .i64 d.gn, .int .i64 d.b, .str d.tx, .int .i64 (d.fs 0), .int .i64 (d.fs 1), .int .i64 (d.fs 2), .int .i64 (d.fs 3), .int .i64 (d.fs 4), .int .i64 (d.fs 5), .int .i64 (d.fs 6), .int .i64 (d.fs 7), .int .i64 (d.fs 8), .int .i64 (d.fs 9), .int .i64 (d.fs 10), .int .i64 (d.fs 11), .int .i64 (d.fs 12), .int .i64 (d.fs 13), .int .i64 (d.fs 14), .int .i64 (d.fs 15), .int .i64 (d.tb 0), .int .i64 (d.tb 1), .int .i64 (d.tb 2), .int .i64 (d.tb 3), .int .i64 (d.tb 4), .int .i64 (d.tb 5), .int .i64 (d.tb 6), .int .i64 (d.tb 7), .int .i64 (d.tb 8), .int .i64 (d.tb 9), .int .i64 (d.tb 10), .int .i64 (d.tb 11), .int .i64 (d.tb 12), .int .i64 (d.tb 13), .int .i64 (d.tb 14), .int .i64 (d.tb 15), .own 1000001 ba 3 l.length, .bool d.wh, .int .i64 d.gd]) (l' := [.int .i64 d.gn, .int .i64 d.b, .str d.tx, .int .i64 (d.fs 0), .int .i64 (d.fs 1), .int .i64 (d.fs 2), .int .i64 (d.fs 3), .int .i64 (d.fs 4), .int .i64 (d.fs 5), .int .i64 (d.fs 6), .int .i64 (d.fs 7), .int .i64 (d.fs 8), .int .i64 (d.fs 9), .int .i64 (d.fs 10), .int .i64 (d.fs 11), .int .i64 (d.fs 12), .int .i64 (d.fs 13), .int .i64 (d.fs 14), .int .i64 (d.fs 15), .int .i64 (d.tb 0), .int .i64 (d.tb 1), .int .i64 (d.tb 2), .int .i64 (d.tb 3), .int .i64 (d.tb 4), .int .i64 (d.tb 5), .int .i64 (d.tb 6), .int .i64 (d.tb 7), .int .i64 (d.tb 8), .int .i64 (d.tb 9), .int .i64 (d.tb 10), .int .i64 (d.tb 11), .int .i64 (d.tb 12), .int .i64 (d.tb 13), .int .i64 (d.tb 14), .int .i64 (d.tb 15), .sl true 3 (l.map encRev), .bool d.wh, .int .i64 d.gd]) ((.cons (.same _) (.cons (.same _) (.cons (.same _) (.cons (.same _) (.cons (.same _) (.cons (.same _) (.cons (.same _) (.cons (.same _) (.cons (.same _) (.cons (.same _) (.cons (.same _) (.cons (.same _) (.cons (.same _) (.cons (.same _) (.cons (.same _) (.cons (.same _) (.cons (.same _) (.cons (.same _) (.cons (.same _) (.cons (.same _) (.cons (.same _) (.cons (.same _) (.cons (.same _) (.cons (.same _) (.cons (.same _) (.cons (.same _) (.cons (.same _) (.cons (.same _) (.cons (.same _) (.cons (.same _) (.cons (.same _) (.cons (.same _) (.cons (.same _) (.cons (.same _) (.cons (.same _) (.cons hown (.cons (.same _) (.cons (.same _) .nil)))))))))))))))))))))))))))))))))))))))
  exact .agg _ _ a1 a2
def shAdd (d : SC) (l : List Rev) (r : Rev) : AddR := if nextF d.b d.tb l.length d.now.length r ≠ 0 then ⟨d, l, 0, nextF d.b d.tb l.length d.now.length r⟩ else if (revF r).2 ≠ 0 then ⟨d, l, 0, (revF r).2⟩
  else ⟨addD { putS d d.at' (revF r).1 with now := (doF r.delta d.now).1 } l r, l ++ [r], d.b + (l.length + 1 : Nat), 0⟩
theorem sp_sadd0 (bl : Nat) (d : SC) (ba : Option Nat) (l : List Rev) (r : Rev) (hr : PartsOk r.delta) (hb : 0 ≤ d.b ∧ d.b ≤ 2147483647) (hdl : r.delta.length ≤ 1000000000) : Spec Try.prog 18 [.ptr 0 (some bl) 47 0 0, .agg (encRev r)] (lookH (S2 bl d ba l.length (l.map encRev) .nil))
    fun x h' => ∃ L', (x = .tup [.int .i64 (shAdd d l r).v, .int .i64 (shAdd d l r).e] ∧ ∃ ba', L' = S2 bl (shAdd d l r).d ba' (shAdd d l r).l.length ((shAdd d l r).l.map encRev) .nil) ∧ h' = lookH L' :=
  spec_meth dOk ok_sadd (L := S2 bl d ba l.length (l.map encRev) .nil) (fun x L' => x = .tup [.int .i64 (shAdd d l r).v, .int .i64 (shAdd d l r).e] ∧ ∃ ba', L' = S2 bl (shAdd d l r).d ba' (shAdd d l r).l.length ((shAdd d l r).l.map encRev) .nil) fun R hR =>
    vc_sadd0 std rfl _ _ callE_pre sputC haddC sheadE bl d ba l _ rfl _ rfl r r.who r.seq (r.delta.map encPart) ⟨rfl, rfl, rfl⟩ (encParts_fz _) (by simpa using hdl) hb
      (nextF d.b d.tb l.length d.now.length r) (fun h K h1 hK => call_pureP (sp_hnextT d.gn d.b d.tx d.fs d.tb l d.wh d.gd d.now.length r hb hr) (.cons (arg_log h1) (.cons (.same _) (.cons (.same _) .nil))) hK)
      (fun h => ⟨⟨(one_who (nextF_ok h).1).1, (one_who (nextF_ok h).1).2.1⟩, (nextF_ok h).2⟩)
      (revF r).1 (revF r).2 (by have := revF_len r; omega) (fun _ k b n' h K hn hk hK => by
        subst hn
        refine ⟨h, HEnt.refl h, call_pure (sp_hrevT r hr) (.cons ?_ .nil) hK⟩
        obtain ⟨a1, a2⟩ := arg_agg (h := h) (m := []) (l := [.int .i64 r.who, .int .i64 r.seq, .own k b 3 (r.delta.map encPart).length]) (l' := encRevT r) (.cons (.same _) (.cons (.same _) (.cons (.own k b 3 _ _ (rowsOf_own rfl hk) (by simp)) .nil)))
        exact .agg _ _ a1 a2)
      (doF r.delta d.now).1 (doF r.delta d.now).2 (fun _ => ansPs (sp_do r.delta hr.1 d.now) rfl rfl) (shAdd d l r) rfl R
      fun s s' ba' n' rows' hn hrows he hr ha => by
        subst hn hrows
        exact hR s s' _ _ he (resV_mono _ _ _ (fun x hx => by rw [hx]; rfl) hr) ha (.tup _ (by simp; exact ⟨.int _ _, .int _ _⟩)) (S2_fz .nil) ⟨rfl, ba', rfl⟩
def SAddC0 (T : CallT) : Prop := ∀ (k ka bl : Nat) (d : SC) (ba : Option Nat) (n : Nat) (rows : List (List V)) (l : List Rev) (r : Rev) (w q : Int) (dr : List (List V)) (h : Hp) (K : V → Hp → Prop), rows = l.map encRev → n = l.length → (w = r.who ∧ q = r.seq ∧ dr = r.delta.map encPart) → PartsOk r.delta → r.delta.length ≤ 1000000000 → (0 ≤ d.b ∧ d.b ≤ 2147483647) → Nat.beq k ka = false →
  h k = some (obSh bl (rowS d (.own ka ba 3 n) .nil)) → h ka = some (obV ba rows) → (∀ v e ba' d' n' rows', v = (shAdd d l r).v → e = (shAdd d l r).e → d' = (shAdd d l r).d → n' = (shAdd d l r).l.length → rows' = (shAdd d l r).l.map encRev → K (.tup [.int .i64 v, .int .i64 e]) (Hp.put (Hp.put h k (obSh bl (rowS d' (.own ka ba' 3 n') .nil))) ka (obV ba' rows'))) →
  T 18 [.ptr k (some bl) 47 0 0, .agg [.int .i64 w, .int .i64 q, .sl false 3 dr]] h K
theorem saddC0 : SAddC0 (CallE Try.prog) := by
  rintro k ka bl d ba n rows l r w q dr h K rfl rfl ⟨rfl, rfl, rfl⟩ hr hdl hb hne hk hka hK
  exact callS2 (off := 0) (Q := fun v => v = .nil) (rest := [.agg (encRev r)]) (fun g => rfl) (fun mv hq => by subst hq; exact sp_sadd0 bl d ba l r hr hb hdl) (fun h => .cons (.same _) .nil) (fun _ => rfl) .nil hne rfl hk hka fun ba' => hK _ _ ba' _ _ _ rfl rfl rfl rfl rfl
end Go.Proofs.Ytobngncjflogcaa.AM

set_option linter.unusedVariables false
set_option linter.unusedSimpArgs false
namespace Go.Proofs.Ytobngncjflogcaa.AM
open Go Go.RowKit
set_option maxRecDepth 100000
set_option maxHeartbeats 2000000
structure L3 where
  a : Int
  b : Int
  e : Int
def slastT (tb : Nat → Int) (w : Int) : L3 := if w < 0 ∨ 7 < w then ⟨0, 0, 1⟩ else ⟨tb (2 * w.toNat), tb (2 * w.toNat + 1), 0⟩
def ac_slast : AC := .seq (.region false [
    ⟨some 4, none, .alloc 78 [(.int .i64 0), (.int .i64 0)]⟩,
    ⟨some 5, none, .mov (.c (.int .i64 0))⟩])
  (.seq (.seq (.region false [
    ⟨some 6, none, .mov (.t 1)⟩,
    ⟨some 7, none, .bin .lss (.t 6) (.c (.int .i64 0))⟩,
    ⟨some 8, none, .mov (.t 7)⟩,
    ⟨some 9, some (8, false), .mov (.t 1)⟩,
    ⟨some 10, some (8, false), .bin .gtr (.t 9) (.c (.int .i64 7))⟩,
    ⟨some 11, none, .pick (.t 8) (.c (.bool true)) (.t 10)⟩])
  (.cond (.t 11)
    (.seq (.region false [
      ⟨some 12, none, .build [(.int .i64 0), (.int .i64 0)] []⟩,
      ⟨none, none, .store 2 (.t 4) (.t 12)⟩,
      ⟨some 5, none, .mov (.c (.int .i64 1))⟩])
    (.ret))
    (.skip)))
  (.seq (.region false [
    ⟨some 13, none, .mov (.t 0)⟩,
    ⟨some 14, none, .mov (.t 1)⟩,
    ⟨some 15, none, .nilchk (.t 13)⟩,
    ⟨some 16, none, .faddr 5 (.t 15)⟩,
    ⟨some 17, none, .faddr 19 (.t 16)⟩,
    ⟨some 18, none, .iarr 8 2 (.t 17) (.t 14)⟩,
    ⟨some 19, none, .loadn 2 (.t 18)⟩,
    ⟨none, none, .store 2 (.t 4) (.t 19)⟩,
    ⟨some 5, none, .mov (.c (.int .i64 0))⟩])
  (.ret)))
theorem ok_slast : FnOk Try.prog 42 Try.f42 ac_slast [.cn 4 2, .t 5] 2 drawD := ⟨Try.func42, by decide +kernel, by kernel_rfl, by kernel_rfl, by decide +kernel⟩
theorem vc_slast (P : Prim) (hP : P = std) (T T1 : CallT) (bl : Nat) (d : SC) (rv mv : V) (hv1 : V.one rv = true) (hv2 : V.one mv = true) (wi : Int) (w : Nat) (hw : 0 ≤ wi → wi = (w : Int)) (Y : L3) (hY : Y = if wi < 0 ∨ 7 < wi then ⟨0, 0, 1⟩ else ⟨d.tb (2 * w), d.tb (2 * w + 1), 0⟩)
    (R : S → Prop) (hR : ∀ s s' a b e, a = Y.a ∧ b = Y.b ∧ e = Y.e → Ent s s' → Ret [.cn 4 2, .t 5] [.agg [.int .i64 a, .int .i64 b], .int .i64 e] s' → agreeH (S1 bl d rv mv) s' → R s) : awp P T T1 ac_slast (S0 [.ptr 0 (some bl) 47 0 0, .int .i64 wi] (lookH (S1 bl d rv mv))) R (fun _ _ => False) R := by
  cbv
  repeat' (first
    | (refine And.intro (by first | assumption | decide) ?_; try cbv)
    | (intro β2; try cbv))
  refine br_cases (fun g => ?_) (fun g => ?_)
  · have g1 : wi < 0 := lt_t hP g
    rw [if_pos (.inl g1)] at hY
    cbv
    repeat' (first
    | (refine And.intro (by first | assumption | decide) ?_; try cbv)
    | (intro β2; try cbv))
    refine hR _ _ _ _ _ ⟨?_, ?_, ?_⟩ (Ent.refl _) ⟨rfl, rfl, Nat.zero_lt_succ 0, Nat.le_refl 2, rfl⟩ ⟨rfl, trivial⟩ <;> rw [hY]
  have g1 : ¬ wi < 0 := lt_f hP g
  cbv
  repeat' (first
    | (refine And.intro (by first | assumption | decide) ?_; try cbv)
    | (intro β2; try cbv))
  refine br_cases (fun g => ?_) (fun g => ?_)
  · have g2 : 7 < wi := lt_t hP g
    rw [if_pos (.inr g2)] at hY
    cbv
    repeat' (first
    | (refine And.intro (by first | assumption | decide) ?_; try cbv)
    | (intro β2; try cbv))
    refine hR _ _ _ _ _ ⟨?_, ?_, ?_⟩ (Ent.refl _) ⟨rfl, rfl, Nat.zero_lt_succ 0, Nat.le_refl 2, rfl⟩ ⟨rfl, trivial⟩ <;> rw [hY]
  have g2 : ¬ 7 < wi := lt_f hP g
  rw [if_neg (fun h => h.elim g1 g2)] at hY
  have hw0 := hw (by omega)
  have q1 : P.leP 0 wi := le0 hP (by omega)
  have q2 : P.ltP wi 8 := ltI hP (by omega)
  have hNk : P.nat wi = w := by rw [hw0]; subst hP; rfl
  have hc : w = 0 ∨ w = 1 ∨ w = 2 ∨ w = 3 ∨ w = 4 ∨ w = 5 ∨ w = 6 ∨ w = 7 := by ((try simp only [nc] at *); omega)
  cbv
  repeat' (first
    | (refine And.intro (by first | assumption | decide) ?_; try cbv)
    | (intro β2; try cbv))
  rcases hc with rfl | rfl | rfl | rfl | rfl | rfl | rfl | rfl
  · refine ⟨0, hNk, ?_⟩
    cbv
    repeat' (first
      | (refine And.intro (by first | assumption | decide) ?_; try cbv)
      | (intro β2; try cbv))
    refine hR _ _ _ _ _ ⟨?_, ?_, ?_⟩ (Ent.refl _) ⟨rfl, rfl, Nat.zero_lt_succ 0, Nat.le_refl 2, rfl⟩ ⟨rfl, trivial⟩ <;> rw [hY]
  · refine ⟨1, hNk, ?_⟩
    cbv
    repeat' (first
      | (refine And.intro (by first | assumption | decide) ?_; try cbv)
      | (intro β2; try cbv))
    refine hR _ _ _ _ _ ⟨?_, ?_, ?_⟩ (Ent.refl _) ⟨rfl, rfl, Nat.zero_lt_succ 0, Nat.le_refl 2, rfl⟩ ⟨rfl, trivial⟩ <;> rw [hY]
  · refine ⟨2, hNk, ?_⟩
    cbv
    repeat' (first
      | (refine And.intro (by first | assumption | decide) ?_; try cbv)
      | (intro β2; try cbv))
    refine hR _ _ _ _ _ ⟨?_, ?_, ?_⟩ (Ent.refl _) ⟨rfl, rfl, Nat.zero_lt_succ 0, Nat.le_refl 2, rfl⟩ ⟨rfl, trivial⟩ <;> rw [hY]
  · refine ⟨3, hNk, ?_⟩
    cbv
    repeat' (first
      | (refine And.intro (by first | assumption | decide) ?_; try cbv)
      | (intro β2; try cbv))
    refine hR _ _ _ _ _ ⟨?_, ?_, ?_⟩ (Ent.refl _) ⟨rfl, rfl, Nat.zero_lt_succ 0, Nat.le_refl 2, rfl⟩ ⟨rfl, trivial⟩ <;> rw [hY]
  · refine ⟨4, hNk, ?_⟩
    cbv
    repeat' (first
      | (refine And.intro (by first | assumption | decide) ?_; try cbv)
      | (intro β2; try cbv))
    refine hR _ _ _ _ _ ⟨?_, ?_, ?_⟩ (Ent.refl _) ⟨rfl, rfl, Nat.zero_lt_succ 0, Nat.le_refl 2, rfl⟩ ⟨rfl, trivial⟩ <;> rw [hY]
  · refine ⟨5, hNk, ?_⟩
    cbv
    repeat' (first
      | (refine And.intro (by first | assumption | decide) ?_; try cbv)
      | (intro β2; try cbv))
    refine hR _ _ _ _ _ ⟨?_, ?_, ?_⟩ (Ent.refl _) ⟨rfl, rfl, Nat.zero_lt_succ 0, Nat.le_refl 2, rfl⟩ ⟨rfl, trivial⟩ <;> rw [hY]
  · refine ⟨6, hNk, ?_⟩
    cbv
    repeat' (first
      | (refine And.intro (by first | assumption | decide) ?_; try cbv)
      | (intro β2; try cbv))
    refine hR _ _ _ _ _ ⟨?_, ?_, ?_⟩ (Ent.refl _) ⟨rfl, rfl, Nat.zero_lt_succ 0, Nat.le_refl 2, rfl⟩ ⟨rfl, trivial⟩ <;> rw [hY]
  · refine ⟨7, hNk, ?_⟩
    cbv
    repeat' (first
      | (refine And.intro (by first | assumption | decide) ?_; try cbv)
      | (intro β2; try cbv))
    refine hR _ _ _ _ _ ⟨?_, ?_, ?_⟩ (Ent.refl _) ⟨rfl, rfl, Nat.zero_lt_succ 0, Nat.le_refl 2, rfl⟩ ⟨rfl, trivial⟩ <;> rw [hY]
theorem sp_slast (bl : Nat) (d : SC) (w : Int) (rv mv : V) (hq : WQ rv mv) : Spec Try.prog 42 [.ptr 0 (some bl) 47 0 0, .int .i64 w] (lookH (S1 bl d rv mv)) fun x h' => ∃ L', (x = .tup [.agg [.int .i64 (slastT d.tb w).a, .int .i64 (slastT d.tb w).b], .int .i64 (slastT d.tb w).e] ∧ L' = S1 bl d rv mv) ∧ h' = lookH L' :=
  spec_rd ok_slast [.agg [.int .i64 (slastT d.tb w).a, .int .i64 (slastT d.tb w).b], .int .i64 (slastT d.tb w).e] _ rfl (.tup _ (by simp; exact ⟨.agg _ (by simp; exact ⟨.int _ _, .int _ _⟩), .int _ _⟩)) bl d rv mv hq fun R hR => vc_slast std rfl _ _ bl d rv mv hq.1.2 hq.2.2 w w.toNat (fun h => by omega) (slastT d.tb w) rfl R
    fun s s' a b e h he hr ha => by obtain ⟨rfl, rfl, rfl⟩ := h; exact hR s s' he hr ha
def SLastC (T : CallT) : Prop := ∀ (k bl : Nat) (d : SC) (rv mv : V) (w : Int) (h : Hp) (K : V → Hp → Prop), WQ rv mv → rtB k rv = true → rtB k mv = true → h k = some (obSh bl (rowS d rv mv)) → (∀ a b e, a = (slastT d.tb w).a → b = (slastT d.tb w).b → e = (slastT d.tb w).e → K (.tup [.agg [.int .i64 a, .int .i64 b], .int .i64 e]) h) → T 42 [.ptr k (some bl) 47 0 0, .int .i64 w] h K
theorem slastE : SLastC (CallE Try.prog) := fun k bl d rv mv w h K hq r1 r2 hk hK => rdE (Q := WQ) (fun g => hq.rl g) (fun rv mv hq => sp_slast bl d w rv mv hq) rfl (fun _ => rfl) hq.1.1 hq.2.1 r1 r2 hk (hK _ _ _ rfl rfl rfl)
def ac_sdisk : AC := .seq (.region false [
    ⟨some 2, none, .alloc 26 [(.string ⟨#[]⟩), (.int .i64 0), (.string ⟨#[]⟩), (.int .i64 0)]⟩])
  (.seq (.region false [
    ⟨some 3, none, .mov (.t 0)⟩,
    ⟨some 4, none, .nilchk (.t 3)⟩,
    ⟨some 5, none, .faddr 0 (.t 4)⟩,
    ⟨some 6, none, .loadn 4 (.t 5)⟩,
    ⟨none, none, .store 4 (.t 2) (.t 6)⟩])
  (.ret))
theorem ok_sdisk : FnOk Try.prog 31 Try.f31 ac_sdisk [.cn 2 4] 1 drawD := ⟨Try.func31, by decide +kernel, by kernel_rfl, by kernel_rfl, by decide +kernel⟩
theorem vc_sdisk (P : Prim) (hP : P = std) (T T1 : CallT) (bl : Nat) (d : SC) (rv mv : V) (hv1 : V.one rv = true) (hv2 : V.one mv = true)
    (R : S → Prop) (hR : ∀ s s', Ent s s' → Ret [.cn 2 4] [.agg [.str d.x1, .int .i64 d.x2, .str d.x3, .int .i64 d.x4]] s' → agreeH (S1 bl d rv mv) s' → R s) : awp P T T1 ac_sdisk (S0 [.ptr 0 (some bl) 47 0 0] (lookH (S1 bl d rv mv))) R (fun _ _ => False) R := by
  cbv
  repeat' (first
    | (refine And.intro (by first | assumption | decide) ?_; try cbv)
    | (intro β2; try cbv))
  exact hR _ _ (Ent.refl _) ⟨rfl, rfl, Nat.zero_lt_succ 0, Nat.le_refl 4, rfl⟩ ⟨rfl, trivial⟩
theorem sp_sdisk (bl : Nat) (d : SC) (rv mv : V) (hq : WQ rv mv) : Spec Try.prog 31 [.ptr 0 (some bl) 47 0 0] (lookH (S1 bl d rv mv)) fun x h' => ∃ L', (x = .agg [.str d.x1, .int .i64 d.x2, .str d.x3, .int .i64 d.x4] ∧ L' = S1 bl d rv mv) ∧ h' = lookH L' :=
  spec_rd ok_sdisk [.agg [.str d.x1, .int .i64 d.x2, .str d.x3, .int .i64 d.x4]] _ rfl (.agg _ (by simp; exact ⟨.str _, .int _ _, .str _, .int _ _⟩)) bl d rv mv hq fun R hR => vc_sdisk std rfl _ _ bl d rv mv hq.1.2 hq.2.2 R hR
def SDiskC (T : CallT) : Prop := ∀ (k bl : Nat) (d : SC) (rv mv : V) (h : Hp) (K : V → Hp → Prop), WQ rv mv → rtB k rv = true → rtB k mv = true → h k = some (obSh bl (rowS d rv mv)) → K (.agg [.str d.x1, .int .i64 d.x2, .str d.x3, .int .i64 d.x4]) h → T 31 [.ptr k (some bl) 47 0 0] h K
theorem sdiskE : SDiskC (CallE Try.prog) := fun k bl d rv mv h K hq r1 r2 hk hK => rdE (Q := WQ) (fun g => hq.rl g) (fun rv mv hq => sp_sdisk bl d rv mv hq) rfl (fun _ => rfl) hq.1.1 hq.2.1 r1 r2 hk hK
end Go.Proofs.Ytobngncjflogcaa.AM

set_option linter.unusedVariables false
set_option linter.unusedSimpArgs false
namespace Go.Proofs.Ytobngncjflogcaa.AM
open Go Go.RowKit
set_option maxRecDepth 100000
set_option maxHeartbeats 2000000
/-- the last row's own slice is frozen; three objects are kept -/
theorem Ent.frzRev {s : S} {k q n ty : Nat} {b : Option Nat} {dr : List (List V)} {O o0 o1 : Ob} {pre : List (List V)} {x y : V} (hk : s.h k = some ⟨b, ty, 3, dr⟩) (hq : s.h q = some O) (hO : O.rows = pre ++ [[x, y, .own k b 3 n]]) (h0 : s.h 0 = some o0) (h1 : s.h 1000001 = some o1) (hn : dr.length = n) (hz : ∀ r ∈ dr, ∀ v ∈ r, Fz v) (hq0 : q ≠ 0) (hq1 : q ≠ 1000001) (hk0 : k ≠ 0) (hk1 : k ≠ 1000001) (hkq : k ≠ q) :
    Ent s ⟨s.t, lookH [(0, o0), (1000001, o1), (q, ⟨O.b, O.ty, O.sz, pre ++ [[x, y, .sl false 3 dr]]⟩)]⟩ := by
  have same : ∀ (j : Nat) (o : Ob), s.h j = some o → j ≠ k → j ≠ k ∧ ∃ q, s.h j = some q ∧ o.b = q.b ∧ o.ty = q.ty ∧ o.sz = q.sz ∧ o.rows.length = q.rows.length ∧ ∀ (i : Nat) (r r' : List V), q.rows[i]? = some r → o.rows[i]? = some r' → r'.length = r.length ∧ ∀ (l : Nat) (v v' : V), r[l]? = some v → r'[l]? = some v' → Frk k b 3 n dr v v' :=
    fun j o ho hj => ⟨hj, o, ho, rfl, rfl, rfl, rfl, fun i r r' h1 h2 => by rw [h1] at h2; cases h2; exact ⟨rfl, fun l v v' h3 h4 => by rw [h3] at h4; cases h4; exact .inl rfl⟩⟩
  refine Ent.freeze (o := ⟨b, ty, 3, dr⟩) hk rfl rfl hn hz (fun j => .inl rfl) (fun j q' hj => ?_)
  simp only [lookH] at hj
  split at hj
  · rename_i e; cases hj; subst e; exact same _ _ h0 (fun e => hk0 e.symm)
  · split at hj
    · rename_i e; cases hj; subst e; exact same _ _ h1 (fun e => hk1 e.symm)
    · split at hj
      · rename_i e
        cases hj
        subst e
        refine ⟨fun e => hkq e.symm, O, hq, rfl, rfl, rfl, by rw [hO]; simp, fun i r r' e1 e3 => ?_⟩
        rw [hO] at e1
        simp only at e3
        rw [List.getElem?_append] at e1 e3
        by_cases hi : i < pre.length
        · rw [if_pos hi] at e1 e3
          rw [e1] at e3; cases e3
          exact ⟨rfl, fun l v v' h4 h5 => by rw [h4] at h5; cases h5; exact .inl rfl⟩
        · rw [if_neg hi] at e1 e3
          cases hp : i - pre.length with
          | zero =>
            rw [hp] at e1 e3
            simp only [List.getElem?_cons_zero, Option.some.injEq] at e1 e3
            subst e1 e3
            refine ⟨rfl, fun l v v' h4 h5 => ?_⟩
            match l with
            | 0 => simp at h4 h5; subst h4 h5; exact .inl rfl
            | 1 => simp at h4 h5; subst h4 h5; exact .inl rfl
            | 2 => simp at h4 h5; subst h4 h5; exact .inr ⟨rfl, rfl⟩
            | l + 3 => simp at h4
          | succ m => rw [hp] at e1; simp at e1
      · cases hj
def srevsT (d : SC) (l : List Rev) (j : Int) : List Rev × Int := if thereT d.b l.length j ≠ 0 then ([], thereT d.b l.length j) else (l.drop (j - d.b).toNat, 0)
def ac_srevs : AC := .seq (.region false [
    ⟨some 4, none, .mov (.c (.slice none 0 0))⟩,
    ⟨some 5, none, .mov (.c (.int .i64 0))⟩])
  (.seq (.seq (.region false [
    ⟨some 10, none, .mov (.t 0)⟩,
    ⟨some 11, none, .mov (.t 1)⟩,
    ⟨some 12, none, .call 65 [(.t 10), (.t 11)]⟩,
    ⟨some 6, none, .mov (.t 12)⟩])
  (.seq (.region false [
    ⟨some 13, none, .mov (.t 6)⟩,
    ⟨some 14, none, .bin .neq (.t 13) (.c (.int .i64 0))⟩])
  (.cond (.t 14)
    (.seq (.region false [
      ⟨some 15, none, .mov (.t 6)⟩,
      ⟨some 4, none, .mov (.c (.slice none 0 0))⟩,
      ⟨some 5, none, .mov (.t 15)⟩])
    (.ret))
    (.skip))))
  (.seq (.region false [
    ⟨some 7, none, .mov (.c (.slice none 0 0))⟩])
  (.seq (.seq (.region true [
    ⟨some 16, none, .mov (.t 0)⟩,
    ⟨some 17, none, .nilchk (.t 16)⟩,
    ⟨some 18, none, .faddr 5 (.t 17)⟩,
    ⟨some 19, none, .faddr 35 (.t 18)⟩,
    ⟨some 20, none, .load1 (.t 19)⟩,
    ⟨some 21, none, .mov (.t 1)⟩,
    ⟨some 22, none, .mov (.t 0)⟩,
    ⟨some 23, none, .nilchk (.t 22)⟩,
    ⟨some 24, none, .faddr 5 (.t 23)⟩,
    ⟨some 25, none, .faddr 1 (.t 24)⟩,
    ⟨some 26, none, .load1 (.t 25)⟩,
    ⟨some 27, none, .bin .sub (.t 21) (.t 26)⟩,
    ⟨some 28, none, .slsl 3 (.t 20) (some (.t 27)) none⟩,
    ⟨some 29, none, .len false (.t 28)⟩,
    ⟨some 30, none, .mov (.c (.int .i64 0))⟩])
  (.block 0 (.loop (.seq (.region false [
      ⟨some 31, none, .bin .lss (.t 30) (.t 29)⟩])
    (.seq (.cond (.t 31)
      (.skip)
      (.exit 0))
    (.seq (.block 1 (.seq (.region false [
      ⟨some 32, none, .iaddr 3 (.t 28) (.t 30)⟩,
      ⟨some 33, none, .loadn 3 (.t 32)⟩,
      ⟨some 9, none, .alloc 45 [(.int .i64 0), (.int .i64 0), (.slice none 0 0)]⟩,
      ⟨none, none, .store 3 (.t 9) (.t 33)⟩])
    (.seq (.region false [
      ⟨some 34, none, .faddr 2 (.t 9)⟩,
      ⟨some 35, none, .load1 (.t 34)⟩,
      ⟨some 36, none, .append 108 3 32 (.c (.slice none 0 0)) (.t 35)⟩,
      ⟨some 37, none, .faddr 2 (.t 9)⟩,
      ⟨none, none, .store 1 (.t 37) (.t 36)⟩])
    (.region false [
      ⟨some 38, none, .mov (.t 7)⟩,
      ⟨some 39, none, .loadn 3 (.t 9)⟩,
      ⟨some 40, none, .bslice 45 3 [(.t 39)]⟩,
      ⟨some 41, none, .append 45 3 40 (.t 38) (.t 40)⟩,
      ⟨some 7, none, .mov (.t 41)⟩]))))
    (.region false [
      ⟨some 42, none, .bin .add (.t 30) (.c (.int .i64 1))⟩,
      ⟨some 30, none, .mov (.t 42)⟩])))))))
  (.seq (.region false [
    ⟨some 43, none, .mov (.t 7)⟩,
    ⟨some 4, none, .mov (.t 43)⟩,
    ⟨some 5, none, .mov (.c (.int .i64 0))⟩])
  (.ret)))))
theorem ok_srevs : FnOk Try.prog 44 Try.f44 ac_srevs [.t 4, .t 5] 2 drawD := ⟨Try.func44, by decide +kernel, by kernel_rfl, by kernel_rfl, by decide +kernel⟩
structure YRv (l : List Rev) (a : Nat) where
  i : Nat
  k : Int
  ba : Option Nat
  m : Nat
  rows : List (List V)
  hi : a + i ≤ l.length
  hk : k = (i : Int)
  hm : m = i
  hr : rows = ((l.drop a).take i).map encRev
theorem vc_srevs (P : Prim) (hP : P = std) (T T1 : CallT) (hth : SThereC T) (bl : Nat) (d : SC) (ba : Option Nat) (l : List Rev) (n : Nat) (hn : n = l.length) (rows : List (List V)) (hrows : rows = l.map encRev) (hdl : ∀ r ∈ l, r.delta.length ≤ 1000000000) (mv : V) (hrm : rtB 0 mv = true) (hm : Fz mv ∧ V.one mv = true) (hw : noW mv = true) (hb : 0 ≤ d.b ∧ d.b ≤ 4294967295) (hn2 : n ≤ 1000) (j : Int) (x : List Rev) (y : Int) (hr : srevsT d l j = (x, y))
    (R : S → Prop) (hR : ∀ s s' bo m ro, m = x.length → ro = x.map encRev → Ent s s' → Ret [.t 4, .t 5] [.own 1000041 bo 3 m, .int .i64 y] s' → agreeH [(0, obSh bl (rowS d (.own 1000001 ba 3 n) mv)), (1000001, obV ba rows), (1000041, obV bo ro)] s' → R s) : awp P T T1 ac_srevs (S0 [.ptr 0 (some bl) 47 0 0, .int .i64 j] (lookH (S2 bl d ba n rows mv))) R (fun _ _ => False) R := by
  have hv2 := hm.2
  unfold srevsT at hr
  rw [← hn] at hr
  cbv
  repeat' (first
    | (refine And.intro (by first | assumption | decide) ?_; try cbv)
    | (intro β2; try cbv))
  refine hth 0 bl d 1000001 ba n mv j _ _ hb hn2 hm hw rfl hrm rfl fun q hq => ?_
  rw [← hq] at hr
  cbv
  repeat' (first
    | (refine And.intro (by first | assumption | decide) ?_; try cbv)
    | (intro β2; try cbv))
  refine br_cases (fun g => ?_) (fun g => ?_)
  · have g1 : q ≠ 0 := ne_t hP g
    rw [if_pos g1] at hr
    cases hr
    cbv
    repeat' (first
    | (refine And.intro (by first | assumption | decide) ?_; try cbv)
    | (intro β2; try cbv))
    exact hR _ _ none 0 [] rfl rfl (Ent.nil (i := 4) (k := 1000041) (ty := 45) (sz := 3) rfl rfl) rfl ⟨rfl, rfl, rfl, trivial⟩
  have g1 : q = 0 := ne_f hP g
  rw [if_neg (fun hh => hh g1)] at hr
  have hj : d.b ≤ j ∧ j ≤ d.b + (n : Int) := by
    rw [g1] at hq
    unfold thereT at hq
    split at hq
    · cases hq
    · split at hq
      · cases hq
      · omega
  have m1 : P.i64 (P.sub j d.b) := by rw [sub_eq hP]; exact i64I hP (by omega)
  have m2 : P.leP 0 (P.sub j d.b) := le0 hP (by rw [sub_eq hP]; omega)
  have m3 : P.leP (P.sub j d.b) (P.int n) := leI hP (by rw [sub_eq hP, int_eq hP]; omega)
  have m4 : P.leP (P.int n) (P.int n) := leI hP (Int.le_refl _)
  obtain ⟨a, ha⟩ : ∃ a : Nat, P.sub j d.b = (a : Int) := ⟨(j - d.b).toNat, by rw [sub_eq hP]; omega⟩
  have haj : (j - d.b).toNat = a := by rw [sub_eq hP] at ha; omega
  have hal : a ≤ l.length := by rw [sub_eq hP] at ha; omega
  rw [haj] at hr
  simp only [Prod.mk.injEq] at hr
  obtain ⟨hx, hy⟩ := hr
  obtain ⟨lo, hlo⟩ : ∃ lo, lo = P.sub j d.b := ⟨_, rfl⟩
  have ha2 : lo = (a : Int) := by rw [hlo]; exact ha
  cbv
  repeat' (first
    | (refine And.intro (by first | assumption | decide) ?_; try cbv)
    | (intro β2; try cbv))
  rw [← hlo]
  refine ⟨YRv l a, fun y => [(0, .ptr 0 (some bl) 47 0 0), (7, .own 1000041 y.ba 3 y.m), (28, .win 1000001 ba 3 lo (P.int n)), (29, .int .i64 (P.sub (P.int n) lo)), (30, .int .i64 y.k)],
    fun y => [(0, obSh bl (rowS d (.own 1000001 ba 3 n) mv)), (1000001, obV ba rows), (1000041, obV y.ba y.rows)], fun y => l.length - y.i,
    ⟨_, Ent.nil (i := 7) (k := 1000041) (ty := 45) (sz := 3) rfl rfl, ⟨0, 0, none, 0, [], by omega, rfl, rfl, by simp⟩, ⟨rfl, rfl, rfl, rfl, rfl, trivial⟩, ⟨rfl, rfl, rfl, trivial⟩⟩, ?_⟩
  rintro ⟨i, k, bo, m, ro, hi, hk, hmi, hro⟩
  cbv
  refine br_cases (fun g => ?_) (fun g => ?_)
  · have g2 : k < P.sub (P.int n) lo := lt_t hP g
    have g3 : k < (n : Int) - lo := by rw [sub_eq hP, int_eq hP] at g2; exact g2
    have hil : a + i < l.length := by ((try simp only [nc] at *); omega)
    obtain ⟨r, hrr⟩ : ∃ r, l[a + i]? = some r := ⟨_, List.getElem?_eq_getElem hil⟩
    have hra : P.add lo k = ((a + i : Nat) : Int) := by rw [add_eq hP, ha2, hk]; simp
    have hrow : P.row rows (P.nat (P.add lo k)) [.int .i64 r.who, .int .i64 r.seq, .sl false 3 (r.delta.map encPart)] := row_of hP hra (by rw [hrows, List.getElem?_map, hrr]; rfl)
    have hdr : (r.delta.map encPart).length ≤ 1000000000 := by have := hdl r (List.mem_of_getElem? hrr); simpa using this
    have hdz := encParts_fz r.delta
    have hxr : ((l.drop a).take (i + 1)).map encRev = ro ++ [[.int .i64 r.who, .int .i64 r.seq, .sl false 3 (r.delta.map encPart)]] := by
      have e : (l.drop a)[i]? = some r := by rw [List.getElem?_drop]; exact hrr
      rw [hro, List.take_add_one, e]
      simp [encRev, encParts]
    generalize r.delta.map encPart = dr at hrow hdr hdz hxr
    obtain ⟨w, hw⟩ : ∃ w, r.who = w := ⟨_, rfl⟩
    obtain ⟨sq, hsq⟩ : ∃ w, r.seq = w := ⟨_, rfl⟩
    rw [hw, hsq] at hrow hxr
    have q1 : P.leP 0 k := le0 hP (by rw [hk]; exact Int.natCast_nonneg _)
    have q2 : P.ltP k (P.sub (P.int n) lo) := ltI hP g2
    have q3 : P.i64 (P.add k 1) := by rw [add_eq hP]; exact i64I hP (by ((try simp only [nc] at *); omega))
    have q4 : P.add k 1 = ((i + 1 : Nat) : Int) := by rw [add_eq hP, hk]; simp
    have f1 : P.bytes (P.rlen dr) 32 := by subst hP; show (dr.length : Int) * 32 ≤ _; ((try simp only [nc] at *); omega)
    have f2 : dr.length = P.rlenN dr := by subst hP; rfl
    have f4 : P.neP ro m := neP_of hP _ _ (by rw [hro, hmi]; simp; omega)
    have f5 : ∀ r, P.bytes (P.add (P.int m) (P.rlen [r])) 40 := by intro r; subst hP; show ((m : Int) + 1) * 40 ≤ _; ((try simp only [nc] at *); omega)
    have f6 : ∀ r, P.neP [r] 1 := by intro r; subst hP; rfl
    have f7 : ∀ r, P.rapp ro [r] = ro ++ [r] := by intro r; subst hP; rfl
    have f8 : ∀ r : List V, P.nadd m (P.rlenN [r]) = i + 1 := by intro r; rw [← hmi]; subst hP; rfl
    cbv
    repeat' (first
    | (refine And.intro (by first | assumption | decide) ?_; try cbv)
    | (intro β2; try cbv))
    refine ⟨_, hrow, ?_⟩
    cbv
    repeat' (first
      | (refine And.intro (by first | assumption | decide | exact f6 _ | exact f5 _) ?_; try cbv)
      | (intro β3; try cbv))
    rw [f7, f8]
    refine ⟨_, Ent.frzRev (k := 1000036) (q := 1000041) rfl rfl rfl rfl rfl f2 hdz (by decide) (by decide) (by decide) (by decide) (by decide), ⟨i + 1, _, _, i + 1, _, by omega, q4, rfl, hxr.symm⟩, ⟨rfl, rfl, rfl, rfl, rfl, trivial⟩, ⟨rfl, rfl, rfl, trivial⟩, ?_⟩
    show l.length - (i + 1) < l.length - i; omega
  · have g2 : ¬ k < P.sub (P.int n) lo := lt_f hP g
    have g3 : ¬ k < (n : Int) - lo := by rw [sub_eq hP, int_eq hP] at g2; exact g2
    have hil : a + i = l.length := by ((try simp only [nc] at *); omega)
    cbv
    repeat' (first
    | (refine And.intro (by first | assumption | decide) ?_; try cbv)
    | (intro β2; try cbv))
    subst hy
    refine hR _ _ bo m ro ?_ ?_ (Ent.refl _) rfl ⟨rfl, rfl, rfl, trivial⟩
    · rw [hmi, ← hx]; simp; omega
    · rw [hro, ← hx, List.take_of_length_le (by simp; omega)]
theorem sp_srevs (bl : Nat) (d : SC) (ba : Option Nat) (l : List Rev) (hdl : ∀ r ∈ l, r.delta.length ≤ 1000000000) (hb : 0 ≤ d.b ∧ d.b ≤ 4294967295) (hn2 : l.length ≤ 1000) (j : Int) (mv : V) (hq : MQ mv) : Spec Try.prog 44 [.ptr 0 (some bl) 47 0 0, .int .i64 j] (lookH (S2 bl d ba l.length (l.map encRev) mv))
    fun x h' => ∃ L', (∃ bo, x = .tup [.own 1000041 bo 3 (srevsT d l j).1.length, .int .i64 (srevsT d l j).2] ∧ L' = [(0, obSh bl (rowS d (.own 1000001 ba 3 l.length) mv)), (1000001, obV ba (l.map encRev)), (1000041, obV bo ((srevsT d l j).1.map encRev))]) ∧ h' = lookH L' :=
  spec_meth dOk ok_srevs (L := S2 bl d ba l.length (l.map encRev) mv) (fun x L' => ∃ bo, x = .tup [.own 1000041 bo 3 (srevsT d l j).1.length, .int .i64 (srevsT d l j).2] ∧ L' = [(0, obSh bl (rowS d (.own 1000001 ba 3 l.length) mv)), (1000001, obV ba (l.map encRev)), (1000041, obV bo ((srevsT d l j).1.map encRev))]) fun R hR =>
    vc_srevs std rfl _ _ stherE bl d ba l _ rfl _ rfl hdl mv (rt0 hq.2) hq.1 hq.2 hb hn2 j _ _ rfl R fun s s' bo m ro hm hro he hr ha => by
      subst hm hro
      refine hR s s' _ _ he (resV_mono _ _ _ (fun x hx => by rw [hx]; rfl) hr) ha (.tup _ (by simp; exact ⟨.own _ _ _ _, .int _ _⟩)) (fun p hp => ?_) ⟨bo, rfl, rfl⟩
      simp only [List.mem_cons, List.not_mem_nil, or_false] at hp
      rcases hp with rfl | rfl | rfl
      · exact rowS_fz (.own _ _ _ _) hq.1.1 bl
      · exact encRevs_fz _
      · exact encRevs_fz _
end Go.Proofs.Ytobngncjflogcaa.AM

set_option linter.unusedVariables false
set_option linter.unusedSimpArgs false
namespace Go.Proofs.Ytobngncjflogcaa.AM
open Go Go.RowKit
set_option maxRecDepth 100000
set_option maxHeartbeats 2000000
theorem scan_body : ∀ (n : Nat) (s : List UInt8), s.length ≤ n → ∀ f ∈ (scanF s).1, f.body.length ≤ 4000
  | 0, s, h, f, hf => by
    rw [scan_step] at hf
    have : (getFr s).2.2 ≠ 0 := by
      intro hg
      have := getFr_ok hg
      omega
    rw [if_pos this] at hf
    cases hf
  | n + 1, s, h, f, hf => by
    rw [scan_step] at hf
    by_cases he : (getFr s).2.2 ≠ 0
    · rw [if_pos he] at hf; cases hf
    · have hg := getFr_ok (Decidable.of_not_not he)
      rw [if_neg he] at hf
      have hd : (s.drop (getFr s).2.1.toNat).length = s.length - (getFr s).2.1.toNat := List.length_drop ..
      rcases List.mem_cons.1 hf with rfl | hf
      · exact hg.2.2.2.2.2
      · exact scan_body n _ (by omega) f hf
theorem small_max {n : Nat} (h : n ≤ 4000) : n ≤ maxLen := by
  have : maxLen = 9223372036854775807 := by decide
  omega
end Go.Proofs.Ytobngncjflogcaa.AM

set_option linter.unusedVariables false
set_option linter.unusedSimpArgs false
namespace Go.Proofs.Ytobngncjflogcaa.AM
open Go Go.RowKit
set_option maxRecDepth 100000
set_option maxHeartbeats 2000000
def ReadPost (kk : Nat) (l : LogD) (e : Int) (x : V) (L' : List (Nat × Ob)) : Prop := (e = 0 ∧ ∃ ba, x = .tup [.agg (rowL l.gen l.base l.text l.first l.table (.own kk ba 3 l.revs.length) l.whole l.good), .int .i64 e] ∧ L' = [(kk, obV ba (l.revs.map encRev))]) ∨ (e ≠ 0 ∧ x = .tup [.agg (rowL l.gen l.base l.text l.first l.table .nilsl l.whole l.good), .int .i64 e] ∧ L' = []) ∨ (e ≠ 0 ∧ ∃ ba, x = .tup [.agg (rowL l.gen l.base l.text l.first l.table (.own kk ba 3 l.revs.length) l.whole l.good), .int .i64 e] ∧ L' = [])
theorem rowL_fz1 {gn b : Int} {tx : List UInt8} {fs tb : Nat → Int} {v : V} {wh : Bool} {gd e : Int} (hv : V.fz2 v = true) : Fz (.tup [.agg (rowL gn b tx fs tb v wh gd), .int .i64 e]) := by
  refine .tup _ (fun x hx => ?_)
  simp only [List.mem_cons, List.not_mem_nil, or_false] at hx
  rcases hx with rfl | rfl
  · refine .agg _ (fz_all2 ?_)
    have e : ∀ l1 l2 : List V, l1.all V.fz2 = true → l2.all V.fz2 = true → (l1 ++ v :: l2).all V.fz2 = true := fun l1 l2 a b => by rw [List.all_append, List.all_cons, a, hv, b]; rfl
    exact e ((rowL gn b tx fs tb v wh gd).take 35) [.bool wh, .int .i64 gd] rfl rfl
  · exact .int _ _
theorem retLog_own {rv : List RV} {kk : Nat} {l : LogD} {e : Int} {R : S → Prop} (hR : ∀ (s s' : S) (v : V) (L' : List (Nat × Ob)), Ent s s' → resV s' rv (fun x => oneV x = v) → agreeH L' s' → Fz v → (∀ p ∈ L', p.2.Fz) → ReadPost kk l e v L' → R s) : RetLog rv kk l e R := by
  intro s s' gn b gd tx fs tb wh v rows x he hret hv h
  obtain ⟨rfl, rfl, rfl, rfl, h5, h6, rfl, rfl, rfl⟩ := h
  have hret2 : resV s' rv (fun y => oneV y = .tup [.agg (rowL l.gen l.base l.text l.first l.table v l.whole l.good), .int .i64 x]) := resV_mono _ _ _ (fun y hy => by
    subst hy
    rw [h5 0 (by decide), h5 1 (by decide), h5 2 (by decide), h5 3 (by decide), h5 4 (by decide), h5 5 (by decide), h5 6 (by decide), h5 7 (by decide), h5 8 (by decide), h5 9 (by decide), h5 10 (by decide), h5 11 (by decide), h5 12 (by decide), h5 13 (by decide), h5 14 (by decide), h5 15 (by decide), h6 0 (by decide), h6 1 (by decide), h6 2 (by decide), h6 3 (by decide), h6 4 (by decide), h6 5 (by decide), h6 6 (by decide), h6 7 (by decide), h6 8 (by decide), h6 9 (by decide), h6 10 (by decide), h6 11 (by decide), h6 12 (by decide), h6 13 (by decide), h6 14 (by decide), h6 15 (by decide)]
    rfl) hret
  rcases hv with ⟨rfl, h0, hx⟩ | ⟨β, n, rfl, h1, h2⟩
  · exact hR s s' _ [] he hret2 trivial (rowL_fz1 rfl) (fun p hp => by cases hp) (.inr (.inl ⟨hx, rfl, rfl⟩))
  · have hn : n = l.revs.length := by rw [h2]; simp
    subst hn
    by_cases hx : x = 0
    · exact hR s s' _ [(kk, obV β (l.revs.map encRev))] he hret2 ⟨h1, trivial⟩ (rowL_fz1 rfl) (fun p hp => by rw [List.mem_singleton.1 hp]; exact encRevs_fz _) (.inl ⟨hx, β, rfl, rfl⟩)
    · exact hR s s' _ [] he hret2 trivial (rowL_fz1 rfl) (fun p hp => by cases hp) (.inr (.inr ⟨hx, β, rfl, rfl⟩))
theorem sp_hreadO (s : List UInt8) (hs : s.length ≤ 1048576) : Spec Try.prog 34 [.str s] (lookH []) fun x h' => ∃ L', ReadPost 1000999 (readL (scanF s).1).1 (readL (scanF s).1).2 x L' ∧ h' = lookH L' :=
  spec_meth dOk ok_hread (L := []) _ fun R hR => vc_hread std rfl _ _ s (scanF s).1 (scan_body _ s (Nat.le_refl _)) (by have := scan_len _ s (Nat.le_refl _); omega) _ rfl (scanF s).2 (ansSame (sp_scan s hs) rfl rfl)
    (fun x => tkN x 0) (fun x => tkN x 1) (fun x => (tkS x 18).1) (fun x j => tkN x (j + 2)) headOk (fun x hx => ansSame (sp_head x (small_max hx)) rfl rfl) (fun x => tkN_bd x 1)
    (fun x => (revB x).who) (fun x => (revB x).seq) (fun x => (revB x).delta.map encPart) revOk (fun x hx => ansSame (sp_hrv x (small_max hx)) rfl rfl) (fun x => ⟨rfl, rfl, rfl, rfl⟩)
    nextF (nxC_of fun gn b tx fs tb l wh gd size r hb hp => sp_hnextT gn b tx fs tb l wh gd size r hb hp) (fun _ _ _ _ _ => rfl) (fun x now => (doF (revB x).delta now).1) (fun x now => (doF (revB x).delta now).2)
    (fun x now => ansLs (sp_do (revB x).delta (readF_ok _).1 now) rfl rfl) (fun _ _ => rfl) addC (readL (scanF s).1).1 (readL (scanF s).1).2 rfl R (retLog_own hR)
end Go.Proofs.Ytobngncjflogcaa.AM

set_option linter.unusedVariables false
set_option linter.unusedSimpArgs false
namespace Go.Proofs.Ytobngncjflogcaa.AM
open Go
set_option maxRecDepth 100000
set_option maxHeartbeats 2000000
/-- a value, and the same under another name -/
inductive Rk (k k' : Nat) : V → V → Prop
  | same (v) : Rk k k' v v
  | own (b sz n) : Rk k k' (.own k b sz n) (.own k' b sz n)
theorem Rk.rel {k k' : Nat} {F B : Nat → Prop} {w : World} {v v' : V} {u : Value} (h : Rk k k' v v') (hr : Rel F B w v u) : Rel F B w v' u := by
  cases h with
  | same => exact hr
  | own b sz n =>
    cases hr with
    | ownnil => exact .ownnil _ _
    | own _ b _ _ cap c e fr h hs hm hn => exact .own _ b _ _ cap c e fr h hs hm hn
theorem Ent.move {s : S} {k k' q : Nat} {o O : Ob} {rows' : List (List V)} (hk : s.h k = some o) (hk' : s.h k' = none) (hq : s.h q = some O) (hqk : q ≠ k)
    (hl : rows'.length = O.rows.length) (hr : ∀ (i : Nat) (r r' : List V), O.rows[i]? = some r → rows'[i]? = some r' → r'.length = r.length ∧ ∀ (l : Nat) (v v' : V), r[l]? = some v → r'[l]? = some v' → Rk k k' v v') :
    Ent s ⟨s.t, Hp.put (Hp.put (Hp.del s.h k) k' o) q ⟨O.b, O.ty, O.sz, rows'⟩⟩ := by
  intro C n0 a w hC hs0
  obtain ⟨F, hs, h2⟩ := hs0.ex
  have hqk' : q ≠ k' := fun e => by rw [e, hk'] at hq; cases hq
  have hkk' : k ≠ k' := fun e => by rw [e, hk'] at hk; cases hk
  have look : ∀ j p, Hp.put (Hp.put (Hp.del s.h k) k' o) q ⟨O.b, O.ty, O.sz, rows'⟩ j = some p →
      (j = q ∧ p = ⟨O.b, O.ty, O.sz, rows'⟩) ∨ (j = k' ∧ p = o) ∨ (j ≠ q ∧ j ≠ k' ∧ j ≠ k ∧ s.h j = some p) := by
    intro j p hj
    simp only [Hp.put, Hp.del] at hj
    by_cases h1 : j = q
    · rw [if_pos h1] at hj; cases hj; exact .inl ⟨h1, rfl⟩
    · rw [if_neg h1] at hj
      by_cases h3 : j = k'
      · rw [if_pos h3] at hj; cases hj; exact .inr (.inl ⟨h3, rfl⟩)
      · rw [if_neg h3] at hj
        by_cases h4 : j = k
        · rw [if_pos h4] at hj; cases hj
        · rw [if_neg h4] at hj; exact .inr (.inr ⟨h1, h3, h4, hj⟩)
  -- the old name
  have old : ∀ j p, Hp.put (Hp.put (Hp.del s.h k) k' o) q ⟨O.b, O.ty, O.sz, rows'⟩ j = some p → ∃ p0, s.h (if j = k' then k else j) = some p0 ∧ p0.b = p.b := by
    intro j p hj
    rcases look j p hj with ⟨rfl, rfl⟩ | ⟨rfl, rfl⟩ | ⟨_, h3, _, h4⟩
    · rw [if_neg hqk']; exact ⟨O, hq, rfl⟩
    · rw [if_pos rfl]; exact ⟨_, hk, rfl⟩
    · rw [if_neg h3]; exact ⟨p, h4, rfl⟩
  refine ⟨⟨F, ⟨fun j p hj => ?_, fun j j' p p' b1 hj hj' hb1 hb2 => ?_, fun j p b1 hj hb1 => ?_, hs.old, hs.new, hs.lt, hs.ev⟩, h2⟩, hs0.df, hs0.sz⟩
  · rcases look j p hj with ⟨rfl, rfl⟩ | ⟨rfl, rfl⟩ | ⟨_, _, _, h4⟩
    · have hO := hs.ob j O hq
      unfold ObSat at hO ⊢
      simp only
      cases hb : O.b with
      | none =>
        rw [hb] at hO
        simp only at hO ⊢
        rw [hO] at hl
        exact List.eq_nil_of_length_eq_zero hl
      | some b1 =>
        rw [hb] at hO
        obtain ⟨c, cap, g1, g2, g3, g4, g5, g6⟩ := hO
        refine ⟨c, cap, g1, g2, g3, by omega, fun r' hr' => ?_, fun i l r' v' hi hl' => ?_⟩
        · obtain ⟨i, hi⟩ := List.mem_iff_getElem?.1 hr'
          have hil := (List.getElem?_eq_some_iff.1 hi).1
          have hir : O.rows[i]? = some (O.rows[i]'(by omega)) := List.getElem?_eq_getElem (by omega)
          rw [(hr i _ r' hir hi).1]
          exact g5 _ (List.mem_of_getElem? hir)
        · have hil := (List.getElem?_eq_some_iff.1 hi).1
          have hir : O.rows[i]? = some (O.rows[i]'(by omega)) := List.getElem?_eq_getElem (by omega)
          obtain ⟨f1, f2⟩ := hr i _ r' hir hi
          have hll := (List.getElem?_eq_some_iff.1 hl').1
          have hlr : (O.rows[i]'(by omega))[l]? = some ((O.rows[i]'(by omega))[l]'(by omega)) := List.getElem?_eq_getElem (by omega)
          obtain ⟨u, k1, k2, k3⟩ := g6 i l _ _ hir hlr
          exact ⟨u, k1, k2, (f2 l _ v' hlr hl').rel k3⟩
    · exact hs.ob k _ hk
    · exact hs.ob j p h4
  · obtain ⟨p0, e1, e2⟩ := old j p hj
    obtain ⟨p0', e1', e2'⟩ := old j' p' hj'
    have := hs.inj _ _ p0 p0' b1 e1 e1' (by rw [e2]; exact hb1) (by rw [e2']; exact hb2)
    -- the names stand for different objects
    rcases look j p hj with ⟨rfl, rfl⟩ | ⟨rfl, rfl⟩ | ⟨h5, h6, h7, h4⟩ <;> rcases look j' p' hj' with ⟨rfl, rfl⟩ | ⟨rfl, rfl⟩ | ⟨h5', h6', h7', h4'⟩
    · rfl
    · rw [if_neg hqk', if_pos rfl] at this; exact absurd this hqk
    · rw [if_neg hqk', if_neg h6'] at this; exact absurd this.symm h5'
    · rw [if_pos rfl, if_neg hqk'] at this; exact absurd this.symm hqk
    · rfl
    · rw [if_pos rfl, if_neg h6'] at this; exact absurd this.symm h7'
    · rw [if_neg h6, if_neg hqk'] at this; exact absurd this h5
    · rw [if_neg h6, if_pos rfl] at this; exact absurd this h7
    · rw [if_neg h6, if_neg h6'] at this; exact this
  · obtain ⟨p0, e1, e2⟩ := old j p hj
    exact hs.live _ p0 b1 e1 (by rw [e2]; exact hb1)
end Go.Proofs.Ytobngncjflogcaa.AM
