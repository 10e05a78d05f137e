/-
  May a revision come behind a log: hot.Next, the document's Next, and the law HotNexts.
-/
import Derived.Test.YtlomnjlfmbolkaaMRevs
import Derived.Test.YtlomnjlfmbolkaaMInts
set_option linter.unusedVariables false
set_option linter.unusedSimpArgs false
namespace Go.Proofs.Ytlomnjlfmbolkaa.AM
open Go
set_option maxRecDepth 100000
set_option maxHeartbeats 2000000
def logV (gn b : Int) (tx : List UInt8) (fs tb : Nat → Int) (rv : List (List V)) (wh : Bool) (gd : Int) : V := .agg [.int .i64 gn, .int .i64 b, .str tx, .int .i64 (fs 0), .int .i64 (fs 1), .int .i64 (fs 2), .int .i64 (fs 3), .int .i64 (fs 4), .int .i64 (fs 5), .int .i64 (fs 6), .int .i64 (fs 7), .int .i64 (fs 8), .int .i64 (fs 9), .int .i64 (fs 10), .int .i64 (fs 11), .int .i64 (fs 12), .int .i64 (fs 13), .int .i64 (fs 14), .int .i64 (fs 15), .int .i64 (tb 0), .int .i64 (tb 1), .int .i64 (tb 2), .int .i64 (tb 3), .int .i64 (tb 4), .int .i64 (tb 5), .int .i64 (tb 6), .int .i64 (tb 7), .int .i64 (tb 8), .int .i64 (tb 9), .int .i64 (tb 10), .int .i64 (tb 11), .int .i64 (tb 12), .int .i64 (tb 13), .int .i64 (tb 14), .int .i64 (tb 15), .sl false 3 rv, .bool wh, .int .i64 gd]
def nextF (b : Int) (tb : Nat → Int) (n : Nat) (size : Int) (r : Rev) : Int := if oneF r ≠ 0 then oneF r else if r.seq ≤ tb (2 * r.who.toNat) then 10 else if 64 ≤ (n : Int) ∨ 2147483647 ≤ b + n then 11 else fitsF r.delta size
theorem one_who {r : Rev} (h : oneF r = 0) : 0 ≤ r.who ∧ r.who ≤ 7 ∧ 0 ≤ r.seq ∧ r.seq ≤ 2147483647 ∧ checkF r.delta = 0 := by
  unfold oneF at h
  split at h
  · contradiction
  · omega
def tabC (l : List Int) (j : Nat) : Int := if j / 2 * 2 + 1 < l.length then l.getD j 0 else 0
def tabV (f : Nat → Int) : V := .agg [.int .i64 (f 0), .int .i64 (f 1), .int .i64 (f 2), .int .i64 (f 3), .int .i64 (f 4), .int .i64 (f 5), .int .i64 (f 6), .int .i64 (f 7), .int .i64 (f 8), .int .i64 (f 9), .int .i64 (f 10), .int .i64 (f 11), .int .i64 (f 12), .int .i64 (f 13), .int .i64 (f 14), .int .i64 (f 15)]
def ac_tab : AC := .seq (.region false [
    ⟨some 2, none, .alloc 77 [(.int .i64 0), (.int .i64 0), (.int .i64 0), (.int .i64 0), (.int .i64 0), (.int .i64 0), (.int .i64 0), (.int .i64 0), (.int .i64 0), (.int .i64 0), (.int .i64 0), (.int .i64 0), (.int .i64 0), (.int .i64 0), (.int .i64 0), (.int .i64 0)]⟩])
  (.seq (.seq (.region false [
    ⟨some 4, none, .mov (.c (.int .i64 0))⟩])
  (.block 0 (.loop (.seq (.region false [
      ⟨some 5, none, .bin .lss (.t 4) (.c (.int .i64 8))⟩])
    (.seq (.cond (.t 5)
      (.skip)
      (.exit 0))
    (.seq (.block 1 (.seq (.region false [
      ⟨some 6, none, .mov (.t 4)⟩,
      ⟨some 3, none, .mov (.t 6)⟩])
    (.seq (.region false [
      ⟨some 7, none, .mov (.t 3)⟩,
      ⟨some 8, none, .bin .mul (.c (.int .i64 2)) (.t 7)⟩,
      ⟨some 9, none, .bin .add (.t 8) (.c (.int .i64 1))⟩,
      ⟨some 10, none, .mov (.t 0)⟩,
      ⟨some 11, none, .len false (.t 10)⟩,
      ⟨some 12, none, .bin .lss (.t 9) (.t 11)⟩])
    (.cond (.t 12)
      (.region true [
        ⟨some 13, none, .mov (.t 3)⟩,
        ⟨some 14, none, .mov (.t 0)⟩,
        ⟨some 15, none, .mov (.t 3)⟩,
        ⟨some 16, none, .bin .mul (.c (.int .i64 2)) (.t 15)⟩,
        ⟨some 17, none, .iaddr 1 (.t 14) (.t 16)⟩,
        ⟨some 18, none, .load1 (.t 17)⟩,
        ⟨some 19, none, .mov (.t 0)⟩,
        ⟨some 20, none, .mov (.t 3)⟩,
        ⟨some 21, none, .bin .mul (.c (.int .i64 2)) (.t 20)⟩,
        ⟨some 22, none, .bin .add (.t 21) (.c (.int .i64 1))⟩,
        ⟨some 23, none, .iaddr 1 (.t 19) (.t 22)⟩,
        ⟨some 24, none, .load1 (.t 23)⟩,
        ⟨some 25, none, .build [(.int .i64 0), (.int .i64 0)] [(0, 1, (.t 18)), (1, 1, (.t 24))]⟩,
        ⟨some 26, none, .iarr 8 2 (.t 2) (.t 13)⟩,
        ⟨none, none, .store 2 (.t 26) (.t 25)⟩])
      (.skip)))))
    (.region false [
      ⟨some 27, none, .bin .add (.t 4) (.c (.int .i64 1))⟩,
      ⟨some 4, none, .mov (.t 27)⟩])))))))
  (.seq (.region false [
    ⟨some 28, none, .loadn 16 (.t 2)⟩,
    ⟨none, none, .store 16 (.t 2) (.t 28)⟩])
  (.ret)))
theorem ok_tab : FnOk Try.prog 41 Try.f41 ac_tab [.cn 2 16] 1 drawD := ⟨Try.func41, by decide +kernel, by kernel_rfl, by kernel_rfl, by decide +kernel⟩
structure YTb (l : List Int) where
  i : Nat
  k : Int
  f : Nat → Int
  hk : k = (i : Int)
  hi : i ≤ 8
  hf : ∀ j, j < 16 → f j = if j < 2 * i then tabC l j else 0
theorem vc_tab (P : Prim) (hP : P = std) (T T1 : CallT) (l : List Int) (rows : List (List V)) (hrows : rows = iRows l) (t : Nat → Int) (ht : ∀ j, j < 16 → t j = tabC l j)
    (R : S → Prop) (hR : ∀ s s' (f : Nat → Int), (∀ j, j < 16 → f j = t j) → Ent s s' → Ret [.cn 2 16] [.agg [.int .i64 (f 0), .int .i64 (f 1), .int .i64 (f 2), .int .i64 (f 3), .int .i64 (f 4), .int .i64 (f 5), .int .i64 (f 6), .int .i64 (f 7), .int .i64 (f 8), .int .i64 (f 9), .int .i64 (f 10), .int .i64 (f 11), .int .i64 (f 12), .int .i64 (f 13), .int .i64 (f 14), .int .i64 (f 15)]] s' → R s) : awp P T T1 ac_tab (S0 [.sl true 1 rows] Hp.emp) R (fun _ _ => False) R := by
  have hl1 : P.rlen rows = (l.length : Int) := by rw [rlen_eq hP, hrows]; simp [iRows]
  have hN0 : P.nat 0 = 0 := by subst hP; rfl
  have hN1 : P.nat 1 = 1 := by subst hP; rfl
  have hN2 : P.nat 2 = 2 := by subst hP; rfl
  have hN3 : P.nat 3 = 3 := by subst hP; rfl
  have hN4 : P.nat 4 = 4 := by subst hP; rfl
  have hN5 : P.nat 5 = 5 := by subst hP; rfl
  have hN6 : P.nat 6 = 6 := by subst hP; rfl
  have hN7 : P.nat 7 = 7 := by subst hP; rfl
  have hnl : ∀ i : Nat, i < 8 → P.leP 0 (i : Int) ∧ P.ltP (i : Int) 8 := fun i hi => ⟨le0 hP (by omega), ltI hP (by omega)⟩
  cbv
  intro β2
  cbv
  refine ⟨YTb l, fun y => [(0, .sl true 1 rows), (2, .ptr 2 (some β2) 16 0 0), (4, .int .i64 y.k)], fun y => [(2, ⟨some β2, 77, 16, [[.int .i64 (y.f 0), .int .i64 (y.f 1), .int .i64 (y.f 2), .int .i64 (y.f 3), .int .i64 (y.f 4), .int .i64 (y.f 5), .int .i64 (y.f 6), .int .i64 (y.f 7), .int .i64 (y.f 8), .int .i64 (y.f 9), .int .i64 (y.f 10), .int .i64 (y.f 11), .int .i64 (y.f 12), .int .i64 (y.f 13), .int .i64 (y.f 14), .int .i64 (y.f 15)]]⟩)], fun y => 8 - y.i,
    ⟨_, Ent.refl _, ⟨0, 0, fun _ => 0, rfl, by omega, fun j _ => by simp⟩, ⟨rfl, rfl, rfl, trivial⟩, ⟨rfl, trivial⟩⟩, ?_⟩
  rintro ⟨i, k, f, hk, hi, hf⟩
  cbv
  refine br_cases (fun h => ?_) (fun h => ?_)
  · have h5 : k < 8 := lt_t hP h
    have hi8 : i < 8 := by ((try simp only [nc] at *); omega)
    have m1 : P.i64 (P.mul 2 k) := by subst hP; exact ⟨by show _ ≤ 2 * k; ((try simp only [nc] at *); omega), by show 2 * k ≤ _; ((try simp only [nc] at *); omega)⟩
    have em : P.mul 2 k = ((2 * i : Nat) : Int) := by subst hP; show 2 * k = _; ((try simp only [nc] at *); omega)
    have ea : P.add (P.mul 2 k) 1 = ((2 * i + 1 : Nat) : Int) := by rw [add_eq hP, em]; ((try simp only [nc] at *); omega)
    have m2 : P.i64 (P.add (P.mul 2 k) 1) := by rw [ea]; exact i64I hP (by omega)
    have m3 : P.i64 (P.add k 1) := by rw [add_eq hP]; exact i64I hP (by ((try simp only [nc] at *); omega))
    have e1 : P.add k 1 = ((i + 1 : Nat) : Int) := by rw [add_eq hP, hk]; ((try simp only [nc] at *); omega)
    have q1 : P.leP 0 k := (by have := (hnl i hi8).1; rw [← hk] at this; exact this)
    have q2 : P.ltP k 8 := (by have := (hnl i hi8).2; rw [← hk] at this; exact this)
    have q3 : P.leP 0 (P.mul 2 k) := le0 hP (by rw [em]; omega)
    have q4 : P.leP 0 (P.add (P.mul 2 k) 1) := le0 hP (by rw [ea]; omega)
    cbv
    refine ⟨m1, m2, ?_⟩
    refine br_cases (fun h => ?_) (fun h => ?_)
    · have h6 : P.add (P.mul 2 k) 1 < P.rlen rows := lt_t hP h
      rw [ea, hl1] at h6
      have h6' : 2 * i + 1 < l.length := by ((try simp only [nc] at *); omega)
      have r1 : P.row rows (P.nat (P.mul 2 k)) [.int .i64 (l.getD (2 * i) 0)] := row_of hP em (by rw [hrows, iRows, List.getElem?_map, List.getElem?_eq_getElem (by omega)]; simp [List.getD_eq_getElem?_getD, List.getElem?_eq_getElem (show 2 * i < l.length by omega)])
      have r2 : P.row rows (P.nat (P.add (P.mul 2 k) 1)) [.int .i64 (l.getD (2 * i + 1) 0)] := row_of hP ea (by rw [hrows, iRows, List.getElem?_map, List.getElem?_eq_getElem h6']; simp [List.getD_eq_getElem?_getD, List.getElem?_eq_getElem h6'])
      have fin : ∀ f' : Nat → Int, f' (2 * i) = l.getD (2 * i) 0 → f' (2 * i + 1) = l.getD (2 * i + 1) 0 → (∀ j, j ≠ 2 * i → j ≠ 2 * i + 1 → f' j = f j) → ∀ j, j < 16 → f' j = if j < 2 * (i + 1) then tabC l j else 0 := by
        intro f' a b c j hj
        by_cases j1 : j = 2 * i
        · subst j1; rw [a, if_pos (by omega)]; unfold tabC; rw [if_pos (by omega)]
        · by_cases j2 : j = 2 * i + 1
          · subst j2; rw [b, if_pos (by omega)]; unfold tabC; rw [if_pos (by omega)]
          · rw [c j j1 j2, hf j hj]
            by_cases j3 : j < 2 * i
            · rw [if_pos j3, if_pos (by omega)]
            · rw [if_neg j3, if_neg (by omega)]
      generalize ha : l.getD (2 * i) 0 = a at r1 fin
      generalize hb : l.getD (2 * i + 1) 0 = b at r2 fin
      cbv
      refine ⟨m1, q3, _, r1, ?_⟩
      cbv
      refine ⟨m1, m2, q4, _, r2, ?_⟩
      cbv
      have hc : i = 0 ∨ i = 1 ∨ i = 2 ∨ i = 3 ∨ i = 4 ∨ i = 5 ∨ i = 6 ∨ i = 7 := by omega
      clear r1 r2 ha hb m1 m2 em ea q3 q4 hl1 h5 h6 h6' hi8 hR ht
      rcases hc with rfl | rfl | rfl | rfl | rfl | rfl | rfl | rfl
      · refine ⟨q1, q2, 0, by rw [hk]; exact hN0, ?_⟩
        cbv
        refine ⟨m3, ?_⟩
        exact ⟨_, Ent.refl _, ⟨0 + 1, _, fun j => if j = 0 then a else if j = 1 then b else f j, e1, by decide, fin _ rfl rfl (fun j h1 h2 => (if_neg h1).trans (if_neg h2))⟩, ⟨rfl, rfl, rfl, trivial⟩, ⟨rfl, trivial⟩, by show 8 - (0 + 1) < 8 - 0; decide⟩
      · refine ⟨q1, q2, 1, by rw [hk]; exact hN1, ?_⟩
        cbv
        refine ⟨m3, ?_⟩
        exact ⟨_, Ent.refl _, ⟨1 + 1, _, fun j => if j = 2 then a else if j = 3 then b else f j, e1, by decide, fin _ rfl rfl (fun j h1 h2 => (if_neg h1).trans (if_neg h2))⟩, ⟨rfl, rfl, rfl, trivial⟩, ⟨rfl, trivial⟩, by show 8 - (1 + 1) < 8 - 1; decide⟩
      · refine ⟨q1, q2, 2, by rw [hk]; exact hN2, ?_⟩
        cbv
        refine ⟨m3, ?_⟩
        exact ⟨_, Ent.refl _, ⟨2 + 1, _, fun j => if j = 4 then a else if j = 5 then b else f j, e1, by decide, fin _ rfl rfl (fun j h1 h2 => (if_neg h1).trans (if_neg h2))⟩, ⟨rfl, rfl, rfl, trivial⟩, ⟨rfl, trivial⟩, by show 8 - (2 + 1) < 8 - 2; decide⟩
      · refine ⟨q1, q2, 3, by rw [hk]; exact hN3, ?_⟩
        cbv
        refine ⟨m3, ?_⟩
        exact ⟨_, Ent.refl _, ⟨3 + 1, _, fun j => if j = 6 then a else if j = 7 then b else f j, e1, by decide, fin _ rfl rfl (fun j h1 h2 => (if_neg h1).trans (if_neg h2))⟩, ⟨rfl, rfl, rfl, trivial⟩, ⟨rfl, trivial⟩, by show 8 - (3 + 1) < 8 - 3; decide⟩
      · refine ⟨q1, q2, 4, by rw [hk]; exact hN4, ?_⟩
        cbv
        refine ⟨m3, ?_⟩
        exact ⟨_, Ent.refl _, ⟨4 + 1, _, fun j => if j = 8 then a else if j = 9 then b else f j, e1, by decide, fin _ rfl rfl (fun j h1 h2 => (if_neg h1).trans (if_neg h2))⟩, ⟨rfl, rfl, rfl, trivial⟩, ⟨rfl, trivial⟩, by show 8 - (4 + 1) < 8 - 4; decide⟩
      · refine ⟨q1, q2, 5, by rw [hk]; exact hN5, ?_⟩
        cbv
        refine ⟨m3, ?_⟩
        exact ⟨_, Ent.refl _, ⟨5 + 1, _, fun j => if j = 10 then a else if j = 11 then b else f j, e1, by decide, fin _ rfl rfl (fun j h1 h2 => (if_neg h1).trans (if_neg h2))⟩, ⟨rfl, rfl, rfl, trivial⟩, ⟨rfl, trivial⟩, by show 8 - (5 + 1) < 8 - 5; decide⟩
      · refine ⟨q1, q2, 6, by rw [hk]; exact hN6, ?_⟩
        cbv
        refine ⟨m3, ?_⟩
        exact ⟨_, Ent.refl _, ⟨6 + 1, _, fun j => if j = 12 then a else if j = 13 then b else f j, e1, by decide, fin _ rfl rfl (fun j h1 h2 => (if_neg h1).trans (if_neg h2))⟩, ⟨rfl, rfl, rfl, trivial⟩, ⟨rfl, trivial⟩, by show 8 - (6 + 1) < 8 - 6; decide⟩
      · refine ⟨q1, q2, 7, by rw [hk]; exact hN7, ?_⟩
        cbv
        refine ⟨m3, ?_⟩
        exact ⟨_, Ent.refl _, ⟨7 + 1, _, fun j => if j = 14 then a else if j = 15 then b else f j, e1, by decide, fin _ rfl rfl (fun j h1 h2 => (if_neg h1).trans (if_neg h2))⟩, ⟨rfl, rfl, rfl, trivial⟩, ⟨rfl, trivial⟩, by show 8 - (7 + 1) < 8 - 7; decide⟩
    · have h6 : ¬ P.add (P.mul 2 k) 1 < P.rlen rows := lt_f hP h
      rw [ea, hl1] at h6
      cbv
      refine ⟨m3, ?_⟩
      refine ⟨_, Ent.refl _, ⟨i + 1, _, f, e1, hi8, fun j hj => ?_⟩, ⟨rfl, rfl, rfl, trivial⟩, ⟨rfl, trivial⟩, by show 8 - (i + 1) < 8 - i; omega⟩
      rw [hf j hj]
      by_cases j1 : j < 2 * i
      · rw [if_pos j1, if_pos (by omega)]
      · rw [if_neg j1]
        split
        · unfold tabC; rw [if_neg (by ((try simp only [nc] at *); omega))]
        · rfl
  · have h5 : ¬ k < 8 := lt_f hP h
    have hi8 : i = 8 := by ((try simp only [nc] at *); omega)
    cbv
    refine hR _ _ f (fun j hj => ?_) (Ent.refl _) ⟨rfl, rfl, Nat.zero_lt_succ 0, Nat.le_refl 16, rfl⟩
    rw [hf j hj, if_pos (by omega), ht j hj]
theorem sp_tab (l : List Int) : Spec Try.prog 41 [.sl true 1 (iRows l)] Hp.emp (Is (tabV (tabC l))) :=
  spec_pure dOk ok_tab [tabV (tabC l)] (.agg _ (by simp; exact ⟨.int _ _, .int _ _, .int _ _, .int _ _, .int _ _, .int _ _, .int _ _, .int _ _, .int _ _, .int _ _, .int _ _, .int _ _, .int _ _, .int _ _, .int _ _, .int _ _⟩)) fun R hR => vc_tab std rfl _ _ l _ rfl (tabC l) (fun _ _ => rfl) R fun s s' f h he hr => by
    refine hR s s' he ?_
    unfold tabV
    rw [← h 0 (by decide), ← h 1 (by decide), ← h 2 (by decide), ← h 3 (by decide), ← h 4 (by decide), ← h 5 (by decide), ← h 6 (by decide), ← h 7 (by decide), ← h 8 (by decide), ← h 9 (by decide), ← h 10 (by decide), ← h 11 (by decide), ← h 12 (by decide), ← h 13 (by decide), ← h 14 (by decide), ← h 15 (by decide)]
    exact hr
/-! the law -/
end Go.Proofs.Ytlomnjlfmbolkaa.AM
