/-
  Slices of integers: slices.Index, Contains, Equal.
-/
import Derived.Test.YtobngncjflogcaaMU
set_option linter.unusedVariables false
set_option linter.unusedSimpArgs false
namespace Go.Proofs.Ytobngncjflogcaa.AM
open Go
set_option maxRecDepth 100000
set_option maxHeartbeats 2000000
def iRows (l : List Int) : List (List V) := l.map fun n => [.int .i64 n]
theorem iRows_sz (l : List Int) : ∀ r ∈ iRows l, r.length = 1 := by
  intro r hr; simp only [iRows, List.mem_map] at hr; obtain ⟨a, _, rfl⟩ := hr; rfl
theorem iRows_fz (l : List Int) : ∀ r ∈ iRows l, ∀ v ∈ r, Fz v := by
  intro r hr; simp only [iRows, List.mem_map] at hr; obtain ⟨a, _, rfl⟩ := hr
  intro v hv; simp only [List.mem_singleton] at hv; subst hv; exact .int _ _
def idxF (x : Int) : List Int → Int → Int
  | [], _ => -1
  | a :: l, i => if x = a then i else idxF x l (i + 1)
theorem idxF_mem (x : Int) : ∀ (l : List Int) (i : Int), 0 ≤ i → (0 ≤ idxF x l i ↔ x ∈ l)
  | [], i, _ => by simp [idxF]
  | a :: l, i, h => by
    unfold idxF
    split
    · rename_i e; subst e; simp [h]
    · rename_i e; rw [idxF_mem x l (i + 1) (by omega)]; simp [e]
structure YIx (α : Type) (l : List α) where
  k : Int
  pre : List α
  rest : List α
  hd : l = pre ++ rest
  hk : k = (pre.length : Int)
def ac_index : AC := .seq (.region false [
    ⟨some 4, none, .mov (.c (.int .i64 0))⟩])
  (.seq (.seq (.region false [
    ⟨some 6, none, .mov (.t 0)⟩,
    ⟨some 7, none, .len false (.t 6)⟩,
    ⟨some 8, none, .mov (.c (.int .i64 0))⟩])
  (.block 0 (.loop (.seq (.region false [
      ⟨some 9, none, .bin .lss (.t 8) (.t 7)⟩])
    (.seq (.cond (.t 9)
      (.skip)
      (.exit 0))
    (.seq (.block 1 (.seq (.region false [
      ⟨some 10, none, .mov (.t 8)⟩,
      ⟨some 5, none, .mov (.t 10)⟩])
    (.seq (.region false [
      ⟨some 11, none, .mov (.t 1)⟩,
      ⟨some 12, none, .mov (.t 0)⟩,
      ⟨some 13, none, .mov (.t 5)⟩,
      ⟨some 14, none, .iaddr 1 (.t 12) (.t 13)⟩,
      ⟨some 15, none, .load1 (.t 14)⟩,
      ⟨some 16, none, .bin .eql (.t 11) (.t 15)⟩])
    (.cond (.t 16)
      (.seq (.region false [
        ⟨some 17, none, .mov (.t 5)⟩,
        ⟨some 4, none, .mov (.t 17)⟩])
      (.ret))
      (.skip)))))
    (.region false [
      ⟨some 18, none, .bin .add (.t 8) (.c (.int .i64 1))⟩,
      ⟨some 8, none, .mov (.t 18)⟩])))))))
  (.seq (.region false [
    ⟨some 4, none, .mov (.c (.int .i64 (-1)))⟩])
  (.ret)))
theorem ok_index : FnOk Try.prog 53 Try.f53 ac_index [.t 4] 2 drawD := ⟨Try.func53, by decide +kernel, by kernel_rfl, by kernel_rfl, by decide +kernel⟩
theorem vc_index (P : Prim) (hP : P = std) (T T1 : CallT) (l : List Int) (hll : l.length ≤ 9000000000000000000) (x : Int) (rows : List (List V)) (hrows : rows = iRows l) (r : Int) (hr : idxF x l 0 = r)
    (R : S → Prop) (hR : ∀ s s' q, q = r → Ent s s' → Ret [.t 4] [.int .i64 q] s' → R s) : awp P T T1 ac_index (S0 [.sl true 1 rows, .int .i64 x] Hp.emp) R (fun _ _ => False) R := by
  have hl1 : P.rlen rows = (l.length : Int) := by rw [rlen_eq hP, hrows]; simp [iRows]
  cbv
  refine ⟨{ y : YIx Int l // idxF x y.rest y.k = r }, fun y => [(0, .sl true 1 rows), (1, .int .i64 x), (6, .sl true 1 rows), (7, .int .i64 (P.rlen rows)), (8, .int .i64 y.1.k)], fun y => [], fun y => y.1.rest.length,
    ⟨_, Ent.refl _, ⟨⟨0, [], l, rfl, rfl⟩, hr⟩, ⟨rfl, rfl, rfl, rfl, rfl, trivial⟩, trivial⟩, ?_⟩
  rintro ⟨⟨k, pre, rest, hd, hk⟩, hr⟩
  simp only [] at hr
  have hlp : pre.length + rest.length = l.length := by rw [hd]; simp
  cbv
  refine br_cases (fun h => ?_) (fun h => ?_)
  · have h5 : k < P.rlen rows := lt_t hP h
    rw [hl1] at h5
    rcases rest with _ | ⟨a, rest⟩
    · exfalso; simp at hlp; ((try simp only [nc] at *); omega)
    have hrow : P.row rows (P.nat k) [.int .i64 a] := row_of hP hk (by rw [hrows, iRows, List.getElem?_map, hd]; simp)
    have q1 : P.leP 0 k := le0 hP (by ((try simp only [nc] at *); omega))
    have q2 : P.i64 (P.add k 1) := by rw [add_eq hP]; exact i64I hP (by ((try simp only [nc] at *); omega))
    have q3 : P.add k 1 = k + 1 := add_eq hP _ _
    cbv
    refine ⟨q1, _, hrow, ?_⟩
    cbv
    refine br_cases (fun h => ?_) (fun h => ?_)
    · have e := eq_t hP h
      have hr' := hr
      unfold idxF at hr'
      rw [if_pos e] at hr'
      cbv
      exact hR _ _ _ hr' (Ent.refl _) rfl
    · have e := eq_f hP h
      have hr' := hr
      unfold idxF at hr'
      rw [if_neg e, ← q3] at hr'
      cbv
      refine ⟨q2, ?_⟩
      refine ⟨_, Ent.refl _, ⟨⟨_, pre ++ [a], rest, by simp [hd], ?_⟩, hr'⟩, ⟨rfl, rfl, rfl, rfl, rfl, trivial⟩, trivial, by simp⟩
      show P.add k 1 = _; rw [q3, hk]; simp
  · have h5 : ¬ k < P.rlen rows := lt_f hP h
    rw [hl1] at h5
    rcases rest with _ | ⟨a, rest⟩
    rotate_left
    · exfalso; simp at hlp; ((try simp only [nc] at *); omega)
    cbv
    exact hR _ _ _ hr (Ent.refl _) rfl
theorem sp_index (l : List Int) (hll : l.length ≤ 9000000000000000000) (x : Int) : Spec Try.prog 53 [.sl true 1 (iRows l), .int .i64 x] Hp.emp (Is (.int .i64 (idxF x l 0))) :=
  spec_pure dOk ok_index [.int .i64 (idxF x l 0)] (.int _ _) fun R hR => vc_index std rfl _ _ l hll x _ rfl _ rfl R fun s s' q h he hr => by subst h; exact hR s s' he hr
def ac_contains : AC := .seq (.region false [
    ⟨some 4, none, .mov (.c (.bool false))⟩])
  (.seq (.region false [
    ⟨some 5, none, .mov (.t 0)⟩,
    ⟨some 6, none, .mov (.t 1)⟩,
    ⟨some 7, none, .call 53 [(.t 5), (.t 6)]⟩,
    ⟨some 8, none, .bin .geq (.t 7) (.c (.int .i64 0))⟩,
    ⟨some 4, none, .mov (.t 8)⟩])
  (.ret))
theorem ok_contains : FnOk Try.prog 15 Try.f15 ac_contains [.t 4] 2 drawD := ⟨Try.func15, by decide +kernel, by kernel_rfl, by kernel_rfl, by decide +kernel⟩
theorem vc_contains (P : Prim) (hP : P = std) (T T1 : CallT) (rows : List (List V)) (x i : Int) (hc1 : Ans T 53 [.sl true 1 rows, .int .i64 x] (.int .i64 i)) (r : Bool) (hr : decide (0 ≤ i) = r)
    (R : S → Prop) (hR : ∀ s s' q, q = r → Ent s s' → Ret [.t 4] [.bool q] s' → R s) : awp P T T1 ac_contains (S0 [.sl true 1 rows, .int .i64 x] Hp.emp) R (fun _ _ => False) R := by
  cbv
  refine hc1 _ _ ?_
  cbv
  exact hR _ _ _ (by subst hP; exact hr) (Ent.refl _) rfl
theorem sp_contains (l : List Int) (hll : l.length ≤ 9000000000000000000) (x : Int) : Spec Try.prog 15 [.sl true 1 (iRows l), .int .i64 x] Hp.emp (Is (.bool (decide (x ∈ l)))) :=
  spec_pure dOk ok_contains [.bool (decide (x ∈ l))] (.bool _) fun R hR => vc_contains std rfl _ _ _ x _ (ansW (sp_index l hll x) (fun h => .cons (.same _) (.cons (.same _) .nil)) rfl) (decide (x ∈ l)) (by have := idxF_mem x l 0 (Int.le_refl _); simp [this]) R fun s s' q h he hr => by subst h; exact hR s s' he hr
theorem ints_ret {rv : List RV} {r : List Int} {tl : List V} {R : S → Prop} (htl : ∀ v ∈ tl, Fz v) (hR : ∀ s s', Ent s s' → RetF rv (oneV (.sl false 1 (iRows r) :: tl)) s' → R s) : RetSl rv 1 (iRows r) tl R := retSl_of (iRows_sz _) (iRows_fz _) htl hR
theorem ansIn {f : Nat} {l : List Int} {vs : List V} {v : V} (h : Spec Try.prog f (.sl true 1 (iRows l) :: vs) Hp.emp (Is v)) (hv : v.ren (lab []) = v) (hvs : vs.all V.pl = true) : Ans (CallE Try.prog) f (.sl false 1 (iRows l) :: vs) v := ansW h (fun _ => .cons (.weak _ _) (args_plain hvs)) hv
end Go.Proofs.Ytobngncjflogcaa.AM
