/-
  Slices of integers: slices.Index, Contains, Equal.
-/
import Derived.Test.YtlomnjlfmbolkaaMU
set_option linter.unusedVariables false
set_option linter.unusedSimpArgs false
namespace Go.Proofs.Ytlomnjlfmbolkaa.AM
open Go
set_option maxRecDepth 100000
set_option maxHeartbeats 2000000
def iRows (l : List Int) : List (List V) := l.map fun n => [.int .i64 n]
theorem iRows_sz (l : List Int) : ∀ r ∈ iRows l, r.length = 1 := by
  intro r hr; simp only [iRows, List.mem_map] at hr; obtain ⟨a, _, rfl⟩ := hr; rfl
theorem iRows_fz (l : List Int) : ∀ r ∈ iRows l, ∀ v ∈ r, Fz v := by
  intro r hr; simp only [iRows, List.mem_map] at hr; obtain ⟨a, _, rfl⟩ := hr
  intro v hv; simp only [List.mem_singleton] at hv; subst hv; exact .int _ _
def idxF (x : Int) : List Int → Int → Int
  | [], _ => -1
  | a :: l, i => if x = a then i else idxF x l (i + 1)
theorem idxF_mem (x : Int) : ∀ (l : List Int) (i : Int), 0 ≤ i → (0 ≤ idxF x l i ↔ x ∈ l)
  | [], i, _ => by simp [idxF]
  | a :: l, i, h => by
    unfold idxF
    split
    · rename_i e; subst e; simp [h]
    · rename_i e; rw [idxF_mem x l (i + 1) (by omega)]; simp [e]
structure YIx (α : Type) (l : List α) where
  k : Int
  pre : List α
  rest : List α
  hd : l = pre ++ rest
  hk : k = (pre.length : Int)
/-- a row of one cell each, held against itself -/
def ac_eqi : AC := .seq (.region false [
    ⟨some 4, none, .mov (.c (.bool false))⟩])
  (.seq (.seq (.region false [
    ⟨some 6, none, .mov (.t 0)⟩,
    ⟨some 7, none, .len false (.t 6)⟩,
    ⟨some 8, none, .mov (.t 1)⟩,
    ⟨some 9, none, .len false (.t 8)⟩,
    ⟨some 10, none, .bin .neq (.t 7) (.t 9)⟩])
  (.cond (.t 10)
    (.seq (.region false [
      ⟨some 4, none, .mov (.c (.bool false))⟩])
    (.ret))
    (.skip)))
  (.seq (.seq (.region false [
    ⟨some 11, none, .mov (.t 0)⟩,
    ⟨some 12, none, .len false (.t 11)⟩,
    ⟨some 13, none, .mov (.c (.int .i64 0))⟩])
  (.block 0 (.loop (.seq (.region false [
      ⟨some 14, none, .bin .lss (.t 13) (.t 12)⟩])
    (.seq (.cond (.t 14)
      (.skip)
      (.exit 0))
    (.seq (.block 1 (.seq (.region false [
      ⟨some 15, none, .mov (.t 13)⟩,
      ⟨some 5, none, .mov (.t 15)⟩])
    (.seq (.region true [
      ⟨some 16, none, .mov (.t 0)⟩,
      ⟨some 17, none, .mov (.t 5)⟩,
      ⟨some 18, none, .iaddr 1 (.t 16) (.t 17)⟩,
      ⟨some 19, none, .load1 (.t 18)⟩,
      ⟨some 20, none, .mov (.t 1)⟩,
      ⟨some 21, none, .mov (.t 5)⟩,
      ⟨some 22, none, .iaddr 1 (.t 20) (.t 21)⟩,
      ⟨some 23, none, .load1 (.t 22)⟩,
      ⟨some 24, none, .bin .neq (.t 19) (.t 23)⟩])
    (.cond (.t 24)
      (.seq (.region false [
        ⟨some 4, none, .mov (.c (.bool false))⟩])
      (.ret))
      (.skip)))))
    (.region false [
      ⟨some 25, none, .bin .add (.t 13) (.c (.int .i64 1))⟩,
      ⟨some 13, none, .mov (.t 25)⟩])))))))
  (.seq (.region false [
    ⟨some 4, none, .mov (.c (.bool true))⟩])
  (.ret))))
theorem ok_eqi : FnOk Try.prog 25 Try.f25 ac_eqi [.t 4] 2 drawD := ⟨Try.func25, by decide +kernel, by kernel_rfl, by kernel_rfl, by decide +kernel⟩
theorem vc_eqi (P : Prim) (hP : P = std) (T T1 : CallT) (l : List Int) (hll : l.length ≤ 9000000000000000000) (rows : List (List V)) (hrows : rows = iRows l)
    (R : S → Prop) (hR : ∀ s s' q, q = true → Ent s s' → Ret [.t 4] [.bool q] s' → R s) : awp P T T1 ac_eqi (S0 [.sl true 1 rows, .sl true 1 rows] Hp.emp) R (fun _ _ => False) R := by
  have hl1 : P.rlen rows = (l.length : Int) := by rw [rlen_eq hP, hrows]; simp [iRows]
  cbv
  refine br_ff (ne_F hP rfl) ?_
  cbv
  refine ⟨YIx Int l, fun y => [(0, .sl true 1 rows), (1, .sl true 1 rows), (11, .sl true 1 rows), (12, .int .i64 (P.rlen rows)), (13, .int .i64 y.k)], fun y => [], fun y => y.rest.length,
    ⟨_, Ent.refl _, ⟨0, [], l, rfl, rfl⟩, ⟨rfl, rfl, rfl, rfl, rfl, trivial⟩, trivial⟩, ?_⟩
  rintro ⟨k, pre, rest, hd, hk⟩
  have hlp : pre.length + rest.length = l.length := by rw [hd]; simp
  cbv
  refine br_cases (fun h => ?_) (fun h => ?_)
  · have h5 : k < P.rlen rows := lt_t hP h
    rw [hl1] at h5
    rcases rest with _ | ⟨a, rest⟩
    · exfalso; simp at hlp; ((try simp only [nc] at *); omega)
    have hrow : P.row rows (P.nat k) [.int .i64 a] := row_of hP hk (by rw [hrows, iRows, List.getElem?_map, hd]; simp)
    have q1 : P.leP 0 k := le0 hP (by ((try simp only [nc] at *); omega))
    have q2 : P.i64 (P.add k 1) := by rw [add_eq hP]; exact i64I hP (by ((try simp only [nc] at *); omega))
    cbv
    refine ⟨q1, _, hrow, ?_⟩
    cbv
    refine ⟨q1, _, hrow, ?_⟩
    cbv
    refine br_ff (ne_F hP rfl) ?_
    cbv
    refine ⟨q2, ?_⟩
    refine ⟨_, Ent.refl _, ⟨_, pre ++ [a], rest, by simp [hd], ?_⟩, ⟨rfl, rfl, rfl, rfl, rfl, trivial⟩, trivial, by simp⟩
    show P.add k 1 = _; rw [add_eq hP, hk]; simp
  · cbv
    exact hR _ _ _ rfl (Ent.refl _) rfl
theorem sp_eqi (l : List Int) (hll : l.length ≤ 9000000000000000000) : Spec Try.prog 25 [.sl true 1 (iRows l), .sl true 1 (iRows l)] Hp.emp (Is (.bool true)) :=
  spec_pure dOk ok_eqi [.bool true] (.bool _) fun R hR => vc_eqi std rfl _ _ l hll _ rfl R fun s s' q h he hr => by subst h; exact hR s s' he hr
theorem ansEqi (l : List Int) (hll : l.length ≤ 9000000000000000000) : Ans (CallE Try.prog) 25 [.sl false 1 (iRows l), .sl false 1 (iRows l)] (.bool true) := ansW (sp_eqi l hll) (fun _ => .cons (.weak _ _) (.cons (.weak _ _) .nil)) rfl
theorem ints_ret {rv : List RV} {r : List Int} {tl : List V} {R : S → Prop} (htl : ∀ v ∈ tl, Fz v) (hR : ∀ s s', Ent s s' → RetF rv (oneV (.sl false 1 (iRows r) :: tl)) s' → R s) : RetSl rv 1 (iRows r) tl R := retSl_of (iRows_sz _) (iRows_fz _) htl hR
theorem ansIn {f : Nat} {l : List Int} {vs : List V} {v : V} (h : Spec Try.prog f (.sl true 1 (iRows l) :: vs) Hp.emp (Is v)) (hv : v.ren (lab []) = v) (hvs : vs.all V.pl = true) : Ans (CallE Try.prog) f (.sl false 1 (iRows l) :: vs) v := ansW h (fun _ => .cons (.weak _ _) (args_plain hvs)) hv
end Go.Proofs.Ytlomnjlfmbolkaa.AM
