/-
  Regions that draw their order, whose operations meddle with each other: every order that the edges allow is carried out.
-/
import Derived.Test.YtdmpbdmgaepndaaAm15
import Derived.Orders
set_option linter.unusedVariables false
set_option linter.unusedSimpArgs false
namespace Go.Proofs.Ytdmpbdmgaepndaa.AM
open Go

/-! the edges -/
def predsOf (ops : Array Oper) (i : Nat) : List Nat := match ops[i]? with
  | some o => (o.after.toList.filter (Region.binds .any)).map (·.on)
  | none => []
theorem hasN_iff {l : List Nat} {i : Nat} : hasN l i = true ↔ i ∈ l := by
  induction l with
  | nil => simp [hasN]
  | cons x l ih =>
    rw [hasN, Bool.or_eq_true, ih, List.mem_cons]
    exact ⟨fun h => h.imp (fun e => (Nat.eq_of_beq_eq_true e).symm) id, fun h => h.imp (fun e => by rw [e]; exact Nat.beq_refl x) id⟩
theorem allA_mem {f : Nat → AO → Prop} : ∀ {l : List (Nat × AO)}, allA l f → ∀ {i o}, (i, o) ∈ l → f i o
  | [], _, i, o, h => by cases h
  | [(j, q)], h, i, o, hm => by simp at hm; obtain ⟨rfl, rfl⟩ := hm; exact h
  | (j, q) :: x :: l, h, i, o, hm => by
    obtain ⟨h1, h2⟩ := h
    rcases List.mem_cons.1 hm with hm | hm
    · cases hm; exact h1
    · exact allA_mem h2 hm
theorem mem_readyA {done : List Nat} : ∀ {l : List (AO × List Nat)} {m j : Nat} {o : AO} {ps : List Nat}, l[j]? = some (o, ps) → (m + j) ∉ done → (∀ q ∈ ps, q ∈ done) → (m + j, o) ∈ readyA done m l
  | [], m, j, o, ps, h, _, _ => by simp at h
  | (o', ps') :: l, m, 0, o, ps, h, h1, h2 => by
    simp only [List.getElem?_cons_zero, Option.some.injEq, Prod.mk.injEq] at h
    obtain ⟨rfl, rfl⟩ := h
    have e : (!(hasN done m) && ps'.all (hasN done)) = true := by
      rw [Bool.and_eq_true, List.all_eq_true]
      refine ⟨?_, fun q hq => hasN_iff.2 (h2 q hq)⟩
      cases hh : hasN done m
      · rfl
      · exact absurd (hasN_iff.1 hh) h1
    simp only [readyA, e, Nat.add_zero]
    exact List.mem_cons_self
  | (o', ps') :: l, m, j + 1, o, ps, h, h1, h2 => by
    have := mem_readyA (done := done) (l := l) (m := m + 1) (j := j) (by simpa using h) (by rw [show m + 1 + j = m + (j + 1) by omega]; exact h1) h2
    rw [show m + 1 + j = m + (j + 1) by omega] at this
    simp only [readyA]
    split
    · exact List.mem_cons_of_mem _ this
    · exact this

def predsOk (ops : Array Oper) : Bool := (List.range ops.size).all fun i => (predsOf ops i).all fun j => decide (j < i)
def withPreds (ops : Array Oper) (al : List AO) : List (AO × List Nat) := al.zip ((List.range ops.size).map (predsOf ops))
theorem trOs_get' {P : Program} {n : Nat} {ops : Array Oper} : ∀ {l : List Oper} {al : List AO}, trOs P n ops l = some al → l.length = al.length ∧ ∀ (i : Nat) (o : Oper), l[i]? = some o → ∃ a, al[i]? = some a ∧ trO P n ops o = some a
  | [], al, h => by simp [trOs] at h; subst h; simp
  | o :: l, al, h => by
    simp only [trOs] at h
    split at h
    · rename_i a m ha hm
      cases h
      obtain ⟨h1, h2⟩ := trOs_get' hm
      refine ⟨by simp [h1], fun i o' ho => ?_⟩
      cases i with
      | zero => simp at ho; subst ho; exact ⟨a, rfl, ha⟩
      | succ i => exact h2 i o' (by simpa using ho)
    · cases h
theorem exists_min : ∀ (l : List Nat), l ≠ [] → ∃ i ∈ l, ∀ j ∈ l, i ≤ j
  | [], h => absurd rfl h
  | [x], _ => ⟨x, by simp, by simp⟩
  | x :: y :: l, _ => by
    obtain ⟨i, hi, hm⟩ := exists_min (y :: l) (by simp)
    by_cases hx : x ≤ i
    · exact ⟨x, by simp, fun j hj => by rcases List.mem_cons.1 hj with rfl | hj; exact Nat.le_refl _; have := hm j hj; omega⟩
    · exact ⟨i, List.mem_cons_of_mem _ hi, fun j hj => by rcases List.mem_cons.1 hj with rfl | hj; omega; exact hm j hj⟩

section
variable {P : Program}
theorem anyA_sound {C : Ctx} {n : Nat} {ops : Array Oper} {al : List AO} {Q : Exit → Act → World → Prop} (hC : C.Ok) (hal : trOs P n ops ops.toList = some al) (hD : predsOk ops = true) {K : S → Prop} (hQ : ∀ s' a' w', Sat C n s' a' w' → K s' → Q .normal a' w') :
    ∀ (k : Nat) (R : List Nat) (listed : Array Bool) (done : List Nat) (s : S) (a : Act) (w : World), R.length = k → R.Nodup → listed.size = ops.size → (∀ i, i ∈ R ↔ i < ops.size ∧ listed.getD i true = false) → (∀ i, i < ops.size → (i ∈ done ↔ listed.getD i true = true)) →
      Sat C n s a w → anyA std (CallE P) (withPreds ops al) k done s K → wpAny P .any ops Q k listed a w := by
  have getb : ∀ (listed : Array Bool) (i : Nat), listed.size = ops.size → i < ops.size → listed.getD i true = listed.getD i false := by
    intro listed i hs hi
    have : i < listed.size := by omega
    simp [this]
  have chk : ∀ i, i < ops.size → ∀ j ∈ predsOf ops i, j < i := by
    intro i hi j hj
    unfold predsOk at hD
    have h1 := List.all_eq_true.1 hD i (List.mem_range.2 hi)
    simpa using List.all_eq_true.1 h1 j hj
  obtain ⟨hlen, hget⟩ := trOs_get' hal
  intro k
  induction k with
  | zero =>
    intro R listed done s a w hk _ hsz hmem _ hs hK
    have hR : R = [] := List.eq_nil_of_length_eq_zero hk
    subst hR
    refine ⟨List.eq_nil_iff_forall_not_mem.2 fun j hj => ?_, hQ s a w hs hK⟩
    obtain ⟨h1, o, ho, _⟩ := mem_ready.1 hj
    have := (hmem j).2 ⟨(Array.getElem?_eq_some_iff.1 ho).1, h1⟩
    cases this
  | succ k ih =>
    intro R listed done s a w hk hnd hsz hmem hdone hs hK
    refine ⟨fun hr => ?_, fun i hi => ?_⟩
    · exfalso
      obtain ⟨i0, hi0R, hmin⟩ := exists_min R (by intro h; subst h; cases hk)
      obtain ⟨hi0, hl0⟩ := (hmem i0).1 hi0R
      have : i0 ∈ Region.ready .any ops listed := by
        refine mem_ready.2 ⟨hl0, ops[i0], Array.getElem?_eq_getElem hi0, fun e he hb => ?_⟩
        have hp : e.on ∈ predsOf ops i0 := by
          unfold predsOf
          rw [Array.getElem?_eq_getElem hi0]
          exact List.mem_map.2 ⟨e, List.mem_filter.2 ⟨by simpa using he, hb⟩, rfl⟩
        have hlt := chk i0 hi0 _ hp
        by_cases hl : listed.getD e.on false = true
        · exact hl
        · exfalso
          have h3 : listed.getD e.on true = false := by rw [getb listed e.on hsz (by omega)]; simpa using hl
          have := hmin e.on ((hmem e.on).2 ⟨by omega, h3⟩)
          omega
      rw [hr] at this
      cases this
    · obtain ⟨hl, o, ho, hall⟩ := mem_ready.1 hi
      have hio : i < ops.size := (Array.getElem?_eq_some_iff.1 ho).1
      have hiR : i ∈ R := (hmem i).2 ⟨hio, hl⟩
      obtain ⟨ai, hai, htr⟩ := hget i o (by simpa using ho)
      have hnd' : i ∉ done := fun h => by have := (hdone i hio).1 h; rw [hl] at this; cases this
      have hz : (withPreds ops al)[i]? = some (ai, predsOf ops i) := by
        unfold withPreds
        rw [List.getElem?_zip_eq_some]
        exact ⟨hai, by simp [hio]⟩
      have hr := mem_readyA (done := done) (m := 0) (j := i) hz (by simpa using hnd') (fun q hq => by
        have hq' := hq
        unfold predsOf at hq
        rw [ho] at hq
        obtain ⟨e, he, rfl⟩ := List.mem_map.1 hq
        obtain ⟨he1, he2⟩ := List.mem_filter.1 he
        have h4 := hall e (by simpa using he1) he2
        have hlt : e.on < ops.size := by have := chk i hio _ hq'; omega
        exact (hdone e.on hlt).2 (by rw [getb listed e.on hsz hlt]; exact h4))
      rw [Nat.zero_add] at hr
      have hone := allA_mem (show allA (readyA done 0 (withPreds ops al)) (fun i o => aone std (CallE P) o s fun s => anyA std (CallE P) (withPreds ops al) k (i :: done) s K) from hK) hr
      unfold wpOp
      rw [ho]
      refine aone_sound callE_ok hC htr hs hone fun s' a' w' hs' hK' => ih (R.erase i) (listed.setIfInBounds i true) (i :: done) s' a' w' ?_ (hnd.erase i) (by simp [hsz]) (fun j => ?_) (fun j hj => ?_) hs' hK'
      · rw [List.length_erase_of_mem hiR]; omega
      · rw [hnd.mem_erase_iff, hmem j]
        by_cases hij : i = j
        · subst hij
          have h1 : (listed.setIfInBounds i true).getD i true = true := by
            have : i < listed.size := by omega
            simp [this]
          rw [h1]
          simp
        · rw [getD_set_ne true hij]
          exact ⟨fun h => h.2, fun h => ⟨fun e => hij e.symm, h⟩⟩
      · by_cases hij : i = j
        · subst hij
          have h1 : (listed.setIfInBounds i true).getD i true = true := by
            have : i < listed.size := by omega
            simp [this]
          rw [h1]
          simp
        · rw [getD_set_ne true hij, ← hdone j hj, List.mem_cons]
          exact ⟨fun h => h.resolve_left fun e => hij e.symm, .inr⟩
end
end Go.Proofs.Ytdmpbdmgaepndaa.AM
