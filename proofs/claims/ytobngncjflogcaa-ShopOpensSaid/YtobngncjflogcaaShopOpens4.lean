/-
  Texts of the plain machine, put together: what the law ShopOpens reaches.
-/
import Derived.Test.YtobngncjflogcaaShopOpens3
import Derived.Test.YtobngncjflogcaaShopOpens1
import Derived.KernelRfl
import Derived.OpenShut
set_option linter.unusedVariables false
set_option linter.unusedSimpArgs false
namespace Go.Proofs.Ytobngncjflogcaa.AM
open Go

def slotsOf : List Opd → List Nat
  | [] => []
  | .t i :: l => i :: slotsOf l
  | .c _ :: l => slotsOf l
theorem ev_slots {s s2 : S} : ∀ {l : List Opd}, (∀ i ∈ slotsOf l, s2.t i = s.t i) → ∀ x ∈ l, Opd.ev s2 x = Opd.ev s x
  | [], _, x, hx => by cases hx
  | .t i :: l, h, x, hx => by
    rcases List.mem_cons.1 hx with rfl | hx
    · exact h i (by simp [slotsOf])
    · exact ev_slots (fun j hj => h j (by simp [slotsOf, hj])) x hx
  | .c v :: l, h, x, hx => by
    rcases List.mem_cons.1 hx with rfl | hx
    · rfl
    · exact ev_slots (fun j hj => h j (by simpa [slotsOf] using hj)) x hx
def AO.looks (o : AO) : List Nat := (match o.g with | some (g, _) => [g] | none => []) ++ slotsOf o.op.opds
def AO.isFun (o : AO) : Bool := o.op.isPure || o.op.isRead || (match o.op with | .call .. => true | .callv .. => true | _ => false)
def apartB (a b : AO) : Bool :=
  (match a.d with | some d => !(b.looks.contains d) && (b.d != some d) | none => true) && (match b.d with | some d => !(a.looks.contains d) | none => true)
/-- it makes an object of its own -/
def AO.isNew (o : AO) : Bool := (match o.g, o.d with | none, some _ => true | _, _ => false) && (match o.op with | .alloc .. | .box .. | .bslice .. | .mkslice .. => true | _ => false)
def AO.key (o : AO) : Nat := match o.op with
  | .bslice .. | .mkslice .. => arr + o.d.getD 0
  | _ => o.d.getD 0
/-- it makes a copy: what is appended to nothing -/
def AO.isApp (o : AO) : Bool := (match o.g, o.d with | none, some _ => true | _, _ => false) && (match o.op with | .append _ _ _ (.c (.slice none 0 0)) _ => true | _ => false)
/-- may the one that stands behind in the text come first? -/
def okPair (a b : AO) : Bool := apartB a b && (a.op.isPure || (a.isFun && (b.isFun || b.isNew || b.isApp)) || (a.isNew && (b.op.isPure || (b.isNew && a.key != b.key))) || (a.isApp && b.op.isPure))

theorem set_same {s : S} {g : Nat} {v : V} (h : s.t g = v) : s.set g v = s := by
  subst h
  cases s with
  | mk t h =>
    simp only [S.set, S.mk.injEq, and_true]
    funext i
    simp only [upd]
    split <;> simp_all

theorem isFun_spec {P : Program} {o : AO} (h : o.isFun = true) : Fun (CallP P) o.op := by
  refine fun_of ?_
  unfold AO.isFun at h
  simp only [Bool.or_eq_true] at h
  rcases h with (h | h) | h
  · exact .inl h
  · exact .inr (.inl h)
  · right; right
    cases hop : o.op <;> rw [hop] at h <;> try (simp at h; done)
    · exact .inl ⟨_, _, rfl⟩
    · exact .inr ⟨_, _, rfl⟩

section
variable {P : Program}

theorem fun_aoper {o : AO} (hf : o.isFun = true) {s : S} {K : S → Prop} (hh : aoper std (CallP P) o s K) :
    ∃ v, K (s.put o.d v) ∧ ∀ (s2 : S), (∀ i ∈ slotsOf o.op.opds, s2.t i = s.t i) → s.h.le s2.h → ∀ K2 : S → Prop, K2 (s2.put o.d v) → aoper std (CallP P) o s2 K2 := by
  obtain ⟨v, h1, h2⟩ := isFun_spec hf _ _ _ _ hh
  refine ⟨v, h1, fun s2 hs hl K2 hk => ?_⟩
  unfold aoper
  rw [aopP_congr (ev' := Opd.ev s) (ev_slots hs)]
  exact h2 s2.h _ _ hl hk

theorem fun_aone {o : AO} (hf : o.isFun = true) {s : S} {K : S → Prop} (hh : aone std (CallP P) o s K) :
    ∃ v, K (s.put o.d v) ∧ ∀ (s2 : S), (∀ i ∈ o.looks, s2.t i = s.t i) → s.h.le s2.h → ∀ K2 : S → Prop, K2 (s2.put o.d v) → aone std (CallP P) o s2 K2 := by
  obtain ⟨d, g, op⟩ := o
  cases g with
  | none =>
    obtain ⟨v, h1, h2⟩ := fun_aoper hf (show aoper std (CallP P) ⟨d, none, op⟩ s K from hh)
    exact ⟨v, h1, fun s2 hs hl K2 hk => h2 s2 (fun i hi => hs i (by simpa [AO.looks] using hi)) hl K2 hk⟩
  | some gw =>
    obtain ⟨g, want⟩ := gw
    have key : ∀ b, s.t g = .bool b → (if b = want then aoper std (CallP P) ⟨d, some (g, want), op⟩ s K else K (s.put d .und)) →
        ∃ v, K (s.put d v) ∧ ∀ (s2 : S), (∀ i ∈ (AO.mk d (some (g, want)) op).looks, s2.t i = s.t i) → s.h.le s2.h → ∀ K2 : S → Prop, K2 (s2.put d v) → aone std (CallP P) ⟨d, some (g, want), op⟩ s2 K2 := by
      intro b hb hK
      by_cases hbw : b = want
      · subst hbw
        rw [if_pos rfl] at hK
        obtain ⟨v, h1, h2⟩ := fun_aoper hf hK
        refine ⟨v, h1, fun s2 hs hl K2 hk => ?_⟩
        have hg2 : s2.t g = .bool b := (hs g (by simp [AO.looks])).trans hb
        have := h2 s2 (fun i hi => hs i (by simp only [AO.looks]; exact List.mem_append_right _ hi)) hl K2 hk
        cases b <;> simp only [aone, hg2, br, set_same hg2] <;> exact this
      · rw [if_neg hbw] at hK
        refine ⟨.und, hK, fun s2 hs hl K2 hk => ?_⟩
        have hg2 : s2.t g = .bool b := (hs g (by simp [AO.looks])).trans hb
        cases b <;> cases want <;> first | (exact absurd rfl hbw) | (simp only [aone, hg2, br, set_same hg2]; exact hk)
    cases hb : s.t g with
    | bool b =>
      refine key b hb ?_
      cases b <;> cases want <;> simp only [aone, hb, br, set_same hb] at hh <;> simpa using hh
    | und =>
      have hu : K (s.put d .und) := by cases want <;> simp only [aone, hb] at hh <;> exact hh
      refine ⟨.und, hu, fun s2 hs hl K2 hk => ?_⟩
      have hg2 : s2.t g = .und := (hs g (by simp [AO.looks])).trans hb
      cases want <;> simp only [aone, hg2] <;> exact hk
    | _ => cases want <;> simp only [aone, hb] at hh

theorem put_t {s : S} {d : Option Nat} {v : V} {i : Nat} (h : d ≠ some i) : (s.put d v).t i = s.t i := by
  cases d with
  | none => rfl
  | some d =>
    simp only [S.put, S.set, upd]
    rw [if_neg (fun e => h (by rw [e]))]
theorem put_h {s : S} {d : Option Nat} {v : V} : (s.put d v).h = s.h := by cases d <;> rfl
theorem put_comm {s : S} {d e : Option Nat} {v u : V} (h : ∀ i, d = some i → e ≠ some i) : (s.put d v).put e u = (s.put e u).put d v := by
  cases d with
  | none => rfl
  | some d =>
    cases e with
    | none => rfl
    | some e =>
      have hne : d ≠ e := fun he => h d rfl (by rw [he])
      simp only [S.put, S.set, S.mk.injEq, and_true]
      funext i
      simp only [upd]
      by_cases h1 : i = d
      · subst h1
        rw [if_neg hne]
        simp [hne]
      · by_cases h2 : i = e
        · subst h2; simp [h1]
        · simp [h1, h2]

theorem apart_spec {a b : AO} (h : apartB a b = true) : (∀ i, a.d = some i → i ∉ b.looks ∧ b.d ≠ some i) ∧ (∀ i, b.d = some i → i ∉ a.looks) := by
  unfold apartB at h
  simp only [Bool.and_eq_true] at h
  refine ⟨fun i hi => ?_, fun i hi => ?_⟩
  · have h1 := h.1
    rw [hi] at h1
    simp only [Bool.and_eq_true, Bool.not_eq_true', bne_iff_ne] at h1
    exact ⟨by simpa using h1.1, h1.2⟩
  · have h2 := h.2
    rw [hi] at h2
    simpa using h2

/-- a pure operation, guarded or not: one value, whatever lies in memory -/
theorem pure_aone {T : CallT} {o : AO} (hp : o.op.isPure = true) {s : S} {K : S → Prop} (hh : aone std T o s K) :
    ∃ v, ∀ (s2 : S), (∀ i ∈ o.looks, s2.t i = s.t i) → ∀ K2 : S → Prop, (aone std T o s2 K2 ↔ K2 (s2.put o.d v)) := by
  obtain ⟨d, g, op⟩ := o
  have plain : ∀ (s : S) (K : S → Prop), aoper std T ⟨d, none, op⟩ s K → ∃ v, ∀ (s2 : S), (∀ i ∈ slotsOf op.opds, s2.t i = s.t i) → ∀ K2 : S → Prop, (aopP std T op (Opd.ev s2) s2.h (d.getD 0) (fun v h => K2 ((s2.seth h).put d v)) ↔ K2 (s2.put d v)) := by
    intro s K hh
    obtain ⟨v, _, h2⟩ := pure_det hp hh
    refine ⟨v, fun s2 hs K2 => ?_⟩
    rw [aopP_congr (ev' := Opd.ev s) (ev_slots hs)]
    exact h2 s2.h (d.getD 0) fun v h => K2 ((s2.seth h).put d v)
  cases g with
  | none =>
    obtain ⟨v, h⟩ := plain s K hh
    exact ⟨v, fun s2 hs K2 => h s2 (fun i hi => hs i (by simpa [AO.looks] using hi)) K2⟩
  | some gw =>
    obtain ⟨g, want⟩ := gw
    have key : ∀ b, s.t g = .bool b → (b = want → aoper std T ⟨d, none, op⟩ s K) →
        ∃ v, ∀ (s2 : S), (∀ i ∈ (AO.mk d (some (g, want)) op).looks, s2.t i = s.t i) → ∀ K2 : S → Prop, (aone std T ⟨d, some (g, want), op⟩ s2 K2 ↔ K2 (s2.put d v)) := by
      intro b hb hK
      by_cases hbw : b = want
      · subst hbw
        obtain ⟨v, h⟩ := plain s K (hK rfl)
        refine ⟨v, fun s2 hs K2 => ?_⟩
        have hg2 : s2.t g = .bool b := (hs g (by simp [AO.looks])).trans hb
        have := h s2 (fun i hi => hs i (by simp only [AO.looks]; exact List.mem_append_right _ hi)) K2
        cases b <;> simp only [aone, hg2, br, set_same hg2, aoper] <;> exact this
      · refine ⟨.und, fun s2 hs K2 => ?_⟩
        have hg2 : s2.t g = .bool b := (hs g (by simp [AO.looks])).trans hb
        cases b <;> cases want <;> first | (exact absurd rfl hbw) | (simp only [aone, hg2, br, set_same hg2])
    cases hb : s.t g with
    | bool b =>
      refine key b hb fun hbw => ?_
      subst hbw
      cases b <;> simp only [aone, hb, br, set_same hb] at hh <;> exact hh
    | und =>
      refine ⟨.und, fun s2 hs K2 => ?_⟩
      have hg2 : s2.t g = .und := (hs g (by simp [AO.looks])).trans hb
      cases want <;> simp only [aone, hg2]
    | _ => cases want <;> simp only [aone, hb] at hh

/-- what an operation makes -/
theorem new_aone {T : CallT} {o : AO} (hn : o.isNew = true) {s : S} {K : S → Prop} (hh : aone std T o s K) :
    ∃ (v : Nat → V) (ob : Nat → Ob), ∀ (s2 : S), (∀ i ∈ o.looks, s2.t i = s.t i) → ∀ K2 : S → Prop, (aone std T o s2 K2 ↔ s2.h o.key = none ∧ ∀ β : Nat, K2 ((s2.seth (s2.h.put o.key (ob β))).put o.d (v β))) := by
  obtain ⟨d, g, op⟩ := o
  unfold AO.isNew at hn
  simp only [Bool.and_eq_true] at hn
  obtain ⟨hn1, hn2⟩ := hn
  cases g with
  | some _ => simp at hn1
  | none =>
    cases d with
    | none => simp at hn1
    | some d =>
      have hl : ∀ s2 : S, (∀ i ∈ (AO.mk (some d) none op).looks, s2.t i = s.t i) → ∀ x ∈ op.opds, Opd.ev s2 x = Opd.ev s x := fun s2 hs => ev_slots fun i hi => hs i (by simpa [AO.looks] using hi)
      cases op <;> simp only [] at hn2 <;> try (cases hn2; done)
      case alloc ty z =>
        obtain ⟨_, hz, _⟩ := (show aopP std T (.alloc ty z) (Opd.ev s) s.h d (fun v h => K ((s.seth h).put (some d) v)) from hh)
        exact ⟨fun β => .ptr d (some β) z.length 0 0, fun β => ⟨some β, ty, z.length, [z.map vOf]⟩, fun s2 hs K2 => ⟨fun ⟨a, _, b⟩ => ⟨a, b⟩, fun ⟨a, b⟩ => ⟨a, hz, b⟩⟩⟩
      case box ty n x =>
        obtain ⟨_, hz, _⟩ := (show aopP std T (.box ty n x) (Opd.ev s) s.h d (fun v h => K ((s.seth h).put (some d) v)) from hh)
        refine ⟨fun β => .ptr d (some β) n 0 0, fun β => ⟨some β, ty, n, [(x.ev s).cells]⟩, fun s2 hs K2 => ?_⟩
        have he := hl s2 hs x (by simp [AOp.opds])
        show (s2.h d = none ∧ (x.ev s2).fits n ∧ ∀ β : Nat, K2 ((s2.seth (s2.h.put d ⟨some β, ty, n, [(x.ev s2).cells]⟩)).put (some d) (.ptr d (some β) n 0 0))) ↔ _
        rw [he]
        exact ⟨fun ⟨a, _, b⟩ => ⟨a, b⟩, fun ⟨a, b⟩ => ⟨a, hz, b⟩⟩
      case bslice ty sz ps =>
        obtain ⟨_, hz, _⟩ := (show aopP std T (.bslice ty sz ps) (Opd.ev s) s.h d (fun v h => K ((s.seth h).put (some d) v)) from hh)
        refine ⟨fun β => .own (arr + d) (some β) sz ps.length, fun β => ⟨some β, ty, sz, ps.map fun q => (q.ev s).cells⟩, fun s2 hs K2 => ?_⟩
        have he := hl s2 hs
        have e1 : (ps.all fun q => fitsB sz (q.ev s2)) = ps.all fun q => fitsB sz (q.ev s) := by
          rw [Bool.eq_iff_iff, List.all_eq_true, List.all_eq_true]
          exact ⟨fun h q hq => by rw [← he q hq]; exact h q hq, fun h q hq => by rw [he q hq]; exact h q hq⟩
        have e2 : (ps.map fun q => (q.ev s2).cells) = ps.map fun q => (q.ev s).cells := List.map_congr_left fun q hq => by rw [he q hq]
        show (s2.h (arr + d) = none ∧ (ps.all fun q => fitsB sz (q.ev s2)) = true ∧ ∀ β : Nat, K2 ((s2.seth (s2.h.put (arr + d) ⟨some β, ty, sz, ps.map fun q => (q.ev s2).cells⟩)).put (some d) (.own (arr + d) (some β) sz ps.length))) ↔ _
        rw [e1, e2]
        exact ⟨fun ⟨a, _, b⟩ => ⟨a, b⟩, fun ⟨a, b⟩ => ⟨a, hz, b⟩⟩
      case mkslice ty sz bytes z l c =>
        have hh' := (show aopP std T (.mkslice ty sz bytes z l c) (Opd.ev s) s.h d (fun v h => K ((s.seth h).put (some d) v)) from hh)
        cases h1 : l.ev s <;> try (simp only [aopP, h1] at hh'; done)
        rename_i k1 n
        cases h2 : c.ev s <;> try (simp only [aopP, h1, h2] at hh'; done)
        rename_i k2 m
        simp only [aopP, h1, h2] at hh'
        obtain ⟨_, a1, a2, a3, a4, a5, a6, _⟩ := hh'
        refine ⟨fun β => .own (arr + d) (some β) sz (std.nat n), fun β => ⟨some β, ty, sz, std.rrep n (z.map vOf)⟩, fun s2 hs K2 => ?_⟩
        have e1 := (hl s2 hs l (by simp [AOp.opds])).trans h1
        have e2 := (hl s2 hs c (by simp [AOp.opds])).trans h2
        show aopP std T (.mkslice ty sz bytes z l c) (Opd.ev s2) s2.h d (fun v h => K2 ((s2.seth h).put (some d) v)) ↔ _
        simp only [aopP, e1, e2]
        exact ⟨fun ⟨a, _, _, _, _, _, _, b⟩ => ⟨a, b⟩, fun ⟨a, b⟩ => ⟨a, a1, a2, a3, a4, a5, a6, b⟩⟩

/-- what a copy is -/
theorem app_aone {T : CallT} {o : AO} (hn : o.isApp = true) {s : S} {K : S → Prop} (hh : aone std T o s K) :
    ∃ (k : Nat) (v : Option Nat → V) (ob : Option Nat → Ob), ∀ (s2 : S), (∀ i ∈ o.looks, s2.t i = s.t i) → s2.h = s.h → ∀ K2 : S → Prop, (aone std T o s2 K2 ↔ s2.h k = none ∧ ∀ β : Option Nat, K2 ((s2.seth (s2.h.put k (ob β))).put o.d (v β))) := by
  obtain ⟨d, g, op⟩ := o
  unfold AO.isApp at hn
  simp only [Bool.and_eq_true] at hn
  obtain ⟨hn1, hn2⟩ := hn
  cases g with
  | some _ => simp at hn1
  | none =>
    cases d with
    | none => simp at hn1
    | some d =>
      have hl : ∀ s2 : S, (∀ i ∈ (AO.mk (some d) none op).looks, s2.t i = s.t i) → ∀ x ∈ op.opds, Opd.ev s2 x = Opd.ev s x := fun s2 hs => ev_slots fun i hi => hs i (by simpa [AO.looks] using hi)
      cases op <;> try (cases hn2; done)
      rename_i ty sz bytes x y
      split at hn2
      · rename_i heq
        cases heq
        have hh' := (show appendP std s.h (arr + d) ty sz bytes .nilsl (y.ev s) (fun v h => K ((s.seth h).put (some d) v)) from hh)
        have fin : ∀ news : List (List V), (∀ Q : List (List V) → Prop, rowsP std s.h sz (y.ev s) Q ↔ Q news) → ∃ (k : Nat) (v : Option Nat → V) (ob : Option Nat → Ob), ∀ (s2 : S), (∀ i ∈ (AO.mk (some d) none (.append ty sz bytes (.c (.slice none 0 0)) y)).looks, s2.t i = s.t i) → s2.h = s.h → ∀ K2 : S → Prop, (aone std T ⟨some d, none, .append ty sz bytes (.c (.slice none 0 0)) y⟩ s2 K2 ↔ s2.h k = none ∧ ∀ β : Option Nat, K2 ((s2.seth (s2.h.put k (ob β))).put (some d) (v β))) := by
          intro news hr
          have hb := (hr _).1 hh'
          refine ⟨arr + d, fun β => .own (arr + d) β sz (std.rlenN news), fun β => ⟨β, ty, sz, news⟩, fun s2 hs hh2 K2 => ?_⟩
          have he := hl s2 hs y (by simp [AOp.opds])
          show appendP std s2.h (arr + d) ty sz bytes .nilsl (y.ev s2) (fun v h => K2 ((s2.seth h).put (some d) v)) ↔ _
          rw [he]
          unfold appendP
          rw [hh2]
          exact (hr _).trans ⟨fun ⟨a, _, b⟩ => ⟨a, b⟩, fun ⟨a, b⟩ => ⟨a, hb.2.1, b⟩⟩
        unfold appendP rowsP at hh'
        split at hh'
        · rename_i t sz' rows heq
          refine fin rows fun Q => ?_
          rw [heq]
          unfold rowsP
          exact ⟨fun h => h.2, fun h => ⟨hh'.1, h⟩⟩
        · rename_i heq
          refine fin [] fun Q => ?_
          rw [heq]
          exact Iff.rfl
        · rename_i k b sz' n heq
          split at hh'
          · rename_i o hk
            refine fin o.rows fun Q => ?_
            rw [heq]
            unfold rowsP
            simp only [hk]
            exact ⟨fun h => h.2.2.2.2, fun h => ⟨hh'.1, hh'.2.1, hh'.2.2.1, hh'.2.2.2.1, h⟩⟩
          · exact hh'.elim
        · exact hh'.elim
      · cases hn2

theorem rowP_mono {h : Hp} {k sz i : Nat} {b : Option Nat} {K K2 : Ob → List V → Prop} (hK : ∀ o r, K o r → K2 o r) (hh : rowP std h k b sz i K) : rowP std h k b sz i K2 := rowP_le (Hp.le_refl h) hh hK
theorem rowsP_mono {h : Hp} {sz : Nat} {v : V} {K K2 : List (List V) → Prop} (hK : ∀ rows, K rows → K2 rows) (hh : rowsP std h sz v K) : rowsP std h sz v K2 := by
  unfold rowsP at hh ⊢
  cases v <;> try (exact hh.elim)
  case sl => exact ⟨hh.1, hK _ hh.2⟩
  case nilsl => exact hK _ hh
  case own j b sz' n =>
    simp only [] at hh ⊢
    cases hj : h j with
    | none => rw [hj] at hh; exact hh.elim
    | some o => rw [hj] at hh; exact ⟨hh.1, hh.2.1, hh.2.2.1, hh.2.2.2.1, hK _ hh.2.2.2.2⟩
theorem aopP_mono {op : AOp} {ev : Opd → V} {h : Hp} {k : Nat} {K K2 : V → Hp → Prop} (hK : ∀ v h, K v h → K2 v h) (hh : aopP std (CallP P) op ev h k K) : aopP std (CallP P) op ev h k K2 := by
  by_cases hf : (AO.mk none none op).isFun = true
  · obtain ⟨v, h1, h2⟩ := isFun_spec hf ev h k K hh
    exact h2 h k K2 (Hp.le_refl h) (hK _ _ h1)
  · cases op <;> try (exact absurd rfl hf)
    case alloc ty z => exact ⟨hh.1, hh.2.1, fun β => hK _ _ (hh.2.2 β)⟩
    case box ty n x => exact ⟨hh.1, hh.2.1, fun β => hK _ _ (hh.2.2 β)⟩
    case bslice ty sz ps => exact ⟨hh.1, hh.2.1, fun β => hK _ _ (hh.2.2 β)⟩
    case store n x v =>
      have hh : storeP std h n (ev x) (ev v) (fun h => K .junk h) := hh
      show storeP std h n (ev x) (ev v) (fun h => K2 .junk h)
      unfold storeP at hh ⊢
      split at hh
      · rename_i heq
        refine rowP_mono (fun o r hr => ⟨hr.1, hr.2.1, hK _ _ hr.2.2⟩) hh
      · exact hh.elim
    case mkslice ty sz bytes z l c =>
      simp only [aopP] at hh ⊢
      split at hh
      · rename_i e1 e2
        exact ⟨hh.1, hh.2.1, hh.2.2.1, hh.2.2.2.1, hh.2.2.2.2.1, hh.2.2.2.2.2.1, hh.2.2.2.2.2.2.1, fun β => hK _ _ (hh.2.2.2.2.2.2.2 β)⟩
      · exact hh.elim
    case append ty sz bytes x y =>
      have hh : appendP std h (arr + k) ty sz bytes (ev x) (ev y) K := hh
      show appendP std h (arr + k) ty sz bytes (ev x) (ev y) K2
      unfold appendP at hh ⊢
      refine rowsP_mono (fun news hn => ?_) hh
      generalize ev x = vx at hn ⊢
      cases vx <;> try (exact hn.elim)
      case nilsl => exact ⟨hn.1, hn.2.1, fun β => hK _ _ (hn.2.2 β)⟩
      case own j b sz' n =>
        simp only [] at hn ⊢
        cases hj : h j with
        | none => rw [hj] at hn; exact hn.elim
        | some o => rw [hj] at hn; exact ⟨hn.1, hn.2.1, hn.2.2.1, hn.2.2.2.1, hn.2.2.2.2.1, hn.2.2.2.2.2.1, fun β => hK _ _ (hn.2.2.2.2.2.2 β)⟩
    case convbs x =>
      have hh : rowsP std h 1 (ev x) (fun rows => ∃ l, std.bstr rows l ∧ K (.str l) h) := hh
      show rowsP std h 1 (ev x) (fun rows => ∃ l, std.bstr rows l ∧ K2 (.str l) h)
      exact rowsP_mono (fun rows hn => hn.imp fun l hl => ⟨hl.1, hK _ _ hl.2⟩) hh
    case dead => exact hh
    case eqn neg x =>
      have hh : eqnP std neg (ev x) (fun v => K v h) := hh
      show eqnP std neg (ev x) (fun v => K2 v h)
      unfold eqnP at hh ⊢
      generalize ev x = vx at hh ⊢
      cases vx <;> try (exact hh.elim)
      case nilsl => exact hK _ _ hh
      case sl => exact ⟨hK _ _ hh.1, fun h0 => hK _ _ (hh.2 h0)⟩
    case ixa g len sz x i =>
      simp only [aopP] at hh ⊢
      split at hh
      · rename_i e1 e2
        obtain ⟨a1, a2, a3, a4, n, a5, a6⟩ := hh
        refine ⟨a1, a2, a3, a4, n, a5, ?_⟩
        cases g <;> exact hK _ _ a6
      · exact hh.elim
theorem aone_mono {a : AO} {s : S} {K K2 : S → Prop} (hK : ∀ s, K s → K2 s) (hh : aone std (CallP P) a s K) : aone std (CallP P) a s K2 := by
  obtain ⟨d, g, op⟩ := a
  have plain : ∀ s : S, aoper std (CallP P) ⟨d, g, op⟩ s K → aoper std (CallP P) ⟨d, g, op⟩ s K2 := fun s h => aopP_mono (fun v h' hk => hK _ hk) h
  unfold aone at hh ⊢
  split at hh
  · exact plain s hh
  · split at hh
    · rename_i b _
      cases b
      · exact hK _ hh
      · exact plain _ hh
    · exact hK _ hh
    · exact hh.elim
  · split at hh
    · rename_i b _
      cases b
      · exact plain _ hh
      · exact hK _ hh
    · exact hK _ hh
    · exact hh.elim
theorem aopP_congr_all {op : AOp} {ev ev' : Opd → V} {h : Hp} {k : Nat} {K K' : V → Hp → Prop} (he : ∀ x ∈ op.opds, ev x = ev' x) (hK : ∀ v h, K v h → K' v h) (hh : aopP std (CallP P) op ev h k K) : aopP std (CallP P) op ev' h k K' := by
  rw [aopP_congr he] at hh
  exact aopP_mono hK hh

/-- any operation, where a slot is told that it does not look at -/
theorem any_aone {b : AO} {s : S} {d0 : Option Nat} {u : V} {K K2 : S → Prop} (hl : ∀ e, d0 = some e → e ∉ b.looks ∧ b.d ≠ some e) (hK : ∀ s1, (∀ i, b.d ≠ some i → s1.t i = s.t i) → K (s1.put d0 u) → K2 s1) (hh : aone std (CallP P) b (s.put d0 u) K) : aone std (CallP P) b s K2 := by
  obtain ⟨d, g, op⟩ := b
  have cm : ∀ (s : S) (v : V) (h : Hp), (((s.put d0 u).seth h).put d v) = (((s.seth h).put d v).put d0 u) := by
    intro s v h
    have e1 : (s.put d0 u).seth h = (s.seth h).put d0 u := by cases d0 <;> rfl
    rw [e1]
    exact put_comm fun i hi => (hl i hi).2
  have ts : ∀ (s : S) (i : Nat), (∀ e, d0 = some e → i ≠ e) → (s.put d0 u).t i = s.t i := fun s i hi => put_t fun e => hi i e rfl
  have plain : ∀ s' : S, (∀ i, s'.t i = s.t i) → aoper std (CallP P) ⟨d, g, op⟩ (s'.put d0 u) K → aoper std (CallP P) ⟨d, g, op⟩ s' K2 := by
    intro s' hs' h
    have h' : aopP std (CallP P) op (Opd.ev (s'.put d0 u)) s'.h (d.getD 0) (fun v h => K ((((s'.put d0 u).seth h)).put d v)) := by
      have := h
      unfold aoper at this
      rw [put_h] at this
      exact this
    refine aopP_congr_all (K' := fun v h => K2 ((s'.seth h).put d v)) (ev_slots fun i hi => ts s' i fun e he hie => (hl e he).1 (by rw [← hie]; unfold AO.looks; exact List.mem_append_right _ hi)) (fun v h'' hk => hK _ (fun i hi => ?_) ?_) h'
    · rw [put_t hi]; exact hs' i
    · rw [← cm]; exact hk
  cases g with
  | none => exact plain s (fun _ => rfl) hh
  | some gw =>
    obtain ⟨g, want⟩ := gw
    have hge : ∀ e, d0 = some e → g ≠ e := fun e he hg => (hl e he).1 (by rw [← hg]; simp [AO.looks])
    have hgt : (s.put d0 u).t g = s.t g := ts s g hge
    have cp : ∀ (s : S) (v : V), (s.put d0 u).put d v = (s.put d v).put d0 u := fun s v => put_comm fun i hi => (hl i hi).2
    cases hb : s.t g with
    | bool b =>
      have hb2 := hgt.trans hb
      have e1 : (s.put d0 u).set g (.bool b) = s.put d0 u := set_same hb2
      have e2 : s.set g (.bool b) = s := set_same hb
      cases want <;> cases b <;> simp only [aone, hb, hb2, br, e1, e2] at hh ⊢
      · exact plain s (fun _ => rfl) hh
      · exact hK _ (fun i hi => put_t hi) (by rw [← cp]; exact hh)
      · exact hK _ (fun i hi => put_t hi) (by rw [← cp]; exact hh)
      · exact plain s (fun _ => rfl) hh
    | und =>
      have hb2 := hgt.trans hb
      cases want <;> simp only [aone, hb, hb2] at hh ⊢ <;> exact hK _ (fun i hi => put_t hi) (by rw [← cp]; exact hh)
    | _ =>
      have hb2 := hgt.trans hb
      cases want <;> simp only [aone, hb2] at hh

theorem put_seth {s : S} {h : Hp} {d : Option Nat} {v : V} : (s.put d v).seth h = (s.seth h).put d v := by cases d <;> rfl
theorem seth_h {s : S} {h : Hp} : (s.seth h).h = h := rfl
theorem seth_seth {s : S} {h h' : Hp} : (s.seth h).seth h' = s.seth h' := rfl
theorem hp_put_comm {h : Hp} {a b : Nat} {o q : Ob} (hne : a ≠ b) : Hp.put (Hp.put h a o) b q = Hp.put (Hp.put h b q) a o := by
  funext i
  simp only [Hp.put]
  by_cases h1 : i = a
  · subst h1; simp [hne]
  · simp [h1]
theorem Hp.le_put {h : Hp} {k : Nat} {o : Ob} (hk : h k = none) : h.le (h.put k o) := by
  intro j q hj
  simp only [Hp.put]
  rw [if_neg (fun e => by rw [e, hk] at hj; cases hj)]
  exact hj

theorem swap {a b : AO} (hp : okPair a b = true) {s : S} {K : S → Prop} (hh : aone std (CallP P) a s fun s1 => aone std (CallP P) b s1 K) : aone std (CallP P) b s fun s1 => aone std (CallP P) a s1 K := by
  unfold okPair at hp
  simp only [Bool.and_eq_true, Bool.or_eq_true, bne_iff_ne] at hp
  obtain ⟨hap, hkind⟩ := hp
  obtain ⟨h1, h2⟩ := apart_spec hap
  have hcm : ∀ i, a.d = some i → b.d ≠ some i := fun i he => (h1 i he).2
  have hcm2 : ∀ i, b.d = some i → a.d ≠ some i := fun i he ha => (h1 i ha).2 he
  rcases hkind with ((hpa | ⟨hfa, (hfb | hnb) | hab⟩) | ⟨hna, hpb | ⟨hnb, hkey⟩⟩) | ⟨haa, hpb⟩
  · -- the first is pure
    obtain ⟨va, ha⟩ := pure_aone hpa hh
    have hb := (ha s (fun _ _ => rfl) _).1 hh
    exact any_aone (d0 := a.d) (u := va) (fun e he => h1 e he) (fun s1 hs hk => (ha s1 (fun i hi => hs i fun hb => h2 i hb hi) _).2 hk) hb
  · -- both answer alone
    obtain ⟨va, ha1, ha2⟩ := fun_aone hfa hh
    obtain ⟨vb, hb1, hb2⟩ := fun_aone hfb ha1
    have e1 : ∀ i ∈ b.looks, s.t i = (s.put a.d va).t i := fun i hi => (put_t fun he => (h1 i he).1 hi).symm
    refine hb2 s e1 (by rw [put_h]; exact Hp.le_refl _) _ (ha2 _ (fun i hi => put_t fun he => h2 i he hi) (by rw [put_h]; exact Hp.le_refl _) _ ?_)
    rw [put_comm hcm2]
    exact hb1
  · -- the second makes an object
    obtain ⟨va, ha1, ha2⟩ := fun_aone hfa hh
    obtain ⟨vb, ob, hb⟩ := new_aone hnb ha1
    obtain ⟨hk, hβ⟩ := (hb _ (fun _ _ => rfl) _).1 ha1
    rw [put_h] at hk
    have e1 : ∀ i ∈ b.looks, s.t i = (s.put a.d va).t i := fun i hi => (put_t fun he => (h1 i he).1 hi).symm
    refine (hb s e1 _).2 ⟨hk, fun β => ha2 ((s.seth (s.h.put b.key (ob β))).put b.d (vb β)) (fun i hi => put_t (s := s.seth (s.h.put b.key (ob β))) fun he => h2 i he hi) (by rw [put_h]; exact Hp.le_put hk) _ ?_⟩
    have := hβ β
    rw [put_h, put_seth, put_comm hcm] at this
    exact this
  · -- the second makes a copy
    obtain ⟨va, ha1, ha2⟩ := fun_aone hfa hh
    obtain ⟨kb, vb, ob, hb⟩ := app_aone hab ha1
    obtain ⟨hk, hβ⟩ := (hb _ (fun _ _ => rfl) rfl _).1 ha1
    rw [put_h] at hk
    have e1 : ∀ i ∈ b.looks, s.t i = (s.put a.d va).t i := fun i hi => (put_t fun he => (h1 i he).1 hi).symm
    refine (hb s e1 put_h.symm _).2 ⟨hk, fun β => ha2 ((s.seth (s.h.put kb (ob β))).put b.d (vb β)) (fun i hi => put_t (s := s.seth (s.h.put kb (ob β))) fun he => h2 i he hi) (by rw [put_h]; exact Hp.le_put hk) _ ?_⟩
    have := hβ β
    rw [put_h, put_seth, put_comm hcm] at this
    exact this
  · -- the first makes an object, the second is pure
    obtain ⟨va, oa, ha⟩ := new_aone hna hh
    obtain ⟨hk, hβ⟩ := (ha _ (fun _ _ => rfl) _).1 hh
    obtain ⟨vb, hb⟩ := pure_aone hpb (hβ 0)
    have e0 : ∀ (β : Nat), ∀ i ∈ b.looks, ((s.seth (s.h.put a.key (oa β))).put a.d (va β)).t i = s.t i := fun β i hi => put_t fun he => (h1 i he).1 hi
    have eq : ∀ (β : Nat), ∀ i ∈ b.looks, ((s.seth (s.h.put a.key (oa β))).put a.d (va β)).t i = ((s.seth (s.h.put a.key (oa 0))).put a.d (va 0)).t i := fun β i hi => (e0 β i hi).trans (e0 0 i hi).symm
    refine (hb s (fun i hi => (e0 0 i hi).symm) _).2 ((ha _ (fun i hi => put_t fun he => h2 i he hi) _).2 ⟨by rw [put_h]; exact hk, fun β => ?_⟩)
    have := (hb _ (eq β) _).1 (hβ β)
    rw [put_h, put_seth, put_comm hcm2]
    exact this
  · -- both make objects
    obtain ⟨va, oa, ha⟩ := new_aone hna hh
    obtain ⟨hk, hβ⟩ := (ha _ (fun _ _ => rfl) _).1 hh
    obtain ⟨vb, ob, hb⟩ := new_aone hnb (hβ 0)
    have e0 : ∀ (β : Nat), ∀ i ∈ b.looks, ((s.seth (s.h.put a.key (oa β))).put a.d (va β)).t i = s.t i := fun β i hi => put_t fun he => (h1 i he).1 hi
    have eq : ∀ (β : Nat), ∀ i ∈ b.looks, ((s.seth (s.h.put a.key (oa β))).put a.d (va β)).t i = ((s.seth (s.h.put a.key (oa 0))).put a.d (va 0)).t i := fun β i hi => (e0 β i hi).trans (e0 0 i hi).symm
    have hkb : s.h b.key = none := by
      have := ((hb _ (eq 0) _).1 (hβ 0)).1
      rw [put_h, seth_h] at this
      simp only [Hp.put] at this
      rw [if_neg (fun e => hkey e.symm)] at this
      exact this
    refine (hb s (fun i hi => (e0 0 i hi).symm) _).2 ⟨hkb, fun γ => (ha ((s.seth (s.h.put b.key (ob γ))).put b.d (vb γ)) (fun i hi => put_t (s := s.seth (s.h.put b.key (ob γ))) fun he => h2 i he hi) _).2 ⟨?_, fun β => ?_⟩⟩
    · rw [put_h, seth_h]
      simp only [Hp.put]
      rw [if_neg hkey]
      exact hk
    · have := ((hb _ (eq β) _).1 (hβ β)).2 γ
      rw [put_h, seth_h, put_seth, seth_seth, put_comm hcm, hp_put_comm hkey] at this
      rw [put_h, seth_h, put_seth, seth_seth]
      exact this

  · -- the first makes a copy, the second is pure
    obtain ⟨ka, va, oa, ha⟩ := app_aone haa hh
    obtain ⟨hk, hβ⟩ := (ha _ (fun _ _ => rfl) rfl _).1 hh
    obtain ⟨vb, hb⟩ := pure_aone hpb (hβ none)
    have e0 : ∀ (β : Option Nat), ∀ i ∈ b.looks, ((s.seth (s.h.put ka (oa β))).put a.d (va β)).t i = s.t i := fun β i hi => put_t fun he => (h1 i he).1 hi
    have eq : ∀ (β : Option Nat), ∀ i ∈ b.looks, ((s.seth (s.h.put ka (oa β))).put a.d (va β)).t i = ((s.seth (s.h.put ka (oa none))).put a.d (va none)).t i := fun β i hi => (e0 β i hi).trans (e0 none i hi).symm
    refine (hb s (fun i hi => (e0 none i hi).symm) _).2 ((ha _ (fun i hi => put_t fun he => h2 i he hi) put_h _).2 ⟨by rw [put_h]; exact hk, fun β => ?_⟩)
    have := (hb _ (eq β) _).1 (hβ β)
    rw [put_h, put_seth, put_comm hcm2]
    exact this

/-- operations by their numbers -/
def aopsI (T : CallT) (al : List AO) : List Nat → S → (S → Prop) → Prop
  | [], s, K => K s
  | i :: R, s, K => match al[i]? with
    | some o => aone std T o s fun s => aopsI T al R s K
    | none => False

theorem aopsI_all {T : CallT} {al : List AO} : ∀ (l pre : List AO), al = pre ++ l → ∀ s K, aopsI T al (List.range' pre.length l.length) s K = aops std T l s K
  | [], pre, _, s, K => rfl
  | o :: l, pre, he, s, K => by
    rw [List.length_cons, List.range'_succ]
    simp only [aopsI]
    have : al[pre.length]? = some o := by rw [he]; simp
    rw [this]
    have ih := aopsI_all (T := T) (al := al) l (pre ++ [o]) (by rw [he]; simp)
    simp only [List.length_append, List.length_cons, List.length_nil, Nat.zero_add] at ih
    have e : (fun s => aopsI T al (List.range' (pre.length + 1) l.length) s K) = fun s => aops std T l s K := funext fun s => ih s K
    simp only [e]
    rfl

theorem aopsI_pre {T : CallT} {al : List AO} : ∀ (l pre rest : List AO), al = pre ++ (l ++ rest) → ∀ s K, aopsI T al (List.range' pre.length l.length) s K = aops std T l s K
  | [], pre, rest, _, s, K => rfl
  | o :: l, pre, rest, he, s, K => by
    rw [List.length_cons, List.range'_succ]
    simp only [aopsI]
    have : al[pre.length]? = some o := by rw [he]; simp
    rw [this]
    have ih := aopsI_pre (T := T) (al := al) l (pre ++ [o]) rest (by rw [he]; simp)
    simp only [List.length_append, List.length_cons, List.length_nil, Nat.zero_add] at ih
    have e : (fun s => aopsI T al (List.range' (pre.length + 1) l.length) s K) = fun s => aops std T l s K := funext fun s => ih s K
    simp only [e]
    rfl

/-- one that meddles with none ahead of it may come first -/
theorem to_front {al : List AO} {i : Nat} {oi : AO} (hi : al[i]? = some oi) : ∀ (R1 R2 : List Nat) (s : S) (K : S → Prop), (∀ j ∈ R1, ∃ oj, al[j]? = some oj ∧ okPair oj oi = true) → aopsI (CallP P) al (R1 ++ i :: R2) s K →
    aone std (CallP P) oi s fun s => aopsI (CallP P) al (R1 ++ R2) s K
  | [], R2, s, K, _, h => by
    simp only [List.nil_append, aopsI, hi] at h
    exact h
  | j :: R1, R2, s, K, hR, h => by
    obtain ⟨oj, hj, hp⟩ := hR j (by simp)
    simp only [List.cons_append, aopsI, hj] at h
    have h' := aone_mono (fun s1 hs1 => to_front hi R1 R2 s1 K (fun k hk => hR k (by simp [hk])) hs1) h
    have := swap hp h'
    simpa only [List.cons_append, aopsI, hj] using this

/-- may such a region be read in the text's order? -/
def drawD (ops : Array Oper) (al : List AO) : Bool :=
  let t := ancTbl ops ops.size
  (List.range ops.size).all fun i => (predsOf ops i).all (fun j => decide (j < i)) &&
    (List.range i).all fun j => ((t.getD i []).contains j) || (match al[j]?, al[i]? with
      | some a, some b => okPair a b
      | _, _ => false)

theorem trOs_get {P : Program} {n : Nat} {ops : Array Oper} : ∀ {l : List Oper} {al : List AO}, trOs P n ops l = some al → l.length = al.length ∧ ∀ (i : Nat) (o : Oper), l[i]? = some o → ∃ a, al[i]? = some a ∧ trO P n ops o = some a
  | [], al, h => by simp [trOs] at h; subst h; simp
  | o :: l, al, h => by
    simp only [trOs] at h
    split at h
    · rename_i a m ha hm
      cases h
      obtain ⟨h1, h2⟩ := trOs_get hm
      refine ⟨by simp [h1], fun i o' ho => ?_⟩
      cases i with
      | zero => simp at ho; subst ho; exact ⟨a, rfl, ha⟩
      | succ i => exact h2 i o' (by simpa using ho)
    · cases h

theorem any_sound {C : Ctx} {n : Nat} {ops : Array Oper} {al : List AO} {Q : Exit → Act → World → Prop} (hC : C.Ok) (hal : trOs P n ops ops.toList = some al) (hD : drawD ops al = true) {K : S → Prop} (hQ : ∀ s' a' w', Sat C n s' a' w' → K s' → Q .normal a' w') :
    ∀ (R : List Nat) (listed : Array Bool) (s : S) (a : Act) (w : World), listed.size = ops.size → (∀ i, i ∈ R ↔ i < ops.size ∧ listed.getD i true = false) → R.Pairwise (· < ·) → (∀ i, i < ops.size → listed.getD i false = true → ∀ j ∈ predsOf ops i, listed.getD j false = true) →
      Sat C n s a w → aopsI (CallP P) al R s K → wpAny P .any ops Q R.length listed a w := by
  have anc_listed : ∀ (listed : Array Bool), (∀ i, i < ops.size → listed.getD i false = true → ∀ j ∈ predsOf ops i, listed.getD j false = true) → ∀ j i, Anc ops j i → (∀ k ∈ predsOf ops i, listed.getD k false = true) → listed.getD j false = true := by
    intro listed hcl j i ha
    induction ha with
    | base h => exact fun hp => hp _ h
    | @step k i h h' ih =>
      intro hp
      have hk := hp k h
      have hks : k < ops.size := by
        rcases Nat.lt_or_ge k ops.size with h1 | h1
        · exact h1
        · exfalso
          have : predsOf ops k = [] := by unfold predsOf; rw [Array.getElem?_eq_none h1]
          cases h' with
          | base h2 => rw [this] at h2; cases h2
          | step h2 _ => rw [this] at h2; cases h2
      exact ih (hcl k hks hk)
  have chk : ∀ i, i < ops.size → (∀ j ∈ predsOf ops i, j < i) ∧ ∀ j, j < i → Anc ops j i ∨ ∃ a b, al[j]? = some a ∧ al[i]? = some b ∧ okPair a b = true := by
    intro i hi
    unfold drawD at hD
    have h1 := List.all_eq_true.1 hD i (List.mem_range.2 hi)
    simp only [Bool.and_eq_true] at h1
    refine ⟨fun j hj => by simpa using List.all_eq_true.1 h1.1 j hj, fun j hj => ?_⟩
    have h2 := List.all_eq_true.1 h1.2 j (List.mem_range.2 hj)
    simp only [Bool.or_eq_true] at h2
    rcases h2 with h2 | h2
    · exact .inl (ancTbl_sound ops ops.size i j (by simpa using h2))
    · right
      cases ha : al[j]? with
      | none => rw [ha] at h2; simp at h2
      | some x =>
        cases hb : al[i]? with
        | none => rw [ha, hb] at h2; simp at h2
        | some y => rw [ha, hb] at h2; exact ⟨x, y, rfl, rfl, h2⟩
  have getb : ∀ (listed : Array Bool) (i : Nat), listed.size = ops.size → i < ops.size → (listed.getD i true = false ↔ ¬ listed.getD i false = true) := by
    intro listed i hs hi
    have : i < listed.size := by omega
    simp [this]
  intro R
  generalize hk : R.length = k
  induction k generalizing R with
  | zero =>
    intro listed s a w hsz hmem _ _ hs hK
    have hR : R = [] := List.eq_nil_of_length_eq_zero hk
    subst hR
    refine ⟨List.eq_nil_iff_forall_not_mem.2 fun j hj => ?_, hQ s a w hs hK⟩
    obtain ⟨h1, o, ho, _⟩ := mem_ready.1 hj
    have := (hmem j).2 ⟨(Array.getElem?_eq_some_iff.1 ho).1, h1⟩
    cases this
  | succ k ih =>
    intro listed s a w hsz hmem hsort hcl hs hK
    refine ⟨fun hr => ?_, fun i hi => ?_⟩
    · exfalso
      cases R with
      | nil => cases hk
      | cons i0 R =>
        obtain ⟨hi0, hl0⟩ := (hmem i0).1 (by simp)
        have : i0 ∈ Region.ready .any ops listed := by
          refine mem_ready.2 ⟨hl0, ops[i0], Array.getElem?_eq_getElem hi0, fun e he hb => ?_⟩
          have hp : e.on ∈ predsOf ops i0 := by
            unfold predsOf
            rw [Array.getElem?_eq_getElem hi0]
            exact List.mem_map.2 ⟨e, List.mem_filter.2 ⟨by simpa using he, hb⟩, rfl⟩
          have hlt := (chk i0 hi0).1 _ hp
          by_cases hl : listed.getD e.on false = true
          · exact hl
          · exfalso
            have hin := (hmem e.on).2 ⟨by omega, (getb listed e.on hsz (by omega)).2 hl⟩
            rcases List.mem_cons.1 hin with h | h
            · omega
            · have := (List.pairwise_cons.1 hsort).1 _ h
              omega
        rw [hr] at this
        cases this
    · obtain ⟨hl, o, ho, hall⟩ := mem_ready.1 hi
      have hio : i < ops.size := (Array.getElem?_eq_some_iff.1 ho).1
      have hiR : i ∈ R := (hmem i).2 ⟨hio, hl⟩
      obtain ⟨R1, R2, rfl⟩ := List.append_of_mem hiR
      have hpre : ∀ k ∈ predsOf ops i, listed.getD k false = true := by
        intro k hkp
        unfold predsOf at hkp
        rw [ho] at hkp
        obtain ⟨e, he, rfl⟩ := List.mem_map.1 hkp
        obtain ⟨he1, he2⟩ := List.mem_filter.1 he
        exact hall e (by simpa using he1) he2
      obtain ⟨_, hget⟩ := trOs_get hal
      obtain ⟨ai, hai, htr⟩ := hget i o (by simpa using ho)
      have hsort1 := List.pairwise_append.1 hsort
      have hR1 : ∀ j ∈ R1, ∃ oj, al[j]? = some oj ∧ okPair oj ai = true := by
        intro j hj
        have hji : j < i := hsort1.2.2 j hj i (by simp)
        obtain ⟨hjs, hjl⟩ := (hmem j).1 (by simp [hj])
        rcases (chk i hio).2 j hji with h | ⟨x, y, hx, hy, hxy⟩
        · exact absurd (anc_listed listed hcl j i h hpre) ((getb listed j hsz hjs).1 hjl)
        · rw [hai] at hy
          cases hy
          exact ⟨x, hx, hxy⟩
      have hfront := to_front hai R1 R2 s K hR1 hK
      have hnd : i ∉ R1 ++ R2 := by
        intro h
        rcases List.mem_append.1 h with h | h
        · have := hsort1.2.2 i h i (by simp); omega
        · have := (List.pairwise_cons.1 hsort1.2.1).1 i h; omega
      unfold wpOp
      rw [ho]
      refine aone_sound callP_ok hC htr hs hfront fun s' a' w' hs' hK' => ih (R1 ++ R2) ?_ (listed.setIfInBounds i true) s' a' w' (by simp [hsz]) (fun j => ?_) ?_ (fun j hj hlj q hq => ?_) hs' hK'
      · simp at hk ⊢; omega
      · by_cases hij : i = j
        · subst hij
          have h1 : (listed.setIfInBounds i true).getD i true = true := by
            have : i < listed.size := by omega
            simp [this]
          rw [h1]
          exact ⟨fun h => absurd h hnd, fun h => by simp at h⟩
        · rw [getD_set_ne true hij, ← hmem j]
          simp only [List.mem_append, List.mem_cons]
          constructor
          · rintro (h | h)
            · exact .inl h
            · exact .inr (.inr h)
          · rintro (h | h | h)
            · exact .inl h
            · exact absurd h.symm hij
            · exact .inr h
      · refine List.pairwise_append.2 ⟨hsort1.1, (List.pairwise_cons.1 hsort1.2.1).2, fun x hx y hy => hsort1.2.2 x hx y (by simp [hy])⟩
      · by_cases hij : i = j
        · subst hij
          exact getD_set_true (hpre q hq)
        · rw [getD_set_ne false hij] at hlj
          exact getD_set_true (hcl j hj hlj q hq)

/-- the last operation of a region, behind all the others, may meddle -/
theorem any_sound2 {C : Ctx} {n : Nat} {ops : Array Oper} {al : List AO} {ol : AO} {m : Nat} {Q : Exit → Act → World → Prop} (hC : C.Ok) (hal : trOs P n ops ops.toList = some al) (hD : drawD ops al = true) (hm : ops.size = m + 1) (hol : al[m]? = some ol) (hlast : ∀ j, j < m → Anc ops j m) {K : S → Prop} (hQ : ∀ s' a' w', Sat C n s' a' w' → K s' → Q .normal a' w') :
    ∀ (R : List Nat) (listed : Array Bool) (s : S) (a : Act) (w : World), listed.size = ops.size → (∀ i, i ∈ R ↔ i < m ∧ listed.getD i true = false) → listed.getD m true = false → R.Pairwise (· < ·) → (∀ i, i < ops.size → listed.getD i false = true → ∀ j ∈ predsOf ops i, listed.getD j false = true) →
      Sat C n s a w → aopsI (CallP P) al R s (fun s' => aone std (CallE P) ol s' K) → wpAny P .any ops Q (R.length + 1) listed a w := by
  have anc_listed : ∀ (listed : Array Bool), (∀ i, i < ops.size → listed.getD i false = true → ∀ j ∈ predsOf ops i, listed.getD j false = true) → ∀ j i, Anc ops j i → (∀ k ∈ predsOf ops i, listed.getD k false = true) → listed.getD j false = true := by
    intro listed hcl j i ha
    induction ha with
    | base h => exact fun hp => hp _ h
    | @step k i h h' ih =>
      intro hp
      have hk := hp k h
      have hks : k < ops.size := by
        rcases Nat.lt_or_ge k ops.size with h1 | h1
        · exact h1
        · exfalso
          have : predsOf ops k = [] := by unfold predsOf; rw [Array.getElem?_eq_none h1]
          cases h' with
          | base h2 => rw [this] at h2; cases h2
          | step h2 _ => rw [this] at h2; cases h2
      exact ih (hcl k hks hk)
  have chk : ∀ i, i < ops.size → (∀ j ∈ predsOf ops i, j < i) ∧ ∀ j, j < i → Anc ops j i ∨ ∃ a b, al[j]? = some a ∧ al[i]? = some b ∧ okPair a b = true := by
    intro i hi
    unfold drawD at hD
    have h1 := List.all_eq_true.1 hD i (List.mem_range.2 hi)
    simp only [Bool.and_eq_true] at h1
    refine ⟨fun j hj => by simpa using List.all_eq_true.1 h1.1 j hj, fun j hj => ?_⟩
    have h2 := List.all_eq_true.1 h1.2 j (List.mem_range.2 hj)
    simp only [Bool.or_eq_true] at h2
    rcases h2 with h2 | h2
    · exact .inl (ancTbl_sound ops ops.size i j (by simpa using h2))
    · right
      cases ha : al[j]? with
      | none => rw [ha] at h2; simp at h2
      | some x =>
        cases hb : al[i]? with
        | none => rw [ha, hb] at h2; simp at h2
        | some y => rw [ha, hb] at h2; exact ⟨x, y, rfl, rfl, h2⟩
  have getb : ∀ (listed : Array Bool) (i : Nat), listed.size = ops.size → i < ops.size → (listed.getD i true = false ↔ ¬ listed.getD i false = true) := by
    intro listed i hs hi
    have : i < listed.size := by omega
    simp [this]
  have prelisted : ∀ (listed : Array Bool) (i : Nat) (o : Oper), ops[i]? = some o → (∀ e, e ∈ o.after → Region.binds .any e = true → listed.getD e.on false = true) → ∀ k ∈ predsOf ops i, listed.getD k false = true := by
    intro listed i o ho hall k hkp
    unfold predsOf at hkp
    rw [ho] at hkp
    obtain ⟨e, he, rfl⟩ := List.mem_map.1 hkp
    obtain ⟨he1, he2⟩ := List.mem_filter.1 he
    exact hall e (by simpa using he1) he2
  intro R
  generalize hk : R.length = k
  induction k generalizing R with
  | zero =>
    intro listed s a w hsz hmem hlm _ hcl hs hK
    have hR : R = [] := List.eq_nil_of_length_eq_zero hk
    subst hR
    have hall0 : ∀ j, j < m → listed.getD j false = true := by
      intro j hj
      cases hb : listed.getD j false with
      | true => rfl
      | false =>
        have := (hmem j).2 ⟨hj, (getb listed j hsz (by omega)).2 (by rw [hb]; simp)⟩
        cases this
    refine ⟨fun hr => ?_, fun i hi => ?_⟩
    · exfalso
      have : m ∈ Region.ready .any ops listed := by
        refine mem_ready.2 ⟨hlm, ops[m], Array.getElem?_eq_getElem (by omega), fun e he hb => hall0 _ ?_⟩
        have hp : e.on ∈ predsOf ops m := by
          unfold predsOf
          rw [Array.getElem?_eq_getElem (by omega)]
          exact List.mem_map.2 ⟨e, List.mem_filter.2 ⟨by simpa using he, hb⟩, rfl⟩
        exact (chk m (by omega)).1 _ hp
      rw [hr] at this
      cases this
    · obtain ⟨hl, o, ho, hall⟩ := mem_ready.1 hi
      have hio : i < ops.size := (Array.getElem?_eq_some_iff.1 ho).1
      have him : i = m := by
        rcases Nat.lt_or_ge i m with h | h
        · exfalso; exact (getb listed i hsz hio).1 hl (hall0 i h)
        · omega
      subst him
      obtain ⟨_, hget⟩ := trOs_get hal
      obtain ⟨ai, hai, htr⟩ := hget i o (by simpa using ho)
      rw [hol] at hai
      cases hai
      unfold wpOp
      rw [ho]
      refine aone_sound callE_ok hC htr hs hK fun s' a' w' hs' hK' => ⟨?_, hQ s' a' w' hs' hK'⟩
      refine List.eq_nil_iff_forall_not_mem.2 fun j hj => ?_
      obtain ⟨h1, o', ho', _⟩ := mem_ready.1 hj
      have hjs : j < ops.size := (Array.getElem?_eq_some_iff.1 ho').1
      by_cases hij : i = j
      · subst hij
        have : i < listed.size := by omega
        simp [this] at h1
      · rw [getD_set_ne true hij] at h1
        exact (getb listed j hsz hjs).1 h1 (hall0 j (by omega))
  | succ k ih =>
    intro listed s a w hsz hmem hlm hsort hcl hs hK
    refine ⟨fun hr => ?_, fun i hi => ?_⟩
    · exfalso
      cases R with
      | nil => cases hk
      | cons i0 R =>
        obtain ⟨hi0, hl0⟩ := (hmem i0).1 (by simp)
        have : i0 ∈ Region.ready .any ops listed := by
          refine mem_ready.2 ⟨hl0, ops[i0], Array.getElem?_eq_getElem (by omega), fun e he hb => ?_⟩
          have hp : e.on ∈ predsOf ops i0 := by
            unfold predsOf
            rw [Array.getElem?_eq_getElem (by omega)]
            exact List.mem_map.2 ⟨e, List.mem_filter.2 ⟨by simpa using he, hb⟩, rfl⟩
          have hlt := (chk i0 (by omega)).1 _ hp
          by_cases hl : listed.getD e.on false = true
          · exact hl
          · exfalso
            have hin := (hmem e.on).2 ⟨by omega, (getb listed e.on hsz (by omega)).2 hl⟩
            rcases List.mem_cons.1 hin with h | h
            · omega
            · have := (List.pairwise_cons.1 hsort).1 _ h
              omega
        rw [hr] at this
        cases this
    · obtain ⟨hl, o, ho, hall⟩ := mem_ready.1 hi
      have hio : i < ops.size := (Array.getElem?_eq_some_iff.1 ho).1
      have hpre : ∀ k ∈ predsOf ops i, listed.getD k false = true := by
        intro k hkp
        unfold predsOf at hkp
        rw [ho] at hkp
        obtain ⟨e, he, rfl⟩ := List.mem_map.1 hkp
        obtain ⟨he1, he2⟩ := List.mem_filter.1 he
        exact hall e (by simpa using he1) he2
      have him : i < m := by
        rcases Nat.lt_or_ge i m with h | h
        · exact h
        · exfalso
          have : i = m := by omega
          subst this
          cases R with
          | nil => cases hk
          | cons i0 R =>
            obtain ⟨hi0, hl0⟩ := (hmem i0).1 (by simp)
            exact (getb listed i0 hsz (by omega)).1 hl0 (anc_listed listed hcl i0 i (hlast i0 hi0) hpre)
      have hiR : i ∈ R := (hmem i).2 ⟨him, hl⟩
      obtain ⟨R1, R2, rfl⟩ := List.append_of_mem hiR
      obtain ⟨_, hget⟩ := trOs_get hal
      obtain ⟨ai, hai, htr⟩ := hget i o (by simpa using ho)
      have hsort1 := List.pairwise_append.1 hsort
      have hR1 : ∀ j ∈ R1, ∃ oj, al[j]? = some oj ∧ okPair oj ai = true := by
        intro j hj
        have hji : j < i := hsort1.2.2 j hj i (by simp)
        obtain ⟨hjs, hjl⟩ := (hmem j).1 (by simp [hj])
        rcases (chk i hio).2 j hji with h | ⟨x, y, hx, hy, hxy⟩
        · exact absurd (anc_listed listed hcl j i h hpre) ((getb listed j hsz (by omega)).1 hjl)
        · rw [hai] at hy
          cases hy
          exact ⟨x, hx, hxy⟩
      have hfront := to_front hai R1 R2 s _ hR1 hK
      have hnd : i ∉ R1 ++ R2 := by
        intro h
        rcases List.mem_append.1 h with h | h
        · have := hsort1.2.2 i h i (by simp); omega
        · have := (List.pairwise_cons.1 hsort1.2.1).1 i h; omega
      unfold wpOp
      rw [ho]
      refine aone_sound callP_ok hC htr hs hfront fun s' a' w' hs' hK' => ih (R1 ++ R2) ?_ (listed.setIfInBounds i true) s' a' w' (by simp [hsz]) (fun j => ?_) ?_ ?_ (fun j hj hlj q hq => ?_) hs' hK'
      · simp at hk ⊢; omega
      · by_cases hij : i = j
        · subst hij
          have h1 : (listed.setIfInBounds i true).getD i true = true := by
            have : i < listed.size := by omega
            simp [this]
          rw [h1]
          exact ⟨fun h => absurd h hnd, fun h => by simp at h⟩
        · rw [getD_set_ne true hij, ← hmem j]
          simp only [List.mem_append, List.mem_cons]
          constructor
          · rintro (h | h)
            · exact .inl h
            · exact .inr (.inr h)
          · rintro (h | h | h)
            · exact .inl h
            · exact absurd h.symm hij
            · exact .inr h
      · rw [getD_set_ne true (by omega)]; exact hlm
      · refine List.pairwise_append.2 ⟨hsort1.1, (List.pairwise_cons.1 hsort1.2.1).2, fun x hx y hy => hsort1.2.2 x hx y (by simp [hy])⟩
      · by_cases hij : i = j
        · subst hij
          exact getD_set_true (hpre q hq)
        · rw [getD_set_ne false hij] at hlj
          exact getD_set_true (hcl j hj hlj q hq)

theorem drawD_ok (hm : P.follows .mixedOrders = true) : DrawOk P drawD := by
  refine ⟨hm, ?_, ?_⟩
  rotate_left
  · intro C n id ops al s a w K Q hC hal hD hl hs hK hQ
    refine wp_region_any hm ?_
    have hs2 : Sat C n s a { w with drawn := w.drawn + 1 } := by
      obtain ⟨F, hh, hr⟩ := hs.ex
      have hev : Ev (fun _ => False) w { w with drawn := w.drawn + 1 } := Ev.drew _ w
      refine ⟨⟨F, ⟨fun k o hk => ObSat.keep hC hh hev (fun _ _ h => h.elim) (hh.ob k o hk) (fun _ _ h => h.elim), hh.inj, hh.live, hh.old, hh.new, hh.lt, Ev.weak hh.ev hev fun _ _ h => h.elim⟩, fun i => hh.keep hC hev (fun _ _ h => h.elim) (hr i)⟩, hs.df, hs.sz⟩
    have hlen := (trOs_get hal).1
    have hlen' : al.length = ops.size := by rw [← hlen]; simp
    obtain ⟨al0, ol, rfl⟩ : ∃ al0 ol, al = al0 ++ [ol] := by
      cases hq : al.reverse with
      | nil =>
        have : al = [] := by simpa using hq
        subst this
        simp [lastC] at hl
      | cons x l => exact ⟨l.reverse, x, by rw [← List.reverse_reverse al, hq]; simp⟩
    have hsz : ops.size = al0.length + 1 := by rw [← hlen']; simp
    simp only [List.dropLast_concat, List.length_append, List.length_cons, List.length_nil, Nat.zero_add, Nat.add_sub_cancel] at hK
    rw [List.drop_left] at hK
    have hanc : ∀ j, j < al0.length → Anc ops j al0.length := by
      intro j hj
      unfold lastC at hl
      rw [List.getLast?_concat] at hl
      simp only [Bool.and_eq_true] at hl
      have := List.all_eq_true.1 hl.2 j (List.mem_range.2 (by omega))
      rw [hsz] at this
      exact ancTbl_sound ops (al0.length + 1) al0.length j (by simpa using this)
    have hall := aopsI_pre (T := CallP P) (al := al0 ++ [ol]) al0 [] [ol] rfl s fun s' => aone std (CallE P) ol s' K
    have := any_sound2 (m := al0.length) (ol := ol) hC hal hD hsz (by simp) hanc hQ (List.range' 0 al0.length) (Array.replicate ops.size false) s a { w with drawn := w.drawn + 1 } (by simp) (fun i => ?_) (by rw [hsz]; simp) ?_ (fun i hi hl => ?_) hs2 (by
      rw [show (0 : Nat) = ([] : List AO).length from rfl, hall]; exact hK)
    · rw [List.length_range', ← hsz] at this
      exact this
    · simp only [List.mem_range'_1, Nat.zero_le, Nat.zero_add, true_and]
      exact ⟨fun h => ⟨h, by have : i < ops.size := by omega
                             simp [this]⟩, fun h => h.1⟩
    · exact List.pairwise_lt_range'
    · simp [hi] at hl
  intro C n id ops al s a w K Q hC hal hD hs hK hQ
  refine wp_region_any hm ?_
  have hs2 : Sat C n s a { w with drawn := w.drawn + 1 } := by
    obtain ⟨F, hh, hr⟩ := hs.ex
    have hev : Ev (fun _ => False) w { w with drawn := w.drawn + 1 } := Ev.drew _ w
    refine ⟨⟨F, ⟨fun k o hk => ObSat.keep hC hh hev (fun _ _ h => h.elim) (hh.ob k o hk) (fun _ _ h => h.elim), hh.inj, hh.live, hh.old, hh.new, hh.lt, Ev.weak hh.ev hev fun _ _ h => h.elim⟩, fun i => hh.keep hC hev (fun _ _ h => h.elim) (hr i)⟩, hs.df, hs.sz⟩
  have hlen := (trOs_get hal).1
  have hall := aopsI_all (T := CallP P) (al := al) al [] rfl s K
  have hrange : (List.range' 0 al.length).length = ops.size := by simp [← hlen]
  have := any_sound hC hal hD hQ (List.range' 0 al.length) (Array.replicate ops.size false) s a { w with drawn := w.drawn + 1 } (by simp) (fun i => ?_) ?_ (fun i hi hl => ?_) hs2 (by rw [show (0 : Nat) = ([] : List AO).length from rfl, hall]; exact hK)
  · rw [hrange] at this
    exact this
  · have he : al.length = ops.size := by rw [← hlen]; simp
    rw [he]
    simp only [List.mem_range'_1, Nat.zero_le, Nat.zero_add, true_and]
    exact ⟨fun h => ⟨h, by simp [h]⟩, fun h => h.1⟩
  · exact List.pairwise_lt_range'
  · simp [hi] at hl
end
end Go.Proofs.Ytobngncjflogcaa.AM

set_option linter.unusedVariables false
set_option linter.unusedSimpArgs false
namespace Go.Proofs.Ytobngncjflogcaa.AM
open Go
open Go.ChangeShapes Go.WideShapes Go.ChangeAt Go.RowKit

theorem nc (n : Nat) : (NatCast.natCast n : Int) = (n : Int) := rfl
theorem dOk : DrawOk Try.prog drawD := drawD_ok (by kernel_rfl)

def OldB (w : World) : Nat → Prop := fun b => b < w.heap.size
/-- cells that read as values -/
structure CellsAs (w : World) (vs : List V) (cs : List Value) : Prop where
  len : vs.length = cs.length
  rel : ∀ (i : Nat) (v : V) (u : Value), vs[i]? = some v → cs[i]? = some u → Rel (OldB w) (fun _ => False) w v u ∧ u.oneCell' = true

theorem CellsAs.nil (w : World) : CellsAs w [] [] := ⟨rfl, by simp⟩
theorem CellsAs.app {w : World} {a c : List V} {b d : List Value} (h1 : CellsAs w a b) (h2 : CellsAs w c d) : CellsAs w (a ++ c) (b ++ d) := by
  refine ⟨by simp [h1.len, h2.len], fun i v u hv hu => ?_⟩
  by_cases hi : i < a.length
  · rw [List.getElem?_append_left hi] at hv
    rw [List.getElem?_append_left (by rw [← h1.len]; exact hi)] at hu
    exact h1.rel i v u hv hu
  · rw [List.getElem?_append_right (by omega)] at hv
    rw [List.getElem?_append_right (by rw [← h1.len]; omega), ← h1.len] at hu
    exact h2.rel _ v u hv hu
theorem CellsAs.one {w : World} {v : V} {u : Value} (h : Rel (OldB w) (fun _ => False) w v u) (h1 : u.oneCell' = true) : CellsAs w [v] [u] := by
  refine ⟨rfl, fun i v' u' hv hu => ?_⟩
  cases i with
  | zero => simp at hv hu; subst hv hu; exact ⟨h, h1⟩
  | succ i => simp at hv

/-- data of a type read as this -/
def ReadsAs (T : TypeId) (α : Type) (enc : α → List V) (ok : α → Prop) : Prop :=
  ∀ (H : Type) (e : TypeId × Value → H) (w : World) (base : Nat) (spare : Nat → Bool) (held : Bool) (fuel : Nat) (cs : List Value) (x : DataW H × List MemPlace),
    DataW.trod e Try.prog w base spare held fuel T cs = some x → ∃ a : α, ok a ∧ CellsAs w (enc a) cs

theorem reads_int {T : TypeId} (hT : Try.prog.underlying T = some (.int .i64)) : ReadsAs T Int (fun n => [.int .i64 n]) I64 := by
  intro H e w base spare held fuel cs x h
  obtain ⟨n, rfl, _, hn⟩ := DataW.trod_int hT h
  refine ⟨n, ?_, CellsAs.one (.int _ _) rfl⟩
  have h1 : IntKind.i64.min = -9223372036854775808 := rfl
  have h2 : IntKind.i64.max = 9223372036854775807 := rfl
  simp only [Lit.wf, Bool.and_eq_true, decide_eq_true_eq] at hn
  unfold I64
  omega
theorem reads_str {T : TypeId} (hT : Try.prog.underlying T = some .string) : ReadsAs T (List UInt8) (fun s => [.str s]) (fun s => s.length ≤ maxLen) := by
  intro H e w base spare held fuel cs x h
  obtain ⟨s, rfl, _, hs⟩ := DataW.trod_string hT h
  exact ⟨s.data.toList, by show s.data.toList.length ≤ maxLen; rw [Array.length_toList]; exact hs, CellsAs.one (.str _) rfl⟩

theorem list_of {α : Type} {Q : Nat → α → Prop} : ∀ n : Nat, (∀ i, i < n → ∃ a, Q i a) → ∃ l : List α, l.length = n ∧ ∀ (i : Nat) (a : α), l[i]? = some a → Q i a
  | 0, _ => ⟨[], rfl, by simp⟩
  | n + 1, h => by
    obtain ⟨l, hl, hq⟩ := list_of n fun i hi => h i (by omega)
    obtain ⟨a, ha⟩ := h n (by omega)
    refine ⟨l ++ [a], by simp [hl], fun i b hb => ?_⟩
    by_cases hi : i < l.length
    · rw [List.getElem?_append_left hi] at hb; exact hq i b hb
    · rw [List.getElem?_append_right (by omega)] at hb
      cases hk : i - l.length with
      | zero => rw [hk] at hb; simp at hb; subst hb; rw [show i = n by omega]; exact ha
      | succ k => rw [hk] at hb; simp at hb


theorem law_calls {f : Nat} {args : List V} {us : Array Value} {W : World} (hs : Spec Try.prog f args Hp.emp (Is (.bool true))) (hl : us.size = args.length)
    (hr : ∀ (i : Nat) (v : V) (u : Value), args[i]? = some v → us[i]? = some u → Rel (OldB W) (fun _ => False) W v u) :
    Calls Try.prog f us W fun e w' => e = .returned (.bool true) ∧ Below W.heap.size W w' := by
  let C : Ctx := ⟨W, OldB W, fun _ => False, fun _ => False⟩
  have hC : C.Ok := ⟨fun b hb => ⟨hb, fun h => h⟩, fun b hb => hb.elim, fun b hb => hb.elim⟩
  refine (hs.run C us hC hl hr ⟨fun k o hk => by simp [Hp.emp] at hk, fun k k' o o' b hk => by simp [Hp.emp] at hk, fun k o b hk => by simp [Hp.emp] at hk, fun b hb => .inl hb, fun b hb => hb, fun b hb => hb, Ev.refl _ _⟩).mono ?_
  rintro e w' ⟨u, v, h', F', rfl, hv, hs2, rfl, rfl⟩
  cases hv
  have hev : Ev (fun _ => False) W w' := hs2.ev
  exact ⟨rfl, hev.os, hev.tape, hev.output, hev.size, fun k hk => hev.same k hk (fun h => h)⟩
end Go.Proofs.Ytobngncjflogcaa.AM

set_option linter.unusedVariables false
set_option linter.unusedSimpArgs false
namespace Go.Proofs.Ytobngncjflogcaa.AM
open Go
set_option maxRecDepth 100000
set_option maxHeartbeats 2000000
open Go.ChangeShapes Go.WideShapes Go.ChangeAt Go.RowKit


def ReadsFs (fs : List Field) (off tot : Nat) (α : Type) (enc : α → List V) (ok : α → Prop) : Prop :=
  ∀ (H : Type) (e : TypeId × Value → H) (w : World) (base : Nat) (spare : Nat → Bool) (held : Bool) (n : Nat) (cs : List Value),
    (∀ (i : Nat) (f : Field), fs[i]? = some f → ∃ y : DataW H × List MemPlace, DataW.trod e Try.prog w base spare held n f.type ((cs.drop f.offset).take (Try.prog.cellsOf f.type)) = some y) →
    ∃ a : α, ok a ∧ CellsAs w (enc a) ((cs.drop off).take tot)
theorem reads_nil (off : Nat) : ReadsFs [] off 0 Unit (fun _ => []) (fun _ => True) := fun H e w base spare held n cs _ => ⟨(), trivial, by simpa using CellsAs.nil w⟩
theorem reads_cons {f : Field} {fs : List Field} {off k tot : Nat} {α β : Type} {e1 : α → List V} {e2 : β → List V} {ok1 : α → Prop} {ok2 : β → Prop} (h1 : ReadsAs f.type α e1 ok1) (ho : f.offset = off) (hk : Try.prog.cellsOf f.type = k)
    (h2 : ReadsFs fs (off + k) tot β e2 ok2) : ReadsFs (f :: fs) off (k + tot) (α × β) (fun p => e1 p.1 ++ e2 p.2) (fun p => ok1 p.1 ∧ ok2 p.2) := by
  intro H e w base spare held n cs h
  obtain ⟨y, hy⟩ := h 0 f rfl
  obtain ⟨a, ha, hc⟩ := h1 _ _ _ _ _ _ _ _ _ hy
  obtain ⟨b, hb, hd⟩ := h2 H e w base spare held n cs fun i g hg => h (i + 1) g (by simpa using hg)
  refine ⟨(a, b), ⟨ha, hb⟩, ?_⟩
  rw [List.take_add, List.drop_drop]
  rw [ho, hk] at hc
  exact hc.app hd
theorem reads_struct {T : TypeId} {fs : Array Field} {tot : Nat} {α : Type} {enc : α → List V} {ok : α → Prop} (hT : Try.prog.underlying T = some (.struct fs)) (hf : ReadsFs fs.toList 0 tot α enc ok) (hk : Try.prog.cellsOf T = tot) : ReadsAs T α enc ok := by
  intro H e w base spare held fuel cs x h
  obtain ⟨xs, n, _, hx, hl, hlen, hg⟩ := DataW.trod_struct hT h
  obtain ⟨a, ha, hc⟩ := hf H e w base spare held n cs fun i f hi => by
    have hi' : fs[i]? = some f := by simpa using hi
    have hlt : i < xs.length := by rw [hlen]; exact (Array.getElem?_eq_some_iff.1 hi').1
    exact ⟨xs[i], by rw [hg i f hi', List.getElem?_eq_getElem hlt]⟩
  refine ⟨a, ha, ?_⟩
  rw [List.drop_zero, List.take_of_length_le (by omega)] at hc
  exact hc
theorem reads_map {T : TypeId} {α β : Type} {e1 : α → List V} {ok1 : α → Prop} {e2 : β → List V} {ok2 : β → Prop} (h : ReadsAs T α e1 ok1) (g : α → β) (he : ∀ a, e2 (g a) = e1 a) (ho : ∀ a, ok1 a → ok2 (g a)) : ReadsAs T β e2 ok2 := by
  intro H e w base spare held fuel cs x hh
  obtain ⟨a, ha, hc⟩ := h _ _ _ _ _ _ _ _ _ hh
  exact ⟨g a, ho a ha, by rw [he]; exact hc⟩
theorem cells_of : ∀ {α : Type} {enc : α → List V} {w : World} {k : Nat} (l : List α) (cs : List Value), cs.length = l.length * k → (∀ (i : Nat) (a : α), l[i]? = some a → CellsAs w (enc a) ((cs.drop (i * k)).take k)) → CellsAs w (l.flatMap enc) cs
  | α, enc, w, k, [], cs, hl, h => by
    have : cs = [] := List.eq_nil_of_length_eq_zero (by simpa using hl)
    subst this
    exact CellsAs.nil w
  | α, enc, w, k, a :: l, cs, hl, h => by
    have h0 := h 0 a rfl
    rw [Nat.zero_mul, List.drop_zero] at h0
    have h1 := cells_of (enc := enc) (w := w) (k := k) l (cs.drop k) (by rw [List.length_drop, hl, List.length_cons, Nat.add_mul]; omega) fun i b hb => by
      have := h (i + 1) b (by simpa using hb)
      rw [List.drop_drop]
      rw [Nat.add_mul, Nat.one_mul, Nat.add_comm] at this
      exact this
    have := h0.app h1
    rw [List.take_append_drop] at this
    simpa using this
theorem reads_array {T E : TypeId} {n k : Nat} {α : Type} {enc : α → List V} {ok : α → Prop} (hT : Try.prog.underlying T = some (.array n E)) (hE : ReadsAs E α enc ok) (hk : Try.prog.cellsOf E = k) (hc : Try.prog.cellsOf T = n * k) :
    ReadsAs T (List α) (fun l => l.flatMap enc) (fun l => l.length = n ∧ ∀ a ∈ l, ok a) := by
  intro H e w base spare held fuel cs x h
  obtain ⟨xs, m, _, hx, hl, hlen, hg⟩ := DataW.trod_array hT h
  rw [hk] at hg
  have hi : ∀ i, i < n → ∃ b : α, ok b ∧ CellsAs w (enc b) ((cs.drop (i * k)).take k) := by
    intro i hi
    have h1 := hg i hi
    rw [List.getElem?_eq_getElem (by omega)] at h1
    exact hE _ _ _ _ _ _ _ _ _ h1
  obtain ⟨l, hll, hq⟩ := list_of n hi
  refine ⟨l, ⟨hll, fun b hb => ?_⟩, cells_of (k := k) l cs (by rw [hl, hc, hll]) fun i a ha => (hq i a ha).2⟩
  obtain ⟨i, hi'⟩ := List.getElem?_of_mem hb
  exact (hq i b hi').1

section
variable {H : Type} {enc : TypeId × Value → H} {w : World} {base : Nat} {spare : Nat → Bool} {held : Bool}
theorem open_many {T : TypeId} {α : Type} {f : α → List V} {ok : α → Prop} {v : Value} {d : DataW H} {p : List MemPlace} (hr : ReadsAs T α f ok) (hv : ∃ cs, v = .agg cs) (h : DataW.Trod enc Try.prog w base spare held T v d p) :
    ∃ a : α, ok a ∧ Rel (OldB w) (fun _ => False) w (.agg (f a)) v := by
  obtain ⟨fuel, h⟩ := h
  obtain ⟨cs, rfl⟩ := hv
  obtain ⟨a, ha, hc⟩ := hr _ _ _ _ _ _ _ _ _ h
  have hl : cs.size = (f a).length := by have := hc.len; simpa [Value.cells] using this.symm
  exact ⟨a, ha, .agg _ cs hl fun i v u hv hu => (hc.rel i v u hv (by simpa [Value.cells] using hu)).1⟩
end
end Go.Proofs.Ytobngncjflogcaa.AM

set_option linter.unusedVariables false
set_option linter.unusedSimpArgs false
namespace Go.Proofs.Ytobngncjflogcaa.AM
open Go
structure Part where
  kind : Int
  n : Int
  text : List UInt8
def encPart (p : Part) : List V := [.int .i64 p.kind, .int .i64 p.n, .str p.text]
def Part.Ok (p : Part) : Prop := I64 p.kind ∧ I64 p.n ∧ p.text.length ≤ maxLen
set_option maxRecDepth 100000
set_option maxHeartbeats 2000000

def fitF (p : Part) : Int :=
  if p.kind = 1 ∨ p.kind = 3 then (if p.n < 1 ∨ p.text ≠ [] then 3 else if p.n > 500 ∨ (p.text.length : Int) > 500 then 2 else 0)
  else if p.kind = 2 then (if p.n ≠ 0 ∨ p.text = [] then 3 else if p.n > 500 ∨ (p.text.length : Int) > 500 then 2 else 0)
  else 3
def ac_fit : AC := .seq (.region false [
    ⟨some 1, none, .box 108 3 (.t 0)⟩,
    ⟨some 2, none, .mov (.c (.int .i64 0))⟩])
  (.seq (.seq (.region false [
    ⟨some 3, none, .faddr 0 (.t 1)⟩,
    ⟨some 4, none, .load1 (.t 3)⟩])
  (.block 0 (.seq (.seq (.region false [
    ⟨some 6, none, .bin .eql (.t 4) (.c (.int .i64 1))⟩,
    ⟨some 5, none, .mov (.t 6)⟩])
  (.cond (.t 5)
    (.skip)
    (.region false [
      ⟨some 7, none, .bin .eql (.t 4) (.c (.int .i64 3))⟩,
      ⟨some 5, none, .mov (.t 7)⟩])))
  (.cond (.t 5)
    (.seq (.region false [
      ⟨some 8, none, .faddr 1 (.t 1)⟩,
      ⟨some 9, none, .load1 (.t 8)⟩,
      ⟨some 10, none, .bin .lss (.t 9) (.c (.int .i64 1))⟩,
      ⟨some 11, none, .mov (.t 10)⟩,
      ⟨some 12, some (11, false), .faddr 2 (.t 1)⟩,
      ⟨some 13, some (11, false), .load1 (.t 12)⟩,
      ⟨some 14, some (11, false), .bin .neq (.t 13) (.c (.string ⟨#[]⟩))⟩,
      ⟨some 15, none, .pick (.t 11) (.c (.bool true)) (.t 14)⟩])
    (.cond (.t 15)
      (.seq (.region false [
        ⟨some 2, none, .mov (.c (.int .i64 3))⟩])
      (.ret))
      (.skip)))
    (.seq (.region false [
      ⟨some 17, none, .bin .eql (.t 4) (.c (.int .i64 2))⟩,
      ⟨some 16, none, .mov (.t 17)⟩])
    (.cond (.t 16)
      (.seq (.region false [
        ⟨some 18, none, .faddr 1 (.t 1)⟩,
        ⟨some 19, none, .load1 (.t 18)⟩,
        ⟨some 20, none, .bin .neq (.t 19) (.c (.int .i64 0))⟩,
        ⟨some 21, none, .mov (.t 20)⟩,
        ⟨some 22, some (21, false), .faddr 2 (.t 1)⟩,
        ⟨some 23, some (21, false), .load1 (.t 22)⟩,
        ⟨some 24, some (21, false), .bin .eql (.t 23) (.c (.string ⟨#[]⟩))⟩,
        ⟨some 25, none, .pick (.t 21) (.c (.bool true)) (.t 24)⟩])
      (.cond (.t 25)
        (.seq (.region false [
          ⟨some 2, none, .mov (.c (.int .i64 3))⟩])
        (.ret))
        (.skip)))
      (.seq (.region false [
        ⟨some 2, none, .mov (.c (.int .i64 3))⟩])
      (.ret))))))))
  (.seq (.seq (.region false [
    ⟨some 26, none, .faddr 1 (.t 1)⟩,
    ⟨some 27, none, .load1 (.t 26)⟩,
    ⟨some 28, none, .bin .gtr (.t 27) (.c (.int .i64 500))⟩,
    ⟨some 29, none, .mov (.t 28)⟩,
    ⟨some 30, some (29, false), .faddr 2 (.t 1)⟩,
    ⟨some 31, some (29, false), .load1 (.t 30)⟩,
    ⟨some 32, some (29, false), .len true (.t 31)⟩,
    ⟨some 33, some (29, false), .bin .gtr (.t 32) (.c (.int .i64 500))⟩,
    ⟨some 34, none, .pick (.t 29) (.c (.bool true)) (.t 33)⟩])
  (.cond (.t 34)
    (.seq (.region false [
      ⟨some 2, none, .mov (.c (.int .i64 2))⟩])
    (.ret))
    (.skip)))
  (.seq (.region false [
    ⟨some 2, none, .mov (.c (.int .i64 0))⟩])
  (.ret))))
theorem ok_fit : FnOk Try.prog 112 Try.f112 ac_fit [.t 2] 1 drawD := ⟨Try.func112, by decide +kernel, by kernel_rfl, by kernel_rfl, by decide +kernel⟩
theorem vc_fit (P : Prim) (hP : P = std) (T T1 : CallT) (k n : Int) (t : List UInt8) (r : Int) (hr : fitF ⟨k, n, t⟩ = r) (R : S → Prop) (hR : ∀ s s', Ent s s' → Ret [.t 2] [.int .i64 r] s' → R s) :
    awp P T T1 ac_fit (S0 [.agg [.int .i64 k, .int .i64 n, .str t]] Hp.emp) R (fun _ _ => False) R := by
  cbv
  repeat' (first | (intro β; try cbv) | (refine And.intro (by assumption) ?_; try cbv) | (refine br_cases (fun h => ?_) (fun h => ?_) <;> try cbv))
  all_goals
    refine hR _ _ (Ent.refl _) ?_
    cbv
  all_goals
    subst hP
    subst hr
    simp [std] at *
    clear hR
    grind [fitF]
theorem sp_fit (p : Part) : Spec Try.prog 112 [.agg (encPart p)] Hp.emp (Is (.int .i64 (fitF p))) :=
  spec_pure dOk ok_fit [.int .i64 (fitF p)] (.int _ _) fun R hR => vc_fit std rfl _ _ p.kind p.n p.text _ rfl R hR

def ac_right : AC := .seq (.region false [
    ⟨some 1, none, .box 108 3 (.t 0)⟩,
    ⟨some 2, none, .mov (.c (.int .i64 0))⟩])
  (.seq (.region false [
    ⟨some 4, none, .faddr 0 (.t 1)⟩,
    ⟨some 5, none, .load1 (.t 4)⟩,
    ⟨some 6, none, .bin .eql (.t 5) (.c (.int .i64 2))⟩,
    ⟨some 7, none, .mov (.t 6)⟩,
    ⟨some 8, some (7, true), .faddr 1 (.t 1)⟩,
    ⟨some 9, some (7, true), .load1 (.t 8)⟩,
    ⟨some 10, some (7, true), .bin .eql (.t 9) (.c (.int .i64 0))⟩,
    ⟨some 11, none, .pick (.t 7) (.t 10) (.c (.bool false))⟩,
    ⟨some 12, none, .mov (.t 11)⟩,
    ⟨some 13, some (12, true), .faddr 2 (.t 1)⟩,
    ⟨some 14, some (12, true), .load1 (.t 13)⟩,
    ⟨some 15, some (12, true), .bin .neq (.t 14) (.c (.string ⟨#[]⟩))⟩,
    ⟨some 16, none, .pick (.t 12) (.t 15) (.c (.bool false))⟩,
    ⟨some 17, none, .mov (.t 16)⟩,
    ⟨some 18, some (17, false), .faddr 0 (.t 1)⟩,
    ⟨some 19, some (17, false), .load1 (.t 18)⟩,
    ⟨some 20, some (17, false), .bin .eql (.t 19) (.c (.int .i64 1))⟩,
    ⟨some 21, some (17, false), .mov (.t 20)⟩,
    ⟨some 22, some (21, false), .faddr 0 (.t 1)⟩,
    ⟨some 23, some (21, false), .load1 (.t 22)⟩,
    ⟨some 24, some (21, false), .bin .eql (.t 23) (.c (.int .i64 3))⟩,
    ⟨some 25, some (17, false), .pick (.t 21) (.c (.bool true)) (.t 24)⟩,
    ⟨some 26, some (17, false), .mov (.t 25)⟩,
    ⟨some 27, some (26, true), .faddr 1 (.t 1)⟩,
    ⟨some 28, some (26, true), .load1 (.t 27)⟩,
    ⟨some 29, some (26, true), .bin .gtr (.t 28) (.c (.int .i64 0))⟩,
    ⟨some 30, some (17, false), .pick (.t 26) (.t 29) (.c (.bool false))⟩,
    ⟨some 31, some (17, false), .mov (.t 30)⟩,
    ⟨some 32, some (31, true), .faddr 2 (.t 1)⟩,
    ⟨some 33, some (31, true), .load1 (.t 32)⟩,
    ⟨some 34, some (31, true), .bin .eql (.t 33) (.c (.string ⟨#[]⟩))⟩,
    ⟨some 35, some (17, false), .pick (.t 31) (.t 34) (.c (.bool false))⟩,
    ⟨some 36, none, .pick (.t 17) (.c (.bool true)) (.t 35)⟩,
    ⟨some 3, none, .mov (.t 36)⟩])
  (.seq (.seq (.region false [
    ⟨some 37, none, .mov (.t 3)⟩,
    ⟨some 38, none, .not (.t 37)⟩])
  (.cond (.t 38)
    (.seq (.region false [
      ⟨some 2, none, .mov (.c (.int .i64 3))⟩])
    (.ret))
    (.skip)))
  (.seq (.seq (.region false [
    ⟨some 39, none, .faddr 1 (.t 1)⟩,
    ⟨some 40, none, .load1 (.t 39)⟩,
    ⟨some 41, none, .bin .gtr (.t 40) (.c (.int .i64 500))⟩,
    ⟨some 42, none, .mov (.t 41)⟩,
    ⟨some 43, some (42, false), .faddr 2 (.t 1)⟩,
    ⟨some 44, some (42, false), .load1 (.t 43)⟩,
    ⟨some 45, some (42, false), .len true (.t 44)⟩,
    ⟨some 46, some (42, false), .bin .gtr (.t 45) (.c (.int .i64 500))⟩,
    ⟨some 47, none, .pick (.t 42) (.c (.bool true)) (.t 46)⟩])
  (.cond (.t 47)
    (.seq (.region false [
      ⟨some 2, none, .mov (.c (.int .i64 2))⟩])
    (.ret))
    (.skip)))
  (.seq (.region false [
    ⟨some 2, none, .mov (.c (.int .i64 0))⟩])
  (.ret)))))
theorem ok_right : FnOk Try.prog 123 Try.f123 ac_right [.t 2] 1 drawD := ⟨Try.func123, by decide +kernel, by kernel_rfl, by kernel_rfl, by decide +kernel⟩
theorem vc_right (P : Prim) (hP : P = std) (T T1 : CallT) (k n : Int) (t : List UInt8) (r : Int) (hr : fitF ⟨k, n, t⟩ = r) (R : S → Prop) (hR : ∀ s s', Ent s s' → Ret [.t 2] [.int .i64 r] s' → R s) :
    awp P T T1 ac_right (S0 [.agg [.int .i64 k, .int .i64 n, .str t]] Hp.emp) R (fun _ _ => False) R := by
  cbv
  repeat' (first | (intro β; try cbv) | (refine And.intro (by assumption) ?_; try cbv) | (refine br_cases (fun h => ?_) (fun h => ?_) <;> try cbv))
  all_goals
    refine hR _ _ (Ent.refl _) ?_
    cbv
  all_goals
    subst hP
    subst hr
    simp [std] at *
    clear hR
    grind [fitF]
theorem sp_right (p : Part) : Spec Try.prog 123 [.agg (encPart p)] Hp.emp (Is (.int .i64 (fitF p))) :=
  spec_pure dOk ok_right [.int .i64 (fitF p)] (.int _ _) fun R hR => vc_right std rfl _ _ p.kind p.n p.text _ rfl R hR
end Go.Proofs.Ytobngncjflogcaa.AM

set_option linter.unusedVariables false
set_option linter.unusedSimpArgs false
namespace Go.Proofs.Ytobngncjflogcaa.AM
open Go
set_option maxRecDepth 100000
set_option maxHeartbeats 2000000

def inF : List Part → Int
  | [] => 0
  | p :: l => (if p.kind = 1 ∨ p.kind = 3 then p.n else 0) + inF l
def outF : List Part → Int
  | [] => 0
  | p :: l => (if p.kind = 1 then p.n else if p.kind = 3 then 0 else p.text.length) + outF l
theorem inF_app (a b : List Part) : inF (a ++ b) = inF a + inF b := by induction a with
  | nil => simp [inF]
  | cons p a ih => simp only [List.cons_append, inF, ih]; omega
theorem outF_app (a b : List Part) : outF (a ++ b) = outF a + outF b := by induction a with
  | nil => simp [outF]
  | cons p a ih => simp only [List.cons_append, outF, ih]; omega
def okP (p : Part) : Prop := fitF p = 0
theorem okP_bd {p : Part} (h : okP p) : 0 ≤ p.n ∧ p.n ≤ 500 ∧ p.text.length ≤ 500 ∧ ((p.kind = 2 ∧ p.n = 0 ∧ p.text ≠ []) ∨ ((p.kind = 1 ∨ p.kind = 3) ∧ 0 < p.n ∧ p.text = [])) := by
  unfold okP fitF at h
  grind
theorem inF_bd (l : List Part) (h : ∀ p ∈ l, okP p) : 0 ≤ inF l ∧ inF l ≤ 500 * l.length := by induction l with
  | nil => simp [inF]
  | cons p l ih =>
    have h1 := okP_bd (h p (by simp))
    have h2 := ih fun q hq => h q (by simp [hq])
    simp only [inF, List.length_cons]
    split <;> omega
theorem outF_bd (l : List Part) (h : ∀ p ∈ l, okP p) : 0 ≤ outF l ∧ outF l ≤ 500 * l.length := by induction l with
  | nil => simp [outF]
  | cons p l ih =>
    have h1 := okP_bd (h p (by simp))
    have h2 := ih fun q hq => h q (by simp [hq])
    simp only [outF, List.length_cons]
    split
    · omega
    · split <;> omega
def chk : Int → List Part → Int
  | _, [] => 0
  | last, p :: l => if p.kind = last ∨ last = 3 ∧ p.kind = 2 then 3 else if fitF p ≠ 0 then fitF p else chk p.kind l
theorem chk_ok : ∀ (last : Int) (l : List Part), chk last l = 0 → ∀ p ∈ l, okP p
  | _, [], _ => by simp
  | last, p :: l, h => by
    unfold chk at h
    split at h
    · omega
    · split at h
      · contradiction
      · rename_i h2
        intro q hq
        rcases List.mem_cons.1 hq with rfl | hq
        · exact Decidable.of_not_not (p := fitF q = 0) h2
        · exact chk_ok _ l h q hq
def checkF (d : List Part) : Int := if 1600 < d.length then 2 else if chk 0 d ≠ 0 then chk 0 d else if 500 < inF d ∨ 500 < outF d then 2 else 0

theorem row_at {d : List Part} {rows : List (List V)} {p : Part} {pre rest : List Part} {k : Int} (hrows : rows = d.map encPart) (hd : d = pre ++ p :: rest) (hk : k = pre.length) (P : Prim) (hP : P = std) : P.row rows (P.nat k) (encPart p) := by
  subst hP; simp [std, hrows, hd, hk]

def ac_sizes : AC := .seq (.region false [
    ⟨some 2, none, .mov (.c (.int .i64 0))⟩,
    ⟨some 3, none, .mov (.c (.int .i64 0))⟩])
  (.seq (.seq (.region false [
    ⟨some 6, none, .mov (.t 0)⟩,
    ⟨some 7, none, .len false (.t 6)⟩,
    ⟨some 8, none, .mov (.c (.int .i64 0))⟩])
  (.block 0 (.loop (.seq (.region false [
      ⟨some 9, none, .bin .lss (.t 8) (.t 7)⟩])
    (.seq (.cond (.t 9)
      (.skip)
      (.exit 0))
    (.seq (.block 1 (.seq (.region false [
      ⟨some 10, none, .iaddr 3 (.t 6) (.t 8)⟩,
      ⟨some 11, none, .loadn 3 (.t 10)⟩,
      ⟨some 5, none, .alloc 108 [(.int .i64 0), (.int .i64 0), (.string ⟨#[]⟩)]⟩,
      ⟨none, none, .store 3 (.t 5) (.t 11)⟩])
    (.seq (.region false [
      ⟨some 12, none, .faddr 0 (.t 5)⟩,
      ⟨some 13, none, .load1 (.t 12)⟩])
    (.block 2 (.seq (.region false [
      ⟨some 20, none, .bin .eql (.t 13) (.c (.int .i64 1))⟩,
      ⟨some 19, none, .mov (.t 20)⟩])
    (.cond (.t 19)
      (.seq (.region false [
        ⟨some 21, none, .mov (.t 2)⟩,
        ⟨some 22, none, .faddr 1 (.t 5)⟩,
        ⟨some 23, none, .load1 (.t 22)⟩,
        ⟨some 24, none, .bin .add (.t 21) (.t 23)⟩,
        ⟨some 2, none, .mov (.t 24)⟩])
      (.region false [
        ⟨some 25, none, .mov (.t 3)⟩,
        ⟨some 26, none, .faddr 1 (.t 5)⟩,
        ⟨some 27, none, .load1 (.t 26)⟩,
        ⟨some 28, none, .bin .add (.t 25) (.t 27)⟩,
        ⟨some 3, none, .mov (.t 28)⟩]))
      (.seq (.region false [
        ⟨some 30, none, .bin .eql (.t 13) (.c (.int .i64 3))⟩,
        ⟨some 29, none, .mov (.t 30)⟩])
      (.cond (.t 29)
        (.region false [
          ⟨some 31, none, .mov (.t 2)⟩,
          ⟨some 32, none, .faddr 1 (.t 5)⟩,
          ⟨some 33, none, .load1 (.t 32)⟩,
          ⟨some 34, none, .bin .add (.t 31) (.t 33)⟩,
          ⟨some 2, none, .mov (.t 34)⟩])
        (.region false [
          ⟨some 14, none, .mov (.t 3)⟩,
          ⟨some 15, none, .faddr 2 (.t 5)⟩,
          ⟨some 16, none, .load1 (.t 15)⟩,
          ⟨some 17, none, .len true (.t 16)⟩,
          ⟨some 18, none, .bin .add (.t 14) (.t 17)⟩,
          ⟨some 3, none, .mov (.t 18)⟩])))))))))
    (.region false [
      ⟨some 35, none, .bin .add (.t 8) (.c (.int .i64 1))⟩,
      ⟨some 8, none, .mov (.t 35)⟩])))))))
  (.seq (.region false [
    ⟨some 36, none, .mov (.t 2)⟩,
    ⟨some 37, none, .mov (.t 3)⟩,
    ⟨some 2, none, .mov (.t 36)⟩,
    ⟨some 3, none, .mov (.t 37)⟩])
  (.ret)))
theorem ok_sizes : FnOk Try.prog 97 Try.f97 ac_sizes [.t 2, .t 3] 1 drawD := ⟨Try.func97, by decide +kernel, by kernel_rfl, by kernel_rfl, by decide +kernel⟩
theorem vc_sizes (P : Prim) (hP : P = std) (T T1 : CallT) (d : List Part) (hd1 : d.length ≤ 1600) (hd2 : ∀ p ∈ d, okP p) (rows : List (List V)) (hrows : rows = d.map encPart) (r1 r2 : Int) (hr1 : inF d = r1) (hr2 : outF d = r2)
    (R : S → Prop) (hR : ∀ s s', Ent s s' → Ret [.t 2, .t 3] [.int .i64 r1, .int .i64 r2] s' → R s) : awp P T T1 ac_sizes (S0 [.sl true 3 rows] Hp.emp) R (fun _ _ => False) R := by
  cbv
  refine ⟨{ y : Int × Int × Int × List Part × List Part // d = y.2.2.2.1 ++ y.2.2.2.2 ∧ y.2.2.1 = y.2.2.2.1.length ∧ y.1 = inF y.2.2.2.1 ∧ y.2.1 = outF y.2.2.2.1 }, fun y => [(2, .int .i64 y.1.1), (3, .int .i64 y.1.2.1), (6, .sl true 3 rows), (7, .int .i64 (P.rlen rows)), (8, .int .i64 y.1.2.2.1)], fun _ => [], fun y => y.1.2.2.2.2.length,
    ⟨_, Ent.refl _, ⟨(0, 0, 0, [], d), rfl, rfl, rfl, rfl⟩, ?_, ?_⟩, ?_⟩
  · cbv
  · cbv
  rintro ⟨⟨i, o, k, pre, rest⟩, hd, hk, hi, ho⟩
  dsimp only at hd hk hi ho
  cbv
  have hl : P.rlen rows = pre.length + rest.length := by subst hP; simp [std, hrows, hd]
  have hl2 : d.length = pre.length + rest.length := by rw [hd]; simp
  refine br_cases (fun h => ?_) (fun h => ?_)
  · rcases rest with _ | ⟨⟨kd, n, t⟩, rest⟩
    · (exfalso; clear hR; subst hP; simp [std, nc] at *; first | omega | grind)
    cbv
    have hrow := row_at hrows hd hk P hP
    have hp := okP_bd (hd2 ⟨kd, n, t⟩ (by simp [hd]))
    have hb1 := inF_bd pre (fun p hp => hd2 p (by simp [hd, hp]))
    have hb2 := outF_bd pre (fun p hp => hd2 p (by simp [hd, hp]))
    repeat' (first | (intro β; try cbv) | (refine And.intro (by assumption) ?_; try cbv) | (refine br_cases (fun h => ?_) (fun h => ?_) <;> try cbv) | (refine Exists.intro _ (And.intro (by assumption) ?_); try cbv) | (refine hc1 _ _ ?_; try cbv) | (refine hc2 _ _ ?_; try cbv) | (refine hc3 _ _ ?_; try cbv) | (refine hc4 _ _ ?_; try cbv) | (refine hc5 _ _ ?_; try cbv) | (refine hc6 _ _ ?_; try cbv) | (refine And.intro (by (clear hR; subst hP; simp [std, I64, nc] at * <;> first | omega | grind)) ?_; try cbv))
    all_goals
      refine ⟨_, Ent.refl _, ⟨(_, _, _, pre ++ [⟨kd, n, t⟩], rest), ?_⟩, ⟨rfl, rfl, rfl, rfl, rfl, trivial⟩, trivial, by simp⟩
      clear hR hrow; subst hP
      simp [std, nc, inF_app, outF_app, inF, outF] at *
      grind
  · cbv
    refine hR _ _ (Ent.refl _) ?_
    have : rest = [] := by
      cases rest with
      | nil => rfl
      | cons p rest => (exfalso; clear hR; subst hP; simp [std, nc] at *; first | omega | grind)
    subst this
    simp only [List.append_nil] at hd
    cbv
    rw [← hr1, ← hr2, hd, ← hi, ← ho]
theorem sp_sizes (d : List Part) (hd1 : d.length ≤ 1600) (hd2 : ∀ p ∈ d, okP p) : Spec Try.prog 97 [.sl true 3 (d.map encPart)] Hp.emp (Is (.tup [.int .i64 (inF d), .int .i64 (outF d)])) :=
  spec_pure dOk ok_sizes [.int .i64 (inF d), .int .i64 (outF d)] (.tup _ (by simp; exact ⟨.int _ _, .int _ _⟩)) fun R hR => vc_sizes std rfl _ _ d hd1 hd2 _ rfl _ _ rfl rfl R hR

def ac_check : AC := .seq (.region false [
    ⟨some 2, none, .mov (.c (.int .i64 0))⟩])
  (.seq (.seq (.region false [
    ⟨some 9, none, .mov (.t 0)⟩,
    ⟨some 10, none, .len false (.t 9)⟩,
    ⟨some 11, none, .bin .gtr (.t 10) (.c (.int .i64 1600))⟩])
  (.cond (.t 11)
    (.seq (.region false [
      ⟨some 2, none, .mov (.c (.int .i64 2))⟩])
    (.ret))
    (.skip)))
  (.seq (.region false [
    ⟨some 3, none, .mov (.c (.int .i64 0))⟩])
  (.seq (.seq (.region false [
    ⟨some 12, none, .mov (.t 0)⟩,
    ⟨some 13, none, .len false (.t 12)⟩,
    ⟨some 14, none, .mov (.c (.int .i64 0))⟩])
  (.block 0 (.loop (.seq (.region false [
      ⟨some 15, none, .bin .lss (.t 14) (.t 13)⟩])
    (.seq (.cond (.t 15)
      (.skip)
      (.exit 0))
    (.seq (.block 1 (.seq (.region false [
      ⟨some 16, none, .iaddr 3 (.t 12) (.t 14)⟩,
      ⟨some 17, none, .loadn 3 (.t 16)⟩,
      ⟨some 5, none, .alloc 108 [(.int .i64 0), (.int .i64 0), (.string ⟨#[]⟩)]⟩,
      ⟨none, none, .store 3 (.t 5) (.t 17)⟩])
    (.seq (.seq (.region false [
      ⟨some 18, none, .faddr 0 (.t 5)⟩,
      ⟨some 19, none, .load1 (.t 18)⟩,
      ⟨some 20, none, .mov (.t 3)⟩,
      ⟨some 21, none, .bin .eql (.t 19) (.t 20)⟩,
      ⟨some 22, none, .mov (.t 21)⟩,
      ⟨some 23, some (22, false), .mov (.t 3)⟩,
      ⟨some 24, some (22, false), .bin .eql (.t 23) (.c (.int .i64 3))⟩,
      ⟨some 25, some (22, false), .mov (.t 24)⟩,
      ⟨some 26, some (25, true), .faddr 0 (.t 5)⟩,
      ⟨some 27, some (25, true), .load1 (.t 26)⟩,
      ⟨some 28, some (25, true), .bin .eql (.t 27) (.c (.int .i64 2))⟩,
      ⟨some 29, some (22, false), .pick (.t 25) (.t 28) (.c (.bool false))⟩,
      ⟨some 30, none, .pick (.t 22) (.c (.bool true)) (.t 29)⟩])
    (.cond (.t 30)
      (.seq (.region false [
        ⟨some 2, none, .mov (.c (.int .i64 3))⟩])
      (.ret))
      (.skip)))
    (.seq (.seq (.region false [
      ⟨some 31, none, .loadn 3 (.t 5)⟩,
      ⟨some 32, none, .call 112 [(.t 31)]⟩,
      ⟨some 6, none, .mov (.t 32)⟩])
    (.seq (.region false [
      ⟨some 33, none, .mov (.t 6)⟩,
      ⟨some 34, none, .bin .neq (.t 33) (.c (.int .i64 0))⟩])
    (.cond (.t 34)
      (.seq (.region false [
        ⟨some 35, none, .mov (.t 6)⟩,
        ⟨some 2, none, .mov (.t 35)⟩])
      (.ret))
      (.skip))))
    (.region false [
      ⟨some 36, none, .faddr 0 (.t 5)⟩,
      ⟨some 37, none, .load1 (.t 36)⟩,
      ⟨some 3, none, .mov (.t 37)⟩])))))
    (.region false [
      ⟨some 38, none, .bin .add (.t 14) (.c (.int .i64 1))⟩,
      ⟨some 14, none, .mov (.t 38)⟩])))))))
  (.seq (.seq (.region false [
    ⟨some 40, none, .mov (.t 0)⟩,
    ⟨some 41, none, .call 97 [(.t 40)]⟩,
    ⟨some 39, none, .mov (.t 41)⟩,
    ⟨some 42, none, .ext 0 (.t 39)⟩,
    ⟨some 43, none, .ext 1 (.t 39)⟩,
    ⟨some 7, none, .mov (.t 42)⟩,
    ⟨some 8, none, .mov (.t 43)⟩])
  (.seq (.region false [
    ⟨some 44, none, .mov (.t 7)⟩,
    ⟨some 45, none, .mov (.t 8)⟩,
    ⟨some 46, none, .mm true (.t 44) (.t 45)⟩,
    ⟨some 47, none, .bin .gtr (.t 46) (.c (.int .i64 500))⟩])
  (.cond (.t 47)
    (.seq (.region false [
      ⟨some 2, none, .mov (.c (.int .i64 2))⟩])
    (.ret))
    (.skip))))
  (.seq (.region false [
    ⟨some 2, none, .mov (.c (.int .i64 0))⟩])
  (.ret))))))
theorem ok_check : FnOk Try.prog 89 Try.f89 ac_check [.t 2] 1 drawD := ⟨Try.func89, by decide +kernel, by kernel_rfl, by kernel_rfl, by decide +kernel⟩
theorem vc_check (P : Prim) (hP : P = std) (T T1 : CallT) (d : List Part) (hd1 : d.length ≤ maxLen) (rows : List (List V)) (hrows : rows = d.map encPart) (r : Int) (hr : checkF d = r)
    (fF : Int → Int → List UInt8 → Int) (hfF : ∀ k n t, fF k n t = fitF ⟨k, n, t⟩) (hc1 : ∀ {k n t}, Ans T 112 [.agg [.int .i64 k, .int .i64 n, .str t]] (.int .i64 (fF k n t)))
    (a b : Int) (ha : a = inF d) (hb : b = outF d) (hc2 : d.length ≤ 1600 → chk 0 d = 0 → Ans T 97 [.sl true 3 rows] (.tup [.int .i64 a, .int .i64 b]))
    (R : S → Prop) (hR : ∀ s s', Ent s s' → Ret [.t 2] [.int .i64 r] s' → R s) : awp P T T1 ac_check (S0 [.sl true 3 rows] Hp.emp) R (fun _ _ => False) R := by
  cbv
  have hl : P.rlen rows = d.length := by subst hP; simp [std, hrows]
  refine br_cases (fun h => ?_) (fun h => ?_)
  · cbv
    refine hR _ _ (Ent.refl _) ?_
    cbv
    clear hR hc1 hc2; subst hP; subst hr; simp [std, nc] at *; grind [checkF]
  cbv
  have hd2 : d.length ≤ 1600 := by clear hR hc1 hc2; subst hP; simp [std, nc] at *; omega
  refine ⟨{ y : Int × Int × List Part × List Part // d = y.2.2.1 ++ y.2.2.2 ∧ y.2.1 = y.2.2.1.length ∧ chk 0 d = chk y.1 y.2.2.2 }, fun y => [(0, .sl true 3 rows), (3, .int .i64 y.1.1), (12, .sl true 3 rows), (13, .int .i64 (P.rlen rows)), (14, .int .i64 y.1.2.1)], fun _ => [], fun y => y.1.2.2.2.length,
    ⟨_, Ent.refl _, ⟨(0, 0, [], d), rfl, rfl, rfl⟩, ?_, ?_⟩, ?_⟩
  · cbv
  · cbv
  rintro ⟨⟨last, k, pre, rest⟩, hd, hk, hc⟩
  dsimp only at hd hk hc
  cbv
  have hl2 : P.rlen rows = pre.length + rest.length := by subst hP; simp [std, hrows, hd]
  refine br_cases (fun h => ?_) (fun h => ?_)
  · rcases rest with _ | ⟨⟨kd, n, t⟩, rest⟩
    · clear hc1 hc2; (exfalso; clear hR; subst hP; simp [std, nc] at *; first | omega | grind)
    cbv
    have hrow := row_at hrows hd hk P hP
    have hpl : pre.length ≤ 1600 := by rw [hd] at hd2; simp at hd2; omega
    refine ⟨by clear hc1 hc2; (clear hR; subst hP; simp [std, I64, nc] at * <;> first | omega | grind), _, hrow, ?_⟩
    cbv
    intro β
    cbv
    have hx := hfF kd n t
    repeat' (first | (intro β; try cbv) | (refine And.intro (by assumption) ?_; try cbv) | (refine br_cases (fun h => ?_) (fun h => ?_) <;> try cbv) | (refine Exists.intro _ (And.intro (by assumption) ?_); try cbv) | (refine hc1 _ _ ?_; try cbv) | (refine hc2 _ _ ?_; try cbv) | (refine hc3 _ _ ?_; try cbv) | (refine hc4 _ _ ?_; try cbv) | (refine hc5 _ _ ?_; try cbv) | (refine hc6 _ _ ?_; try cbv) | (refine And.intro (by (clear hR; subst hP; simp [std, I64, nc] at * <;> first | omega | grind)) ?_; try cbv))
    all_goals first
      | (refine hR _ _ (Ent.refl _) ?_
         cbv
         clear hR hc1 hc2 hrow hfF; subst hP; subst hr; simp [std, nc, chk] at *; grind [checkF])
      | (refine ⟨_, Ent.refl _, ⟨(_, _, pre ++ [⟨kd, n, t⟩], rest), ?_⟩, ⟨rfl, rfl, rfl, rfl, rfl, trivial⟩, trivial, by simp⟩
         clear hR hrow hc1 hc2 hfF; subst hP
         simp [std, nc, chk] at *
         grind)
  · have : rest = [] := by
      cases rest with
      | nil => rfl
      | cons p rest => clear hc1 hc2; (exfalso; clear hR; subst hP; simp [std, nc] at *; first | omega | grind)
    subst this
    have hc0 : chk 0 d = 0 := hc
    have hc3 := hc2 hd2 hc0
    clear hc2
    cbv
    repeat' (first | (intro β; try cbv) | (refine And.intro (by assumption) ?_; try cbv) | (refine br_cases (fun h => ?_) (fun h => ?_) <;> try cbv) | (refine Exists.intro _ (And.intro (by assumption) ?_); try cbv) | (refine hc1 _ _ ?_; try cbv) | (refine hc2 _ _ ?_; try cbv) | (refine hc3 _ _ ?_; try cbv) | (refine hc4 _ _ ?_; try cbv) | (refine hc5 _ _ ?_; try cbv) | (refine hc6 _ _ ?_; try cbv) | (refine And.intro (by (clear hR; subst hP; simp [std, I64, nc] at * <;> first | omega | grind)) ?_; try cbv))
    all_goals
      refine hR _ _ (Ent.refl _) ?_
      cbv
      clear hR hc1 hc3; subst hP; subst hr; simp [std, nc] at *; grind [checkF]
theorem sp_check (d : List Part) (hd1 : d.length ≤ maxLen) : Spec Try.prog 89 [.sl true 3 (d.map encPart)] Hp.emp (Is (.int .i64 (checkF d))) :=
  spec_pure dOk ok_check [.int .i64 (checkF d)] (.int _ _) fun R hR => vc_check std rfl _ _ d hd1 _ rfl _ rfl (fun k n t => fitF ⟨k, n, t⟩) (fun _ _ _ => rfl) (ansW (sp_fit ⟨_, _, _⟩) (fun h => .cons (.same _) .nil) rfl) _ _ rfl rfl
    (fun h1 h2 => ansW (sp_sizes d h1 (chk_ok 0 d h2)) (fun h => .cons (.same _) .nil) rfl) R hR

def ac_szs : AC := .seq (.region false [
    ⟨some 2, none, .mov (.c (.int .i64 0))⟩,
    ⟨some 3, none, .mov (.c (.int .i64 0))⟩,
    ⟨some 4, none, .mov (.c (.int .i64 0))⟩])
  (.seq (.seq (.region false [
    ⟨some 8, none, .mov (.t 0)⟩,
    ⟨some 9, none, .call 89 [(.t 8)]⟩,
    ⟨some 5, none, .mov (.t 9)⟩])
  (.seq (.region false [
    ⟨some 10, none, .mov (.t 5)⟩,
    ⟨some 11, none, .bin .neq (.t 10) (.c (.int .i64 0))⟩])
  (.cond (.t 11)
    (.seq (.region false [
      ⟨some 12, none, .mov (.t 5)⟩,
      ⟨some 2, none, .mov (.c (.int .i64 0))⟩,
      ⟨some 3, none, .mov (.c (.int .i64 0))⟩,
      ⟨some 4, none, .mov (.t 12)⟩])
    (.ret))
    (.skip))))
  (.seq (.region false [
    ⟨some 14, none, .mov (.t 0)⟩,
    ⟨some 15, none, .call 97 [(.t 14)]⟩,
    ⟨some 13, none, .mov (.t 15)⟩,
    ⟨some 16, none, .ext 0 (.t 13)⟩,
    ⟨some 17, none, .ext 1 (.t 13)⟩,
    ⟨some 6, none, .mov (.t 16)⟩,
    ⟨some 7, none, .mov (.t 17)⟩])
  (.seq (.region false [
    ⟨some 18, none, .mov (.t 6)⟩,
    ⟨some 19, none, .mov (.t 7)⟩,
    ⟨some 2, none, .mov (.t 18)⟩,
    ⟨some 3, none, .mov (.t 19)⟩,
    ⟨some 4, none, .mov (.c (.int .i64 0))⟩])
  (.ret))))
theorem ok_szs : FnOk Try.prog 67 Try.f67 ac_szs [.t 2, .t 3, .t 4] 1 drawD := ⟨Try.func67, by decide +kernel, by kernel_rfl, by kernel_rfl, by decide +kernel⟩
def szF (d : List Part) : Int × Int × Int := if checkF d = 0 then (inF d, outF d, 0) else (0, 0, checkF d)
theorem checkF_ok {d : List Part} (h : checkF d = 0) : d.length ≤ 1600 ∧ chk 0 d = 0 ∧ inF d ≤ 500 ∧ outF d ≤ 500 := by
  unfold checkF at h
  grind
theorem vc_szs (P : Prim) (hP : P = std) (T T1 : CallT) (d : List Part) (rows : List (List V)) (r1 r2 r3 : Int) (hr : szF d = (r1, r2, r3))
    (c : Int) (hc : checkF d = c) (hc1 : Ans T 89 [.sl true 3 rows] (.int .i64 c))
    (a b : Int) (ha : a = inF d) (hb : b = outF d) (hc2 : c = 0 → Ans T 97 [.sl true 3 rows] (.tup [.int .i64 a, .int .i64 b]))
    (R : S → Prop) (hR : ∀ s s', Ent s s' → Ret [.t 2, .t 3, .t 4] [.int .i64 r1, .int .i64 r2, .int .i64 r3] s' → R s) : awp P T T1 ac_szs (S0 [.sl true 3 rows] Hp.emp) R (fun _ _ => False) R := by
  cbv
  refine hc1 _ _ ?_
  cbv
  refine br_cases (fun h => ?_) (fun h => ?_)
  · repeat' (first | (intro β; try cbv) | (refine And.intro (by assumption) ?_; try cbv) | (refine br_cases (fun h => ?_) (fun h => ?_) <;> try cbv) | (refine Exists.intro _ (And.intro (by assumption) ?_); try cbv) | (refine hc1 _ _ ?_; try cbv) | (refine hc2 _ _ ?_; try cbv) | (refine hc3 _ _ ?_; try cbv) | (refine hc4 _ _ ?_; try cbv) | (refine hc5 _ _ ?_; try cbv) | (refine hc6 _ _ ?_; try cbv) | (refine And.intro (by (clear hR; subst hP; simp [std, I64, nc] at * <;> first | omega | grind)) ?_; try cbv))
    all_goals
      refine hR _ _ (Ent.refl _) ?_
      cbv
      clear hR hc1 hc2; subst hP; simp [std, nc] at *; grind [szF]
  · have hc0 : c = 0 := by clear hR hc1 hc2; subst hP; simp [std, nc] at *; omega
    have hc3 := hc2 hc0
    repeat' (first | (intro β; try cbv) | (refine And.intro (by assumption) ?_; try cbv) | (refine br_cases (fun h => ?_) (fun h => ?_) <;> try cbv) | (refine Exists.intro _ (And.intro (by assumption) ?_); try cbv) | (refine hc1 _ _ ?_; try cbv) | (refine hc2 _ _ ?_; try cbv) | (refine hc3 _ _ ?_; try cbv) | (refine hc4 _ _ ?_; try cbv) | (refine hc5 _ _ ?_; try cbv) | (refine hc6 _ _ ?_; try cbv) | (refine And.intro (by (clear hR; subst hP; simp [std, I64, nc] at * <;> first | omega | grind)) ?_; try cbv))
    all_goals
      refine hR _ _ (Ent.refl _) ?_
      cbv
      clear hR hc1 hc2 hc3; subst hP; simp [std, nc] at *; grind [szF]
theorem sp_szs (d : List Part) (hd1 : d.length ≤ maxLen) : Spec Try.prog 67 [.sl true 3 (d.map encPart)] Hp.emp (Is (.tup [.int .i64 (szF d).1, .int .i64 (szF d).2.1, .int .i64 (szF d).2.2])) :=
  spec_pure dOk ok_szs [.int .i64 (szF d).1, .int .i64 (szF d).2.1, .int .i64 (szF d).2.2] (.tup _ (by simp; exact ⟨.int _ _, .int _ _, .int _ _⟩)) fun R hR => vc_szs std rfl _ _ d _ _ _ _ rfl _ rfl (ansW (sp_check d hd1) (fun h => .cons (.same _) .nil) rfl) _ _ rfl rfl
    (fun h1 => ansW (sp_sizes d (checkF_ok h1).1 (chk_ok 0 d (checkF_ok h1).2.1)) (fun h => .cons (.same _) .nil) rfl) R hR

def ac_rin : AC := .seq (.region false [
    ⟨some 2, none, .mov (.c (.int .i64 0))⟩])
  (.seq (.region false [
    ⟨some 3, none, .mov (.c (.int .i64 0))⟩])
  (.seq (.seq (.region false [
    ⟨some 6, none, .mov (.t 0)⟩,
    ⟨some 7, none, .len false (.t 6)⟩,
    ⟨some 8, none, .mov (.c (.int .i64 0))⟩])
  (.block 0 (.loop (.seq (.region false [
      ⟨some 9, none, .bin .lss (.t 8) (.t 7)⟩])
    (.seq (.cond (.t 9)
      (.skip)
      (.exit 0))
    (.seq (.block 1 (.seq (.region false [
      ⟨some 10, none, .iaddr 3 (.t 6) (.t 8)⟩,
      ⟨some 11, none, .loadn 3 (.t 10)⟩,
      ⟨some 5, none, .alloc 108 [(.int .i64 0), (.int .i64 0), (.string ⟨#[]⟩)]⟩,
      ⟨none, none, .store 3 (.t 5) (.t 11)⟩])
    (.region false [
      ⟨some 12, none, .mov (.t 3)⟩,
      ⟨some 13, none, .faddr 1 (.t 5)⟩,
      ⟨some 14, none, .load1 (.t 13)⟩,
      ⟨some 15, none, .bin .add (.t 12) (.t 14)⟩,
      ⟨some 3, none, .mov (.t 15)⟩])))
    (.region false [
      ⟨some 16, none, .bin .add (.t 8) (.c (.int .i64 1))⟩,
      ⟨some 8, none, .mov (.t 16)⟩])))))))
  (.seq (.region false [
    ⟨some 17, none, .mov (.t 3)⟩,
    ⟨some 2, none, .mov (.t 17)⟩])
  (.ret))))
theorem ok_rin : FnOk Try.prog 124 Try.f124 ac_rin [.t 2] 1 drawD := ⟨Try.func124, by decide +kernel, by kernel_rfl, by kernel_rfl, by decide +kernel⟩
theorem vc_rin (P : Prim) (hP : P = std) (T T1 : CallT) (d : List Part) (hd1 : d.length ≤ 1600) (hd2 : ∀ p ∈ d, okP p) (rows : List (List V)) (hrows : rows = d.map encPart) (r1 : Int) (hr1 : inF d = r1)
    (R : S → Prop) (hR : ∀ s s', Ent s s' → Ret [.t 2] [.int .i64 r1] s' → R s) : awp P T T1 ac_rin (S0 [.sl true 3 rows] Hp.emp) R (fun _ _ => False) R := by
  cbv
  refine ⟨{ y : Int × Int × List Part × List Part // d = y.2.2.1 ++ y.2.2.2 ∧ y.2.1 = y.2.2.1.length ∧ y.1 = inF y.2.2.1 }, fun y => [(3, .int .i64 y.1.1), (6, .sl true 3 rows), (7, .int .i64 (P.rlen rows)), (8, .int .i64 y.1.2.1)], fun _ => [], fun y => y.1.2.2.2.length,
    ⟨_, Ent.refl _, ⟨(0, 0, [], d), rfl, rfl, rfl⟩, ?_, ?_⟩, ?_⟩
  · cbv
  · cbv
  rintro ⟨⟨i, k, pre, rest⟩, hd, hk, hi⟩
  dsimp only at hd hk hi
  cbv
  have hl : P.rlen rows = pre.length + rest.length := by subst hP; simp [std, hrows, hd]
  have hl2 : d.length = pre.length + rest.length := by rw [hd]; simp
  refine br_cases (fun h => ?_) (fun h => ?_)
  · rcases rest with _ | ⟨⟨kd, n, t⟩, rest⟩
    · (exfalso; clear hR; subst hP; simp [std, nc] at *; first | omega | grind)
    cbv
    have hrow := row_at hrows hd hk P hP
    have hp := okP_bd (hd2 ⟨kd, n, t⟩ (by simp [hd]))
    have hb1 := inF_bd pre (fun p hp => hd2 p (by simp [hd, hp]))
    repeat' (first | (intro β; try cbv) | (refine And.intro (by assumption) ?_; try cbv) | (refine br_cases (fun h => ?_) (fun h => ?_) <;> try cbv) | (refine Exists.intro _ (And.intro (by assumption) ?_); try cbv) | (refine hc1 _ _ ?_; try cbv) | (refine hc2 _ _ ?_; try cbv) | (refine hc3 _ _ ?_; try cbv) | (refine hc4 _ _ ?_; try cbv) | (refine hc5 _ _ ?_; try cbv) | (refine hc6 _ _ ?_; try cbv) | (refine And.intro (by (clear hR; subst hP; simp [std, I64, nc] at * <;> first | omega | grind)) ?_; try cbv))
    all_goals
      refine ⟨_, Ent.refl _, ⟨(_, _, pre ++ [⟨kd, n, t⟩], rest), ?_⟩, ⟨rfl, rfl, rfl, rfl, trivial⟩, trivial, by simp⟩
      clear hR hrow; subst hP
      simp [std, nc, inF_app, inF] at *
      grind
  · cbv
    refine hR _ _ (Ent.refl _) ?_
    have : rest = [] := by
      cases rest with
      | nil => rfl
      | cons p rest => (exfalso; clear hR; subst hP; simp [std, nc] at *; first | omega | grind)
    subst this
    simp only [List.append_nil] at hd
    cbv
    rw [← hr1, hd, ← hi]
theorem sp_rin (d : List Part) (hd1 : d.length ≤ 1600) (hd2 : ∀ p ∈ d, okP p) : Spec Try.prog 124 [.sl true 3 (d.map encPart)] Hp.emp (Is (.int .i64 (inF d))) :=
  spec_pure dOk ok_rin [.int .i64 (inF d)] (.int _ _) fun R hR => vc_rin std rfl _ _ d hd1 hd2 _ rfl _ rfl R hR

def ac_rout : AC := .seq (.region false [
    ⟨some 2, none, .mov (.c (.int .i64 0))⟩])
  (.seq (.region false [
    ⟨some 3, none, .mov (.c (.int .i64 0))⟩])
  (.seq (.seq (.region false [
    ⟨some 6, none, .mov (.t 0)⟩,
    ⟨some 7, none, .len false (.t 6)⟩,
    ⟨some 8, none, .mov (.c (.int .i64 0))⟩])
  (.block 0 (.loop (.seq (.region false [
      ⟨some 9, none, .bin .lss (.t 8) (.t 7)⟩])
    (.seq (.cond (.t 9)
      (.skip)
      (.exit 0))
    (.seq (.block 1 (.seq (.region false [
      ⟨some 10, none, .iaddr 3 (.t 6) (.t 8)⟩,
      ⟨some 11, none, .loadn 3 (.t 10)⟩,
      ⟨some 5, none, .alloc 108 [(.int .i64 0), (.int .i64 0), (.string ⟨#[]⟩)]⟩,
      ⟨none, none, .store 3 (.t 5) (.t 11)⟩])
    (.seq (.region false [
      ⟨some 12, none, .faddr 0 (.t 5)⟩,
      ⟨some 13, none, .load1 (.t 12)⟩,
      ⟨some 14, none, .bin .neq (.t 13) (.c (.int .i64 3))⟩])
    (.cond (.t 14)
      (.region false [
        ⟨some 15, none, .mov (.t 3)⟩,
        ⟨some 16, none, .faddr 1 (.t 5)⟩,
        ⟨some 17, none, .load1 (.t 16)⟩,
        ⟨some 18, none, .faddr 2 (.t 5)⟩,
        ⟨some 19, none, .load1 (.t 18)⟩,
        ⟨some 20, none, .len true (.t 19)⟩,
        ⟨some 21, none, .bin .add (.t 17) (.t 20)⟩,
        ⟨some 22, none, .bin .add (.t 15) (.t 21)⟩,
        ⟨some 3, none, .mov (.t 22)⟩])
      (.skip)))))
    (.region false [
      ⟨some 23, none, .bin .add (.t 8) (.c (.int .i64 1))⟩,
      ⟨some 8, none, .mov (.t 23)⟩])))))))
  (.seq (.region false [
    ⟨some 24, none, .mov (.t 3)⟩,
    ⟨some 2, none, .mov (.t 24)⟩])
  (.ret))))
theorem ok_rout : FnOk Try.prog 125 Try.f125 ac_rout [.t 2] 1 drawD := ⟨Try.func125, by decide +kernel, by kernel_rfl, by kernel_rfl, by decide +kernel⟩
theorem vc_rout (P : Prim) (hP : P = std) (T T1 : CallT) (d : List Part) (hd1 : d.length ≤ 1600) (hd2 : ∀ p ∈ d, okP p) (rows : List (List V)) (hrows : rows = d.map encPart) (r1 : Int) (hr1 : outF d = r1)
    (R : S → Prop) (hR : ∀ s s', Ent s s' → Ret [.t 2] [.int .i64 r1] s' → R s) : awp P T T1 ac_rout (S0 [.sl true 3 rows] Hp.emp) R (fun _ _ => False) R := by
  cbv
  refine ⟨{ y : Int × Int × List Part × List Part // d = y.2.2.1 ++ y.2.2.2 ∧ y.2.1 = y.2.2.1.length ∧ y.1 = outF y.2.2.1 }, fun y => [(3, .int .i64 y.1.1), (6, .sl true 3 rows), (7, .int .i64 (P.rlen rows)), (8, .int .i64 y.1.2.1)], fun _ => [], fun y => y.1.2.2.2.length,
    ⟨_, Ent.refl _, ⟨(0, 0, [], d), rfl, rfl, rfl⟩, ?_, ?_⟩, ?_⟩
  · cbv
  · cbv
  rintro ⟨⟨i, k, pre, rest⟩, hd, hk, hi⟩
  dsimp only at hd hk hi
  cbv
  have hl : P.rlen rows = pre.length + rest.length := by subst hP; simp [std, hrows, hd]
  have hl2 : d.length = pre.length + rest.length := by rw [hd]; simp
  refine br_cases (fun h => ?_) (fun h => ?_)
  · rcases rest with _ | ⟨⟨kd, n, t⟩, rest⟩
    · (exfalso; clear hR; subst hP; simp [std, nc] at *; first | omega | grind)
    cbv
    have hrow := row_at hrows hd hk P hP
    have hp := okP_bd (hd2 ⟨kd, n, t⟩ (by simp [hd]))
    have hb1 := outF_bd pre (fun p hp => hd2 p (by simp [hd, hp]))
    repeat' (first | (intro β; try cbv) | (refine And.intro (by assumption) ?_; try cbv) | (refine br_cases (fun h => ?_) (fun h => ?_) <;> try cbv) | (refine Exists.intro _ (And.intro (by assumption) ?_); try cbv) | (refine hc1 _ _ ?_; try cbv) | (refine hc2 _ _ ?_; try cbv) | (refine hc3 _ _ ?_; try cbv) | (refine hc4 _ _ ?_; try cbv) | (refine hc5 _ _ ?_; try cbv) | (refine hc6 _ _ ?_; try cbv) | (refine And.intro (by (clear hR; subst hP; simp [std, I64, nc] at * <;> first | omega | grind)) ?_; try cbv))
    all_goals
      refine ⟨_, Ent.refl _, ⟨(_, _, pre ++ [⟨kd, n, t⟩], rest), ?_⟩, ⟨rfl, rfl, rfl, rfl, trivial⟩, trivial, by simp⟩
      clear hR hrow; subst hP
      simp [std, nc, outF_app, outF] at *
      grind
  · cbv
    refine hR _ _ (Ent.refl _) ?_
    have : rest = [] := by
      cases rest with
      | nil => rfl
      | cons p rest => (exfalso; clear hR; subst hP; simp [std, nc] at *; first | omega | grind)
    subst this
    simp only [List.append_nil] at hd
    cbv
    rw [← hr1, hd, ← hi]
theorem sp_rout (d : List Part) (hd1 : d.length ≤ 1600) (hd2 : ∀ p ∈ d, okP p) : Spec Try.prog 125 [.sl true 3 (d.map encPart)] Hp.emp (Is (.int .i64 (outF d))) :=
  spec_pure dOk ok_rout [.int .i64 (outF d)] (.int _ _) fun R hR => vc_rout std rfl _ _ d hd1 hd2 _ rfl _ rfl R hR
end Go.Proofs.Ytobngncjflogcaa.AM

set_option linter.unusedVariables false
set_option linter.unusedSimpArgs false
namespace Go.Proofs.Ytobngncjflogcaa.AM
open Go

inductive Tok where
  | keep
  | put (b : UInt8)
  | cut
  deriving DecidableEq

def toks1 (p : Part) : List Tok := if p.kind = 2 then p.text.map .put else if p.kind = 1 then List.replicate p.n.toNat .keep else List.replicate p.n.toNat .cut
def toks : List Part → List Tok
  | [] => []
  | p :: l => toks1 p ++ toks l
theorem toks_app (a b : List Part) : toks (a ++ b) = toks a ++ toks b := by
  induction a with
  | nil => rfl
  | cons p a ih => simp [toks, ih]

def kepts : List Tok → List Bool
  | [] => []
  | .keep :: ts => true :: kepts ts
  | .cut :: ts => false :: kepts ts
  | .put _ :: ts => kepts ts
theorem kepts_app (a b : List Tok) : kepts (a ++ b) = kepts a ++ kepts b := by
  induction a with
  | nil => rfl
  | cons t a ih => cases t <;> simp [kepts, ih]
theorem kepts_put (t : List UInt8) : kepts (t.map .put) = [] := by
  induction t with
  | nil => rfl
  | cons b t ih => simp [kepts, ih]
def consHead (b : UInt8) : List (List UInt8) → List (List UInt8)
  | [] => [[b]]
  | p :: r => (b :: p) :: r
def puts : List Tok → List (List UInt8)
  | [] => [[]]
  | .put b :: ts => consHead b (puts ts)
  | .keep :: ts => [] :: puts ts
  | .cut :: ts => [] :: puts ts
def appLast (l : List (List UInt8)) (t : List UInt8) : List (List UInt8) := l.dropLast ++ [l.getLastD [] ++ t]
theorem puts_ne (ts : List Tok) : ∃ p r, puts ts = p :: r := by
  induction ts with
  | nil => exact ⟨_, _, rfl⟩
  | cons t ts ih => cases t <;> obtain ⟨p, r, h⟩ := ih <;> simp [puts, h, consHead]
theorem puts_len (ts : List Tok) : (puts ts).length = (kepts ts).length + 1 := by
  induction ts with
  | nil => rfl
  | cons t ts ih =>
    cases t
    · simp [puts, kepts, ih]
    · obtain ⟨p, r, h⟩ := puts_ne ts
      simp only [puts, kepts, h, consHead, List.length_cons] at *
      exact ih
    · simp [puts, kepts, ih]
theorem appLast_cons (x : List UInt8) (l : List (List UInt8)) (t : List UInt8) (h : l ≠ []) : appLast (x :: l) t = x :: appLast l t := by
  cases l with
  | nil => exact absurd rfl h
  | cons y l => simp [appLast]
theorem puts_app_put (ts : List Tok) (t : List UInt8) : puts (ts ++ t.map .put) = appLast (puts ts) t := by
  induction ts with
  | nil =>
    simp only [List.nil_append, puts, appLast]
    simp
    induction t with
    | nil => rfl
    | cons b t ih => simp [puts, ih, consHead]
  | cons a ts ih =>
    obtain ⟨p, r, h⟩ := puts_ne ts
    cases a
    · simp only [List.cons_append, puts, ih]
      rw [appLast_cons _ _ _ (by rw [h]; simp)]
    · simp only [List.cons_append, puts, ih]
      rw [h]
      cases r with
      | nil => simp [appLast, consHead]
      | cons y r => simp [appLast, consHead]
    · simp only [List.cons_append, puts, ih]
      rw [appLast_cons _ _ _ (by rw [h]; simp)]
theorem puts_app_step (ts : List Tok) (x : Tok) (hx : x = .keep ∨ x = .cut) : puts (ts ++ [x]) = puts ts ++ [[]] := by
  induction ts with
  | nil => rcases hx with rfl | rfl <;> rfl
  | cons a ts ih =>
    obtain ⟨p, r, h⟩ := puts_ne ts
    cases a
    · simp [puts, ih]
    · simp only [List.cons_append, puts, ih, h, consHead]
    · simp [puts, ih]

structure Mk where
  out : List Part
  put : List UInt8
  cut : Int
def Mk.flush (m : Mk) : List Part := m.out ++ (if m.put = [] then [] else [⟨2, 0, m.put⟩]) ++ (if 0 < m.cut then [⟨3, m.cut, []⟩] else [])
/-- so many more bytes are kept -/
def addKeep (o : List Part) (n : Int) : List Part := match o.getLast? with
  | some p => if p.kind = 1 then o.dropLast ++ [⟨1, p.n + n, p.text⟩] else o ++ [⟨1, n, []⟩]
  | none => [⟨1, n, []⟩]
def Mk.doKeep (m : Mk) (n : Int) : Mk := if n = 0 then m else ⟨addKeep m.flush n, [], 0⟩
def Mk.doPut (m : Mk) (s : List UInt8) : Mk := ⟨m.out, m.put ++ s, m.cut⟩
def Mk.doCut (m : Mk) (n : Int) : Mk := ⟨m.out, m.put, m.cut + n⟩
def Mk.new : Mk := ⟨[], [], 0⟩
def Mk.tok (m : Mk) : Tok → Mk
  | .keep => m.doKeep 1
  | .put b => m.doPut [b]
  | .cut => m.doCut 1
def Mk.run (m : Mk) (ts : List Tok) : Mk := ts.foldl Mk.tok m
end Go.Proofs.Ytobngncjflogcaa.AM

set_option linter.unusedVariables false
set_option linter.unusedSimpArgs false
namespace Go.Proofs.Ytobngncjflogcaa.AM
open Go
set_option maxRecDepth 100000
set_option maxHeartbeats 2000000
theorem r_int : ReadsAs 3 Int (fun n => [.int .i64 n]) I64 := reads_int Try.underlying3
theorem r_str : ReadsAs 9 (List UInt8) (fun s => [.str s]) (fun s => s.length ≤ maxLen) := reads_str Try.underlying9

def encParts (d : List Part) : V := .sl false 3 (d.map encPart)
def PartsOk (d : List Part) : Prop := d.length ≤ maxLen ∧ ∀ p ∈ d, p.Ok

structure Rev where
  who : Int
  seq : Int
  delta : List Part
def encRev (r : Rev) : List V := [.int .i64 r.who, .int .i64 r.seq, encParts r.delta]
def Rev.Ok (r : Rev) : Prop := I64 r.who ∧ I64 r.seq ∧ PartsOk r.delta
def RevsOk (l : List Rev) : Prop := l.length ≤ maxLen ∧ ∀ r ∈ l, r.Ok

structure Pol where
  last : Int
  every : Int
  pins : List Int
def Pol.Ok (p : Pol) : Prop := I64 p.last ∧ I64 p.every ∧ p.pins.length ≤ maxLen ∧ ∀ a ∈ p.pins, I64 a

structure Slot where
  data : List UInt8
  safe : Int
def encSlot (s : Slot) : List V := [.str s.data, .int .i64 s.safe]
def Slot.Ok (s : Slot) : Prop := s.data.length ≤ maxLen ∧ I64 s.safe
theorem reads_slot : ReadsAs 23 Slot encSlot Slot.Ok :=
  reads_map (reads_struct Try.underlying23 (reads_cons (k := 1) r_str rfl (by kernel_rfl) (reads_cons (k := 1) r_int rfl (by kernel_rfl) (reads_nil _))) (by kernel_rfl))
    (fun p => ⟨p.1, p.2.1⟩) (fun _ => rfl) (fun p h => ⟨h.1, h.2.1⟩)
structure Disk where
  a : Slot
  b : Slot
def encDisk (d : Disk) : List V := [.str d.a.data, .int .i64 d.a.safe, .str d.b.data, .int .i64 d.b.safe]
def Disk.Ok (d : Disk) : Prop := d.a.Ok ∧ d.b.Ok
theorem reads_disk : ReadsAs 26 Disk encDisk Disk.Ok := by
  have h := reads_struct Try.underlying26 (reads_cons (k := 4) (reads_array (n := 2) (k := 2) Try.underlying24 reads_slot (by kernel_rfl) (by kernel_rfl)) rfl (by kernel_rfl) (reads_nil _)) (by kernel_rfl)
  intro H e w base spare held fuel cs x hh
  obtain ⟨⟨l, u⟩, ⟨⟨h1, h2⟩, _⟩, h3⟩ := h _ _ _ _ _ _ _ _ _ hh
  match l, h1 with
  | [a, b], _ => exact ⟨⟨a, b⟩, ⟨h2 a (by simp), h2 b (by simp)⟩, by simpa [encDisk, encSlot] using h3⟩

structure Frame where
  kind : Int
  body : List UInt8
def encFrame (f : Frame) : List V := [.int .i64 f.kind, .str f.body]
def Frame.Ok (f : Frame) : Prop := I64 f.kind ∧ f.body.length ≤ maxLen

structure Client where
  who : Int
  rev : Int
  seq : Int
  text : List UInt8
  flying : Bool
  sent : List Part
  waiting : Bool
  held : List Part
def Client.Ok (c : Client) : Prop := I64 c.who ∧ I64 c.rev ∧ I64 c.seq ∧ c.text.length ≤ maxLen ∧ PartsOk c.sent ∧ PartsOk c.held
structure Msg where
  base : Int
  who : Int
  seq : Int
  delta : List Part
def Msg.Ok (m : Msg) : Prop := I64 m.base ∧ I64 m.who ∧ I64 m.seq ∧ PartsOk m.delta
end Go.Proofs.Ytobngncjflogcaa.AM
