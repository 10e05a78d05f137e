/-
  Regions that draw their order: any order that the edges allow ends as the text's order does.
-/
import Derived.Test.YtdmpbdmgaepndaaAmD
import Derived.Test.YtdmpbdmgaepndaaAm16
set_option linter.unusedVariables false
set_option linter.unusedSimpArgs false
namespace Go.Proofs.Ytdmpbdmgaepndaa.AM
open Go

def slotsOf : List Opd → List Nat
  | [] => []
  | .t i :: l => i :: slotsOf l
  | .c _ :: l => slotsOf l
theorem ev_slots {s s2 : S} : ∀ {l : List Opd}, (∀ i ∈ slotsOf l, s2.t i = s.t i) → ∀ x ∈ l, Opd.ev s2 x = Opd.ev s x
  | [], _, x, hx => by cases hx
  | .t i :: l, h, x, hx => by
    rcases List.mem_cons.1 hx with rfl | hx
    · exact h i (by simp [slotsOf])
    · exact ev_slots (fun j hj => h j (by simp [slotsOf, hj])) x hx
  | .c v :: l, h, x, hx => by
    rcases List.mem_cons.1 hx with rfl | hx
    · rfl
    · exact ev_slots (fun j hj => h j (by simpa [slotsOf] using hj)) x hx
def AO.looks (o : AO) : List Nat := (match o.g with | some (g, _) => [g] | none => []) ++ slotsOf o.op.opds
def AO.isFun (o : AO) : Bool := o.op.isPure || o.op.isRead || (match o.op with | .call .. => true | .callv .. => true | _ => false)
def apartB (a b : AO) : Bool :=
  (match a.d with | some d => !(b.looks.contains d) && (b.d != some d) | none => true) && (match b.d with | some d => !(a.looks.contains d) | none => true)
/-- it makes an object of its own -/
def AO.isNew (o : AO) : Bool := (match o.g, o.d with | none, some _ => true | _, _ => false) && (match o.op with | .alloc .. | .box .. | .bslice .. | .mkslice .. => true | _ => false)
def AO.key (o : AO) : Nat := match o.op with
  | .bslice .. | .mkslice .. => arr + o.d.getD 0
  | _ => o.d.getD 0
/-- may the one that stands behind in the text come first? -/
def okPair (a b : AO) : Bool := apartB a b && (a.op.isPure || (a.isFun && (b.isFun || b.isNew)) || (a.isNew && (b.op.isPure || (b.isNew && a.key != b.key))))

theorem set_same {s : S} {g : Nat} {v : V} (h : s.t g = v) : s.set g v = s := by
  subst h
  cases s with
  | mk t h =>
    simp only [S.set, S.mk.injEq, and_true]
    funext i
    simp only [upd]
    split <;> simp_all

theorem isFun_spec {P : Program} {o : AO} (h : o.isFun = true) : Fun (CallP P) o.op := by
  refine fun_of ?_
  unfold AO.isFun at h
  simp only [Bool.or_eq_true] at h
  rcases h with (h | h) | h
  · exact .inl h
  · exact .inr (.inl h)
  · right; right
    cases hop : o.op <;> rw [hop] at h <;> try (simp at h; done)
    · exact .inl ⟨_, _, rfl⟩
    · exact .inr ⟨_, _, rfl⟩

section
variable {P : Program}

theorem fun_aoper {o : AO} (hf : o.isFun = true) {s : S} {K : S → Prop} (hh : aoper std (CallP P) o s K) :
    ∃ v, K (s.put o.d v) ∧ ∀ (s2 : S), (∀ i ∈ slotsOf o.op.opds, s2.t i = s.t i) → s.h.le s2.h → ∀ K2 : S → Prop, K2 (s2.put o.d v) → aoper std (CallP P) o s2 K2 := by
  obtain ⟨v, h1, h2⟩ := isFun_spec hf _ _ _ _ hh
  refine ⟨v, h1, fun s2 hs hl K2 hk => ?_⟩
  unfold aoper
  rw [aopP_congr (ev' := Opd.ev s) (ev_slots hs)]
  exact h2 s2.h _ _ hl hk

theorem fun_aone {o : AO} (hf : o.isFun = true) {s : S} {K : S → Prop} (hh : aone std (CallP P) o s K) :
    ∃ v, K (s.put o.d v) ∧ ∀ (s2 : S), (∀ i ∈ o.looks, s2.t i = s.t i) → s.h.le s2.h → ∀ K2 : S → Prop, K2 (s2.put o.d v) → aone std (CallP P) o s2 K2 := by
  obtain ⟨d, g, op⟩ := o
  cases g with
  | none =>
    obtain ⟨v, h1, h2⟩ := fun_aoper hf (show aoper std (CallP P) ⟨d, none, op⟩ s K from hh)
    exact ⟨v, h1, fun s2 hs hl K2 hk => h2 s2 (fun i hi => hs i (by simpa [AO.looks] using hi)) hl K2 hk⟩
  | some gw =>
    obtain ⟨g, want⟩ := gw
    have key : ∀ b, s.t g = .bool b → (if b = want then aoper std (CallP P) ⟨d, some (g, want), op⟩ s K else K (s.put d .und)) →
        ∃ v, K (s.put d v) ∧ ∀ (s2 : S), (∀ i ∈ (AO.mk d (some (g, want)) op).looks, s2.t i = s.t i) → s.h.le s2.h → ∀ K2 : S → Prop, K2 (s2.put d v) → aone std (CallP P) ⟨d, some (g, want), op⟩ s2 K2 := by
      intro b hb hK
      by_cases hbw : b = want
      · subst hbw
        rw [if_pos rfl] at hK
        obtain ⟨v, h1, h2⟩ := fun_aoper hf hK
        refine ⟨v, h1, fun s2 hs hl K2 hk => ?_⟩
        have hg2 : s2.t g = .bool b := (hs g (by simp [AO.looks])).trans hb
        have := h2 s2 (fun i hi => hs i (by simp only [AO.looks]; exact List.mem_append_right _ hi)) hl K2 hk
        cases b <;> simp only [aone, hg2, br, set_same hg2] <;> exact this
      · rw [if_neg hbw] at hK
        refine ⟨.und, hK, fun s2 hs hl K2 hk => ?_⟩
        have hg2 : s2.t g = .bool b := (hs g (by simp [AO.looks])).trans hb
        cases b <;> cases want <;> first | (exact absurd rfl hbw) | (simp only [aone, hg2, br, set_same hg2]; exact hk)
    cases hb : s.t g with
    | bool b =>
      refine key b hb ?_
      cases b <;> cases want <;> simp only [aone, hb, br, set_same hb] at hh <;> simpa using hh
    | und =>
      have hu : K (s.put d .und) := by cases want <;> simp only [aone, hb] at hh <;> exact hh
      refine ⟨.und, hu, fun s2 hs hl K2 hk => ?_⟩
      have hg2 : s2.t g = .und := (hs g (by simp [AO.looks])).trans hb
      cases want <;> simp only [aone, hg2] <;> exact hk
    | _ => cases want <;> simp only [aone, hb] at hh

theorem put_t {s : S} {d : Option Nat} {v : V} {i : Nat} (h : d ≠ some i) : (s.put d v).t i = s.t i := by
  cases d with
  | none => rfl
  | some d =>
    simp only [S.put, S.set, upd]
    rw [if_neg (fun e => h (by rw [e]))]
theorem put_h {s : S} {d : Option Nat} {v : V} : (s.put d v).h = s.h := by cases d <;> rfl
theorem put_comm {s : S} {d e : Option Nat} {v u : V} (h : ∀ i, d = some i → e ≠ some i) : (s.put d v).put e u = (s.put e u).put d v := by
  cases d with
  | none => rfl
  | some d =>
    cases e with
    | none => rfl
    | some e =>
      have hne : d ≠ e := fun he => h d rfl (by rw [he])
      simp only [S.put, S.set, S.mk.injEq, and_true]
      funext i
      simp only [upd]
      by_cases h1 : i = d
      · subst h1
        rw [if_neg hne]
        simp [hne]
      · by_cases h2 : i = e
        · subst h2; simp [h1]
        · simp [h1, h2]

theorem apart_spec {a b : AO} (h : apartB a b = true) : (∀ i, a.d = some i → i ∉ b.looks ∧ b.d ≠ some i) ∧ (∀ i, b.d = some i → i ∉ a.looks) := by
  unfold apartB at h
  simp only [Bool.and_eq_true] at h
  refine ⟨fun i hi => ?_, fun i hi => ?_⟩
  · have h1 := h.1
    rw [hi] at h1
    simp only [Bool.and_eq_true, Bool.not_eq_true', bne_iff_ne] at h1
    exact ⟨by simpa using h1.1, h1.2⟩
  · have h2 := h.2
    rw [hi] at h2
    simpa using h2

/-- a pure operation, guarded or not: one value, whatever lies in memory -/
theorem pure_aone {T : CallT} {o : AO} (hp : o.op.isPure = true) {s : S} {K : S → Prop} (hh : aone std T o s K) :
    ∃ v, ∀ (s2 : S), (∀ i ∈ o.looks, s2.t i = s.t i) → ∀ K2 : S → Prop, (aone std T o s2 K2 ↔ K2 (s2.put o.d v)) := by
  obtain ⟨d, g, op⟩ := o
  have plain : ∀ (s : S) (K : S → Prop), aoper std T ⟨d, none, op⟩ s K → ∃ v, ∀ (s2 : S), (∀ i ∈ slotsOf op.opds, s2.t i = s.t i) → ∀ K2 : S → Prop, (aopP std T op (Opd.ev s2) s2.h (d.getD 0) (fun v h => K2 ((s2.seth h).put d v)) ↔ K2 (s2.put d v)) := by
    intro s K hh
    obtain ⟨v, _, h2⟩ := pure_det hp hh
    refine ⟨v, fun s2 hs K2 => ?_⟩
    rw [aopP_congr (ev' := Opd.ev s) (ev_slots hs)]
    exact h2 s2.h (d.getD 0) fun v h => K2 ((s2.seth h).put d v)
  cases g with
  | none =>
    obtain ⟨v, h⟩ := plain s K hh
    exact ⟨v, fun s2 hs K2 => h s2 (fun i hi => hs i (by simpa [AO.looks] using hi)) K2⟩
  | some gw =>
    obtain ⟨g, want⟩ := gw
    have key : ∀ b, s.t g = .bool b → (b = want → aoper std T ⟨d, none, op⟩ s K) →
        ∃ v, ∀ (s2 : S), (∀ i ∈ (AO.mk d (some (g, want)) op).looks, s2.t i = s.t i) → ∀ K2 : S → Prop, (aone std T ⟨d, some (g, want), op⟩ s2 K2 ↔ K2 (s2.put d v)) := by
      intro b hb hK
      by_cases hbw : b = want
      · subst hbw
        obtain ⟨v, h⟩ := plain s K (hK rfl)
        refine ⟨v, fun s2 hs K2 => ?_⟩
        have hg2 : s2.t g = .bool b := (hs g (by simp [AO.looks])).trans hb
        have := h s2 (fun i hi => hs i (by simp only [AO.looks]; exact List.mem_append_right _ hi)) K2
        cases b <;> simp only [aone, hg2, br, set_same hg2, aoper] <;> exact this
      · refine ⟨.und, fun s2 hs K2 => ?_⟩
        have hg2 : s2.t g = .bool b := (hs g (by simp [AO.looks])).trans hb
        cases b <;> cases want <;> first | (exact absurd rfl hbw) | (simp only [aone, hg2, br, set_same hg2])
    cases hb : s.t g with
    | bool b =>
      refine key b hb fun hbw => ?_
      subst hbw
      cases b <;> simp only [aone, hb, br, set_same hb] at hh <;> exact hh
    | und =>
      refine ⟨.und, fun s2 hs K2 => ?_⟩
      have hg2 : s2.t g = .und := (hs g (by simp [AO.looks])).trans hb
      cases want <;> simp only [aone, hg2]
    | _ => cases want <;> simp only [aone, hb] at hh

/-- what an operation makes -/
theorem new_aone {T : CallT} {o : AO} (hn : o.isNew = true) {s : S} {K : S → Prop} (hh : aone std T o s K) :
    ∃ (v : Nat → V) (ob : Nat → Ob), ∀ (s2 : S), (∀ i ∈ o.looks, s2.t i = s.t i) → ∀ K2 : S → Prop, (aone std T o s2 K2 ↔ s2.h o.key = none ∧ ∀ β : Nat, K2 ((s2.seth (s2.h.put o.key (ob β))).put o.d (v β))) := by
  obtain ⟨d, g, op⟩ := o
  unfold AO.isNew at hn
  simp only [Bool.and_eq_true] at hn
  obtain ⟨hn1, hn2⟩ := hn
  cases g with
  | some _ => simp at hn1
  | none =>
    cases d with
    | none => simp at hn1
    | some d =>
      have hl : ∀ s2 : S, (∀ i ∈ (AO.mk (some d) none op).looks, s2.t i = s.t i) → ∀ x ∈ op.opds, Opd.ev s2 x = Opd.ev s x := fun s2 hs => ev_slots fun i hi => hs i (by simpa [AO.looks] using hi)
      cases op <;> simp only [] at hn2 <;> try (cases hn2; done)
      case alloc ty z =>
        obtain ⟨_, hz, _⟩ := (show aopP std T (.alloc ty z) (Opd.ev s) s.h d (fun v h => K ((s.seth h).put (some d) v)) from hh)
        exact ⟨fun β => .ptr d (some β) z.length 0 0, fun β => ⟨some β, ty, z.length, [z.map vOf]⟩, fun s2 hs K2 => ⟨fun ⟨a, _, b⟩ => ⟨a, b⟩, fun ⟨a, b⟩ => ⟨a, hz, b⟩⟩⟩
      case box ty n x =>
        obtain ⟨_, hz, _⟩ := (show aopP std T (.box ty n x) (Opd.ev s) s.h d (fun v h => K ((s.seth h).put (some d) v)) from hh)
        refine ⟨fun β => .ptr d (some β) n 0 0, fun β => ⟨some β, ty, n, [(x.ev s).cells]⟩, fun s2 hs K2 => ?_⟩
        have he := hl s2 hs x (by simp [AOp.opds])
        show (s2.h d = none ∧ (x.ev s2).fits n ∧ ∀ β : Nat, K2 ((s2.seth (s2.h.put d ⟨some β, ty, n, [(x.ev s2).cells]⟩)).put (some d) (.ptr d (some β) n 0 0))) ↔ _
        rw [he]
        exact ⟨fun ⟨a, _, b⟩ => ⟨a, b⟩, fun ⟨a, b⟩ => ⟨a, hz, b⟩⟩
      case bslice ty sz ps =>
        obtain ⟨_, hz, _⟩ := (show aopP std T (.bslice ty sz ps) (Opd.ev s) s.h d (fun v h => K ((s.seth h).put (some d) v)) from hh)
        refine ⟨fun β => .own (arr + d) (some β) sz ps.length, fun β => ⟨some β, ty, sz, ps.map fun q => (q.ev s).cells⟩, fun s2 hs K2 => ?_⟩
        have he := hl s2 hs
        have e1 : (ps.all fun q => fitsB sz (q.ev s2)) = ps.all fun q => fitsB sz (q.ev s) := by
          rw [Bool.eq_iff_iff, List.all_eq_true, List.all_eq_true]
          exact ⟨fun h q hq => by rw [← he q hq]; exact h q hq, fun h q hq => by rw [he q hq]; exact h q hq⟩
        have e2 : (ps.map fun q => (q.ev s2).cells) = ps.map fun q => (q.ev s).cells := List.map_congr_left fun q hq => by rw [he q hq]
        show (s2.h (arr + d) = none ∧ (ps.all fun q => fitsB sz (q.ev s2)) = true ∧ ∀ β : Nat, K2 ((s2.seth (s2.h.put (arr + d) ⟨some β, ty, sz, ps.map fun q => (q.ev s2).cells⟩)).put (some d) (.own (arr + d) (some β) sz ps.length))) ↔ _
        rw [e1, e2]
        exact ⟨fun ⟨a, _, b⟩ => ⟨a, b⟩, fun ⟨a, b⟩ => ⟨a, hz, b⟩⟩
      case mkslice ty sz bytes z l c =>
        have hh' := (show aopP std T (.mkslice ty sz bytes z l c) (Opd.ev s) s.h d (fun v h => K ((s.seth h).put (some d) v)) from hh)
        cases h1 : l.ev s <;> try (simp only [aopP, h1] at hh'; done)
        rename_i k1 n
        cases h2 : c.ev s <;> try (simp only [aopP, h1, h2] at hh'; done)
        rename_i k2 m
        simp only [aopP, h1, h2] at hh'
        obtain ⟨_, a1, a2, a3, a4, a5, a6, _⟩ := hh'
        refine ⟨fun β => .own (arr + d) (some β) sz (std.nat n), fun β => ⟨some β, ty, sz, std.rrep n (z.map vOf)⟩, fun s2 hs K2 => ?_⟩
        have e1 := (hl s2 hs l (by simp [AOp.opds])).trans h1
        have e2 := (hl s2 hs c (by simp [AOp.opds])).trans h2
        show aopP std T (.mkslice ty sz bytes z l c) (Opd.ev s2) s2.h d (fun v h => K2 ((s2.seth h).put (some d) v)) ↔ _
        simp only [aopP, e1, e2]
        exact ⟨fun ⟨a, _, _, _, _, _, _, b⟩ => ⟨a, b⟩, fun ⟨a, b⟩ => ⟨a, a1, a2, a3, a4, a5, a6, b⟩⟩

theorem callP_mono {f : Nat} {args : List V} {h : Hp} {K K2 : V → Hp → Prop} (hK : ∀ v h, K v h → K2 v h) (hh : CallP P f args h K) : CallP P f args h K2 := by
  obtain ⟨m, args', hp, v, h1, h2, h3, h4, h5⟩ := hh
  exact ⟨m, args', hp, v, h1, h2, h3, h4, hK _ _ h5⟩
theorem rowP_mono {h : Hp} {k sz i : Nat} {b : Option Nat} {K K2 : Ob → List V → Prop} (hK : ∀ o r, K o r → K2 o r) (hh : rowP std h k b sz i K) : rowP std h k b sz i K2 := rowP_le (Hp.le_refl h) hh hK
theorem rowsP_mono {h : Hp} {sz : Nat} {v : V} {K K2 : List (List V) → Prop} (hK : ∀ rows, K rows → K2 rows) (hh : rowsP std h sz v K) : rowsP std h sz v K2 := by
  unfold rowsP at hh ⊢
  cases v <;> try (exact hh.elim)
  case sl => exact ⟨hh.1, hK _ hh.2⟩
  case nilsl => exact hK _ hh
  case own j b sz' n =>
    simp only [] at hh ⊢
    cases hj : h j with
    | none => rw [hj] at hh; exact hh.elim
    | some o => rw [hj] at hh; exact ⟨hh.1, hh.2.1, hh.2.2.1, hh.2.2.2.1, hK _ hh.2.2.2.2⟩
theorem aopP_mono {op : AOp} {ev : Opd → V} {h : Hp} {k : Nat} {K K2 : V → Hp → Prop} (hK : ∀ v h, K v h → K2 v h) (hh : aopP std (CallP P) op ev h k K) : aopP std (CallP P) op ev h k K2 := by
  by_cases hf : (AO.mk none none op).isFun = true
  · obtain ⟨v, h1, h2⟩ := isFun_spec hf ev h k K hh
    exact h2 h k K2 (Hp.le_refl h) (hK _ _ h1)
  · cases op <;> try (exact absurd rfl hf)
    case alloc ty z => exact ⟨hh.1, hh.2.1, fun β => hK _ _ (hh.2.2 β)⟩
    case box ty n x => exact ⟨hh.1, hh.2.1, fun β => hK _ _ (hh.2.2 β)⟩
    case bslice ty sz ps => exact ⟨hh.1, hh.2.1, fun β => hK _ _ (hh.2.2 β)⟩
    case store n x v =>
      have hh : storeP std h n (ev x) (ev v) (fun h => K .junk h) := hh
      show storeP std h n (ev x) (ev v) (fun h => K2 .junk h)
      unfold storeP at hh ⊢
      split at hh
      · rename_i heq
        refine rowP_mono (fun o r hr => ⟨hr.1, hr.2.1, hK _ _ hr.2.2⟩) hh
      · exact hh.elim
    case mkslice ty sz bytes z l c =>
      simp only [aopP] at hh ⊢
      split at hh
      · rename_i e1 e2
        exact ⟨hh.1, hh.2.1, hh.2.2.1, hh.2.2.2.1, hh.2.2.2.2.1, hh.2.2.2.2.2.1, hh.2.2.2.2.2.2.1, fun β => hK _ _ (hh.2.2.2.2.2.2.2 β)⟩
      · exact hh.elim
    case append ty sz bytes x y =>
      have hh : appendP std h (arr + k) ty sz bytes (ev x) (ev y) K := hh
      show appendP std h (arr + k) ty sz bytes (ev x) (ev y) K2
      unfold appendP at hh ⊢
      refine rowsP_mono (fun news hn => ?_) hh
      generalize ev x = vx at hn ⊢
      cases vx <;> try (exact hn.elim)
      case nilsl => exact ⟨hn.1, hn.2.1, fun β => hK _ _ (hn.2.2 β)⟩
      case own j b sz' n =>
        simp only [] at hn ⊢
        cases hj : h j with
        | none => rw [hj] at hn; exact hn.elim
        | some o => rw [hj] at hn; exact ⟨hn.1, hn.2.1, hn.2.2.1, hn.2.2.2.1, hn.2.2.2.2.1, hn.2.2.2.2.2.1, fun β => hK _ _ (hn.2.2.2.2.2.2 β)⟩
    case convbs x =>
      have hh : rowsP std h 1 (ev x) (fun rows => ∃ l, std.bstr rows l ∧ K (.str l) h) := hh
      show rowsP std h 1 (ev x) (fun rows => ∃ l, std.bstr rows l ∧ K2 (.str l) h)
      exact rowsP_mono (fun rows hn => hn.imp fun l hl => ⟨hl.1, hK _ _ hl.2⟩) hh
    case dead => exact hh
    case ixa g len sz x i =>
      simp only [aopP] at hh ⊢
      split at hh
      · rename_i e1 e2
        obtain ⟨a1, a2, a3, a4, n, a5, a6⟩ := hh
        refine ⟨a1, a2, a3, a4, n, a5, ?_⟩
        cases g <;> exact hK _ _ a6
      · exact hh.elim
theorem aone_mono {a : AO} {s : S} {K K2 : S → Prop} (hK : ∀ s, K s → K2 s) (hh : aone std (CallP P) a s K) : aone std (CallP P) a s K2 := by
  obtain ⟨d, g, op⟩ := a
  have plain : ∀ s : S, aoper std (CallP P) ⟨d, g, op⟩ s K → aoper std (CallP P) ⟨d, g, op⟩ s K2 := fun s h => aopP_mono (fun v h' hk => hK _ hk) h
  unfold aone at hh ⊢
  split at hh
  · exact plain s hh
  · split at hh
    · rename_i b _
      cases b
      · exact hK _ hh
      · exact plain _ hh
    · exact hK _ hh
    · exact hh.elim
  · split at hh
    · rename_i b _
      cases b
      · exact plain _ hh
      · exact hK _ hh
    · exact hK _ hh
    · exact hh.elim
theorem aopP_congr_all {op : AOp} {ev ev' : Opd → V} {h : Hp} {k : Nat} {K K' : V → Hp → Prop} (he : ∀ x ∈ op.opds, ev x = ev' x) (hK : ∀ v h, K v h → K' v h) (hh : aopP std (CallP P) op ev h k K) : aopP std (CallP P) op ev' h k K' := by
  rw [aopP_congr he] at hh
  exact aopP_mono hK hh

/-- any operation, where a slot is told that it does not look at -/
theorem any_aone {b : AO} {s : S} {d0 : Option Nat} {u : V} {K K2 : S → Prop} (hl : ∀ e, d0 = some e → e ∉ b.looks ∧ b.d ≠ some e) (hK : ∀ s1, (∀ i, b.d ≠ some i → s1.t i = s.t i) → K (s1.put d0 u) → K2 s1) (hh : aone std (CallP P) b (s.put d0 u) K) : aone std (CallP P) b s K2 := by
  obtain ⟨d, g, op⟩ := b
  have cm : ∀ (s : S) (v : V) (h : Hp), (((s.put d0 u).seth h).put d v) = (((s.seth h).put d v).put d0 u) := by
    intro s v h
    have e1 : (s.put d0 u).seth h = (s.seth h).put d0 u := by cases d0 <;> rfl
    rw [e1]
    exact put_comm fun i hi => (hl i hi).2
  have ts : ∀ (s : S) (i : Nat), (∀ e, d0 = some e → i ≠ e) → (s.put d0 u).t i = s.t i := fun s i hi => put_t fun e => hi i e rfl
  have plain : ∀ s' : S, (∀ i, s'.t i = s.t i) → aoper std (CallP P) ⟨d, g, op⟩ (s'.put d0 u) K → aoper std (CallP P) ⟨d, g, op⟩ s' K2 := by
    intro s' hs' h
    have h' : aopP std (CallP P) op (Opd.ev (s'.put d0 u)) s'.h (d.getD 0) (fun v h => K ((((s'.put d0 u).seth h)).put d v)) := by
      have := h
      unfold aoper at this
      rw [put_h] at this
      exact this
    refine aopP_congr_all (K' := fun v h => K2 ((s'.seth h).put d v)) (ev_slots fun i hi => ts s' i fun e he hie => (hl e he).1 (by rw [← hie]; unfold AO.looks; exact List.mem_append_right _ hi)) (fun v h'' hk => hK _ (fun i hi => ?_) ?_) h'
    · rw [put_t hi]; exact hs' i
    · rw [← cm]; exact hk
  cases g with
  | none => exact plain s (fun _ => rfl) hh
  | some gw =>
    obtain ⟨g, want⟩ := gw
    have hge : ∀ e, d0 = some e → g ≠ e := fun e he hg => (hl e he).1 (by rw [← hg]; simp [AO.looks])
    have hgt : (s.put d0 u).t g = s.t g := ts s g hge
    have cp : ∀ (s : S) (v : V), (s.put d0 u).put d v = (s.put d v).put d0 u := fun s v => put_comm fun i hi => (hl i hi).2
    cases hb : s.t g with
    | bool b =>
      have hb2 := hgt.trans hb
      have e1 : (s.put d0 u).set g (.bool b) = s.put d0 u := set_same hb2
      have e2 : s.set g (.bool b) = s := set_same hb
      cases want <;> cases b <;> simp only [aone, hb, hb2, br, e1, e2] at hh ⊢
      · exact plain s (fun _ => rfl) hh
      · exact hK _ (fun i hi => put_t hi) (by rw [← cp]; exact hh)
      · exact hK _ (fun i hi => put_t hi) (by rw [← cp]; exact hh)
      · exact plain s (fun _ => rfl) hh
    | und =>
      have hb2 := hgt.trans hb
      cases want <;> simp only [aone, hb, hb2] at hh ⊢ <;> exact hK _ (fun i hi => put_t hi) (by rw [← cp]; exact hh)
    | _ =>
      have hb2 := hgt.trans hb
      cases want <;> simp only [aone, hb2] at hh

theorem put_seth {s : S} {h : Hp} {d : Option Nat} {v : V} : (s.put d v).seth h = (s.seth h).put d v := by cases d <;> rfl
theorem seth_h {s : S} {h : Hp} : (s.seth h).h = h := rfl
theorem seth_seth {s : S} {h h' : Hp} : (s.seth h).seth h' = s.seth h' := rfl
theorem seth_t {s : S} {h : Hp} {i : Nat} : (s.seth h).t i = s.t i := rfl
theorem hp_put_comm {h : Hp} {a b : Nat} {o q : Ob} (hne : a ≠ b) : Hp.put (Hp.put h a o) b q = Hp.put (Hp.put h b q) a o := by
  funext i
  simp only [Hp.put]
  by_cases h1 : i = a
  · subst h1; simp [hne]
  · simp [h1]
theorem Hp.le_put {h : Hp} {k : Nat} {o : Ob} (hk : h k = none) : h.le (h.put k o) := by
  intro j q hj
  simp only [Hp.put]
  rw [if_neg (fun e => by rw [e, hk] at hj; cases hj)]
  exact hj

theorem swap {a b : AO} (hp : okPair a b = true) {s : S} {K : S → Prop} (hh : aone std (CallP P) a s fun s1 => aone std (CallP P) b s1 K) : aone std (CallP P) b s fun s1 => aone std (CallP P) a s1 K := by
  unfold okPair at hp
  simp only [Bool.and_eq_true, Bool.or_eq_true, bne_iff_ne] at hp
  obtain ⟨hap, hkind⟩ := hp
  obtain ⟨h1, h2⟩ := apart_spec hap
  have hcm : ∀ i, a.d = some i → b.d ≠ some i := fun i he => (h1 i he).2
  have hcm2 : ∀ i, b.d = some i → a.d ≠ some i := fun i he ha => (h1 i ha).2 he
  rcases hkind with (hpa | ⟨hfa, hfb | hnb⟩) | ⟨hna, hpb | ⟨hnb, hkey⟩⟩
  · -- the first is pure
    obtain ⟨va, ha⟩ := pure_aone hpa hh
    have hb := (ha s (fun _ _ => rfl) _).1 hh
    exact any_aone (d0 := a.d) (u := va) (fun e he => h1 e he) (fun s1 hs hk => (ha s1 (fun i hi => hs i fun hb => h2 i hb hi) _).2 hk) hb
  · -- both answer alone
    obtain ⟨va, ha1, ha2⟩ := fun_aone hfa hh
    obtain ⟨vb, hb1, hb2⟩ := fun_aone hfb ha1
    have e1 : ∀ i ∈ b.looks, s.t i = (s.put a.d va).t i := fun i hi => (put_t fun he => (h1 i he).1 hi).symm
    refine hb2 s e1 (by rw [put_h]; exact Hp.le_refl _) _ (ha2 _ (fun i hi => put_t fun he => h2 i he hi) (by rw [put_h]; exact Hp.le_refl _) _ ?_)
    rw [put_comm hcm2]
    exact hb1
  · -- the second makes an object
    obtain ⟨va, ha1, ha2⟩ := fun_aone hfa hh
    obtain ⟨vb, ob, hb⟩ := new_aone hnb ha1
    obtain ⟨hk, hβ⟩ := (hb _ (fun _ _ => rfl) _).1 ha1
    rw [put_h] at hk
    have e1 : ∀ i ∈ b.looks, s.t i = (s.put a.d va).t i := fun i hi => (put_t fun he => (h1 i he).1 hi).symm
    refine (hb s e1 _).2 ⟨hk, fun β => ha2 ((s.seth (s.h.put b.key (ob β))).put b.d (vb β)) (fun i hi => put_t (s := s.seth (s.h.put b.key (ob β))) fun he => h2 i he hi) (by rw [put_h]; exact Hp.le_put hk) _ ?_⟩
    have := hβ β
    rw [put_h, put_seth, put_comm hcm] at this
    exact this
  · -- the first makes an object, the second is pure
    obtain ⟨va, oa, ha⟩ := new_aone hna hh
    obtain ⟨hk, hβ⟩ := (ha _ (fun _ _ => rfl) _).1 hh
    obtain ⟨vb, hb⟩ := pure_aone hpb (hβ 0)
    have e0 : ∀ (β : Nat), ∀ i ∈ b.looks, ((s.seth (s.h.put a.key (oa β))).put a.d (va β)).t i = s.t i := fun β i hi => put_t fun he => (h1 i he).1 hi
    have eq : ∀ (β : Nat), ∀ i ∈ b.looks, ((s.seth (s.h.put a.key (oa β))).put a.d (va β)).t i = ((s.seth (s.h.put a.key (oa 0))).put a.d (va 0)).t i := fun β i hi => (e0 β i hi).trans (e0 0 i hi).symm
    refine (hb s (fun i hi => (e0 0 i hi).symm) _).2 ((ha _ (fun i hi => put_t fun he => h2 i he hi) _).2 ⟨by rw [put_h]; exact hk, fun β => ?_⟩)
    have := (hb _ (eq β) _).1 (hβ β)
    rw [put_h, put_seth, put_comm hcm2]
    exact this
  · -- both make objects
    obtain ⟨va, oa, ha⟩ := new_aone hna hh
    obtain ⟨hk, hβ⟩ := (ha _ (fun _ _ => rfl) _).1 hh
    obtain ⟨vb, ob, hb⟩ := new_aone hnb (hβ 0)
    have e0 : ∀ (β : Nat), ∀ i ∈ b.looks, ((s.seth (s.h.put a.key (oa β))).put a.d (va β)).t i = s.t i := fun β i hi => put_t fun he => (h1 i he).1 hi
    have eq : ∀ (β : Nat), ∀ i ∈ b.looks, ((s.seth (s.h.put a.key (oa β))).put a.d (va β)).t i = ((s.seth (s.h.put a.key (oa 0))).put a.d (va 0)).t i := fun β i hi => (e0 β i hi).trans (e0 0 i hi).symm
    have hkb : s.h b.key = none := by
      have := ((hb _ (eq 0) _).1 (hβ 0)).1
      rw [put_h, seth_h] at this
      simp only [Hp.put] at this
      rw [if_neg (fun e => hkey e.symm)] at this
      exact this
    refine (hb s (fun i hi => (e0 0 i hi).symm) _).2 ⟨hkb, fun γ => (ha ((s.seth (s.h.put b.key (ob γ))).put b.d (vb γ)) (fun i hi => put_t (s := s.seth (s.h.put b.key (ob γ))) fun he => h2 i he hi) _).2 ⟨?_, fun β => ?_⟩⟩
    · rw [put_h, seth_h]
      simp only [Hp.put]
      rw [if_neg hkey]
      exact hk
    · have := ((hb _ (eq β) _).1 (hβ β)).2 γ
      rw [put_h, seth_h, put_seth, seth_seth, put_comm hcm, hp_put_comm hkey] at this
      rw [put_h, seth_h, put_seth, seth_seth]
      exact this

/-- operations by their numbers -/
def aopsI (T : CallT) (al : List AO) : List Nat → S → (S → Prop) → Prop
  | [], s, K => K s
  | i :: R, s, K => match al[i]? with
    | some o => aone std T o s fun s => aopsI T al R s K
    | none => False

theorem aopsI_all {T : CallT} {al : List AO} : ∀ (l pre : List AO), al = pre ++ l → ∀ s K, aopsI T al (List.range' pre.length l.length) s K = aops std T l s K
  | [], pre, _, s, K => rfl
  | o :: l, pre, he, s, K => by
    rw [List.length_cons, List.range'_succ]
    simp only [aopsI]
    have : al[pre.length]? = some o := by rw [he]; simp
    rw [this]
    have ih := aopsI_all (T := T) (al := al) l (pre ++ [o]) (by rw [he]; simp)
    simp only [List.length_append, List.length_cons, List.length_nil, Nat.zero_add] at ih
    have e : (fun s => aopsI T al (List.range' (pre.length + 1) l.length) s K) = fun s => aops std T l s K := funext fun s => ih s K
    simp only [e]
    rfl

/-- one that meddles with none ahead of it may come first -/
theorem to_front {al : List AO} {i : Nat} {oi : AO} (hi : al[i]? = some oi) : ∀ (R1 R2 : List Nat) (s : S) (K : S → Prop), (∀ j ∈ R1, ∃ oj, al[j]? = some oj ∧ okPair oj oi = true) → aopsI (CallP P) al (R1 ++ i :: R2) s K →
    aone std (CallP P) oi s fun s => aopsI (CallP P) al (R1 ++ R2) s K
  | [], R2, s, K, _, h => by
    simp only [List.nil_append, aopsI, hi] at h
    exact h
  | j :: R1, R2, s, K, hR, h => by
    obtain ⟨oj, hj, hp⟩ := hR j (by simp)
    simp only [List.cons_append, aopsI, hj] at h
    have h' := aone_mono (fun s1 hs1 => to_front hi R1 R2 s1 K (fun k hk => hR k (by simp [hk])) hs1) h
    have := swap hp h'
    simpa only [List.cons_append, aopsI, hj] using this

/-! the edges -/
inductive Anc (ops : Array Oper) : Nat → Nat → Prop
  | base {j i} (h : j ∈ predsOf ops i) : Anc ops j i
  | step {j k i} (h : k ∈ predsOf ops i) (h' : Anc ops j k) : Anc ops j i
def ancTbl (ops : Array Oper) : Nat → List (List Nat)
  | 0 => []
  | n + 1 =>
    let t := ancTbl ops n
    t ++ [(predsOf ops n ++ (predsOf ops n).flatMap fun k => t.getD k []).eraseDups]
theorem ancTbl_len (ops : Array Oper) (n : Nat) : (ancTbl ops n).length = n := by
  induction n with
  | zero => rfl
  | succ n ih => simp [ancTbl, ih]
theorem ancTbl_sound (ops : Array Oper) : ∀ (n i j : Nat), j ∈ (ancTbl ops n).getD i [] → Anc ops j i := by
  intro n
  induction n with
  | zero => intro i j h; simp [ancTbl] at h
  | succ n ih =>
    intro i j h
    simp only [ancTbl] at h
    rw [List.getD_eq_getElem?_getD] at h
    by_cases hi : i < n
    · rw [List.getElem?_append_left (by rw [ancTbl_len]; exact hi), ← List.getD_eq_getElem?_getD] at h
      exact ih i j h
    · by_cases hin : i = n
      · subst hin
        rw [List.getElem?_append_right (by rw [ancTbl_len]; exact Nat.le_refl _), ancTbl_len] at h
        simp only [Nat.sub_self, List.getElem?_cons_zero, Option.getD_some, List.mem_eraseDups, List.mem_append, List.mem_flatMap] at h
        rcases h with h | ⟨k, hk, h⟩
        · exact .base h
        · exact .step hk (ih k j h)
      · rw [List.getElem?_eq_none (by simp [ancTbl_len]; omega)] at h
        simp at h

/-- may such a region be read in the text's order? -/
def drawD (ops : Array Oper) (al : List AO) : Bool :=
  let t := ancTbl ops ops.size
  (List.range ops.size).all fun i => (predsOf ops i).all (fun j => decide (j < i)) &&
    (List.range i).all fun j => ((t.getD i []).contains j) || (match al[j]?, al[i]? with
      | some a, some b => okPair a b
      | _, _ => false)

theorem trOs_get {P : Program} {n : Nat} {ops : Array Oper} : ∀ {l : List Oper} {al : List AO}, trOs P n ops l = some al → l.length = al.length ∧ ∀ (i : Nat) (o : Oper), l[i]? = some o → ∃ a, al[i]? = some a ∧ trO P n ops o = some a
  | [], al, h => by simp [trOs] at h; subst h; simp
  | o :: l, al, h => by
    simp only [trOs] at h
    split at h
    · rename_i a m ha hm
      cases h
      obtain ⟨h1, h2⟩ := trOs_get hm
      refine ⟨by simp [h1], fun i o' ho => ?_⟩
      cases i with
      | zero => simp at ho; subst ho; exact ⟨a, rfl, ha⟩
      | succ i => exact h2 i o' (by simpa using ho)
    · cases h

theorem any_sound {C : Ctx} {n : Nat} {ops : Array Oper} {al : List AO} {Q : Exit → Act → World → Prop} (hC : C.Ok) (hal : trOs P n ops ops.toList = some al) (hD : drawD ops al = true) {K : S → Prop} (hQ : ∀ s' a' w', Sat C n s' a' w' → K s' → Q .normal a' w') :
    ∀ (R : List Nat) (listed : Array Bool) (s : S) (a : Act) (w : World), listed.size = ops.size → (∀ i, i ∈ R ↔ i < ops.size ∧ listed.getD i true = false) → R.Pairwise (· < ·) → (∀ i, i < ops.size → listed.getD i false = true → ∀ j ∈ predsOf ops i, listed.getD j false = true) →
      Sat C n s a w → aopsI (CallP P) al R s K → wpAny P .any ops Q R.length listed a w := by
  have anc_listed : ∀ (listed : Array Bool), (∀ i, i < ops.size → listed.getD i false = true → ∀ j ∈ predsOf ops i, listed.getD j false = true) → ∀ j i, Anc ops j i → (∀ k ∈ predsOf ops i, listed.getD k false = true) → listed.getD j false = true := by
    intro listed hcl j i ha
    induction ha with
    | base h => exact fun hp => hp _ h
    | @step k i h h' ih =>
      intro hp
      have hk := hp k h
      have hks : k < ops.size := by
        rcases Nat.lt_or_ge k ops.size with h1 | h1
        · exact h1
        · exfalso
          have : predsOf ops k = [] := by unfold predsOf; rw [Array.getElem?_eq_none h1]
          cases h' with
          | base h2 => rw [this] at h2; cases h2
          | step h2 _ => rw [this] at h2; cases h2
      exact ih (hcl k hks hk)
  have chk : ∀ i, i < ops.size → (∀ j ∈ predsOf ops i, j < i) ∧ ∀ j, j < i → Anc ops j i ∨ ∃ a b, al[j]? = some a ∧ al[i]? = some b ∧ okPair a b = true := by
    intro i hi
    unfold drawD at hD
    have h1 := List.all_eq_true.1 hD i (List.mem_range.2 hi)
    simp only [Bool.and_eq_true] at h1
    refine ⟨fun j hj => by simpa using List.all_eq_true.1 h1.1 j hj, fun j hj => ?_⟩
    have h2 := List.all_eq_true.1 h1.2 j (List.mem_range.2 hj)
    simp only [Bool.or_eq_true] at h2
    rcases h2 with h2 | h2
    · exact .inl (ancTbl_sound ops ops.size i j (by simpa using h2))
    · right
      cases ha : al[j]? with
      | none => rw [ha] at h2; simp at h2
      | some x =>
        cases hb : al[i]? with
        | none => rw [ha, hb] at h2; simp at h2
        | some y => rw [ha, hb] at h2; exact ⟨x, y, rfl, rfl, h2⟩
  have getb : ∀ (listed : Array Bool) (i : Nat), listed.size = ops.size → i < ops.size → (listed.getD i true = false ↔ ¬ listed.getD i false = true) := by
    intro listed i hs hi
    have : i < listed.size := by omega
    simp [this]
  intro R
  generalize hk : R.length = k
  induction k generalizing R with
  | zero =>
    intro listed s a w hsz hmem _ _ hs hK
    have hR : R = [] := List.eq_nil_of_length_eq_zero hk
    subst hR
    refine ⟨List.eq_nil_iff_forall_not_mem.2 fun j hj => ?_, hQ s a w hs hK⟩
    obtain ⟨h1, o, ho, _⟩ := mem_ready.1 hj
    have := (hmem j).2 ⟨(Array.getElem?_eq_some_iff.1 ho).1, h1⟩
    cases this
  | succ k ih =>
    intro listed s a w hsz hmem hsort hcl hs hK
    refine ⟨fun hr => ?_, fun i hi => ?_⟩
    · exfalso
      cases R with
      | nil => cases hk
      | cons i0 R =>
        obtain ⟨hi0, hl0⟩ := (hmem i0).1 (by simp)
        have : i0 ∈ Region.ready .any ops listed := by
          refine mem_ready.2 ⟨hl0, ops[i0], Array.getElem?_eq_getElem hi0, fun e he hb => ?_⟩
          have hp : e.on ∈ predsOf ops i0 := by
            unfold predsOf
            rw [Array.getElem?_eq_getElem hi0]
            exact List.mem_map.2 ⟨e, List.mem_filter.2 ⟨by simpa using he, hb⟩, rfl⟩
          have hlt := (chk i0 hi0).1 _ hp
          by_cases hl : listed.getD e.on false = true
          · exact hl
          · exfalso
            have hin := (hmem e.on).2 ⟨by omega, (getb listed e.on hsz (by omega)).2 hl⟩
            rcases List.mem_cons.1 hin with h | h
            · omega
            · have := (List.pairwise_cons.1 hsort).1 _ h
              omega
        rw [hr] at this
        cases this
    · obtain ⟨hl, o, ho, hall⟩ := mem_ready.1 hi
      have hio : i < ops.size := (Array.getElem?_eq_some_iff.1 ho).1
      have hiR : i ∈ R := (hmem i).2 ⟨hio, hl⟩
      obtain ⟨R1, R2, rfl⟩ := List.append_of_mem hiR
      have hpre : ∀ k ∈ predsOf ops i, listed.getD k false = true := by
        intro k hkp
        unfold predsOf at hkp
        rw [ho] at hkp
        obtain ⟨e, he, rfl⟩ := List.mem_map.1 hkp
        obtain ⟨he1, he2⟩ := List.mem_filter.1 he
        exact hall e (by simpa using he1) he2
      obtain ⟨_, hget⟩ := trOs_get hal
      obtain ⟨ai, hai, htr⟩ := hget i o (by simpa using ho)
      have hsort1 := List.pairwise_append.1 hsort
      have hR1 : ∀ j ∈ R1, ∃ oj, al[j]? = some oj ∧ okPair oj ai = true := by
        intro j hj
        have hji : j < i := hsort1.2.2 j hj i (by simp)
        obtain ⟨hjs, hjl⟩ := (hmem j).1 (by simp [hj])
        rcases (chk i hio).2 j hji with h | ⟨x, y, hx, hy, hxy⟩
        · exact absurd (anc_listed listed hcl j i h hpre) ((getb listed j hsz hjs).1 hjl)
        · rw [hai] at hy
          cases hy
          exact ⟨x, hx, hxy⟩
      have hfront := to_front hai R1 R2 s K hR1 hK
      have hnd : i ∉ R1 ++ R2 := by
        intro h
        rcases List.mem_append.1 h with h | h
        · have := hsort1.2.2 i h i (by simp); omega
        · have := (List.pairwise_cons.1 hsort1.2.1).1 i h; omega
      unfold wpOp
      rw [ho]
      refine aone_sound callP_ok hC htr hs hfront fun s' a' w' hs' hK' => ih (R1 ++ R2) ?_ (listed.setIfInBounds i true) s' a' w' (by simp [hsz]) (fun j => ?_) ?_ (fun j hj hlj q hq => ?_) hs' hK'
      · simp at hk ⊢; omega
      · by_cases hij : i = j
        · subst hij
          have h1 : (listed.setIfInBounds i true).getD i true = true := by
            have : i < listed.size := by omega
            simp [this]
          rw [h1]
          exact ⟨fun h => absurd h hnd, fun h => by simp at h⟩
        · rw [getD_set_ne true hij, ← hmem j]
          simp only [List.mem_append, List.mem_cons]
          constructor
          · rintro (h | h)
            · exact .inl h
            · exact .inr (.inr h)
          · rintro (h | h | h)
            · exact .inl h
            · exact absurd h.symm hij
            · exact .inr h
      · refine List.pairwise_append.2 ⟨hsort1.1, (List.pairwise_cons.1 hsort1.2.1).2, fun x hx y hy => hsort1.2.2 x hx y (by simp [hy])⟩
      · by_cases hij : i = j
        · subst hij
          exact getD_set_true (hpre q hq)
        · rw [getD_set_ne false hij] at hlj
          exact getD_set_true (hcl j hj hlj q hq)

theorem drawD_ok (hm : P.follows .mixedOrders = true) : DrawOk P drawD := by
  refine ⟨hm, ?_⟩
  intro C n id ops al s a w K Q hC hal hD hs hK hQ
  refine wp_region_any hm ?_
  have hs2 : Sat C n s a { w with drawn := w.drawn + 1 } := by
    obtain ⟨F, hh, hr⟩ := hs.ex
    have hev : Ev (fun _ => False) w { w with drawn := w.drawn + 1 } := Ev.drew _ w
    refine ⟨⟨F, ⟨fun k o hk => ObSat.keep hC hh hev (fun _ _ h => h.elim) (hh.ob k o hk) (fun _ _ h => h.elim), hh.inj, hh.live, hh.old, hh.new, hh.lt, Ev.weak hh.ev hev fun _ _ h => h.elim⟩, fun i => hh.keep hC hev (fun _ _ h => h.elim) (hr i)⟩, hs.df, hs.sz⟩
  have hlen := (trOs_get hal).1
  have hall := aopsI_all (T := CallP P) (al := al) al [] rfl s K
  have hrange : (List.range' 0 al.length).length = ops.size := by simp [← hlen]
  have := any_sound hC hal hD hQ (List.range' 0 al.length) (Array.replicate ops.size false) s a { w with drawn := w.drawn + 1 } (by simp) (fun i => ?_) ?_ (fun i hi hl => ?_) hs2 (by rw [show (0 : Nat) = ([] : List AO).length from rfl, hall]; exact hK)
  · rw [hrange] at this
    exact this
  · have he : al.length = ops.size := by rw [← hlen]; simp
    rw [he]
    simp only [List.mem_range'_1, Nat.zero_le, Nat.zero_add, true_and]
    exact ⟨fun h => ⟨h, by simp [h]⟩, fun h => h.1⟩
  · exact List.pairwise_lt_range'
  · simp [hi] at hl
end
end Go.Proofs.Ytdmpbdmgaepndaa.AM
