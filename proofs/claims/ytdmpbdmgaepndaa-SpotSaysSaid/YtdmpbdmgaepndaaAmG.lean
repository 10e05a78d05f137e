/-
  Calls that are handed objects of the caller's.
-/
import Derived.Test.YtdmpbdmgaepndaaAmF
set_option linter.unusedVariables false
set_option linter.unusedSimpArgs false
namespace Go.Proofs.Ytdmpbdmgaepndaa.AM
open Go
open Go.BigFrame

theorem HEnt.refl (h : Hp) : HEnt h h := fun _ _ _ _ hs => hs

/-- a cell that is a slice of nothing may be said to be an object of the call's own -/
theorem HEnt.nilcell {h : Hp} {k k' ty sz r c : Nat} {o : Ob} {row : List V} (hk : h k = some o) (hr : o.rows[r]? = some row) (hc : row[c]? = some .nilsl) (hk' : h k' = none) :
    HEnt h (Hp.put (Hp.put h k ⟨o.b, o.ty, o.sz, o.rows.set r (row.set c (.own k' none sz 0))⟩) k' ⟨none, ty, sz, []⟩) := by
  intro C F w hC hs
  have hne : k ≠ k' := fun e => by rw [e, hk'] at hk; cases hk
  have look : ∀ j q, (Hp.put (Hp.put h k ⟨o.b, o.ty, o.sz, o.rows.set r (row.set c (.own k' none sz 0))⟩) k' ⟨none, ty, sz, []⟩) j = some q →
      (j = k' ∧ q = ⟨none, ty, sz, []⟩) ∨ (j ≠ k' ∧ j = k ∧ q = ⟨o.b, o.ty, o.sz, o.rows.set r (row.set c (.own k' none sz 0))⟩) ∨ (j ≠ k' ∧ j ≠ k ∧ h j = some q) := by
    intro j q hj
    simp only [Hp.put] at hj
    by_cases h1 : j = k'
    · rw [if_pos h1] at hj; cases hj; exact .inl ⟨h1, rfl⟩
    · rw [if_neg h1] at hj
      by_cases h2 : j = k
      · rw [if_pos h2] at hj; cases hj; exact .inr (.inl ⟨h1, h2, rfl⟩)
      · rw [if_neg h2] at hj; exact .inr (.inr ⟨h1, h2, hj⟩)
  have blk : ∀ j q b, (Hp.put (Hp.put h k ⟨o.b, o.ty, o.sz, o.rows.set r (row.set c (.own k' none sz 0))⟩) k' ⟨none, ty, sz, []⟩) j = some q → q.b = some b → ∃ q', h j = some q' ∧ q'.b = some b := by
    intro j q b hj hb
    rcases look j q hj with ⟨_, rfl⟩ | ⟨_, rfl, rfl⟩ | ⟨_, _, hq⟩
    · cases hb
    · exact ⟨o, hk, hb⟩
    · exact ⟨q, hq, hb⟩
  refine ⟨fun j q hj => ?_, fun j j' q q' b hj hj' hb hb' => ?_, fun j q b hj hb => ?_, hs.old, hs.new, hs.lt, hs.ev⟩
  · rcases look j q hj with ⟨_, rfl⟩ | ⟨_, rfl, rfl⟩ | ⟨_, _, hq⟩
    · exact (show ObSat F C.B w ⟨none, ty, sz, []⟩ from rfl)
    · have ho := hs.ob j o hk
      unfold ObSat at ho ⊢
      simp only
      cases hb : o.b with
      | none =>
        rw [hb] at ho
        simp only at ho ⊢
        rw [ho] at hr
        simp at hr
      | some b =>
        rw [hb] at ho
        obtain ⟨cs, cap, h1, h2, h3, h4, h5, h6⟩ := ho
        have hrl := (List.getElem?_eq_some_iff.1 hr).1
        refine ⟨cs, cap, h1, h2, h3, by simpa using h4, fun r' hr' => ?_, fun i l r' v hi hl => ?_⟩
        · rcases List.mem_or_eq_of_mem_set hr' with h | h
          · exact h5 r' h
          · rw [h, List.length_set]; exact h5 row (List.mem_of_getElem? hr)
        · rw [List.getElem?_set] at hi
          by_cases hir : r = i
          · subst hir
            rw [if_pos rfl, if_pos hrl] at hi
            cases hi
            rw [List.getElem?_set] at hl
            by_cases hlc : c = l
            · subst hlc
              rw [if_pos rfl] at hl
              obtain ⟨u, hu, h1u, hru⟩ := h6 r c row .nilsl hr hc
              split at hl
              · cases hl
                refine ⟨u, hu, h1u, ?_⟩
                cases hru
                exact .ownnil _ _
              · cases hl
            · rw [if_neg hlc] at hl
              exact h6 r l row v hr hl
          · rw [if_neg hir] at hi
            exact h6 i l r' v hi hl
    · exact hs.ob j q hq
  · obtain ⟨p, hp, hpb⟩ := blk j q b hj hb
    obtain ⟨p', hp', hpb'⟩ := blk j' q' b hj' hb'
    exact hs.inj j j' p p' b hp hp' hpb hpb'
  · obtain ⟨p, hp, hpb⟩ := blk j q b hj hb
    exact hs.live j p b hp hpb

/-- plain values: no object of the call's own in them -/
def V.pl : V → Bool
  | .own .. => false
  | .ptr .. => false
  | .agg _ => false
  | .tup _ => false
  | _ => true
theorem V.pl_rl {v : V} (h : v.pl = true) (f : Nat → Nat) : v.rl f = v := by cases v <;> first | rfl | cases h
theorem V.pl_ren {v : V} (h : v.pl = true) (f : Nat → Nat) : v.ren f = v := by cases v <;> first | rfl | cases h
theorem args_plain {h : Hp} {m : List (Nat × Nat)} : ∀ {l : List V}, l.all V.pl = true → Args h m l l
  | [], _ => .nil
  | v :: l, hl => by
    simp only [List.all_cons, Bool.and_eq_true] at hl
    refine .cons ?_ (args_plain hl.2)
    have := Arg.same (h := h) (m := m) v
    rwa [V.pl_ren hl.1] at this

/-- a call that is handed one object -/
theorem call1 {P : Program} {f k sz : Nat} {b : Option Nat} {rest : List V} {o : Ob} {post : V → List (Nat × Ob) → Prop} (hs : Spec P f (.ptr 0 b sz 0 0 :: rest) (lookH [(0, o)]) fun v' h' => ∃ L', post v' L' ∧ h' = lookH L') (hpost : ∀ v L', post v L' → ∃ o', L' = [(0, o')])
    (hrest : rest.all V.pl = true) (ho : ∀ g, o.ren g = o) (hz : o.Fz) {h : Hp} {K : V → Hp → Prop} (hk : h k = some o) (hK : ∀ v o', post v [(0, o')] → K (v.ren (lab [(0, k)])) (h.put k (o'.ren (lab [(0, k)])))) : CallE P f (.ptr k b sz 0 0 :: rest) h K := by
  refine ⟨h, HEnt.refl h, [(0, k)], _, _, _, hs, .cons ?_ (args_plain hrest), fun j q hj => ?_, fun p hp => ?_, ?_⟩
  · have := Arg.same (h := h) (m := [(0, k)]) (.ptr k b sz 0 0)
    simpa [V.ren, V.rl, bal] using this
  · simp only [lookH] at hj
    split at hj
    · rename_i h0; exact ⟨(0, k), by simp, h0.symm⟩
    · cases hj
  · simp only [List.mem_singleton] at hp
    subst hp
    refine ⟨by simp [lab], by simp [bal], fun q hq => ?_⟩
    simp only [lookH, ↓reduceIte, Option.some.injEq] at hq
    subst hq
    exact ⟨by rw [hk, Option.map_some, ho], hz⟩
  · rintro v' h' ⟨L', hp, rfl⟩
    obtain ⟨o', rfl⟩ := hpost _ _ hp
    have e : h.upd [(0, k)] (lookH [(0, o')]) = h.put k (o'.ren (lab [(0, k)])) := by
      funext i
      unfold Hp.upd Hp.put
      simp only [List.any_cons, List.any_nil, Bool.or_false, decide_eq_true_eq]
      by_cases hi : k = i
      · rw [if_pos hi, if_pos hi.symm, ← hi]
        simp [bal, lookH]
      · rw [if_neg hi, if_neg (fun e => hi e.symm)]
    rw [e]
    exact hK v' o' hp

/-- a call that is handed two objects, one of which the other holds -/
theorem call2 {P : Program} {f k ka sz : Nat} {b : Option Nat} {rest : List V} {o O q Q : Ob} {post : V → List (Nat × Ob) → Prop} (hs : Spec P f (.ptr 0 b sz 0 0 :: rest) (lookH [(0, o), (1, q)]) fun v' h' => ∃ L', post v' L' ∧ h' = lookH L') (hpost : ∀ v L', post v L' → ∃ o' q', L' = [(0, o'), (1, q')])
    (hrest : rest.all V.pl = true) (hne : k ≠ ka) (hO : O.ren (bal [(0, k), (1, ka)]) = o) (hQ : Q.ren (bal [(0, k), (1, ka)]) = q) (hz : o.Fz) (hzq : q.Fz) {h : Hp} {K : V → Hp → Prop} (hk : h k = some O) (hka : h ka = some Q)
    (hK : ∀ v o' q', post v [(0, o'), (1, q')] → K (v.ren (lab [(0, k), (1, ka)])) (Hp.put (Hp.put h k (o'.ren (lab [(0, k), (1, ka)]))) ka (q'.ren (lab [(0, k), (1, ka)])))) : CallW P f (.ptr k b sz 0 0 :: rest) h K := by
  refine ⟨[(0, k), (1, ka)], _, _, _, hs, .cons ?_ (args_plain hrest), fun j x hj => ?_, fun p hp => ?_, ?_⟩
  · have := Arg.same (h := h) (m := [(0, k), (1, ka)]) (.ptr k b sz 0 0)
    simpa [V.ren, V.rl, bal] using this
  · simp only [lookH] at hj
    split at hj
    · rename_i h0; exact ⟨(0, k), by simp, h0.symm⟩
    · split at hj
      · rename_i h0; exact ⟨(1, ka), by simp, h0.symm⟩
      · cases hj
  · simp only [List.mem_cons, List.not_mem_nil, or_false] at hp
    rcases hp with rfl | rfl
    · refine ⟨by simp [lab], by simp [bal], fun x hx => ?_⟩
      simp only [lookH, ↓reduceIte, Option.some.injEq] at hx
      subst hx
      exact ⟨by rw [hk, Option.map_some, hO], hz⟩
    · refine ⟨by simp [lab], (by have hne' : ¬ ka = k := fun e => hne e.symm; simp [bal, hne']), fun x hx => ?_⟩
      simp [lookH] at hx
      subst hx
      exact ⟨by rw [hka, Option.map_some, hQ], hzq⟩
  · rintro v' h' ⟨L', hp, rfl⟩
    obtain ⟨o', q', rfl⟩ := hpost _ _ hp
    have e : h.upd [(0, k), (1, ka)] (lookH [(0, o'), (1, q')]) = Hp.put (Hp.put h k (o'.ren (lab [(0, k), (1, ka)]))) ka (q'.ren (lab [(0, k), (1, ka)])) := by
      funext i
      unfold Hp.upd Hp.put
      simp only [List.any_cons, List.any_nil, Bool.or_false, Bool.or_eq_true, decide_eq_true_eq]
      by_cases h1 : ka = i
      · subst h1
        rw [if_pos (.inr rfl), if_pos rfl]
        have hne' : ¬ ka = k := fun e => hne e.symm
        simp [bal, lookH, hne']
      · by_cases h2 : k = i
        · subst h2
          rw [if_pos (.inl rfl), if_neg (fun e => h1 e.symm), if_pos rfl]
          simp [bal, lookH]
        · rw [if_neg (by rintro (h | h); exact h2 h; exact h1 h), if_neg (fun e => h1 e.symm), if_neg (fun e => h2 e.symm)]
    rw [e]
    exact hK v' o' q' hp
theorem resV_mono {s : S} : ∀ (rv : List RV) (K K' : List V → Prop), (∀ x, K x → K' x) → resV s rv K → resV s rv K' := by
  intro rv
  induction rv with
  | nil => intro K K' hK h; exact hK _ h
  | cons r rv ih =>
    intro K K' hK h
    cases r with
    | t i => exact ih _ _ (fun x hx => hK _ hx) h
    | c1 i =>
      simp only [resV] at h ⊢
      unfold load1V at h ⊢
      split at h
      · unfold rowC at h ⊢
        split at h
        · obtain ⟨a1, a2, a3, a4, a5⟩ := h
          exact ⟨a1, a2, a3, a4, ih _ _ (fun x hx => hK _ hx) a5⟩
        · exact h.elim
      · exact ⟨h.1, ih _ _ (fun x hx => hK _ hx) h.2⟩
      · exact h.elim
    | cn i n =>
      simp only [resV] at h ⊢
      unfold loadnV at h ⊢
      split at h
      · unfold rowC at h ⊢
        split at h
        · obtain ⟨a1, a2, a3, a4, a5⟩ := h
          exact ⟨a1, a2, a3, a4, ih _ _ (fun x hx => hK _ hx) a5⟩
        · exact h.elim
      · exact ⟨h.1, ih _ _ (fun x hx => hK _ hx) h.2⟩
      · exact h.elim

/-- a method that is handed some objects, numbered from 0 -/
theorem spec_meth {P : Program} {f : Nat} {fn : Func} {ac : AC} {rv : List RV} {args : List V} {L : List (Nat × Ob)} {D : Array Oper → List AO → Bool} (hD : DrawOk P D) (ok : FnOk P f fn ac rv args.length D) (post : V → List (Nat × Ob) → Prop)
    (h : ∀ R : S → Prop, (∀ (s s' : S) (v : V) (L' : List (Nat × Ob)), Ent s s' → resV s' rv (fun x => oneV x = v) → agreeH L' s' → Fz v → (∀ p ∈ L', p.2.Fz) → post v L' → R s) → awp std (CallE P) (CallP P) ac (S0 args (lookH L)) R (fun _ _ => False) R) :
    Spec P f args (lookH L) (fun v h' => ∃ L', post v L' ∧ h' = lookH L') := by
  obtain ⟨c, hc, hac⟩ := Option.bind_eq_some_iff.1 ok.body
  refine spec_of hD ok.func ok.name hc hac ok.res ok.args (h _ fun s s' v L' he hr ha hz hzL hp => ⟨s', he, ?_⟩)
  refine resV_mono rv _ _ (fun x hx => ?_) hr
  subst hx
  refine ⟨hz, lookH L', fun k o hk => ?_, L', hp, rfl⟩
  refine ⟨lookH_agree ha k o hk, ?_⟩
  have : ∀ (l : List (Nat × Ob)), (∀ p ∈ l, p.2.Fz) → ∀ k o, lookH l k = some o → o.Fz := by
    intro l
    induction l with
    | nil => intro _ k o hk; cases hk
    | cons p l ih =>
      intro hl k o hk
      simp only [lookH] at hk
      split at hk
      · cases hk; exact hl p (by simp)
      · exact ih (fun q hq => hl q (by simp [hq])) k o hk
  exact this L' hzL k o hk
end Go.Proofs.Ytdmpbdmgaepndaa.AM
