/-
  The plain machine: loops, ends, and what is read off a text.
-/
import Derived.Test.YtdmpbdmgaepndaaAm16
set_option linter.unusedVariables false
set_option linter.unusedSimpArgs false
namespace Go.Proofs.Ytdmpbdmgaepndaa.AM
open Go

/-- a slice that is nil becomes an object of the call's own -/
def S.nil (s : S) (i k ty sz : Nat) : S := ⟨upd s.t i (.own k none sz 0), s.h.put k ⟨none, ty, sz, []⟩⟩
theorem Ent.nil {s : S} {i k ty sz : Nat} (hi : s.t i = .nilsl) (hk : s.h k = none) : Ent s (s.nil i k ty sz) := by
  intro C n a w hC hs
  obtain ⟨F, h1, h2⟩ := hs.ex
  refine ⟨⟨F, h1.step hC (L := fun _ => False) (Ev.refl _ _) (fun _ _ h => h.elim) (show ObSat F C.B w ⟨none, ty, sz, []⟩ from rfl) (fun b hb => by cases hb), fun j => ?_⟩, hs.df, hs.sz⟩
  simp only [S.nil, upd]
  by_cases hj : j = i
  · rw [if_pos hj]
    have := h2 i
    rw [hi] at this
    rw [hj]
    generalize a.tmps.getD i undef = u at this
    cases this
    exact .ownnil _ _
  · rw [if_neg hj]; exact h2 j

/-- an object of the call's own changes no more: whoever reads it has its rows -/
def V.frz (k : Nat) (o : Ob) : V → V
  | .own j b sz n => if j = k ∧ b = o.b ∧ sz = o.sz ∧ n ≤ o.rows.length then .sl false sz (o.rows.take n) else .own j b sz n
  | v => v
def V.frzA (k : Nat) (o : Ob) : V → V
  | .agg cs => .agg (cs.map (V.frz k o))
  | v => v.frz k o
def S.frz (s : S) (k : Nat) : S := match s.h k with
  | some o => ⟨fun i => (s.t i).frzA k o, fun j => if j = k then none else (s.h j).map fun q => { q with rows := q.rows.map (·.map (V.frz k o)) }⟩
  | none => s

/-- a loop: its live slots and objects at each round's head, of a ghost; a measure -/
theorem awp_loop {p : Prim} {T T1 : CallT} {x : AC} {s : S} {N : S → Prop} {X : Nat → S → Prop} {R : S → Prop} (Y : Type) (L : Y → List (Nat × V)) (H : Y → List (Nat × Ob)) (μ : Y → Nat) (y0 : Y) (hl : agree (L y0) s) (hh : agreeH (H y0) s)
    (hb : ∀ y, awp p T T1 x (St (L y) (H y)) (Next L H μ y) X R) : awp p T T1 (.loop x) s N X R := ⟨Y, L, H, μ, ⟨s, Ent.refl s, y0, hl, hh⟩, hb⟩
theorem awp_loop_ent {p : Prim} {T T1 : CallT} {x : AC} {s : S} {N : S → Prop} {X : Nat → S → Prop} {R : S → Prop} (s1 : S) (he : Ent s s1) (Y : Type) (L : Y → List (Nat × V)) (H : Y → List (Nat × Ob)) (μ : Y → Nat) (y0 : Y) (hl : agree (L y0) s1) (hh : agreeH (H y0) s1)
    (hb : ∀ y, awp p T T1 x (St (L y) (H y)) (Next L H μ y) X R) : awp p T T1 (.loop x) s N X R := ⟨Y, L, H, μ, ⟨s1, he, y0, hl, hh⟩, hb⟩
theorem Next.intro {Y : Type} {L : Y → List (Nat × V)} {H : Y → List (Nat × Ob)} {μ : Y → Nat} {y : Y} {s : S} (y' : Y) (hl : agree (L y') s) (hh : agreeH (H y') s) (hm : μ y' < μ y) : Next L H μ y s := ⟨s, Ent.refl s, y', hl, hh, hm⟩

/-! a function's contract out of its text -/
structure FnOk (P : Program) (f : Nat) (fn : Func) (ac : AC) (rv : List RV) (n : Nat) (D : Array Oper → List AO → Bool) : Prop where
  func : P.funcs[f]? = some fn
  name : fn.name ≠ "runtime.NumGoroutine"
  body : fn.body.bind (trC P fn.ntmps D) = some ac
  res : trRs P fn.results.toList = some rv
  args : n ≤ fn.ntmps
/-- the results are these -/
def Ret (rv : List RV) (vs : List V) (s : S) : Prop := resV s rv fun x => x = vs
/-- what is answered, and no object is handed back -/
def Is (v : V) : V → Hp → Prop := fun x h => x = v ∧ h = Hp.emp

theorem spec_pure {P : Program} {f : Nat} {fn : Func} {ac : AC} {rv : List RV} {args : List V} {D : Array Oper → List AO → Bool} (hD : DrawOk P D) (ok : FnOk P f fn ac rv args.length D) (vs : List V) (hz : Fz (oneV vs))
    (h : ∀ R, (∀ s s', Ent s s' → Ret rv vs s' → R s) → awp std (CallE P) (CallP P) ac (S0 args Hp.emp) R (fun _ _ => False) R) : Spec P f args Hp.emp (Is (oneV vs)) := by
  obtain ⟨c, hc, hac⟩ := Option.bind_eq_some_iff.1 ok.body
  refine spec_of hD ok.func ok.name hc hac ok.res ok.args (h _ fun s s' he hr => ⟨s', he, ?_⟩)
  unfold Ret at hr
  have mono : ∀ (rv : List RV) (K K' : List V → Prop), (∀ x, K x → K' x) → resV s' rv K → resV s' rv K' := by
    intro rv
    induction rv with
    | nil => intro K K' hK h; exact hK _ h
    | cons r rv ih =>
      intro K K' hK h
      cases r with
      | t i => exact ih _ _ (fun x hx => hK _ hx) h
      | c1 i =>
        simp only [resV] at h ⊢
        unfold load1V at h ⊢
        split at h
        · unfold rowC at h ⊢
          split at h
          · obtain ⟨a1, a2, a3, a4, a5⟩ := h
            exact ⟨a1, a2, a3, a4, ih _ _ (fun x hx => hK _ hx) a5⟩
          · exact h.elim
        · exact ⟨h.1, ih _ _ (fun x hx => hK _ hx) h.2⟩
        · exact h.elim
      | cn i n =>
        simp only [resV] at h ⊢
        unfold loadnV at h ⊢
        split at h
        · unfold rowC at h ⊢
          split at h
          · obtain ⟨a1, a2, a3, a4, a5⟩ := h
            exact ⟨a1, a2, a3, a4, ih _ _ (fun x hx => hK _ hx) a5⟩
          · exact h.elim
        · exact ⟨h.1, ih _ _ (fun x hx => hK _ hx) h.2⟩
        · exact h.elim
  exact mono rv _ _ (fun x hx => by subst hx; exact ⟨hz, Hp.emp, by simp [Hp.emp], rfl, rfl⟩) hr

/-- a call that only answers -/
theorem call_pure {P : Program} {f : Nat} {args args' : List V} {v : V} {h : Hp} {K : V → Hp → Prop} (hs : Spec P f args' Hp.emp (Is v)) (ha : Args h [] args args') (hK : K (v.ren (lab [])) h) : CallW P f args h K :=
  ⟨[], args', Hp.emp, Is v, hs, ha, by simp [Hp.emp], by simp, by rintro v' h' ⟨rfl, rfl⟩; exact hK⟩
theorem call_pureP {P : Program} {f : Nat} {args args' : List V} {v : V} {h : Hp} {K : V → Hp → Prop} (hs : Spec P f args' Hp.emp (Is v)) (ha : Args h [] args args') (hK : K (v.ren (lab [])) h) : CallP P f args h K :=
  ⟨[], args', Hp.emp, v, ⟨hs.fn, fun C us a b c d => (hs.run C us a b c d).mono (by rintro e w' ⟨u, v', h', F', e1, e2, e3, rfl, rfl⟩; exact ⟨u, v', _, F', e1, e2, e3, rfl, rfl⟩)⟩, ha, by simp [Hp.emp], by simp, hK⟩
/-- a call of either kind that only answers -/
def Ans (T : CallT) (f : Nat) (args : List V) (v : V) : Prop := ∀ (h : Hp) (K : V → Hp → Prop), K v h → T f args h K
theorem ansW {P : Program} {f : Nat} {args args' : List V} {v : V} (hs : Spec P f args' Hp.emp (Is v)) (ha : ∀ h, Args h [] args args') (hv : v.ren (lab []) = v) : Ans (CallE P) f args v := fun h K hK => ⟨h, fun _ _ _ _ hs => hs, call_pure hs (ha h) (by rw [hv]; exact hK)⟩
theorem ansP {P : Program} {f : Nat} {args args' : List V} {v : V} (hs : Spec P f args' Hp.emp (Is v)) (ha : ∀ h, Args h [] args args') (hv : v.ren (lab []) = v) : Ans (CallP P) f args v := fun h K hK => call_pureP hs (ha h) (by rw [hv]; exact hK)
end Go.Proofs.Ytdmpbdmgaepndaa.AM
