/-
  Calls: what a call does to the state of its caller.
-/
import Derived.Test.YtdmpbdmgaepndaaAm12
set_option linter.unusedVariables false
set_option linter.unusedSimpArgs false
namespace Go.Proofs.Ytdmpbdmgaepndaa.AM
open Go
open Go.BigFrame
section
variable {P : Program} {C : Ctx} {F : Nat → Prop} {w w' : World} {a : Act} {s : S} {h : Hp} {K : V → Hp → Prop} {Q : Exit → Act → World → Prop} {o : Oper}

theorem arg_rel {F' B' : Nat → Prop} {m : List (Nat × Nat)} (hs : HSat C F h w) (hF : ∀ b, F b → F' b) (hB : ∀ b, C.B b → F' b ∨ B' b) (hlive : ∀ k o b, h k = some o → o.b = some b → (∀ p ∈ m, p.2 ≠ k) → B' b)
    {v v' : V} {u : Value} (ha : Arg h m v v') (hr : Rel F C.B w v u) : Rel F' B' w v' u := by
  induction ha generalizing u with
  | same v => exact (hr.mono hF hB).ren _
  | own k b sz n rows hro hm =>
    have hk : ∃ o, h k = some o ∧ o.b = b := by
      simp only [rowsOf] at hro
      cases hk : h k with
      | none => simp only [hk] at hro; cases hro
      | some o =>
        simp only [hk] at hro
        split at hro
        · rename_i hc
          exact ⟨o, rfl, hc.1⟩
        · cases hro
    obtain ⟨o, hko, hob⟩ := hk
    rcases rows_flat hs hr hro with ⟨rfl, rfl⟩ | ⟨ad, cap, us, rfl, hfl, hmem⟩
    · exact .slnil _ _
    · cases hr with
      | own _ b' _ n' cap' c e fr hbk hcs hml hn =>
        refine .sl true sz rows b' 0 cap (fun i j => (us[i * sz + j]?).getD undef) (.inr ⟨rfl, hlive k o b' hko hob hm⟩) hn hfl.all (fun i j r v hi hj => ?_) (fun i j r v hi hj => ?_)
        · obtain ⟨u, hu, hru⟩ := hfl.rel i j r v hi hj
          rw [hu]
          have := hmem _ _ hu
          rw [add_off] at this
          exact ⟨this, hfl.one u (List.mem_of_getElem? hu)⟩
        · obtain ⟨u, hu, hru⟩ := hfl.rel i j r v hi hj
          rw [hu]
          exact hru.mono hF hB
  | weak sz rows =>
    have := hr.mono hF hB
    cases this with
    | slnil => exact .slnil _ _
    | slemp => exact .slemp _ _ _ _
    | sl _ _ _ b off cap us hFb a1 a2 a3 a4 =>
      refine .sl true sz rows b off cap us ?_ a1 a2 a3 a4
      rcases hFb with h | ⟨h, _⟩
      · exact .inl h
      · cases h
  | nil t sz => cases hr; exact .slnil _ _
  | agg cs cs' hl ha ih =>
    cases hr with
    | agg _ us hsz hrr =>
      refine .agg cs' us (by omega) fun i v u hv hu => ?_
      have hi : i < cs.length := by have := (List.getElem?_eq_some_iff.1 hv).1; omega
      exact ih i cs[i] v (List.getElem?_eq_getElem hi) hv (hrr i cs[i] u (List.getElem?_eq_getElem hi) hu)

theorem args_rel {R : V → Value → Prop} {R' : V → Value → Prop} {m : List (Nat × Nat)} (hR : ∀ v v' u, Arg h m v v' → R v u → R' v' u) : ∀ {l l' : List V}, Args h m l l' → l.length = l'.length ∧ ∀ (us : List Value), (∀ (i : Nat) (v : V) (u : Value), l[i]? = some v → us[i]? = some u → R v u) → us.length = l.length →
    ∀ (i : Nat) (v : V) (u : Value), l'[i]? = some v → us[i]? = some u → R' v u := by
  intro l l' ha
  induction ha with
  | nil => exact ⟨rfl, by simp⟩
  | cons a b ih =>
    refine ⟨by simp [ih.1], fun us hus hl i v u hv hu => ?_⟩
    cases us with
    | nil => simp at hl
    | cons u0 us =>
      cases i with
      | zero =>
        simp at hv hu
        subst hv hu
        exact hR _ _ _ a (hus 0 _ _ rfl rfl)
      | succ i => exact ih.2 us (fun j v u hv hu => hus (j + 1) v u hv hu) (by simpa using hl) i v u hv hu

theorem upd_some {m : List (Nat × Nat)} {h' : Hp} {i : Nat} {ob : Ob} (hu : h.upd m h' i = some ob) : (∃ p ∈ m, p.2 = i ∧ ∃ o, h' (bal m i) = some o ∧ ob = o.ren (lab m)) ∨ ((∀ p ∈ m, p.2 ≠ i) ∧ h i = some ob) := by
  unfold Hp.upd at hu
  cases m with
  | nil => exact .inr ⟨by simp, hu⟩
  | cons q m =>
    simp only [] at hu
    by_cases hany : ((q :: m).any fun p => decide (p.2 = i)) = true
    · rw [if_pos hany] at hu
      obtain ⟨p, hp, hpi⟩ := List.any_eq_true.1 hany
      simp only [Option.map_eq_some_iff] at hu
      obtain ⟨o, ho, rfl⟩ := hu
      exact .inl ⟨p, hp, by simpa using hpi, o, ho, rfl⟩
    · rw [if_neg hany] at hu
      refine .inr ⟨fun p hp hpi => hany (List.any_eq_true.2 ⟨p, hp, by simpa using hpi⟩), hu⟩

theorem snd_call (hC : C.Ok) {c : Call} {f : Nat} {caps : Array Value} {vs : List V} (ho : o.op = .call c) (hf : ∃ op, c.callee = .value op ∧ a.eval op = .func (.func f) #[] caps) (hs : HSat C F h w) (hl : (c.args.map a.eval ++ caps).size = vs.length)
    (hr : ∀ (i : Nat) (v : V) (u : Value), vs[i]? = some v → (c.args.map a.eval ++ caps)[i]? = some u → Rel F C.B w v u) (hK : CallW P f vs h K) : o.wp P a w (OpPost C F w a o.dst K) Q := by
  obtain ⟨m, args', hp, post, hspec, hargs, hdom, hm, hpost⟩ := hK
  obtain ⟨fn, hfn, hng, cb, hbody⟩ := hspec.fn
  have hrun : (execOp a.eval o).run P w = .ok (.enter f (c.args.map a.eval ++ caps)) w := by
    obtain ⟨callee, args, ats⟩ := c
    obtain ⟨op, hf, hev⟩ := hf
    cases hf
    unfold execOp
    rw [ho]
    generalize a.eval = ρ at *
    simp only [resolve, hev, Deferred.ofValue, Sem.run_bind, Sem.run_pure, Result.andThen_ok, invoke]
    simp [callFunc, program, Sem.run_bind, Sem.run_pure, Sem.run, hfn, hng, hbody]
  let pass : Nat → Prop := fun b => ∃ p ∈ m, ∃ ob, h p.2 = some ob ∧ ob.b = some b ∧ ∃ o', hp p.1 = some o'
  let C' : Ctx := ⟨w, F, fun b => b < w.heap.size ∧ ¬ pass b, pass⟩
  have hC' : C'.Ok := by
    refine ⟨fun b hb => ⟨hs.lt b hb, ?_⟩, fun b hb => hb, ?_⟩
    · rintro ⟨p, _, ob, hk, hbb, _⟩
      exact (hs.live _ ob b hk hbb).1 hb
    · rintro b ⟨p, _, ob, hk, hbb, _⟩
      exact (hs.ob _ ob hk).lt hbb
  have hhp : ∀ k o', hp k = some o' → ∃ p ∈ m, p.1 = k ∧ ∃ ob, h p.2 = some ob ∧ o' = ob.ren (bal m) ∧ o'.Fz := by
    intro k o' hk
    obtain ⟨p, hpm, hpk⟩ := hdom k o' hk
    obtain ⟨_, _, h3⟩ := hm p hpm
    obtain ⟨h4, h5⟩ := h3 o' (by rw [hpk]; exact hk)
    simp only [Option.map_eq_some_iff] at h4
    obtain ⟨ob, hob, rfl⟩ := h4
    exact ⟨p, hpm, hpk, ob, hob, rfl, h5⟩
  have hs' : HSat C'.nb C'.F0 hp w := by
    refine ⟨fun k o' hk => ?_, fun k1 k2 o1 o2 b h1 h2 e1 e2 => ?_, fun k o' b hk hb => ?_, fun b hb => .inl hb, fun b hb => hb, hs.lt, Ev.refl _ _⟩
    · obtain ⟨p, _, _, ob, hob, rfl, hz⟩ := hhp k o' hk
      exact ((hs.ob _ ob hob).ren _).fz hz
    · obtain ⟨p1, hp1, rfl, ob1, hob1, rfl, _⟩ := hhp k1 o1 h1
      obtain ⟨p2, hp2, rfl, ob2, hob2, rfl, _⟩ := hhp k2 o2 h2
      have := hs.inj p1.2 p2.2 ob1 ob2 b hob1 hob2 e1 e2
      rw [← (hm p1 hp1).2.1, ← (hm p2 hp2).2.1, this]
    · obtain ⟨p, hpm, rfl, ob, hob, rfl, _⟩ := hhp k o' hk
      exact ⟨(hs.live _ ob b hob hb).1, .inl ⟨p, hpm, ob, hob, hb, _, hk⟩⟩
  have hBF : ∀ b, C.B b → C'.F0 b ∨ C'.B b := fun b hb => by
    refine .inr ⟨Nat.lt_of_lt_of_le (hC.B b hb).1 hs.ev.size, ?_⟩
    rintro ⟨p, _, ob, hk, hbb, _⟩
    exact hs.notB hC hk hbb hb
  obtain ⟨hlen, hargs'⟩ := args_rel (R := Rel F C.B w) (R' := Rel C'.F0 C'.B w) (fun v v' u ha hr => arg_rel hs (fun _ h => h) hBF (fun k o b hk hb hne => by
    refine ⟨(hs.ob k o hk).lt hb, ?_⟩
    rintro ⟨p, hpm, ob, hob, hbb, _⟩
    exact hne p hpm (hs.inj p.2 k ob o b hob hk hbb hb)) ha hr) hargs
  have hcall := hspec.run C' (c.args.map a.eval ++ caps) hC' (by rw [hl, hlen]) (fun i v u hv hu => hargs' (c.args.map a.eval ++ caps).toList (fun i v u hv hu => hr i v u hv (by rw [Array.getElem?_toList] at hu; exact hu)) (by rw [Array.length_toList]; exact hl) i v u hv (by rw [Array.getElem?_toList]; exact hu)) hs'
  unfold Oper.wp
  rw [hrun]
  refine Calls.mono hcall ?_
  rintro e w' ⟨u, v, h', F', rfl, hv, hs2, hp2⟩
  have hev : Ev pass w w' := hs2.ev
  have hFF : ∀ b, F b → F' b := hs2.new
  have hold : ∀ b, F' b → F b ∨ w.heap.size ≤ b := hs2.old
  have hpl : ∀ b, b < w.heap.size → pass b → ∃ k ob, h k = some ob ∧ ob.b = some b := by
    rintro b _ ⟨p, _, ob, hob, hbb, _⟩
    exact ⟨p.2, ob, hob, hbb⟩
  have hkeep : ∀ {x y}, Rel F C.B w x y → Rel F' C.B w' x y := fun hr => (hs.keep hC hev hpl hr).mono hFF (fun _ h => .inr h)
  refine ⟨u, v.ren (lab m), h.upd m h', F', rfl, (hv.mono (fun _ h => h) (fun _ h => h.elim)).ren _, ?_, fun x y hr => hkeep hr, hpost v h' hp2⟩
  have hblk : ∀ b, (pass b ∨ w.heap.size ≤ b) → ∀ k ob, (∀ p ∈ m, p.2 ≠ k) → h k = some ob → ob.b ≠ some b := by
    intro b hb k ob hne hk hbb
    rcases hb with ⟨p, hpm, ob2, hob2, hb2, _⟩ | hge
    · exact hne p hpm (hs.inj p.2 k ob2 ob b hob2 hk hb2 hbb)
    · have := (hs.ob k ob hk).lt hbb; omega
  refine ⟨fun k ob hk => ?_, fun k1 k2 o1 o2 b h1 h2 e1 e2 => ?_, fun k ob b hk hb => ?_, fun b hb => ?_, fun b hb => hFF b (hs.new b hb), hs2.lt, ?_⟩
  · rcases upd_some hk with ⟨p, hpm, rfl, o', ho', rfl⟩ | ⟨hne, hk⟩
    · exact ((hs2.ob _ o' ho').mono (fun _ h => h) (fun _ h => h.elim)).ren _
    · refine (ObSat.keep hC hs hev hpl (hs.ob k ob hk) fun b hb hpb => hblk b (.inl hpb) k ob hne hk hb).mono hFF (fun _ h => .inr h)
  · rcases upd_some h1 with ⟨p1, hp1, rfl, o1', ho1, rfl⟩ | ⟨hne1, hk1⟩ <;> rcases upd_some h2 with ⟨p2, hp2', rfl, o2', ho2, rfl⟩ | ⟨hne2, hk2⟩
    · have := hs2.inj _ _ o1' o2' b ho1 ho2 e1 e2
      rw [(hm p1 hp1).2.1, (hm p2 hp2').2.1] at this
      rw [← (hm p1 hp1).1, ← (hm p2 hp2').1, this]
    · exact absurd e2 (hblk b (hs2.live _ o1' b ho1 e1).2 k2 o2 hne2 hk2)
    · exact absurd e1 (hblk b (hs2.live _ o2' b ho2 e2).2 k1 o1 hne1 hk1)
    · exact hs.inj k1 k2 o1 o2 b hk1 hk2 e1 e2
  · rcases upd_some hk with ⟨p, hpm, rfl, o', ho', rfl⟩ | ⟨hne, hk⟩
    · obtain ⟨g1, g2⟩ := hs2.live _ o' b ho' hb
      refine ⟨g1, ?_⟩
      rcases g2 with ⟨p2, _, ob2, hob2, hb2, _⟩ | hge
      · exact (hs.live _ ob2 b hob2 hb2).2
      · exact .inr (Nat.le_trans hs.ev.size hge)
    · obtain ⟨g1, g2⟩ := hs.live k ob b hk hb
      refine ⟨fun hF' => ?_, g2⟩
      rcases hold b hF' with h | h
      · exact g1 h
      · have := (hs.ob k ob hk).lt hb; omega
  · rcases hold b hb with h | h
    · exact hs.old b h
    · exact .inr (Nat.le_trans hs.ev.size h)
  · refine Ev.weak hs.ev hev ?_
    rintro b hb ⟨p, _, ob, hob, hbb, _⟩
    rcases (hs.live _ ob b hob hbb).2 with h | h
    · exact h
    · omega

/-- calls may be carried out so -/
def CallOk (P : Program) (T : CallT) : Prop := ∀ (C : Ctx) (F : Nat → Prop) (w : World) (a : Act) (h : Hp) (K : V → Hp → Prop) (Q : Exit → Act → World → Prop) (o : Oper) (c : Call) (f : Nat) (caps : Array Value) (vs : List V), C.Ok → o.op = .call c → (∃ op, c.callee = .value op ∧ a.eval op = .func (.func f) #[] caps) → HSat C F h w → (c.args.map a.eval ++ caps).size = vs.length →
    (∀ (i : Nat) (v : V) (u : Value), vs[i]? = some v → (c.args.map a.eval ++ caps)[i]? = some u → Rel F C.B w v u) → T f vs h K → o.wp P a w (OpPost C F w a o.dst K) Q
/-- memory may be said anew before a call -/
def HEnt (h h0 : Hp) : Prop := ∀ (C : Ctx) (F : Nat → Prop) (w : World), C.Ok → HSat C F h w → HSat C F h0 w
def CallE (P : Program) : CallT := fun f args h K => ∃ h0, HEnt h h0 ∧ CallW P f args h0 K
theorem callE_ok : CallOk P (CallE P) := fun C F w a h K Q o c f caps vs hC ho hf hs hl hr hK => by
  obtain ⟨h0, he, hK⟩ := hK
  obtain hres := snd_call (K := K) (Q := Q) hC ho hf (he C F w hC hs) hl hr hK
  exact hres
theorem callW_ok : CallOk P (CallW P) := fun _ _ _ _ _ _ _ _ _ _ _ _ hC ho hf hs hl hr hK => snd_call hC ho hf hs hl hr hK
end

/-- a call that only reads and answers -/
def CallP (P : Program) : CallT := fun f args h K =>
  ∃ (m : List (Nat × Nat)) (args' : List V) (hp : Hp) (v : V), Spec P f args' hp (fun x h' => x = v ∧ h' = hp) ∧ Args h m args args' ∧
    (∀ k o, hp k = some o → ∃ p ∈ m, p.1 = k) ∧ (∀ p ∈ m, lab m p.1 = p.2 ∧ bal m p.2 = p.1 ∧ ∃ o, hp p.1 = some o ∧ (h p.2).map (Ob.ren (bal m)) = some o ∧ o.Fz) ∧ K (v.ren (lab m)) h

theorem Rel.unrl {F B : Nat → Prop} {w : World} {v : V} {u : Value} (f : Nat → Nat) (h : Rel F B w (v.rl f) u) : Rel F B w v u := by
  cases v <;> try exact h
  case own k b sz n =>
    simp only [V.rl] at h
    cases h with
    | ownnil => exact .ownnil _ _
    | own _ b _ _ cap c e fr h hs hm hn => exact .own _ b sz n cap c e fr h hs hm hn
  case ptr k b sz i off =>
    simp only [V.rl] at h
    cases h
    exact .ptr _ _ _ _ _
theorem ObSat.unren {F B : Nat → Prop} {w : World} {o : Ob} (f : Nat → Nat) (h : ObSat F B w (o.ren f)) : ObSat F B w o := by
  unfold ObSat at h ⊢
  simp only [Ob.ren] at h
  cases hb : o.b with
  | none => rw [hb] at h; simp only at h ⊢; simpa using h
  | some b =>
    rw [hb] at h
    obtain ⟨c, cap, hc, h1, h2, h3, h4, h5⟩ := h
    refine ⟨c, cap, hc, h1, h2, by simpa using h3, fun r hr => ?_, fun i j r v hi hj => ?_⟩
    · have := h4 (r.map (V.rl f)) (List.mem_map.2 ⟨r, hr, rfl⟩)
      simpa using this
    · obtain ⟨u, hu, h1u, hr⟩ := h5 i j (r.map (V.rl f)) (v.rl f) (by simp [hi]) (by simp [hj])
      exact ⟨u, hu, h1u, hr.unrl f⟩

theorem callP_ok {P : Program} : CallOk P (CallP P) := by
  intro C F w a h K Q o c f caps vs hC ho hf hs hl hr hK
  obtain ⟨m, args', hp, v, h1, h2, h3, h4, h5⟩ := hK
  have hW : CallW P f vs h (fun v' h' => v' = v.ren (lab m) ∧ h' = h.upd m hp) := ⟨m, args', hp, _, h1, h2, h3, fun p hp' => by
    obtain ⟨a1, a2, o, a3, a4, a5⟩ := h4 p hp'
    refine ⟨a1, a2, fun o' ho' => ?_⟩
    rw [a3] at ho'
    cases ho'
    exact ⟨a4, a5⟩, fun v' h' hv => by obtain ⟨rfl, rfl⟩ := hv; exact ⟨rfl, rfl⟩⟩
  refine Oper.wp_mono (fun a' w' hpost => ?_) (snd_call hC ho hf hs hl hr hW)
  obtain ⟨u, v', h', F', e1, e2, e3, e4, rfl, rfl⟩ := hpost
  have hup : ∀ k ob, h k = some ob → ∃ ob', h.upd m hp k = some ob' ∧ ob'.b = ob.b ∧ (ObSat F' C.B w' ob' → ObSat F' C.B w' ob) := by
    intro k ob hk
    unfold Hp.upd
    cases m with
    | nil => exact ⟨ob, hk, rfl, id⟩
    | cons q m =>
      simp only []
      by_cases hany : ((q :: m).any fun p => decide (p.2 = k)) = true
      · rw [if_pos hany]
        obtain ⟨p, hpm, hpk⟩ := List.any_eq_true.1 hany
        have hpk : p.2 = k := by simpa using hpk
        obtain ⟨a1, a2, o', a3, a4, a5⟩ := h4 p hpm
        rw [hpk, hk] at a4
        simp only [Option.map_some, Option.some.injEq] at a4
        subst a4
        rw [← hpk, a2, a3]
        exact ⟨_, rfl, rfl, fun hh => (hh.unren _).unren _⟩
      · rw [if_neg hany]
        exact ⟨ob, hk, rfl, id⟩
  refine ⟨u, _, h, F', e1, e2, ⟨fun k ob hk => ?_, fun k k' ob ob' b hk hk' hb hb' => ?_, fun k ob b hk hb => ?_, e3.old, e3.new, e3.lt, e3.ev⟩, e4, h5⟩
  · obtain ⟨ob', g1, g2, g3⟩ := hup k ob hk
    exact g3 (e3.ob k ob' g1)
  · obtain ⟨o1, g1, g2, _⟩ := hup k ob hk
    obtain ⟨o2, g3, g4, _⟩ := hup k' ob' hk'
    exact e3.inj k k' o1 o2 b g1 g3 (g2.trans hb) (g4.trans hb')
  · obtain ⟨o1, g1, g2, _⟩ := hup k ob hk
    exact e3.live k o1 b g1 (g2.trans hb)
end Go.Proofs.Ytdmpbdmgaepndaa.AM
