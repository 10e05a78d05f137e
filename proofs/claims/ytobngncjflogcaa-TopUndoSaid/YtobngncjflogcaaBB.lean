/-
  Texts of the plain machine, put together.
-/
import Derived.Test.YtobngncjflogcaaBA
import Derived.Scope
import Derived.Deep.LoopGhost
import Derived.Orders
import Derived.Below
/-
  All operations of the plain machine against the model.
-/
set_option linter.unusedVariables false
set_option linter.unusedSimpArgs false
namespace Go.Proofs.Ytobngncjflogcaa.AM
open Go
open Go.BigFrame
section
variable {P : Program} {C : Ctx} {F : Nat → Prop} {w w' : World} {a : Act} {s : S} {h : Hp} {K : V → Hp → Prop} {Q : Exit → Act → World → Prop} {o : Oper}

theorem trXs_spec : ∀ {l : List Operand} {m : List Opd}, trXs l = some m → l.length = m.length ∧ ∀ (i : Nat) (x : Operand) (y : Opd), l[i]? = some x → m[i]? = some y → trX x = some y := by
  intro l
  induction l with
  | nil => intro m h; simp [trXs] at h; subst h; simp
  | cons x l ih =>
    intro m h
    simp only [trXs] at h
    split at h
    · rename_i y m' hx hm
      cases h
      obtain ⟨h1, h2⟩ := ih hm
      refine ⟨by simp [h1], fun i x' y' hx' hy' => ?_⟩
      cases i with
      | zero => simp at hx' hy'; subst hx' hy'; exact hx
      | succ i => exact h2 i x' y' (by simpa using hx') (by simpa using hy')
    · cases h

theorem toArr {α : Type} {x : Array α} {l : List α} (h : x.toList = l) : x = l.toArray := by subst h; simp
theorem trXs_two {c : Array Operand} {x y : Opd} (h : trXs c.toList = some [x, y]) : ∃ x' y', c = #[x', y'] ∧ trX x' = some x ∧ trX y' = some y := by
  obtain ⟨h1, h2⟩ := trXs_spec h
  obtain ⟨l, rfl⟩ : ∃ l : List Operand, c = l.toArray := ⟨c.toList, by simp⟩
  simp only at h1 h2
  match l, h1 with
  | [x', y'], _ => exact ⟨x', y', rfl, h2 0 x' x rfl rfl, h2 1 y' y rfl rfl⟩

theorem run_eq_bool {T : TypeId} (hd : P.underlying T = some .bool) (p q : Bool) : (Op.equal T (.bool p) (.bool q)).run P w = .ok (p == q) w := by
  unfold Op.equal Op.maxDepth
  rw [show (10000 : Nat) = 9999 + 1 from rfl, Op.equalIn]
  simp only [Sem.run_bind, run_underlying hd, Result.andThen_ok]
  rfl
theorem run_eq_ptr {T e : TypeId} (hd : P.underlying T = some (.pointer e)) (p q : Option Addr) (h : p = none ∨ q = none) : (Op.equal T (.pointer p) (.pointer q)).run P w = .ok (p.isNone && q.isNone) w := by
  unfold Op.equal Op.maxDepth
  rw [show (10000 : Nat) = 9999 + 1 from rfl, Op.equalIn]
  simp only [Sem.run_bind, run_underlying hd, Result.andThen_ok]
  cases p <;> cases q <;> first | rfl | simp at h

theorem snd_eq_of {neg : Bool} {T U : TypeId} {x y : Operand} {ux uy : Value} {b : Bool} (ho : o.op = .binOp (if neg then .neq else .eql) T x y U) (hs : HSat C F h w) (hx : a.eval x = ux) (hy : a.eval y = uy)
    (hg : ∀ op, (eqGuard op T x y ux uy).run P w = .ok () w) (h1 : binOp .eql T ux uy = (do pure (.bool (← Op.equal T ux uy)))) (h2 : binOp .neq T ux uy = (do pure (.bool (!(← Op.equal T ux uy))))) (hr : (Op.equal T ux uy).run P w = .ok b w)
    (hK : K (.bool (if neg then !b else b)) h) : o.wp P a w (OpPost C F w a o.dst K) Q := by
  refine wp_pure hs ?_ (.bool _) hK
  unfold execOp
  rw [ho]
  generalize a.eval = ρ at *
  cases neg
  · simp only [Bool.false_eq_true, ↓reduceIte, Sem.run_bind, Sem.run_pure, hx, hy, hg, Result.andThen_ok, h1, hr]
  · simp only [↓reduceIte, Sem.run_bind, Sem.run_pure, hx, hy, hg, Result.andThen_ok, h2, hr]

theorem run_guard_bb {op : BinOp} {T : TypeId} {x y : Operand} {p q : Bool} : (eqGuard op T x y (.bool p) (.bool q)).run P w = .ok () w := by
  unfold eqGuard; cases op <;> simp [go_sem]
theorem run_guard_pp {op : BinOp} {T : TypeId} {x y : Operand} {p q : Option Addr} : (eqGuard op T x y (.pointer p) (.pointer q)).run P w = .ok () w := by
  unfold eqGuard; cases op <;> simp [go_sem]

theorem snd_eqb {neg : Bool} {T U : TypeId} {x y : Operand} {vx vy : V} (ho : o.op = .binOp (if neg then .neq else .eql) T x y U) (hd : P.underlying T = some .bool) (hs : HSat C F h w)
    (hx : Rel F C.B w vx (a.eval x)) (hy : Rel F C.B w vy (a.eval y)) (hK : eqbK neg vx vy fun v => K v h) : o.wp P a w (OpPost C F w a o.dst K) Q := by
  generalize hex : a.eval x = ux at hx
  generalize hey : a.eval y = uy at hy
  cases hx <;> try (simp [eqbK] at hK; done)
  cases hy <;> try (simp [eqbK] at hK; done)
  exact snd_eq_of ho hs hex hey (fun _ => run_guard_bb) rfl rfl (run_eq_bool hd _ _) hK
theorem snd_eqp {neg : Bool} {T U e : TypeId} {x y : Operand} {vx vy : V} (ho : o.op = .binOp (if neg then .neq else .eql) T x y U) (hd : P.underlying T = some (.pointer e)) (hs : HSat C F h w)
    (hx : Rel F C.B w vx (a.eval x)) (hy : Rel F C.B w vy (a.eval y)) (hK : eqpK neg vx vy fun v => K v h) : o.wp P a w (OpPost C F w a o.dst K) Q := by
  generalize hex : a.eval x = ux at hx
  generalize hey : a.eval y = uy at hy
  cases hx <;> try (simp [eqpK, eqP] at hK; done)
  all_goals
    cases hy <;> try (simp [eqpK, eqP] at hK; done)
    all_goals
      simp only [eqpK, eqP] at hK
      exact snd_eq_of ho hs hex hey (fun _ => run_guard_pp) rfl rfl (run_eq_ptr hd _ _ (by simp)) hK

theorem run_guard_sl {op : BinOp} {T : TypeId} {x y : Operand} {b b' : Option Addr} {n m n' m' : Nat} : (eqGuard op T x y (.slice b n m) (.slice b' n' m')).run P w = .ok () w := by
  unfold eqGuard; cases op <;> simp [go_sem]
theorem run_eq_sl {T e : TypeId} (hd : P.underlying T = some (.slice e)) (p : Option Addr) (n m : Nat) : (Op.equal T (.slice p n m) (.slice none 0 0)).run P w = .ok p.isNone w := by
  unfold Op.equal Op.maxDepth
  rw [show (10000 : Nat) = 9999 + 1 from rfl, Op.equalIn]
  simp only [Sem.run_bind, run_underlying hd, Result.andThen_ok]
  cases p <;> rfl
theorem snd_eqn {neg : Bool} {T U e : TypeId} {x y : Operand} {vx : V} (ho : o.op = .binOp (if neg then .neq else .eql) T x y U) (hy : a.eval y = .slice none 0 0) (hd : P.underlying T = some (.slice e)) (hs : HSat C F h w)
    (hx : Rel F C.B w vx (a.eval x)) (hK : eqnK neg vx fun v => K v h) : o.wp P a w (OpPost C F w a o.dst K) Q := by
  generalize hex : a.eval x = ux at hx
  cases hx <;> try (exact hK.elim)
  case nilsl => exact snd_eq_of ho hs hex hy (fun _ => run_guard_sl) rfl rfl (run_eq_sl hd _ _ _) (by cases neg <;> exact hK)
  case slnil => exact snd_eq_of ho hs hex hy (fun _ => run_guard_sl) rfl rfl (run_eq_sl hd _ _ _) (by have := hK.2 rfl; cases neg <;> exact this)
  case slemp => exact snd_eq_of ho hs hex hy (fun _ => run_guard_sl) rfl rfl (run_eq_sl hd _ _ _) (by have := hK.1; cases neg <;> exact this)
  case sl => exact snd_eq_of ho hs hex hy (fun _ => run_guard_sl) rfl rfl (run_eq_sl hd _ _ _) (by have := hK.1; cases neg <;> exact this)
theorem run_guard_aa {op : BinOp} {T : TypeId} {x y : Operand} {p q : Array Value} (hg : P.eqGuardType P.depth T = false) : (eqGuard op T x y (.agg p) (.agg q)).run P w = .ok () w := by
  unfold eqGuard; cases op <;> simp [go_sem, hg]
theorem snd_eqs {neg : Bool} {T U : TypeId} {ts : List Nat} {x y : Operand} {vx vy : V} (ho : o.op = .binOp (if neg then .neq else .eql) T x y U) (hd : (∃ fs, P.underlying T = some (.struct fs)) ∨ (∃ n e, P.underlying T = some (.array n e))) (hf : flatK P 8 T = some ts) (hg : ¬ P.eqGuardType P.depth T = true) (hs : HSat C F h w)
    (hx : Rel F C.B w vx (a.eval x)) (hy : Rel F C.B w vy (a.eval y)) (hK : eqsK neg ts vx vy fun v => K v h) : o.wp P a w (OpPost C F w a o.dst K) Q := by
  generalize hex : a.eval x = ux at hx
  generalize hey : a.eval y = uy at hy
  cases hx <;> try (simp [eqsK] at hK; done)
  cases hy <;> try (simp [eqsK] at hK; done)
  rename_i cs us hl hr ds vs hl2 hr2
  simp only [eqsK] at hK
  split at hK
  · rename_i b hb
    have at1 : At F C.B w cs us 0 := fun i v hv => by
      have hi : i < us.size := by have := (List.getElem?_eq_some_iff.1 hv).1; omega
      exact ⟨us[i], by rw [Nat.zero_add]; exact Array.getElem?_eq_getElem hi, hr i v _ hv (Array.getElem?_eq_getElem hi)⟩
    have at2 : At F C.B w ds vs 0 := fun i v hv => by
      have hi : i < vs.size := by have := (List.getElem?_eq_some_iff.1 hv).1; omega
      exact ⟨vs[i], by rw [Nat.zero_add]; exact Array.getElem?_eq_getElem hi, hr2 i v _ hv (Array.getElem?_eq_getElem hi)⟩
    exact snd_eq_of ho hs hex hey (fun _ => run_guard_aa (by simpa using hg)) rfl rfl ((flatK_ok 9992 8 T ts hf).2 hd F C.B w us vs cs ds b at1 at2 hb) hK
  · exact hK.elim

theorem aop_sound {T : CallT} (hT : CallOk P T) (hC : C.Ok) {ao : AOp} {k : Nat} (ht : trOp P o.op = some ao) (hs : HSat C F h w) (hr : ∀ i : Nat, Rel F C.B w (s.t i) (a.tmps.getD i undef)) (hK : aop T ao (Opd.ev s) h k K) :
    o.wp P a w (OpPost C F w a o.dst K) Q := by
  cases hop : o.op <;> rw [hop] at ht <;> simp only [trOp] at ht
  case move x =>
    simp only [Option.map_eq_some_iff] at ht
    obtain ⟨y, hy, rfl⟩ := ht
    exact snd_mov (.inl hop) hs (ev_rel hr hy) hK
  case assign x =>
    simp only [Option.map_eq_some_iff] at ht
    obtain ⟨y, hy, rfl⟩ := ht
    exact snd_mov (.inr hop) hs (ev_rel hr hy) hK
  case pick c x y =>
    split at ht
    · rename_i c' x' y' hc hx hy
      cases ht
      have hcr := ev_rel hr hc
      simp only [aop] at hK
      split at hK
      · rename_i t hct
        rw [hct] at hcr
        exact snd_pick hop hs hcr (ev_rel hr hx) (ev_rel hr hy) hK
      · exact hK.elim
    · cases ht
  case alloc T =>
    simp only [Option.map_eq_some_iff] at ht
    obtain ⟨z, hz, rfl⟩ := ht
    obtain ⟨_, h1, h2⟩ := hK
    exact snd_alloc hC hop hz hs h1 h2
  case box T x =>
    split at ht
    · rename_i n y hn hy
      cases ht
      obtain ⟨_, h1, h2⟩ := hK
      exact snd_box hC hop hs (ev_rel hr hy) h1 h2
    · cases ht
  case build T parts =>
    split at ht
    · rename_i z fs hz hd
      split at ht
      · rename_i places hp
        simp only [Option.map_eq_some_iff] at ht
        obtain ⟨ps, hps, rfl⟩ := ht
        exact snd_build hop hz hps (.inl ⟨fs, places, hd, hp, rfl⟩) hs hr hK.1 hK.2
      · cases ht
    · rename_i z k e hz hd
      split at ht
      · rename_i n hn
        simp only [Option.map_eq_some_iff] at ht
        obtain ⟨ps, hps, rfl⟩ := ht
        exact snd_build hop hz hps (.inr ⟨k, e, n, hd, hn, rfl⟩) hs hr hK.1 hK.2
      · cases ht
    · cases ht
  case buildSlice T len parts =>
    split at ht
    · rename_i e hd
      split at ht
      · rename_i n z ps hn hz hps
        split at ht
        · rename_i hc
          cases ht
          obtain ⟨_, h1, h2⟩ := hK
          exact snd_bslice hC hop hd hn hz hps hc.1 hc.2.1 hc.2.2.1 hc.2.2.2 hs hr h1 h2
        · cases ht
      · cases ht
    · cases ht
  case load T x =>
    split at ht
    · rename_i n y hg hn hy
      cases ht
      exact snd_loadn hop hg hn hs (ev_rel hr hy) hK
    · rename_i y hg hy
      cases ht
      exact snd_load1 hop hg hs (ev_rel hr hy) hK
    · cases ht
  case store T x v =>
    split at ht
    · rename_i n y u hn hy hu
      cases ht
      exact snd_store hC hop hn hs (ev_rel hr hy) (ev_rel hr hu) hK
    · cases ht
  case nilCheck x =>
    simp only [Option.map_eq_some_iff] at ht
    obtain ⟨y, hy, rfl⟩ := ht
    have hrel := ev_rel hr hy
    simp only [aop] at hK
    split at hK
    · rename_i heq
      exact snd_nilchk hop hs hrel (.inl ⟨_, _, _, _, _, heq⟩) hK
    · rename_i heq
      exact snd_nilchk hop hs hrel (.inr ⟨_, _, heq⟩) hK
    · exact hK.elim
  case binOp op T x y U =>
    split at ht
    · rename_i k x' y' hd hx hy
      cases ht
      exact snd_bin hop hs (ev_rel hr hx) (ev_rel hr hy) hK
    · rename_i x' y' hd hx hy
      cases ht
      exact snd_bin hop hs (ev_rel hr hx) (ev_rel hr hy) hK
    · rename_i x' y' hd hx hy
      split at ht
      · cases ht
        exact snd_eqb (neg := false) hop hd hs (ev_rel hr hx) (ev_rel hr hy) hK
      · cases ht
        exact snd_eqb (neg := true) hop hd hs (ev_rel hr hx) (ev_rel hr hy) hK
      · cases ht
    · rename_i e x' y' hd hx hy
      split at ht
      · cases ht
        exact snd_eqp (neg := false) hop hd hs (ev_rel hr hx) (ev_rel hr hy) hK
      · cases ht
        exact snd_eqp (neg := true) hop hd hs (ev_rel hr hx) (ev_rel hr hy) hK
      · cases ht
    · rename_i e x' y' hd hx hy
      split at ht
      · rename_i hn
        split at ht
        · cases ht
          exact snd_eqn (neg := false) hop (nilC_eval hy hn) hd hs (ev_rel hr hx) hK
        · cases ht
          exact snd_eqn (neg := true) hop (nilC_eval hy hn) hd hs (ev_rel hr hx) hK
        · cases ht
      · cases ht
    · rename_i fs x' y' hd hx hy
      split at ht
      · rename_i ts hf
        split at ht
        · cases ht
        · rename_i hg
          split at ht
          · cases ht
            exact snd_eqs (neg := false) hop (.inl ⟨_, hd⟩) hf hg hs (ev_rel hr hx) (ev_rel hr hy) hK
          · cases ht
            exact snd_eqs (neg := true) hop (.inl ⟨_, hd⟩) hf hg hs (ev_rel hr hx) (ev_rel hr hy) hK
          · cases ht
      · cases ht
    · rename_i n e x' y' hd hx hy
      split at ht
      · rename_i ts hf
        split at ht
        · cases ht
        · rename_i hg
          split at ht
          · cases ht
            exact snd_eqs (neg := false) hop (.inr ⟨_, _, hd⟩) hf hg hs (ev_rel hr hx) (ev_rel hr hy) hK
          · cases ht
            exact snd_eqs (neg := true) hop (.inr ⟨_, _, hd⟩) hf hg hs (ev_rel hr hx) (ev_rel hr hy) hK
          · cases ht
      · cases ht
    · cases ht
  case unOp op T x =>
    cases op <;> simp only [] at ht
    case not =>
      simp only [Option.map_eq_some_iff] at ht
      obtain ⟨y, hy, rfl⟩ := ht
      have hrel := ev_rel hr hy
      simp only [aop] at hK
      split at hK
      · rename_i b heq
        rw [heq] at hrel
        exact snd_not hop hs hrel hK
      · exact hK.elim
    all_goals cases ht
  case convert src dst x =>
    split at ht
    · rename_i k1 k2 y h1 h2 hy
      cases ht
      have hrel := ev_rel hr hy
      simp only [aop] at hK
      split at hK
      · rename_i kx n heq
        rw [heq] at hrel
        exact snd_conv hop h1 h2 hs hrel hK
      · exact hK.elim
    · rename_i e y h1 h2 hy
      split at ht
      · rename_i he
        cases ht
        obtain ⟨l, hl, hk⟩ := hK
        exact snd_convbs hop h1 he h2 hs (ev_rel hr hy) hl hk
      · cases ht
    · cases ht
  case panic x => cases ht; exact hK.elim
  case makeInterface T x => cases ht; exact hK.elim
  case makeSlice T l c =>
    split at ht
    · rename_i e hd
      split at ht
      · rename_i i z l' c' hi hz hl hc
        split at ht
        · rename_i hcc
          cases ht
          have h1 := ev_rel hr hl
          have h2 := ev_rel hr hc
          simp only [aop] at hK
          split at hK
          · rename_i k1 n k2 m e1 e2
            obtain ⟨_, hn, rfl, _, h3, h4, h5, h6⟩ := hK
            rw [e1] at h1
            rw [e2] at h2
            exact snd_mkslice hC hop hd hi hz hcc.1 hcc.2.1 hs h1 h2 hn h3 h4 h5 h6
          · exact hK.elim
        · cases ht
      · cases ht
    · cases ht
  case slice T x lo hi mx =>
    cases mx with
    | some v => simp only [] at ht; cases ht
    | none =>
      simp only [] at ht
      split at ht
      · rename_i x' lo' hi' hd hx hlo hhi
        cases ht
        have hrel := ev_rel hr hx
        simp only [aop] at hK
        split at hK
        · rename_i l heq
          rw [heq] at hrel
          obtain ⟨p, hK, hp⟩ := lo_rel (l := 0) hlo hr hK
          obtain ⟨q, hK, hq⟩ := hi_rel hhi hr hK
          obtain ⟨h0, h1, h2, h3⟩ := hK
          exact snd_slstr hop hd hs hrel hp hq h0 h1 h2 h3
        · exact hK.elim
      · rename_i e x' lo' hi' hd hx hlo hhi
        simp only [Option.map_eq_some_iff] at ht
        obtain ⟨n, hn, rfl⟩ := ht
        have hrel := ev_rel hr hx
        simp only [aop] at hK
        split at hK
        · rename_i t sz' rows heq
          obtain ⟨rfl, hK⟩ := hK
          rw [heq] at hrel
          obtain ⟨p, hK, hp⟩ := lo_rel (l := 0) hlo hr hK
          obtain ⟨q, hK, hq⟩ := hi_rel hhi hr hK
          obtain ⟨h0, h1, h2, h3⟩ := hK
          exact snd_slsl hop hd hn hs hrel hp hq h0 h1 h2 h3
        · rename_i j bk sz' m heq
          obtain ⟨rfl, hK⟩ := hK
          rw [heq] at hrel
          obtain ⟨p, hK, hp⟩ := lo_rel (l := 0) hlo hr hK
          obtain ⟨q, hK, hq⟩ := hi_rel hhi hr hK
          obtain ⟨h0, h1, h2, h3⟩ := hK
          exact snd_slown hop hd hn hs hrel hp hq h0 h1 h2 h3
        · exact hK.elim
      · cases ht
  case fieldAddr T x f =>
    split at ht
    · rename_i fs y hd hy
      split at ht
      · rename_i fl hf
        split at ht
        · rename_i n hn
          split at ht
          · cases ht
          · rename_i hn0
            cases ht
            have hrel := ev_rel hr hy
            simp only [aop] at hK
            split at hK
            · rename_i j b sz i off heq
              rw [heq] at hrel
              generalize hex : a.eval x = ux at hrel
              cases hrel
              rename_i b
              exact snd_faddr (u := undef) hop hd hf hn hn0 hs hex (by rw [Nat.add_assoc]; exact .ptr _ _ _ _ _) hK
            · rename_i t cs heq
              rw [heq] at hrel
              generalize hex : a.eval x = ux at hrel
              cases hrel with
              | rp _ b off _ us hF hc hrr =>
                refine snd_faddr (u := undef) hop hd hf hn hn0 hs hex (.rp t b (off + fl.offset) _ (fun j => us (fl.offset + j)) hF (fun j v hj => ?_) (fun j v hj => ?_)) hK
                · rw [List.getElem?_drop] at hj
                  rw [Nat.add_assoc]
                  exact hc _ v hj
                · rw [List.getElem?_drop] at hj
                  exact hrr _ v hj
            · exact hK.elim
        · cases ht
      · cases ht
    · cases ht
  case field T x f =>
    split at ht
    · rename_i fs y hd hy
      split at ht
      · rename_i fl hf
        split at ht
        · rename_i n hg hn
          cases ht
          have hrel := ev_rel hr hy
          simp only [aop] at hK
          split at hK
          · rename_i cs heq
            rw [heq] at hrel
            exact snd_fldn hop hd hf hg hn hs hrel hK.1 hK.2
          · exact hK.elim
        · rename_i hg
          cases ht
          have hrel := ev_rel hr hy
          simp only [aop] at hK
          split at hK
          · rename_i cs heq
            rw [heq] at hrel
            exact snd_fld1 hop hd hf hg hs hrel hK.1 hK.2
          · exact hK.elim
        · cases ht
      · cases ht
    · cases ht
  case indexAddr T x i =>
    split at ht
    · rename_i e y j hd hy hj
      simp only [Option.map_eq_some_iff] at ht
      obtain ⟨n, hn, rfl⟩ := ht
      have h1 := ev_rel hr hy
      have h2 := ev_rel hr hj
      generalize hex : a.eval x = ux at h1
      generalize hei : a.eval i = ui at h2
      simp only [aop] at hK
      split at hK
      · rename_i t sz' rows ki ii e1 e2
        obtain ⟨rfl, h0, hl, hK⟩ := hK
        rw [e1] at h1
        rw [e2] at h2
        cases h2
        cases h1 with
        | slnil => simp at hl; omega
        | slemp => simp at hl; omega
        | sl _ _ _ b off cap us hF hcap hsz hc hrr =>
          have hlt : ii.toNat < rows.length := by omega
          have hrow : rows[ii.toNat]? = some (rows.getD ii.toNat []) := by rw [List.getD_eq_getElem?_getD, List.getElem?_eq_getElem hlt]; rfl
          refine snd_iaddr hop hd hn hs hex hei h0 hl (.rp t b _ _ (fun q => us ii.toNat q) hF (fun q v hq => ?_) (fun q v hq => ?_)) hK
          · rw [Nat.add_assoc]
            exact hc _ q _ v hrow hq
          · exact hrr _ q _ v hrow hq
      · rename_i k b sz' m ki ii e1 e2
        obtain ⟨rfl, h0, hl, hK⟩ := hK
        rw [e1] at h1
        rw [e2] at h2
        cases h2
        cases h1 with
        | ownnil => simp at hl; omega
        | own _ b _ _ cap c e fr hb hcs hml hn2 => exact snd_iaddr hop hd hn hs hex hei h0 hl (by rw [Nat.zero_add]; exact .ptr k b _ ii.toNat 0) hK
      · rename_i k b sz' lo hi ki ii e1 e2
        obtain ⟨rfl, h0, hl, hK⟩ := hK
        rw [e1] at h1
        rw [e2] at h2
        cases h2
        cases h1 with
        | winemp => omega
        | win _ b _ cap _ _ g0 g1 =>
          refine snd_iaddr hop hd hn hs hex hei h0 (by omega) ?_ hK
          have e3 : lo.toNat * sz' + ii.toNat * sz' = (lo + ii).toNat * sz' + 0 := by rw [Int.toNat_add g0 h0, Nat.add_mul, Nat.add_zero]
          rw [e3]
          exact .ptr k b _ _ 0
      · exact hK.elim
    · rename_i len e y j hd hy hj
      simp only [Option.map_eq_some_iff] at ht
      obtain ⟨n, hn, rfl⟩ := ht
      have h1 := ev_rel hr hy
      have h2 := ev_rel hr hj
      generalize hex : a.eval x = ux at h1
      generalize hei : a.eval i = ui at h2
      simp only [aop] at hK
      split at hK
      · rename_i k b sz' r off ki ii e1 e2
        obtain ⟨h0, hl, hK⟩ := hK
        rw [e1] at h1
        rw [e2] at h2
        cases h2
        cases h1
        exact snd_iarr hop hd hn hs hex hei h0 hl (by rw [Nat.add_assoc]; exact .ptr _ _ _ _ _) hK
      · rename_i t cs ki ii e1 e2
        obtain ⟨h0, hl, hK⟩ := hK
        rw [e1] at h1
        rw [e2] at h2
        cases h2
        cases h1 with
        | rp _ b off _ us hF hc hrr =>
          refine snd_iarr hop hd hn hs hex hei h0 hl (.rp t b _ _ (fun q => us (ii.toNat * n + q)) hF (fun q v hq => ?_) (fun q v hq => ?_)) hK
          · rw [List.getElem?_drop] at hq
            rw [Nat.add_assoc]
            exact hc _ v hq
          · rw [List.getElem?_drop] at hq
            exact hrr _ v hq
      · exact hK.elim
    · cases ht
  case index T x i =>
    split at ht
    · rename_i y j hd hy hj
      cases ht
      have h1 := ev_rel hr hy
      have h2 := ev_rel hr hj
      simp only [aop] at hK
      split at hK
      · rename_i l ki ii e1 e2
        rw [e1] at h1
        rw [e2] at h2
        exact snd_ixs hop hd hs h1 h2 hK.1 hK.2.1 hK.2.2
      · exact hK.elim
    · rename_i len e y j hd hy hj
      split at ht
      · rename_i g n hg hn
        cases ht
        have h1 := ev_rel hr hy
        have h2 := ev_rel hr hj
        simp only [aop] at hK
        split at hK
        · rename_i cs ki ii e1 e2
          rw [e1] at h1
          rw [e2] at h2
          exact snd_ixa hop hd hg hn hs h1 h2 hK.1 hK.2.1 hK.2.2.1 hK.2.2.2.1 hK.2.2.2.2
        · exact hK.elim
      · cases ht
    · cases ht
  case extract x i =>
    simp only [Option.map_eq_some_iff] at ht
    obtain ⟨y, hy, rfl⟩ := ht
    have h1 := ev_rel hr hy
    simp only [aop] at hK
    split at hK
    · rename_i vs e1
      rw [e1] at h1
      exact snd_ext hop hs h1 hK.1 hK.2
    · exact hK.elim
  case call c =>
    split at ht
    · rename_i f hf
      simp only [Option.map_eq_some_iff] at ht
      obtain ⟨m, hm, rfl⟩ := ht
      obtain ⟨h1, h2⟩ := trXs_spec hm
      simp only [aop] at hK
      refine hT C F w a h K Q o c f #[] _ hC hop ⟨_, hf, rfl⟩ hs (by simpa using h1) (fun i v u hv hu => ?_) hK
      rw [Array.append_empty] at hu
      simp only [List.getElem?_map, Option.map_eq_some_iff] at hv
      obtain ⟨y, hy, rfl⟩ := hv
      simp only [Array.getElem?_map, Option.map_eq_some_iff] at hu
      obtain ⟨x, hx, rfl⟩ := hu
      exact ev_rel hr (h2 i x y (by simpa using hx) hy)
    · rename_i t hf
      simp only [Option.map_eq_some_iff] at ht
      obtain ⟨m, hm, rfl⟩ := ht
      obtain ⟨h1, h2⟩ := trXs_spec hm
      simp only [aop] at hK
      split at hK
      · rename_i f caps heq
        have hrel := hr t
        have heq' : s.t t = .fn f caps := heq
        rw [heq'] at hrel
        generalize hu : a.tmps.getD t undef = u at hrel
        cases hrel with
        | fn _ _ us hlc hrc =>
          refine hT C F w a h K Q o c f us _ hC hop ⟨_, hf, hu⟩ hs (by simp only [Array.size_append, Array.size_map, List.length_append, List.length_map, hlc]; have h3 : c.args.toList.length = c.args.size := Array.length_toList; omega) (fun i v u hv hu => ?_) hK
          have hsz : (c.args.map a.eval).size = (m.map (Opd.ev s)).length := by simp [← h1]
          by_cases hi : i < (m.map (Opd.ev s)).length
          · rw [List.getElem?_append_left hi] at hv
            rw [Array.getElem?_append_left (by omega)] at hu
            simp only [List.getElem?_map, Option.map_eq_some_iff] at hv
            obtain ⟨y, hy, rfl⟩ := hv
            simp only [Array.getElem?_map, Option.map_eq_some_iff] at hu
            obtain ⟨x, hx, rfl⟩ := hu
            exact ev_rel hr (h2 i x y (by simpa using hx) hy)
          · rw [List.getElem?_append_right (by omega)] at hv
            rw [Array.getElem?_append_right (by omega), hsz] at hu
            exact hrc _ v u hv hu
      · exact hK.elim
    · rename_i hf
      split at ht
      · rename_i x T hx hT
        split at ht
        · rename_i hd
          simp only [Option.map_eq_some_iff] at ht
          obtain ⟨y, hy, rfl⟩ := ht
          exact snd_lens hop hf (toArr hx) (toArr hT) hd hs (ev_rel hr hy) hK
        · rename_i e hd
          simp only [Option.map_eq_some_iff] at ht
          obtain ⟨y, hy, rfl⟩ := ht
          exact snd_lenl hop hf (toArr hx) (toArr hT) hd hs (ev_rel hr hy) hK
        · cases ht
      · cases ht
    · rename_i hf
      split at ht
      · rename_i x y hm
        cases ht
        obtain ⟨x', y', hx, h1, h2⟩ := trXs_two hm
        have r1 := ev_rel hr h1
        have r2 := ev_rel hr h2
        simp only [aop] at hK
        split at hK
        · rename_i k1 m1 k2 m2 e1 e2
          obtain ⟨rfl, hK⟩ := hK
          rw [e1] at r1
          rw [e2] at r2
          exact snd_mm (mx := true) hop hf hx hs r1 r2 hK
        · exact hK.elim
      · cases ht
    · rename_i hf
      split at ht
      · rename_i x y hm
        cases ht
        obtain ⟨x', y', hx, h1, h2⟩ := trXs_two hm
        have r1 := ev_rel hr h1
        have r2 := ev_rel hr h2
        simp only [aop] at hK
        split at hK
        · rename_i k1 m1 k2 m2 e1 e2
          obtain ⟨rfl, hK⟩ := hK
          rw [e1] at r1
          rw [e2] at r2
          exact snd_mm (mx := false) hop hf hx hs r1 r2 hK
        · exact hK.elim
      · cases ht
    · rename_i hf
      split at ht
      · rename_i x y T T' hm hT
        split at ht
        · rename_i e e' hd hd'
          split at ht
          · rename_i i z hi hz
            split at ht
            · rename_i hc
              cases ht
              obtain ⟨x', y', hx, h1, h2⟩ := trXs_two hm
              obtain ⟨c1, c2, c3, rfl⟩ := hc
              exact snd_append hC hop hf hx (toArr hT) hd hi hz c1 c2 c3 hs (ev_rel hr h1) (ev_rel hr h2) hK
            · cases ht
          · cases ht
        · cases ht
      · cases ht
    · cases ht
  case makeFunc fn first caps =>
    cases fn <;> simp only [] at ht <;> try (cases ht; done)
    rename_i f
    split at ht
    · rename_i hz
      simp only [Option.map_eq_some_iff] at ht
      obtain ⟨m, hm, rfl⟩ := ht
      obtain ⟨h1, h2⟩ := trXs_spec hm
      have hfe : first = #[] := Array.eq_empty_of_size_eq_zero hz
      subst hfe
      refine wp_pure (u := .func (.func f) #[] (caps.map a.eval)) hs ?_ (.fn f _ _ (by simp [← h1]) fun i v u hv hu => ?_) hK
      · unfold execOp
        rw [hop]
        simp [Instr.makeFunc, Sem.run_bind, Sem.run_pure]
      · simp only [List.getElem?_map, Option.map_eq_some_iff] at hv
        obtain ⟨y, hy, rfl⟩ := hv
        simp only [Array.getElem?_map, Option.map_eq_some_iff] at hu
        obtain ⟨x, hx, rfl⟩ := hu
        exact ev_rel hr (h2 i x y (by simpa using hx) hy)
    · cases ht
  all_goals cases ht
end
end Go.Proofs.Ytobngncjflogcaa.AM

/-
  The plain machine once more, its arithmetic behind names, so that a text can be carried out with values that are not known.
-/
set_option linter.unusedVariables false
set_option linter.unusedSimpArgs false
namespace Go.Proofs.Ytobngncjflogcaa.AM
open Go

structure Prim where
  add : Int → Int → Int
  sub : Int → Int → Int
  mul : Int → Int → Int
  div : Int → Int → Int
  mod : Int → Int → Int
  shl : Int → Int → Int
  shr : Int → Int → Int
  band : IntKind → Int → Int → Int
  bor : IntKind → Int → Int → Int
  bxor : IntKind → Int → Int → Int
  wrap : IntKind → Int → Int
  mx : Int → Int → Int
  mn : Int → Int → Int
  lt : Int → Int → Bool
  le : Int → Int → Bool
  eq : Int → Int → Bool
  ne : Int → Int → Bool
  sne : List UInt8 → List UInt8 → Bool
  i64 : Int → Prop
  leP : Int → Int → Prop
  ltP : Int → Int → Prop
  bits : IntKind → Int
  nat : Int → Nat
  int : Nat → Int
  slen : List UInt8 → Int
  seq : List UInt8 → List UInt8 → Bool
  sapp : List UInt8 → List UInt8 → List UInt8
  ssub : List UInt8 → Int → Int → List UInt8
  sat : List UInt8 → Int → Int
  rlen : List (List V) → Int
  rsub : List (List V) → Int → Int → List (List V)
  rapp : List (List V) → List (List V) → List (List V)
  rtake : List (List V) → Nat → List (List V)
  rset : List (List V) → Nat → List V → List (List V)
  rrep : Int → List V → List (List V)
  rlenN : List (List V) → Nat
  nadd : Nat → Nat → Nat
  cond : Bool → V → V → V
  and : Bool → Bool → Bool
  beq : Bool → Bool → Bool
  bytes : Int → Int → Prop
  neP : List (List V) → Nat → Prop
  row : List (List V) → Nat → List V → Prop
  bstr : List (List V) → List UInt8 → Prop

def std : Prim where
  add a b := a + b
  sub a b := a - b
  mul a b := a * b
  div a b := a / b
  mod a b := a % b
  shl a b := a * 2 ^ b.toNat
  shr a b := a / 2 ^ b.toNat
  band k a b := k.wrap (BitVec.ofInt k.bits a &&& BitVec.ofInt k.bits b).toNat
  bor k a b := k.wrap (BitVec.ofInt k.bits a ||| BitVec.ofInt k.bits b).toNat
  bxor k a b := k.wrap (BitVec.ofInt k.bits a ^^^ BitVec.ofInt k.bits b).toNat
  wrap k a := k.wrap a
  mx a b := max a b
  mn a b := min a b
  lt a b := decide (a < b)
  le a b := decide (a ≤ b)
  eq a b := decide (a = b)
  ne a b := decide (a ≠ b)
  sne a b := decide (a ≠ b)
  i64 a := I64 a
  leP a b := a ≤ b
  ltP a b := a < b
  bits k := k.bits
  nat a := a.toNat
  int a := a
  slen l := l.length
  seq a b := decide (a = b)
  sapp a b := a ++ b
  ssub l a b := (l.take b.toNat).drop a.toNat
  sat l i := (l.getD i.toNat 0).toNat
  rlen l := l.length
  rsub l a b := (l.take b.toNat).drop a.toNat
  rapp a b := a ++ b
  rtake l n := l.take n
  rset l i r := l.set i r
  rrep n r := List.replicate n.toNat r
  rlenN l := l.length
  nadd a b := a + b
  cond t a b := if t then a else b
  and a b := a && b
  beq a b := a == b
  bytes n b := n * b ≤ 140737488355328
  neP l n := l.length = n
  row l i r := l[i]? = some r
  bstr rows l := rows = l.map fun b => [V.int .u8 b.toNat]

def arithP (p : Prim) (k : IntKind) (n : Int) (K : V → Prop) : Prop :=
  match k with
  | .i64 => p.i64 n ∧ K (.int .i64 n)
  | k => K (.int k (p.wrap k n))
def binP (p : Prim) (op : BinOp) (x y : V) (K : V → Prop) : Prop :=
  match op, x, y with
  | .add, .int k a, .int k' b => k = k' ∧ arithP p k (p.add a b) K
  | .sub, .int k a, .int k' b => k = k' ∧ arithP p k (p.sub a b) K
  | .mul, .int k a, .int k' b => k = k' ∧ arithP p k (p.mul a b) K
  | .quo, .int k a, .int k' b => k = k' ∧ p.leP 0 a ∧ p.ltP 0 b ∧ arithP p k (p.div a b) K
  | .rem, .int k a, .int k' b => k = k' ∧ p.leP 0 a ∧ p.ltP 0 b ∧ K (.int k (p.mod a b))
  | .shl, .int k a, .int _ b => p.leP 0 b ∧ p.ltP b 64 ∧ arithP p k (p.shl a b) K
  | .shr, .int k a, .int _ b => p.leP 0 b ∧ p.ltP b (p.bits k) ∧ K (.int k (p.shr a b))
  | .and, .int k a, .int k' b => k = k' ∧ K (.int k (p.band k a b))
  | .or, .int k a, .int k' b => k = k' ∧ K (.int k (p.bor k a b))
  | .xor, .int k a, .int k' b => k = k' ∧ K (.int k (p.bxor k a b))
  | .lss, .int k a, .int k' b => k = k' ∧ K (.bool (p.lt a b))
  | .leq, .int k a, .int k' b => k = k' ∧ K (.bool (p.le a b))
  | .gtr, .int k a, .int k' b => k = k' ∧ K (.bool (p.lt b a))
  | .geq, .int k a, .int k' b => k = k' ∧ K (.bool (p.le b a))
  | .eql, .int k a, .int k' b => k = k' ∧ K (.bool (p.eq a b))
  | .neq, .int k a, .int k' b => k = k' ∧ K (.bool (p.ne a b))
  | .add, .str a, .str b => p.i64 (p.add (p.slen a) (p.slen b)) ∧ K (.str (p.sapp a b))
  | .eql, .str a, .str b => K (.bool (p.seq a b))
  | .neq, .str a, .str b => K (.bool (p.sne a b))
  | _, _, _ => False
def rowsP (p : Prim) (h : Hp) (sz : Nat) (v : V) (K : List (List V) → Prop) : Prop :=
  match v with
  | .sl _ sz' rows => sz' = sz ∧ K rows
  | .nilsl => K []
  | .own k b sz' n => match h k with
    | some o => o.b = b ∧ o.sz = sz ∧ sz' = sz ∧ p.neP o.rows n ∧ K o.rows
    | none => False
  | _ => False
def lenP (p : Prim) (str : Bool) (x : V) (K : V → Prop) : Prop :=
  match str, x with
  | true, .str l => K (.int .i64 (p.slen l))
  | false, .sl _ _ rows => K (.int .i64 (p.rlen rows))
  | false, .nilsl => K (.int .i64 0)
  | false, .own _ _ _ n => K (.int .i64 (p.int n))
  | false, .win _ _ _ lo hi => K (.int .i64 (p.sub hi lo))
  | _, _ => False
def eqnP (p : Prim) (neg : Bool) (x : V) (K : V → Prop) : Prop := match x with
  | .nilsl => K (.bool (if neg then false else true))
  | .sl _ _ rows => K (.bool (if neg then true else false)) ∧ (p.rlen rows = 0 → K (.bool (if neg then false else true)))
  | _ => False
def hiP (p : Prim) (hi : Option V) (n : Int) (K : Int → Prop) : Prop :=
  match hi with
  | some (.int _ n) => K n
  | none => K n
  | _ => False
/-- names from here on are of arrays; below, of variables -/
def arr : Nat := 1000000
def rowP (p : Prim) (h : Hp) (k : Nat) (b : Option Nat) (sz i : Nat) (K : Ob → List V → Prop) : Prop :=
  match h k with
  | some o => o.b = b ∧ o.sz = sz ∧ (match decide (k < 1000000) with
    | true => match o.rows, i with
      | [r], 0 => K o r
      | _, _ => False
    | false => ∃ r, p.row o.rows i r ∧ K o r)
  | none => False
def setR (p : Prim) (k : Nat) (rows : List (List V)) (i : Nat) (r : List V) : List (List V) := match decide (k < 1000000) with
  | true => [r]
  | false => p.rset rows i r
def load1P (p : Prim) (h : Hp) (x : V) (K : V → Prop) : Prop :=
  match x with
  | .ptr j b sz i off => rowP p h j b sz i fun _ r => nthC r off K
  | .rp _ cs => nthC cs 0 K
  | _ => False
def loadnP (p : Prim) (h : Hp) (n : Nat) (x : V) (K : V → Prop) : Prop :=
  match x with
  | .ptr j b sz i off => rowP p h j b sz i fun _ r => off + n ≤ r.length ∧ K (.agg ((r.drop off).take n))
  | .rp _ cs => n ≤ cs.length ∧ K (.agg (cs.take n))
  | _ => False
def storeP (p : Prim) (h : Hp) (n : Nat) (x v : V) (K : Hp → Prop) : Prop :=
  match x with
  | .ptr j b sz i off => rowP p h j b sz i fun o r => off + n ≤ r.length ∧ v.fits n ∧ K (h.put j ⟨o.b, o.ty, o.sz, setR p j o.rows i (splice r off v.cells)⟩)
  | _ => False
def appendP (p : Prim) (h : Hp) (k ty sz bytes : Nat) (x y : V) (K : V → Hp → Prop) : Prop :=
  rowsP p h sz y fun news => match x with
    | .nilsl => h k = none ∧ p.bytes (p.rlen news) bytes ∧ ∀ β : Option Nat, K (.own k β sz (p.rlenN news)) (h.put k ⟨β, ty, sz, news⟩)
    | .own j b sz' n => match h j with
      | some o => o.b = b ∧ o.sz = sz ∧ sz' = sz ∧ o.ty = ty ∧ p.neP o.rows n ∧ p.bytes (p.add (p.int n) (p.rlen news)) bytes ∧ ∀ β : Option Nat, K (.own j β sz (p.nadd n (p.rlenN news))) (h.put j ⟨β, ty, sz, p.rapp o.rows news⟩)
      | none => False
    | _ => False

def eqC1 (p : Prim) (t : Nat) (x y : V) (K : Bool → Prop) : Prop :=
  match t, x, y with
  | 0, .bool a, .bool b => K (p.beq a b)
  | 1, .int k a, .int k' b => k = k' ∧ K (p.eq a b)
  | 2, .str a, .str b => K (p.seq a b)
  | _, _, _ => False
def eqCs (p : Prim) : List Nat → List V → List V → (Bool → Prop) → Prop
  | [], [], [], K => K true
  | [t], [a], [b], K => eqC1 p t a b K
  | t :: ts, a :: l, b :: m, K => eqC1 p t a b fun x => eqCs p ts l m fun y => K (p.and x y)
  | _, _, _, _ => False
def eqsP (p : Prim) (neg : Bool) (ts : List Nat) (x y : V) (K : V → Prop) : Prop :=
  match x, y with
  | .agg cs, .agg ds => eqCs p ts cs ds fun b => match neg with
    | true => br b (fun _ => K (.bool false)) (fun _ => K (.bool true))
    | false => K (.bool b)
  | _, _ => False
theorem eqC1_std {t : Nat} {x y : V} {K : Bool → Prop} (h : eqC1 std t x y K) : ∃ b, eqCell t x y = some b ∧ K b := by
  unfold eqC1 at h
  split at h
  · exact ⟨_, rfl, h⟩
  · obtain ⟨rfl, h⟩ := h
    exact ⟨_, by simp [eqCell]; rfl, h⟩
  · exact ⟨_, rfl, h⟩
  · exact h.elim
theorem eqCs_std : ∀ {ts : List Nat} {cs ds : List V} {K : Bool → Prop}, eqCs std ts cs ds K → ∃ b, eqCells ts cs ds = some b ∧ K b
  | [], [], [], K, h => ⟨true, rfl, h⟩
  | [t], [a], [b], K, h => by
    simp only [eqCs] at h
    obtain ⟨x, h1, h2⟩ := eqC1_std h
    exact ⟨x, by simp [eqCells, h1], h2⟩
  | t :: t2 :: ts, a :: l, b :: m, K, h => by
    simp only [eqCs] at h
    obtain ⟨x, h1, h2⟩ := eqC1_std h
    obtain ⟨y, h3, h4⟩ := eqCs_std h2
    exact ⟨x && y, by simp only [eqCells, h1]; rw [h3], h4⟩
  | [t], a :: a2 :: l, b :: m, K, h => by
    simp only [eqCs] at h
    obtain ⟨x, h1, h2⟩ := eqC1_std h
    exact h2.elim
  | [t], [a], b :: b2 :: m, K, h => by
    simp only [eqCs] at h
    obtain ⟨x, h1, h2⟩ := eqC1_std h
    exact h2.elim
  | [], _ :: _, _, _, h => by simp [eqCs] at h
  | [], [], _ :: _, _, h => by simp [eqCs] at h
  | _ :: _, [], _, _, h => by simp [eqCs] at h
  | _ :: _, _ :: _, [], _, h => by simp [eqCs] at h
theorem eqsP_std {neg : Bool} {ts : List Nat} {x y : V} {K : V → Prop} (h : eqsP std neg ts x y K) : eqsK neg ts x y K := by
  unfold eqsP at h
  unfold eqsK
  split at h
  · obtain ⟨b, h1, h2⟩ := eqCs_std h
    simp only [h1]
    cases neg
    · exact h2
    · cases b <;> exact h2
  · exact h.elim
def fitsB (n : Nat) (v : V) : Bool := v.cells.length == n && v.cells.all V.one

def aopP (p : Prim) (C : CallT) (op : AOp) (ev : Opd → V) (h : Hp) (k : Nat) (K : V → Hp → Prop) : Prop :=
  match op with
  | .mov x => K (ev x) h
  | .pick c a b => match ev c with
    | .bool true => K (ev a) h
    | .bool false => K (ev b) h
    | _ => False
  | .alloc ty z => h k = none ∧ z.all (fun u => u.oneCell') = true ∧ ∀ β : Nat, K (.ptr k (some β) z.length 0 0) (h.put k ⟨some β, ty, z.length, [z.map vOf]⟩)
  | .box ty n x => h k = none ∧ (ev x).fits n ∧ ∀ β : Nat, K (.ptr k (some β) n 0 0) (h.put k ⟨some β, ty, n, [(ev x).cells]⟩)
  | .build z parts => (parts.all fun q => fitsB q.2.1 (ev q.2.2)) = true ∧ K (.agg (fillV (z.map vOf) (parts.map fun q => (q.1, (ev q.2.2).cells)))) h
  | .bslice ty sz parts => h (arr + k) = none ∧ (parts.all fun q => fitsB sz (ev q)) = true ∧ ∀ β : Nat, K (.own (arr + k) (some β) sz parts.length) (h.put (arr + k) ⟨some β, ty, sz, parts.map fun q => (ev q).cells⟩)
  | .load1 x => load1P p h (ev x) fun v => K v h
  | .loadn n x => loadnP p h n (ev x) fun v => K v h
  | .store n x v => storeP p h n (ev x) (ev v) fun h => K .junk h
  | .nilchk x => match ev x with
    | .ptr .. | .rp .. => K (ev x) h
    | _ => False
  | .bin op x y => binP p op (ev x) (ev y) fun v => K v h
  | .eqb neg x y => eqbK neg (ev x) (ev y) fun v => K v h
  | .eqp neg x y => eqpK neg (ev x) (ev y) fun v => K v h
  | .eqn neg x => eqnP p neg (ev x) fun v => K v h
  | .eqs neg ts x y => eqsP p neg ts (ev x) (ev y) fun v => K v h
  | .not x => match ev x with
    | .bool b => br b (fun _ => K (.bool false) h) (fun _ => K (.bool true) h)
    | _ => False
  | .conv kd x => match ev x with
    | .int _ n => K (.int kd (p.wrap kd n)) h
    | _ => False
  | .mkslice ty sz bytes z l c => match ev l, ev c with
    | .int _ n, .int _ m => h (arr + k) = none ∧ p.leP 0 n ∧ m = n ∧ z.length = sz ∧ z.all (fun u => u.oneCell') = true ∧ p.bytes n bytes ∧ p.leP n 140737488355328 ∧ ∀ β : Nat, K (.own (arr + k) (some β) sz (p.nat n)) (h.put (arr + k) ⟨some β, ty, sz, p.rrep n (z.map vOf)⟩)
    | _, _ => False
  | .slstr x lo hi => match ev x with
    | .str l => loV (lo.map ev) fun a => hiP p (hi.map ev) (p.slen l) fun b => p.leP 0 a ∧ p.leP a b ∧ p.leP b (p.slen l) ∧ K (.str (p.ssub l a b)) h
    | _ => False
  | .slsl sz x lo hi => match ev x with
    | .sl t sz' rows => sz' = sz ∧ loV (lo.map ev) fun a => hiP p (hi.map ev) (p.rlen rows) fun b => p.leP 0 a ∧ p.leP a b ∧ p.leP b (p.rlen rows) ∧ K (.sl t sz (p.rsub rows a b)) h
    | .own j bk sz' n => sz' = sz ∧ loV (lo.map ev) fun a => hiP p (hi.map ev) (p.int n) fun b => p.leP 0 a ∧ p.leP a b ∧ p.leP b (p.int n) ∧ K (.win j bk sz a b) h
    | _ => False
  | .faddr off x => match ev x with
    | .ptr j b sz i o => K (.ptr j b sz i (o + off)) h
    | .rp t cs => K (.rp t (cs.drop off)) h
    | _ => False
  | .fld1 off x => match ev x with
    | .agg cs => nthC cs off fun v => K v h
    | _ => False
  | .fldn off n x => match ev x with
    | .agg cs => off + n ≤ cs.length ∧ K (.agg ((cs.drop off).take n)) h
    | _ => False
  | .iaddr sz x i => match ev x, ev i with
    | .sl t sz' rows, .int _ i => sz' = sz ∧ p.leP 0 i ∧ ∃ r, p.row rows (p.nat i) r ∧ K (.rp t r) h
    | .own j b sz' n, .int _ i => sz' = sz ∧ p.leP 0 i ∧ p.ltP i (p.int n) ∧ K (.ptr j b sz (p.nat i) 0) h
    | .win j b sz' lo hi, .int _ i => sz' = sz ∧ p.leP 0 i ∧ p.ltP i (p.sub hi lo) ∧ K (.ptr j b sz (p.nat (p.add lo i)) 0) h
    | _, _ => False
  | .iarr len sz x i => match ev x, ev i with
    | .ptr j b sz' r off, .int _ i => p.leP 0 i ∧ p.ltP i len ∧ ∃ n : Nat, p.nat i = n ∧ K (.ptr j b sz' r (off + n * sz)) h
    | .rp t cs, .int _ i => p.leP 0 i ∧ p.ltP i len ∧ ∃ n : Nat, p.nat i = n ∧ K (.rp t (cs.drop (n * sz))) h
    | _, _ => False
  | .ixs x i => match ev x, ev i with
    | .str l, .int _ i => p.leP 0 i ∧ p.ltP i (p.slen l) ∧ K (.int .u8 (p.sat l i)) h
    | _, _ => False
  | .ext i x => match ev x with
    | .tup vs => i < vs.length ∧ K (vs.getD i .junk) h
    | _ => False
  | .len str x => lenP p str (ev x) fun v => K v h
  | .mm mx x y => match mx, ev x, ev y with
    | true, .int k a, .int k' b => k = k' ∧ K (.int k (p.mx a b)) h
    | false, .int k a, .int k' b => k = k' ∧ K (.int k (p.mn a b)) h
    | _, _, _ => False
  | .append ty sz bytes x y => appendP p h (arr + k) ty sz bytes (ev x) (ev y) K
  | .call f args => C f (args.map ev) h K
  | .callv x args => match ev x with
    | .fn f caps => C f (args.map ev ++ caps) h K
    | _ => False
  | .mkfn f caps => K (.fn f (caps.map ev)) h
  | .convbs x => rowsP p h 1 (ev x) fun rows => ∃ l, p.bstr rows l ∧ K (.str l) h
  | .dead => False
  | .ixa g len sz x i => match ev x, ev i with
    | .agg cs, .int _ i => p.leP 0 i ∧ p.ltP i len ∧ Nat.ble (len * sz) cs.length = true ∧ Nat.ble 1 sz = true ∧ ∃ n : Nat, p.nat i = n ∧ (match g with
      | true => K (.agg ((cs.drop (n * sz)).take sz)) h
      | false => K (cs.getD (n * sz) .junk) h)
    | _, _ => False

/-- the name that an operation gives to what it makes -/
def keyOf (op : AOp) (k : Nat) : Nat := match op with
  | .bslice .. | .mkslice .. | .append .. => arr + k
  | _ => k

theorem arithP_std {k : IntKind} {n : Int} {K : V → Prop} : arithP std k n K = arith k n K := by cases k <;> rfl
theorem bool_not_eq {a b : Int} : (!decide (a = b)) = decide (a ≠ b) := by by_cases h : a = b <;> simp [h]
theorem bool_not_seq {a b : List UInt8} : (!decide (a = b)) = decide (a ≠ b) := by by_cases h : a = b <;> simp [h]
theorem binP_imp {op : BinOp} {x y : V} {K : V → Prop} (h : binP std op x y K) : binV op x y K := by
  cases x <;> cases y <;> try (cases op <;> exact h.elim)
  case int.int k a k' b =>
    cases op <;> simp only [binP, binV, arithP_std] at h ⊢ <;> exact h
  case str.str a b =>
    cases op <;> simp only [binP, binV] at h ⊢ <;> exact h

theorem row_get {rows : List (List V)} {i : Nat} {r : List V} (h : rows[i]? = some r) : i < rows.length ∧ rows.getD i [] = r := by
  obtain ⟨h1, h2⟩ := List.getElem?_eq_some_iff.1 h
  exact ⟨h1, by rw [List.getD_eq_getElem?_getD, h]; rfl⟩
theorem rowP_imp {h : Hp} {k sz i : Nat} {b : Option Nat} {K : Ob → List V → Prop} (hh : rowP std h k b sz i K) : rowC h k b sz i K := by
  unfold rowP at hh
  unfold rowC
  cases hk : h k with
  | none => rw [hk] at hh; exact hh.elim
  | some o =>
    rw [hk] at hh
    obtain ⟨h1, h2, h3⟩ := hh
    refine ⟨h1, h2, ?_⟩
    split at h3
    · split at h3
      · rename_i r heq
        rw [heq]
        exact ⟨by simp, by simpa using h3⟩
      · exact h3.elim
    · obtain ⟨r, hr, h4⟩ := h3
      obtain ⟨g1, g2⟩ := row_get hr
      exact ⟨g1, by rw [g2]; exact h4⟩
theorem load1P_imp {h : Hp} {x : V} {K : V → Prop} (hh : load1P std h x K) : load1V h x K := by
  cases x <;> first | exact hh | exact rowP_imp hh
theorem loadnP_imp {h : Hp} {n : Nat} {x : V} {K : V → Prop} (hh : loadnP std h n x K) : loadnV h n x K := by
  cases x <;> first | exact hh | exact rowP_imp hh
theorem storeP_imp {h : Hp} {n : Nat} {x v : V} {K : Hp → Prop} (hh : storeP std h n x v K) : storeV h n x v K := by
  cases x <;> try exact hh
  rename_i j b sz i off
  unfold storeP at hh
  unfold storeV
  simp only [] at hh ⊢
  unfold rowP at hh
  unfold rowC
  cases hk : h j with
  | none => rw [hk] at hh; exact hh.elim
  | some o =>
    rw [hk] at hh
    obtain ⟨h1, h2, h3⟩ := hh
    refine ⟨h1, h2, ?_⟩
    split at h3
    · rename_i hb
      split at h3
      · rename_i r heq
        obtain ⟨a1, a2, a3⟩ := h3
        rw [heq]
        refine ⟨by simp, by simpa using a1, a2, ?_⟩
        simp only [setR, hb] at a3
        simpa [heq] using a3
      · exact h3.elim
    · rename_i hb
      obtain ⟨r, hr, a1, a2, a3⟩ := h3
      obtain ⟨g1, g2⟩ := row_get hr
      refine ⟨g1, by rw [g2]; exact a1, a2, ?_⟩
      rw [g2]
      simp only [setR, hb] at a3
      exact a3
theorem rowsP_imp {h : Hp} {sz : Nat} {v : V} {K : List (List V) → Prop} (hh : rowsP std h sz v K) : ∃ rows, rowsOf h sz v = some rows ∧ K rows := by
  cases v <;> try exact hh.elim
  case sl t sz' rows => exact ⟨rows, by simp [rowsOf, hh.1], hh.2⟩
  case nilsl => exact ⟨[], rfl, hh⟩
  case own k b sz' n =>
    unfold rowsP at hh
    simp only [] at hh
    cases hk : h k with
    | none => rw [hk] at hh; exact hh.elim
    | some o =>
      rw [hk] at hh
      obtain ⟨h1, h2, h3, h4, h5⟩ := hh
      have h4 : o.rows.length = n := h4
      refine ⟨o.rows, ?_, h5⟩
      simp only [rowsOf, hk]
      rw [if_pos ⟨h1, h2, h3, by omega⟩, ← h4, List.take_length]
theorem appendP_imp {h : Hp} {k ty sz bytes : Nat} {x y : V} {K : V → Hp → Prop} (hh : appendP std h k ty sz bytes x y K) : appendV h k ty sz bytes x y K := by
  unfold appendP at hh
  obtain ⟨rows, h1, h2⟩ := rowsP_imp hh
  unfold appendV
  rw [h1]
  exact h2
theorem all_fits {sz : Nat} {ev : Opd → V} {l : List Opd} (h : (l.all fun q => fitsB sz (ev q)) = true) : ∀ p ∈ l, (ev p).fits sz := by
  intro p hp
  have := List.all_eq_true.1 h p hp
  simp only [fitsB, Bool.and_eq_true, beq_iff_eq] at this
  exact this

theorem aopP_imp {T : CallT} {op : AOp} {ev : Opd → V} {h : Hp} {k : Nat} {K : V → Hp → Prop} (hh : aopP std T op ev h k K) : aop T op ev h (keyOf op k) K := by
  cases op
  case load1 => exact load1P_imp hh
  case loadn n x => exact loadnP_imp (n := n) (x := ev x) (K := fun v => K v h) hh
  case store => exact storeP_imp hh
  case bin => exact binP_imp hh
  case eqs neg ts x y => exact eqsP_std (K := fun v => K v h) hh
  case append => exact appendP_imp hh
  case convbs x =>
    obtain ⟨rows, h1, l, h2, h3⟩ := rowsP_imp (show rowsP std h 1 (ev x) fun rows => ∃ l, std.bstr rows l ∧ K (.str l) h from hh)
    exact ⟨l, by rw [h1]; exact congrArg some h2, h3⟩
  case not x =>
    simp only [aopP] at hh
    simp only [aop]
    split at hh
    · rename_i b heq
      rw [heq]
      cases b <;> exact hh
    · exact hh.elim
  case pick c a b =>
    simp only [aopP] at hh
    simp only [aop]
    split at hh
    · rename_i heq; rw [heq]; exact hh
    · rename_i heq; rw [heq]; exact hh
    · exact hh.elim
  case build z parts =>
    refine ⟨fun q hq => ?_, hh.2⟩
    have := List.all_eq_true.1 hh.1 q hq
    simp only [fitsB, Bool.and_eq_true, beq_iff_eq] at this
    exact this
  case bslice ty sz parts => exact ⟨hh.1, all_fits hh.2.1, hh.2.2⟩
  case slsl sz x lo hi =>
    simp only [aopP] at hh
    simp only [aop]
    split at hh
    · rename_i heq
      rw [heq]
      obtain ⟨h1, h2⟩ := hh
      refine ⟨h1, ?_⟩
      unfold loV hiP at *
      unfold hiV
      exact h2
    · rename_i heq
      rw [heq]
      obtain ⟨h1, h2⟩ := hh
      refine ⟨h1, ?_⟩
      unfold loV hiP at *
      unfold hiV
      exact h2
    · exact hh.elim
  case slstr x lo hi =>
    simp only [aopP] at hh
    simp only [aop]
    split at hh
    · rename_i heq
      rw [heq]
      unfold loV hiP at *
      unfold hiV
      exact hh
    · exact hh.elim
  case iaddr sz x i =>
    simp only [aopP] at hh
    simp only [aop]
    split at hh
    · rename_i t sz' rows ki ii e1 e2
      rw [e1, e2]
      obtain ⟨h1, h2, r, h3, h4⟩ := hh
      obtain ⟨g1, g2⟩ := row_get h3
      have h2' : 0 ≤ ii := h2
      have g1' : ii.toNat < rows.length := g1
      have g2' : rows.getD ii.toNat [] = r := g2
      exact ⟨h1, h2, by omega, by rw [g2']; exact h4⟩
    · rename_i e1 e2
      rw [e1, e2]
      exact hh
    · rename_i e1 e2
      rw [e1, e2]
      exact hh
    · exact hh.elim
  case iarr len sz x i =>
    simp only [aopP] at hh
    simp only [aop]
    split at hh
    · rename_i e1 e2
      rw [e1, e2]
      obtain ⟨h1, h2, n, rfl, h3⟩ := hh
      exact ⟨h1, h2, h3⟩
    · rename_i e1 e2
      rw [e1, e2]
      obtain ⟨h1, h2, n, rfl, h3⟩ := hh
      exact ⟨h1, h2, h3⟩
    · exact hh.elim
  case ixa g len sz x i =>
    simp only [aopP] at hh
    simp only [aop]
    split at hh
    · rename_i e1 e2
      rw [e1, e2]
      obtain ⟨h1, h2, h3, h4, n, rfl, h5⟩ := hh
      refine ⟨h1, h2, by simpa using h3, Nat.le_of_ble_eq_true h4, ?_⟩
      cases g <;> exact h5
    · exact hh.elim
  case len str x =>
    simp only [aopP, aop] at *
    unfold lenP at hh
    unfold lenV
    exact hh
  case eqn neg x =>
    simp only [aopP, aop] at *
    unfold eqnP at hh
    unfold eqnK
    exact hh
  case mm mx x y =>
    simp only [aopP] at hh
    simp only [aop]
    split at hh
    · rename_i e1 e2; rw [e1, e2]; exact hh
    · rename_i e1 e2; rw [e1, e2]; exact hh
    · exact hh.elim
  all_goals exact hh
end Go.Proofs.Ytobngncjflogcaa.AM

/-
  Whole texts of functions: what a text asks, for the plain machine; and that it is enough.
-/
set_option linter.unusedVariables false
set_option linter.unusedSimpArgs false
namespace Go.Proofs.Ytobngncjflogcaa.AM
open Go
open Go.BigFrame

def trD (n : Nat) (d : Option Tmp) : Bool := match d with
  | some d => decide (d < n)
  | none => true
def trO (P : Program) (n : Nat) (ops : Array Oper) (o : Oper) : Option AO :=
  match trOp P o.op with
  | some ao =>
    if trD n o.dst then
      match o.guard with
      | none => some ⟨o.dst, none, ao⟩
      | some (j, want) => match (ops[j]?).bind (·.dst) with
        | some t => if t < n then some ⟨o.dst, some (t, want), ao⟩ else none
        | none => none
    else none
  | none => none
def trOs (P : Program) (n : Nat) (ops : Array Oper) : List Oper → Option (List AO)
  | [] => some []
  | o :: l => match trO P n ops o, trOs P n ops l with
    | some a, some m => some (a :: m)
    | _, _ => none

/-- one operation, guarded or not -/
def aoper (p : Prim) (C : CallT) (o : AO) (s : S) (K : S → Prop) : Prop := aopP p C o.op (Opd.ev s) s.h (o.d.getD 0) fun v h => K ((s.seth h).put o.d v)
def aone (p : Prim) (C : CallT) (o : AO) (s : S) (K : S → Prop) : Prop := match o.g with
  | none => aoper p C o s K
  | some (g, true) => match s.t g with
    | .bool b => br b (fun _ => aoper p C o (s.set g (.bool true)) K) (fun _ => K ((s.set g (.bool false)).put o.d .und))
    | .und => K (s.put o.d .und)
    | _ => False
  | some (g, false) => match s.t g with
    | .bool b => br b (fun _ => K ((s.set g (.bool true)).put o.d .und)) (fun _ => aoper p C o (s.set g (.bool false)) K)
    | .und => K (s.put o.d .und)
    | _ => False
def aops (p : Prim) (C : CallT) : List AO → S → (S → Prop) → Prop
  | [], s, K => K s
  | o :: l, s, K => aone p C o s fun s => aops p C l s K

/-- one state says all that another says -/
def Ent (s s' : S) : Prop := ∀ C n a w, Ctx.Ok C → Sat C n s a w → Sat C n s' a w

/-! states as short lists -/
def look : List (Nat × V) → Nat → V
  | [], _ => .junk
  | (k, v) :: l, i => if i = k then v else look l i
def lookH : List (Nat × Ob) → Nat → Option Ob
  | [], _ => none
  | (k, o) :: l, i => if i = k then some o else lookH l i
def St (l : List (Nat × V)) (h : List (Nat × Ob)) : S := ⟨look l, lookH h⟩
def agree : List (Nat × V) → S → Prop
  | [], _ => True
  | (k, v) :: l, s => s.t k = v ∧ agree l s
def agreeH : List (Nat × Ob) → S → Prop
  | [], _ => True
  | (k, o) :: l, s => s.h k = some o ∧ agreeH l s

theorem Ent.refl (s : S) : Ent s s := fun _ _ _ _ _ h => h
theorem Ent.trans {a b c : S} (h : Ent a b) (h' : Ent b c) : Ent a c := fun C n x w hC hs => h' C n x w hC (h C n x w hC hs)

theorem HSat.sub {C : Ctx} {F : Nat → Prop} {h h' : Hp} {w : World} (hs : HSat C F h w) (hh : ∀ k o, h' k = some o → h k = some o) : HSat C F h' w :=
  ⟨fun k o hk => hs.ob k o (hh k o hk), fun k k' o o' b hk hk' => hs.inj k k' o o' b (hh k o hk) (hh k' o' hk'), fun k o b hk => hs.live k o b (hh k o hk), hs.old, hs.new, hs.lt, hs.ev⟩

theorem Ent.of {s s' : S} (ht : ∀ i, s'.t i = s.t i ∨ s'.t i = .junk) (hh : ∀ k o, s'.h k = some o → s.h k = some o) : Ent s s' := by
  intro C n a w hC hs
  obtain ⟨F, h1, h2⟩ := hs.ex
  refine ⟨⟨F, h1.sub hh, fun i => ?_⟩, hs.df, hs.sz⟩
  rcases ht i with h | h
  · rw [h]; exact h2 i
  · rw [h]; exact .junk _

theorem look_agree {l : List (Nat × V)} {s : S} (h : agree l s) (i : Nat) : look l i = s.t i ∨ look l i = .junk := by
  induction l with
  | nil => exact .inr rfl
  | cons p l ih =>
    obtain ⟨k, v⟩ := p
    obtain ⟨h1, h2⟩ := h
    simp only [look]
    by_cases hi : i = k
    · rw [if_pos hi, hi]; exact .inl h1.symm
    · rw [if_neg hi]; exact ih h2
theorem lookH_agree {l : List (Nat × Ob)} {s : S} (h : agreeH l s) (k : Nat) (o : Ob) (hk : lookH l k = some o) : s.h k = some o := by
  induction l with
  | nil => cases hk
  | cons p l ih =>
    obtain ⟨k', o'⟩ := p
    obtain ⟨h1, h2⟩ := h
    simp only [lookH] at hk
    by_cases hi : k = k'
    · rw [if_pos hi] at hk; cases hk; rw [hi]; exact h1
    · rw [if_neg hi] at hk; exact ih h2 hk
theorem Ent.st {s : S} {l : List (Nat × V)} {h : List (Nat × Ob)} (h1 : agree l s) (h2 : agreeH h s) : Ent s (St l h) := Ent.of (look_agree h1) (lookH_agree h2)

/-- the next round's head -/
def Next {Y : Type} (L : Y → List (Nat × V)) (H : Y → List (Nat × Ob)) (μ : Y → Nat) (y : Y) (s : S) : Prop := ∃ s1, Ent s s1 ∧ ∃ y', agree (L y') s1 ∧ agreeH (H y') s1 ∧ μ y' < μ y

/-! every order that the edges allow -/
inductive Both (A B : Prop) : Prop
  | mk (a : A) (b : B) : Both A B
def hasN : List Nat → Nat → Bool
  | [], _ => false
  | x :: l, i => Nat.beq x i || hasN l i
def readyA (done : List Nat) : Nat → List (AO × List Nat) → List (Nat × AO)
  | _, [] => []
  | i, (o, ps) :: l => match !(hasN done i) && ps.all (hasN done) with
    | true => (i, o) :: readyA done (i + 1) l
    | false => readyA done (i + 1) l
def allA : List (Nat × AO) → (Nat → AO → Prop) → Prop
  | [], _ => True
  | [(i, o)], f => f i o
  | (i, o) :: x :: l, f => Both (f i o) (allA (x :: l) f)
def anyA (p : Prim) (T : CallT) (ops : List (AO × List Nat)) : Nat → List Nat → S → (S → Prop) → Prop
  | 0, _, s, K => K s
  | n + 1, done, s, K => allA (readyA done 0 ops) fun i o => aone p T o s fun s => anyA p T ops n (i :: done) s K

def setC (c : Opd) (s : S) (b : Bool) : S := match c with
  | .t i => s.set i (.bool b)
  | _ => s
def awp (p : Prim) (T : CallT) (T1 : CallT) : AC → S → (S → Prop) → (Nat → S → Prop) → (S → Prop) → Prop
  | .skip, s, N, _, _ => N s
  | .region false ops, s, N, _, _ => aops p T ops s N
  | .region true ops, s, N, _, _ => aops p T1 ops s N
  | .seq x y, s, N, X, R => awp p T T1 x s (fun s => awp p T T1 y s N X R) X R
  | .cond c x y, s, N, X, R => match c.ev s with
    | .bool t => br t (fun _ => awp p T T1 x (setC c s true) N X R) (fun _ => awp p T T1 y (setC c s false) N X R)
    | _ => False
  | .block id x, s, N, X, R => awp p T T1 x s N (fun j s => if j = id then N s else X j s) R
  | .loop x, s, _, X, R => ∃ (Y : Type) (L : Y → List (Nat × V)) (H : Y → List (Nat × Ob)) (μ : Y → Nat), (∃ s1, Ent s s1 ∧ ∃ y, agree (L y) s1 ∧ agreeH (H y) s1) ∧ ∀ y, awp p T T1 x (St (L y) (H y)) (Next L H μ y) X R
  | .exit id, s, _, X, _ => X id s
  | .ret, s, _, _, R => R s
  | .dregion ops, s, N, _, _ => anyA p T ops ops.length [] s N

section
variable {P : Program} {C : Ctx} {n : Nat} {w : World} {a : Act} {s : S}

theorem getD_put_same {a : Act} {d : Nat} {u : Value} (h : d < a.tmps.size) : (a.put (some d) u).tmps.getD d undef = u := by
  simp [Act.put, h]
theorem getD_put_other {a : Act} {d i : Nat} {u : Value} (h : i ≠ d) : (a.put (some d) u).tmps.getD i undef = a.tmps.getD i undef := by
  simp [Act.put, Array.getElem?_setIfInBounds, Ne.symm h]

theorem Sat.put (hs : Sat C n s a w) {w' : World} {F' : Nat → Prop} {h' : Hp} {v : V} {u : Value} {d : Option Tmp} (hd : trD n d = true) (hh : HSat C F' h' w') (hv : Rel F' C.B w' v u)
    (hk : ∀ i : Nat, Rel F' C.B w' (s.t i) (a.tmps.getD i undef)) : Sat C n ((s.seth h').put d v) (a.put d u) w' := by
  cases d with
  | none => exact ⟨⟨F', hh, hk⟩, hs.df, hs.sz⟩
  | some d =>
    have hd' : d < a.tmps.size := by rw [hs.sz]; simpa [trD] using hd
    refine ⟨⟨F', hh, fun i => ?_⟩, hs.df, by simp [Act.put, hs.sz]⟩
    simp only [S.put, S.set, S.seth, upd]
    by_cases hi : i = d
    · subst hi
      rw [if_pos rfl, getD_put_same hd']
      exact hv
    · rw [if_neg hi, getD_put_other hi]
      exact hk i

theorem Sat.setg (hs : Sat C n s a w) {g : Nat} {b : Bool} (hg : s.t g = .bool b) : Sat C n (s.set g (.bool b)) a w := by
  obtain ⟨F, hh, hr⟩ := hs.ex
  refine ⟨⟨F, hh, fun i => ?_⟩, hs.df, hs.sz⟩
  simp only [S.set, upd]
  by_cases hi : i = g
  · subst hi
    rw [if_pos rfl, ← hg]
    exact hr i
  · rw [if_neg hi]
    exact hr i

theorem yielded_of (hs : Sat C n s a w) {ops : Array Oper} {j t : Nat} {b : Bool} (hj : (ops[j]?).bind (·.dst) = some t) (ht : t < n) (hb : s.t t = .bool b) : yielded ops a.tmps j = some b := by
  obtain ⟨F, hh, hr⟩ := hs.ex
  have := hr t
  rw [hb] at this
  have hlt : t < a.tmps.size := by rw [hs.sz]; exact ht
  have hg : a.tmps.getD t undef = a.tmps[t] := by simp [hlt]
  rw [hg] at this
  generalize hu : a.tmps[t] = u at this
  cases this
  unfold yielded
  rw [hj]
  simp [hlt, hu]

theorem aops_cons {p : Prim} {T : CallT} {o : AO} {l : List AO} {K : S → Prop} : aops p T (o :: l) s K = aone p T o s fun s => aops p T l s K := rfl

theorem aoper_sound {T : CallT} (hT : CallOk P T) (hC : C.Ok) {ops : Array Oper} {o : Oper} {ao : AO} {op : AOp} {K : S → Prop} {Q : Exit → Act → World → Prop} (ht : trOp P o.op = some op) (hao : ao.op = op) (hd : trD n o.dst = true) (hdd : ao.d = o.dst) (hs : Sat C n s a w)
    (hK : aoper std T ao s K) : o.wp P a w (fun a' w' => ∃ s', Sat C n s' a' w' ∧ K s') Q := by
  obtain ⟨F, hh, hr⟩ := hs.ex
  subst hao
  refine Oper.wp_mono (fun a' w' hp => ?_) (aop_sound hT hC ht hh hr (aopP_imp hK))
  obtain ⟨u, v, h', F', rfl, hv, hh', hk, hKv⟩ := hp
  exact ⟨_, by rw [hdd]; exact Sat.put hs hd hh' hv fun i => hk _ _ (hr i), hKv⟩

theorem aone_sound {T : CallT} (hT : CallOk P T) (hC : C.Ok) {ops : Array Oper} {o : Oper} {ao : AO} {K : S → Prop} {Q : Exit → Act → World → Prop} {J : Act → World → Prop} (ht : trO P n ops o = some ao) (hs : Sat C n s a w) (hK : aone std T ao s K)
    (hJ : ∀ s' a' w', Sat C n s' a' w' → K s' → J a' w') : if Region.wanted o (yielded ops a.tmps) then o.wp P a w J Q ∨ (o.asks P a w ∧ LetsOut Q) else J (a.put o.dst undef) w := by
  unfold trO at ht
  split at ht
  · rename_i op hop
    split at ht
    · rename_i hd
      split at ht
      · rename_i hg
        cases ht
        have hw : Region.wanted o (yielded ops a.tmps) = true := by simp [Region.wanted, hg]
        rw [if_pos hw]
        refine .inl (Oper.wp_mono (fun a' w' ⟨s', h1, h2⟩ => hJ s' a' w' h1 h2) (aoper_sound hT hC (ops := ops) (ao := ⟨o.dst, none, op⟩) hop rfl hd rfl hs hK))
      · rename_i j want hg
        split at ht
        · rename_i t hj
          split at ht
          · rename_i htn
            cases ht
            have und : s.t t = .und → (if Region.wanted o (yielded ops a.tmps) then o.wp P a w J Q ∨ (o.asks P a w ∧ LetsOut Q) else J (a.put o.dst undef) w) ∨ ¬ K (s.put o.dst .und) := by
              intro hu
              by_cases hKu : K (s.put o.dst .und)
              · left
                obtain ⟨F, hh, hr⟩ := hs.ex
                have hlt : t < a.tmps.size := by rw [hs.sz]; exact htn
                have hru := hr t
                rw [hu] at hru
                have hgd : a.tmps.getD t undef = a.tmps[t] := by simp [hlt]
                rw [hgd] at hru
                generalize hv : a.tmps[t] = v at hru
                cases hru
                have hy : yielded ops a.tmps j = none := by unfold yielded; rw [hj]; simp [hlt, hv, undef]
                have hw : ¬ Region.wanted o (yielded ops a.tmps) = true := by simp [Region.wanted, hg, hy]
                rw [if_neg hw]
                exact hJ _ _ _ (Sat.put hs hd hh .und hr) hKu
              · exact .inr hKu
            have yes : s.t t = .bool want → aoper std T ⟨o.dst, some (t, want), op⟩ (s.set t (.bool want)) K → (if Region.wanted o (yielded ops a.tmps) then o.wp P a w J Q ∨ (o.asks P a w ∧ LetsOut Q) else J (a.put o.dst undef) w) := by
              intro hb hK
              have hy := yielded_of hs hj htn hb
              have hw : Region.wanted o (yielded ops a.tmps) = true := by simp [Region.wanted, hg, hy]
              rw [if_pos hw]
              exact .inl (Oper.wp_mono (fun a' w' ⟨s', h1, h2⟩ => hJ s' a' w' h1 h2) (aoper_sound hT hC (ops := ops) (ao := ⟨o.dst, some (t, want), op⟩) hop rfl hd rfl (hs.setg hb) hK))
            have no : ∀ b, b ≠ want → s.t t = .bool b → K ((s.set t (.bool b)).put o.dst .und) → (if Region.wanted o (yielded ops a.tmps) then o.wp P a w J Q ∨ (o.asks P a w ∧ LetsOut Q) else J (a.put o.dst undef) w) := by
              intro b hne hb hK
              have hy := yielded_of hs hj htn hb
              have hw : ¬ Region.wanted o (yielded ops a.tmps) = true := by simp [Region.wanted, hg, hy, hne]
              rw [if_neg hw]
              have hs2 := hs.setg hb
              obtain ⟨F, hh, hr⟩ := hs2.ex
              exact hJ _ _ _ (Sat.put hs2 hd hh .und hr) hK
            cases want with
            | true =>
              simp only [aone] at hK
              split at hK
              · rename_i b hb
                cases b with
                | true => exact yes hb hK
                | false => exact no false (by decide) hb hK
              · rename_i hu
                exact (und hu).resolve_right (fun h => h hK)
              · exact hK.elim
            | false =>
              simp only [aone] at hK
              split at hK
              · rename_i b hb
                cases b with
                | true => exact no true (by decide) hb hK
                | false => exact yes hb hK
              · rename_i hu
                exact (und hu).resolve_right (fun h => h hK)
              · exact hK.elim
          · cases ht
        · cases ht
    · cases ht
  · cases ht

theorem aops_sound {T : CallT} (hT : CallOk P T) (hC : C.Ok) {ops : Array Oper} {Q : Exit → Act → World → Prop} : ∀ (l : List Oper) (al : List AO) (s : S) (a : Act) (w : World) (K : S → Prop), trOs P n ops l = some al → Sat C n s a w → aops std T al s K →
    (∀ s' a' w', Sat C n s' a' w' → K s' → Q .normal a' w') → wpList P ops Q l a w := by
  intro l
  induction l with
  | nil =>
    intro al s a w K ht hs hK hQ
    simp only [trOs, Option.some.injEq] at ht
    subst ht
    exact hQ s a w hs hK
  | cons o l ih =>
    intro al s a w K ht hs hK hQ
    simp only [trOs] at ht
    split at ht
    · rename_i ao m ho hm
      cases ht
      rw [aops_cons] at hK
      exact aone_sound hT hC ho hs hK fun s' a' w' h1 h2 => ih m s' a' w' K hm h1 h2 hQ
    · cases ht
end
end Go.Proofs.Ytobngncjflogcaa.AM

/-
  Regions that draw their order, whose operations meddle with each other: every order that the edges allow is carried out.
-/
set_option linter.unusedVariables false
set_option linter.unusedSimpArgs false
namespace Go.Proofs.Ytobngncjflogcaa.AM
open Go

/-! the edges -/
def predsOf (ops : Array Oper) (i : Nat) : List Nat := match ops[i]? with
  | some o => (o.after.toList.filter (Region.binds .any)).map (·.on)
  | none => []
theorem hasN_iff {l : List Nat} {i : Nat} : hasN l i = true ↔ i ∈ l := by
  induction l with
  | nil => simp [hasN]
  | cons x l ih =>
    rw [hasN, Bool.or_eq_true, ih, List.mem_cons]
    exact ⟨fun h => h.imp (fun e => (Nat.eq_of_beq_eq_true e).symm) id, fun h => h.imp (fun e => by rw [e]; exact Nat.beq_refl x) id⟩
theorem allA_mem {f : Nat → AO → Prop} : ∀ {l : List (Nat × AO)}, allA l f → ∀ {i o}, (i, o) ∈ l → f i o
  | [], _, i, o, h => by cases h
  | [(j, q)], h, i, o, hm => by simp at hm; obtain ⟨rfl, rfl⟩ := hm; exact h
  | (j, q) :: x :: l, h, i, o, hm => by
    obtain ⟨h1, h2⟩ := h
    rcases List.mem_cons.1 hm with hm | hm
    · cases hm; exact h1
    · exact allA_mem h2 hm
theorem mem_readyA {done : List Nat} : ∀ {l : List (AO × List Nat)} {m j : Nat} {o : AO} {ps : List Nat}, l[j]? = some (o, ps) → (m + j) ∉ done → (∀ q ∈ ps, q ∈ done) → (m + j, o) ∈ readyA done m l
  | [], m, j, o, ps, h, _, _ => by simp at h
  | (o', ps') :: l, m, 0, o, ps, h, h1, h2 => by
    simp only [List.getElem?_cons_zero, Option.some.injEq, Prod.mk.injEq] at h
    obtain ⟨rfl, rfl⟩ := h
    have e : (!(hasN done m) && ps'.all (hasN done)) = true := by
      rw [Bool.and_eq_true, List.all_eq_true]
      refine ⟨?_, fun q hq => hasN_iff.2 (h2 q hq)⟩
      cases hh : hasN done m
      · rfl
      · exact absurd (hasN_iff.1 hh) h1
    simp only [readyA, e, Nat.add_zero]
    exact List.mem_cons_self
  | (o', ps') :: l, m, j + 1, o, ps, h, h1, h2 => by
    have := mem_readyA (done := done) (l := l) (m := m + 1) (j := j) (by simpa using h) (by rw [show m + 1 + j = m + (j + 1) by omega]; exact h1) h2
    rw [show m + 1 + j = m + (j + 1) by omega] at this
    simp only [readyA]
    split
    · exact List.mem_cons_of_mem _ this
    · exact this

def predsOk (ops : Array Oper) : Bool := (List.range ops.size).all fun i => (predsOf ops i).all fun j => decide (j < i)
def withPreds (ops : Array Oper) (al : List AO) : List (AO × List Nat) := al.zip ((List.range ops.size).map (predsOf ops))
theorem trOs_get' {P : Program} {n : Nat} {ops : Array Oper} : ∀ {l : List Oper} {al : List AO}, trOs P n ops l = some al → l.length = al.length ∧ ∀ (i : Nat) (o : Oper), l[i]? = some o → ∃ a, al[i]? = some a ∧ trO P n ops o = some a
  | [], al, h => by simp [trOs] at h; subst h; simp
  | o :: l, al, h => by
    simp only [trOs] at h
    split at h
    · rename_i a m ha hm
      cases h
      obtain ⟨h1, h2⟩ := trOs_get' hm
      refine ⟨by simp [h1], fun i o' ho => ?_⟩
      cases i with
      | zero => simp at ho; subst ho; exact ⟨a, rfl, ha⟩
      | succ i => exact h2 i o' (by simpa using ho)
    · cases h
theorem exists_min : ∀ (l : List Nat), l ≠ [] → ∃ i ∈ l, ∀ j ∈ l, i ≤ j
  | [], h => absurd rfl h
  | [x], _ => ⟨x, by simp, by simp⟩
  | x :: y :: l, _ => by
    obtain ⟨i, hi, hm⟩ := exists_min (y :: l) (by simp)
    by_cases hx : x ≤ i
    · exact ⟨x, by simp, fun j hj => by rcases List.mem_cons.1 hj with rfl | hj; exact Nat.le_refl _; have := hm j hj; omega⟩
    · exact ⟨i, List.mem_cons_of_mem _ hi, fun j hj => by rcases List.mem_cons.1 hj with rfl | hj; omega; exact hm j hj⟩

section
variable {P : Program}
theorem anyA_sound {C : Ctx} {n : Nat} {ops : Array Oper} {al : List AO} {Q : Exit → Act → World → Prop} (hC : C.Ok) (hal : trOs P n ops ops.toList = some al) (hD : predsOk ops = true) {K : S → Prop} (hQ : ∀ s' a' w', Sat C n s' a' w' → K s' → Q .normal a' w') :
    ∀ (k : Nat) (R : List Nat) (listed : Array Bool) (done : List Nat) (s : S) (a : Act) (w : World), R.length = k → R.Nodup → listed.size = ops.size → (∀ i, i ∈ R ↔ i < ops.size ∧ listed.getD i true = false) → (∀ i, i < ops.size → (i ∈ done ↔ listed.getD i true = true)) →
      Sat C n s a w → anyA std (CallE P) (withPreds ops al) k done s K → wpAny P .any ops Q k listed a w := by
  have getb : ∀ (listed : Array Bool) (i : Nat), listed.size = ops.size → i < ops.size → listed.getD i true = listed.getD i false := by
    intro listed i hs hi
    have : i < listed.size := by omega
    simp [this]
  have chk : ∀ i, i < ops.size → ∀ j ∈ predsOf ops i, j < i := by
    intro i hi j hj
    unfold predsOk at hD
    have h1 := List.all_eq_true.1 hD i (List.mem_range.2 hi)
    simpa using List.all_eq_true.1 h1 j hj
  obtain ⟨hlen, hget⟩ := trOs_get' hal
  intro k
  induction k with
  | zero =>
    intro R listed done s a w hk _ hsz hmem _ hs hK
    have hR : R = [] := List.eq_nil_of_length_eq_zero hk
    subst hR
    refine ⟨List.eq_nil_iff_forall_not_mem.2 fun j hj => ?_, hQ s a w hs hK⟩
    obtain ⟨h1, o, ho, _⟩ := mem_ready.1 hj
    have := (hmem j).2 ⟨(Array.getElem?_eq_some_iff.1 ho).1, h1⟩
    cases this
  | succ k ih =>
    intro R listed done s a w hk hnd hsz hmem hdone hs hK
    refine ⟨fun hr => ?_, fun i hi => ?_⟩
    · exfalso
      obtain ⟨i0, hi0R, hmin⟩ := exists_min R (by intro h; subst h; cases hk)
      obtain ⟨hi0, hl0⟩ := (hmem i0).1 hi0R
      have : i0 ∈ Region.ready .any ops listed := by
        refine mem_ready.2 ⟨hl0, ops[i0], Array.getElem?_eq_getElem hi0, fun e he hb => ?_⟩
        have hp : e.on ∈ predsOf ops i0 := by
          unfold predsOf
          rw [Array.getElem?_eq_getElem hi0]
          exact List.mem_map.2 ⟨e, List.mem_filter.2 ⟨by simpa using he, hb⟩, rfl⟩
        have hlt := chk i0 hi0 _ hp
        by_cases hl : listed.getD e.on false = true
        · exact hl
        · exfalso
          have h3 : listed.getD e.on true = false := by rw [getb listed e.on hsz (by omega)]; simpa using hl
          have := hmin e.on ((hmem e.on).2 ⟨by omega, h3⟩)
          omega
      rw [hr] at this
      cases this
    · obtain ⟨hl, o, ho, hall⟩ := mem_ready.1 hi
      have hio : i < ops.size := (Array.getElem?_eq_some_iff.1 ho).1
      have hiR : i ∈ R := (hmem i).2 ⟨hio, hl⟩
      obtain ⟨ai, hai, htr⟩ := hget i o (by simpa using ho)
      have hnd' : i ∉ done := fun h => by have := (hdone i hio).1 h; rw [hl] at this; cases this
      have hz : (withPreds ops al)[i]? = some (ai, predsOf ops i) := by
        unfold withPreds
        rw [List.getElem?_zip_eq_some]
        exact ⟨hai, by simp [hio]⟩
      have hr := mem_readyA (done := done) (m := 0) (j := i) hz (by simpa using hnd') (fun q hq => by
        have hq' := hq
        unfold predsOf at hq
        rw [ho] at hq
        obtain ⟨e, he, rfl⟩ := List.mem_map.1 hq
        obtain ⟨he1, he2⟩ := List.mem_filter.1 he
        have h4 := hall e (by simpa using he1) he2
        have hlt : e.on < ops.size := by have := chk i hio _ hq'; omega
        exact (hdone e.on hlt).2 (by rw [getb listed e.on hsz hlt]; exact h4))
      rw [Nat.zero_add] at hr
      have hone := allA_mem (show allA (readyA done 0 (withPreds ops al)) (fun i o => aone std (CallE P) o s fun s => anyA std (CallE P) (withPreds ops al) k (i :: done) s K) from hK) hr
      unfold wpOp
      rw [ho]
      refine aone_sound callE_ok hC htr hs hone fun s' a' w' hs' hK' => ih (R.erase i) (listed.setIfInBounds i true) (i :: done) s' a' w' ?_ (hnd.erase i) (by simp [hsz]) (fun j => ?_) (fun j hj => ?_) hs' hK'
      · rw [List.length_erase_of_mem hiR]; omega
      · rw [hnd.mem_erase_iff, hmem j]
        by_cases hij : i = j
        · subst hij
          have h1 : (listed.setIfInBounds i true).getD i true = true := by
            have : i < listed.size := by omega
            simp [this]
          rw [h1]
          simp
        · rw [getD_set_ne true hij]
          exact ⟨fun h => h.2, fun h => ⟨fun e => hij e.symm, h⟩⟩
      · by_cases hij : i = j
        · subst hij
          have h1 : (listed.setIfInBounds i true).getD i true = true := by
            have : i < listed.size := by omega
            simp [this]
          rw [h1]
          simp
        · rw [getD_set_ne true hij, ← hdone j hj, List.mem_cons]
          exact ⟨fun h => h.resolve_left fun e => hij e.symm, .inr⟩
end
end Go.Proofs.Ytobngncjflogcaa.AM

/-
  Whole texts of functions against the model.
-/
set_option linter.unusedVariables false
set_option linter.unusedSimpArgs false
namespace Go.Proofs.Ytobngncjflogcaa.AM
open Go
open Go.BigFrame

/-! the edges -/
inductive Anc (ops : Array Oper) : Nat → Nat → Prop
  | base {j i} (h : j ∈ predsOf ops i) : Anc ops j i
  | step {j k i} (h : k ∈ predsOf ops i) (h' : Anc ops j k) : Anc ops j i
def ancTbl (ops : Array Oper) : Nat → List (List Nat)
  | 0 => []
  | n + 1 =>
    let t := ancTbl ops n
    t ++ [(predsOf ops n ++ (predsOf ops n).flatMap fun k => t.getD k []).eraseDups]
theorem ancTbl_len (ops : Array Oper) (n : Nat) : (ancTbl ops n).length = n := by
  induction n with
  | zero => rfl
  | succ n ih => simp [ancTbl, ih]
theorem ancTbl_sound (ops : Array Oper) : ∀ (n i j : Nat), j ∈ (ancTbl ops n).getD i [] → Anc ops j i := by
  intro n
  induction n with
  | zero => intro i j h; simp [ancTbl] at h
  | succ n ih =>
    intro i j h
    simp only [ancTbl] at h
    rw [List.getD_eq_getElem?_getD] at h
    by_cases hi : i < n
    · rw [List.getElem?_append_left (by rw [ancTbl_len]; exact hi), ← List.getD_eq_getElem?_getD] at h
      exact ih i j h
    · by_cases hin : i = n
      · subst hin
        rw [List.getElem?_append_right (by rw [ancTbl_len]; exact Nat.le_refl _), ancTbl_len] at h
        simp only [Nat.sub_self, List.getElem?_cons_zero, Option.getD_some, List.mem_eraseDups, List.mem_append, List.mem_flatMap] at h
        rcases h with h | ⟨k, hk, h⟩
        · exact .base h
        · exact .step hk (ih k j h)
      · rw [List.getElem?_eq_none (by simp [ancTbl_len]; omega)] at h
        simp at h

/-- is the last operation of a region a call, behind all the others? -/
def AOp.isCall : AOp → Bool
  | .call .. => true
  | _ => false
def lastC (ops : Array Oper) (al : List AO) : Bool := match al.getLast? with
  | some o => o.op.isCall && (List.range (ops.size - 1)).all fun j => ((ancTbl ops ops.size).getD (ops.size - 1) []).contains j
  | none => false

def trC (P : Program) (n : Nat) (D : Array Oper → List AO → Bool) : Code → Option AC
  | .skip => some .skip
  | .region _ ops dr => match trOs P n ops ops.toList with
    | some al => if dr then (if D ops al then (if lastC ops al then some (.seq (.region true al.dropLast) (.region false (al.drop (al.length - 1)))) else some (.region true al)) else if predsOk ops then some (.dregion (withPreds ops al)) else none) else some (.region false al)
    | none => none
  | .seq x y => match trC P n D x, trC P n D y with
    | some x, some y => some (.seq x y)
    | _, _ => none
  | .cond c x y => match trX c, trC P n D x, trC P n D y with
    | some c, some x, some y => some (.cond c x y)
    | _, _, _ => none
  | .block id x => (trC P n D x).map (.block id)
  | .loop x => (trC P n D x).map .loop
  | .exit id => some (.exit id)
  | .ret => some .ret
  | .scope x => trC P n D x
  | _ => none

/-- how the text's ways out are stated -/
def QOf (C : Ctx) (n : Nat) (N : S → Prop) (X : Nat → S → Prop) (R : S → Prop) : Exit → Act → World → Prop
  | .normal, a, w => ∃ s, Sat C n s a w ∧ N s
  | .exit j, a, w => ∃ s, Sat C n s a w ∧ X j s
  | .ret, a, w => ∃ s, Sat C n s a w ∧ R s
  | _, _, _ => False

/-- a region that draws its order may be read in the text's order -/
def DrawOk (P : Program) (D : Array Oper → List AO → Bool) : Prop := P.follows .mixedOrders = true ∧
  (∀ (C : Ctx) (n id : Nat) (ops : Array Oper) (al : List AO) (s : S) (a : Act) (w : World) (K : S → Prop) (Q : Exit → Act → World → Prop), C.Ok → trOs P n ops ops.toList = some al → D ops al = true → Sat C n s a w → aops std (CallP P) al s K →
    (∀ s' a' w', Sat C n s' a' w' → K s' → Q .normal a' w') → (Code.region id ops true).wp P Q a w) ∧
  (∀ (C : Ctx) (n id : Nat) (ops : Array Oper) (al : List AO) (s : S) (a : Act) (w : World) (K : S → Prop) (Q : Exit → Act → World → Prop), C.Ok → trOs P n ops ops.toList = some al → D ops al = true → lastC ops al = true → Sat C n s a w → aops std (CallP P) al.dropLast s (fun s' => aops std (CallE P) (al.drop (al.length - 1)) s' K) →
    (∀ s' a' w', Sat C n s' a' w' → K s' → Q .normal a' w') → (Code.region id ops true).wp P Q a w)

theorem awp_sound {P : Program} {C : Ctx} {n : Nat} {D : Array Oper → List AO → Bool} (hD : DrawOk P D) (hC : C.Ok) : ∀ (c : Code) (ac : AC) (s : S) (a : Act) (w : World) (N : S → Prop) (X : Nat → S → Prop) (R : S → Prop), trC P n D c = some ac → Sat C n s a w → awp std (CallE P) (CallP P) ac s N X R →
    c.wp P (QOf C n N X R) a w := by
  intro c
  induction c with
  | skip =>
    intro ac s a w N X R ht hs hK
    simp only [trC, Option.some.injEq] at ht
    subst ht
    exact wp_skip ⟨s, hs, hK⟩
  | region id ops dr =>
    intro ac s a w N X R ht hs hK
    simp only [trC] at ht
    split at ht
    · rename_i al hal
      cases dr with
      | false =>
        simp only [Bool.false_eq_true, ↓reduceIte, Option.some.injEq] at ht
        subst ht
        exact wp_region_list (aops_sound callE_ok hC _ _ _ _ _ _ hal hs hK fun s' a' w' h1 h2 => ⟨s', h1, h2⟩)
      | true =>
        simp only [↓reduceIte] at ht
        split at ht
        · rename_i hd
          split at ht
          · rename_i hl
            cases ht
            exact hD.2.2 C n id ops al s a w N _ hC hal hd hl hs hK fun s' a' w' h1 h2 => ⟨s', h1, h2⟩
          · cases ht
            exact hD.2.1 C n id ops al s a w N _ hC hal hd hs hK fun s' a' w' h1 h2 => ⟨s', h1, h2⟩
        · split at ht
          · rename_i hp
            cases ht
            refine wp_region_any hD.1 ?_
            have hs2 : Sat C n s a { w with drawn := w.drawn + 1 } := by
              obtain ⟨F, hh, hr⟩ := hs.ex
              have hev : Ev (fun _ => False) w { w with drawn := w.drawn + 1 } := Ev.drew _ w
              refine ⟨⟨F, ⟨fun k o hk => ObSat.keep hC hh hev (fun _ _ h => h.elim) (hh.ob k o hk) (fun _ _ h => h.elim), hh.inj, hh.live, hh.old, hh.new, hh.lt, Ev.weak hh.ev hev fun _ _ h => h.elim⟩, fun i => hh.keep hC hev (fun _ _ h => h.elim) (hr i)⟩, hs.df, hs.sz⟩
            have hlen := (trOs_get' hal).1
            have hal2 : (withPreds ops al).length = ops.size := by simp [withPreds, ← hlen]
            have hK2 : anyA std (CallE P) (withPreds ops al) ops.size [] s N := by
              have hK3 : anyA std (CallE P) (withPreds ops al) (withPreds ops al).length [] s N := hK
              rw [hal2] at hK3
              exact hK3
            refine anyA_sound (Q := QOf C n N X R) hC hal hp (fun s' a' w' h1 h2 => ⟨s', h1, h2⟩) ops.size (List.range ops.size) (Array.replicate ops.size false) [] s a _ (by simp) List.nodup_range (by simp) (fun i => ?_) (fun i hi => by simp [hi]) hs2 hK2
            rw [List.mem_range]
            exact ⟨fun h => ⟨h, by simp [h]⟩, fun h => h.1⟩
          · cases ht
    · cases ht
  | seq x y ihx ihy =>
    intro ac s a w N X R ht hs hK
    simp only [trC] at ht
    split at ht
    · rename_i x' y' hx hy
      cases ht
      refine wp_seq (wp_mono (ihx _ _ _ _ _ _ _ hx hs hK) fun e a' w' hq => ?_)
      cases e with
      | normal => obtain ⟨s', h1, h2⟩ := hq; exact ihy _ _ _ _ _ _ _ hy h1 h2
      | exit j => exact hq
      | ret => exact hq
      | _ => exact hq.elim
    · cases ht
  | cond c x y ihx ihy =>
    intro ac s a w N X R ht hs hK
    simp only [trC] at ht
    split at ht
    · rename_i c' x' y' hc hx hy
      cases ht
      obtain ⟨F, hh, hr⟩ := hs.ex
      have hrel := ev_rel hr hc
      simp only [awp] at hK
      split at hK
      · rename_i t heq
        rw [heq] at hrel
        generalize hec : a.eval c = uc at hrel
        cases hrel
        have hset : ∀ b, t = b → Sat C n (setC c' s b) a w := by
          rintro b rfl
          cases c' with
          | t i => exact hs.setg heq
          | c v => exact hs
        exact wp_cond_split hec (fun ht => ihx _ _ _ _ _ _ _ hx (hset _ ht) (by rw [ht] at hK; exact hK)) (fun ht => ihy _ _ _ _ _ _ _ hy (hset _ ht) (by rw [ht] at hK; exact hK))
      · exact hK.elim
    · cases ht
  | block id x ih =>
    intro ac s a w N X R ht hs hK
    simp only [trC, Option.map_eq_some_iff] at ht
    obtain ⟨x', hx, rfl⟩ := ht
    refine wp_block (wp_mono (ih _ _ _ _ _ _ _ hx hs hK) fun e a' w' hq => ?_)
    cases e with
    | normal => exact hq
    | exit j =>
      obtain ⟨s', h1, h2⟩ := hq
      simp only [Exit.inBlock]
      by_cases hj : j = id
      · rw [if_pos hj] at h2 ⊢
        exact ⟨s', h1, h2⟩
      · rw [if_neg hj] at h2 ⊢
        exact ⟨s', h1, h2⟩
    | ret => exact hq
    | _ => exact hq.elim
  | loop x ih =>
    intro ac s a w N X R ht hs hK
    simp only [trC, Option.map_eq_some_iff] at ht
    obtain ⟨x', hx, rfl⟩ := ht
    obtain ⟨Y, L, H, μ, ⟨s1, h0, y0, h1, h2⟩, hround⟩ := hK
    refine wp_loop_ghost (fun k a w => ∃ y, μ y = k ∧ Sat C n (St (L y) (H y)) a w) (μ y0) ⟨y0, rfl, Ent.st h1 h2 C n a w hC (h0 C n a w hC hs)⟩ ?_
    rintro k a1 w1 ⟨y, rfl, hsat⟩
    refine wp_mono (ih _ _ _ _ _ _ _ hx hsat (hround y)) fun e a' w' hq => ?_
    cases e with
    | normal =>
      obtain ⟨s', h1, s2, h2, y', h3, h4, h5⟩ := hq
      exact ⟨μ y', h5, y', rfl, Ent.st h3 h4 C n a' w' hC (h2 C n a' w' hC h1)⟩
    | exit j => exact hq
    | ret => exact hq
    | _ => exact hq.elim
  | exit id =>
    intro ac s a w N X R ht hs hK
    simp only [trC, Option.some.injEq] at ht
    subst ht
    exact wp_exit ⟨s, hs, hK⟩
  | ret =>
    intro ac s a w N X R ht hs hK
    simp only [trC, Option.some.injEq] at ht
    subst ht
    exact wp_ret ⟨s, hs, hK⟩
  | scope x ih =>
    intro ac s a w N X R ht hs hK
    simp only [trC] at ht
    refine wp_scope_straight (wp_mono (ih _ _ _ _ _ _ _ ht hs hK) fun e a' w' hq => ?_)
    cases e with
    | normal => exact hq
    | exit j => exact hq
    | ret => exact hq
    | _ => exact hq.elim
  | _ => intro ac s a w N X R ht; simp [trC] at ht

/-! results -/
inductive RV where
  | t (i : Nat)
  | c1 (i : Nat)
  | cn (i n : Nat)
def trR (P : Program) : ResultVar → Option RV
  | .tmp t => some (.t t)
  | .cell a T => match isAggT P T, szT P T with
    | some true, some n => some (.cn a n)
    | some false, _ => some (.c1 a)
    | _, _ => none
def trRs (P : Program) : List ResultVar → Option (List RV)
  | [] => some []
  | r :: l => match trR P r, trRs P l with
    | some a, some m => some (a :: m)
    | _, _ => none
def resV (s : S) : List RV → (List V → Prop) → Prop
  | [], K => K []
  | .t i :: l, K => resV s l fun vs => K (s.t i :: vs)
  | .c1 i :: l, K => load1V s.h (s.t i) fun v => resV s l fun vs => K (v :: vs)
  | .cn i n :: l, K => loadnV s.h n (s.t i) fun v => resV s l fun vs => K (v :: vs)
def oneV : List V → V
  | [v] => v
  | vs => .tup vs
/-- what a function's end asks: the results, and which objects are handed back -/
def fin (rv : List RV) (post : V → Hp → Prop) (s : S) : Prop :=
  ∃ s', Ent s s' ∧ resV s' rv fun vs => Fz (oneV vs) ∧ ∃ h', (∀ k o, h' k = some o → s'.h k = some o ∧ o.Fz) ∧ post (oneV vs) h'

section
variable {P : Program} {C : Ctx} {F : Nat → Prop} {n : Nat} {w : World} {a : Act} {s : S}

def resRun (tmps : Array Value) (r : ResultVar) : Sem Value := match r with
  | .tmp t => pure (tmps.getD t undef)
  | .cell a t => do loadVar t (← asAddr (tmps.getD a undef))

theorem res_run (hh : HSat C F s.h w) (hr : ∀ i : Nat, Rel F C.B w (s.t i) (a.tmps.getD i undef)) : ∀ (rs : List ResultVar) (rv : List RV) (K : List V → Prop), trRs P rs = some rv → resV s rv K →
    ∃ vs us, (rs.mapM (resRun a.tmps)).run P w = .ok us w ∧ us.length = vs.length ∧ (∀ (i : Nat) (v : V) (u : Value), vs[i]? = some v → us[i]? = some u → Rel F C.B w v u) ∧ K vs := by
  intro rs
  induction rs with
  | nil =>
    intro rv K ht hK
    simp only [trRs, Option.some.injEq] at ht
    subst ht
    exact ⟨[], [], by simp [Sem.run_pure], rfl, by simp, hK⟩
  | cons r rs ih =>
    intro rv K ht hK
    simp only [trRs] at ht
    split at ht
    · rename_i x m hx hm
      cases ht
      have cons : ∀ (v : V) (u : Value), (resRun a.tmps r).run P w = .ok u w → Rel F C.B w v u → resV s m (fun vs => K (v :: vs)) →
          ∃ vs us, ((r :: rs).mapM (resRun a.tmps)).run P w = .ok us w ∧ us.length = vs.length ∧ (∀ (i : Nat) (v : V) (u : Value), vs[i]? = some v → us[i]? = some u → Rel F C.B w v u) ∧ K vs := by
        intro v u hu hv hk
        obtain ⟨vs, us, h1, h2, h3, h4⟩ := ih m _ hm hk
        refine ⟨v :: vs, u :: us, ?_, by simp [h2], fun i v' u' hv' hu' => ?_, h4⟩
        · rw [List.mapM_cons]
          simp only [Sem.run_bind, hu, Result.andThen_ok, h1, Sem.run_pure]
        · cases i with
          | zero => simp at hv' hu'; subst hv' hu'; exact hv
          | succ i => exact h3 i v' u' (by simpa using hv') (by simpa using hu')
      cases r with
      | tmp t =>
        simp only [trR, Option.some.injEq] at hx
        subst hx
        exact cons (s.t t) (a.tmps.getD t undef) (by simp only [resRun, Sem.run_pure]) (hr t) hK
      | cell ad T =>
        simp only [trR] at hx
        split at hx
        · rename_i n hg hn
          cases hx
          obtain ⟨ad', v, u, hu, hrun, hv, hk⟩ := loadn_core (T := T) hg hn hh (hr ad) hK
          exact cons v u (by simp only [resRun, hu, asAddr, Sem.run_bind, Sem.run_pure, Result.andThen_ok, hrun]) hv hk
        · rename_i hg
          cases hx
          obtain ⟨ad', v, u, hu, hrun, hv, hk⟩ := load1_core (T := T) hg hh (hr ad) hK
          exact cons v u (by simp only [resRun, hu, asAddr, Sem.run_bind, Sem.run_pure, Result.andThen_ok, hrun]) hv hk
        · cases hx
    · cases ht

theorem results_eq (fn : Func) (tmps : Array Value) : results fn tmps = (do let vs ← fn.results.mapM (resRun tmps); pure (if h : vs.size = 1 then vs[0] else .tuple vs)) := rfl
theorem results_run {fn : Func} {us : List Value} (h : (fn.results.toList.mapM (resRun a.tmps)).run P w = .ok us w) : (results fn a.tmps).run P w = .ok (if h : us.toArray.size = 1 then us.toArray[0] else .tuple us.toArray) w := by
  rw [results_eq, Array.mapM_eq_mapM_toList]
  simp only [Sem.run_bind, Sem.run_map, h, Result.andThen_ok, Sem.run_pure]

/-- the slots at a call's begin -/
def sl0 : List V → Nat → V
  | [], _ => .junk
  | v :: _, 0 => v
  | _ :: l, i + 1 => sl0 l i
theorem sl0_eq : ∀ (l : List V) (i : Nat), sl0 l i = l.getD i .junk
  | [], _ => by simp [sl0]
  | v :: l, 0 => by simp [sl0]
  | v :: l, i + 1 => by rw [sl0, sl0_eq l i]; simp
def S0 (args : List V) (hp : Hp) : S := ⟨sl0 args, hp⟩

theorem spec_of {f : Nat} {fn : Func} {c : Code} {ac : AC} {rv : List RV} {args : List V} {hp : Hp} {post : V → Hp → Prop} {D : Array Oper → List AO → Bool} (hD : DrawOk P D) (hf : P.funcs[f]? = some fn) (hname : fn.name ≠ "runtime.NumGoroutine") (hb : fn.body = some c) (hc : trC P fn.ntmps D c = some ac) (hrv : trRs P fn.results.toList = some rv)
    (hn : args.length ≤ fn.ntmps) (hK : awp std (CallE P) (CallP P) ac (S0 args hp) (fin rv post) (fun _ _ => False) (fin rv post)) : Spec P f args hp post := by
  refine ⟨⟨fn, hf, hname, c, hb⟩, fun C us hC hl hargs hhp => ?_⟩
  refine calls_of_wp hf hb ?_
  have hs0 : HSat C C.F0 hp C.w0 := ⟨fun k o hk => (hhp.ob k o hk).mono (fun _ h => h) (fun _ h => h.elim), hhp.inj, hhp.live, hhp.old, hhp.new, hhp.lt, hhp.ev⟩
  have hsat : Sat C fn.ntmps (S0 args hp) { tmps := us ++ Array.replicate (fn.ntmps - us.size) undef, defers := [] } C.w0 := by
    refine ⟨⟨C.F0, hs0, fun i => ?_⟩, rfl, by simp; omega⟩
    simp only [S0, sl0_eq]
    by_cases hi : i < args.length
    · have hi' : i < us.size := by omega
      have h1 : args[i]? = some (args.getD i .junk) := by rw [List.getD_eq_getElem?_getD, List.getElem?_eq_getElem hi]; rfl
      have h2 : us[i]? = some ((us ++ Array.replicate (fn.ntmps - us.size) undef).getD i undef) := by
        simp [hi', Array.getElem?_append_left]
      exact hargs i _ _ h1 h2
    · have h1 : args.getD i .junk = .junk := by rw [List.getD_eq_getElem?_getD, List.getElem?_eq_none (by omega)]; rfl
      rw [h1]
      exact .junk _
  refine wp_mono (awp_sound hD hC c ac _ _ _ _ _ _ hc hsat hK) fun e a' w' hq => ?_
  have last : (∃ s, Sat C fn.ntmps s a' w' ∧ fin rv post s) → a'.defers = [] ∧ ∃ v, (results fn a'.tmps).run P w' = .ok v w' ∧ ∃ u v_1 h' F', Ending.returned v = .returned u ∧ Rel F' (fun _ => False) w' v_1 u ∧ HSat C.nb F' h' w' ∧ post v_1 h' := by
    rintro ⟨s1, hs1, s2, hent, hres⟩
    have hs2 := hent C _ a' w' hC hs1
    obtain ⟨F, hh, hr⟩ := hs2.ex
    obtain ⟨vs, us', h1, h2, h3, h4, h', h5, h6⟩ := res_run hh hr _ _ _ hrv hres
    refine ⟨hs2.df, _, results_run h1, _, oneV vs, h', F, rfl, ?_, ⟨fun k o hk => ?_, fun k k' o o' b hk hk' => hh.inj k k' o o' b (h5 k o hk).1 (h5 k' o' hk').1, fun k o b hk => hh.live k o b (h5 k o hk).1, hh.old, hh.new, hh.lt, hh.ev⟩, h6⟩
    · refine Rel.fz (B := C.B) ?_ h4
      match vs, us', h2, h3 with
      | [], [], _, _ => exact .tup _ _ rfl (by simp)
      | [v], [u], _, h3 => exact h3 0 v u rfl rfl
      | v1 :: v2 :: vs, u1 :: u2 :: us', h2, h3 =>
        have hne : ¬ ((u1 :: u2 :: us').toArray.size = 1) := by simp
        rw [dif_neg hne]
        exact .tup _ _ (by simpa using h2) fun i v u hv hu => h3 i v u hv (by simpa using hu)
    · exact (hh.ob k o (h5 k o hk).1).fz (h5 k o hk).2
  cases e with
  | normal => exact last hq
  | ret => exact last hq
  | exit j => obtain ⟨_, _, h⟩ := hq; exact h.elim
  | _ => exact hq.elim
end
end Go.Proofs.Ytobngncjflogcaa.AM

/-
  The plain machine: loops, ends, and what is read off a text.
-/
set_option linter.unusedVariables false
set_option linter.unusedSimpArgs false
namespace Go.Proofs.Ytobngncjflogcaa.AM
open Go

/-- a slice that is nil becomes an object of the call's own -/
def S.nil (s : S) (i k ty sz : Nat) : S := ⟨upd s.t i (.own k none sz 0), s.h.put k ⟨none, ty, sz, []⟩⟩
theorem Ent.nil {s : S} {i k ty sz : Nat} (hi : s.t i = .nilsl) (hk : s.h k = none) : Ent s (s.nil i k ty sz) := by
  intro C n a w hC hs
  obtain ⟨F, h1, h2⟩ := hs.ex
  refine ⟨⟨F, h1.step hC (L := fun _ => False) (Ev.refl _ _) (fun _ _ h => h.elim) (show ObSat F C.B w ⟨none, ty, sz, []⟩ from rfl) (fun b hb => by cases hb), fun j => ?_⟩, hs.df, hs.sz⟩
  simp only [S.nil, upd]
  by_cases hj : j = i
  · rw [if_pos hj]
    have := h2 i
    rw [hi] at this
    rw [hj]
    generalize a.tmps.getD i undef = u at this
    cases this
    exact .ownnil _ _
  · rw [if_neg hj]; exact h2 j

/-- an object of the call's own changes no more: whoever reads it has its rows -/
def V.frz (k : Nat) (o : Ob) : V → V
  | .own j b sz n => if j = k ∧ b = o.b ∧ sz = o.sz ∧ n ≤ o.rows.length then .sl false sz (o.rows.take n) else .own j b sz n
  | v => v
def V.frzA (k : Nat) (o : Ob) : V → V
  | .agg cs => .agg (cs.map (V.frz k o))
  | v => v.frz k o
def S.frz (s : S) (k : Nat) : S := match s.h k with
  | some o => ⟨fun i => (s.t i).frzA k o, fun j => if j = k then none else (s.h j).map fun q => { q with rows := q.rows.map (·.map (V.frz k o)) }⟩
  | none => s

/-- a loop: its live slots and objects at each round's head, of a ghost; a measure -/
theorem awp_loop {p : Prim} {T T1 : CallT} {x : AC} {s : S} {N : S → Prop} {X : Nat → S → Prop} {R : S → Prop} (Y : Type) (L : Y → List (Nat × V)) (H : Y → List (Nat × Ob)) (μ : Y → Nat) (y0 : Y) (hl : agree (L y0) s) (hh : agreeH (H y0) s)
    (hb : ∀ y, awp p T T1 x (St (L y) (H y)) (Next L H μ y) X R) : awp p T T1 (.loop x) s N X R := ⟨Y, L, H, μ, ⟨s, Ent.refl s, y0, hl, hh⟩, hb⟩
theorem awp_loop_ent {p : Prim} {T T1 : CallT} {x : AC} {s : S} {N : S → Prop} {X : Nat → S → Prop} {R : S → Prop} (s1 : S) (he : Ent s s1) (Y : Type) (L : Y → List (Nat × V)) (H : Y → List (Nat × Ob)) (μ : Y → Nat) (y0 : Y) (hl : agree (L y0) s1) (hh : agreeH (H y0) s1)
    (hb : ∀ y, awp p T T1 x (St (L y) (H y)) (Next L H μ y) X R) : awp p T T1 (.loop x) s N X R := ⟨Y, L, H, μ, ⟨s1, he, y0, hl, hh⟩, hb⟩
theorem Next.intro {Y : Type} {L : Y → List (Nat × V)} {H : Y → List (Nat × Ob)} {μ : Y → Nat} {y : Y} {s : S} (y' : Y) (hl : agree (L y') s) (hh : agreeH (H y') s) (hm : μ y' < μ y) : Next L H μ y s := ⟨s, Ent.refl s, y', hl, hh, hm⟩

/-! a function's contract out of its text -/
structure FnOk (P : Program) (f : Nat) (fn : Func) (ac : AC) (rv : List RV) (n : Nat) (D : Array Oper → List AO → Bool) : Prop where
  func : P.funcs[f]? = some fn
  name : fn.name ≠ "runtime.NumGoroutine"
  body : fn.body.bind (trC P fn.ntmps D) = some ac
  res : trRs P fn.results.toList = some rv
  args : n ≤ fn.ntmps
/-- the results are these -/
def Ret (rv : List RV) (vs : List V) (s : S) : Prop := resV s rv fun x => x = vs
/-- what is answered, and no object is handed back -/
def Is (v : V) : V → Hp → Prop := fun x h => x = v ∧ h = Hp.emp

theorem spec_pure {P : Program} {f : Nat} {fn : Func} {ac : AC} {rv : List RV} {args : List V} {D : Array Oper → List AO → Bool} (hD : DrawOk P D) (ok : FnOk P f fn ac rv args.length D) (vs : List V) (hz : Fz (oneV vs))
    (h : ∀ R, (∀ s s', Ent s s' → Ret rv vs s' → R s) → awp std (CallE P) (CallP P) ac (S0 args Hp.emp) R (fun _ _ => False) R) : Spec P f args Hp.emp (Is (oneV vs)) := by
  obtain ⟨c, hc, hac⟩ := Option.bind_eq_some_iff.1 ok.body
  refine spec_of hD ok.func ok.name hc hac ok.res ok.args (h _ fun s s' he hr => ⟨s', he, ?_⟩)
  unfold Ret at hr
  have mono : ∀ (rv : List RV) (K K' : List V → Prop), (∀ x, K x → K' x) → resV s' rv K → resV s' rv K' := by
    intro rv
    induction rv with
    | nil => intro K K' hK h; exact hK _ h
    | cons r rv ih =>
      intro K K' hK h
      cases r with
      | t i => exact ih _ _ (fun x hx => hK _ hx) h
      | c1 i =>
        simp only [resV] at h ⊢
        unfold load1V at h ⊢
        split at h
        · unfold rowC at h ⊢
          split at h
          · obtain ⟨a1, a2, a3, a4, a5⟩ := h
            exact ⟨a1, a2, a3, a4, ih _ _ (fun x hx => hK _ hx) a5⟩
          · exact h.elim
        · exact ⟨h.1, ih _ _ (fun x hx => hK _ hx) h.2⟩
        · exact h.elim
      | cn i n =>
        simp only [resV] at h ⊢
        unfold loadnV at h ⊢
        split at h
        · unfold rowC at h ⊢
          split at h
          · obtain ⟨a1, a2, a3, a4, a5⟩ := h
            exact ⟨a1, a2, a3, a4, ih _ _ (fun x hx => hK _ hx) a5⟩
          · exact h.elim
        · exact ⟨h.1, ih _ _ (fun x hx => hK _ hx) h.2⟩
        · exact h.elim
  exact mono rv _ _ (fun x hx => by subst hx; exact ⟨hz, Hp.emp, by simp [Hp.emp], rfl, rfl⟩) hr

/-- a call that only answers -/
theorem call_pure {P : Program} {f : Nat} {args args' : List V} {v : V} {h : Hp} {K : V → Hp → Prop} (hs : Spec P f args' Hp.emp (Is v)) (ha : Args h [] args args') (hK : K (v.ren (lab [])) h) : CallW P f args h K :=
  ⟨[], args', Hp.emp, Is v, hs, ha, by simp [Hp.emp], by simp, by rintro v' h' ⟨rfl, rfl⟩; exact hK⟩
theorem call_pureP {P : Program} {f : Nat} {args args' : List V} {v : V} {h : Hp} {K : V → Hp → Prop} (hs : Spec P f args' Hp.emp (Is v)) (ha : Args h [] args args') (hK : K (v.ren (lab [])) h) : CallP P f args h K :=
  ⟨[], args', Hp.emp, v, ⟨hs.fn, fun C us a b c d => (hs.run C us a b c d).mono (by rintro e w' ⟨u, v', h', F', e1, e2, e3, rfl, rfl⟩; exact ⟨u, v', _, F', e1, e2, e3, rfl, rfl⟩)⟩, ha, by simp [Hp.emp], by simp, hK⟩
/-- a call of either kind that only answers -/
def Ans (T : CallT) (f : Nat) (args : List V) (v : V) : Prop := ∀ (h : Hp) (K : V → Hp → Prop), K v h → T f args h K
theorem ansW {P : Program} {f : Nat} {args args' : List V} {v : V} (hs : Spec P f args' Hp.emp (Is v)) (ha : ∀ h, Args h [] args args') (hv : v.ren (lab []) = v) : Ans (CallE P) f args v := fun h K hK => ⟨h, fun _ F _ _ hs => ⟨F, fun _ h => h, hs⟩, call_pure hs (ha h) (by rw [hv]; exact hK)⟩
theorem ansP {P : Program} {f : Nat} {args args' : List V} {v : V} (hs : Spec P f args' Hp.emp (Is v)) (ha : ∀ h, Args h [] args args') (hv : v.ren (lab []) = v) : Ans (CallP P) f args v := fun h K hK => call_pureP hs (ha h) (by rw [hv]; exact hK)
end Go.Proofs.Ytobngncjflogcaa.AM

/-
  Regions that draw their order: operations that do not meddle with each other may be carried out in the text's order.
-/
set_option linter.unusedVariables false
set_option linter.unusedSimpArgs false
namespace Go.Proofs.Ytobngncjflogcaa.AM
open Go

/-- the operands of an operation -/
def AOp.opds : AOp → List Opd
  | .mov x => [x]
  | .pick c a b => [c, a, b]
  | .alloc _ _ => []
  | .box _ _ x => [x]
  | .build _ ps => ps.map (·.2.2)
  | .bslice _ _ ps => ps
  | .load1 x => [x]
  | .loadn _ x => [x]
  | .store _ x v => [x, v]
  | .nilchk x => [x]
  | .bin _ x y => [x, y]
  | .eqb _ x y => [x, y]
  | .eqp _ x y => [x, y]
  | .eqn _ x => [x]
  | .eqs _ _ x y => [x, y]
  | .not x => [x]
  | .conv _ x => [x]
  | .mkslice _ _ _ _ l c => [l, c]
  | .slstr x lo hi => x :: (lo.toList ++ hi.toList)
  | .slsl _ x lo hi => x :: (lo.toList ++ hi.toList)
  | .faddr _ x => [x]
  | .fld1 _ x => [x]
  | .fldn _ _ x => [x]
  | .iaddr _ x i => [x, i]
  | .iarr _ _ x i => [x, i]
  | .ixs x i => [x, i]
  | .ext _ x => [x]
  | .len _ x => [x]
  | .mm _ x y => [x, y]
  | .append _ _ _ x y => [x, y]
  | .call _ xs => xs
  | .callv x xs => x :: xs
  | .mkfn _ xs => xs
  | .convbs x => [x]
  | .dead => []
  | .ixa _ _ _ x i => [x, i]

theorem aopP_congr {p : Prim} {T : CallT} {op : AOp} {ev ev' : Opd → V} {h : Hp} {k : Nat} {K : V → Hp → Prop} (he : ∀ x ∈ op.opds, ev x = ev' x) : aopP p T op ev h k K = aopP p T op ev' h k K := by
  cases op <;> simp only [AOp.opds] at he <;> simp only [aopP]
  case build z ps =>
    have e : ∀ q ∈ ps, ev q.2.2 = ev' q.2.2 := fun q hq => he _ (List.mem_map.2 ⟨q, hq, rfl⟩)
    have e1 : (ps.all fun q => fitsB q.2.1 (ev q.2.2)) = ps.all fun q => fitsB q.2.1 (ev' q.2.2) := by
      rw [Bool.eq_iff_iff, List.all_eq_true, List.all_eq_true]
      exact ⟨fun h q hq => by rw [← e q hq]; exact h q hq, fun h q hq => by rw [e q hq]; exact h q hq⟩
    have e2 : (ps.map fun q => (q.1, (ev q.2.2).cells)) = ps.map fun q => (q.1, (ev' q.2.2).cells) := List.map_congr_left fun q hq => by rw [e q hq]
    rw [e1, e2]
  case bslice ty sz ps =>
    have e1 : (ps.all fun q => fitsB sz (ev q)) = ps.all fun q => fitsB sz (ev' q) := by
      rw [Bool.eq_iff_iff, List.all_eq_true, List.all_eq_true]
      exact ⟨fun h q hq => by rw [← he q hq]; exact h q hq, fun h q hq => by rw [he q hq]; exact h q hq⟩
    have e2 : (ps.map fun q => (ev q).cells) = ps.map fun q => (ev' q).cells := List.map_congr_left fun q hq => by rw [he q hq]
    rw [e1, e2]
  case call f xs => rw [List.map_congr_left he]
  case mkfn f xs => rw [List.map_congr_left he]
  case callv x xs => rw [he x (by simp), List.map_congr_left fun q hq => he q (by simp [hq])]
  case slstr x lo hi =>
    rw [he x (by simp)]
    cases lo <;> cases hi <;> simp_all
  case slsl sz x lo hi =>
    rw [he x (by simp)]
    cases lo <;> cases hi <;> simp_all
  all_goals (simp_all)

def AOp.isPure : AOp → Bool
  | .mov _ | .pick .. | .build .. | .nilchk _ | .bin .. | .eqb .. | .eqp .. | .not _ | .conv .. | .slstr .. | .slsl .. | .faddr .. | .fld1 .. | .fldn .. | .iaddr .. | .iarr .. | .ixs .. | .ext .. | .mm .. => true
  | .len .. => true
  | .eqs .. => true
  | .mkfn .. => true
  | _ => false
def AOp.isRead : AOp → Bool
  | .load1 _ | .loadn .. => true
  | _ => false

/-- a question that has one answer -/
def Det (Φ : (V → Prop) → Prop) : Prop := ∀ K, Φ K → ∃ v, K v ∧ ∀ K2, (Φ K2 ↔ K2 v)
theorem Det.unit (v : V) : Det fun K => K v := fun K h => ⟨v, h, fun _ => Iff.rfl⟩
theorem Det.no : Det fun _ => False := fun K h => h.elim
theorem Det.and {A : Prop} {Φ : (V → Prop) → Prop} (h : Det Φ) : Det fun K => A ∧ Φ K := fun K ⟨a, hk⟩ => by
  obtain ⟨v, h1, h2⟩ := h K hk
  exact ⟨v, h1, fun K2 => ⟨fun hh => (h2 K2).1 hh.2, fun hh => ⟨a, (h2 K2).2 hh⟩⟩⟩
theorem Det.ex {α : Type} {A : α → Prop} {Φ : α → (V → Prop) → Prop} (hu : ∀ x y, A x → A y → x = y) (h : ∀ x, Det (Φ x)) : Det fun K => ∃ x, A x ∧ Φ x K := fun K ⟨x, a, hk⟩ => by
  obtain ⟨v, h1, h2⟩ := h x K hk
  exact ⟨v, h1, fun K2 => ⟨fun ⟨y, b, hh⟩ => by rw [hu y x b a] at hh; exact (h2 K2).1 hh, fun hh => ⟨x, a, (h2 K2).2 hh⟩⟩⟩
theorem Det.arith (k : IntKind) (n : Int) : Det (arithP std k n) := by
  cases k <;> first | exact Det.unit _ | exact Det.and (Det.unit _)
theorem Det.bin (op : BinOp) (x y : V) : Det (binP std op x y) := by
  cases x <;> cases y <;> try (cases op <;> exact Det.no)
  case int.int k a k' b =>
    cases op <;> first | exact Det.no | exact Det.and (Det.arith _ _) | exact Det.and (Det.and (Det.and (Det.arith _ _))) | exact Det.and (Det.and (Det.and (Det.unit _))) | exact Det.and (Det.and (Det.arith _ _)) | exact Det.and (Det.and (Det.unit _)) | exact Det.and (Det.unit _)
  case str.str a b =>
    cases op <;> first | exact Det.no | exact Det.and (Det.unit _) | exact Det.unit _
theorem Det.len (s : Bool) (x : V) : Det (lenP std s x) := by
  cases s <;> cases x <;> first | exact Det.no | exact Det.unit _
theorem Det.eqb (n : Bool) (x y : V) : Det (eqbK n x y) := by
  cases x <;> cases y <;> first | exact Det.no | exact Det.unit _
theorem Det.eqp (n : Bool) (x y : V) : Det (eqpK n x y) := by
  unfold eqpK
  cases eqP x y with
  | none => exact Det.no
  | some b => exact Det.unit _
theorem Det.c1 {t : Nat} {x y : V} {Φ : Bool → (V → Prop) → Prop} (h : ∀ b, Det (Φ b)) : Det fun K => eqC1 std t x y fun b => Φ b K := by
  unfold eqC1
  split
  · exact h _
  · exact Det.and (h _)
  · exact h _
  · exact Det.no
theorem Det.cs : ∀ {ts : List Nat} {cs ds : List V} {Φ : Bool → (V → Prop) → Prop}, (∀ b, Det (Φ b)) → Det fun K => eqCs std ts cs ds fun b => Φ b K
  | [], [], [], Φ, h => h true
  | [t], [a], [b], Φ, h => Det.c1 h
  | t :: t2 :: ts, a :: l, b :: m, Φ, h => Det.c1 fun x => Det.cs fun y => h _
  | [t], a :: a2 :: l, b :: m, Φ, h => Det.c1 fun x => Det.no
  | [t], [a], b :: b2 :: m, Φ, h => Det.c1 fun x => Det.no
  | [], _ :: _, _, Φ, h => by simp only [eqCs]; exact Det.no
  | [], [], _ :: _, Φ, h => by simp only [eqCs]; exact Det.no
  | _ :: _, [], _, Φ, h => by simp only [eqCs]; exact Det.no
  | _ :: _, _ :: _, [], Φ, h => by simp only [eqCs]; exact Det.no
theorem Det.eqs (n : Bool) (ts : List Nat) (x y : V) : Det (eqsP std n ts x y) := by
  cases x <;> cases y <;> try exact Det.no
  cases n
  · exact Det.cs (Φ := fun b K => K (.bool b)) fun b => Det.unit _
  · refine Det.cs (Φ := fun b K => br b (fun _ => K (.bool false)) (fun _ => K (.bool true))) fun b => ?_
    cases b
    · exact Det.unit (.bool true)
    · exact Det.unit (.bool false)
theorem Det.nth (cs : List V) (i : Nat) : Det (nthC cs i) := Det.and (Det.unit _)
theorem Det.lo {lo : Option V} {Φ : Int → (V → Prop) → Prop} (h : ∀ a, Det (Φ a)) : Det fun K => loV lo fun a => Φ a K := by
  cases lo with
  | none => exact h 0
  | some v => cases v <;> first | exact h _ | exact Det.no
theorem Det.hi {hi : Option V} {n : Int} {Φ : Int → (V → Prop) → Prop} (h : ∀ a, Det (Φ a)) : Det fun K => hiP std hi n fun a => Φ a K := by
  cases hi with
  | none => exact h n
  | some v => cases v <;> first | exact h _ | exact Det.no

theorem of_det {T : CallT} {op : AOp} {ev : Opd → V} {h : Hp} {k : Nat} {K : V → Hp → Prop} {Φ : (V → Prop) → Prop} (hd : Det Φ) (he : ∀ h2 k2 (K2 : V → Hp → Prop), aopP std T op ev h2 k2 K2 = Φ fun v => K2 v h2) (hh : aopP std T op ev h k K) :
    ∃ v, K v h ∧ ∀ h2 k2 (K2 : V → Hp → Prop), (aopP std T op ev h2 k2 K2 ↔ K2 v h2) := by
  rw [he] at hh
  obtain ⟨v, h1, h2⟩ := hd _ hh
  exact ⟨v, h1, fun g k2 K2 => by rw [he]; exact h2 _⟩

/-- a pure operation: one value, whatever lies in memory -/
theorem pure_det {T : CallT} {op : AOp} {ev : Opd → V} {h : Hp} {k : Nat} {K : V → Hp → Prop} (hp : op.isPure = true) (hh : aopP std T op ev h k K) :
    ∃ v, K v h ∧ ∀ h2 k2 (K2 : V → Hp → Prop), (aopP std T op ev h2 k2 K2 ↔ K2 v h2) := by
  cases op <;> try (cases hp; done)
  case mov x => exact of_det (Det.unit (ev x)) (fun _ _ _ => rfl) hh
  case pick c a b =>
    cases hc : ev c <;> try (simp only [aopP, hc] at hh; done)
    case bool t =>
      cases t
      · exact of_det (Det.unit (ev b)) (fun _ _ _ => by simp only [aopP, hc]) hh
      · exact of_det (Det.unit (ev a)) (fun _ _ _ => by simp only [aopP, hc]) hh
  case build z ps => exact of_det (Det.and (Det.unit _)) (fun _ _ _ => rfl) hh
  case nilchk x =>
    cases hc : ev x <;> try (simp only [aopP, hc] at hh; done)
    all_goals exact of_det (Det.unit (ev x)) (fun _ _ _ => by simp only [aopP, hc]) hh
  case bin op x y => exact of_det (Det.bin op (ev x) (ev y)) (fun _ _ _ => rfl) hh
  case eqb n x y => exact of_det (Det.eqb n (ev x) (ev y)) (fun _ _ _ => rfl) hh
  case eqp n x y => exact of_det (Det.eqp n (ev x) (ev y)) (fun _ _ _ => rfl) hh
  case eqs n ts x y => exact of_det (Det.eqs n ts (ev x) (ev y)) (fun _ _ _ => rfl) hh
  case mkfn f xs => exact of_det (Det.unit (.fn f (xs.map ev))) (fun _ _ _ => rfl) hh
  case not x =>
    cases hc : ev x <;> try (simp only [aopP, hc] at hh; done)
    case bool t =>
      cases t
      · exact of_det (Det.unit (.bool true)) (fun _ _ _ => by simp only [aopP, hc, br]) hh
      · exact of_det (Det.unit (.bool false)) (fun _ _ _ => by simp only [aopP, hc, br]) hh
  case conv kd x =>
    cases hc : ev x <;> try (simp only [aopP, hc] at hh; done)
    case int k n => exact of_det (Det.unit (.int kd (std.wrap kd n))) (fun _ _ _ => by simp only [aopP, hc]) hh
  case slstr x lo hi =>
    cases hc : ev x <;> try (simp only [aopP, hc] at hh; done)
    case str l => exact of_det (Det.lo (lo := lo.map ev) fun a => Det.hi (hi := hi.map ev) (n := std.slen l) fun b => Det.and (A := std.leP 0 a) (Det.and (A := std.leP a b) (Det.and (A := std.leP b (std.slen l)) (Det.unit (.str (std.ssub l a b)))))) (fun _ _ _ => by simp only [aopP, hc]) hh
  case slsl sz x lo hi =>
    cases hc : ev x <;> try (simp only [aopP, hc] at hh; done)
    case sl t sz' rows => exact of_det (Det.and (A := sz' = sz) (Det.lo (lo := lo.map ev) fun a => Det.hi (hi := hi.map ev) (n := std.rlen rows) fun b => Det.and (A := std.leP 0 a) (Det.and (A := std.leP a b) (Det.and (A := std.leP b (std.rlen rows)) (Det.unit (.sl t sz (std.rsub rows a b))))))) (fun _ _ _ => by simp only [aopP, hc]) hh
    case own j bk sz' n => exact of_det (Det.and (A := sz' = sz) (Det.lo (lo := lo.map ev) fun a => Det.hi (hi := hi.map ev) (n := std.int n) fun b => Det.and (A := std.leP 0 a) (Det.and (A := std.leP a b) (Det.and (A := std.leP b (std.int n)) (Det.unit (.win j bk sz a b)))))) (fun _ _ _ => by simp only [aopP, hc]) hh
  case faddr off x =>
    cases hc : ev x <;> try (simp only [aopP, hc] at hh; done)
    case ptr j b sz i o => exact of_det (Det.unit (.ptr j b sz i (o + off))) (fun _ _ _ => by simp only [aopP, hc]) hh
    case rp t cs => exact of_det (Det.unit (.rp t (cs.drop off))) (fun _ _ _ => by simp only [aopP, hc]) hh
  case fld1 off x =>
    cases hc : ev x <;> try (simp only [aopP, hc] at hh; done)
    case agg cs => exact of_det (Det.nth cs off) (fun _ _ _ => by simp only [aopP, hc]) hh
  case fldn off n x =>
    cases hc : ev x <;> try (simp only [aopP, hc] at hh; done)
    case agg cs => exact of_det (Det.and (A := off + n ≤ cs.length) (Det.unit (.agg ((cs.drop off).take n)))) (fun _ _ _ => by simp only [aopP, hc]) hh
  case iaddr sz x i =>
    cases hi : ev i <;> try (cases hc : ev x <;> simp only [aopP, hc, hi] at hh; done)
    case int ki ii =>
      cases hc : ev x <;> try (simp only [aopP, hc, hi] at hh; done)
      case sl t sz' rows =>
        refine of_det (Det.and (A := sz' = sz) (Det.and (A := std.leP 0 ii) (Det.ex (A := fun r => std.row rows (std.nat ii) r) (Φ := fun r K => K (.rp t r)) (fun x y h1 h2 => ?_) fun r => Det.unit _))) (fun _ _ _ => by simp only [aopP, hc, hi]) hh
        exact Option.some.inj ((Eq.symm h1).trans h2)
      case own j b sz' n => exact of_det (Det.and (A := sz' = sz) (Det.and (A := std.leP 0 ii) (Det.and (A := std.ltP ii (std.int n)) (Det.unit (.ptr j b sz (std.nat ii) 0))))) (fun _ _ _ => by simp only [aopP, hc, hi]) hh
      case win j b sz' lo hi2 => exact of_det (Det.and (A := sz' = sz) (Det.and (A := std.leP 0 ii) (Det.and (A := std.ltP ii (std.sub hi2 lo)) (Det.unit (.ptr j b sz (std.nat (std.add lo ii)) 0))))) (fun _ _ _ => by simp only [aopP, hc, hi]) hh
  case iarr len sz x i =>
    cases hi : ev i <;> try (cases hc : ev x <;> simp only [aopP, hc, hi] at hh; done)
    case int ki ii =>
      cases hc : ev x <;> try (simp only [aopP, hc, hi] at hh; done)
      case ptr j b sz' r off => exact of_det (Det.and (A := std.leP 0 ii) (Det.and (A := std.ltP ii len) (Det.ex (A := fun n => std.nat ii = n) (Φ := fun n K => K (.ptr j b sz' r (off + n * sz))) (fun x y h1 h2 => h1.symm.trans h2) fun n => Det.unit _))) (fun _ _ _ => by simp only [aopP, hc, hi]) hh
      case rp t cs => exact of_det (Det.and (A := std.leP 0 ii) (Det.and (A := std.ltP ii len) (Det.ex (A := fun n => std.nat ii = n) (Φ := fun n K => K (.rp t (cs.drop (n * sz)))) (fun x y h1 h2 => h1.symm.trans h2) fun n => Det.unit _))) (fun _ _ _ => by simp only [aopP, hc, hi]) hh
  case ixs x i =>
    cases hi : ev i <;> try (cases hc : ev x <;> simp only [aopP, hc, hi] at hh; done)
    case int ki ii =>
      cases hc : ev x <;> try (simp only [aopP, hc, hi] at hh; done)
      case str l => exact of_det (Det.and (A := std.leP 0 ii) (Det.and (A := std.ltP ii (std.slen l)) (Det.unit (.int .u8 (std.sat l ii))))) (fun _ _ _ => by simp only [aopP, hc, hi]) hh
  case ext i x =>
    cases hc : ev x <;> try (simp only [aopP, hc] at hh; done)
    case tup vs => exact of_det (Det.and (A := i < vs.length) (Det.unit (vs.getD i .junk))) (fun _ _ _ => by simp only [aopP, hc]) hh
  case len s x => exact of_det (Det.len s (ev x)) (fun _ _ _ => rfl) hh
  case mm mx x y =>
    cases mx <;> cases hi : ev y <;> try (cases hc : ev x <;> simp only [aopP, hc, hi] at hh; done)
    all_goals
      rename_i k' b
      cases hc : ev x <;> try (simp only [aopP, hc, hi] at hh; done)
    all_goals rename_i k a
    · exact of_det (Det.and (A := k = k') (Det.unit (.int k (std.mn a b)))) (fun _ _ _ => by simp only [aopP, hc, hi]) hh
    · exact of_det (Det.and (A := k = k') (Det.unit (.int k (std.mx a b)))) (fun _ _ _ => by simp only [aopP, hc, hi]) hh

def Hp.le (h h2 : Hp) : Prop := ∀ k o, h k = some o → h2 k = some o
theorem Hp.le_refl (h : Hp) : h.le h := fun _ _ h => h

theorem rowsOf_le {h h2 : Hp} (hl : h.le h2) {sz : Nat} {v : V} {rows : List (List V)} (hr : rowsOf h sz v = some rows) : rowsOf h2 sz v = some rows := by
  cases v <;> try exact hr
  rename_i k b sz' n
  simp only [rowsOf] at hr ⊢
  cases hk : h k with
  | none => rw [hk] at hr; cases hr
  | some o => rw [hk] at hr; rw [hl k o hk]; exact hr
theorem Arg.le {h h2 : Hp} (hl : h.le h2) {m : List (Nat × Nat)} {v v' : V} (ha : Arg h m v v') : Arg h2 m v v' := by
  induction ha with
  | same v => exact .same v
  | own k b sz n rows hr hm => exact .own k b sz n rows (rowsOf_le hl hr) hm
  | weak sz rows => exact .weak sz rows
  | nil t sz => exact .nil t sz
  | agg cs cs' hl' ha ih => exact .agg cs cs' hl' ih
theorem Args.le {h h2 : Hp} (hl : h.le h2) {m : List (Nat × Nat)} {l l' : List V} (ha : Args h m l l') : Args h2 m l l' := by
  induction ha with
  | nil => exact .nil
  | cons a b ih => exact .cons (a.le hl) ih

/-- an operation with one answer that does not hang on what is new in memory -/
def Fun (T : CallT) (op : AOp) : Prop := ∀ (ev : Opd → V) (h : Hp) (k : Nat) (K : V → Hp → Prop), aopP std T op ev h k K →
  ∃ v, K v h ∧ ∀ (h2 : Hp) (k2 : Nat) (K2 : V → Hp → Prop), h.le h2 → K2 v h2 → aopP std T op ev h2 k2 K2

theorem rowP_le {h h2 : Hp} (hl : h.le h2) {k sz i : Nat} {b : Option Nat} {K K2 : Ob → List V → Prop} (hh : rowP std h k b sz i K) (hK : ∀ o r, K o r → K2 o r) : rowP std h2 k b sz i K2 := by
  unfold rowP at *
  cases hk : h k with
  | none => rw [hk] at hh; exact hh.elim
  | some o =>
    rw [hk] at hh
    rw [hl k o hk]
    obtain ⟨h1, h2, h3⟩ := hh
    refine ⟨h1, h2, ?_⟩
    split at h3
    · split at h3
      · exact hK _ _ h3
      · exact h3.elim
    · obtain ⟨r, hr, h4⟩ := h3
      exact ⟨r, hr, hK _ _ h4⟩
theorem rowP_one {h : Hp} {k sz i : Nat} {b : Option Nat} {Φ : List V → (V → Prop) → Prop} (hΦ : ∀ r, Det (Φ r)) {K : V → Prop} (hh : rowP std h k b sz i fun _ r => Φ r K) :
    ∃ v, K v ∧ ∀ (h2 : Hp) (K2 : V → Prop), h.le h2 → K2 v → rowP std h2 k b sz i fun _ r => Φ r K2 := by
  unfold rowP at hh
  cases hk : h k with
  | none => rw [hk] at hh; exact hh.elim
  | some o =>
    rw [hk] at hh
    obtain ⟨h1, h2, h3⟩ := hh
    split at h3
    · rename_i hb
      split at h3
      · rename_i r hro
        obtain ⟨v, g1, g2⟩ := hΦ r K h3
        refine ⟨v, g1, fun h4 K2 hl hk2 => ?_⟩
        unfold rowP
        rw [hl k o hk]
        refine ⟨h1, h2, ?_⟩
        rw [hb, hro]
        exact (g2 K2).2 hk2
      · exact h3.elim
    · rename_i hb
      obtain ⟨r, hr, h4⟩ := h3
      obtain ⟨v, g1, g2⟩ := hΦ r K h4
      refine ⟨v, g1, fun h5 K2 hl hk2 => ?_⟩
      unfold rowP
      rw [hl k o hk]
      refine ⟨h1, h2, ?_⟩
      rw [hb]
      exact ⟨r, hr, (g2 K2).2 hk2⟩

theorem fun_of {P : Program} {op : AOp} (hc : op.isPure = true ∨ op.isRead = true ∨ (∃ f xs, op = .call f xs) ∨ ∃ x xs, op = .callv x xs) : Fun (CallP P) op := by
  intro ev h k K hh
  have call : ∀ f xs, CallP P f xs h K → ∃ v, K v h ∧ ∀ (h2 : Hp) (K2 : V → Hp → Prop), h.le h2 → K2 v h2 → CallP P f xs h2 K2 := by
    rintro f xs ⟨m, args', hp, v, h1, h2, h3, h4, h5⟩
    refine ⟨_, h5, fun g K2 hl hk => ⟨m, args', hp, v, h1, h2.le hl, h3, fun p hp' => ?_, hk⟩⟩
    obtain ⟨a1, a2, o, a3, a4, a5⟩ := h4 p hp'
    refine ⟨a1, a2, o, a3, ?_, a5⟩
    simp only [Option.map_eq_some_iff] at a4 ⊢
    obtain ⟨ob, hob, he⟩ := a4
    exact ⟨ob, hl _ _ hob, he⟩
  rcases hc with hc | hc | ⟨f, xs, rfl⟩ | ⟨x, xs, rfl⟩
  · obtain ⟨v, h1, h2⟩ := pure_det hc hh
    exact ⟨v, h1, fun g k2 K2 _ hk => (h2 g k2 K2).2 hk⟩
  · cases op <;> try (cases hc; done)
    case load1 x =>
      cases hx : ev x <;> try (simp only [aopP, hx, load1P] at hh; done)
      case ptr j b sz i off =>
        simp only [aopP, hx, load1P] at hh
        obtain ⟨v, h1, h2⟩ := rowP_one (Φ := fun r => nthC r off) (fun r => Det.nth r off) hh
        exact ⟨v, h1, fun g k2 K2 hl hk => by simp only [aopP, hx, load1P]; exact h2 g (fun v => K2 v g) hl hk⟩
      case rp t cs =>
        simp only [aopP, hx, load1P] at hh
        obtain ⟨v, h1, h2⟩ := Det.nth cs 0 _ hh
        exact ⟨v, h1, fun g k2 K2 hl hk => by simp only [aopP, hx, load1P]; exact (h2 _).2 hk⟩
    case loadn n x =>
      cases hx : ev x <;> try (simp only [aopP, hx, loadnP] at hh; done)
      case ptr j b sz i off =>
        simp only [aopP, hx, loadnP] at hh
        obtain ⟨v, h1, h2⟩ := rowP_one (K := fun v => K v h) (Φ := fun r K => off + n ≤ r.length ∧ K (.agg ((r.drop off).take n))) (fun r => Det.and (Det.unit _)) hh
        exact ⟨v, h1, fun g k2 K2 hl hk => by simp only [aopP, hx, loadnP]; exact h2 g (fun v => K2 v g) hl hk⟩
      case rp t cs =>
        simp only [aopP, hx, loadnP] at hh
        exact ⟨_, hh.2, fun g k2 K2 hl hk => by simp only [aopP, hx, loadnP]; exact ⟨hh.1, hk⟩⟩
  · obtain ⟨v, h1, h2⟩ := call f _ hh
    exact ⟨v, h1, fun g k2 K2 hl hk => h2 g K2 hl hk⟩
  · cases hx : ev x <;> try (simp only [aopP, hx] at hh; done)
    simp only [aopP, hx] at hh
    obtain ⟨v, h1, h2⟩ := call _ _ hh
    exact ⟨v, h1, fun g k2 K2 hl hk => by simp only [aopP, hx]; exact h2 g K2 hl hk⟩
end Go.Proofs.Ytobngncjflogcaa.AM

/-
  Regions that draw their order: any order that the edges allow ends as the text's order does.
-/
set_option linter.unusedVariables false
set_option linter.unusedSimpArgs false
namespace Go.Proofs.Ytobngncjflogcaa.AM
open Go

def slotsOf : List Opd → List Nat
  | [] => []
  | .t i :: l => i :: slotsOf l
  | .c _ :: l => slotsOf l
theorem ev_slots {s s2 : S} : ∀ {l : List Opd}, (∀ i ∈ slotsOf l, s2.t i = s.t i) → ∀ x ∈ l, Opd.ev s2 x = Opd.ev s x
  | [], _, x, hx => by cases hx
  | .t i :: l, h, x, hx => by
    rcases List.mem_cons.1 hx with rfl | hx
    · exact h i (by simp [slotsOf])
    · exact ev_slots (fun j hj => h j (by simp [slotsOf, hj])) x hx
  | .c v :: l, h, x, hx => by
    rcases List.mem_cons.1 hx with rfl | hx
    · rfl
    · exact ev_slots (fun j hj => h j (by simpa [slotsOf] using hj)) x hx
def AO.looks (o : AO) : List Nat := (match o.g with | some (g, _) => [g] | none => []) ++ slotsOf o.op.opds
def AO.isFun (o : AO) : Bool := o.op.isPure || o.op.isRead || (match o.op with | .call .. => true | .callv .. => true | _ => false)
def apartB (a b : AO) : Bool :=
  (match a.d with | some d => !(b.looks.contains d) && (b.d != some d) | none => true) && (match b.d with | some d => !(a.looks.contains d) | none => true)
/-- it makes an object of its own -/
def AO.isNew (o : AO) : Bool := (match o.g, o.d with | none, some _ => true | _, _ => false) && (match o.op with | .alloc .. | .box .. | .bslice .. | .mkslice .. => true | _ => false)
def AO.key (o : AO) : Nat := match o.op with
  | .bslice .. | .mkslice .. => arr + o.d.getD 0
  | _ => o.d.getD 0
/-- it makes a copy: what is appended to nothing -/
def AO.isApp (o : AO) : Bool := (match o.g, o.d with | none, some _ => true | _, _ => false) && (match o.op with | .append _ _ _ (.c (.slice none 0 0)) _ => true | _ => false)
/-- may the one that stands behind in the text come first? -/
def okPair (a b : AO) : Bool := apartB a b && (a.op.isPure || (a.isFun && (b.isFun || b.isNew || b.isApp)) || (a.isNew && (b.op.isPure || (b.isNew && a.key != b.key))) || (a.isApp && b.op.isPure))

theorem set_same {s : S} {g : Nat} {v : V} (h : s.t g = v) : s.set g v = s := by
  subst h
  cases s with
  | mk t h =>
    simp only [S.set, S.mk.injEq, and_true]
    funext i
    simp only [upd]
    split <;> simp_all

theorem isFun_spec {P : Program} {o : AO} (h : o.isFun = true) : Fun (CallP P) o.op := by
  refine fun_of ?_
  unfold AO.isFun at h
  simp only [Bool.or_eq_true] at h
  rcases h with (h | h) | h
  · exact .inl h
  · exact .inr (.inl h)
  · right; right
    cases hop : o.op <;> rw [hop] at h <;> try (simp at h; done)
    · exact .inl ⟨_, _, rfl⟩
    · exact .inr ⟨_, _, rfl⟩

section
variable {P : Program}

theorem fun_aoper {o : AO} (hf : o.isFun = true) {s : S} {K : S → Prop} (hh : aoper std (CallP P) o s K) :
    ∃ v, K (s.put o.d v) ∧ ∀ (s2 : S), (∀ i ∈ slotsOf o.op.opds, s2.t i = s.t i) → s.h.le s2.h → ∀ K2 : S → Prop, K2 (s2.put o.d v) → aoper std (CallP P) o s2 K2 := by
  obtain ⟨v, h1, h2⟩ := isFun_spec hf _ _ _ _ hh
  refine ⟨v, h1, fun s2 hs hl K2 hk => ?_⟩
  unfold aoper
  rw [aopP_congr (ev' := Opd.ev s) (ev_slots hs)]
  exact h2 s2.h _ _ hl hk

theorem fun_aone {o : AO} (hf : o.isFun = true) {s : S} {K : S → Prop} (hh : aone std (CallP P) o s K) :
    ∃ v, K (s.put o.d v) ∧ ∀ (s2 : S), (∀ i ∈ o.looks, s2.t i = s.t i) → s.h.le s2.h → ∀ K2 : S → Prop, K2 (s2.put o.d v) → aone std (CallP P) o s2 K2 := by
  obtain ⟨d, g, op⟩ := o
  cases g with
  | none =>
    obtain ⟨v, h1, h2⟩ := fun_aoper hf (show aoper std (CallP P) ⟨d, none, op⟩ s K from hh)
    exact ⟨v, h1, fun s2 hs hl K2 hk => h2 s2 (fun i hi => hs i (by simpa [AO.looks] using hi)) hl K2 hk⟩
  | some gw =>
    obtain ⟨g, want⟩ := gw
    have key : ∀ b, s.t g = .bool b → (if b = want then aoper std (CallP P) ⟨d, some (g, want), op⟩ s K else K (s.put d .und)) →
        ∃ v, K (s.put d v) ∧ ∀ (s2 : S), (∀ i ∈ (AO.mk d (some (g, want)) op).looks, s2.t i = s.t i) → s.h.le s2.h → ∀ K2 : S → Prop, K2 (s2.put d v) → aone std (CallP P) ⟨d, some (g, want), op⟩ s2 K2 := by
      intro b hb hK
      by_cases hbw : b = want
      · subst hbw
        rw [if_pos rfl] at hK
        obtain ⟨v, h1, h2⟩ := fun_aoper hf hK
        refine ⟨v, h1, fun s2 hs hl K2 hk => ?_⟩
        have hg2 : s2.t g = .bool b := (hs g (by simp [AO.looks])).trans hb
        have := h2 s2 (fun i hi => hs i (by simp only [AO.looks]; exact List.mem_append_right _ hi)) hl K2 hk
        cases b <;> simp only [aone, hg2, br, set_same hg2] <;> exact this
      · rw [if_neg hbw] at hK
        refine ⟨.und, hK, fun s2 hs hl K2 hk => ?_⟩
        have hg2 : s2.t g = .bool b := (hs g (by simp [AO.looks])).trans hb
        cases b <;> cases want <;> first | (exact absurd rfl hbw) | (simp only [aone, hg2, br, set_same hg2]; exact hk)
    cases hb : s.t g with
    | bool b =>
      refine key b hb ?_
      cases b <;> cases want <;> simp only [aone, hb, br, set_same hb] at hh <;> simpa using hh
    | und =>
      have hu : K (s.put d .und) := by cases want <;> simp only [aone, hb] at hh <;> exact hh
      refine ⟨.und, hu, fun s2 hs hl K2 hk => ?_⟩
      have hg2 : s2.t g = .und := (hs g (by simp [AO.looks])).trans hb
      cases want <;> simp only [aone, hg2] <;> exact hk
    | _ => cases want <;> simp only [aone, hb] at hh

theorem put_t {s : S} {d : Option Nat} {v : V} {i : Nat} (h : d ≠ some i) : (s.put d v).t i = s.t i := by
  cases d with
  | none => rfl
  | some d =>
    simp only [S.put, S.set, upd]
    rw [if_neg (fun e => h (by rw [e]))]
theorem put_h {s : S} {d : Option Nat} {v : V} : (s.put d v).h = s.h := by cases d <;> rfl
theorem put_comm {s : S} {d e : Option Nat} {v u : V} (h : ∀ i, d = some i → e ≠ some i) : (s.put d v).put e u = (s.put e u).put d v := by
  cases d with
  | none => rfl
  | some d =>
    cases e with
    | none => rfl
    | some e =>
      have hne : d ≠ e := fun he => h d rfl (by rw [he])
      simp only [S.put, S.set, S.mk.injEq, and_true]
      funext i
      simp only [upd]
      by_cases h1 : i = d
      · subst h1
        rw [if_neg hne]
        simp [hne]
      · by_cases h2 : i = e
        · subst h2; simp [h1]
        · simp [h1, h2]

theorem apart_spec {a b : AO} (h : apartB a b = true) : (∀ i, a.d = some i → i ∉ b.looks ∧ b.d ≠ some i) ∧ (∀ i, b.d = some i → i ∉ a.looks) := by
  unfold apartB at h
  simp only [Bool.and_eq_true] at h
  refine ⟨fun i hi => ?_, fun i hi => ?_⟩
  · have h1 := h.1
    rw [hi] at h1
    simp only [Bool.and_eq_true, Bool.not_eq_true', bne_iff_ne] at h1
    exact ⟨by simpa using h1.1, h1.2⟩
  · have h2 := h.2
    rw [hi] at h2
    simpa using h2

/-- a pure operation, guarded or not: one value, whatever lies in memory -/
theorem pure_aone {T : CallT} {o : AO} (hp : o.op.isPure = true) {s : S} {K : S → Prop} (hh : aone std T o s K) :
    ∃ v, ∀ (s2 : S), (∀ i ∈ o.looks, s2.t i = s.t i) → ∀ K2 : S → Prop, (aone std T o s2 K2 ↔ K2 (s2.put o.d v)) := by
  obtain ⟨d, g, op⟩ := o
  have plain : ∀ (s : S) (K : S → Prop), aoper std T ⟨d, none, op⟩ s K → ∃ v, ∀ (s2 : S), (∀ i ∈ slotsOf op.opds, s2.t i = s.t i) → ∀ K2 : S → Prop, (aopP std T op (Opd.ev s2) s2.h (d.getD 0) (fun v h => K2 ((s2.seth h).put d v)) ↔ K2 (s2.put d v)) := by
    intro s K hh
    obtain ⟨v, _, h2⟩ := pure_det hp hh
    refine ⟨v, fun s2 hs K2 => ?_⟩
    rw [aopP_congr (ev' := Opd.ev s) (ev_slots hs)]
    exact h2 s2.h (d.getD 0) fun v h => K2 ((s2.seth h).put d v)
  cases g with
  | none =>
    obtain ⟨v, h⟩ := plain s K hh
    exact ⟨v, fun s2 hs K2 => h s2 (fun i hi => hs i (by simpa [AO.looks] using hi)) K2⟩
  | some gw =>
    obtain ⟨g, want⟩ := gw
    have key : ∀ b, s.t g = .bool b → (b = want → aoper std T ⟨d, none, op⟩ s K) →
        ∃ v, ∀ (s2 : S), (∀ i ∈ (AO.mk d (some (g, want)) op).looks, s2.t i = s.t i) → ∀ K2 : S → Prop, (aone std T ⟨d, some (g, want), op⟩ s2 K2 ↔ K2 (s2.put d v)) := by
      intro b hb hK
      by_cases hbw : b = want
      · subst hbw
        obtain ⟨v, h⟩ := plain s K (hK rfl)
        refine ⟨v, fun s2 hs K2 => ?_⟩
        have hg2 : s2.t g = .bool b := (hs g (by simp [AO.looks])).trans hb
        have := h s2 (fun i hi => hs i (by simp only [AO.looks]; exact List.mem_append_right _ hi)) K2
        cases b <;> simp only [aone, hg2, br, set_same hg2, aoper] <;> exact this
      · refine ⟨.und, fun s2 hs K2 => ?_⟩
        have hg2 : s2.t g = .bool b := (hs g (by simp [AO.looks])).trans hb
        cases b <;> cases want <;> first | (exact absurd rfl hbw) | (simp only [aone, hg2, br, set_same hg2])
    cases hb : s.t g with
    | bool b =>
      refine key b hb fun hbw => ?_
      subst hbw
      cases b <;> simp only [aone, hb, br, set_same hb] at hh <;> exact hh
    | und =>
      refine ⟨.und, fun s2 hs K2 => ?_⟩
      have hg2 : s2.t g = .und := (hs g (by simp [AO.looks])).trans hb
      cases want <;> simp only [aone, hg2]
    | _ => cases want <;> simp only [aone, hb] at hh

/-- what an operation makes -/
theorem new_aone {T : CallT} {o : AO} (hn : o.isNew = true) {s : S} {K : S → Prop} (hh : aone std T o s K) :
    ∃ (v : Nat → V) (ob : Nat → Ob), ∀ (s2 : S), (∀ i ∈ o.looks, s2.t i = s.t i) → ∀ K2 : S → Prop, (aone std T o s2 K2 ↔ s2.h o.key = none ∧ ∀ β : Nat, K2 ((s2.seth (s2.h.put o.key (ob β))).put o.d (v β))) := by
  obtain ⟨d, g, op⟩ := o
  unfold AO.isNew at hn
  simp only [Bool.and_eq_true] at hn
  obtain ⟨hn1, hn2⟩ := hn
  cases g with
  | some _ => simp at hn1
  | none =>
    cases d with
    | none => simp at hn1
    | some d =>
      have hl : ∀ s2 : S, (∀ i ∈ (AO.mk (some d) none op).looks, s2.t i = s.t i) → ∀ x ∈ op.opds, Opd.ev s2 x = Opd.ev s x := fun s2 hs => ev_slots fun i hi => hs i (by simpa [AO.looks] using hi)
      cases op <;> simp only [] at hn2 <;> try (cases hn2; done)
      case alloc ty z =>
        obtain ⟨_, hz, _⟩ := (show aopP std T (.alloc ty z) (Opd.ev s) s.h d (fun v h => K ((s.seth h).put (some d) v)) from hh)
        exact ⟨fun β => .ptr d (some β) z.length 0 0, fun β => ⟨some β, ty, z.length, [z.map vOf]⟩, fun s2 hs K2 => ⟨fun ⟨a, _, b⟩ => ⟨a, b⟩, fun ⟨a, b⟩ => ⟨a, hz, b⟩⟩⟩
      case box ty n x =>
        obtain ⟨_, hz, _⟩ := (show aopP std T (.box ty n x) (Opd.ev s) s.h d (fun v h => K ((s.seth h).put (some d) v)) from hh)
        refine ⟨fun β => .ptr d (some β) n 0 0, fun β => ⟨some β, ty, n, [(x.ev s).cells]⟩, fun s2 hs K2 => ?_⟩
        have he := hl s2 hs x (by simp [AOp.opds])
        show (s2.h d = none ∧ (x.ev s2).fits n ∧ ∀ β : Nat, K2 ((s2.seth (s2.h.put d ⟨some β, ty, n, [(x.ev s2).cells]⟩)).put (some d) (.ptr d (some β) n 0 0))) ↔ _
        rw [he]
        exact ⟨fun ⟨a, _, b⟩ => ⟨a, b⟩, fun ⟨a, b⟩ => ⟨a, hz, b⟩⟩
      case bslice ty sz ps =>
        obtain ⟨_, hz, _⟩ := (show aopP std T (.bslice ty sz ps) (Opd.ev s) s.h d (fun v h => K ((s.seth h).put (some d) v)) from hh)
        refine ⟨fun β => .own (arr + d) (some β) sz ps.length, fun β => ⟨some β, ty, sz, ps.map fun q => (q.ev s).cells⟩, fun s2 hs K2 => ?_⟩
        have he := hl s2 hs
        have e1 : (ps.all fun q => fitsB sz (q.ev s2)) = ps.all fun q => fitsB sz (q.ev s) := by
          rw [Bool.eq_iff_iff, List.all_eq_true, List.all_eq_true]
          exact ⟨fun h q hq => by rw [← he q hq]; exact h q hq, fun h q hq => by rw [he q hq]; exact h q hq⟩
        have e2 : (ps.map fun q => (q.ev s2).cells) = ps.map fun q => (q.ev s).cells := List.map_congr_left fun q hq => by rw [he q hq]
        show (s2.h (arr + d) = none ∧ (ps.all fun q => fitsB sz (q.ev s2)) = true ∧ ∀ β : Nat, K2 ((s2.seth (s2.h.put (arr + d) ⟨some β, ty, sz, ps.map fun q => (q.ev s2).cells⟩)).put (some d) (.own (arr + d) (some β) sz ps.length))) ↔ _
        rw [e1, e2]
        exact ⟨fun ⟨a, _, b⟩ => ⟨a, b⟩, fun ⟨a, b⟩ => ⟨a, hz, b⟩⟩
      case mkslice ty sz bytes z l c =>
        have hh' := (show aopP std T (.mkslice ty sz bytes z l c) (Opd.ev s) s.h d (fun v h => K ((s.seth h).put (some d) v)) from hh)
        cases h1 : l.ev s <;> try (simp only [aopP, h1] at hh'; done)
        rename_i k1 n
        cases h2 : c.ev s <;> try (simp only [aopP, h1, h2] at hh'; done)
        rename_i k2 m
        simp only [aopP, h1, h2] at hh'
        obtain ⟨_, a1, a2, a3, a4, a5, a6, _⟩ := hh'
        refine ⟨fun β => .own (arr + d) (some β) sz (std.nat n), fun β => ⟨some β, ty, sz, std.rrep n (z.map vOf)⟩, fun s2 hs K2 => ?_⟩
        have e1 := (hl s2 hs l (by simp [AOp.opds])).trans h1
        have e2 := (hl s2 hs c (by simp [AOp.opds])).trans h2
        show aopP std T (.mkslice ty sz bytes z l c) (Opd.ev s2) s2.h d (fun v h => K2 ((s2.seth h).put (some d) v)) ↔ _
        simp only [aopP, e1, e2]
        exact ⟨fun ⟨a, _, _, _, _, _, _, b⟩ => ⟨a, b⟩, fun ⟨a, b⟩ => ⟨a, a1, a2, a3, a4, a5, a6, b⟩⟩

/-- what a copy is -/
theorem app_aone {T : CallT} {o : AO} (hn : o.isApp = true) {s : S} {K : S → Prop} (hh : aone std T o s K) :
    ∃ (k : Nat) (v : Option Nat → V) (ob : Option Nat → Ob), ∀ (s2 : S), (∀ i ∈ o.looks, s2.t i = s.t i) → s2.h = s.h → ∀ K2 : S → Prop, (aone std T o s2 K2 ↔ s2.h k = none ∧ ∀ β : Option Nat, K2 ((s2.seth (s2.h.put k (ob β))).put o.d (v β))) := by
  obtain ⟨d, g, op⟩ := o
  unfold AO.isApp at hn
  simp only [Bool.and_eq_true] at hn
  obtain ⟨hn1, hn2⟩ := hn
  cases g with
  | some _ => simp at hn1
  | none =>
    cases d with
    | none => simp at hn1
    | some d =>
      have hl : ∀ s2 : S, (∀ i ∈ (AO.mk (some d) none op).looks, s2.t i = s.t i) → ∀ x ∈ op.opds, Opd.ev s2 x = Opd.ev s x := fun s2 hs => ev_slots fun i hi => hs i (by simpa [AO.looks] using hi)
      cases op <;> try (cases hn2; done)
      rename_i ty sz bytes x y
      split at hn2
      · rename_i heq
        cases heq
        have hh' := (show appendP std s.h (arr + d) ty sz bytes .nilsl (y.ev s) (fun v h => K ((s.seth h).put (some d) v)) from hh)
        have fin : ∀ news : List (List V), (∀ Q : List (List V) → Prop, rowsP std s.h sz (y.ev s) Q ↔ Q news) → ∃ (k : Nat) (v : Option Nat → V) (ob : Option Nat → Ob), ∀ (s2 : S), (∀ i ∈ (AO.mk (some d) none (.append ty sz bytes (.c (.slice none 0 0)) y)).looks, s2.t i = s.t i) → s2.h = s.h → ∀ K2 : S → Prop, (aone std T ⟨some d, none, .append ty sz bytes (.c (.slice none 0 0)) y⟩ s2 K2 ↔ s2.h k = none ∧ ∀ β : Option Nat, K2 ((s2.seth (s2.h.put k (ob β))).put (some d) (v β))) := by
          intro news hr
          have hb := (hr _).1 hh'
          refine ⟨arr + d, fun β => .own (arr + d) β sz (std.rlenN news), fun β => ⟨β, ty, sz, news⟩, fun s2 hs hh2 K2 => ?_⟩
          have he := hl s2 hs y (by simp [AOp.opds])
          show appendP std s2.h (arr + d) ty sz bytes .nilsl (y.ev s2) (fun v h => K2 ((s2.seth h).put (some d) v)) ↔ _
          rw [he]
          unfold appendP
          rw [hh2]
          exact (hr _).trans ⟨fun ⟨a, _, b⟩ => ⟨a, b⟩, fun ⟨a, b⟩ => ⟨a, hb.2.1, b⟩⟩
        unfold appendP rowsP at hh'
        split at hh'
        · rename_i t sz' rows heq
          refine fin rows fun Q => ?_
          rw [heq]
          unfold rowsP
          exact ⟨fun h => h.2, fun h => ⟨hh'.1, h⟩⟩
        · rename_i heq
          refine fin [] fun Q => ?_
          rw [heq]
          exact Iff.rfl
        · rename_i k b sz' n heq
          split at hh'
          · rename_i o hk
            refine fin o.rows fun Q => ?_
            rw [heq]
            unfold rowsP
            simp only [hk]
            exact ⟨fun h => h.2.2.2.2, fun h => ⟨hh'.1, hh'.2.1, hh'.2.2.1, hh'.2.2.2.1, h⟩⟩
          · exact hh'.elim
        · exact hh'.elim
      · cases hn2

theorem callP_mono {f : Nat} {args : List V} {h : Hp} {K K2 : V → Hp → Prop} (hK : ∀ v h, K v h → K2 v h) (hh : CallP P f args h K) : CallP P f args h K2 := by
  obtain ⟨m, args', hp, v, h1, h2, h3, h4, h5⟩ := hh
  exact ⟨m, args', hp, v, h1, h2, h3, h4, hK _ _ h5⟩
theorem rowP_mono {h : Hp} {k sz i : Nat} {b : Option Nat} {K K2 : Ob → List V → Prop} (hK : ∀ o r, K o r → K2 o r) (hh : rowP std h k b sz i K) : rowP std h k b sz i K2 := rowP_le (Hp.le_refl h) hh hK
theorem rowsP_mono {h : Hp} {sz : Nat} {v : V} {K K2 : List (List V) → Prop} (hK : ∀ rows, K rows → K2 rows) (hh : rowsP std h sz v K) : rowsP std h sz v K2 := by
  unfold rowsP at hh ⊢
  cases v <;> try (exact hh.elim)
  case sl => exact ⟨hh.1, hK _ hh.2⟩
  case nilsl => exact hK _ hh
  case own j b sz' n =>
    simp only [] at hh ⊢
    cases hj : h j with
    | none => rw [hj] at hh; exact hh.elim
    | some o => rw [hj] at hh; exact ⟨hh.1, hh.2.1, hh.2.2.1, hh.2.2.2.1, hK _ hh.2.2.2.2⟩
theorem aopP_mono {op : AOp} {ev : Opd → V} {h : Hp} {k : Nat} {K K2 : V → Hp → Prop} (hK : ∀ v h, K v h → K2 v h) (hh : aopP std (CallP P) op ev h k K) : aopP std (CallP P) op ev h k K2 := by
  by_cases hf : (AO.mk none none op).isFun = true
  · obtain ⟨v, h1, h2⟩ := isFun_spec hf ev h k K hh
    exact h2 h k K2 (Hp.le_refl h) (hK _ _ h1)
  · cases op <;> try (exact absurd rfl hf)
    case alloc ty z => exact ⟨hh.1, hh.2.1, fun β => hK _ _ (hh.2.2 β)⟩
    case box ty n x => exact ⟨hh.1, hh.2.1, fun β => hK _ _ (hh.2.2 β)⟩
    case bslice ty sz ps => exact ⟨hh.1, hh.2.1, fun β => hK _ _ (hh.2.2 β)⟩
    case store n x v =>
      have hh : storeP std h n (ev x) (ev v) (fun h => K .junk h) := hh
      show storeP std h n (ev x) (ev v) (fun h => K2 .junk h)
      unfold storeP at hh ⊢
      split at hh
      · rename_i heq
        refine rowP_mono (fun o r hr => ⟨hr.1, hr.2.1, hK _ _ hr.2.2⟩) hh
      · exact hh.elim
    case mkslice ty sz bytes z l c =>
      simp only [aopP] at hh ⊢
      split at hh
      · rename_i e1 e2
        exact ⟨hh.1, hh.2.1, hh.2.2.1, hh.2.2.2.1, hh.2.2.2.2.1, hh.2.2.2.2.2.1, hh.2.2.2.2.2.2.1, fun β => hK _ _ (hh.2.2.2.2.2.2.2 β)⟩
      · exact hh.elim
    case append ty sz bytes x y =>
      have hh : appendP std h (arr + k) ty sz bytes (ev x) (ev y) K := hh
      show appendP std h (arr + k) ty sz bytes (ev x) (ev y) K2
      unfold appendP at hh ⊢
      refine rowsP_mono (fun news hn => ?_) hh
      generalize ev x = vx at hn ⊢
      cases vx <;> try (exact hn.elim)
      case nilsl => exact ⟨hn.1, hn.2.1, fun β => hK _ _ (hn.2.2 β)⟩
      case own j b sz' n =>
        simp only [] at hn ⊢
        cases hj : h j with
        | none => rw [hj] at hn; exact hn.elim
        | some o => rw [hj] at hn; exact ⟨hn.1, hn.2.1, hn.2.2.1, hn.2.2.2.1, hn.2.2.2.2.1, hn.2.2.2.2.2.1, fun β => hK _ _ (hn.2.2.2.2.2.2 β)⟩
    case convbs x =>
      have hh : rowsP std h 1 (ev x) (fun rows => ∃ l, std.bstr rows l ∧ K (.str l) h) := hh
      show rowsP std h 1 (ev x) (fun rows => ∃ l, std.bstr rows l ∧ K2 (.str l) h)
      exact rowsP_mono (fun rows hn => hn.imp fun l hl => ⟨hl.1, hK _ _ hl.2⟩) hh
    case dead => exact hh
    case eqn neg x =>
      have hh : eqnP std neg (ev x) (fun v => K v h) := hh
      show eqnP std neg (ev x) (fun v => K2 v h)
      unfold eqnP at hh ⊢
      generalize ev x = vx at hh ⊢
      cases vx <;> try (exact hh.elim)
      case nilsl => exact hK _ _ hh
      case sl => exact ⟨hK _ _ hh.1, fun h0 => hK _ _ (hh.2 h0)⟩
    case ixa g len sz x i =>
      simp only [aopP] at hh ⊢
      split at hh
      · rename_i e1 e2
        obtain ⟨a1, a2, a3, a4, n, a5, a6⟩ := hh
        refine ⟨a1, a2, a3, a4, n, a5, ?_⟩
        cases g <;> exact hK _ _ a6
      · exact hh.elim
theorem aone_mono {a : AO} {s : S} {K K2 : S → Prop} (hK : ∀ s, K s → K2 s) (hh : aone std (CallP P) a s K) : aone std (CallP P) a s K2 := by
  obtain ⟨d, g, op⟩ := a
  have plain : ∀ s : S, aoper std (CallP P) ⟨d, g, op⟩ s K → aoper std (CallP P) ⟨d, g, op⟩ s K2 := fun s h => aopP_mono (fun v h' hk => hK _ hk) h
  unfold aone at hh ⊢
  split at hh
  · exact plain s hh
  · split at hh
    · rename_i b _
      cases b
      · exact hK _ hh
      · exact plain _ hh
    · exact hK _ hh
    · exact hh.elim
  · split at hh
    · rename_i b _
      cases b
      · exact plain _ hh
      · exact hK _ hh
    · exact hK _ hh
    · exact hh.elim
theorem aopP_congr_all {op : AOp} {ev ev' : Opd → V} {h : Hp} {k : Nat} {K K' : V → Hp → Prop} (he : ∀ x ∈ op.opds, ev x = ev' x) (hK : ∀ v h, K v h → K' v h) (hh : aopP std (CallP P) op ev h k K) : aopP std (CallP P) op ev' h k K' := by
  rw [aopP_congr he] at hh
  exact aopP_mono hK hh

/-- any operation, where a slot is told that it does not look at -/
theorem any_aone {b : AO} {s : S} {d0 : Option Nat} {u : V} {K K2 : S → Prop} (hl : ∀ e, d0 = some e → e ∉ b.looks ∧ b.d ≠ some e) (hK : ∀ s1, (∀ i, b.d ≠ some i → s1.t i = s.t i) → K (s1.put d0 u) → K2 s1) (hh : aone std (CallP P) b (s.put d0 u) K) : aone std (CallP P) b s K2 := by
  obtain ⟨d, g, op⟩ := b
  have cm : ∀ (s : S) (v : V) (h : Hp), (((s.put d0 u).seth h).put d v) = (((s.seth h).put d v).put d0 u) := by
    intro s v h
    have e1 : (s.put d0 u).seth h = (s.seth h).put d0 u := by cases d0 <;> rfl
    rw [e1]
    exact put_comm fun i hi => (hl i hi).2
  have ts : ∀ (s : S) (i : Nat), (∀ e, d0 = some e → i ≠ e) → (s.put d0 u).t i = s.t i := fun s i hi => put_t fun e => hi i e rfl
  have plain : ∀ s' : S, (∀ i, s'.t i = s.t i) → aoper std (CallP P) ⟨d, g, op⟩ (s'.put d0 u) K → aoper std (CallP P) ⟨d, g, op⟩ s' K2 := by
    intro s' hs' h
    have h' : aopP std (CallP P) op (Opd.ev (s'.put d0 u)) s'.h (d.getD 0) (fun v h => K ((((s'.put d0 u).seth h)).put d v)) := by
      have := h
      unfold aoper at this
      rw [put_h] at this
      exact this
    refine aopP_congr_all (K' := fun v h => K2 ((s'.seth h).put d v)) (ev_slots fun i hi => ts s' i fun e he hie => (hl e he).1 (by rw [← hie]; unfold AO.looks; exact List.mem_append_right _ hi)) (fun v h'' hk => hK _ (fun i hi => ?_) ?_) h'
    · rw [put_t hi]; exact hs' i
    · rw [← cm]; exact hk
  cases g with
  | none => exact plain s (fun _ => rfl) hh
  | some gw =>
    obtain ⟨g, want⟩ := gw
    have hge : ∀ e, d0 = some e → g ≠ e := fun e he hg => (hl e he).1 (by rw [← hg]; simp [AO.looks])
    have hgt : (s.put d0 u).t g = s.t g := ts s g hge
    have cp : ∀ (s : S) (v : V), (s.put d0 u).put d v = (s.put d v).put d0 u := fun s v => put_comm fun i hi => (hl i hi).2
    cases hb : s.t g with
    | bool b =>
      have hb2 := hgt.trans hb
      have e1 : (s.put d0 u).set g (.bool b) = s.put d0 u := set_same hb2
      have e2 : s.set g (.bool b) = s := set_same hb
      cases want <;> cases b <;> simp only [aone, hb, hb2, br, e1, e2] at hh ⊢
      · exact plain s (fun _ => rfl) hh
      · exact hK _ (fun i hi => put_t hi) (by rw [← cp]; exact hh)
      · exact hK _ (fun i hi => put_t hi) (by rw [← cp]; exact hh)
      · exact plain s (fun _ => rfl) hh
    | und =>
      have hb2 := hgt.trans hb
      cases want <;> simp only [aone, hb, hb2] at hh ⊢ <;> exact hK _ (fun i hi => put_t hi) (by rw [← cp]; exact hh)
    | _ =>
      have hb2 := hgt.trans hb
      cases want <;> simp only [aone, hb2] at hh

theorem put_seth {s : S} {h : Hp} {d : Option Nat} {v : V} : (s.put d v).seth h = (s.seth h).put d v := by cases d <;> rfl
theorem seth_h {s : S} {h : Hp} : (s.seth h).h = h := rfl
theorem seth_seth {s : S} {h h' : Hp} : (s.seth h).seth h' = s.seth h' := rfl
theorem seth_t {s : S} {h : Hp} {i : Nat} : (s.seth h).t i = s.t i := rfl
theorem hp_put_comm {h : Hp} {a b : Nat} {o q : Ob} (hne : a ≠ b) : Hp.put (Hp.put h a o) b q = Hp.put (Hp.put h b q) a o := by
  funext i
  simp only [Hp.put]
  by_cases h1 : i = a
  · subst h1; simp [hne]
  · simp [h1]
theorem Hp.le_put {h : Hp} {k : Nat} {o : Ob} (hk : h k = none) : h.le (h.put k o) := by
  intro j q hj
  simp only [Hp.put]
  rw [if_neg (fun e => by rw [e, hk] at hj; cases hj)]
  exact hj

theorem swap {a b : AO} (hp : okPair a b = true) {s : S} {K : S → Prop} (hh : aone std (CallP P) a s fun s1 => aone std (CallP P) b s1 K) : aone std (CallP P) b s fun s1 => aone std (CallP P) a s1 K := by
  unfold okPair at hp
  simp only [Bool.and_eq_true, Bool.or_eq_true, bne_iff_ne] at hp
  obtain ⟨hap, hkind⟩ := hp
  obtain ⟨h1, h2⟩ := apart_spec hap
  have hcm : ∀ i, a.d = some i → b.d ≠ some i := fun i he => (h1 i he).2
  have hcm2 : ∀ i, b.d = some i → a.d ≠ some i := fun i he ha => (h1 i ha).2 he
  rcases hkind with ((hpa | ⟨hfa, (hfb | hnb) | hab⟩) | ⟨hna, hpb | ⟨hnb, hkey⟩⟩) | ⟨haa, hpb⟩
  · -- the first is pure
    obtain ⟨va, ha⟩ := pure_aone hpa hh
    have hb := (ha s (fun _ _ => rfl) _).1 hh
    exact any_aone (d0 := a.d) (u := va) (fun e he => h1 e he) (fun s1 hs hk => (ha s1 (fun i hi => hs i fun hb => h2 i hb hi) _).2 hk) hb
  · -- both answer alone
    obtain ⟨va, ha1, ha2⟩ := fun_aone hfa hh
    obtain ⟨vb, hb1, hb2⟩ := fun_aone hfb ha1
    have e1 : ∀ i ∈ b.looks, s.t i = (s.put a.d va).t i := fun i hi => (put_t fun he => (h1 i he).1 hi).symm
    refine hb2 s e1 (by rw [put_h]; exact Hp.le_refl _) _ (ha2 _ (fun i hi => put_t fun he => h2 i he hi) (by rw [put_h]; exact Hp.le_refl _) _ ?_)
    rw [put_comm hcm2]
    exact hb1
  · -- the second makes an object
    obtain ⟨va, ha1, ha2⟩ := fun_aone hfa hh
    obtain ⟨vb, ob, hb⟩ := new_aone hnb ha1
    obtain ⟨hk, hβ⟩ := (hb _ (fun _ _ => rfl) _).1 ha1
    rw [put_h] at hk
    have e1 : ∀ i ∈ b.looks, s.t i = (s.put a.d va).t i := fun i hi => (put_t fun he => (h1 i he).1 hi).symm
    refine (hb s e1 _).2 ⟨hk, fun β => ha2 ((s.seth (s.h.put b.key (ob β))).put b.d (vb β)) (fun i hi => put_t (s := s.seth (s.h.put b.key (ob β))) fun he => h2 i he hi) (by rw [put_h]; exact Hp.le_put hk) _ ?_⟩
    have := hβ β
    rw [put_h, put_seth, put_comm hcm] at this
    exact this
  · -- the second makes a copy
    obtain ⟨va, ha1, ha2⟩ := fun_aone hfa hh
    obtain ⟨kb, vb, ob, hb⟩ := app_aone hab ha1
    obtain ⟨hk, hβ⟩ := (hb _ (fun _ _ => rfl) rfl _).1 ha1
    rw [put_h] at hk
    have e1 : ∀ i ∈ b.looks, s.t i = (s.put a.d va).t i := fun i hi => (put_t fun he => (h1 i he).1 hi).symm
    refine (hb s e1 put_h.symm _).2 ⟨hk, fun β => ha2 ((s.seth (s.h.put kb (ob β))).put b.d (vb β)) (fun i hi => put_t (s := s.seth (s.h.put kb (ob β))) fun he => h2 i he hi) (by rw [put_h]; exact Hp.le_put hk) _ ?_⟩
    have := hβ β
    rw [put_h, put_seth, put_comm hcm] at this
    exact this
  · -- the first makes an object, the second is pure
    obtain ⟨va, oa, ha⟩ := new_aone hna hh
    obtain ⟨hk, hβ⟩ := (ha _ (fun _ _ => rfl) _).1 hh
    obtain ⟨vb, hb⟩ := pure_aone hpb (hβ 0)
    have e0 : ∀ (β : Nat), ∀ i ∈ b.looks, ((s.seth (s.h.put a.key (oa β))).put a.d (va β)).t i = s.t i := fun β i hi => put_t fun he => (h1 i he).1 hi
    have eq : ∀ (β : Nat), ∀ i ∈ b.looks, ((s.seth (s.h.put a.key (oa β))).put a.d (va β)).t i = ((s.seth (s.h.put a.key (oa 0))).put a.d (va 0)).t i := fun β i hi => (e0 β i hi).trans (e0 0 i hi).symm
    refine (hb s (fun i hi => (e0 0 i hi).symm) _).2 ((ha _ (fun i hi => put_t fun he => h2 i he hi) _).2 ⟨by rw [put_h]; exact hk, fun β => ?_⟩)
    have := (hb _ (eq β) _).1 (hβ β)
    rw [put_h, put_seth, put_comm hcm2]
    exact this
  · -- both make objects
    obtain ⟨va, oa, ha⟩ := new_aone hna hh
    obtain ⟨hk, hβ⟩ := (ha _ (fun _ _ => rfl) _).1 hh
    obtain ⟨vb, ob, hb⟩ := new_aone hnb (hβ 0)
    have e0 : ∀ (β : Nat), ∀ i ∈ b.looks, ((s.seth (s.h.put a.key (oa β))).put a.d (va β)).t i = s.t i := fun β i hi => put_t fun he => (h1 i he).1 hi
    have eq : ∀ (β : Nat), ∀ i ∈ b.looks, ((s.seth (s.h.put a.key (oa β))).put a.d (va β)).t i = ((s.seth (s.h.put a.key (oa 0))).put a.d (va 0)).t i := fun β i hi => (e0 β i hi).trans (e0 0 i hi).symm
    have hkb : s.h b.key = none := by
      have := ((hb _ (eq 0) _).1 (hβ 0)).1
      rw [put_h, seth_h] at this
      simp only [Hp.put] at this
      rw [if_neg (fun e => hkey e.symm)] at this
      exact this
    refine (hb s (fun i hi => (e0 0 i hi).symm) _).2 ⟨hkb, fun γ => (ha ((s.seth (s.h.put b.key (ob γ))).put b.d (vb γ)) (fun i hi => put_t (s := s.seth (s.h.put b.key (ob γ))) fun he => h2 i he hi) _).2 ⟨?_, fun β => ?_⟩⟩
    · rw [put_h, seth_h]
      simp only [Hp.put]
      rw [if_neg hkey]
      exact hk
    · have := ((hb _ (eq β) _).1 (hβ β)).2 γ
      rw [put_h, seth_h, put_seth, seth_seth, put_comm hcm, hp_put_comm hkey] at this
      rw [put_h, seth_h, put_seth, seth_seth]
      exact this

  · -- the first makes a copy, the second is pure
    obtain ⟨ka, va, oa, ha⟩ := app_aone haa hh
    obtain ⟨hk, hβ⟩ := (ha _ (fun _ _ => rfl) rfl _).1 hh
    obtain ⟨vb, hb⟩ := pure_aone hpb (hβ none)
    have e0 : ∀ (β : Option Nat), ∀ i ∈ b.looks, ((s.seth (s.h.put ka (oa β))).put a.d (va β)).t i = s.t i := fun β i hi => put_t fun he => (h1 i he).1 hi
    have eq : ∀ (β : Option Nat), ∀ i ∈ b.looks, ((s.seth (s.h.put ka (oa β))).put a.d (va β)).t i = ((s.seth (s.h.put ka (oa none))).put a.d (va none)).t i := fun β i hi => (e0 β i hi).trans (e0 none i hi).symm
    refine (hb s (fun i hi => (e0 none i hi).symm) _).2 ((ha _ (fun i hi => put_t fun he => h2 i he hi) put_h _).2 ⟨by rw [put_h]; exact hk, fun β => ?_⟩)
    have := (hb _ (eq β) _).1 (hβ β)
    rw [put_h, put_seth, put_comm hcm2]
    exact this

/-- operations by their numbers -/
def aopsI (T : CallT) (al : List AO) : List Nat → S → (S → Prop) → Prop
  | [], s, K => K s
  | i :: R, s, K => match al[i]? with
    | some o => aone std T o s fun s => aopsI T al R s K
    | none => False

theorem aopsI_all {T : CallT} {al : List AO} : ∀ (l pre : List AO), al = pre ++ l → ∀ s K, aopsI T al (List.range' pre.length l.length) s K = aops std T l s K
  | [], pre, _, s, K => rfl
  | o :: l, pre, he, s, K => by
    rw [List.length_cons, List.range'_succ]
    simp only [aopsI]
    have : al[pre.length]? = some o := by rw [he]; simp
    rw [this]
    have ih := aopsI_all (T := T) (al := al) l (pre ++ [o]) (by rw [he]; simp)
    simp only [List.length_append, List.length_cons, List.length_nil, Nat.zero_add] at ih
    have e : (fun s => aopsI T al (List.range' (pre.length + 1) l.length) s K) = fun s => aops std T l s K := funext fun s => ih s K
    simp only [e]
    rfl

theorem aopsI_pre {T : CallT} {al : List AO} : ∀ (l pre rest : List AO), al = pre ++ (l ++ rest) → ∀ s K, aopsI T al (List.range' pre.length l.length) s K = aops std T l s K
  | [], pre, rest, _, s, K => rfl
  | o :: l, pre, rest, he, s, K => by
    rw [List.length_cons, List.range'_succ]
    simp only [aopsI]
    have : al[pre.length]? = some o := by rw [he]; simp
    rw [this]
    have ih := aopsI_pre (T := T) (al := al) l (pre ++ [o]) rest (by rw [he]; simp)
    simp only [List.length_append, List.length_cons, List.length_nil, Nat.zero_add] at ih
    have e : (fun s => aopsI T al (List.range' (pre.length + 1) l.length) s K) = fun s => aops std T l s K := funext fun s => ih s K
    simp only [e]
    rfl

/-- one that meddles with none ahead of it may come first -/
theorem to_front {al : List AO} {i : Nat} {oi : AO} (hi : al[i]? = some oi) : ∀ (R1 R2 : List Nat) (s : S) (K : S → Prop), (∀ j ∈ R1, ∃ oj, al[j]? = some oj ∧ okPair oj oi = true) → aopsI (CallP P) al (R1 ++ i :: R2) s K →
    aone std (CallP P) oi s fun s => aopsI (CallP P) al (R1 ++ R2) s K
  | [], R2, s, K, _, h => by
    simp only [List.nil_append, aopsI, hi] at h
    exact h
  | j :: R1, R2, s, K, hR, h => by
    obtain ⟨oj, hj, hp⟩ := hR j (by simp)
    simp only [List.cons_append, aopsI, hj] at h
    have h' := aone_mono (fun s1 hs1 => to_front hi R1 R2 s1 K (fun k hk => hR k (by simp [hk])) hs1) h
    have := swap hp h'
    simpa only [List.cons_append, aopsI, hj] using this

/-- may such a region be read in the text's order? -/
def drawD (ops : Array Oper) (al : List AO) : Bool :=
  let t := ancTbl ops ops.size
  (List.range ops.size).all fun i => (predsOf ops i).all (fun j => decide (j < i)) &&
    (List.range i).all fun j => ((t.getD i []).contains j) || (match al[j]?, al[i]? with
      | some a, some b => okPair a b
      | _, _ => false)

theorem trOs_get {P : Program} {n : Nat} {ops : Array Oper} : ∀ {l : List Oper} {al : List AO}, trOs P n ops l = some al → l.length = al.length ∧ ∀ (i : Nat) (o : Oper), l[i]? = some o → ∃ a, al[i]? = some a ∧ trO P n ops o = some a
  | [], al, h => by simp [trOs] at h; subst h; simp
  | o :: l, al, h => by
    simp only [trOs] at h
    split at h
    · rename_i a m ha hm
      cases h
      obtain ⟨h1, h2⟩ := trOs_get hm
      refine ⟨by simp [h1], fun i o' ho => ?_⟩
      cases i with
      | zero => simp at ho; subst ho; exact ⟨a, rfl, ha⟩
      | succ i => exact h2 i o' (by simpa using ho)
    · cases h

theorem any_sound {C : Ctx} {n : Nat} {ops : Array Oper} {al : List AO} {Q : Exit → Act → World → Prop} (hC : C.Ok) (hal : trOs P n ops ops.toList = some al) (hD : drawD ops al = true) {K : S → Prop} (hQ : ∀ s' a' w', Sat C n s' a' w' → K s' → Q .normal a' w') :
    ∀ (R : List Nat) (listed : Array Bool) (s : S) (a : Act) (w : World), listed.size = ops.size → (∀ i, i ∈ R ↔ i < ops.size ∧ listed.getD i true = false) → R.Pairwise (· < ·) → (∀ i, i < ops.size → listed.getD i false = true → ∀ j ∈ predsOf ops i, listed.getD j false = true) →
      Sat C n s a w → aopsI (CallP P) al R s K → wpAny P .any ops Q R.length listed a w := by
  have anc_listed : ∀ (listed : Array Bool), (∀ i, i < ops.size → listed.getD i false = true → ∀ j ∈ predsOf ops i, listed.getD j false = true) → ∀ j i, Anc ops j i → (∀ k ∈ predsOf ops i, listed.getD k false = true) → listed.getD j false = true := by
    intro listed hcl j i ha
    induction ha with
    | base h => exact fun hp => hp _ h
    | @step k i h h' ih =>
      intro hp
      have hk := hp k h
      have hks : k < ops.size := by
        rcases Nat.lt_or_ge k ops.size with h1 | h1
        · exact h1
        · exfalso
          have : predsOf ops k = [] := by unfold predsOf; rw [Array.getElem?_eq_none h1]
          cases h' with
          | base h2 => rw [this] at h2; cases h2
          | step h2 _ => rw [this] at h2; cases h2
      exact ih (hcl k hks hk)
  have chk : ∀ i, i < ops.size → (∀ j ∈ predsOf ops i, j < i) ∧ ∀ j, j < i → Anc ops j i ∨ ∃ a b, al[j]? = some a ∧ al[i]? = some b ∧ okPair a b = true := by
    intro i hi
    unfold drawD at hD
    have h1 := List.all_eq_true.1 hD i (List.mem_range.2 hi)
    simp only [Bool.and_eq_true] at h1
    refine ⟨fun j hj => by simpa using List.all_eq_true.1 h1.1 j hj, fun j hj => ?_⟩
    have h2 := List.all_eq_true.1 h1.2 j (List.mem_range.2 hj)
    simp only [Bool.or_eq_true] at h2
    rcases h2 with h2 | h2
    · exact .inl (ancTbl_sound ops ops.size i j (by simpa using h2))
    · right
      cases ha : al[j]? with
      | none => rw [ha] at h2; simp at h2
      | some x =>
        cases hb : al[i]? with
        | none => rw [ha, hb] at h2; simp at h2
        | some y => rw [ha, hb] at h2; exact ⟨x, y, rfl, rfl, h2⟩
  have getb : ∀ (listed : Array Bool) (i : Nat), listed.size = ops.size → i < ops.size → (listed.getD i true = false ↔ ¬ listed.getD i false = true) := by
    intro listed i hs hi
    have : i < listed.size := by omega
    simp [this]
  intro R
  generalize hk : R.length = k
  induction k generalizing R with
  | zero =>
    intro listed s a w hsz hmem _ _ hs hK
    have hR : R = [] := List.eq_nil_of_length_eq_zero hk
    subst hR
    refine ⟨List.eq_nil_iff_forall_not_mem.2 fun j hj => ?_, hQ s a w hs hK⟩
    obtain ⟨h1, o, ho, _⟩ := mem_ready.1 hj
    have := (hmem j).2 ⟨(Array.getElem?_eq_some_iff.1 ho).1, h1⟩
    cases this
  | succ k ih =>
    intro listed s a w hsz hmem hsort hcl hs hK
    refine ⟨fun hr => ?_, fun i hi => ?_⟩
    · exfalso
      cases R with
      | nil => cases hk
      | cons i0 R =>
        obtain ⟨hi0, hl0⟩ := (hmem i0).1 (by simp)
        have : i0 ∈ Region.ready .any ops listed := by
          refine mem_ready.2 ⟨hl0, ops[i0], Array.getElem?_eq_getElem hi0, fun e he hb => ?_⟩
          have hp : e.on ∈ predsOf ops i0 := by
            unfold predsOf
            rw [Array.getElem?_eq_getElem hi0]
            exact List.mem_map.2 ⟨e, List.mem_filter.2 ⟨by simpa using he, hb⟩, rfl⟩
          have hlt := (chk i0 hi0).1 _ hp
          by_cases hl : listed.getD e.on false = true
          · exact hl
          · exfalso
            have hin := (hmem e.on).2 ⟨by omega, (getb listed e.on hsz (by omega)).2 hl⟩
            rcases List.mem_cons.1 hin with h | h
            · omega
            · have := (List.pairwise_cons.1 hsort).1 _ h
              omega
        rw [hr] at this
        cases this
    · obtain ⟨hl, o, ho, hall⟩ := mem_ready.1 hi
      have hio : i < ops.size := (Array.getElem?_eq_some_iff.1 ho).1
      have hiR : i ∈ R := (hmem i).2 ⟨hio, hl⟩
      obtain ⟨R1, R2, rfl⟩ := List.append_of_mem hiR
      have hpre : ∀ k ∈ predsOf ops i, listed.getD k false = true := by
        intro k hkp
        unfold predsOf at hkp
        rw [ho] at hkp
        obtain ⟨e, he, rfl⟩ := List.mem_map.1 hkp
        obtain ⟨he1, he2⟩ := List.mem_filter.1 he
        exact hall e (by simpa using he1) he2
      obtain ⟨_, hget⟩ := trOs_get hal
      obtain ⟨ai, hai, htr⟩ := hget i o (by simpa using ho)
      have hsort1 := List.pairwise_append.1 hsort
      have hR1 : ∀ j ∈ R1, ∃ oj, al[j]? = some oj ∧ okPair oj ai = true := by
        intro j hj
        have hji : j < i := hsort1.2.2 j hj i (by simp)
        obtain ⟨hjs, hjl⟩ := (hmem j).1 (by simp [hj])
        rcases (chk i hio).2 j hji with h | ⟨x, y, hx, hy, hxy⟩
        · exact absurd (anc_listed listed hcl j i h hpre) ((getb listed j hsz hjs).1 hjl)
        · rw [hai] at hy
          cases hy
          exact ⟨x, hx, hxy⟩
      have hfront := to_front hai R1 R2 s K hR1 hK
      have hnd : i ∉ R1 ++ R2 := by
        intro h
        rcases List.mem_append.1 h with h | h
        · have := hsort1.2.2 i h i (by simp); omega
        · have := (List.pairwise_cons.1 hsort1.2.1).1 i h; omega
      unfold wpOp
      rw [ho]
      refine aone_sound callP_ok hC htr hs hfront fun s' a' w' hs' hK' => ih (R1 ++ R2) ?_ (listed.setIfInBounds i true) s' a' w' (by simp [hsz]) (fun j => ?_) ?_ (fun j hj hlj q hq => ?_) hs' hK'
      · simp at hk ⊢; omega
      · by_cases hij : i = j
        · subst hij
          have h1 : (listed.setIfInBounds i true).getD i true = true := by
            have : i < listed.size := by omega
            simp [this]
          rw [h1]
          exact ⟨fun h => absurd h hnd, fun h => by simp at h⟩
        · rw [getD_set_ne true hij, ← hmem j]
          simp only [List.mem_append, List.mem_cons]
          constructor
          · rintro (h | h)
            · exact .inl h
            · exact .inr (.inr h)
          · rintro (h | h | h)
            · exact .inl h
            · exact absurd h.symm hij
            · exact .inr h
      · refine List.pairwise_append.2 ⟨hsort1.1, (List.pairwise_cons.1 hsort1.2.1).2, fun x hx y hy => hsort1.2.2 x hx y (by simp [hy])⟩
      · by_cases hij : i = j
        · subst hij
          exact getD_set_true (hpre q hq)
        · rw [getD_set_ne false hij] at hlj
          exact getD_set_true (hcl j hj hlj q hq)

/-- the last operation of a region, behind all the others, may meddle -/
theorem any_sound2 {C : Ctx} {n : Nat} {ops : Array Oper} {al : List AO} {ol : AO} {m : Nat} {Q : Exit → Act → World → Prop} (hC : C.Ok) (hal : trOs P n ops ops.toList = some al) (hD : drawD ops al = true) (hm : ops.size = m + 1) (hol : al[m]? = some ol) (hlast : ∀ j, j < m → Anc ops j m) {K : S → Prop} (hQ : ∀ s' a' w', Sat C n s' a' w' → K s' → Q .normal a' w') :
    ∀ (R : List Nat) (listed : Array Bool) (s : S) (a : Act) (w : World), listed.size = ops.size → (∀ i, i ∈ R ↔ i < m ∧ listed.getD i true = false) → listed.getD m true = false → R.Pairwise (· < ·) → (∀ i, i < ops.size → listed.getD i false = true → ∀ j ∈ predsOf ops i, listed.getD j false = true) →
      Sat C n s a w → aopsI (CallP P) al R s (fun s' => aone std (CallE P) ol s' K) → wpAny P .any ops Q (R.length + 1) listed a w := by
  have anc_listed : ∀ (listed : Array Bool), (∀ i, i < ops.size → listed.getD i false = true → ∀ j ∈ predsOf ops i, listed.getD j false = true) → ∀ j i, Anc ops j i → (∀ k ∈ predsOf ops i, listed.getD k false = true) → listed.getD j false = true := by
    intro listed hcl j i ha
    induction ha with
    | base h => exact fun hp => hp _ h
    | @step k i h h' ih =>
      intro hp
      have hk := hp k h
      have hks : k < ops.size := by
        rcases Nat.lt_or_ge k ops.size with h1 | h1
        · exact h1
        · exfalso
          have : predsOf ops k = [] := by unfold predsOf; rw [Array.getElem?_eq_none h1]
          cases h' with
          | base h2 => rw [this] at h2; cases h2
          | step h2 _ => rw [this] at h2; cases h2
      exact ih (hcl k hks hk)
  have chk : ∀ i, i < ops.size → (∀ j ∈ predsOf ops i, j < i) ∧ ∀ j, j < i → Anc ops j i ∨ ∃ a b, al[j]? = some a ∧ al[i]? = some b ∧ okPair a b = true := by
    intro i hi
    unfold drawD at hD
    have h1 := List.all_eq_true.1 hD i (List.mem_range.2 hi)
    simp only [Bool.and_eq_true] at h1
    refine ⟨fun j hj => by simpa using List.all_eq_true.1 h1.1 j hj, fun j hj => ?_⟩
    have h2 := List.all_eq_true.1 h1.2 j (List.mem_range.2 hj)
    simp only [Bool.or_eq_true] at h2
    rcases h2 with h2 | h2
    · exact .inl (ancTbl_sound ops ops.size i j (by simpa using h2))
    · right
      cases ha : al[j]? with
      | none => rw [ha] at h2; simp at h2
      | some x =>
        cases hb : al[i]? with
        | none => rw [ha, hb] at h2; simp at h2
        | some y => rw [ha, hb] at h2; exact ⟨x, y, rfl, rfl, h2⟩
  have getb : ∀ (listed : Array Bool) (i : Nat), listed.size = ops.size → i < ops.size → (listed.getD i true = false ↔ ¬ listed.getD i false = true) := by
    intro listed i hs hi
    have : i < listed.size := by omega
    simp [this]
  have prelisted : ∀ (listed : Array Bool) (i : Nat) (o : Oper), ops[i]? = some o → (∀ e, e ∈ o.after → Region.binds .any e = true → listed.getD e.on false = true) → ∀ k ∈ predsOf ops i, listed.getD k false = true := by
    intro listed i o ho hall k hkp
    unfold predsOf at hkp
    rw [ho] at hkp
    obtain ⟨e, he, rfl⟩ := List.mem_map.1 hkp
    obtain ⟨he1, he2⟩ := List.mem_filter.1 he
    exact hall e (by simpa using he1) he2
  intro R
  generalize hk : R.length = k
  induction k generalizing R with
  | zero =>
    intro listed s a w hsz hmem hlm _ hcl hs hK
    have hR : R = [] := List.eq_nil_of_length_eq_zero hk
    subst hR
    have hall0 : ∀ j, j < m → listed.getD j false = true := by
      intro j hj
      cases hb : listed.getD j false with
      | true => rfl
      | false =>
        have := (hmem j).2 ⟨hj, (getb listed j hsz (by omega)).2 (by rw [hb]; simp)⟩
        cases this
    refine ⟨fun hr => ?_, fun i hi => ?_⟩
    · exfalso
      have : m ∈ Region.ready .any ops listed := by
        refine mem_ready.2 ⟨hlm, ops[m], Array.getElem?_eq_getElem (by omega), fun e he hb => hall0 _ ?_⟩
        have hp : e.on ∈ predsOf ops m := by
          unfold predsOf
          rw [Array.getElem?_eq_getElem (by omega)]
          exact List.mem_map.2 ⟨e, List.mem_filter.2 ⟨by simpa using he, hb⟩, rfl⟩
        exact (chk m (by omega)).1 _ hp
      rw [hr] at this
      cases this
    · obtain ⟨hl, o, ho, hall⟩ := mem_ready.1 hi
      have hio : i < ops.size := (Array.getElem?_eq_some_iff.1 ho).1
      have him : i = m := by
        rcases Nat.lt_or_ge i m with h | h
        · exfalso; exact (getb listed i hsz hio).1 hl (hall0 i h)
        · omega
      subst him
      obtain ⟨_, hget⟩ := trOs_get hal
      obtain ⟨ai, hai, htr⟩ := hget i o (by simpa using ho)
      rw [hol] at hai
      cases hai
      unfold wpOp
      rw [ho]
      refine aone_sound callE_ok hC htr hs hK fun s' a' w' hs' hK' => ⟨?_, hQ s' a' w' hs' hK'⟩
      refine List.eq_nil_iff_forall_not_mem.2 fun j hj => ?_
      obtain ⟨h1, o', ho', _⟩ := mem_ready.1 hj
      have hjs : j < ops.size := (Array.getElem?_eq_some_iff.1 ho').1
      by_cases hij : i = j
      · subst hij
        have : i < listed.size := by omega
        simp [this] at h1
      · rw [getD_set_ne true hij] at h1
        exact (getb listed j hsz hjs).1 h1 (hall0 j (by omega))
  | succ k ih =>
    intro listed s a w hsz hmem hlm hsort hcl hs hK
    refine ⟨fun hr => ?_, fun i hi => ?_⟩
    · exfalso
      cases R with
      | nil => cases hk
      | cons i0 R =>
        obtain ⟨hi0, hl0⟩ := (hmem i0).1 (by simp)
        have : i0 ∈ Region.ready .any ops listed := by
          refine mem_ready.2 ⟨hl0, ops[i0], Array.getElem?_eq_getElem (by omega), fun e he hb => ?_⟩
          have hp : e.on ∈ predsOf ops i0 := by
            unfold predsOf
            rw [Array.getElem?_eq_getElem (by omega)]
            exact List.mem_map.2 ⟨e, List.mem_filter.2 ⟨by simpa using he, hb⟩, rfl⟩
          have hlt := (chk i0 (by omega)).1 _ hp
          by_cases hl : listed.getD e.on false = true
          · exact hl
          · exfalso
            have hin := (hmem e.on).2 ⟨by omega, (getb listed e.on hsz (by omega)).2 hl⟩
            rcases List.mem_cons.1 hin with h | h
            · omega
            · have := (List.pairwise_cons.1 hsort).1 _ h
              omega
        rw [hr] at this
        cases this
    · obtain ⟨hl, o, ho, hall⟩ := mem_ready.1 hi
      have hio : i < ops.size := (Array.getElem?_eq_some_iff.1 ho).1
      have hpre : ∀ k ∈ predsOf ops i, listed.getD k false = true := by
        intro k hkp
        unfold predsOf at hkp
        rw [ho] at hkp
        obtain ⟨e, he, rfl⟩ := List.mem_map.1 hkp
        obtain ⟨he1, he2⟩ := List.mem_filter.1 he
        exact hall e (by simpa using he1) he2
      have him : i < m := by
        rcases Nat.lt_or_ge i m with h | h
        · exact h
        · exfalso
          have : i = m := by omega
          subst this
          cases R with
          | nil => cases hk
          | cons i0 R =>
            obtain ⟨hi0, hl0⟩ := (hmem i0).1 (by simp)
            exact (getb listed i0 hsz (by omega)).1 hl0 (anc_listed listed hcl i0 i (hlast i0 hi0) hpre)
      have hiR : i ∈ R := (hmem i).2 ⟨him, hl⟩
      obtain ⟨R1, R2, rfl⟩ := List.append_of_mem hiR
      obtain ⟨_, hget⟩ := trOs_get hal
      obtain ⟨ai, hai, htr⟩ := hget i o (by simpa using ho)
      have hsort1 := List.pairwise_append.1 hsort
      have hR1 : ∀ j ∈ R1, ∃ oj, al[j]? = some oj ∧ okPair oj ai = true := by
        intro j hj
        have hji : j < i := hsort1.2.2 j hj i (by simp)
        obtain ⟨hjs, hjl⟩ := (hmem j).1 (by simp [hj])
        rcases (chk i hio).2 j hji with h | ⟨x, y, hx, hy, hxy⟩
        · exact absurd (anc_listed listed hcl j i h hpre) ((getb listed j hsz (by omega)).1 hjl)
        · rw [hai] at hy
          cases hy
          exact ⟨x, hx, hxy⟩
      have hfront := to_front hai R1 R2 s _ hR1 hK
      have hnd : i ∉ R1 ++ R2 := by
        intro h
        rcases List.mem_append.1 h with h | h
        · have := hsort1.2.2 i h i (by simp); omega
        · have := (List.pairwise_cons.1 hsort1.2.1).1 i h; omega
      unfold wpOp
      rw [ho]
      refine aone_sound callP_ok hC htr hs hfront fun s' a' w' hs' hK' => ih (R1 ++ R2) ?_ (listed.setIfInBounds i true) s' a' w' (by simp [hsz]) (fun j => ?_) ?_ ?_ (fun j hj hlj q hq => ?_) hs' hK'
      · simp at hk ⊢; omega
      · by_cases hij : i = j
        · subst hij
          have h1 : (listed.setIfInBounds i true).getD i true = true := by
            have : i < listed.size := by omega
            simp [this]
          rw [h1]
          exact ⟨fun h => absurd h hnd, fun h => by simp at h⟩
        · rw [getD_set_ne true hij, ← hmem j]
          simp only [List.mem_append, List.mem_cons]
          constructor
          · rintro (h | h)
            · exact .inl h
            · exact .inr (.inr h)
          · rintro (h | h | h)
            · exact .inl h
            · exact absurd h.symm hij
            · exact .inr h
      · rw [getD_set_ne true (by omega)]; exact hlm
      · refine List.pairwise_append.2 ⟨hsort1.1, (List.pairwise_cons.1 hsort1.2.1).2, fun x hx y hy => hsort1.2.2 x hx y (by simp [hy])⟩
      · by_cases hij : i = j
        · subst hij
          exact getD_set_true (hpre q hq)
        · rw [getD_set_ne false hij] at hlj
          exact getD_set_true (hcl j hj hlj q hq)

theorem drawD_ok (hm : P.follows .mixedOrders = true) : DrawOk P drawD := by
  refine ⟨hm, ?_, ?_⟩
  rotate_left
  · intro C n id ops al s a w K Q hC hal hD hl hs hK hQ
    refine wp_region_any hm ?_
    have hs2 : Sat C n s a { w with drawn := w.drawn + 1 } := by
      obtain ⟨F, hh, hr⟩ := hs.ex
      have hev : Ev (fun _ => False) w { w with drawn := w.drawn + 1 } := Ev.drew _ w
      refine ⟨⟨F, ⟨fun k o hk => ObSat.keep hC hh hev (fun _ _ h => h.elim) (hh.ob k o hk) (fun _ _ h => h.elim), hh.inj, hh.live, hh.old, hh.new, hh.lt, Ev.weak hh.ev hev fun _ _ h => h.elim⟩, fun i => hh.keep hC hev (fun _ _ h => h.elim) (hr i)⟩, hs.df, hs.sz⟩
    have hlen := (trOs_get hal).1
    have hlen' : al.length = ops.size := by rw [← hlen]; simp
    obtain ⟨al0, ol, rfl⟩ : ∃ al0 ol, al = al0 ++ [ol] := by
      cases hq : al.reverse with
      | nil =>
        have : al = [] := by simpa using hq
        subst this
        simp [lastC] at hl
      | cons x l => exact ⟨l.reverse, x, by rw [← List.reverse_reverse al, hq]; simp⟩
    have hsz : ops.size = al0.length + 1 := by rw [← hlen']; simp
    simp only [List.dropLast_concat, List.length_append, List.length_cons, List.length_nil, Nat.zero_add, Nat.add_sub_cancel] at hK
    rw [List.drop_left] at hK
    have hanc : ∀ j, j < al0.length → Anc ops j al0.length := by
      intro j hj
      unfold lastC at hl
      rw [List.getLast?_concat] at hl
      simp only [Bool.and_eq_true] at hl
      have := List.all_eq_true.1 hl.2 j (List.mem_range.2 (by omega))
      rw [hsz] at this
      exact ancTbl_sound ops (al0.length + 1) al0.length j (by simpa using this)
    have hall := aopsI_pre (T := CallP P) (al := al0 ++ [ol]) al0 [] [ol] rfl s fun s' => aone std (CallE P) ol s' K
    have := any_sound2 (m := al0.length) (ol := ol) hC hal hD hsz (by simp) hanc hQ (List.range' 0 al0.length) (Array.replicate ops.size false) s a { w with drawn := w.drawn + 1 } (by simp) (fun i => ?_) (by rw [hsz]; simp) ?_ (fun i hi hl => ?_) hs2 (by
      rw [show (0 : Nat) = ([] : List AO).length from rfl, hall]; exact hK)
    · rw [List.length_range', ← hsz] at this
      exact this
    · simp only [List.mem_range'_1, Nat.zero_le, Nat.zero_add, true_and]
      exact ⟨fun h => ⟨h, by have : i < ops.size := by omega
                             simp [this]⟩, fun h => h.1⟩
    · exact List.pairwise_lt_range'
    · simp [hi] at hl
  intro C n id ops al s a w K Q hC hal hD hs hK hQ
  refine wp_region_any hm ?_
  have hs2 : Sat C n s a { w with drawn := w.drawn + 1 } := by
    obtain ⟨F, hh, hr⟩ := hs.ex
    have hev : Ev (fun _ => False) w { w with drawn := w.drawn + 1 } := Ev.drew _ w
    refine ⟨⟨F, ⟨fun k o hk => ObSat.keep hC hh hev (fun _ _ h => h.elim) (hh.ob k o hk) (fun _ _ h => h.elim), hh.inj, hh.live, hh.old, hh.new, hh.lt, Ev.weak hh.ev hev fun _ _ h => h.elim⟩, fun i => hh.keep hC hev (fun _ _ h => h.elim) (hr i)⟩, hs.df, hs.sz⟩
  have hlen := (trOs_get hal).1
  have hall := aopsI_all (T := CallP P) (al := al) al [] rfl s K
  have hrange : (List.range' 0 al.length).length = ops.size := by simp [← hlen]
  have := any_sound hC hal hD hQ (List.range' 0 al.length) (Array.replicate ops.size false) s a { w with drawn := w.drawn + 1 } (by simp) (fun i => ?_) ?_ (fun i hi hl => ?_) hs2 (by rw [show (0 : Nat) = ([] : List AO).length from rfl, hall]; exact hK)
  · rw [hrange] at this
    exact this
  · have he : al.length = ops.size := by rw [← hlen]; simp
    rw [he]
    simp only [List.mem_range'_1, Nat.zero_le, Nat.zero_add, true_and]
    exact ⟨fun h => ⟨h, by simp [h]⟩, fun h => h.1⟩
  · exact List.pairwise_lt_range'
  · simp [hi] at hl
end
end Go.Proofs.Ytobngncjflogcaa.AM

/-
  What a call hands back, as it stands behind the call: what it made is now only read.
-/
set_option linter.unusedVariables false
set_option linter.unusedSimpArgs false
namespace Go.Proofs.Ytobngncjflogcaa.AM
open Go
open Go.BigFrame
open Go.RowKit (Below)

inductive Fr (h : Hp) : V → V → Prop
  | same (v : V) (hz : Fz v) : Fr h v v
  | nilsl (sz : Nat) : Fr h .nilsl (.sl false sz [])
  | own (k : Nat) (b : Option Nat) (sz n : Nat) (o : Ob) (rows : List (List V)) (hk : h k = some o) (hb : o.b = b) (hs : o.sz = sz) (hn : rows.length = n) (hw : ∀ r ∈ rows, r.length = sz) (hl : n ≤ o.rows.length) (hrl : ∀ (i : Nat) (r r' : List V), o.rows[i]? = some r → rows[i]? = some r' → r.length = r'.length)
      (hr : ∀ (i j : Nat) (r r' : List V) (v v' : V), o.rows[i]? = some r → rows[i]? = some r' → r[j]? = some v → r'[j]? = some v' → Fr h v v') : Fr h (.own k b sz n) (.sl false sz rows)
  | agg (cs cs' : List V) (hl : cs.length = cs'.length) (hr : ∀ (i : Nat) (v v' : V), cs[i]? = some v → cs'[i]? = some v' → Fr h v v') : Fr h (.agg cs) (.agg cs')
  | tup (cs cs' : List V) (hl : cs.length = cs'.length) (hr : ∀ (i : Nat) (v v' : V), cs[i]? = some v → cs'[i]? = some v' → Fr h v v') : Fr h (.tup cs) (.tup cs')

/-- the blocks of what a call made -/
def Made (F : Nat → Prop) (h : Hp) (b : Nat) : Prop := F b ∨ ∃ k o, h k = some o ∧ o.b = some b

theorem Fr.rel {C : Ctx} {F : Nat → Prop} {h : Hp} {w : World} (hs : HSat C F h w) {v v' : V} (hf : Fr h v v') : ∀ {u : Value}, Rel F C.B w v u → Rel (Made F h) (fun _ => False) w v' u := by
  induction hf with
  | same v hz => exact fun hr => (hr.mono (F' := Made F h) (B' := C.B) (fun b hb => .inl hb) (fun b hb => .inr hb)).fz hz
  | nilsl sz => intro u hr; cases hr; exact .slnil _ _
  | own k b sz n o rows hk hb hsz hn hw hl hrl hr ih =>
    intro u hv
    cases hv with
    | ownnil => have : rows = [] := List.eq_nil_of_length_eq_zero hn; subst this; exact .slnil _ _
    | own _ b' _ n' cap c e fr hheap hcs hm hnc =>
      have ho := hs.ob k o hk
      unfold ObSat at ho
      rw [hb] at ho
      obtain ⟨c', cap', hc', h1, h2, h3, h4, h5⟩ := ho
      rw [hheap] at hc'
      cases hc'
      subst hn
      refine .sl false sz rows b' 0 cap (fun i j => (c[i * sz + j]?).getD undef) (.inl (.inr ⟨k, o, hk, hb⟩)) hnc hw (fun i j r v hi hj => ?_) (fun i j r v hi hj => ?_)
      · have hil := (List.getElem?_eq_some_iff.1 hi).1
        have hjl := (List.getElem?_eq_some_iff.1 hj).1
        have hoi : o.rows[i]? = some (o.rows[i]'(by omega)) := List.getElem?_eq_getElem (by omega)
        have hlen := hrl i _ r hoi hi
        obtain ⟨u, hu, h1u, hru⟩ := h5 i j _ _ hoi (List.getElem?_eq_getElem (by omega))
        rw [hsz] at hu
        rw [hu, cell_of_row w b' _ c o.ty (0, 0) hheap]
        have : i * sz + j < c.size := (Array.getElem?_eq_some_iff.1 hu).1
        refine ⟨?_, h1u⟩
        rw [Nat.zero_add]
        exact hu
      · have hil := (List.getElem?_eq_some_iff.1 hi).1
        have hjl := (List.getElem?_eq_some_iff.1 hj).1
        have hoi : o.rows[i]? = some (o.rows[i]'(by omega)) := List.getElem?_eq_getElem (by omega)
        have hlen := hrl i _ r hoi hi
        have hoj : (o.rows[i]'(by omega))[j]? = some ((o.rows[i]'(by omega))[j]'(by omega)) := List.getElem?_eq_getElem (by omega)
        obtain ⟨u, hu, h1u, hru⟩ := h5 i j _ _ hoi hoj
        rw [hsz] at hu
        rw [hu]
        exact ih i j _ r _ v hoi hi hoj hj hru
  | agg cs cs' hl hr ih =>
    intro u hv
    cases hv with
    | agg _ us hsz hrr =>
      refine .agg cs' us (by omega) fun i v u hv hu => ?_
      have hi : i < cs.length := by have := (List.getElem?_eq_some_iff.1 hv).1; omega
      exact ih i cs[i] v (List.getElem?_eq_getElem hi) hv (hrr i cs[i] u (List.getElem?_eq_getElem hi) hu)
  | tup cs cs' hl hr ih =>
    intro u hv
    cases hv with
    | tup _ us hsz hrr =>
      refine .tup cs' us (by omega) fun i v u hv hu => ?_
      have hi : i < cs.length := by have := (List.getElem?_eq_some_iff.1 hv).1; omega
      exact ih i cs[i] v (List.getElem?_eq_getElem hi) hv (hrr i cs[i] u (List.getElem?_eq_getElem hi) hu)

theorem Fr.rows {h : Hp} {k sz n : Nat} {b : Option Nat} {o : Ob} (hk : h k = some o) (hb : o.b = b) (hs : o.sz = sz) (hn : o.rows.length = n) (hw : ∀ r ∈ o.rows, r.length = sz) (hz : ∀ r ∈ o.rows, ∀ v ∈ r, Fz v) : Fr h (.own k b sz n) (.sl false sz o.rows) :=
  .own k b sz n o o.rows hk hb hs hn hw (by omega) (fun i r r' h1 h2 => by rw [h1] at h2; cases h2; rfl) fun i j r r' v v' h1 h2 h3 h4 => by
    rw [h1] at h2; cases h2
    rw [h3] at h4; cases h4
    exact .same _ (hz r (List.mem_of_getElem? h1) v (List.mem_of_getElem? h3))
theorem Fr.agg_nil {h : Hp} : Fr h (.agg []) (.agg []) := .agg _ _ rfl (by simp)
theorem Fr.agg_cons {h : Hp} {v v' : V} {cs cs' : List V} (h1 : Fr h v v') (h2 : Fr h (.agg cs) (.agg cs')) : Fr h (.agg (v :: cs)) (.agg (v' :: cs')) := by
  have key : cs.length = cs'.length ∧ ∀ (i : Nat) (v v' : V), cs[i]? = some v → cs'[i]? = some v' → Fr h v v' := by
    cases h2 with
    | same _ hz => 
      cases hz with
      | agg _ hz => exact ⟨rfl, fun i v v' a b => by rw [a] at b; cases b; exact .same _ (hz _ (List.mem_of_getElem? a))⟩
    | agg _ _ hl hr => exact ⟨hl, hr⟩
  refine .agg _ _ (by simp [key.1]) fun i v v' a b => ?_
  cases i with
  | zero => simp at a b; subst a b; exact h1
  | succ i => exact key.2 i v v' (by simpa using a) (by simpa using b)
theorem Fr.tup_nil {h : Hp} : Fr h (.tup []) (.tup []) := .tup _ _ rfl (by simp)
theorem Fr.tup_cons {h : Hp} {v v' : V} {cs cs' : List V} (h1 : Fr h v v') (h2 : Fr h (.tup cs) (.tup cs')) : Fr h (.tup (v :: cs)) (.tup (v' :: cs')) := by
  have key : cs.length = cs'.length ∧ ∀ (i : Nat) (v v' : V), cs[i]? = some v → cs'[i]? = some v' → Fr h v v' := by
    cases h2 with
    | same _ hz => 
      cases hz with
      | tup _ hz => exact ⟨rfl, fun i v v' a b => by rw [a] at b; cases b; exact .same _ (hz _ (List.mem_of_getElem? a))⟩
    | tup _ _ hl hr => exact ⟨hl, hr⟩
  refine .tup _ _ (by simp [key.1]) fun i v v' a b => ?_
  cases i with
  | zero => simp at a b; subst a b; exact h1
  | succ i => exact key.2 i v v' (by simpa using a) (by simpa using b)

/-- the results, as they stand behind the call -/
def RetF (rv : List RV) (v' : V) (s : S) : Prop := resV s rv fun vs => Fr s.h (oneV vs) v'

theorem spec_frz {P : Program} {f : Nat} {fn : Func} {ac : AC} {rv : List RV} {args : List V} {v' : V} {D : Array Oper → List AO → Bool} (hD : DrawOk P D) (ok : FnOk P f fn ac rv args.length D)
    (hK : ∀ R, (∀ s s', Ent s s' → RetF rv v' s' → R s) → awp std (CallE P) (CallP P) ac (S0 args Hp.emp) R (fun _ _ => False) R) : Spec P f args Hp.emp (Is v') := by
  obtain ⟨c, hb, hc⟩ := Option.bind_eq_some_iff.1 ok.body
  refine ⟨⟨fn, ok.func, ok.name, c, hb⟩, fun C0 us hC0 hl hargs0 _ => ?_⟩
  let C : Ctx := ⟨C0.w0, C0.F0, C0.B, fun _ => False⟩
  have hC : C.Ok := ⟨fun b hb => ⟨(hC0.F0 b hb).1, fun h => h⟩, fun b hb => ⟨(hC0.B b hb).1, fun h => h⟩, fun b hb => hb.elim⟩
  have hargs : ∀ (i : Nat) (v : V) (u : Value), args[i]? = some v → us[i]? = some u → Rel C.F0 C.B C.w0 v u := hargs0
  refine calls_of_wp ok.func hb ?_
  have hs0 : HSat C C.F0 Hp.emp C.w0 := ⟨fun k o hk => by simp [Hp.emp] at hk, fun k k' o o' b hk => by simp [Hp.emp] at hk, fun k o b hk => by simp [Hp.emp] at hk, fun b hb => .inl hb, fun b hb => hb, fun b hb => (hC.F0 b hb).1, Ev.refl _ _⟩
  have hsat : Sat C fn.ntmps (S0 args Hp.emp) { tmps := us ++ Array.replicate (fn.ntmps - us.size) undef, defers := [] } C.w0 := by
    have hn := ok.args
    refine ⟨⟨C.F0, hs0, fun i => ?_⟩, rfl, by simp; omega⟩
    simp only [S0, sl0_eq]
    by_cases hi : i < args.length
    · have hi' : i < us.size := by omega
      have h1 : args[i]? = some (args.getD i .junk) := by rw [List.getD_eq_getElem?_getD, List.getElem?_eq_getElem hi]; rfl
      have h2 : us[i]? = some ((us ++ Array.replicate (fn.ntmps - us.size) undef).getD i undef) := by
        simp [hi', Array.getElem?_append_left]
      exact hargs i _ _ h1 h2
    · have h1 : args.getD i .junk = .junk := by rw [List.getD_eq_getElem?_getD, List.getElem?_eq_none (by omega)]; rfl
      rw [h1]
      exact .junk _
  let fin : S → Prop := fun s => ∃ s', Ent s s' ∧ RetF rv v' s'
  refine wp_mono (awp_sound hD hC c ac _ _ _ fin (fun _ _ => False) fin hc hsat (hK fin fun s s' he hr => ⟨s', he, hr⟩)) fun e a' w' hq => ?_
  have last : (∃ s, Sat C fn.ntmps s a' w' ∧ fin s) → a'.defers = [] ∧ ∃ v, (results fn a'.tmps).run P w' = .ok v w' ∧ ∃ u v_1 h' F', Ending.returned v = .returned u ∧ Rel F' (fun _ => False) w' v_1 u ∧ HSat C0.nb F' h' w' ∧ Is v' v_1 h' := by
    rintro ⟨s1, hs1, s2, hent, hres⟩
    have hs2 := hent C _ a' w' hC hs1
    obtain ⟨F, hh, hr⟩ := hs2.ex
    obtain ⟨vs, us', h1, h2, h3, h4⟩ := res_run hh hr _ _ _ ok.res hres
    have hone : Rel F C.B w' (oneV vs) (if h : us'.toArray.size = 1 then us'.toArray[0] else .tuple us'.toArray) := by
      match vs, us', h2, h3 with
      | [], [], _, _ => exact .tup _ _ rfl (by simp)
      | [v], [u], _, h3 => exact h3 0 v u rfl rfl
      | v1 :: v2 :: vs, u1 :: u2 :: us', h2, h3 =>
        have hne : ¬ ((u1 :: u2 :: us').toArray.size = 1) := by simp
        rw [dif_neg hne]
        exact .tup _ _ (by simpa using h2) fun i v u hv hu => h3 i v u hv (by simpa using hu)
    refine ⟨hs2.df, _, results_run h1, _, v', Hp.emp, Made F s2.h, rfl, Fr.rel hh h4 hone, ⟨fun k o hk => by simp [Hp.emp] at hk, fun k k' o o' b hk => by simp [Hp.emp] at hk, fun k o b hk => by simp [Hp.emp] at hk, fun b hb => ?_, fun b hb => .inl (hh.new b hb), fun b hb => ?_, ?_⟩, rfl, rfl⟩
    · rcases hb with hb | ⟨k, o, hk, hb⟩
      · rcases hh.old b hb with h | h | h
        · exact .inl h
        · exact h.elim
        · exact .inr (.inr h)
      · rcases (hh.live k o b hk hb).2 with h | h
        · exact h.elim
        · exact .inr (.inr h)
    · rcases hb with hb | ⟨k, o, hk, hb⟩
      · exact hh.lt b hb
      · exact (hh.ob k o hk).lt hb
    · exact hh.ev.mono fun b _ h => h.elim
  cases e with
  | normal => exact last hq
  | ret => exact last hq
  | exit j => obtain ⟨_, _, h⟩ := hq; exact h.elim
  | _ => exact hq.elim

/-- a contract of the library's kind, of plain arguments -/
theorem spec_of_calls {P : Program} {f : Nat} {args : List V} {us0 : Array Value} {v : V} {u0 : Value} (hf : ∃ fn, P.funcs[f]? = some fn ∧ fn.name ≠ "runtime.NumGoroutine" ∧ ∃ c, fn.body = some c)
    (hus : ∀ (F B : Nat → Prop) (w : World) (us : Array Value), us.size = args.length → (∀ (i : Nat) (v : V) (u : Value), args[i]? = some v → us[i]? = some u → Rel F B w v u) → us = us0)
    (hv : ∀ (F B : Nat → Prop) (w : World), Rel F B w v u0) (h : ∀ w, Calls P f us0 w fun e w' => e = .returned u0 ∧ Below w.heap.size w w') : Spec P f args Hp.emp (Is v) := by
  refine ⟨hf, fun C us hC hl hargs _ => ?_⟩
  rw [hus _ _ _ us hl hargs]
  refine (h C.w0).mono ?_
  rintro e w' ⟨rfl, hb⟩
  refine ⟨u0, v, Hp.emp, C.F0, rfl, hv _ _ _, ⟨fun k o hk => by simp [Hp.emp] at hk, fun k k' o o' b hk => by simp [Hp.emp] at hk, fun k o b hk => by simp [Hp.emp] at hk, fun b hb => .inl hb, fun b hb => hb, fun b hb' => Nat.lt_of_lt_of_le (hC.F0 b hb').1 hb.size, ?_⟩, rfl, rfl⟩
  exact ⟨hb.os, hb.tape, hb.output, hb.size, fun b hlt _ => hb.block b hlt, fun b c e fr hc => ⟨c, fr, by rw [hb.block b (Array.getElem?_eq_some_iff.1 hc).1]; exact hc, rfl⟩⟩
end Go.Proofs.Ytobngncjflogcaa.AM

/-
  Calls that are handed objects of the caller's.
-/
set_option linter.unusedVariables false
set_option linter.unusedSimpArgs false
namespace Go.Proofs.Ytobngncjflogcaa.AM
open Go
open Go.BigFrame

theorem HEnt.refl (h : Hp) : HEnt h h := fun _ F _ _ hs => ⟨F, fun _ h => h, hs⟩
theorem HEnt.trans {a b c : Hp} (h : HEnt a b) (h' : HEnt b c) : HEnt a c := fun C F w hC hs => by
  obtain ⟨F1, h1, hs1⟩ := h C F w hC hs
  obtain ⟨F2, h2, hs2⟩ := h' C F1 w hC hs1
  exact ⟨F2, fun b hb => h2 b (h1 b hb), hs2⟩

/-- a cell that is a slice of nothing may be said to be an object of the call's own -/
theorem HEnt.nilcell {h : Hp} {k k' ty sz r c : Nat} {o : Ob} {row : List V} (hk : h k = some o) (hr : o.rows[r]? = some row) (hc : row[c]? = some .nilsl) (hk' : h k' = none) :
    HEnt h (Hp.put (Hp.put h k ⟨o.b, o.ty, o.sz, o.rows.set r (row.set c (.own k' none sz 0))⟩) k' ⟨none, ty, sz, []⟩) := by
  intro C F w hC hs
  refine ⟨F, fun _ h => h, ?_⟩
  have hne : k ≠ k' := fun e => by rw [e, hk'] at hk; cases hk
  have look : ∀ j q, (Hp.put (Hp.put h k ⟨o.b, o.ty, o.sz, o.rows.set r (row.set c (.own k' none sz 0))⟩) k' ⟨none, ty, sz, []⟩) j = some q →
      (j = k' ∧ q = ⟨none, ty, sz, []⟩) ∨ (j ≠ k' ∧ j = k ∧ q = ⟨o.b, o.ty, o.sz, o.rows.set r (row.set c (.own k' none sz 0))⟩) ∨ (j ≠ k' ∧ j ≠ k ∧ h j = some q) := by
    intro j q hj
    simp only [Hp.put] at hj
    by_cases h1 : j = k'
    · rw [if_pos h1] at hj; cases hj; exact .inl ⟨h1, rfl⟩
    · rw [if_neg h1] at hj
      by_cases h2 : j = k
      · rw [if_pos h2] at hj; cases hj; exact .inr (.inl ⟨h1, h2, rfl⟩)
      · rw [if_neg h2] at hj; exact .inr (.inr ⟨h1, h2, hj⟩)
  have blk : ∀ j q b, (Hp.put (Hp.put h k ⟨o.b, o.ty, o.sz, o.rows.set r (row.set c (.own k' none sz 0))⟩) k' ⟨none, ty, sz, []⟩) j = some q → q.b = some b → ∃ q', h j = some q' ∧ q'.b = some b := by
    intro j q b hj hb
    rcases look j q hj with ⟨_, rfl⟩ | ⟨_, rfl, rfl⟩ | ⟨_, _, hq⟩
    · cases hb
    · exact ⟨o, hk, hb⟩
    · exact ⟨q, hq, hb⟩
  refine ⟨fun j q hj => ?_, fun j j' q q' b hj hj' hb hb' => ?_, fun j q b hj hb => ?_, hs.old, hs.new, hs.lt, hs.ev⟩
  · rcases look j q hj with ⟨_, rfl⟩ | ⟨_, rfl, rfl⟩ | ⟨_, _, hq⟩
    · exact (show ObSat F C.B w ⟨none, ty, sz, []⟩ from rfl)
    · have ho := hs.ob j o hk
      unfold ObSat at ho ⊢
      simp only
      cases hb : o.b with
      | none =>
        rw [hb] at ho
        simp only at ho ⊢
        rw [ho] at hr
        simp at hr
      | some b =>
        rw [hb] at ho
        obtain ⟨cs, cap, h1, h2, h3, h4, h5, h6⟩ := ho
        have hrl := (List.getElem?_eq_some_iff.1 hr).1
        refine ⟨cs, cap, h1, h2, h3, by simpa using h4, fun r' hr' => ?_, fun i l r' v hi hl => ?_⟩
        · rcases List.mem_or_eq_of_mem_set hr' with h | h
          · exact h5 r' h
          · rw [h, List.length_set]; exact h5 row (List.mem_of_getElem? hr)
        · rw [List.getElem?_set] at hi
          by_cases hir : r = i
          · subst hir
            rw [if_pos rfl, if_pos hrl] at hi
            cases hi
            rw [List.getElem?_set] at hl
            by_cases hlc : c = l
            · subst hlc
              rw [if_pos rfl] at hl
              obtain ⟨u, hu, h1u, hru⟩ := h6 r c row .nilsl hr hc
              split at hl
              · cases hl
                refine ⟨u, hu, h1u, ?_⟩
                cases hru
                exact .ownnil _ _
              · cases hl
            · rw [if_neg hlc] at hl
              exact h6 r l row v hr hl
          · rw [if_neg hir] at hi
            exact h6 i l r' v hi hl
    · exact hs.ob j q hq
  · obtain ⟨p, hp, hpb⟩ := blk j q b hj hb
    obtain ⟨p', hp', hpb'⟩ := blk j' q' b hj' hb'
    exact hs.inj j j' p p' b hp hp' hpb hpb'
  · obtain ⟨p, hp, hpb⟩ := blk j q b hj hb
    exact hs.live j p b hp hpb

/-- plain values: no object of the call's own in them -/
def V.pl : V → Bool
  | .own .. => false
  | .win .. => false
  | .ptr .. => false
  | .agg _ => false
  | .tup _ => false
  | _ => true
theorem V.pl_rl {v : V} (h : v.pl = true) (f : Nat → Nat) : v.rl f = v := by cases v <;> first | rfl | cases h
theorem V.pl_ren {v : V} (h : v.pl = true) (f : Nat → Nat) : v.ren f = v := by cases v <;> first | rfl | cases h
theorem args_plain {h : Hp} {m : List (Nat × Nat)} : ∀ {l : List V}, l.all V.pl = true → Args h m l l
  | [], _ => .nil
  | v :: l, hl => by
    simp only [List.all_cons, Bool.and_eq_true] at hl
    refine .cons ?_ (args_plain hl.2)
    have := Arg.same (h := h) (m := m) v
    rwa [V.pl_ren hl.1] at this

/-- a call that is handed one object -/
theorem call1 {P : Program} {f k sz : Nat} {b : Option Nat} {rest : List V} {o : Ob} {post : V → List (Nat × Ob) → Prop} (hs : Spec P f (.ptr 0 b sz 0 0 :: rest) (lookH [(0, o)]) fun v' h' => ∃ L', post v' L' ∧ h' = lookH L') (hpost : ∀ v L', post v L' → ∃ o', L' = [(0, o')])
    (hrest : rest.all V.pl = true) (ho : ∀ g, o.ren g = o) (hz : o.Fz) {h : Hp} {K : V → Hp → Prop} (hk : h k = some o) (hK : ∀ v o', post v [(0, o')] → K (v.ren (lab [(0, k)])) (h.put k (o'.ren (lab [(0, k)])))) : CallE P f (.ptr k b sz 0 0 :: rest) h K := by
  refine ⟨h, HEnt.refl h, [(0, k)], _, _, _, hs, .cons ?_ (args_plain hrest), fun j q hj => ?_, fun p hp => ?_, ?_⟩
  · have := Arg.same (h := h) (m := [(0, k)]) (.ptr k b sz 0 0)
    simpa [V.ren, V.rl, bal] using this
  · simp only [lookH] at hj
    split at hj
    · rename_i h0; exact ⟨(0, k), by simp, h0.symm⟩
    · cases hj
  · simp only [List.mem_singleton] at hp
    subst hp
    refine ⟨by simp [lab], by simp [bal], fun q hq => ?_⟩
    simp only [lookH, ↓reduceIte, Option.some.injEq] at hq
    subst hq
    exact ⟨by rw [hk, Option.map_some, ho], hz⟩
  · rintro v' h' ⟨L', hp, rfl⟩
    obtain ⟨o', rfl⟩ := hpost _ _ hp
    have e : h.upd [(0, k)] (lookH [(0, o')]) = h.put k (o'.ren (lab [(0, k)])) := by
      funext i
      unfold Hp.upd Hp.put
      simp only [List.any_cons, List.any_nil, Bool.or_false, decide_eq_true_eq]
      by_cases hi : k = i
      · rw [if_pos hi, if_pos hi.symm, ← hi]
        simp [bal, lookH]
      · rw [if_neg hi, if_neg (fun e => hi e.symm)]
    rw [e]
    exact hK v' o' hp

/-- a call that is handed two objects, one of which the other holds -/
theorem call2 {P : Program} {f k ka sz : Nat} {b : Option Nat} {rest : List V} {o O q Q : Ob} {post : V → List (Nat × Ob) → Prop} (hs : Spec P f (.ptr 0 b sz 0 0 :: rest) (lookH [(0, o), (1, q)]) fun v' h' => ∃ L', post v' L' ∧ h' = lookH L') (hpost : ∀ v L', post v L' → ∃ o' q', L' = [(0, o'), (1, q')])
    (hrest : rest.all V.pl = true) (hne : k ≠ ka) (hO : O.ren (bal [(0, k), (1, ka)]) = o) (hQ : Q.ren (bal [(0, k), (1, ka)]) = q) (hz : o.Fz) (hzq : q.Fz) {h : Hp} {K : V → Hp → Prop} (hk : h k = some O) (hka : h ka = some Q)
    (hK : ∀ v o' q', post v [(0, o'), (1, q')] → K (v.ren (lab [(0, k), (1, ka)])) (Hp.put (Hp.put h k (o'.ren (lab [(0, k), (1, ka)]))) ka (q'.ren (lab [(0, k), (1, ka)])))) : CallW P f (.ptr k b sz 0 0 :: rest) h K := by
  refine ⟨[(0, k), (1, ka)], _, _, _, hs, .cons ?_ (args_plain hrest), fun j x hj => ?_, fun p hp => ?_, ?_⟩
  · have := Arg.same (h := h) (m := [(0, k), (1, ka)]) (.ptr k b sz 0 0)
    simpa [V.ren, V.rl, bal] using this
  · simp only [lookH] at hj
    split at hj
    · rename_i h0; exact ⟨(0, k), by simp, h0.symm⟩
    · split at hj
      · rename_i h0; exact ⟨(1, ka), by simp, h0.symm⟩
      · cases hj
  · simp only [List.mem_cons, List.not_mem_nil, or_false] at hp
    rcases hp with rfl | rfl
    · refine ⟨by simp [lab], by simp [bal], fun x hx => ?_⟩
      simp only [lookH, ↓reduceIte, Option.some.injEq] at hx
      subst hx
      exact ⟨by rw [hk, Option.map_some, hO], hz⟩
    · refine ⟨by simp [lab], (by have hne' : ¬ ka = k := fun e => hne e.symm; simp [bal, hne']), fun x hx => ?_⟩
      simp [lookH] at hx
      subst hx
      exact ⟨by rw [hka, Option.map_some, hQ], hzq⟩
  · rintro v' h' ⟨L', hp, rfl⟩
    obtain ⟨o', q', rfl⟩ := hpost _ _ hp
    have e : h.upd [(0, k), (1, ka)] (lookH [(0, o'), (1, q')]) = Hp.put (Hp.put h k (o'.ren (lab [(0, k), (1, ka)]))) ka (q'.ren (lab [(0, k), (1, ka)])) := by
      funext i
      unfold Hp.upd Hp.put
      simp only [List.any_cons, List.any_nil, Bool.or_false, Bool.or_eq_true, decide_eq_true_eq]
      by_cases h1 : ka = i
      · subst h1
        rw [if_pos (.inr rfl), if_pos rfl]
        have hne' : ¬ ka = k := fun e => hne e.symm
        simp [bal, lookH, hne']
      · by_cases h2 : k = i
        · subst h2
          rw [if_pos (.inl rfl), if_neg (fun e => h1 e.symm), if_pos rfl]
          simp [bal, lookH]
        · rw [if_neg (by rintro (h | h); exact h2 h; exact h1 h), if_neg (fun e => h1 e.symm), if_neg (fun e => h2 e.symm)]
    rw [e]
    exact hK v' o' q' hp
theorem resV_mono {s : S} : ∀ (rv : List RV) (K K' : List V → Prop), (∀ x, K x → K' x) → resV s rv K → resV s rv K' := by
  intro rv
  induction rv with
  | nil => intro K K' hK h; exact hK _ h
  | cons r rv ih =>
    intro K K' hK h
    cases r with
    | t i => exact ih _ _ (fun x hx => hK _ hx) h
    | c1 i =>
      simp only [resV] at h ⊢
      unfold load1V at h ⊢
      split at h
      · unfold rowC at h ⊢
        split at h
        · obtain ⟨a1, a2, a3, a4, a5⟩ := h
          exact ⟨a1, a2, a3, a4, ih _ _ (fun x hx => hK _ hx) a5⟩
        · exact h.elim
      · exact ⟨h.1, ih _ _ (fun x hx => hK _ hx) h.2⟩
      · exact h.elim
    | cn i n =>
      simp only [resV] at h ⊢
      unfold loadnV at h ⊢
      split at h
      · unfold rowC at h ⊢
        split at h
        · obtain ⟨a1, a2, a3, a4, a5⟩ := h
          exact ⟨a1, a2, a3, a4, ih _ _ (fun x hx => hK _ hx) a5⟩
        · exact h.elim
      · exact ⟨h.1, ih _ _ (fun x hx => hK _ hx) h.2⟩
      · exact h.elim

/-- a method that is handed some objects, numbered from 0 -/
theorem spec_meth {P : Program} {f : Nat} {fn : Func} {ac : AC} {rv : List RV} {args : List V} {L : List (Nat × Ob)} {D : Array Oper → List AO → Bool} (hD : DrawOk P D) (ok : FnOk P f fn ac rv args.length D) (post : V → List (Nat × Ob) → Prop)
    (h : ∀ R : S → Prop, (∀ (s s' : S) (v : V) (L' : List (Nat × Ob)), Ent s s' → resV s' rv (fun x => oneV x = v) → agreeH L' s' → Fz v → (∀ p ∈ L', p.2.Fz) → post v L' → R s) → awp std (CallE P) (CallP P) ac (S0 args (lookH L)) R (fun _ _ => False) R) :
    Spec P f args (lookH L) (fun v h' => ∃ L', post v L' ∧ h' = lookH L') := by
  obtain ⟨c, hc, hac⟩ := Option.bind_eq_some_iff.1 ok.body
  refine spec_of hD ok.func ok.name hc hac ok.res ok.args (h _ fun s s' v L' he hr ha hz hzL hp => ⟨s', he, ?_⟩)
  refine resV_mono rv _ _ (fun x hx => ?_) hr
  subst hx
  refine ⟨hz, lookH L', fun k o hk => ?_, L', hp, rfl⟩
  refine ⟨lookH_agree ha k o hk, ?_⟩
  have : ∀ (l : List (Nat × Ob)), (∀ p ∈ l, p.2.Fz) → ∀ k o, lookH l k = some o → o.Fz := by
    intro l
    induction l with
    | nil => intro _ k o hk; cases hk
    | cons p l ih =>
      intro hl k o hk
      simp only [lookH] at hk
      split at hk
      · cases hk; exact hl p (by simp)
      · exact ih (fun q hq => hl q (by simp [hq])) k o hk
  exact this L' hzL k o hk
end Go.Proofs.Ytobngncjflogcaa.AM

/-
  What a call made may be frozen while it goes on.
-/
set_option linter.unusedVariables false
set_option linter.unusedSimpArgs false
namespace Go.Proofs.Ytobngncjflogcaa.AM
open Go

/-- an own slice and what it becomes -/
def Frk (k : Nat) (b : Option Nat) (sz n : Nat) (rows : List (List V)) (v v' : V) : Prop := v' = v ∨ (v = .own k b sz n ∧ v' = .sl false sz rows)
theorem Frk.rel {C : Ctx} {F : Nat → Prop} {h : Hp} {w : World} (hs : HSat C F h w) {k sz n : Nat} {b : Option Nat} {o : Ob} (hk : h k = some o) (hb : o.b = b) (hsz : o.sz = sz) (hn : o.rows.length = n) (hz : ∀ r ∈ o.rows, ∀ v ∈ r, Fz v)
    {v v' : V} (hv : Frk k b sz n o.rows v v') {u : Value} (hr : Rel F C.B w v u) : Rel (fun x => F x ∨ o.b = some x) C.B w v' u := by
  rcases hv with rfl | ⟨rfl, rfl⟩
  · exact hr.mono (fun _ h => .inl h) (fun _ h => .inr h)
  · cases hr with
    | ownnil =>
      have : o.rows = [] := List.eq_nil_of_length_eq_zero hn
      rw [this]; exact .slnil _ _
    | own _ b' _ n' cap c e fr hheap hcs hm hnc =>
      have ho := hs.ob k o hk
      unfold ObSat at ho
      rw [hb] at ho
      obtain ⟨c', cap', hc', h1, h2, h3, h4, h5⟩ := ho
      rw [hheap] at hc'
      cases hc'
      subst hn
      have hw : ∀ r ∈ o.rows, r.length = sz := fun r hr => by rw [← hsz]; exact h4 r hr
      refine .sl false sz o.rows b' 0 cap (fun i j => (c[i * sz + j]?).getD undef) (.inl (.inr hb)) hnc hw (fun i j r v hi hj => ?_) (fun i j r v hi hj => ?_)
      · obtain ⟨u, hu, h1u, hru⟩ := h5 i j r v hi hj
        rw [hsz] at hu
        rw [hu, cell_of_row w b' _ c o.ty (0, 0) hheap]
        have : i * sz + j < c.size := (Array.getElem?_eq_some_iff.1 hu).1
        refine ⟨?_, h1u⟩
        rw [Nat.zero_add]
        exact hu
      · obtain ⟨u, hu, h1u, hru⟩ := h5 i j r v hi hj
        rw [hsz] at hu
        rw [hu]
        exact hru.mono (fun _ h => .inl h) (fun _ h => .inr h)
theorem Ent.freeze {s s' : S} {k sz n : Nat} {b : Option Nat} {o : Ob} (hk : s.h k = some o) (hb : o.b = b) (hsz : o.sz = sz) (hn : o.rows.length = n) (hz : ∀ r ∈ o.rows, ∀ v ∈ r, Fz v)
    (ht : ∀ i, Frk k b sz n o.rows (s.t i) (s'.t i))
    (hh : ∀ j q', s'.h j = some q' → j ≠ k ∧ ∃ q, s.h j = some q ∧ q'.b = q.b ∧ q'.ty = q.ty ∧ q'.sz = q.sz ∧ q'.rows.length = q.rows.length ∧
      ∀ (i : Nat) (r r' : List V), q.rows[i]? = some r → q'.rows[i]? = some r' → r'.length = r.length ∧ ∀ (l : Nat) (v v' : V), r[l]? = some v → r'[l]? = some v' → Frk k b sz n o.rows v v') : Ent s s' := by
  intro C n0 a w hC hs0
  obtain ⟨F, hs, h2⟩ := hs0.ex
  refine ⟨⟨fun x => F x ∨ o.b = some x, ⟨fun j q' hj => ?_, fun j j' q q' b1 hj hj' hb1 hb2 => ?_, fun j q' b1 hj hb1 => ?_, fun b1 hb1 => ?_, fun b1 hb1 => .inl (hs.new b1 hb1), fun b1 hb1 => ?_, hs.ev⟩, fun i => ?_⟩, hs0.df, hs0.sz⟩
  · obtain ⟨_, q, hq, e1, e2, e3, e4, e5⟩ := hh j q' hj
    have hq2 := hs.ob j q hq
    unfold ObSat at hq2 ⊢
    rw [e1]
    cases hqb : q.b with
    | none =>
      rw [hqb] at hq2
      simp only at hq2 ⊢
      rw [hq2] at e4
      exact List.eq_nil_of_length_eq_zero e4
    | some b1 =>
      rw [hqb] at hq2
      obtain ⟨c, cap, g1, g2, g3, g4, g5, g6⟩ := hq2
      refine ⟨c, cap, by rw [e2]; exact g1, by rw [e3]; exact g2, g3, by omega, fun r' hr' => ?_, fun i l r' v' hi hl => ?_⟩
      · obtain ⟨i, hi⟩ := List.mem_iff_getElem?.1 hr'
        have hil := (List.getElem?_eq_some_iff.1 hi).1
        have hir : q.rows[i]? = some (q.rows[i]'(by omega)) := List.getElem?_eq_getElem (by omega)
        rw [e3, (e5 i _ r' hir hi).1]
        exact g5 _ (List.mem_of_getElem? hir)
      · have hil := (List.getElem?_eq_some_iff.1 hi).1
        have hir : q.rows[i]? = some (q.rows[i]'(by omega)) := List.getElem?_eq_getElem (by omega)
        obtain ⟨f1, f2⟩ := e5 i _ r' hir hi
        have hll := (List.getElem?_eq_some_iff.1 hl).1
        have hlr : (q.rows[i]'(by omega))[l]? = some ((q.rows[i]'(by omega))[l]'(by omega)) := List.getElem?_eq_getElem (by omega)
        obtain ⟨u, k1, k2, k3⟩ := g6 i l _ _ hir hlr
        rw [e3]
        exact ⟨u, k1, k2, Frk.rel hs hk hb hsz hn hz (f2 l _ v' hlr hl) k3⟩
  · obtain ⟨_, q1, hq1, e1, _⟩ := hh j q hj
    obtain ⟨_, q2, hq2, e2, _⟩ := hh j' q' hj'
    exact hs.inj j j' q1 q2 b1 hq1 hq2 (by rw [← e1]; exact hb1) (by rw [← e2]; exact hb2)
  · obtain ⟨hne, q1, hq1, e1, _⟩ := hh j q' hj
    obtain ⟨g1, g2⟩ := hs.live j q1 b1 hq1 (by rw [← e1]; exact hb1)
    refine ⟨?_, g2⟩
    rintro (g | g)
    · exact g1 g
    · exact hne (hs.inj j k q1 o b1 hq1 hk (by rw [← e1]; exact hb1) g)
  · rcases hb1 with g | g
    · exact hs.old b1 g
    · exact .inr (hs.live k o b1 hk g).2
  · rcases hb1 with g | g
    · exact hs.lt b1 g
    · exact (hs.ob k o hk).lt g
  · exact Frk.rel hs hk hb hsz hn hz (ht i) (h2 i)

theorem HEnt.freeze {h h' : Hp} {k sz n : Nat} {b : Option Nat} {o : Ob} (hk : h k = some o) (hb : o.b = b) (hsz : o.sz = sz) (hn : o.rows.length = n) (hz : ∀ r ∈ o.rows, ∀ v ∈ r, Fz v)
    (hh : ∀ j q', h' j = some q' → j ≠ k ∧ ∃ q, h j = some q ∧ q'.b = q.b ∧ q'.ty = q.ty ∧ q'.sz = q.sz ∧ q'.rows.length = q.rows.length ∧
      ∀ (i : Nat) (r r' : List V), q.rows[i]? = some r → q'.rows[i]? = some r' → r'.length = r.length ∧ ∀ (l : Nat) (v v' : V), r[l]? = some v → r'[l]? = some v' → Frk k b sz n o.rows v v') : HEnt h h' := by
  intro C F w hC hs
  refine ⟨fun x => F x ∨ o.b = some x, fun _ h => .inl h, ⟨fun j q' hj => ?_, fun j j' q q' b1 hj hj' hb1 hb2 => ?_, fun j q' b1 hj hb1 => ?_, fun b1 hb1 => ?_, fun b1 hb1 => .inl (hs.new b1 hb1), fun b1 hb1 => ?_, hs.ev⟩⟩
  · obtain ⟨_, q, hq, e1, e2, e3, e4, e5⟩ := hh j q' hj
    have hq2 := hs.ob j q hq
    unfold ObSat at hq2 ⊢
    rw [e1]
    cases hqb : q.b with
    | none =>
      rw [hqb] at hq2
      simp only at hq2 ⊢
      rw [hq2] at e4
      exact List.eq_nil_of_length_eq_zero e4
    | some b1 =>
      rw [hqb] at hq2
      obtain ⟨c, cap, g1, g2, g3, g4, g5, g6⟩ := hq2
      refine ⟨c, cap, by rw [e2]; exact g1, by rw [e3]; exact g2, g3, by omega, fun r' hr' => ?_, fun i l r' v' hi hl => ?_⟩
      · obtain ⟨i, hi⟩ := List.mem_iff_getElem?.1 hr'
        have hil := (List.getElem?_eq_some_iff.1 hi).1
        have hir : q.rows[i]? = some (q.rows[i]'(by omega)) := List.getElem?_eq_getElem (by omega)
        rw [e3, (e5 i _ r' hir hi).1]
        exact g5 _ (List.mem_of_getElem? hir)
      · have hil := (List.getElem?_eq_some_iff.1 hi).1
        have hir : q.rows[i]? = some (q.rows[i]'(by omega)) := List.getElem?_eq_getElem (by omega)
        obtain ⟨f1, f2⟩ := e5 i _ r' hir hi
        have hll := (List.getElem?_eq_some_iff.1 hl).1
        have hlr : (q.rows[i]'(by omega))[l]? = some ((q.rows[i]'(by omega))[l]'(by omega)) := List.getElem?_eq_getElem (by omega)
        obtain ⟨u, k1, k2, k3⟩ := g6 i l _ _ hir hlr
        rw [e3]
        exact ⟨u, k1, k2, Frk.rel hs hk hb hsz hn hz (f2 l _ v' hlr hl) k3⟩
  · obtain ⟨_, q1, hq1, e1, _⟩ := hh j q hj
    obtain ⟨_, q2, hq2, e2, _⟩ := hh j' q' hj'
    exact hs.inj j j' q1 q2 b1 hq1 hq2 (by rw [← e1]; exact hb1) (by rw [← e2]; exact hb2)
  · obtain ⟨hne, q1, hq1, e1, _⟩ := hh j q' hj
    obtain ⟨g1, g2⟩ := hs.live j q1 b1 hq1 (by rw [← e1]; exact hb1)
    refine ⟨?_, g2⟩
    rintro (g | g)
    · exact g1 g
    · exact hne (hs.inj j k q1 o b1 hq1 hk (by rw [← e1]; exact hb1) g)
  · rcases hb1 with g | g
    · exact hs.old b1 g
    · exact .inr (hs.live k o b1 hk g).2
  · rcases hb1 with g | g
    · exact hs.lt b1 g
    · exact (hs.ob k o hk).lt g

/-- an own slice that stands in a cell of another object is frozen, ahead of a call -/
theorem HEnt.frzC {h : Hp} {k q sz n c : Nat} {b : Option Nat} {o O : Ob} {row : List V} (hk : h k = some o) (hq : h q = some O) (hO : O.rows = [row]) (hc : row[c]? = some (.own k b sz n)) (hb : o.b = b) (hsz : o.sz = sz) (hn : o.rows.length = n) (hz : ∀ r ∈ o.rows, ∀ v ∈ r, Fz v) :
    HEnt h (Hp.del (Hp.put h q ⟨O.b, O.ty, O.sz, [row.set c (.sl false sz o.rows)]⟩) k) := by
  refine HEnt.freeze hk hb hsz hn hz (fun j q' hj => ?_)
  simp only [Hp.del] at hj
  by_cases h1 : j = k
  · rw [if_pos h1] at hj; cases hj
  · rw [if_neg h1] at hj
    refine ⟨h1, ?_⟩
    simp only [Hp.put] at hj
    by_cases h2 : j = q
    · rw [if_pos h2] at hj
      cases hj
      refine ⟨O, by rw [h2]; exact hq, rfl, rfl, rfl, by rw [hO]; simp, fun i r r' e1 e3 => ?_⟩
      rw [hO] at e1
      cases i with
      | zero =>
        simp only [List.getElem?_cons_zero, Option.some.injEq] at e1 e3
        subst e1 e3
        refine ⟨by simp, fun l v v' e4 e5 => ?_⟩
        rw [List.getElem?_set] at e5
        by_cases hl : c = l
        · subst hl
          rw [if_pos rfl] at e5
          rw [hc] at e4
          cases e4
          split at e5
          · cases e5; exact .inr ⟨rfl, rfl⟩
          · cases e5
        · rw [if_neg hl, e4] at e5
          cases e5; exact .inl rfl
      | succ i => simp at e1
    · rw [if_neg h2] at hj
      exact ⟨q', hj, rfl, rfl, rfl, rfl, fun i r r' h1 h2 => by rw [h1] at h2; cases h2; exact ⟨rfl, fun l v v' h3 h4 => by rw [h3] at h4; cases h4; exact .inl rfl⟩⟩

/-- a slot's own slice is frozen -/
def S.frzS (s : S) (i k sz : Nat) (rows : List (List V)) : S := ⟨upd s.t i (.sl false sz rows), Hp.del s.h k⟩
theorem Ent.frzS {s : S} {i k sz n : Nat} {b : Option Nat} {o : Ob} (hi : s.t i = .own k b sz n) (hk : s.h k = some o) (hb : o.b = b) (hsz : o.sz = sz) (hn : o.rows.length = n) (hz : ∀ r ∈ o.rows, ∀ v ∈ r, Fz v) : Ent s (s.frzS i k sz o.rows) := by
  refine Ent.freeze hk hb hsz hn hz (fun j => ?_) (fun j q' hj => ?_)
  · simp only [S.frzS, upd]
    by_cases h : j = i
    · rw [if_pos h, h]; exact .inr ⟨hi, rfl⟩
    · rw [if_neg h]; exact .inl rfl
  · simp only [S.frzS, Hp.del] at hj
    by_cases h : j = k
    · rw [if_pos h] at hj; cases hj
    · rw [if_neg h] at hj
      exact ⟨h, q', hj, rfl, rfl, rfl, rfl, fun i r r' h1 h2 => by rw [h1] at h2; cases h2; exact ⟨rfl, fun l v v' h3 h4 => by rw [h3] at h4; cases h4; exact .inl rfl⟩⟩
/-- an own slice that stands in the last row of another object is frozen -/
def S.frzR (s : S) (k q sz : Nat) (O : Ob) (pre : List (List V)) (rows : List (List V)) : S := ⟨s.t, Hp.del (Hp.put s.h q ⟨O.b, O.ty, O.sz, pre ++ [[.sl false sz rows]]⟩) k⟩
theorem Ent.frzR {s : S} {k q sz n : Nat} {b : Option Nat} {o O : Ob} {pre : List (List V)} (hk : s.h k = some o) (hq : s.h q = some O) (hO : O.rows = pre ++ [[.own k b sz n]]) (hb : o.b = b) (hsz : o.sz = sz) (hn : o.rows.length = n) (hz : ∀ r ∈ o.rows, ∀ v ∈ r, Fz v) : Ent s (s.frzR k q sz O pre o.rows) := by
  refine Ent.freeze hk hb hsz hn hz (fun j => .inl rfl) (fun j q' hj => ?_)
  simp only [S.frzR, Hp.del] at hj
  by_cases h : j = k
  · rw [if_pos h] at hj; cases hj
  · rw [if_neg h] at hj
    refine ⟨h, ?_⟩
    simp only [Hp.put] at hj
    by_cases h2 : j = q
    · rw [if_pos h2] at hj
      cases hj
      refine ⟨O, by rw [h2]; exact hq, rfl, rfl, rfl, by rw [hO]; simp, fun i r r' h1 h3 => ?_⟩
      rw [hO] at h1
      simp only at h3
      rw [List.getElem?_append] at h1 h3
      by_cases hi : i < pre.length
      · rw [if_pos hi] at h1 h3
        rw [h1] at h3; cases h3
        exact ⟨rfl, fun l v v' h4 h5 => by rw [h4] at h5; cases h5; exact .inl rfl⟩
      · rw [if_neg hi] at h1 h3
        cases hp : i - pre.length with
        | zero =>
          rw [hp] at h1 h3
          simp only [List.getElem?_cons_zero, Option.some.injEq] at h1 h3
          subst h1 h3
          refine ⟨rfl, fun l v v' h4 h5 => ?_⟩
          cases l with
          | zero =>
            simp only [List.getElem?_cons_zero, Option.some.injEq] at h4 h5
            subst h4 h5
            exact .inr ⟨rfl, rfl⟩
          | succ l => simp at h4
        | succ x => rw [hp] at h1; simp at h1
    · rw [if_neg h2] at hj
      exact ⟨q', hj, rfl, rfl, rfl, rfl, fun i r r' h1 h2 => by rw [h1] at h2; cases h2; exact ⟨rfl, fun l v v' h3 h4 => by rw [h3] at h4; cases h4; exact .inl rfl⟩⟩
end Go.Proofs.Ytobngncjflogcaa.AM
