/-
  All operations of the plain machine against the model.
-/
import Derived.Test.YtdmpbdmgaepndaaAmB
set_option linter.unusedVariables false
set_option linter.unusedSimpArgs false
namespace Go.Proofs.Ytdmpbdmgaepndaa.AM
open Go
open Go.BigFrame
section
variable {P : Program} {C : Ctx} {F : Nat → Prop} {w w' : World} {a : Act} {s : S} {h : Hp} {K : V → Hp → Prop} {Q : Exit → Act → World → Prop} {o : Oper}

theorem trXs_spec : ∀ {l : List Operand} {m : List Opd}, trXs l = some m → l.length = m.length ∧ ∀ (i : Nat) (x : Operand) (y : Opd), l[i]? = some x → m[i]? = some y → trX x = some y := by
  intro l
  induction l with
  | nil => intro m h; simp [trXs] at h; subst h; simp
  | cons x l ih =>
    intro m h
    simp only [trXs] at h
    split at h
    · rename_i y m' hx hm
      cases h
      obtain ⟨h1, h2⟩ := ih hm
      refine ⟨by simp [h1], fun i x' y' hx' hy' => ?_⟩
      cases i with
      | zero => simp at hx' hy'; subst hx' hy'; exact hx
      | succ i => exact h2 i x' y' (by simpa using hx') (by simpa using hy')
    · cases h

theorem toArr {α : Type} {x : Array α} {l : List α} (h : x.toList = l) : x = l.toArray := by subst h; simp
theorem trXs_two {c : Array Operand} {x y : Opd} (h : trXs c.toList = some [x, y]) : ∃ x' y', c = #[x', y'] ∧ trX x' = some x ∧ trX y' = some y := by
  obtain ⟨h1, h2⟩ := trXs_spec h
  obtain ⟨l, rfl⟩ : ∃ l : List Operand, c = l.toArray := ⟨c.toList, by simp⟩
  simp only at h1 h2
  match l, h1 with
  | [x', y'], _ => exact ⟨x', y', rfl, h2 0 x' x rfl rfl, h2 1 y' y rfl rfl⟩

theorem run_eq_bool {T : TypeId} (hd : P.underlying T = some .bool) (p q : Bool) : (Op.equal T (.bool p) (.bool q)).run P w = .ok (p == q) w := by
  unfold Op.equal Op.maxDepth
  rw [show (10000 : Nat) = 9999 + 1 from rfl, Op.equalIn]
  simp only [Sem.run_bind, run_underlying hd, Result.andThen_ok]
  rfl
theorem run_eq_ptr {T e : TypeId} (hd : P.underlying T = some (.pointer e)) (p q : Option Addr) (h : p = none ∨ q = none) : (Op.equal T (.pointer p) (.pointer q)).run P w = .ok (p.isNone && q.isNone) w := by
  unfold Op.equal Op.maxDepth
  rw [show (10000 : Nat) = 9999 + 1 from rfl, Op.equalIn]
  simp only [Sem.run_bind, run_underlying hd, Result.andThen_ok]
  cases p <;> cases q <;> first | rfl | simp at h

theorem snd_eq_of {neg : Bool} {T U : TypeId} {x y : Operand} {ux uy : Value} {b : Bool} (ho : o.op = .binOp (if neg then .neq else .eql) T x y U) (hs : HSat C F h w) (hx : a.eval x = ux) (hy : a.eval y = uy)
    (hg : ∀ op, (eqGuard op T x y ux uy).run P w = .ok () w) (h1 : binOp .eql T ux uy = (do pure (.bool (← Op.equal T ux uy)))) (h2 : binOp .neq T ux uy = (do pure (.bool (!(← Op.equal T ux uy))))) (hr : (Op.equal T ux uy).run P w = .ok b w)
    (hK : K (.bool (if neg then !b else b)) h) : o.wp P a w (OpPost C F w a o.dst K) Q := by
  refine wp_pure hs ?_ (.bool _) hK
  unfold execOp
  rw [ho]
  generalize a.eval = ρ at *
  cases neg
  · simp only [Bool.false_eq_true, ↓reduceIte, Sem.run_bind, Sem.run_pure, hx, hy, hg, Result.andThen_ok, h1, hr]
  · simp only [↓reduceIte, Sem.run_bind, Sem.run_pure, hx, hy, hg, Result.andThen_ok, h2, hr]

theorem run_guard_bb {op : BinOp} {T : TypeId} {x y : Operand} {p q : Bool} : (eqGuard op T x y (.bool p) (.bool q)).run P w = .ok () w := by
  unfold eqGuard; cases op <;> simp [go_sem]
theorem run_guard_pp {op : BinOp} {T : TypeId} {x y : Operand} {p q : Option Addr} : (eqGuard op T x y (.pointer p) (.pointer q)).run P w = .ok () w := by
  unfold eqGuard; cases op <;> simp [go_sem]

theorem snd_eqb {neg : Bool} {T U : TypeId} {x y : Operand} {vx vy : V} (ho : o.op = .binOp (if neg then .neq else .eql) T x y U) (hd : P.underlying T = some .bool) (hs : HSat C F h w)
    (hx : Rel F C.B w vx (a.eval x)) (hy : Rel F C.B w vy (a.eval y)) (hK : eqbK neg vx vy fun v => K v h) : o.wp P a w (OpPost C F w a o.dst K) Q := by
  generalize hex : a.eval x = ux at hx
  generalize hey : a.eval y = uy at hy
  cases hx <;> try (simp [eqbK] at hK; done)
  cases hy <;> try (simp [eqbK] at hK; done)
  exact snd_eq_of ho hs hex hey (fun _ => run_guard_bb) rfl rfl (run_eq_bool hd _ _) hK
theorem snd_eqp {neg : Bool} {T U e : TypeId} {x y : Operand} {vx vy : V} (ho : o.op = .binOp (if neg then .neq else .eql) T x y U) (hd : P.underlying T = some (.pointer e)) (hs : HSat C F h w)
    (hx : Rel F C.B w vx (a.eval x)) (hy : Rel F C.B w vy (a.eval y)) (hK : eqpK neg vx vy fun v => K v h) : o.wp P a w (OpPost C F w a o.dst K) Q := by
  generalize hex : a.eval x = ux at hx
  generalize hey : a.eval y = uy at hy
  cases hx <;> try (simp [eqpK, eqP] at hK; done)
  all_goals
    cases hy <;> try (simp [eqpK, eqP] at hK; done)
    all_goals
      simp only [eqpK, eqP] at hK
      exact snd_eq_of ho hs hex hey (fun _ => run_guard_pp) rfl rfl (run_eq_ptr hd _ _ (by simp)) hK

theorem run_guard_aa {op : BinOp} {T : TypeId} {x y : Operand} {p q : Array Value} (hg : P.eqGuardType P.depth T = false) : (eqGuard op T x y (.agg p) (.agg q)).run P w = .ok () w := by
  unfold eqGuard; cases op <;> simp [go_sem, hg]
theorem snd_eqs {neg : Bool} {T U : TypeId} {ts : List Nat} {x y : Operand} {vx vy : V} (ho : o.op = .binOp (if neg then .neq else .eql) T x y U) (hd : (∃ fs, P.underlying T = some (.struct fs)) ∨ (∃ n e, P.underlying T = some (.array n e))) (hf : flatK P 8 T = some ts) (hg : ¬ P.eqGuardType P.depth T = true) (hs : HSat C F h w)
    (hx : Rel F C.B w vx (a.eval x)) (hy : Rel F C.B w vy (a.eval y)) (hK : eqsK neg ts vx vy fun v => K v h) : o.wp P a w (OpPost C F w a o.dst K) Q := by
  generalize hex : a.eval x = ux at hx
  generalize hey : a.eval y = uy at hy
  cases hx <;> try (simp [eqsK] at hK; done)
  cases hy <;> try (simp [eqsK] at hK; done)
  rename_i cs us hl hr ds vs hl2 hr2
  simp only [eqsK] at hK
  split at hK
  · rename_i b hb
    have at1 : At F C.B w cs us 0 := fun i v hv => by
      have hi : i < us.size := by have := (List.getElem?_eq_some_iff.1 hv).1; omega
      exact ⟨us[i], by rw [Nat.zero_add]; exact Array.getElem?_eq_getElem hi, hr i v _ hv (Array.getElem?_eq_getElem hi)⟩
    have at2 : At F C.B w ds vs 0 := fun i v hv => by
      have hi : i < vs.size := by have := (List.getElem?_eq_some_iff.1 hv).1; omega
      exact ⟨vs[i], by rw [Nat.zero_add]; exact Array.getElem?_eq_getElem hi, hr2 i v _ hv (Array.getElem?_eq_getElem hi)⟩
    exact snd_eq_of ho hs hex hey (fun _ => run_guard_aa (by simpa using hg)) rfl rfl ((flatK_ok 9992 8 T ts hf).2 hd F C.B w us vs cs ds b at1 at2 hb) hK
  · exact hK.elim

theorem aop_sound {T : CallT} (hT : CallOk P T) (hC : C.Ok) {ao : AOp} {k : Nat} (ht : trOp P o.op = some ao) (hs : HSat C F h w) (hr : ∀ i : Nat, Rel F C.B w (s.t i) (a.tmps.getD i undef)) (hK : aop T ao (Opd.ev s) h k K) :
    o.wp P a w (OpPost C F w a o.dst K) Q := by
  cases hop : o.op <;> rw [hop] at ht <;> simp only [trOp] at ht
  case move x =>
    simp only [Option.map_eq_some_iff] at ht
    obtain ⟨y, hy, rfl⟩ := ht
    exact snd_mov (.inl hop) hs (ev_rel hr hy) hK
  case assign x =>
    simp only [Option.map_eq_some_iff] at ht
    obtain ⟨y, hy, rfl⟩ := ht
    exact snd_mov (.inr hop) hs (ev_rel hr hy) hK
  case pick c x y =>
    split at ht
    · rename_i c' x' y' hc hx hy
      cases ht
      have hcr := ev_rel hr hc
      simp only [aop] at hK
      split at hK
      · rename_i t hct
        rw [hct] at hcr
        exact snd_pick hop hs hcr (ev_rel hr hx) (ev_rel hr hy) hK
      · exact hK.elim
    · cases ht
  case alloc T =>
    simp only [Option.map_eq_some_iff] at ht
    obtain ⟨z, hz, rfl⟩ := ht
    obtain ⟨_, h1, h2⟩ := hK
    exact snd_alloc hC hop hz hs h1 h2
  case box T x =>
    split at ht
    · rename_i n y hn hy
      cases ht
      obtain ⟨_, h1, h2⟩ := hK
      exact snd_box hC hop hs (ev_rel hr hy) h1 h2
    · cases ht
  case build T parts =>
    split at ht
    · rename_i z fs hz hd
      split at ht
      · rename_i places hp
        simp only [Option.map_eq_some_iff] at ht
        obtain ⟨ps, hps, rfl⟩ := ht
        exact snd_build hop hz hps (.inl ⟨fs, places, hd, hp, rfl⟩) hs hr hK.1 hK.2
      · cases ht
    · rename_i z k e hz hd
      split at ht
      · rename_i n hn
        simp only [Option.map_eq_some_iff] at ht
        obtain ⟨ps, hps, rfl⟩ := ht
        exact snd_build hop hz hps (.inr ⟨k, e, n, hd, hn, rfl⟩) hs hr hK.1 hK.2
      · cases ht
    · cases ht
  case buildSlice T len parts =>
    split at ht
    · rename_i e hd
      split at ht
      · rename_i n z ps hn hz hps
        split at ht
        · rename_i hc
          cases ht
          obtain ⟨_, h1, h2⟩ := hK
          exact snd_bslice hC hop hd hn hz hps hc.1 hc.2.1 hc.2.2.1 hc.2.2.2 hs hr h1 h2
        · cases ht
      · cases ht
    · cases ht
  case load T x =>
    split at ht
    · rename_i n y hg hn hy
      cases ht
      exact snd_loadn hop hg hn hs (ev_rel hr hy) hK
    · rename_i y hg hy
      cases ht
      exact snd_load1 hop hg hs (ev_rel hr hy) hK
    · cases ht
  case store T x v =>
    split at ht
    · rename_i n y u hn hy hu
      cases ht
      exact snd_store hC hop hn hs (ev_rel hr hy) (ev_rel hr hu) hK
    · cases ht
  case nilCheck x =>
    simp only [Option.map_eq_some_iff] at ht
    obtain ⟨y, hy, rfl⟩ := ht
    have hrel := ev_rel hr hy
    simp only [aop] at hK
    split at hK
    · rename_i heq
      exact snd_nilchk hop hs hrel (.inl ⟨_, _, _, _, _, heq⟩) hK
    · rename_i heq
      exact snd_nilchk hop hs hrel (.inr ⟨_, _, heq⟩) hK
    · exact hK.elim
  case binOp op T x y U =>
    split at ht
    · rename_i k x' y' hd hx hy
      cases ht
      exact snd_bin hop hs (ev_rel hr hx) (ev_rel hr hy) hK
    · rename_i x' y' hd hx hy
      cases ht
      exact snd_bin hop hs (ev_rel hr hx) (ev_rel hr hy) hK
    · rename_i x' y' hd hx hy
      split at ht
      · cases ht
        exact snd_eqb (neg := false) hop hd hs (ev_rel hr hx) (ev_rel hr hy) hK
      · cases ht
        exact snd_eqb (neg := true) hop hd hs (ev_rel hr hx) (ev_rel hr hy) hK
      · cases ht
    · rename_i e x' y' hd hx hy
      split at ht
      · cases ht
        exact snd_eqp (neg := false) hop hd hs (ev_rel hr hx) (ev_rel hr hy) hK
      · cases ht
        exact snd_eqp (neg := true) hop hd hs (ev_rel hr hx) (ev_rel hr hy) hK
      · cases ht
    · rename_i fs x' y' hd hx hy
      split at ht
      · rename_i ts hf
        split at ht
        · cases ht
        · rename_i hg
          split at ht
          · cases ht
            exact snd_eqs (neg := false) hop (.inl ⟨_, hd⟩) hf hg hs (ev_rel hr hx) (ev_rel hr hy) hK
          · cases ht
            exact snd_eqs (neg := true) hop (.inl ⟨_, hd⟩) hf hg hs (ev_rel hr hx) (ev_rel hr hy) hK
          · cases ht
      · cases ht
    · rename_i n e x' y' hd hx hy
      split at ht
      · rename_i ts hf
        split at ht
        · cases ht
        · rename_i hg
          split at ht
          · cases ht
            exact snd_eqs (neg := false) hop (.inr ⟨_, _, hd⟩) hf hg hs (ev_rel hr hx) (ev_rel hr hy) hK
          · cases ht
            exact snd_eqs (neg := true) hop (.inr ⟨_, _, hd⟩) hf hg hs (ev_rel hr hx) (ev_rel hr hy) hK
          · cases ht
      · cases ht
    · cases ht
  case unOp op T x =>
    cases op <;> simp only [] at ht
    case not =>
      simp only [Option.map_eq_some_iff] at ht
      obtain ⟨y, hy, rfl⟩ := ht
      have hrel := ev_rel hr hy
      simp only [aop] at hK
      split at hK
      · rename_i b heq
        rw [heq] at hrel
        exact snd_not hop hs hrel hK
      · exact hK.elim
    all_goals cases ht
  case convert src dst x =>
    split at ht
    · rename_i k1 k2 y h1 h2 hy
      cases ht
      have hrel := ev_rel hr hy
      simp only [aop] at hK
      split at hK
      · rename_i kx n heq
        rw [heq] at hrel
        exact snd_conv hop h1 h2 hs hrel hK
      · exact hK.elim
    · rename_i e y h1 h2 hy
      split at ht
      · rename_i he
        cases ht
        obtain ⟨l, hl, hk⟩ := hK
        exact snd_convbs hop h1 he h2 hs (ev_rel hr hy) hl hk
      · cases ht
    · cases ht
  case panic x => cases ht; exact hK.elim
  case makeInterface T x => cases ht; exact hK.elim
  case makeSlice T l c =>
    split at ht
    · rename_i e hd
      split at ht
      · rename_i i z l' c' hi hz hl hc
        split at ht
        · rename_i hcc
          cases ht
          have h1 := ev_rel hr hl
          have h2 := ev_rel hr hc
          simp only [aop] at hK
          split at hK
          · rename_i k1 n k2 m e1 e2
            obtain ⟨_, hn, rfl, _, h3, h4, h5, h6⟩ := hK
            rw [e1] at h1
            rw [e2] at h2
            exact snd_mkslice hC hop hd hi hz hcc.1 hcc.2.1 hs h1 h2 hn h3 h4 h5 h6
          · exact hK.elim
        · cases ht
      · cases ht
    · cases ht
  case slice T x lo hi mx =>
    cases mx with
    | some v => simp only [] at ht; cases ht
    | none =>
      simp only [] at ht
      split at ht
      · rename_i x' lo' hi' hd hx hlo hhi
        cases ht
        have hrel := ev_rel hr hx
        simp only [aop] at hK
        split at hK
        · rename_i l heq
          rw [heq] at hrel
          obtain ⟨p, hK, hp⟩ := lo_rel (l := 0) hlo hr hK
          obtain ⟨q, hK, hq⟩ := hi_rel hhi hr hK
          obtain ⟨h0, h1, h2, h3⟩ := hK
          exact snd_slstr hop hd hs hrel hp hq h0 h1 h2 h3
        · exact hK.elim
      · rename_i e x' lo' hi' hd hx hlo hhi
        simp only [Option.map_eq_some_iff] at ht
        obtain ⟨n, hn, rfl⟩ := ht
        have hrel := ev_rel hr hx
        simp only [aop] at hK
        split at hK
        · rename_i t sz' rows heq
          obtain ⟨rfl, hK⟩ := hK
          rw [heq] at hrel
          obtain ⟨p, hK, hp⟩ := lo_rel (l := 0) hlo hr hK
          obtain ⟨q, hK, hq⟩ := hi_rel hhi hr hK
          obtain ⟨h0, h1, h2, h3⟩ := hK
          exact snd_slsl hop hd hn hs hrel hp hq h0 h1 h2 h3
        · exact hK.elim
      · cases ht
  case fieldAddr T x f =>
    split at ht
    · rename_i fs y hd hy
      split at ht
      · rename_i fl hf
        split at ht
        · rename_i n hn
          split at ht
          · cases ht
          · rename_i hn0
            cases ht
            have hrel := ev_rel hr hy
            simp only [aop] at hK
            split at hK
            · rename_i j b sz i off heq
              rw [heq] at hrel
              generalize hex : a.eval x = ux at hrel
              cases hrel
              rename_i b
              exact snd_faddr (u := undef) hop hd hf hn hn0 hs hex (by rw [Nat.add_assoc]; exact .ptr _ _ _ _ _) hK
            · rename_i t cs heq
              rw [heq] at hrel
              generalize hex : a.eval x = ux at hrel
              cases hrel with
              | rp _ b off _ us hF hc hrr =>
                refine snd_faddr (u := undef) hop hd hf hn hn0 hs hex (.rp t b (off + fl.offset) _ (fun j => us (fl.offset + j)) hF (fun j v hj => ?_) (fun j v hj => ?_)) hK
                · rw [List.getElem?_drop] at hj
                  rw [Nat.add_assoc]
                  exact hc _ v hj
                · rw [List.getElem?_drop] at hj
                  exact hrr _ v hj
            · exact hK.elim
        · cases ht
      · cases ht
    · cases ht
  case field T x f =>
    split at ht
    · rename_i fs y hd hy
      split at ht
      · rename_i fl hf
        split at ht
        · rename_i n hg hn
          cases ht
          have hrel := ev_rel hr hy
          simp only [aop] at hK
          split at hK
          · rename_i cs heq
            rw [heq] at hrel
            exact snd_fldn hop hd hf hg hn hs hrel hK.1 hK.2
          · exact hK.elim
        · rename_i hg
          cases ht
          have hrel := ev_rel hr hy
          simp only [aop] at hK
          split at hK
          · rename_i cs heq
            rw [heq] at hrel
            exact snd_fld1 hop hd hf hg hs hrel hK.1 hK.2
          · exact hK.elim
        · cases ht
      · cases ht
    · cases ht
  case indexAddr T x i =>
    split at ht
    · rename_i e y j hd hy hj
      simp only [Option.map_eq_some_iff] at ht
      obtain ⟨n, hn, rfl⟩ := ht
      have h1 := ev_rel hr hy
      have h2 := ev_rel hr hj
      generalize hex : a.eval x = ux at h1
      generalize hei : a.eval i = ui at h2
      simp only [aop] at hK
      split at hK
      · rename_i t sz' rows ki ii e1 e2
        obtain ⟨rfl, h0, hl, hK⟩ := hK
        rw [e1] at h1
        rw [e2] at h2
        cases h2
        cases h1 with
        | slnil => simp at hl; omega
        | slemp => simp at hl; omega
        | sl _ _ _ b off cap us hF hcap hsz hc hrr =>
          have hlt : ii.toNat < rows.length := by omega
          have hrow : rows[ii.toNat]? = some (rows.getD ii.toNat []) := by rw [List.getD_eq_getElem?_getD, List.getElem?_eq_getElem hlt]; rfl
          refine snd_iaddr hop hd hn hs hex hei h0 hl (.rp t b _ _ (fun q => us ii.toNat q) hF (fun q v hq => ?_) (fun q v hq => ?_)) hK
          · rw [Nat.add_assoc]
            exact hc _ q _ v hrow hq
          · exact hrr _ q _ v hrow hq
      · rename_i k b sz' m ki ii e1 e2
        obtain ⟨rfl, h0, hl, hK⟩ := hK
        rw [e1] at h1
        rw [e2] at h2
        cases h2
        cases h1 with
        | ownnil => simp at hl; omega
        | own _ b _ _ cap c e fr hb hcs hml hn2 => exact snd_iaddr hop hd hn hs hex hei h0 hl (by rw [Nat.zero_add]; exact .ptr k b _ ii.toNat 0) hK
      · exact hK.elim
    · rename_i len e y j hd hy hj
      simp only [Option.map_eq_some_iff] at ht
      obtain ⟨n, hn, rfl⟩ := ht
      have h1 := ev_rel hr hy
      have h2 := ev_rel hr hj
      generalize hex : a.eval x = ux at h1
      generalize hei : a.eval i = ui at h2
      simp only [aop] at hK
      split at hK
      · rename_i k b sz' r off ki ii e1 e2
        obtain ⟨h0, hl, hK⟩ := hK
        rw [e1] at h1
        rw [e2] at h2
        cases h2
        cases h1
        exact snd_iarr hop hd hn hs hex hei h0 hl (by rw [Nat.add_assoc]; exact .ptr _ _ _ _ _) hK
      · rename_i t cs ki ii e1 e2
        obtain ⟨h0, hl, hK⟩ := hK
        rw [e1] at h1
        rw [e2] at h2
        cases h2
        cases h1 with
        | rp _ b off _ us hF hc hrr =>
          refine snd_iarr hop hd hn hs hex hei h0 hl (.rp t b _ _ (fun q => us (ii.toNat * n + q)) hF (fun q v hq => ?_) (fun q v hq => ?_)) hK
          · rw [List.getElem?_drop] at hq
            rw [Nat.add_assoc]
            exact hc _ v hq
          · rw [List.getElem?_drop] at hq
            exact hrr _ v hq
      · exact hK.elim
    · cases ht
  case index T x i =>
    split at ht
    · rename_i y j hd hy hj
      cases ht
      have h1 := ev_rel hr hy
      have h2 := ev_rel hr hj
      simp only [aop] at hK
      split at hK
      · rename_i l ki ii e1 e2
        rw [e1] at h1
        rw [e2] at h2
        exact snd_ixs hop hd hs h1 h2 hK.1 hK.2.1 hK.2.2
      · exact hK.elim
    · rename_i len e y j hd hy hj
      split at ht
      · rename_i g n hg hn
        cases ht
        have h1 := ev_rel hr hy
        have h2 := ev_rel hr hj
        simp only [aop] at hK
        split at hK
        · rename_i cs ki ii e1 e2
          rw [e1] at h1
          rw [e2] at h2
          exact snd_ixa hop hd hg hn hs h1 h2 hK.1 hK.2.1 hK.2.2.1 hK.2.2.2.1 hK.2.2.2.2
        · exact hK.elim
      · cases ht
    · cases ht
  case extract x i =>
    simp only [Option.map_eq_some_iff] at ht
    obtain ⟨y, hy, rfl⟩ := ht
    have h1 := ev_rel hr hy
    simp only [aop] at hK
    split at hK
    · rename_i vs e1
      rw [e1] at h1
      exact snd_ext hop hs h1 hK.1 hK.2
    · exact hK.elim
  case call c =>
    split at ht
    · rename_i f hf
      simp only [Option.map_eq_some_iff] at ht
      obtain ⟨m, hm, rfl⟩ := ht
      obtain ⟨h1, h2⟩ := trXs_spec hm
      simp only [aop] at hK
      refine hT C F w a h K Q o c f #[] _ hC hop ⟨_, hf, rfl⟩ hs (by simpa using h1) (fun i v u hv hu => ?_) hK
      rw [Array.append_empty] at hu
      simp only [List.getElem?_map, Option.map_eq_some_iff] at hv
      obtain ⟨y, hy, rfl⟩ := hv
      simp only [Array.getElem?_map, Option.map_eq_some_iff] at hu
      obtain ⟨x, hx, rfl⟩ := hu
      exact ev_rel hr (h2 i x y (by simpa using hx) hy)
    · rename_i t hf
      simp only [Option.map_eq_some_iff] at ht
      obtain ⟨m, hm, rfl⟩ := ht
      obtain ⟨h1, h2⟩ := trXs_spec hm
      simp only [aop] at hK
      split at hK
      · rename_i f caps heq
        have hrel := hr t
        have heq' : s.t t = .fn f caps := heq
        rw [heq'] at hrel
        generalize hu : a.tmps.getD t undef = u at hrel
        cases hrel with
        | fn _ _ us hlc hrc =>
          refine hT C F w a h K Q o c f us _ hC hop ⟨_, hf, hu⟩ hs (by simp only [Array.size_append, Array.size_map, List.length_append, List.length_map, hlc]; have h3 : c.args.toList.length = c.args.size := Array.length_toList; omega) (fun i v u hv hu => ?_) hK
          have hsz : (c.args.map a.eval).size = (m.map (Opd.ev s)).length := by simp [← h1]
          by_cases hi : i < (m.map (Opd.ev s)).length
          · rw [List.getElem?_append_left hi] at hv
            rw [Array.getElem?_append_left (by omega)] at hu
            simp only [List.getElem?_map, Option.map_eq_some_iff] at hv
            obtain ⟨y, hy, rfl⟩ := hv
            simp only [Array.getElem?_map, Option.map_eq_some_iff] at hu
            obtain ⟨x, hx, rfl⟩ := hu
            exact ev_rel hr (h2 i x y (by simpa using hx) hy)
          · rw [List.getElem?_append_right (by omega)] at hv
            rw [Array.getElem?_append_right (by omega), hsz] at hu
            exact hrc _ v u hv hu
      · exact hK.elim
    · rename_i hf
      split at ht
      · rename_i x T hx hT
        split at ht
        · rename_i hd
          simp only [Option.map_eq_some_iff] at ht
          obtain ⟨y, hy, rfl⟩ := ht
          exact snd_lens hop hf (toArr hx) (toArr hT) hd hs (ev_rel hr hy) hK
        · rename_i e hd
          simp only [Option.map_eq_some_iff] at ht
          obtain ⟨y, hy, rfl⟩ := ht
          exact snd_lenl hop hf (toArr hx) (toArr hT) hd hs (ev_rel hr hy) hK
        · cases ht
      · cases ht
    · rename_i hf
      split at ht
      · rename_i x y hm
        cases ht
        obtain ⟨x', y', hx, h1, h2⟩ := trXs_two hm
        have r1 := ev_rel hr h1
        have r2 := ev_rel hr h2
        simp only [aop] at hK
        split at hK
        · rename_i k1 m1 k2 m2 e1 e2
          obtain ⟨rfl, hK⟩ := hK
          rw [e1] at r1
          rw [e2] at r2
          exact snd_mm (mx := true) hop hf hx hs r1 r2 hK
        · exact hK.elim
      · cases ht
    · rename_i hf
      split at ht
      · rename_i x y hm
        cases ht
        obtain ⟨x', y', hx, h1, h2⟩ := trXs_two hm
        have r1 := ev_rel hr h1
        have r2 := ev_rel hr h2
        simp only [aop] at hK
        split at hK
        · rename_i k1 m1 k2 m2 e1 e2
          obtain ⟨rfl, hK⟩ := hK
          rw [e1] at r1
          rw [e2] at r2
          exact snd_mm (mx := false) hop hf hx hs r1 r2 hK
        · exact hK.elim
      · cases ht
    · rename_i hf
      split at ht
      · rename_i x y T T' hm hT
        split at ht
        · rename_i e e' hd hd'
          split at ht
          · rename_i i z hi hz
            split at ht
            · rename_i hc
              cases ht
              obtain ⟨x', y', hx, h1, h2⟩ := trXs_two hm
              obtain ⟨c1, c2, c3, rfl⟩ := hc
              exact snd_append hC hop hf hx (toArr hT) hd hi hz c1 c2 c3 hs (ev_rel hr h1) (ev_rel hr h2) hK
            · cases ht
          · cases ht
        · cases ht
      · cases ht
    · cases ht
  case makeFunc fn first caps =>
    cases fn <;> simp only [] at ht <;> try (cases ht; done)
    rename_i f
    split at ht
    · rename_i hz
      simp only [Option.map_eq_some_iff] at ht
      obtain ⟨m, hm, rfl⟩ := ht
      obtain ⟨h1, h2⟩ := trXs_spec hm
      have hfe : first = #[] := Array.eq_empty_of_size_eq_zero hz
      subst hfe
      refine wp_pure (u := .func (.func f) #[] (caps.map a.eval)) hs ?_ (.fn f _ _ (by simp [← h1]) fun i v u hv hu => ?_) hK
      · unfold execOp
        rw [hop]
        simp [Instr.makeFunc, Sem.run_bind, Sem.run_pure]
      · simp only [List.getElem?_map, Option.map_eq_some_iff] at hv
        obtain ⟨y, hy, rfl⟩ := hv
        simp only [Array.getElem?_map, Option.map_eq_some_iff] at hu
        obtain ⟨x, hx, rfl⟩ := hu
        exact ev_rel hr (h2 i x y (by simpa using hx) hy)
    · cases ht
  all_goals cases ht
end
end Go.Proofs.Ytdmpbdmgaepndaa.AM
