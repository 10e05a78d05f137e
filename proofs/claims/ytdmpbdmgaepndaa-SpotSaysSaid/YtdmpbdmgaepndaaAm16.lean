/-
  Whole texts of functions against the model.
-/
import Derived.Test.YtdmpbdmgaepndaaAmO
set_option linter.unusedVariables false
set_option linter.unusedSimpArgs false
namespace Go.Proofs.Ytdmpbdmgaepndaa.AM
open Go
open Go.BigFrame

def trC (P : Program) (n : Nat) (D : Array Oper → List AO → Bool) : Code → Option AC
  | .skip => some .skip
  | .region _ ops dr => match trOs P n ops ops.toList with
    | some al => if dr then (if D ops al then some (.region true al) else if predsOk ops then some (.dregion (withPreds ops al)) else none) else some (.region false al)
    | none => none
  | .seq x y => match trC P n D x, trC P n D y with
    | some x, some y => some (.seq x y)
    | _, _ => none
  | .cond c x y => match trX c, trC P n D x, trC P n D y with
    | some c, some x, some y => some (.cond c x y)
    | _, _, _ => none
  | .block id x => (trC P n D x).map (.block id)
  | .loop x => (trC P n D x).map .loop
  | .exit id => some (.exit id)
  | .ret => some .ret
  | .scope x => trC P n D x
  | _ => none

/-- how the text's ways out are stated -/
def QOf (C : Ctx) (n : Nat) (N : S → Prop) (X : Nat → S → Prop) (R : S → Prop) : Exit → Act → World → Prop
  | .normal, a, w => ∃ s, Sat C n s a w ∧ N s
  | .exit j, a, w => ∃ s, Sat C n s a w ∧ X j s
  | .ret, a, w => ∃ s, Sat C n s a w ∧ R s
  | _, _, _ => False

/-- a region that draws its order may be read in the text's order -/
def DrawOk (P : Program) (D : Array Oper → List AO → Bool) : Prop := P.follows .mixedOrders = true ∧
  ∀ (C : Ctx) (n id : Nat) (ops : Array Oper) (al : List AO) (s : S) (a : Act) (w : World) (K : S → Prop) (Q : Exit → Act → World → Prop), C.Ok → trOs P n ops ops.toList = some al → D ops al = true → Sat C n s a w → aops std (CallP P) al s K →
    (∀ s' a' w', Sat C n s' a' w' → K s' → Q .normal a' w') → (Code.region id ops true).wp P Q a w

theorem awp_sound {P : Program} {C : Ctx} {n : Nat} {D : Array Oper → List AO → Bool} (hD : DrawOk P D) (hC : C.Ok) : ∀ (c : Code) (ac : AC) (s : S) (a : Act) (w : World) (N : S → Prop) (X : Nat → S → Prop) (R : S → Prop), trC P n D c = some ac → Sat C n s a w → awp std (CallE P) (CallP P) ac s N X R →
    c.wp P (QOf C n N X R) a w := by
  intro c
  induction c with
  | skip =>
    intro ac s a w N X R ht hs hK
    simp only [trC, Option.some.injEq] at ht
    subst ht
    exact wp_skip ⟨s, hs, hK⟩
  | region id ops dr =>
    intro ac s a w N X R ht hs hK
    simp only [trC] at ht
    split at ht
    · rename_i al hal
      cases dr with
      | false =>
        simp only [Bool.false_eq_true, ↓reduceIte, Option.some.injEq] at ht
        subst ht
        exact wp_region_list (aops_sound callE_ok hC _ _ _ _ _ _ hal hs hK fun s' a' w' h1 h2 => ⟨s', h1, h2⟩)
      | true =>
        simp only [↓reduceIte] at ht
        split at ht
        · rename_i hd
          cases ht
          exact hD.2 C n id ops al s a w N _ hC hal hd hs hK fun s' a' w' h1 h2 => ⟨s', h1, h2⟩
        · split at ht
          · rename_i hp
            cases ht
            refine wp_region_any hD.1 ?_
            have hs2 : Sat C n s a { w with drawn := w.drawn + 1 } := by
              obtain ⟨F, hh, hr⟩ := hs.ex
              have hev : Ev (fun _ => False) w { w with drawn := w.drawn + 1 } := Ev.drew _ w
              refine ⟨⟨F, ⟨fun k o hk => ObSat.keep hC hh hev (fun _ _ h => h.elim) (hh.ob k o hk) (fun _ _ h => h.elim), hh.inj, hh.live, hh.old, hh.new, hh.lt, Ev.weak hh.ev hev fun _ _ h => h.elim⟩, fun i => hh.keep hC hev (fun _ _ h => h.elim) (hr i)⟩, hs.df, hs.sz⟩
            have hlen := (trOs_get' hal).1
            have hal2 : (withPreds ops al).length = ops.size := by simp [withPreds, ← hlen]
            have hK2 : anyA std (CallE P) (withPreds ops al) ops.size [] s N := by
              have hK3 : anyA std (CallE P) (withPreds ops al) (withPreds ops al).length [] s N := hK
              rw [hal2] at hK3
              exact hK3
            refine anyA_sound (Q := QOf C n N X R) hC hal hp (fun s' a' w' h1 h2 => ⟨s', h1, h2⟩) ops.size (List.range ops.size) (Array.replicate ops.size false) [] s a _ (by simp) List.nodup_range (by simp) (fun i => ?_) (fun i hi => by simp [hi]) hs2 hK2
            rw [List.mem_range]
            exact ⟨fun h => ⟨h, by simp [h]⟩, fun h => h.1⟩
          · cases ht
    · cases ht
  | seq x y ihx ihy =>
    intro ac s a w N X R ht hs hK
    simp only [trC] at ht
    split at ht
    · rename_i x' y' hx hy
      cases ht
      refine wp_seq (wp_mono (ihx _ _ _ _ _ _ _ hx hs hK) fun e a' w' hq => ?_)
      cases e with
      | normal => obtain ⟨s', h1, h2⟩ := hq; exact ihy _ _ _ _ _ _ _ hy h1 h2
      | exit j => exact hq
      | ret => exact hq
      | _ => exact hq.elim
    · cases ht
  | cond c x y ihx ihy =>
    intro ac s a w N X R ht hs hK
    simp only [trC] at ht
    split at ht
    · rename_i c' x' y' hc hx hy
      cases ht
      obtain ⟨F, hh, hr⟩ := hs.ex
      have hrel := ev_rel hr hc
      simp only [awp] at hK
      split at hK
      · rename_i t heq
        rw [heq] at hrel
        generalize hec : a.eval c = uc at hrel
        cases hrel
        have hset : ∀ b, t = b → Sat C n (setC c' s b) a w := by
          rintro b rfl
          cases c' with
          | t i => exact hs.setg heq
          | c v => exact hs
        exact wp_cond_split hec (fun ht => ihx _ _ _ _ _ _ _ hx (hset _ ht) (by rw [ht] at hK; exact hK)) (fun ht => ihy _ _ _ _ _ _ _ hy (hset _ ht) (by rw [ht] at hK; exact hK))
      · exact hK.elim
    · cases ht
  | block id x ih =>
    intro ac s a w N X R ht hs hK
    simp only [trC, Option.map_eq_some_iff] at ht
    obtain ⟨x', hx, rfl⟩ := ht
    refine wp_block (wp_mono (ih _ _ _ _ _ _ _ hx hs hK) fun e a' w' hq => ?_)
    cases e with
    | normal => exact hq
    | exit j =>
      obtain ⟨s', h1, h2⟩ := hq
      simp only [Exit.inBlock]
      by_cases hj : j = id
      · rw [if_pos hj] at h2 ⊢
        exact ⟨s', h1, h2⟩
      · rw [if_neg hj] at h2 ⊢
        exact ⟨s', h1, h2⟩
    | ret => exact hq
    | _ => exact hq.elim
  | loop x ih =>
    intro ac s a w N X R ht hs hK
    simp only [trC, Option.map_eq_some_iff] at ht
    obtain ⟨x', hx, rfl⟩ := ht
    obtain ⟨Y, L, H, μ, ⟨s1, h0, y0, h1, h2⟩, hround⟩ := hK
    refine wp_loop_ghost (fun k a w => ∃ y, μ y = k ∧ Sat C n (St (L y) (H y)) a w) (μ y0) ⟨y0, rfl, Ent.st h1 h2 C n a w hC (h0 C n a w hC hs)⟩ ?_
    rintro k a1 w1 ⟨y, rfl, hsat⟩
    refine wp_mono (ih _ _ _ _ _ _ _ hx hsat (hround y)) fun e a' w' hq => ?_
    cases e with
    | normal =>
      obtain ⟨s', h1, s2, h2, y', h3, h4, h5⟩ := hq
      exact ⟨μ y', h5, y', rfl, Ent.st h3 h4 C n a' w' hC (h2 C n a' w' hC h1)⟩
    | exit j => exact hq
    | ret => exact hq
    | _ => exact hq.elim
  | exit id =>
    intro ac s a w N X R ht hs hK
    simp only [trC, Option.some.injEq] at ht
    subst ht
    exact wp_exit ⟨s, hs, hK⟩
  | ret =>
    intro ac s a w N X R ht hs hK
    simp only [trC, Option.some.injEq] at ht
    subst ht
    exact wp_ret ⟨s, hs, hK⟩
  | scope x ih =>
    intro ac s a w N X R ht hs hK
    simp only [trC] at ht
    refine wp_scope_straight (wp_mono (ih _ _ _ _ _ _ _ ht hs hK) fun e a' w' hq => ?_)
    cases e with
    | normal => exact hq
    | exit j => exact hq
    | ret => exact hq
    | _ => exact hq.elim
  | _ => intro ac s a w N X R ht; simp [trC] at ht

/-! results -/
inductive RV where
  | t (i : Nat)
  | c1 (i : Nat)
  | cn (i n : Nat)
def trR (P : Program) : ResultVar → Option RV
  | .tmp t => some (.t t)
  | .cell a T => match isAggT P T, szT P T with
    | some true, some n => some (.cn a n)
    | some false, _ => some (.c1 a)
    | _, _ => none
def trRs (P : Program) : List ResultVar → Option (List RV)
  | [] => some []
  | r :: l => match trR P r, trRs P l with
    | some a, some m => some (a :: m)
    | _, _ => none
def resV (s : S) : List RV → (List V → Prop) → Prop
  | [], K => K []
  | .t i :: l, K => resV s l fun vs => K (s.t i :: vs)
  | .c1 i :: l, K => load1V s.h (s.t i) fun v => resV s l fun vs => K (v :: vs)
  | .cn i n :: l, K => loadnV s.h n (s.t i) fun v => resV s l fun vs => K (v :: vs)
def oneV : List V → V
  | [v] => v
  | vs => .tup vs
/-- what a function's end asks: the results, and which objects are handed back -/
def fin (rv : List RV) (post : V → Hp → Prop) (s : S) : Prop :=
  ∃ s', Ent s s' ∧ resV s' rv fun vs => Fz (oneV vs) ∧ ∃ h', (∀ k o, h' k = some o → s'.h k = some o ∧ o.Fz) ∧ post (oneV vs) h'

section
variable {P : Program} {C : Ctx} {F : Nat → Prop} {n : Nat} {w : World} {a : Act} {s : S}

def resRun (tmps : Array Value) (r : ResultVar) : Sem Value := match r with
  | .tmp t => pure (tmps.getD t undef)
  | .cell a t => do loadVar t (← asAddr (tmps.getD a undef))

theorem res_run (hh : HSat C F s.h w) (hr : ∀ i : Nat, Rel F C.B w (s.t i) (a.tmps.getD i undef)) : ∀ (rs : List ResultVar) (rv : List RV) (K : List V → Prop), trRs P rs = some rv → resV s rv K →
    ∃ vs us, (rs.mapM (resRun a.tmps)).run P w = .ok us w ∧ us.length = vs.length ∧ (∀ (i : Nat) (v : V) (u : Value), vs[i]? = some v → us[i]? = some u → Rel F C.B w v u) ∧ K vs := by
  intro rs
  induction rs with
  | nil =>
    intro rv K ht hK
    simp only [trRs, Option.some.injEq] at ht
    subst ht
    exact ⟨[], [], by simp [Sem.run_pure], rfl, by simp, hK⟩
  | cons r rs ih =>
    intro rv K ht hK
    simp only [trRs] at ht
    split at ht
    · rename_i x m hx hm
      cases ht
      have cons : ∀ (v : V) (u : Value), (resRun a.tmps r).run P w = .ok u w → Rel F C.B w v u → resV s m (fun vs => K (v :: vs)) →
          ∃ vs us, ((r :: rs).mapM (resRun a.tmps)).run P w = .ok us w ∧ us.length = vs.length ∧ (∀ (i : Nat) (v : V) (u : Value), vs[i]? = some v → us[i]? = some u → Rel F C.B w v u) ∧ K vs := by
        intro v u hu hv hk
        obtain ⟨vs, us, h1, h2, h3, h4⟩ := ih m _ hm hk
        refine ⟨v :: vs, u :: us, ?_, by simp [h2], fun i v' u' hv' hu' => ?_, h4⟩
        · rw [List.mapM_cons]
          simp only [Sem.run_bind, hu, Result.andThen_ok, h1, Sem.run_pure]
        · cases i with
          | zero => simp at hv' hu'; subst hv' hu'; exact hv
          | succ i => exact h3 i v' u' (by simpa using hv') (by simpa using hu')
      cases r with
      | tmp t =>
        simp only [trR, Option.some.injEq] at hx
        subst hx
        exact cons (s.t t) (a.tmps.getD t undef) (by simp only [resRun, Sem.run_pure]) (hr t) hK
      | cell ad T =>
        simp only [trR] at hx
        split at hx
        · rename_i n hg hn
          cases hx
          obtain ⟨ad', v, u, hu, hrun, hv, hk⟩ := loadn_core (T := T) hg hn hh (hr ad) hK
          exact cons v u (by simp only [resRun, hu, asAddr, Sem.run_bind, Sem.run_pure, Result.andThen_ok, hrun]) hv hk
        · rename_i hg
          cases hx
          obtain ⟨ad', v, u, hu, hrun, hv, hk⟩ := load1_core (T := T) hg hh (hr ad) hK
          exact cons v u (by simp only [resRun, hu, asAddr, Sem.run_bind, Sem.run_pure, Result.andThen_ok, hrun]) hv hk
        · cases hx
    · cases ht

theorem results_eq (fn : Func) (tmps : Array Value) : results fn tmps = (do let vs ← fn.results.mapM (resRun tmps); pure (if h : vs.size = 1 then vs[0] else .tuple vs)) := rfl
theorem results_run {fn : Func} {us : List Value} (h : (fn.results.toList.mapM (resRun a.tmps)).run P w = .ok us w) : (results fn a.tmps).run P w = .ok (if h : us.toArray.size = 1 then us.toArray[0] else .tuple us.toArray) w := by
  rw [results_eq, Array.mapM_eq_mapM_toList]
  simp only [Sem.run_bind, Sem.run_map, h, Result.andThen_ok, Sem.run_pure]

/-- the slots at a call's begin -/
def sl0 : List V → Nat → V
  | [], _ => .junk
  | v :: _, 0 => v
  | _ :: l, i + 1 => sl0 l i
theorem sl0_eq : ∀ (l : List V) (i : Nat), sl0 l i = l.getD i .junk
  | [], _ => by simp [sl0]
  | v :: l, 0 => by simp [sl0]
  | v :: l, i + 1 => by rw [sl0, sl0_eq l i]; simp
def S0 (args : List V) (hp : Hp) : S := ⟨sl0 args, hp⟩

theorem spec_of {f : Nat} {fn : Func} {c : Code} {ac : AC} {rv : List RV} {args : List V} {hp : Hp} {post : V → Hp → Prop} {D : Array Oper → List AO → Bool} (hD : DrawOk P D) (hf : P.funcs[f]? = some fn) (hname : fn.name ≠ "runtime.NumGoroutine") (hb : fn.body = some c) (hc : trC P fn.ntmps D c = some ac) (hrv : trRs P fn.results.toList = some rv)
    (hn : args.length ≤ fn.ntmps) (hK : awp std (CallE P) (CallP P) ac (S0 args hp) (fin rv post) (fun _ _ => False) (fin rv post)) : Spec P f args hp post := by
  refine ⟨⟨fn, hf, hname, c, hb⟩, fun C us hC hl hargs hhp => ?_⟩
  refine calls_of_wp hf hb ?_
  have hs0 : HSat C C.F0 hp C.w0 := ⟨fun k o hk => (hhp.ob k o hk).mono (fun _ h => h) (fun _ h => h.elim), hhp.inj, hhp.live, hhp.old, hhp.new, hhp.lt, hhp.ev⟩
  have hsat : Sat C fn.ntmps (S0 args hp) { tmps := us ++ Array.replicate (fn.ntmps - us.size) undef, defers := [] } C.w0 := by
    refine ⟨⟨C.F0, hs0, fun i => ?_⟩, rfl, by simp; omega⟩
    simp only [S0, sl0_eq]
    by_cases hi : i < args.length
    · have hi' : i < us.size := by omega
      have h1 : args[i]? = some (args.getD i .junk) := by rw [List.getD_eq_getElem?_getD, List.getElem?_eq_getElem hi]; rfl
      have h2 : us[i]? = some ((us ++ Array.replicate (fn.ntmps - us.size) undef).getD i undef) := by
        simp [hi', Array.getElem?_append_left]
      exact hargs i _ _ h1 h2
    · have h1 : args.getD i .junk = .junk := by rw [List.getD_eq_getElem?_getD, List.getElem?_eq_none (by omega)]; rfl
      rw [h1]
      exact .junk _
  refine wp_mono (awp_sound hD hC c ac _ _ _ _ _ _ hc hsat hK) fun e a' w' hq => ?_
  have last : (∃ s, Sat C fn.ntmps s a' w' ∧ fin rv post s) → a'.defers = [] ∧ ∃ v, (results fn a'.tmps).run P w' = .ok v w' ∧ ∃ u v_1 h' F', Ending.returned v = .returned u ∧ Rel F' (fun _ => False) w' v_1 u ∧ HSat C.nb F' h' w' ∧ post v_1 h' := by
    rintro ⟨s1, hs1, s2, hent, hres⟩
    have hs2 := hent C _ a' w' hC hs1
    obtain ⟨F, hh, hr⟩ := hs2.ex
    obtain ⟨vs, us', h1, h2, h3, h4, h', h5, h6⟩ := res_run hh hr _ _ _ hrv hres
    refine ⟨hs2.df, _, results_run h1, _, oneV vs, h', F, rfl, ?_, ⟨fun k o hk => ?_, fun k k' o o' b hk hk' => hh.inj k k' o o' b (h5 k o hk).1 (h5 k' o' hk').1, fun k o b hk => hh.live k o b (h5 k o hk).1, hh.old, hh.new, hh.lt, hh.ev⟩, h6⟩
    · refine Rel.fz (B := C.B) ?_ h4
      match vs, us', h2, h3 with
      | [], [], _, _ => exact .tup _ _ rfl (by simp)
      | [v], [u], _, h3 => exact h3 0 v u rfl rfl
      | v1 :: v2 :: vs, u1 :: u2 :: us', h2, h3 =>
        have hne : ¬ ((u1 :: u2 :: us').toArray.size = 1) := by simp
        rw [dif_neg hne]
        exact .tup _ _ (by simpa using h2) fun i v u hv hu => h3 i v u hv (by simpa using hu)
    · exact (hh.ob k o (h5 k o hk).1).fz (h5 k o hk).2
  cases e with
  | normal => exact last hq
  | ret => exact last hq
  | exit j => obtain ⟨_, _, h⟩ := hq; exact h.elim
  | _ => exact hq.elim
end
end Go.Proofs.Ytdmpbdmgaepndaa.AM
