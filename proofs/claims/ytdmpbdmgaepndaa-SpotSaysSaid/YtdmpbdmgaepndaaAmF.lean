/-
  What a call hands back, as it stands behind the call: what it made is now only read.
-/
import Derived.Test.YtdmpbdmgaepndaaAm17
import Derived.Below
set_option linter.unusedVariables false
set_option linter.unusedSimpArgs false
namespace Go.Proofs.Ytdmpbdmgaepndaa.AM
open Go
open Go.BigFrame
open Go.RowKit (Below)

inductive Fr (h : Hp) : V → V → Prop
  | same (v : V) (hz : Fz v) : Fr h v v
  | nilsl (sz : Nat) : Fr h .nilsl (.sl false sz [])
  | own (k : Nat) (b : Option Nat) (sz n : Nat) (o : Ob) (rows : List (List V)) (hk : h k = some o) (hb : o.b = b) (hs : o.sz = sz) (hn : rows.length = n) (hw : ∀ r ∈ rows, r.length = sz) (hl : n ≤ o.rows.length) (hrl : ∀ (i : Nat) (r r' : List V), o.rows[i]? = some r → rows[i]? = some r' → r.length = r'.length)
      (hr : ∀ (i j : Nat) (r r' : List V) (v v' : V), o.rows[i]? = some r → rows[i]? = some r' → r[j]? = some v → r'[j]? = some v' → Fr h v v') : Fr h (.own k b sz n) (.sl false sz rows)
  | agg (cs cs' : List V) (hl : cs.length = cs'.length) (hr : ∀ (i : Nat) (v v' : V), cs[i]? = some v → cs'[i]? = some v' → Fr h v v') : Fr h (.agg cs) (.agg cs')
  | tup (cs cs' : List V) (hl : cs.length = cs'.length) (hr : ∀ (i : Nat) (v v' : V), cs[i]? = some v → cs'[i]? = some v' → Fr h v v') : Fr h (.tup cs) (.tup cs')

/-- the blocks of what a call made -/
def Made (F : Nat → Prop) (h : Hp) (b : Nat) : Prop := F b ∨ ∃ k o, h k = some o ∧ o.b = some b

theorem Fr.rel {C : Ctx} {F : Nat → Prop} {h : Hp} {w : World} (hs : HSat C F h w) {v v' : V} (hf : Fr h v v') : ∀ {u : Value}, Rel F C.B w v u → Rel (Made F h) (fun _ => False) w v' u := by
  induction hf with
  | same v hz => exact fun hr => (hr.mono (F' := Made F h) (B' := C.B) (fun b hb => .inl hb) (fun b hb => .inr hb)).fz hz
  | nilsl sz => intro u hr; cases hr; exact .slnil _ _
  | own k b sz n o rows hk hb hsz hn hw hl hrl hr ih =>
    intro u hv
    cases hv with
    | ownnil => have : rows = [] := List.eq_nil_of_length_eq_zero hn; subst this; exact .slnil _ _
    | own _ b' _ n' cap c e fr hheap hcs hm hnc =>
      have ho := hs.ob k o hk
      unfold ObSat at ho
      rw [hb] at ho
      obtain ⟨c', cap', hc', h1, h2, h3, h4, h5⟩ := ho
      rw [hheap] at hc'
      cases hc'
      subst hn
      refine .sl false sz rows b' 0 cap (fun i j => (c[i * sz + j]?).getD undef) (.inl (.inr ⟨k, o, hk, hb⟩)) hnc hw (fun i j r v hi hj => ?_) (fun i j r v hi hj => ?_)
      · have hil := (List.getElem?_eq_some_iff.1 hi).1
        have hjl := (List.getElem?_eq_some_iff.1 hj).1
        have hoi : o.rows[i]? = some (o.rows[i]'(by omega)) := List.getElem?_eq_getElem (by omega)
        have hlen := hrl i _ r hoi hi
        obtain ⟨u, hu, h1u, hru⟩ := h5 i j _ _ hoi (List.getElem?_eq_getElem (by omega))
        rw [hsz] at hu
        rw [hu, cell_of_row w b' _ c o.ty (0, 0) hheap]
        have : i * sz + j < c.size := (Array.getElem?_eq_some_iff.1 hu).1
        refine ⟨?_, h1u⟩
        rw [Nat.zero_add]
        exact hu
      · have hil := (List.getElem?_eq_some_iff.1 hi).1
        have hjl := (List.getElem?_eq_some_iff.1 hj).1
        have hoi : o.rows[i]? = some (o.rows[i]'(by omega)) := List.getElem?_eq_getElem (by omega)
        have hlen := hrl i _ r hoi hi
        have hoj : (o.rows[i]'(by omega))[j]? = some ((o.rows[i]'(by omega))[j]'(by omega)) := List.getElem?_eq_getElem (by omega)
        obtain ⟨u, hu, h1u, hru⟩ := h5 i j _ _ hoi hoj
        rw [hsz] at hu
        rw [hu]
        exact ih i j _ r _ v hoi hi hoj hj hru
  | agg cs cs' hl hr ih =>
    intro u hv
    cases hv with
    | agg _ us hsz hrr =>
      refine .agg cs' us (by omega) fun i v u hv hu => ?_
      have hi : i < cs.length := by have := (List.getElem?_eq_some_iff.1 hv).1; omega
      exact ih i cs[i] v (List.getElem?_eq_getElem hi) hv (hrr i cs[i] u (List.getElem?_eq_getElem hi) hu)
  | tup cs cs' hl hr ih =>
    intro u hv
    cases hv with
    | tup _ us hsz hrr =>
      refine .tup cs' us (by omega) fun i v u hv hu => ?_
      have hi : i < cs.length := by have := (List.getElem?_eq_some_iff.1 hv).1; omega
      exact ih i cs[i] v (List.getElem?_eq_getElem hi) hv (hrr i cs[i] u (List.getElem?_eq_getElem hi) hu)

theorem Fr.rows {h : Hp} {k sz n : Nat} {b : Option Nat} {o : Ob} (hk : h k = some o) (hb : o.b = b) (hs : o.sz = sz) (hn : o.rows.length = n) (hw : ∀ r ∈ o.rows, r.length = sz) (hz : ∀ r ∈ o.rows, ∀ v ∈ r, Fz v) : Fr h (.own k b sz n) (.sl false sz o.rows) :=
  .own k b sz n o o.rows hk hb hs hn hw (by omega) (fun i r r' h1 h2 => by rw [h1] at h2; cases h2; rfl) fun i j r r' v v' h1 h2 h3 h4 => by
    rw [h1] at h2; cases h2
    rw [h3] at h4; cases h4
    exact .same _ (hz r (List.mem_of_getElem? h1) v (List.mem_of_getElem? h3))
theorem Fr.agg_nil {h : Hp} : Fr h (.agg []) (.agg []) := .agg _ _ rfl (by simp)
theorem Fr.agg_cons {h : Hp} {v v' : V} {cs cs' : List V} (h1 : Fr h v v') (h2 : Fr h (.agg cs) (.agg cs')) : Fr h (.agg (v :: cs)) (.agg (v' :: cs')) := by
  have key : cs.length = cs'.length ∧ ∀ (i : Nat) (v v' : V), cs[i]? = some v → cs'[i]? = some v' → Fr h v v' := by
    cases h2 with
    | same _ hz => 
      cases hz with
      | agg _ hz => exact ⟨rfl, fun i v v' a b => by rw [a] at b; cases b; exact .same _ (hz _ (List.mem_of_getElem? a))⟩
    | agg _ _ hl hr => exact ⟨hl, hr⟩
  refine .agg _ _ (by simp [key.1]) fun i v v' a b => ?_
  cases i with
  | zero => simp at a b; subst a b; exact h1
  | succ i => exact key.2 i v v' (by simpa using a) (by simpa using b)
theorem Fr.tup_nil {h : Hp} : Fr h (.tup []) (.tup []) := .tup _ _ rfl (by simp)
theorem Fr.tup_cons {h : Hp} {v v' : V} {cs cs' : List V} (h1 : Fr h v v') (h2 : Fr h (.tup cs) (.tup cs')) : Fr h (.tup (v :: cs)) (.tup (v' :: cs')) := by
  have key : cs.length = cs'.length ∧ ∀ (i : Nat) (v v' : V), cs[i]? = some v → cs'[i]? = some v' → Fr h v v' := by
    cases h2 with
    | same _ hz => 
      cases hz with
      | tup _ hz => exact ⟨rfl, fun i v v' a b => by rw [a] at b; cases b; exact .same _ (hz _ (List.mem_of_getElem? a))⟩
    | tup _ _ hl hr => exact ⟨hl, hr⟩
  refine .tup _ _ (by simp [key.1]) fun i v v' a b => ?_
  cases i with
  | zero => simp at a b; subst a b; exact h1
  | succ i => exact key.2 i v v' (by simpa using a) (by simpa using b)

/-- the results, as they stand behind the call -/
def RetF (rv : List RV) (v' : V) (s : S) : Prop := resV s rv fun vs => Fr s.h (oneV vs) v'

theorem spec_frz {P : Program} {f : Nat} {fn : Func} {ac : AC} {rv : List RV} {args : List V} {v' : V} {D : Array Oper → List AO → Bool} (hD : DrawOk P D) (ok : FnOk P f fn ac rv args.length D)
    (hK : ∀ R, (∀ s s', Ent s s' → RetF rv v' s' → R s) → awp std (CallE P) (CallP P) ac (S0 args Hp.emp) R (fun _ _ => False) R) : Spec P f args Hp.emp (Is v') := by
  obtain ⟨c, hb, hc⟩ := Option.bind_eq_some_iff.1 ok.body
  refine ⟨⟨fn, ok.func, ok.name, c, hb⟩, fun C0 us hC0 hl hargs0 _ => ?_⟩
  let C : Ctx := ⟨C0.w0, C0.F0, C0.B, fun _ => False⟩
  have hC : C.Ok := ⟨fun b hb => ⟨(hC0.F0 b hb).1, fun h => h⟩, fun b hb => ⟨(hC0.B b hb).1, fun h => h⟩, fun b hb => hb.elim⟩
  have hargs : ∀ (i : Nat) (v : V) (u : Value), args[i]? = some v → us[i]? = some u → Rel C.F0 C.B C.w0 v u := hargs0
  refine calls_of_wp ok.func hb ?_
  have hs0 : HSat C C.F0 Hp.emp C.w0 := ⟨fun k o hk => by simp [Hp.emp] at hk, fun k k' o o' b hk => by simp [Hp.emp] at hk, fun k o b hk => by simp [Hp.emp] at hk, fun b hb => .inl hb, fun b hb => hb, fun b hb => (hC.F0 b hb).1, Ev.refl _ _⟩
  have hsat : Sat C fn.ntmps (S0 args Hp.emp) { tmps := us ++ Array.replicate (fn.ntmps - us.size) undef, defers := [] } C.w0 := by
    have hn := ok.args
    refine ⟨⟨C.F0, hs0, fun i => ?_⟩, rfl, by simp; omega⟩
    simp only [S0, sl0_eq]
    by_cases hi : i < args.length
    · have hi' : i < us.size := by omega
      have h1 : args[i]? = some (args.getD i .junk) := by rw [List.getD_eq_getElem?_getD, List.getElem?_eq_getElem hi]; rfl
      have h2 : us[i]? = some ((us ++ Array.replicate (fn.ntmps - us.size) undef).getD i undef) := by
        simp [hi', Array.getElem?_append_left]
      exact hargs i _ _ h1 h2
    · have h1 : args.getD i .junk = .junk := by rw [List.getD_eq_getElem?_getD, List.getElem?_eq_none (by omega)]; rfl
      rw [h1]
      exact .junk _
  let fin : S → Prop := fun s => ∃ s', Ent s s' ∧ RetF rv v' s'
  refine wp_mono (awp_sound hD hC c ac _ _ _ fin (fun _ _ => False) fin hc hsat (hK fin fun s s' he hr => ⟨s', he, hr⟩)) fun e a' w' hq => ?_
  have last : (∃ s, Sat C fn.ntmps s a' w' ∧ fin s) → a'.defers = [] ∧ ∃ v, (results fn a'.tmps).run P w' = .ok v w' ∧ ∃ u v_1 h' F', Ending.returned v = .returned u ∧ Rel F' (fun _ => False) w' v_1 u ∧ HSat C0.nb F' h' w' ∧ Is v' v_1 h' := by
    rintro ⟨s1, hs1, s2, hent, hres⟩
    have hs2 := hent C _ a' w' hC hs1
    obtain ⟨F, hh, hr⟩ := hs2.ex
    obtain ⟨vs, us', h1, h2, h3, h4⟩ := res_run hh hr _ _ _ ok.res hres
    have hone : Rel F C.B w' (oneV vs) (if h : us'.toArray.size = 1 then us'.toArray[0] else .tuple us'.toArray) := by
      match vs, us', h2, h3 with
      | [], [], _, _ => exact .tup _ _ rfl (by simp)
      | [v], [u], _, h3 => exact h3 0 v u rfl rfl
      | v1 :: v2 :: vs, u1 :: u2 :: us', h2, h3 =>
        have hne : ¬ ((u1 :: u2 :: us').toArray.size = 1) := by simp
        rw [dif_neg hne]
        exact .tup _ _ (by simpa using h2) fun i v u hv hu => h3 i v u hv (by simpa using hu)
    refine ⟨hs2.df, _, results_run h1, _, v', Hp.emp, Made F s2.h, rfl, Fr.rel hh h4 hone, ⟨fun k o hk => by simp [Hp.emp] at hk, fun k k' o o' b hk => by simp [Hp.emp] at hk, fun k o b hk => by simp [Hp.emp] at hk, fun b hb => ?_, fun b hb => .inl (hh.new b hb), fun b hb => ?_, ?_⟩, rfl, rfl⟩
    · rcases hb with hb | ⟨k, o, hk, hb⟩
      · exact hh.old b hb
      · rcases (hh.live k o b hk hb).2 with h | h
        · exact h.elim
        · exact .inr h
    · rcases hb with hb | ⟨k, o, hk, hb⟩
      · exact hh.lt b hb
      · exact (hh.ob k o hk).lt hb
    · exact hh.ev.mono fun b _ h => h.elim
  cases e with
  | normal => exact last hq
  | ret => exact last hq
  | exit j => obtain ⟨_, _, h⟩ := hq; exact h.elim
  | _ => exact hq.elim

/-- a contract of the library's kind, of plain arguments -/
theorem spec_of_calls {P : Program} {f : Nat} {args : List V} {us0 : Array Value} {v : V} {u0 : Value} (hf : ∃ fn, P.funcs[f]? = some fn ∧ fn.name ≠ "runtime.NumGoroutine" ∧ ∃ c, fn.body = some c)
    (hus : ∀ (F B : Nat → Prop) (w : World) (us : Array Value), us.size = args.length → (∀ (i : Nat) (v : V) (u : Value), args[i]? = some v → us[i]? = some u → Rel F B w v u) → us = us0)
    (hv : ∀ (F B : Nat → Prop) (w : World), Rel F B w v u0) (h : ∀ w, Calls P f us0 w fun e w' => e = .returned u0 ∧ Below w.heap.size w w') : Spec P f args Hp.emp (Is v) := by
  refine ⟨hf, fun C us hC hl hargs _ => ?_⟩
  rw [hus _ _ _ us hl hargs]
  refine (h C.w0).mono ?_
  rintro e w' ⟨rfl, hb⟩
  refine ⟨u0, v, Hp.emp, C.F0, rfl, hv _ _ _, ⟨fun k o hk => by simp [Hp.emp] at hk, fun k k' o o' b hk => by simp [Hp.emp] at hk, fun k o b hk => by simp [Hp.emp] at hk, fun b hb => .inl hb, fun b hb => hb, fun b hb' => Nat.lt_of_lt_of_le (hC.F0 b hb').1 hb.size, ?_⟩, rfl, rfl⟩
  exact ⟨hb.os, hb.tape, hb.output, hb.size, fun b hlt _ => hb.block b hlt, fun b c e fr hc => ⟨c, fr, by rw [hb.block b (Array.getElem?_eq_some_iff.1 hc).1]; exact hc, rfl⟩⟩
end Go.Proofs.Ytdmpbdmgaepndaa.AM
