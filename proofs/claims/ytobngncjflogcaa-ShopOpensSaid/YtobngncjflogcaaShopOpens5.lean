/-
  Texts of the plain machine, put together: what the law ShopOpens reaches.
-/
import Derived.Test.YtobngncjflogcaaShopOpens3
import Derived.Below
import Derived.Test.YtobngncjflogcaaShopOpens4
set_option linter.unusedVariables false
set_option linter.unusedSimpArgs false
namespace Go.Proofs.Ytobngncjflogcaa.AM
open Go
open Go.BigFrame
open Go.RowKit (Below)

inductive Fr (h : Hp) : V → V → Prop
  | same (v : V) (hz : Fz v) : Fr h v v
  | nilsl (sz : Nat) : Fr h .nilsl (.sl false sz [])
  | own (k : Nat) (b : Option Nat) (sz n : Nat) (o : Ob) (rows : List (List V)) (hk : h k = some o) (hb : o.b = b) (hs : o.sz = sz) (hn : rows.length = n) (hw : ∀ r ∈ rows, r.length = sz) (hl : n ≤ o.rows.length) (hrl : ∀ (i : Nat) (r r' : List V), o.rows[i]? = some r → rows[i]? = some r' → r.length = r'.length)
      (hr : ∀ (i j : Nat) (r r' : List V) (v v' : V), o.rows[i]? = some r → rows[i]? = some r' → r[j]? = some v → r'[j]? = some v' → Fr h v v') : Fr h (.own k b sz n) (.sl false sz rows)
  | agg (cs cs' : List V) (hl : cs.length = cs'.length) (hr : ∀ (i : Nat) (v v' : V), cs[i]? = some v → cs'[i]? = some v' → Fr h v v') : Fr h (.agg cs) (.agg cs')
  | tup (cs cs' : List V) (hl : cs.length = cs'.length) (hr : ∀ (i : Nat) (v v' : V), cs[i]? = some v → cs'[i]? = some v' → Fr h v v') : Fr h (.tup cs) (.tup cs')

/-- the blocks of what a call made -/
def Made (F : Nat → Prop) (h : Hp) (b : Nat) : Prop := F b ∨ ∃ k o, h k = some o ∧ o.b = some b

theorem Fr.rel {C : Ctx} {F : Nat → Prop} {h : Hp} {w : World} (hs : HSat C F h w) {v v' : V} (hf : Fr h v v') : ∀ {u : Value}, Rel F C.B w v u → Rel (Made F h) (fun _ => False) w v' u := by
  induction hf with
  | same v hz => exact fun hr => (hr.mono (F' := Made F h) (B' := C.B) (fun b hb => .inl hb) (fun b hb => .inr hb)).fz hz
  | nilsl sz => intro u hr; cases hr; exact .slnil _ _
  | own k b sz n o rows hk hb hsz hn hw hl hrl hr ih =>
    intro u hv
    cases hv with
    | ownnil => have : rows = [] := List.eq_nil_of_length_eq_zero hn; subst this; exact .slnil _ _
    | own _ b' _ n' cap c e fr hheap hcs hm hnc =>
      have ho := hs.ob k o hk
      unfold ObSat at ho
      rw [hb] at ho
      obtain ⟨c', cap', hc', h1, h2, h3, h4, h5⟩ := ho
      rw [hheap] at hc'
      cases hc'
      subst hn
      refine .sl false sz rows b' 0 cap (fun i j => (c[i * sz + j]?).getD undef) (.inl (.inr ⟨k, o, hk, hb⟩)) hnc hw (fun i j r v hi hj => ?_) (fun i j r v hi hj => ?_)
      · have hil := (List.getElem?_eq_some_iff.1 hi).1
        have hjl := (List.getElem?_eq_some_iff.1 hj).1
        have hoi : o.rows[i]? = some (o.rows[i]'(by omega)) := List.getElem?_eq_getElem (by omega)
        have hlen := hrl i _ r hoi hi
        obtain ⟨u, hu, h1u, hru⟩ := h5 i j _ _ hoi (List.getElem?_eq_getElem (by omega))
        rw [hsz] at hu
        rw [hu, cell_of_row w b' _ c o.ty (0, 0) hheap]
        have : i * sz + j < c.size := (Array.getElem?_eq_some_iff.1 hu).1
        refine ⟨?_, h1u⟩
        rw [Nat.zero_add]
        exact hu
      · have hil := (List.getElem?_eq_some_iff.1 hi).1
        have hjl := (List.getElem?_eq_some_iff.1 hj).1
        have hoi : o.rows[i]? = some (o.rows[i]'(by omega)) := List.getElem?_eq_getElem (by omega)
        have hlen := hrl i _ r hoi hi
        have hoj : (o.rows[i]'(by omega))[j]? = some ((o.rows[i]'(by omega))[j]'(by omega)) := List.getElem?_eq_getElem (by omega)
        obtain ⟨u, hu, h1u, hru⟩ := h5 i j _ _ hoi hoj
        rw [hsz] at hu
        rw [hu]
        exact ih i j _ r _ v hoi hi hoj hj hru
  | agg cs cs' hl hr ih =>
    intro u hv
    cases hv with
    | agg _ us hsz hrr =>
      refine .agg cs' us (by omega) fun i v u hv hu => ?_
      have hi : i < cs.length := by have := (List.getElem?_eq_some_iff.1 hv).1; omega
      exact ih i cs[i] v (List.getElem?_eq_getElem hi) hv (hrr i cs[i] u (List.getElem?_eq_getElem hi) hu)
  | tup cs cs' hl hr ih =>
    intro u hv
    cases hv with
    | tup _ us hsz hrr =>
      refine .tup cs' us (by omega) fun i v u hv hu => ?_
      have hi : i < cs.length := by have := (List.getElem?_eq_some_iff.1 hv).1; omega
      exact ih i cs[i] v (List.getElem?_eq_getElem hi) hv (hrr i cs[i] u (List.getElem?_eq_getElem hi) hu)

theorem Fr.rows {h : Hp} {k sz n : Nat} {b : Option Nat} {o : Ob} (hk : h k = some o) (hb : o.b = b) (hs : o.sz = sz) (hn : o.rows.length = n) (hw : ∀ r ∈ o.rows, r.length = sz) (hz : ∀ r ∈ o.rows, ∀ v ∈ r, Fz v) : Fr h (.own k b sz n) (.sl false sz o.rows) :=
  .own k b sz n o o.rows hk hb hs hn hw (by omega) (fun i r r' h1 h2 => by rw [h1] at h2; cases h2; rfl) fun i j r r' v v' h1 h2 h3 h4 => by
    rw [h1] at h2; cases h2
    rw [h3] at h4; cases h4
    exact .same _ (hz r (List.mem_of_getElem? h1) v (List.mem_of_getElem? h3))
theorem Fr.agg_nil {h : Hp} : Fr h (.agg []) (.agg []) := .agg _ _ rfl (by simp)
theorem Fr.agg_cons {h : Hp} {v v' : V} {cs cs' : List V} (h1 : Fr h v v') (h2 : Fr h (.agg cs) (.agg cs')) : Fr h (.agg (v :: cs)) (.agg (v' :: cs')) := by
  have key : cs.length = cs'.length ∧ ∀ (i : Nat) (v v' : V), cs[i]? = some v → cs'[i]? = some v' → Fr h v v' := by
    cases h2 with
    | same _ hz => 
      cases hz with
      | agg _ hz => exact ⟨rfl, fun i v v' a b => by rw [a] at b; cases b; exact .same _ (hz _ (List.mem_of_getElem? a))⟩
    | agg _ _ hl hr => exact ⟨hl, hr⟩
  refine .agg _ _ (by simp [key.1]) fun i v v' a b => ?_
  cases i with
  | zero => simp at a b; subst a b; exact h1
  | succ i => exact key.2 i v v' (by simpa using a) (by simpa using b)
theorem Fr.tup_nil {h : Hp} : Fr h (.tup []) (.tup []) := .tup _ _ rfl (by simp)
theorem Fr.tup_cons {h : Hp} {v v' : V} {cs cs' : List V} (h1 : Fr h v v') (h2 : Fr h (.tup cs) (.tup cs')) : Fr h (.tup (v :: cs)) (.tup (v' :: cs')) := by
  have key : cs.length = cs'.length ∧ ∀ (i : Nat) (v v' : V), cs[i]? = some v → cs'[i]? = some v' → Fr h v v' := by
    cases h2 with
    | same _ hz => 
      cases hz with
      | tup _ hz => exact ⟨rfl, fun i v v' a b => by rw [a] at b; cases b; exact .same _ (hz _ (List.mem_of_getElem? a))⟩
    | tup _ _ hl hr => exact ⟨hl, hr⟩
  refine .tup _ _ (by simp [key.1]) fun i v v' a b => ?_
  cases i with
  | zero => simp at a b; subst a b; exact h1
  | succ i => exact key.2 i v v' (by simpa using a) (by simpa using b)

/-- the results, as they stand behind the call -/
def RetF (rv : List RV) (v' : V) (s : S) : Prop := resV s rv fun vs => Fr s.h (oneV vs) v'

theorem spec_frz {P : Program} {f : Nat} {fn : Func} {ac : AC} {rv : List RV} {args : List V} {v' : V} {D : Array Oper → List AO → Bool} (hD : DrawOk P D) (ok : FnOk P f fn ac rv args.length D)
    (hK : ∀ R, (∀ s s', Ent s s' → RetF rv v' s' → R s) → awp std (CallE P) (CallP P) ac (S0 args Hp.emp) R (fun _ _ => False) R) : Spec P f args Hp.emp (Is v') := by
  obtain ⟨c, hb, hc⟩ := Option.bind_eq_some_iff.1 ok.body
  refine ⟨⟨fn, ok.func, ok.name, c, hb⟩, fun C0 us hC0 hl hargs0 _ => ?_⟩
  let C : Ctx := ⟨C0.w0, C0.F0, C0.B, fun _ => False⟩
  have hC : C.Ok := ⟨fun b hb => ⟨(hC0.F0 b hb).1, fun h => h⟩, fun b hb => ⟨(hC0.B b hb).1, fun h => h⟩, fun b hb => hb.elim⟩
  have hargs : ∀ (i : Nat) (v : V) (u : Value), args[i]? = some v → us[i]? = some u → Rel C.F0 C.B C.w0 v u := hargs0
  refine calls_of_wp ok.func hb ?_
  have hs0 : HSat C C.F0 Hp.emp C.w0 := ⟨fun k o hk => by simp [Hp.emp] at hk, fun k k' o o' b hk => by simp [Hp.emp] at hk, fun k o b hk => by simp [Hp.emp] at hk, fun b hb => .inl hb, fun b hb => hb, fun b hb => (hC.F0 b hb).1, Ev.refl _ _⟩
  have hsat : Sat C fn.ntmps (S0 args Hp.emp) { tmps := us ++ Array.replicate (fn.ntmps - us.size) undef, defers := [] } C.w0 := by
    have hn := ok.args
    refine ⟨⟨C.F0, hs0, fun i => ?_⟩, rfl, by simp; omega⟩
    simp only [S0, sl0_eq]
    by_cases hi : i < args.length
    · have hi' : i < us.size := by omega
      have h1 : args[i]? = some (args.getD i .junk) := by rw [List.getD_eq_getElem?_getD, List.getElem?_eq_getElem hi]; rfl
      have h2 : us[i]? = some ((us ++ Array.replicate (fn.ntmps - us.size) undef).getD i undef) := by
        simp [hi', Array.getElem?_append_left]
      exact hargs i _ _ h1 h2
    · have h1 : args.getD i .junk = .junk := by rw [List.getD_eq_getElem?_getD, List.getElem?_eq_none (by omega)]; rfl
      rw [h1]
      exact .junk _
  let fin : S → Prop := fun s => ∃ s', Ent s s' ∧ RetF rv v' s'
  refine wp_mono (awp_sound hD hC c ac _ _ _ fin (fun _ _ => False) fin hc hsat (hK fin fun s s' he hr => ⟨s', he, hr⟩)) fun e a' w' hq => ?_
  have last : (∃ s, Sat C fn.ntmps s a' w' ∧ fin s) → a'.defers = [] ∧ ∃ v, (results fn a'.tmps).run P w' = .ok v w' ∧ ∃ u v_1 h' F', Ending.returned v = .returned u ∧ Rel F' (fun _ => False) w' v_1 u ∧ HSat C0.nb F' h' w' ∧ Is v' v_1 h' := by
    rintro ⟨s1, hs1, s2, hent, hres⟩
    have hs2 := hent C _ a' w' hC hs1
    obtain ⟨F, hh, hr⟩ := hs2.ex
    obtain ⟨vs, us', h1, h2, h3, h4⟩ := res_run hh hr _ _ _ ok.res hres
    have hone : Rel F C.B w' (oneV vs) (if h : us'.toArray.size = 1 then us'.toArray[0] else .tuple us'.toArray) := by
      match vs, us', h2, h3 with
      | [], [], _, _ => exact .tup _ _ rfl (by simp)
      | [v], [u], _, h3 => exact h3 0 v u rfl rfl
      | v1 :: v2 :: vs, u1 :: u2 :: us', h2, h3 =>
        have hne : ¬ ((u1 :: u2 :: us').toArray.size = 1) := by simp
        rw [dif_neg hne]
        exact .tup _ _ (by simpa using h2) fun i v u hv hu => h3 i v u hv (by simpa using hu)
    refine ⟨hs2.df, _, results_run h1, _, v', Hp.emp, Made F s2.h, rfl, Fr.rel hh h4 hone, ⟨fun k o hk => by simp [Hp.emp] at hk, fun k k' o o' b hk => by simp [Hp.emp] at hk, fun k o b hk => by simp [Hp.emp] at hk, fun b hb => ?_, fun b hb => .inl (hh.new b hb), fun b hb => ?_, ?_⟩, rfl, rfl⟩
    · rcases hb with hb | ⟨k, o, hk, hb⟩
      · rcases hh.old b hb with h | h | h
        · exact .inl h
        · exact h.elim
        · exact .inr (.inr h)
      · rcases (hh.live k o b hk hb).2 with h | h
        · exact h.elim
        · exact .inr (.inr h)
    · rcases hb with hb | ⟨k, o, hk, hb⟩
      · exact hh.lt b hb
      · exact (hh.ob k o hk).lt hb
    · exact hh.ev.mono fun b _ h => h.elim
  cases e with
  | normal => exact last hq
  | ret => exact last hq
  | exit j => obtain ⟨_, _, h⟩ := hq; exact h.elim
  | _ => exact hq.elim

/-- a contract of the library's kind, of plain arguments -/
theorem spec_of_calls {P : Program} {f : Nat} {args : List V} {us0 : Array Value} {v : V} {u0 : Value} (hf : ∃ fn, P.funcs[f]? = some fn ∧ fn.name ≠ "runtime.NumGoroutine" ∧ ∃ c, fn.body = some c)
    (hus : ∀ (F B : Nat → Prop) (w : World) (us : Array Value), us.size = args.length → (∀ (i : Nat) (v : V) (u : Value), args[i]? = some v → us[i]? = some u → Rel F B w v u) → us = us0)
    (hv : ∀ (F B : Nat → Prop) (w : World), Rel F B w v u0) (h : ∀ w, Calls P f us0 w fun e w' => e = .returned u0 ∧ Below w.heap.size w w') : Spec P f args Hp.emp (Is v) := by
  refine ⟨hf, fun C us hC hl hargs _ => ?_⟩
  rw [hus _ _ _ us hl hargs]
  refine (h C.w0).mono ?_
  rintro e w' ⟨rfl, hb⟩
  refine ⟨u0, v, Hp.emp, C.F0, rfl, hv _ _ _, ⟨fun k o hk => by simp [Hp.emp] at hk, fun k k' o o' b hk => by simp [Hp.emp] at hk, fun k o b hk => by simp [Hp.emp] at hk, fun b hb => .inl hb, fun b hb => hb, fun b hb' => Nat.lt_of_lt_of_le (hC.F0 b hb').1 hb.size, ?_⟩, rfl, rfl⟩
  exact ⟨hb.os, hb.tape, hb.output, hb.size, fun b hlt _ => hb.block b hlt, fun b c e fr hc => ⟨c, fr, by rw [hb.block b (Array.getElem?_eq_some_iff.1 hc).1]; exact hc, rfl⟩⟩
end Go.Proofs.Ytobngncjflogcaa.AM

set_option linter.unusedVariables false
set_option linter.unusedSimpArgs false
namespace Go.Proofs.Ytobngncjflogcaa.AM
open Go
open Go.BigFrame

theorem HEnt.refl (h : Hp) : HEnt h h := fun _ F _ _ hs => ⟨F, fun _ h => h, hs⟩
theorem HEnt.trans {a b c : Hp} (h : HEnt a b) (h' : HEnt b c) : HEnt a c := fun C F w hC hs => by
  obtain ⟨F1, h1, hs1⟩ := h C F w hC hs
  obtain ⟨F2, h2, hs2⟩ := h' C F1 w hC hs1
  exact ⟨F2, fun b hb => h2 b (h1 b hb), hs2⟩

/-- a cell that is a slice of nothing may be said to be an object of the call's own -/
theorem HEnt.nilcell {h : Hp} {k k' ty sz r c : Nat} {o : Ob} {row : List V} (hk : h k = some o) (hr : o.rows[r]? = some row) (hc : row[c]? = some .nilsl) (hk' : h k' = none) :
    HEnt h (Hp.put (Hp.put h k ⟨o.b, o.ty, o.sz, o.rows.set r (row.set c (.own k' none sz 0))⟩) k' ⟨none, ty, sz, []⟩) := by
  intro C F w hC hs
  refine ⟨F, fun _ h => h, ?_⟩
  have hne : k ≠ k' := fun e => by rw [e, hk'] at hk; cases hk
  have look : ∀ j q, (Hp.put (Hp.put h k ⟨o.b, o.ty, o.sz, o.rows.set r (row.set c (.own k' none sz 0))⟩) k' ⟨none, ty, sz, []⟩) j = some q →
      (j = k' ∧ q = ⟨none, ty, sz, []⟩) ∨ (j ≠ k' ∧ j = k ∧ q = ⟨o.b, o.ty, o.sz, o.rows.set r (row.set c (.own k' none sz 0))⟩) ∨ (j ≠ k' ∧ j ≠ k ∧ h j = some q) := by
    intro j q hj
    simp only [Hp.put] at hj
    by_cases h1 : j = k'
    · rw [if_pos h1] at hj; cases hj; exact .inl ⟨h1, rfl⟩
    · rw [if_neg h1] at hj
      by_cases h2 : j = k
      · rw [if_pos h2] at hj; cases hj; exact .inr (.inl ⟨h1, h2, rfl⟩)
      · rw [if_neg h2] at hj; exact .inr (.inr ⟨h1, h2, hj⟩)
  have blk : ∀ j q b, (Hp.put (Hp.put h k ⟨o.b, o.ty, o.sz, o.rows.set r (row.set c (.own k' none sz 0))⟩) k' ⟨none, ty, sz, []⟩) j = some q → q.b = some b → ∃ q', h j = some q' ∧ q'.b = some b := by
    intro j q b hj hb
    rcases look j q hj with ⟨_, rfl⟩ | ⟨_, rfl, rfl⟩ | ⟨_, _, hq⟩
    · cases hb
    · exact ⟨o, hk, hb⟩
    · exact ⟨q, hq, hb⟩
  refine ⟨fun j q hj => ?_, fun j j' q q' b hj hj' hb hb' => ?_, fun j q b hj hb => ?_, hs.old, hs.new, hs.lt, hs.ev⟩
  · rcases look j q hj with ⟨_, rfl⟩ | ⟨_, rfl, rfl⟩ | ⟨_, _, hq⟩
    · exact (show ObSat F C.B w ⟨none, ty, sz, []⟩ from rfl)
    · have ho := hs.ob j o hk
      unfold ObSat at ho ⊢
      simp only
      cases hb : o.b with
      | none =>
        rw [hb] at ho
        simp only at ho ⊢
        rw [ho] at hr
        simp at hr
      | some b =>
        rw [hb] at ho
        obtain ⟨cs, cap, h1, h2, h3, h4, h5, h6⟩ := ho
        have hrl := (List.getElem?_eq_some_iff.1 hr).1
        refine ⟨cs, cap, h1, h2, h3, by simpa using h4, fun r' hr' => ?_, fun i l r' v hi hl => ?_⟩
        · rcases List.mem_or_eq_of_mem_set hr' with h | h
          · exact h5 r' h
          · rw [h, List.length_set]; exact h5 row (List.mem_of_getElem? hr)
        · rw [List.getElem?_set] at hi
          by_cases hir : r = i
          · subst hir
            rw [if_pos rfl, if_pos hrl] at hi
            cases hi
            rw [List.getElem?_set] at hl
            by_cases hlc : c = l
            · subst hlc
              rw [if_pos rfl] at hl
              obtain ⟨u, hu, h1u, hru⟩ := h6 r c row .nilsl hr hc
              split at hl
              · cases hl
                refine ⟨u, hu, h1u, ?_⟩
                cases hru
                exact .ownnil _ _
              · cases hl
            · rw [if_neg hlc] at hl
              exact h6 r l row v hr hl
          · rw [if_neg hir] at hi
            exact h6 i l r' v hi hl
    · exact hs.ob j q hq
  · obtain ⟨p, hp, hpb⟩ := blk j q b hj hb
    obtain ⟨p', hp', hpb'⟩ := blk j' q' b hj' hb'
    exact hs.inj j j' p p' b hp hp' hpb hpb'
  · obtain ⟨p, hp, hpb⟩ := blk j q b hj hb
    exact hs.live j p b hp hpb

/-- plain values: no object of the call's own in them -/
def V.pl : V → Bool
  | .own .. => false
  | .win .. => false
  | .ptr .. => false
  | .agg _ => false
  | .tup _ => false
  | _ => true
theorem V.pl_ren {v : V} (h : v.pl = true) (f : Nat → Nat) : v.ren f = v := by cases v <;> first | rfl | cases h
theorem args_plain {h : Hp} {m : List (Nat × Nat)} : ∀ {l : List V}, l.all V.pl = true → Args h m l l
  | [], _ => .nil
  | v :: l, hl => by
    simp only [List.all_cons, Bool.and_eq_true] at hl
    refine .cons ?_ (args_plain hl.2)
    have := Arg.same (h := h) (m := m) v
    rwa [V.pl_ren hl.1] at this

/-- a call that is handed one object -/
theorem call1 {P : Program} {f k sz : Nat} {b : Option Nat} {rest : List V} {o : Ob} {post : V → List (Nat × Ob) → Prop} (hs : Spec P f (.ptr 0 b sz 0 0 :: rest) (lookH [(0, o)]) fun v' h' => ∃ L', post v' L' ∧ h' = lookH L') (hpost : ∀ v L', post v L' → ∃ o', L' = [(0, o')])
    (hrest : rest.all V.pl = true) (ho : ∀ g, o.ren g = o) (hz : o.Fz) {h : Hp} {K : V → Hp → Prop} (hk : h k = some o) (hK : ∀ v o', post v [(0, o')] → K (v.ren (lab [(0, k)])) (h.put k (o'.ren (lab [(0, k)])))) : CallE P f (.ptr k b sz 0 0 :: rest) h K := by
  refine ⟨h, HEnt.refl h, [(0, k)], _, _, _, hs, .cons ?_ (args_plain hrest), fun j q hj => ?_, fun p hp => ?_, ?_⟩
  · have := Arg.same (h := h) (m := [(0, k)]) (.ptr k b sz 0 0)
    simpa [V.ren, V.rl, bal] using this
  · simp only [lookH] at hj
    split at hj
    · rename_i h0; exact ⟨(0, k), by simp, h0.symm⟩
    · cases hj
  · simp only [List.mem_singleton] at hp
    subst hp
    refine ⟨by simp [lab], by simp [bal], fun q hq => ?_⟩
    simp only [lookH, ↓reduceIte, Option.some.injEq] at hq
    subst hq
    exact ⟨by rw [hk, Option.map_some, ho], hz⟩
  · rintro v' h' ⟨L', hp, rfl⟩
    obtain ⟨o', rfl⟩ := hpost _ _ hp
    have e : h.upd [(0, k)] (lookH [(0, o')]) = h.put k (o'.ren (lab [(0, k)])) := by
      funext i
      unfold Hp.upd Hp.put
      simp only [List.any_cons, List.any_nil, Bool.or_false, decide_eq_true_eq]
      by_cases hi : k = i
      · rw [if_pos hi, if_pos hi.symm, ← hi]
        simp [bal, lookH]
      · rw [if_neg hi, if_neg (fun e => hi e.symm)]
    rw [e]
    exact hK v' o' hp

theorem resV_mono {s : S} : ∀ (rv : List RV) (K K' : List V → Prop), (∀ x, K x → K' x) → resV s rv K → resV s rv K' := by
  intro rv
  induction rv with
  | nil => intro K K' hK h; exact hK _ h
  | cons r rv ih =>
    intro K K' hK h
    cases r with
    | t i => exact ih _ _ (fun x hx => hK _ hx) h
    | c1 i =>
      simp only [resV] at h ⊢
      unfold load1V at h ⊢
      split at h
      · unfold rowC at h ⊢
        split at h
        · obtain ⟨a1, a2, a3, a4, a5⟩ := h
          exact ⟨a1, a2, a3, a4, ih _ _ (fun x hx => hK _ hx) a5⟩
        · exact h.elim
      · exact ⟨h.1, ih _ _ (fun x hx => hK _ hx) h.2⟩
      · exact h.elim
    | cn i n =>
      simp only [resV] at h ⊢
      unfold loadnV at h ⊢
      split at h
      · unfold rowC at h ⊢
        split at h
        · obtain ⟨a1, a2, a3, a4, a5⟩ := h
          exact ⟨a1, a2, a3, a4, ih _ _ (fun x hx => hK _ hx) a5⟩
        · exact h.elim
      · exact ⟨h.1, ih _ _ (fun x hx => hK _ hx) h.2⟩
      · exact h.elim

/-- a method that is handed some objects, numbered from 0 -/
theorem spec_meth {P : Program} {f : Nat} {fn : Func} {ac : AC} {rv : List RV} {args : List V} {L : List (Nat × Ob)} {D : Array Oper → List AO → Bool} (hD : DrawOk P D) (ok : FnOk P f fn ac rv args.length D) (post : V → List (Nat × Ob) → Prop)
    (h : ∀ R : S → Prop, (∀ (s s' : S) (v : V) (L' : List (Nat × Ob)), Ent s s' → resV s' rv (fun x => oneV x = v) → agreeH L' s' → Fz v → (∀ p ∈ L', p.2.Fz) → post v L' → R s) → awp std (CallE P) (CallP P) ac (S0 args (lookH L)) R (fun _ _ => False) R) :
    Spec P f args (lookH L) (fun v h' => ∃ L', post v L' ∧ h' = lookH L') := by
  obtain ⟨c, hc, hac⟩ := Option.bind_eq_some_iff.1 ok.body
  refine spec_of hD ok.func ok.name hc hac ok.res ok.args (h _ fun s s' v L' he hr ha hz hzL hp => ⟨s', he, ?_⟩)
  refine resV_mono rv _ _ (fun x hx => ?_) hr
  subst hx
  refine ⟨hz, lookH L', fun k o hk => ?_, L', hp, rfl⟩
  refine ⟨lookH_agree ha k o hk, ?_⟩
  have : ∀ (l : List (Nat × Ob)), (∀ p ∈ l, p.2.Fz) → ∀ k o, lookH l k = some o → o.Fz := by
    intro l
    induction l with
    | nil => intro _ k o hk; cases hk
    | cons p l ih =>
      intro hl k o hk
      simp only [lookH] at hk
      split at hk
      · cases hk; exact hl p (by simp)
      · exact ih (fun q hq => hl q (by simp [hq])) k o hk
  exact this L' hzL k o hk
end Go.Proofs.Ytobngncjflogcaa.AM

set_option linter.unusedVariables false
set_option linter.unusedSimpArgs false
namespace Go.Proofs.Ytobngncjflogcaa.AM
open Go
set_option maxRecDepth 100000
set_option maxHeartbeats 2000000

theorem encPart_fz (p : Part) : ∀ v ∈ encPart p, Fz v := by
  intro v hv
  simp only [encPart, List.mem_cons, List.not_mem_nil, or_false] at hv
  rcases hv with rfl | rfl | rfl
  · exact .int _ _
  · exact .int _ _
  · exact .str _
theorem encParts_fz (d : List Part) : ∀ r ∈ d.map encPart, ∀ v ∈ r, Fz v := by
  intro r hr
  obtain ⟨p, _, rfl⟩ := List.mem_map.1 hr
  exact encPart_fz p


theorem mem_of_lookH : ∀ {L : List (Nat × Ob)} {k : Nat} {o : Ob}, lookH L k = some o → (k, o) ∈ L
  | [], _, _, h => by cases h
  | (j, q) :: L, k, o, h => by
    simp only [lookH] at h
    split at h
    · rename_i hk; cases h; rw [hk]; exact List.mem_cons_self
    · exact List.mem_cons_of_mem _ (mem_of_lookH h)
theorem callG {P : Program} {f : Nat} {args args' : List V} {L : List (Nat × Ob)} {m : List (Nat × Nat)} {post : V → List (Nat × Ob) → Prop} (hs : Spec P f args' (lookH L) fun v' h' => ∃ L', post v' L' ∧ h' = lookH L') {h : Hp} {K : V → Hp → Prop} (ha : Args h m args args')
    (hdom : ∀ k o, lookH L k = some o → ∃ q ∈ m, q.1 = k) (hm : ∀ q ∈ m, lab m q.1 = q.2 ∧ bal m q.2 = q.1 ∧ ∀ o, lookH L q.1 = some o → (h q.2).map (Ob.ren (bal m)) = some o ∧ o.Fz)
    (hK : ∀ v L', post v L' → K (v.ren (lab m)) (h.upd m (lookH L'))) : CallE P f args h K :=
  ⟨h, HEnt.refl h, m, args', lookH L, _, hs, ha, hdom, hm, by rintro v h' ⟨L', hp, rfl⟩; exact hK v L' hp⟩







end Go.Proofs.Ytobngncjflogcaa.AM

set_option linter.unusedVariables false
set_option linter.unusedSimpArgs false
namespace Go.Proofs.Ytobngncjflogcaa.AM
open Go

def doT : List Tok → List UInt8 → List UInt8
  | [], _ => []
  | .put b :: ts, s => b :: doT ts s
  | .keep :: ts, s => s.take 1 ++ doT ts (s.drop 1)
  | .cut :: ts, s => doT ts (s.drop 1)
def doP : List (List UInt8) → List Bool → List UInt8 → List UInt8
  | p :: ps, k :: ks, s => p ++ (if k then s.take 1 else []) ++ doP ps ks (s.drop 1)
  | p :: _, [], _ => p
  | [], _, _ => []
theorem doP_consHead (b : UInt8) (l : List (List UInt8)) (ks : List Bool) (s : List UInt8) (h : l ≠ []) : doP (consHead b l) ks s = b :: doP l ks s := by
  cases l with
  | nil => exact absurd rfl h
  | cons p r => cases ks <;> simp [consHead, doP]
theorem puts_nn (ts : List Tok) : puts ts ≠ [] := by obtain ⟨p, r, h⟩ := puts_ne ts; rw [h]; simp
theorem doP_eq (ts : List Tok) (s : List UInt8) : doP (puts ts) (kepts ts) s = doT ts s := by
  induction ts generalizing s with
  | nil => rfl
  | cons t ts ih =>
    cases t
    · simp [puts, kepts, doP, doT, ih]
    · simp only [puts, kepts, doT]
      rw [doP_consHead _ _ _ _ (puts_nn ts), ih]
    · simp [puts, kepts, doP, doT, ih]
def inT (ts : List Tok) : Nat := (kepts ts).length
theorem inT_app (a b : List Tok) : inT (a ++ b) = inT a + inT b := by simp [inT, kepts_app]




end Go.Proofs.Ytobngncjflogcaa.AM

set_option linter.unusedVariables false
set_option linter.unusedSimpArgs false
namespace Go.Proofs.Ytobngncjflogcaa.AM
open Go

def partOk (p : Part) : Prop := (p.kind = 2 ∧ p.n = 0 ∧ p.text ≠ []) ∨ ((p.kind = 1 ∨ p.kind = 3) ∧ 0 < p.n ∧ p.text = [])
def formOk : Int → List Part → Prop
  | _, [] => True
  | last, p :: l => partOk p ∧ p.kind ≠ last ∧ ¬ (last = 3 ∧ p.kind = 2) ∧ formOk p.kind l
def lastK : Int → List Part → Int
  | k, [] => k
  | _, p :: l => lastK p.kind l
theorem formOk_app (k : Int) (a b : List Part) : formOk k (a ++ b) ↔ formOk k a ∧ formOk (lastK k a) b := by
  induction a generalizing k with
  | nil => simp [formOk, lastK]
  | cons p a ih =>
    simp only [List.cons_append, formOk, lastK, ih]
    constructor
    · rintro ⟨a, b, c, d, e⟩; exact ⟨⟨a, b, c, d⟩, e⟩
    · rintro ⟨⟨a, b, c, d⟩, e⟩; exact ⟨a, b, c, d, e⟩
theorem lastK_app (k : Int) (a b : List Part) : lastK k (a ++ b) = lastK (lastK k a) b := by
  induction a generalizing k with
  | nil => rfl
  | cons p a ih => simp [lastK, ih]
structure Mk.Ok (m : Mk) : Prop where
  form : formOk 0 m.out
  last : lastK 0 m.out = 1 ∨ lastK 0 m.out = 0
  cut : 0 ≤ m.cut
theorem Mk.Ok.flush {m : Mk} (h : m.Ok) : formOk 0 m.flush := by
  obtain ⟨h1, h2, h3⟩ := h
  unfold Mk.flush
  by_cases hp : m.put = []
  · rw [if_pos hp, List.append_nil, formOk_app]
    refine ⟨h1, ?_⟩
    by_cases hc : 0 < m.cut
    · rw [if_pos hc]
      exact ⟨.inr ⟨.inr rfl, hc, rfl⟩, by show (3 : Int) ≠ _; omega, by show ¬ (_ ∧ (3 : Int) = 2); omega, trivial⟩
    · rw [if_neg hc]; trivial
  · rw [if_neg hp, formOk_app, formOk_app, lastK_app]
    refine ⟨⟨h1, .inl ⟨rfl, rfl, hp⟩, by show (2 : Int) ≠ _; omega, by show ¬ (_ ∧ (2 : Int) = 2); omega, trivial⟩, ?_⟩
    by_cases hc : 0 < m.cut
    · rw [if_pos hc]
      exact ⟨.inr ⟨.inr rfl, hc, rfl⟩, by show (3 : Int) ≠ 2; omega, by show ¬ (_ ∧ (3 : Int) = 2); omega, trivial⟩
    · rw [if_neg hc]; trivial
theorem addKeep_ok {o : List Part} {n : Int} (h : formOk 0 o) (hn : 0 < n) : formOk 0 (addKeep o n) ∧ lastK 0 (addKeep o n) = 1 := by
  unfold addKeep
  cases hl : o.getLast? with
  | none =>
    have : o = [] := by simpa using hl
    subst this
    exact ⟨⟨.inr ⟨.inl rfl, hn, rfl⟩, by show (1 : Int) ≠ 0; omega, by show ¬ (_ ∧ (1 : Int) = 2); omega, trivial⟩, rfl⟩
  | some p =>
    obtain ⟨a, rfl⟩ : ∃ a, o = a ++ [p] := by
      have hne : o ≠ [] := by intro h0; subst h0; simp at hl
      refine ⟨o.dropLast, ?_⟩
      have := List.dropLast_concat_getLast hne
      rw [List.getLast?_eq_some_getLast hne] at hl
      cases hl
      exact this.symm
    rw [formOk_app] at h
    obtain ⟨h1, h2, h3, h4, _⟩ := h
    by_cases hk : p.kind = 1
    · simp only [hk, ↓reduceIte, List.dropLast_concat]
      rw [formOk_app, lastK_app]
      refine ⟨⟨h1, ?_, ?_, by show ¬ (_ ∧ (1 : Int) = 2); omega, trivial⟩, rfl⟩
      · rcases h2 with ⟨h, _⟩ | ⟨_, h5, h6⟩
        · omega
        · exact .inr ⟨.inl rfl, by show 0 < p.n + n; omega, h6⟩
      · rw [hk] at h3; exact h3
    · simp only [hk, ↓reduceIte]
      rw [formOk_app, lastK_app, lastK_app]
      refine ⟨⟨(formOk_app _ _ _).2 ⟨h1, h2, h3, h4, trivial⟩, .inr ⟨.inl rfl, hn, rfl⟩, ?_, by show ¬ (_ ∧ (1 : Int) = 2); omega, trivial⟩, rfl⟩
      show (1 : Int) ≠ p.kind
      omega
theorem Mk.Ok.tok {m : Mk} (h : m.Ok) (t : Tok) : (m.tok t).Ok := by
  cases t
  · have := addKeep_ok h.flush (n := 1) (by omega)
    simp only [Mk.tok, Mk.doKeep]
    rw [if_neg (by omega)]
    exact ⟨this.1, .inl this.2, Int.le_refl _⟩
  · exact ⟨h.form, h.last, h.cut⟩
  · exact ⟨h.form, h.last, by show 0 ≤ m.cut + 1; have := h.cut; omega⟩
theorem Mk.Ok.run {m : Mk} (h : m.Ok) (ts : List Tok) : (m.run ts).Ok := by
  induction ts generalizing m with
  | nil => exact h
  | cons t ts ih => exact ih (h.tok t)
end Go.Proofs.Ytobngncjflogcaa.AM

set_option linter.unusedVariables false
set_option linter.unusedSimpArgs false
namespace Go.Proofs.Ytobngncjflogcaa.AM
open Go
set_option maxRecDepth 100000
set_option maxHeartbeats 2000000
def strRows (l : List (List UInt8)) : List (List V) := l.map fun s => [.str s]
def boolRows (l : List Bool) : List (List V) := l.map fun b => [.bool b]
theorem puts_app_n (ts : List Tok) (x : Tok) (hx : x = .keep ∨ x = .cut) (n : Nat) : puts (ts ++ List.replicate n x) = puts ts ++ List.replicate n [] := by
  induction n generalizing ts with
  | zero => simp
  | succ n ih => rw [List.replicate_succ, show ts ++ x :: List.replicate n x = (ts ++ [x]) ++ List.replicate n x by simp, ih, puts_app_step _ _ hx]; simp [List.replicate_succ]

theorem kepts_app_n (ts : List Tok) (x : Tok) (hx : x = .keep ∨ x = .cut) (n : Nat) : kepts (ts ++ List.replicate n x) = kepts ts ++ List.replicate n (decide (x = .keep)) := by
  rw [kepts_app]
  congr 1
  induction n with
  | zero => rfl
  | succ n ih => rcases hx with rfl | rfl <;> simp [List.replicate_succ, kepts, ih]
theorem kepts_le (ts : List Tok) : (kepts ts).length ≤ ts.length := by
  induction ts with
  | nil => simp [kepts]
  | cons t ts ih => cases t <;> simp [kepts] <;> omega
theorem toks1_len (p : Part) (h : 0 ≤ p.n ∧ p.n ≤ 500 ∧ p.text.length ≤ 500) : (toks1 p).length ≤ 500 := by
  unfold toks1
  split
  · simp; omega
  · split <;> simp <;> omega
theorem toks_len (l : List Part) (h : ∀ p ∈ l, 0 ≤ p.n ∧ p.n ≤ 500 ∧ p.text.length ≤ 500) : (toks l).length ≤ 500 * l.length := by
  induction l with
  | nil => simp [toks]
  | cons p l ih =>
    have h1 := toks1_len p (h p (by simp))
    have h2 := ih fun q hq => h q (by simp [hq])
    simp only [toks, List.length_append, List.length_cons]
    omega
theorem puts_bd (ts : List Tok) : ∀ s ∈ puts ts, s.length ≤ ts.length := by
  induction ts with
  | nil => simp [puts]
  | cons t ts ih =>
    intro s hs
    cases t
    · simp only [puts, List.mem_cons] at hs
      rcases hs with rfl | hs
      · simp
      · have := ih s hs; simp; omega
    · simp only [puts] at hs
      obtain ⟨p, r, h⟩ := puts_ne ts
      rw [h] at hs ih
      simp only [consHead, List.mem_cons] at hs
      rcases hs with rfl | hs
      · have := ih p (by simp); simp; omega
      · have := ih s (by simp [hs]); simp; omega
    · simp only [puts, List.mem_cons] at hs
      rcases hs with rfl | hs
      · simp
      · have := ih s hs; simp; omega
theorem puts_last (ts : List Tok) (t : List UInt8) : ∃ q, (puts ts)[(kepts ts).length]? = some q ∧ q.length ≤ ts.length ∧ puts (ts ++ t.map .put) = (puts ts).set (kepts ts).length (q ++ t) := by
  have hl := puts_len ts
  rw [puts_app_put]
  obtain ⟨init, q, h⟩ : ∃ init q, puts ts = init ++ [q] := ⟨(puts ts).dropLast, (puts ts).getLast (puts_nn ts), (List.dropLast_concat_getLast (puts_nn ts)).symm⟩
  have hi : (kepts ts).length = init.length := by rw [h] at hl; simp at hl; omega
  refine ⟨q, by rw [h, hi]; simp, puts_bd ts q (by rw [h]; simp), ?_⟩
  rw [h, hi]
  simp [appLast]

def ac_rof : AC := .seq (.region false [
    ⟨some 2, none, .alloc 176 [(.slice none 0 0), (.slice none 0 0)]⟩])
  (.seq (.region false [
    ⟨some 6, none, .bslice 9 1 [(.c (.string ⟨#[]⟩))]⟩,
    ⟨some 7, none, .build [(.slice none 0 0), (.slice none 0 0)] [(0, 1, (.t 6))]⟩,
    ⟨some 3, none, .alloc 176 [(.slice none 0 0), (.slice none 0 0)]⟩,
    ⟨none, none, .store 2 (.t 3) (.t 7)⟩])
  (.seq (.seq (.region false [
    ⟨some 8, none, .mov (.t 0)⟩,
    ⟨some 9, none, .len false (.t 8)⟩,
    ⟨some 10, none, .mov (.c (.int .i64 0))⟩])
  (.block 0 (.loop (.seq (.region false [
      ⟨some 11, none, .bin .lss (.t 10) (.t 9)⟩])
    (.seq (.cond (.t 11)
      (.skip)
      (.exit 0))
    (.seq (.block 1 (.seq (.region false [
      ⟨some 12, none, .iaddr 3 (.t 8) (.t 10)⟩,
      ⟨some 13, none, .loadn 3 (.t 12)⟩,
      ⟨some 5, none, .alloc 108 [(.int .i64 0), (.int .i64 0), (.string ⟨#[]⟩)]⟩,
      ⟨none, none, .store 3 (.t 5) (.t 13)⟩])
    (.seq (.seq (.region false [
      ⟨some 14, none, .faddr 0 (.t 5)⟩,
      ⟨some 15, none, .load1 (.t 14)⟩,
      ⟨some 16, none, .bin .eql (.t 15) (.c (.int .i64 2))⟩])
    (.cond (.t 16)
      (.seq (.region true [
        ⟨some 17, none, .faddr 0 (.t 3)⟩,
        ⟨some 18, none, .load1 (.t 17)⟩,
        ⟨some 19, none, .faddr 0 (.t 3)⟩,
        ⟨some 20, none, .load1 (.t 19)⟩,
        ⟨some 21, none, .len false (.t 20)⟩,
        ⟨some 22, none, .bin .sub (.t 21) (.c (.int .i64 1))⟩,
        ⟨some 23, none, .iaddr 1 (.t 18) (.t 22)⟩,
        ⟨some 24, none, .load1 (.t 23)⟩,
        ⟨some 25, none, .faddr 2 (.t 5)⟩,
        ⟨some 26, none, .load1 (.t 25)⟩,
        ⟨some 27, none, .bin .add (.t 24) (.t 26)⟩,
        ⟨some 28, none, .iaddr 1 (.t 18) (.t 22)⟩,
        ⟨none, none, .store 1 (.t 28) (.t 27)⟩])
      (.exit 1))
      (.skip)))
    (.seq (.region false [
      ⟨some 29, none, .faddr 1 (.t 5)⟩,
      ⟨some 30, none, .load1 (.t 29)⟩,
      ⟨some 31, none, .mov (.c (.int .i64 0))⟩])
    (.block 2 (.loop (.seq (.region false [
        ⟨some 32, none, .bin .lss (.t 31) (.t 30)⟩])
      (.seq (.cond (.t 32)
        (.skip)
        (.exit 2))
      (.seq (.block 3 (.seq (.region false [
        ⟨some 33, none, .faddr 1 (.t 3)⟩,
        ⟨some 34, none, .load1 (.t 33)⟩,
        ⟨some 35, none, .faddr 0 (.t 5)⟩,
        ⟨some 36, none, .load1 (.t 35)⟩,
        ⟨some 37, none, .bin .eql (.t 36) (.c (.int .i64 1))⟩,
        ⟨some 38, none, .bslice 4 1 [(.t 37)]⟩,
        ⟨some 39, none, .append 4 1 1 (.t 34) (.t 38)⟩,
        ⟨some 40, none, .faddr 1 (.t 3)⟩,
        ⟨none, none, .store 1 (.t 40) (.t 39)⟩])
      (.region false [
        ⟨some 41, none, .faddr 0 (.t 3)⟩,
        ⟨some 42, none, .load1 (.t 41)⟩,
        ⟨some 43, none, .bslice 9 1 [(.c (.string ⟨#[]⟩))]⟩,
        ⟨some 44, none, .append 9 1 16 (.t 42) (.t 43)⟩,
        ⟨some 45, none, .faddr 0 (.t 3)⟩,
        ⟨none, none, .store 1 (.t 45) (.t 44)⟩])))
      (.region false [
        ⟨some 46, none, .bin .add (.t 31) (.c (.int .i64 1))⟩,
        ⟨some 31, none, .mov (.t 46)⟩]))))))))))
    (.region false [
      ⟨some 47, none, .bin .add (.t 10) (.c (.int .i64 1))⟩,
      ⟨some 10, none, .mov (.t 47)⟩])))))))
  (.seq (.region false [
    ⟨some 48, none, .loadn 2 (.t 3)⟩,
    ⟨none, none, .store 2 (.t 2) (.t 48)⟩])
  (.ret))))
theorem ok_rof : FnOk Try.prog 107 Try.f107 ac_rof [.cn 2 2] 1 drawD := ⟨Try.func107, by decide +kernel, by kernel_rfl, by kernel_rfl, by decide +kernel⟩
structure YOf (d : List Part) where
  k : Int
  pre : List Part
  rest : List Part
  pr : List (List V)
  kr : List (List V)
  np : Nat
  nk : Nat
  bp : Option Nat
  bk : Option Nat
  hd : d = pre ++ rest
  hk : k = pre.length
  hpr : pr = strRows (puts (toks pre))
  hkr : kr = boolRows (kepts (toks pre))
  hnp : np = pr.length
  hnk : nk = kr.length
structure YOf2 (ts : List Tok) (x : Tok) (n : Int) where
  r : Int
  pr : List (List V)
  kr : List (List V)
  np : Nat
  nk : Nat
  bp : Option Nat
  bk : Option Nat
  h0 : 0 ≤ r ∧ r ≤ n
  hpr : pr = strRows (puts (ts ++ List.replicate r.toNat x))
  hkr : kr = boolRows (kepts (ts ++ List.replicate r.toNat x))
  hnp : np = pr.length
  hnk : nk = kr.length
/-- a loop begins: a cell that is nil is an object of the call's own -/
theorem Ent.nilcell {s : S} {k k' ty sz r c : Nat} {o : Ob} {row : List V} (hk : s.h k = some o) (hr : o.rows[r]? = some row) (hc : row[c]? = some .nilsl) (hk' : s.h k' = none) :
    Ent s ⟨s.t, Hp.put (Hp.put s.h k ⟨o.b, o.ty, o.sz, o.rows.set r (row.set c (.own k' none sz 0))⟩) k' ⟨none, ty, sz, []⟩⟩ := by
  intro C n a w hC hs
  obtain ⟨F, h1, h2⟩ := hs.ex
  obtain ⟨F', hF, h1'⟩ := HEnt.nilcell hk hr hc hk' C F w hC h1
  exact ⟨⟨F', h1', fun i => (h2 i).mono hF (fun _ h => .inr h)⟩, hs.df, hs.sz⟩
theorem vc_rof (P : Prim) (hP : P = std) (T T1 : CallT) (d : List Part) (hd1 : d.length ≤ 1600) (hd2 : ∀ p ∈ d, 0 ≤ p.n ∧ p.n ≤ 500 ∧ p.text.length ≤ 500) (rows : List (List V)) (hrows : rows = d.map encPart)
    (pr kr : List (List V)) (hpr : pr = strRows (puts (toks d))) (hkr : kr = boolRows (kepts (toks d))) (R : S → Prop)
    (hR : ∀ (s s' : S) (np nk : Nat) (bp bk : Option Nat) (pr2 kr2 : List (List V)), Ent s s' → Ret [.cn 2 2] [.agg [.own 1000006 bp 1 np, .own 1000039 bk 1 nk]] s' → s'.h 1000006 = some ⟨bp, 9, 1, pr2⟩ → s'.h 1000039 = some ⟨bk, 4, 1, kr2⟩ →
      pr2 = pr ∧ kr2 = kr ∧ np = pr.length ∧ nk = kr.length → R s) : awp P T T1 ac_rof (S0 [.sl true 3 rows] Hp.emp) R (fun _ _ => False) R := by
  cbv
  intro β2
  cbv
  intro β6
  cbv
  intro β3
  cbv
  have hl : P.rlen rows = d.length := by subst hP; simp [std, hrows]
  refine ⟨YOf d, fun y => [(0, .sl true 3 rows), (2, .ptr 2 (some β2) 2 0 0), (3, .ptr 3 (some β3) 2 0 0), (8, .sl true 3 rows), (9, .int .i64 (P.rlen rows)), (10, .int .i64 y.k)],
    fun y => [(2, ⟨some β2, 176, 2, [[.nilsl, .nilsl]]⟩), (3, ⟨some β3, 176, 2, [[.own 1000006 y.bp 1 y.np, .own 1000039 y.bk 1 y.nk]]⟩), (1000006, ⟨y.bp, 9, 1, y.pr⟩), (1000039, ⟨y.bk, 4, 1, y.kr⟩)], fun y => y.rest.length,
    ⟨_, Ent.nilcell (k := 3) (k' := 1000039) (ty := 4) (sz := 1) (r := 0) (c := 1) rfl rfl rfl rfl, ⟨0, [], d, _, _, _, _, _, _, ?_, ?_, ?_, ?_, ?_, ?_⟩, ⟨rfl, rfl, rfl, rfl, rfl, rfl, trivial⟩, ⟨rfl, rfl, rfl, rfl, trivial⟩⟩, ?_⟩
  · rfl
  · rfl
  · rfl
  · rfl
  · rfl
  · rfl
  rintro ⟨k, pre, rest, pr1, kr1, np, nk, bp, bk, hd, hk, hpr1, hkr1, hnp, hnk⟩
  cbv
  have hl2 : P.rlen rows = pre.length + rest.length := by subst hP; simp [std, hrows, hd]
  have hl3 : pre.length + rest.length ≤ 1600 := by rw [hd] at hd1; simpa using hd1
  have htl := toks_len pre fun p hp => hd2 p (by simp [hd, hp])
  have hkl : (kepts (toks pre)).length ≤ (toks pre).length := kepts_le _
  have hnp2 : np = (kepts (toks pre)).length + 1 := by rw [hnp, hpr1, strRows, List.length_map, puts_len]
  have hnk2 : nk = (kepts (toks pre)).length := by rw [hnk, hkr1, boolRows, List.length_map]
  refine br_cases (fun h => ?_) (fun h => ?_)
  · rcases rest with _ | ⟨⟨kd, n, t⟩, rest⟩
    · (exfalso; clear hR; subst hP; simp [std, nc] at *; first | omega | grind)
    have hb := hd2 ⟨kd, n, t⟩ (by simp [hd])
    simp only at hb
    have hrow := row_at hrows hd hk P hP
    cbv
    refine ⟨by subst hP; simp [std, hk], _, hrow, ?_⟩
    clear hrow
    cbv
    intro β5
    cbv
    refine br_cases (fun h => ?_) (fun h => ?_)
    · -- a text is put
      have hkd : kd = 2 := by clear hR; subst hP; simpa [std] using h
      obtain ⟨q, hq, hql, happ⟩ := puts_last (toks pre) t
      have hrow2 : P.row pr1 (P.nat (P.sub (P.int np) 1)) [.str q] := by
        clear hR; subst hP; rw [hpr1, hnp2]; simp only [std]; rw [show (((kepts (toks pre)).length + 1 : Nat) : Int) - 1 = ((kepts (toks pre)).length : Int) by omega, Int.toNat_natCast]; simp [strRows, hq]
      have ho1 : P.i64 (P.sub (P.int np) 1) := by clear hR; subst hP; simp only [std, I64]; omega
      have ho2 : P.leP 0 (P.sub (P.int np) 1) := by clear hR; subst hP; simp only [std]; omega
      have ho3 : P.ltP (P.sub (P.int np) 1) (P.int np) := by clear hR; subst hP; simp only [std]; omega
      have ho4 : P.i64 (P.add (P.slen q) (P.slen t)) := by clear hR; subst hP; simp only [std, I64]; omega
      have ho5 : P.i64 (P.add k 1) := by clear hR; subst hP; simp only [std, I64]; rw [hk]; simp only [nc]; omega
      cbv
      repeat' (first | (intro β; try cbv) | (refine And.intro (by assumption) ?_; try cbv) | (refine br_cases (fun h => ?_) (fun h => ?_) <;> try cbv) | (refine Exists.intro _ (And.intro (by assumption) ?_); try cbv) | (refine hc1 _ _ ?_; try cbv) | (refine hc2 _ _ ?_; try cbv) | (refine hc3 _ _ ?_; try cbv) | (refine hc4 _ _ ?_; try cbv) | (refine hc5 _ _ ?_; try cbv) | (refine hc6 _ _ ?_; try cbv) | (refine And.intro (by (clear hR; subst hP; simp [std, I64, nc] at * <;> first | omega | grind)) ?_; try cbv))
      all_goals
        refine ⟨_, Ent.refl _, ⟨_, pre ++ [⟨kd, n, t⟩], rest, _, _, _, _, _, _, ?_, ?_, ?_, ?_, ?_, ?_⟩, ⟨rfl, rfl, rfl, rfl, rfl, rfl, trivial⟩, ⟨rfl, rfl, rfl, rfl, trivial⟩, by simp⟩
      all_goals (clear hR hrow2 ho1 ho2 ho3 ho4 ho5; subst hP)
      · simp [hd]
      · simp [std, hk]
      · rw [toks_app, show toks [⟨kd, n, t⟩] = t.map .put by simp [toks, toks1, hkd], happ, hpr1, hnp2]
        simp only [std]
        rw [show (((kepts (toks pre)).length + 1 : Nat) : Int) - 1 = ((kepts (toks pre)).length : Int) by omega, Int.toNat_natCast]
        simp [strRows, List.map_set]
      · rw [toks_app, show toks [⟨kd, n, t⟩] = t.map .put by simp [toks, toks1, hkd], kepts_app, kepts_put, List.append_nil, hkr1]
      · simp [std, hnp]
      · exact hnk
    · -- bytes are kept, or cut
      have hkd : kd ≠ 2 := by clear hR; subst hP; simpa [std] using h
      have hx : (if kd = 1 then Tok.keep else Tok.cut) = .keep ∨ (if kd = 1 then Tok.keep else Tok.cut) = .cut := by split <;> simp
      have ht1 : toks1 ⟨kd, n, t⟩ = List.replicate n.toNat (if kd = 1 then Tok.keep else Tok.cut) := by simp only [toks1, if_neg hkd]; split <;> rfl
      cbv
      refine ⟨YOf2 (toks pre) (if kd = 1 then Tok.keep else Tok.cut) n, fun y => [(0, .sl true 3 rows), (2, .ptr 2 (some β2) 2 0 0), (3, .ptr 3 (some β3) 2 0 0), (5, .ptr 5 (some β5) 3 0 0), (8, .sl true 3 rows), (9, .int .i64 (P.rlen rows)), (10, .int .i64 k), (30, .int .i64 n), (31, .int .i64 y.r)],
        fun y => [(2, ⟨some β2, 176, 2, [[.nilsl, .nilsl]]⟩), (3, ⟨some β3, 176, 2, [[.own 1000006 y.bp 1 y.np, .own 1000039 y.bk 1 y.nk]]⟩), (5, ⟨some β5, 108, 3, [[.int .i64 kd, .int .i64 n, .str t]]⟩), (1000006, ⟨y.bp, 9, 1, y.pr⟩), (1000039, ⟨y.bk, 4, 1, y.kr⟩)], fun y => (n - y.r).toNat,
        ⟨_, Ent.refl _, ⟨0, pr1, kr1, np, nk, bp, bk, ⟨Int.le_refl _, hb.1⟩, by simpa using hpr1, by simpa using hkr1, hnp, hnk⟩, ⟨rfl, rfl, rfl, rfl, rfl, rfl, rfl, rfl, rfl, trivial⟩, ⟨rfl, rfl, rfl, rfl, rfl, trivial⟩⟩, ?_⟩
      clear hnp2 hnk2
      rintro ⟨r, pr2, kr2, np, nk, bp, bk, h0, hpr2, hkr2, hnp, hnk⟩
      have hnk2 : nk = (kepts (toks pre)).length + r.toNat := by rw [hnk, hkr2, boolRows, List.length_map, kepts_app_n _ _ hx]; simp
      have hnp2 : np = (kepts (toks pre)).length + r.toNat + 1 := by rw [hnp, hpr2, strRows, List.length_map, puts_len, kepts_app_n _ _ hx]; simp
      cbv
      refine br_cases (fun h => ?_) (fun h => ?_)
      · have hrn : r < n := by clear hR; subst hP; simpa [std] using h
        have ho1 : P.bytes (P.add (P.int nk) (P.rlen [[.bool (P.eq kd 1)]])) 1 := by clear hR; subst hP; simp [std]; omega
        have ho2 : P.bytes (P.add (P.int np) (P.rlen [[.str []]])) 16 := by clear hR; subst hP; simp [std]; omega
        have ho3 : P.neP kr2 nk := by clear hR; subst hP; simp [std, hnk]
        have ho4 : P.neP pr2 np := by clear hR; subst hP; simp [std, hnp]
        have ho5 : P.i64 (P.add r 1) := by clear hR; subst hP; simp only [std, I64]; omega
        cbv
        repeat' (first | (intro β; try cbv) | (refine And.intro (by assumption) ?_; try cbv) | (refine br_cases (fun h => ?_) (fun h => ?_) <;> try cbv) | (refine Exists.intro _ (And.intro (by assumption) ?_); try cbv) | (refine hc1 _ _ ?_; try cbv) | (refine hc2 _ _ ?_; try cbv) | (refine hc3 _ _ ?_; try cbv) | (refine hc4 _ _ ?_; try cbv) | (refine hc5 _ _ ?_; try cbv) | (refine hc6 _ _ ?_; try cbv) | (refine And.intro (by (clear hR; subst hP; simp [std, I64, nc] at * <;> first | omega | grind)) ?_; try cbv))
        all_goals
          refine ⟨_, Ent.refl _, ⟨_, _, _, _, _, _, _, ?_, ?_, ?_, ?_, ?_⟩, ⟨rfl, rfl, rfl, rfl, rfl, rfl, rfl, rfl, rfl, trivial⟩, ⟨rfl, rfl, rfl, rfl, rfl, trivial⟩, ?_⟩
        all_goals (clear hR ho1 ho2 ho3 ho4 ho5; subst hP)
        · simp only [std]; omega
        · simp only [std]
          rw [show (r + 1).toNat = r.toNat + 1 by omega, puts_app_n _ _ hx, hpr2, puts_app_n _ _ hx]
          simp [strRows, List.replicate_succ']
        · simp only [std]
          rw [show (r + 1).toNat = r.toNat + 1 by omega, kepts_app_n _ _ hx, hkr2, kepts_app_n _ _ hx]
          simp only [boolRows, List.replicate_succ', List.map_append, List.append_assoc]
          congr 2
          by_cases h1 : kd = 1 <;> simp [h1]
        · simp [std, hnp]
        · simp [std, hnk]
        · simp only [std]; omega
      · have hrn : r = n := by clear hR; subst hP; simp [std] at h; omega
        have ho5 : P.i64 (P.add k 1) := by clear hR; subst hP; simp only [std, I64]; rw [hk]; simp only [nc]; omega
        cbv
        repeat' (first | (intro β; try cbv) | (refine And.intro (by assumption) ?_; try cbv) | (refine br_cases (fun h => ?_) (fun h => ?_) <;> try cbv) | (refine Exists.intro _ (And.intro (by assumption) ?_); try cbv) | (refine hc1 _ _ ?_; try cbv) | (refine hc2 _ _ ?_; try cbv) | (refine hc3 _ _ ?_; try cbv) | (refine hc4 _ _ ?_; try cbv) | (refine hc5 _ _ ?_; try cbv) | (refine hc6 _ _ ?_; try cbv) | (refine And.intro (by (clear hR; subst hP; simp [std, I64, nc] at * <;> first | omega | grind)) ?_; try cbv))
        all_goals
          refine ⟨_, Ent.refl _, ⟨_, pre ++ [⟨kd, n, t⟩], rest, _, _, _, _, _, _, ?_, ?_, ?_, ?_, ?_, ?_⟩, ⟨rfl, rfl, rfl, rfl, rfl, rfl, trivial⟩, ⟨rfl, rfl, rfl, rfl, trivial⟩, by simp⟩
        all_goals (clear hR ho5; subst hP)
        · simp [hd]
        · simp [std, hk]
        · rw [hpr2, toks_app, show toks [⟨kd, n, t⟩] = toks1 ⟨kd, n, t⟩ by simp [toks], ht1, hrn]
        · rw [hkr2, toks_app, show toks [⟨kd, n, t⟩] = toks1 ⟨kd, n, t⟩ by simp [toks], ht1, hrn]
        · exact hnp
        · exact hnk
  · have hrest : rest = [] := by
      cases rest with
      | nil => rfl
      | cons p rest => (exfalso; clear hR; subst hP; simp [std, nc] at *; first | omega | grind)
    subst hrest
    rw [List.append_nil] at hd
    subst hd
    cbv
    exact hR _ _ np nk bp bk pr1 kr1 (Ent.refl _) ⟨rfl, rfl, Nat.zero_lt_one, Nat.le_refl _, rfl⟩ rfl rfl ⟨hpr1.trans hpr.symm, hkr1.trans hkr.symm, by rw [hnp, hpr1, hpr], by rw [hnk, hkr1, hkr]⟩
theorem strRows_fz (l : List (List UInt8)) : ∀ r ∈ strRows l, ∀ v ∈ r, Fz v := by
  intro r hr v hv
  obtain ⟨s, _, rfl⟩ := List.mem_map.1 hr
  simp only [List.mem_singleton] at hv
  subst hv; exact .str _
theorem boolRows_fz (l : List Bool) : ∀ r ∈ boolRows l, ∀ v ∈ r, Fz v := by
  intro r hr v hv
  obtain ⟨s, _, rfl⟩ := List.mem_map.1 hr
  simp only [List.mem_singleton] at hv
  subst hv; exact .bool _
theorem strRows_sz (l : List (List UInt8)) : ∀ r ∈ strRows l, r.length = 1 := by
  intro r hr; obtain ⟨s, _, rfl⟩ := List.mem_map.1 hr; rfl
theorem boolRows_sz (l : List Bool) : ∀ r ∈ boolRows l, r.length = 1 := by
  intro r hr; obtain ⟨s, _, rfl⟩ := List.mem_map.1 hr; rfl
/-- places as a value -/
def encPl (ps : List (List UInt8)) (ks : List Bool) : V := .agg [.sl false 1 (strRows ps), .sl false 1 (boolRows ks)]
theorem sp_rof (d : List Part) (hd1 : d.length ≤ 1600) (hd2 : ∀ p ∈ d, 0 ≤ p.n ∧ p.n ≤ 500 ∧ p.text.length ≤ 500) : Spec Try.prog 107 [.sl true 3 (d.map encPart)] Hp.emp (Is (encPl (puts (toks d)) (kepts (toks d)))) :=
  spec_frz dOk ok_rof fun R hR => vc_rof std rfl _ _ d hd1 hd2 _ rfl _ _ rfl rfl R fun s s' np nk bp bk pr2 kr2 he hr h1 h2 h3 => hR s s' he (by
    obtain ⟨rfl, rfl, rfl, rfl⟩ := h3
    refine resV_mono _ _ _ (fun x hx => ?_) hr
    subst hx
    exact .agg_cons (.rows h1 rfl rfl rfl (strRows_sz _) (strRows_fz _)) (.agg_cons (.rows h2 rfl rfl rfl (boolRows_sz _) (boolRows_fz _)) .agg_nil))
end Go.Proofs.Ytobngncjflogcaa.AM

set_option linter.unusedVariables false
set_option linter.unusedSimpArgs false
namespace Go.Proofs.Ytobngncjflogcaa.AM
open Go
set_option maxRecDepth 100000
set_option maxHeartbeats 2000000
structure Mk.Bd (m : Mk) (j w : Nat) : Prop where
  len : m.out.length ≤ 3 * j
  cut : 0 ≤ m.cut ∧ m.cut ≤ j
  ns : ∀ p ∈ m.out, 0 ≤ p.n ∧ p.n ≤ j
  put : m.put.length ≤ w
theorem Mk.Bd.doPut {m : Mk} {j w : Nat} (h : m.Bd j w) (s : List UInt8) : (m.doPut s).Bd j (w + s.length) := ⟨h.len, h.cut, h.ns, by have := h.put; simp [Mk.doPut]; omega⟩
theorem Mk.Bd.doCut {m : Mk} {j w : Nat} (h : m.Bd j w) (n : Int) (hn : 0 ≤ n) : (m.doCut n).Bd (j + n.toNat) w :=
  ⟨by have := h.len; simp only [Mk.doCut]; omega, by have := h.cut; simp only [Mk.doCut]; omega, fun p hp => by have := h.ns p hp; omega, h.put⟩
theorem Mk.Bd.flush {m : Mk} {j w : Nat} (h : m.Bd j w) : m.flush.length ≤ 3 * j + 2 ∧ ∀ p ∈ m.flush, 0 ≤ p.n ∧ p.n ≤ j := by
  have h1 := h.len
  have h2 := h.cut
  refine ⟨?_, fun p hp => ?_⟩
  · unfold Mk.flush
    split <;> split <;> simp <;> omega
  · unfold Mk.flush at hp
    rw [List.mem_append, List.mem_append] at hp
    rcases hp with (hp | hp) | hp
    · exact h.ns p hp
    · split at hp
      · cases hp
      · simp at hp; subst hp; simp
    · split at hp
      · simp at hp; subst hp; exact h2
      · cases hp
theorem Mk.Bd.doKeep {m : Mk} {j w : Nat} (h : m.Bd j w) (n : Int) (hn : 0 ≤ n) : (m.doKeep n).Bd (j + n.toNat) w := by
  unfold Mk.doKeep
  by_cases h0 : n = 0
  · subst h0; simpa using h
  rw [if_neg h0]
  obtain ⟨h1, h2⟩ := h.flush
  refine ⟨?_, by simp; omega, fun p hp => ?_, by simp⟩
  · simp only [addKeep]
    split
    · split
      · simp; omega
      · simp; omega
    · simp; omega
  · simp only [addKeep] at hp
    split at hp
    · rename_i q hq
      split at hp
      · rcases List.mem_append.1 hp with hp | hp
        · have := h2 p ((List.dropLast_sublist _).mem hp); omega
        · simp at hp; subst hp
          have := h2 q (List.mem_of_getLast? hq)
          simp only; omega
      · rcases List.mem_append.1 hp with hp | hp
        · have := h2 p hp; omega
        · simp at hp; subst hp; simp only; omega
    · simp at hp; subst hp; simp only; omega
theorem Mk.Bd.mono {m : Mk} {j w j' w' : Nat} (h : m.Bd j w) (hj : j ≤ j') (hw : w ≤ w') : m.Bd j' w' :=
  ⟨by have := h.len; omega, by have := h.cut; omega, fun p hp => by have := h.ns p hp; omega, by have := h.put; omega⟩

end Go.Proofs.Ytobngncjflogcaa.AM

set_option linter.unusedVariables false
set_option linter.unusedSimpArgs false
namespace Go.Proofs.Ytobngncjflogcaa.AM
open Go
set_option maxRecDepth 100000
set_option maxHeartbeats 2000000
def lk (pre : List Part) : Int := match pre.getLast? with
  | some p => p.kind
  | none => 0
theorem lk_app (pre : List Part) (p : Part) : lk (pre ++ [p]) = p.kind := by simp [lk]
theorem chk_step (pre : List Part) (p : Part) (rest : List Part) (h : ¬ (pre ≠ [] ∧ (lk pre = p.kind ∨ lk pre = 3 ∧ p.kind = 2))) (hf : fitF p = 0) : chk (lk pre) (p :: rest) = chk (lk (pre ++ [p])) rest := by
  rw [lk_app, chk]
  by_cases hp : pre = []
  · subst hp
    have : lk [] = 0 := rfl
    rw [this]
    unfold fitF at hf
    grind [fitF]
  · grind
def ac_rdelta : AC := .seq (.region false [
    ⟨some 2, none, .mov (.c (.int .i64 0))⟩])
  (.seq (.seq (.region false [
    ⟨some 6, none, .mov (.t 0)⟩,
    ⟨some 7, none, .len false (.t 6)⟩,
    ⟨some 8, none, .bin .gtr (.t 7) (.c (.int .i64 1600))⟩])
  (.cond (.t 8)
    (.seq (.region false [
      ⟨some 2, none, .mov (.c (.int .i64 2))⟩])
    (.ret))
    (.skip)))
  (.seq (.seq (.region false [
    ⟨some 9, none, .mov (.t 0)⟩,
    ⟨some 10, none, .len false (.t 9)⟩,
    ⟨some 11, none, .mov (.c (.int .i64 0))⟩])
  (.block 0 (.loop (.seq (.region false [
      ⟨some 12, none, .bin .lss (.t 11) (.t 10)⟩])
    (.seq (.cond (.t 12)
      (.skip)
      (.exit 0))
    (.seq (.block 1 (.seq (.region false [
      ⟨some 13, none, .mov (.t 11)⟩,
      ⟨some 14, none, .iaddr 3 (.t 9) (.t 11)⟩,
      ⟨some 15, none, .loadn 3 (.t 14)⟩,
      ⟨some 4, none, .alloc 108 [(.int .i64 0), (.int .i64 0), (.string ⟨#[]⟩)]⟩,
      ⟨some 3, none, .mov (.t 13)⟩,
      ⟨none, none, .store 3 (.t 4) (.t 15)⟩])
    (.seq (.seq (.region true [
      ⟨some 16, none, .mov (.t 3)⟩,
      ⟨some 17, none, .bin .gtr (.t 16) (.c (.int .i64 0))⟩,
      ⟨some 18, none, .mov (.t 17)⟩,
      ⟨some 19, some (18, true), .mov (.t 0)⟩,
      ⟨some 20, some (18, true), .mov (.t 3)⟩,
      ⟨some 21, some (18, true), .bin .sub (.t 20) (.c (.int .i64 1))⟩,
      ⟨some 22, some (18, true), .iaddr 3 (.t 19) (.t 21)⟩,
      ⟨some 23, some (18, true), .faddr 0 (.t 22)⟩,
      ⟨some 24, some (18, true), .load1 (.t 23)⟩,
      ⟨some 25, some (18, true), .faddr 0 (.t 4)⟩,
      ⟨some 26, some (18, true), .load1 (.t 25)⟩,
      ⟨some 27, some (18, true), .bin .eql (.t 24) (.t 26)⟩,
      ⟨some 28, some (18, true), .mov (.t 27)⟩,
      ⟨some 29, some (28, false), .mov (.t 0)⟩,
      ⟨some 30, some (28, false), .mov (.t 3)⟩,
      ⟨some 31, some (28, false), .bin .sub (.t 30) (.c (.int .i64 1))⟩,
      ⟨some 32, some (28, false), .iaddr 3 (.t 29) (.t 31)⟩,
      ⟨some 33, some (28, false), .faddr 0 (.t 32)⟩,
      ⟨some 34, some (28, false), .load1 (.t 33)⟩,
      ⟨some 35, some (28, false), .bin .eql (.t 34) (.c (.int .i64 3))⟩,
      ⟨some 36, some (28, false), .mov (.t 35)⟩,
      ⟨some 37, some (36, true), .faddr 0 (.t 4)⟩,
      ⟨some 38, some (36, true), .load1 (.t 37)⟩,
      ⟨some 39, some (36, true), .bin .eql (.t 38) (.c (.int .i64 2))⟩,
      ⟨some 40, some (28, false), .pick (.t 36) (.t 39) (.c (.bool false))⟩,
      ⟨some 41, some (18, true), .pick (.t 28) (.c (.bool true)) (.t 40)⟩,
      ⟨some 42, none, .pick (.t 18) (.t 41) (.c (.bool false))⟩])
    (.cond (.t 42)
      (.seq (.region false [
        ⟨some 2, none, .mov (.c (.int .i64 3))⟩])
      (.ret))
      (.skip)))
    (.seq (.region false [
      ⟨some 43, none, .loadn 3 (.t 4)⟩,
      ⟨some 44, none, .call 123 [(.t 43)]⟩,
      ⟨some 5, none, .mov (.t 44)⟩])
    (.seq (.region false [
      ⟨some 45, none, .mov (.t 5)⟩,
      ⟨some 46, none, .bin .neq (.t 45) (.c (.int .i64 0))⟩])
    (.cond (.t 46)
      (.seq (.region false [
        ⟨some 47, none, .mov (.t 5)⟩,
        ⟨some 2, none, .mov (.t 47)⟩])
      (.ret))
      (.skip)))))))
    (.region false [
      ⟨some 48, none, .bin .add (.t 11) (.c (.int .i64 1))⟩,
      ⟨some 11, none, .mov (.t 48)⟩])))))))
  (.seq (.seq (.region false [
    ⟨some 49, none, .mov (.t 0)⟩,
    ⟨some 50, none, .call 124 [(.t 49)]⟩,
    ⟨some 51, none, .bin .gtr (.t 50) (.c (.int .i64 500))⟩,
    ⟨some 52, none, .mov (.t 51)⟩,
    ⟨some 53, some (52, false), .mov (.t 0)⟩,
    ⟨some 54, some (52, false), .call 125 [(.t 53)]⟩,
    ⟨some 55, some (52, false), .bin .gtr (.t 54) (.c (.int .i64 500))⟩,
    ⟨some 56, none, .pick (.t 52) (.c (.bool true)) (.t 55)⟩])
  (.cond (.t 56)
    (.seq (.region false [
      ⟨some 2, none, .mov (.c (.int .i64 2))⟩])
    (.ret))
    (.skip)))
  (.seq (.region false [
    ⟨some 2, none, .mov (.c (.int .i64 0))⟩])
  (.ret)))))
theorem ok_rdelta : FnOk Try.prog 104 Try.f104 ac_rdelta [.t 2] 1 drawD := ⟨Try.func104, by decide +kernel, by kernel_rfl, by kernel_rfl, by decide +kernel⟩
theorem vc_rdelta (P : Prim) (hP : P = std) (T T1 : CallT) (d : List Part) (hd1 : d.length ≤ maxLen) (rows : List (List V)) (hrows : rows = d.map encPart) (r : Int) (hr : checkF d = r)
    (fF : Int → Int → List UInt8 → Int) (hfF : ∀ k n t, fF k n t = fitF ⟨k, n, t⟩) (hc1 : ∀ {k n t}, Ans T 123 [.agg [.int .i64 k, .int .i64 n, .str t]] (.int .i64 (fF k n t)))
    (a b : Int) (ha : a = inF d) (hb : b = outF d) (hc2 : d.length ≤ 1600 → chk 0 d = 0 → Ans T 124 [.sl true 3 rows] (.int .i64 a)) (hc3 : d.length ≤ 1600 → chk 0 d = 0 → Ans T 125 [.sl true 3 rows] (.int .i64 b))
    (R : S → Prop) (hR : ∀ s s', Ent s s' → Ret [.t 2] [.int .i64 r] s' → R s) : awp P T T1 ac_rdelta (S0 [.sl true 3 rows] Hp.emp) R (fun _ _ => False) R := by
  cbv
  have hl : P.rlen rows = d.length := by subst hP; simp [std, hrows]
  refine br_cases (fun h => ?_) (fun h => ?_)
  · cbv
    refine hR _ _ (Ent.refl _) ?_
    cbv
    clear hR hc1 hc2 hc3; subst hP; subst hr; simp [std, nc] at *; grind [checkF]
  cbv
  have hd2 : d.length ≤ 1600 := by clear hR hc1 hc2 hc3; subst hP; simp [std, nc] at *; omega
  refine ⟨{ y : Int × List Part × List Part // d = y.2.1 ++ y.2.2 ∧ y.1 = y.2.1.length ∧ chk 0 d = chk (lk y.2.1) y.2.2 }, fun y => [(0, .sl true 3 rows), (9, .sl true 3 rows), (10, .int .i64 (P.rlen rows)), (11, .int .i64 y.1.1)], fun _ => [], fun y => y.1.2.2.length,
    ⟨_, Ent.refl _, ⟨(0, [], d), rfl, rfl, rfl⟩, ?_, ?_⟩, ?_⟩
  · cbv
  · cbv
  rintro ⟨⟨k, pre, rest⟩, hd, hk, hc⟩
  dsimp only at hd hk hc
  cbv
  have hl2 : P.rlen rows = pre.length + rest.length := by subst hP; simp [std, hrows, hd]
  refine br_cases (fun h => ?_) (fun h => ?_)
  · rcases rest with _ | ⟨⟨kd, n, t⟩, rest⟩
    · clear hc1 hc2 hc3; (exfalso; clear hR; subst hP; simp [std, nc] at *; first | omega | grind)
    cbv
    have hrow := row_at hrows hd hk P hP
    have hpl : pre.length ≤ 1600 := by rw [hd] at hd2; simp at hd2; omega
    refine ⟨by clear hc1 hc2 hc3; (clear hR; subst hP; simp [std, I64, nc] at * <;> first | omega | grind), _, hrow, ?_⟩
    cbv
    intro β
    cbv
    have hx := hfF kd n t
    rcases List.eq_nil_or_concat pre with hpre | ⟨pre', ⟨qk, qn, qt⟩, hpre⟩
    · refine br_cases (fun h => ?_) (fun h => ?_)
      · exfalso; clear hR hc1 hc2 hc3; subst hpre; subst hP; simp [std] at *; omega
      repeat' (first | (intro β; try cbv) | (refine And.intro (by assumption) ?_; try cbv) | (refine br_cases (fun h => ?_) (fun h => ?_) <;> try cbv) | (refine Exists.intro _ (And.intro (by assumption) ?_); try cbv) | (refine hc1 _ _ ?_; try cbv) | (refine hc2 _ _ ?_; try cbv) | (refine hc3 _ _ ?_; try cbv) | (refine hc4 _ _ ?_; try cbv) | (refine hc5 _ _ ?_; try cbv) | (refine hc6 _ _ ?_; try cbv) | (refine And.intro (by (clear hR; subst hP; simp [std, I64, nc] at * <;> first | omega | grind)) ?_; try cbv))
      all_goals first
        | (refine hR _ _ (Ent.refl _) ?_
           cbv
           clear hR hc1 hc2 hc3 hrow hfF; subst hP; subst hr; subst hpre; simp [std, nc, lk] at *; grind [checkF, chk, fitF])
        | (refine ⟨_, Ent.refl _, ⟨(_, pre ++ [⟨kd, n, t⟩], rest), ?_⟩, ⟨rfl, rfl, rfl, rfl, trivial⟩, trivial, by simp⟩
           clear hR hrow hc1 hc2 hc3 hfF; subst hP
           refine ⟨by simp [hd], by simp [std, hk], ?_⟩
           rw [hc]
           exact chk_step _ _ _ (fun h => h.1 hpre) (by simp [std] at *; omega))
    · have hrow2 : P.row rows (P.nat (P.sub k 1)) (encPart ⟨qk, qn, qt⟩) := by
        subst hP; simp [std, hrows, hd, hk, hpre]
      have hlk : lk pre = qk := by rw [hpre, List.concat_eq_append, lk_app]
      have hpp : 0 < pre.length := by rw [hpre]; simp
      have hk2 : (k : Int) = (pre.length : Int) := hk
      have hpp2 : (1 : Int) ≤ k := by rw [hk2]; omega
      have hpp3 : k ≤ 1600 := by rw [hk2]; omega
      have ho1 : P.i64 (P.sub k 1) := by clear hR hc1 hc2 hc3 hl hl2 hk hk2 h; subst hP; show I64 (k - 1); unfold I64; omega
      have ho2 : P.leP 0 (P.sub k 1) := by clear hR hc1 hc2 hc3 hl hl2 hk hk2 h; subst hP; show 0 ≤ k - 1; omega
      refine br_cases (fun h => ?_) (fun h => ?_)
      rotate_left
      · exfalso; clear hR hc1 hc2 hc3; subst hP; simp [std] at *; omega
      repeat' (first | (intro β; try cbv) | (refine And.intro (by assumption) ?_; try cbv) | (refine br_cases (fun h => ?_) (fun h => ?_) <;> try cbv) | (refine Exists.intro _ (And.intro (by assumption) ?_); try cbv) | (refine hc1 _ _ ?_; try cbv) | (refine hc2 _ _ ?_; try cbv) | (refine hc3 _ _ ?_; try cbv) | (refine hc4 _ _ ?_; try cbv) | (refine hc5 _ _ ?_; try cbv) | (refine hc6 _ _ ?_; try cbv) | (refine And.intro (by (clear hR; subst hP; simp [std, I64, nc] at * <;> first | omega | grind)) ?_; try cbv))
      all_goals first
        | (refine hR _ _ (Ent.refl _) ?_
           cbv
           clear hR hc1 hc2 hc3 hrow hrow2 hfF; subst hP; subst hr; simp [std, nc] at *; grind [checkF, chk, fitF])
        | (refine ⟨_, Ent.refl _, ⟨(_, pre ++ [⟨kd, n, t⟩], rest), ?_⟩, ⟨rfl, rfl, rfl, rfl, trivial⟩, trivial, by simp⟩
           clear hR hrow hrow2 hc1 hc2 hc3 hfF; subst hP
           refine ⟨by simp [hd], by simp [std, hk], ?_⟩
           rw [hc]
           refine chk_step _ _ _ ?_ (by simp [std] at *; omega)
           simp [std, hlk] at *
           grind)
  · have : rest = [] := by
      cases rest with
      | nil => rfl
      | cons p rest => clear hc1 hc2 hc3; (exfalso; clear hR; subst hP; simp [std, nc] at *; first | omega | grind)
    subst this
    have hc0 : chk 0 d = 0 := hc
    have hc4 := hc2 hd2 hc0
    have hc5 := hc3 hd2 hc0
    clear hc2 hc3
    cbv
    repeat' (first | (intro β; try cbv) | (refine And.intro (by assumption) ?_; try cbv) | (refine br_cases (fun h => ?_) (fun h => ?_) <;> try cbv) | (refine Exists.intro _ (And.intro (by assumption) ?_); try cbv) | (refine hc1 _ _ ?_; try cbv) | (refine hc2 _ _ ?_; try cbv) | (refine hc3 _ _ ?_; try cbv) | (refine hc4 _ _ ?_; try cbv) | (refine hc5 _ _ ?_; try cbv) | (refine hc6 _ _ ?_; try cbv) | (refine And.intro (by (clear hR; subst hP; simp [std, I64, nc] at * <;> first | omega | grind)) ?_; try cbv))
    all_goals
      refine hR _ _ (Ent.refl _) ?_
      cbv
      clear hR hc1 hc4 hc5; subst hP; subst hr; simp [std, nc] at *; grind [checkF]
theorem sp_rdelta (d : List Part) (hd1 : d.length ≤ maxLen) : Spec Try.prog 104 [.sl true 3 (d.map encPart)] Hp.emp (Is (.int .i64 (checkF d))) :=
  spec_pure dOk ok_rdelta [.int .i64 (checkF d)] (.int _ _) fun R hR => vc_rdelta std rfl _ _ d hd1 _ rfl _ rfl (fun k n t => fitF ⟨k, n, t⟩) (fun _ _ _ => rfl) (ansW (sp_right ⟨_, _, _⟩) (fun h => .cons (.same _) .nil) rfl) _ _ rfl rfl
    (fun h1 h2 => ansW (sp_rin d h1 (chk_ok 0 d h2)) (fun h => .cons (.same _) .nil) rfl) (fun h1 h2 => ansW (sp_rout d h1 (chk_ok 0 d h2)) (fun h => .cons (.same _) .nil) rfl) R hR

theorem ansL {f : Nat} {d : List Part} {v : V} (h : Spec Try.prog f [.sl true 3 (d.map encPart)] Hp.emp (Is v)) (hv : v.ren (lab []) = v) : Ans (CallE Try.prog) f [encParts d] v := ansW h (fun _ => .cons (.weak _ _) .nil) hv
end Go.Proofs.Ytobngncjflogcaa.AM

set_option linter.unusedVariables false
set_option linter.unusedSimpArgs false
namespace Go.Proofs.Ytobngncjflogcaa.AM
open Go
set_option maxRecDepth 100000
set_option maxHeartbeats 2000000

def RetSl (rv : List RV) (sz : Nat) (rows' : List (List V)) (tl : List V) (R : S → Prop) : Prop :=
  (∀ (s s' : S), Ent s s' → Ret rv (.nilsl :: tl) s' → rows' = [] → R s) ∧
  (∀ (s s' : S) (k : Nat) (b : Option Nat) (ty n : Nat) (rows : List (List V)), Ent s s' → Ret rv (.own k b sz n :: tl) s' → s'.h k = some ⟨b, ty, sz, rows⟩ → n = rows'.length ∧ rows = rows' → R s) ∧
  (∀ (s s' : S) (rows : List (List V)), Ent s s' → Ret rv (.sl false sz rows :: tl) s' → rows = rows' → R s)
theorem fr_tup {h : Hp} : ∀ {l : List V}, (∀ v ∈ l, Fz v) → Fr h (.tup l) (.tup l) := fun hz => .same _ (.tup _ hz)
theorem fr_one {h : Hp} {v v' : V} {tl : List V} (h1 : Fr h v v') (hz : ∀ v ∈ tl, Fz v) : Fr h (oneV (v :: tl)) (oneV (v' :: tl)) := by
  cases tl with
  | nil => exact h1
  | cons a tl => exact .tup_cons h1 (fr_tup hz)
theorem retSl_of {rv : List RV} {sz : Nat} {rows' : List (List V)} {tl : List V} {R : S → Prop} (hsz : ∀ r ∈ rows', r.length = sz) (hz : ∀ r ∈ rows', ∀ v ∈ r, Fz v) (htl : ∀ v ∈ tl, Fz v) (hR : ∀ s s', Ent s s' → RetF rv (oneV (.sl false sz rows' :: tl)) s' → R s) : RetSl rv sz rows' tl R := by
  refine ⟨?_, ?_, ?_⟩
  · rintro s s' he hr rfl
    exact hR s s' he (resV_mono _ _ _ (fun x hx => by subst hx; exact fr_one (.nilsl sz) htl) hr)
  · rintro s s' k b ty n rows he hr h1 ⟨rfl, rfl⟩
    exact hR s s' he (resV_mono _ _ _ (fun x hx => by subst hx; exact fr_one (.rows h1 rfl rfl rfl hsz hz) htl) hr)
  · rintro s s' rows he hr rfl
    exact hR s s' he (resV_mono _ _ _ (fun x hx => by subst hx; exact fr_one (.same _ (.sl _ _ hz)) htl) hr)
theorem parts_sz (d : List Part) : ∀ r ∈ d.map encPart, r.length = 3 := by
  intro r hr; obtain ⟨p, _, rfl⟩ := List.mem_map.1 hr; rfl
theorem int_fz (e : Int) : ∀ v ∈ [V.int .i64 e], Fz v := by intro v hv; simp at hv; subst hv; exact .int _ _

instance : DecidableEq Part := fun a b => by
  cases a with
  | mk k n t => cases b with
    | mk k' n' t' => exact decidable_of_iff (k = k' ∧ n = n' ∧ t = t') (by simp)
def ac_eqp : AC := .seq (.region false [
    ⟨some 4, none, .mov (.c (.bool false))⟩])
  (.seq (.seq (.region false [
    ⟨some 6, none, .mov (.t 0)⟩,
    ⟨some 7, none, .len false (.t 6)⟩,
    ⟨some 8, none, .mov (.t 1)⟩,
    ⟨some 9, none, .len false (.t 8)⟩,
    ⟨some 10, none, .bin .neq (.t 7) (.t 9)⟩])
  (.cond (.t 10)
    (.seq (.region false [
      ⟨some 4, none, .mov (.c (.bool false))⟩])
    (.ret))
    (.skip)))
  (.seq (.seq (.region false [
    ⟨some 11, none, .mov (.t 0)⟩,
    ⟨some 12, none, .len false (.t 11)⟩,
    ⟨some 13, none, .mov (.c (.int .i64 0))⟩])
  (.block 0 (.loop (.seq (.region false [
      ⟨some 14, none, .bin .lss (.t 13) (.t 12)⟩])
    (.seq (.cond (.t 14)
      (.skip)
      (.exit 0))
    (.seq (.block 1 (.seq (.region false [
      ⟨some 15, none, .mov (.t 13)⟩,
      ⟨some 5, none, .mov (.t 15)⟩])
    (.seq (.region true [
      ⟨some 16, none, .mov (.t 0)⟩,
      ⟨some 17, none, .mov (.t 5)⟩,
      ⟨some 18, none, .iaddr 3 (.t 16) (.t 17)⟩,
      ⟨some 19, none, .loadn 3 (.t 18)⟩,
      ⟨some 20, none, .mov (.t 1)⟩,
      ⟨some 21, none, .mov (.t 5)⟩,
      ⟨some 22, none, .iaddr 3 (.t 20) (.t 21)⟩,
      ⟨some 23, none, .loadn 3 (.t 22)⟩,
      ⟨some 24, none, .eqs true [1, 1, 2] (.t 19) (.t 23)⟩])
    (.cond (.t 24)
      (.seq (.region false [
        ⟨some 4, none, .mov (.c (.bool false))⟩])
      (.ret))
      (.skip)))))
    (.region false [
      ⟨some 25, none, .bin .add (.t 13) (.c (.int .i64 1))⟩,
      ⟨some 13, none, .mov (.t 25)⟩])))))))
  (.seq (.region false [
    ⟨some 4, none, .mov (.c (.bool true))⟩])
  (.ret))))
theorem ok_eqp : FnOk Try.prog 126 Try.f126 ac_eqp [.t 4] 2 drawD := ⟨Try.func126, by decide +kernel, by kernel_rfl, by kernel_rfl, by decide +kernel⟩
theorem vc_eqp (P : Prim) (hP : P = std) (T T1 : CallT) (a b : List Part) (hla : a.length ≤ maxLen) (ra rb : List (List V)) (hra : ra = a.map encPart) (hrb : rb = b.map encPart) (r : Bool) (hr : decide (a = b) = r)
    (R : S → Prop) (hR : ∀ s s', Ent s s' → Ret [.t 4] [.bool r] s' → R s) : awp P T T1 ac_eqp (S0 [.sl true 3 ra, .sl true 3 rb] Hp.emp) R (fun _ _ => False) R := by
  have h1 : P.rlen ra = a.length := by subst hP; simp [std, hra]
  have h2 : P.rlen rb = b.length := by subst hP; simp [std, hrb]
  have hm : maxLen = 9223372036854775807 := by decide
  cbv
  refine br_cases (fun h => ?_) (fun h => ?_)
  · cbv
    refine hR _ _ (Ent.refl _) ?_
    cbv
    clear hR; subst hP
    have : a.length ≠ b.length := by simp [std, nc] at h h1 h2; omega
    have : r = false := by rw [← hr, decide_eq_false_iff_not]; intro e; subst e; exact this rfl
    rw [this]
  have hll : a.length = b.length := by clear hR; subst hP; simp [std, nc] at h h1 h2; omega
  cbv
  refine ⟨{ y : Int × List Part × List Part × List Part × List Part // a = y.2.1 ++ y.2.2.1 ∧ b = y.2.2.2.1 ++ y.2.2.2.2 ∧ y.1 = y.2.1.length ∧ y.2.1 = y.2.2.2.1 }, fun y => [(0, .sl true 3 ra), (1, .sl true 3 rb), (12, .int .i64 (P.rlen ra)), (13, .int .i64 y.1.1)], fun _ => [], fun y => y.1.2.2.1.length,
    ⟨_, Ent.refl _, ⟨(0, [], a, [], b), rfl, rfl, rfl, rfl⟩, ⟨rfl, rfl, rfl, rfl, trivial⟩, trivial⟩, ?_⟩
  rintro ⟨⟨k, p1, r1, p2, r2⟩, ha, hb, hk, hp⟩
  dsimp only at ha hb hk hp
  subst hp
  have hl1 : a.length = p1.length + r1.length := by rw [ha]; simp
  have hl2 : b.length = p1.length + r2.length := by rw [hb]; simp
  cbv
  refine br_cases (fun h => ?_) (fun h => ?_)
  · rcases r1 with _ | ⟨⟨kd, n, t⟩, r1⟩
    · exfalso; clear hR; subst hP; simp [std, nc] at h h1 hk hl1; omega
    rcases r2 with _ | ⟨⟨kd', n', t'⟩, r2⟩
    · exfalso; simp at hl2 hl1; omega
    have hrow := row_at hra ha hk P hP
    have hrow2 := row_at hrb hb hk P hP
    have ho : P.leP 0 k := by clear hR; subst hP; simp [std, nc] at *; omega
    have ho2 : P.i64 (P.add k 1) := by clear hR hrow hrow2; subst hP; simp [std, I64, nc] at *; omega
    cbv
    refine ⟨ho, _, hrow, ?_⟩
    cbv
    refine ⟨ho, _, hrow2, ?_⟩
    cbv
    refine br_cases (fun h => ?_) (fun h => ?_)
    · cbv
      refine ⟨ho2, _, Ent.refl _, ⟨(_, p1 ++ [⟨kd, n, t⟩], r1, p1 ++ [⟨kd', n', t'⟩], r2), ?_⟩, ⟨rfl, rfl, rfl, rfl, trivial⟩, trivial, by simp⟩
      clear hR ho ho2 hrow hrow2; subst hP
      simp [std] at h
      simp [ha, hb, hk, std, h]
    · cbv
      refine hR _ _ (Ent.refl _) ?_
      cbv
      clear hR ho ho2 hrow hrow2; subst hP
      have : r = false := by
        rw [← hr, decide_eq_false_iff_not]
        intro e
        rw [ha, hb] at e
        simp at e
        simp [std, e] at h
      rw [this]
  · cbv
    refine hR _ _ (Ent.refl _) ?_
    cbv
    clear hR; subst hP
    have e1 : r1 = [] := by simp [std, nc] at h h1 hk; exact List.eq_nil_of_length_eq_zero (by omega)
    have e2 : r2 = [] := by subst e1; exact List.eq_nil_of_length_eq_zero (by simp at hl1; omega)
    subst e1 e2
    have : r = true := by rw [← hr, decide_eq_true_eq, ha, hb]
    rw [this]
theorem sp_eqp (a b : List Part) (hla : a.length ≤ maxLen) : Spec Try.prog 126 [.sl true 3 (a.map encPart), .sl true 3 (b.map encPart)] Hp.emp (Is (.bool (decide (a = b)))) :=
  spec_pure dOk ok_eqp [.bool (decide (a = b))] (.bool _) fun R hR => vc_eqp std rfl _ _ a b hla _ _ rfl rfl _ rfl R hR
def ac_same : AC := .seq (.region false [
    ⟨some 4, none, .mov (.c (.bool false))⟩])
  (.seq (.region false [
    ⟨some 5, none, .mov (.t 0)⟩,
    ⟨some 6, none, .mov (.t 1)⟩,
    ⟨some 7, none, .call 126 [(.t 5), (.t 6)]⟩,
    ⟨some 4, none, .mov (.t 7)⟩])
  (.ret))
theorem ok_same : FnOk Try.prog 109 Try.f109 ac_same [.t 4] 2 drawD := ⟨Try.func109, by decide +kernel, by kernel_rfl, by kernel_rfl, by decide +kernel⟩
theorem vc_same (P : Prim) (hP : P = std) (T T1 : CallT) (ra rb : List (List V)) (r : Bool) (hc1 : Ans T 126 [.sl true 3 ra, .sl true 3 rb] (.bool r))
    (R : S → Prop) (hR : ∀ s s', Ent s s' → Ret [.t 4] [.bool r] s' → R s) : awp P T T1 ac_same (S0 [.sl true 3 ra, .sl true 3 rb] Hp.emp) R (fun _ _ => False) R := by
  cbv
  refine hc1 _ _ ?_
  cbv
  exact hR _ _ (Ent.refl _) rfl
theorem sp_same (a b : List Part) (hla : a.length ≤ maxLen) : Spec Try.prog 109 [.sl true 3 (a.map encPart), .sl true 3 (b.map encPart)] Hp.emp (Is (.bool (decide (a = b)))) :=
  spec_pure dOk ok_same [.bool (decide (a = b))] (.bool _) fun R hR => vc_same std rfl _ _ _ _ _ (ansW (sp_eqp a b hla) (fun h => .cons (.same _) (.cons (.same _) .nil)) rfl) R hR


end Go.Proofs.Ytobngncjflogcaa.AM

set_option linter.unusedVariables false
set_option linter.unusedSimpArgs false
namespace Go.Proofs.Ytobngncjflogcaa.AM
open Go
set_option maxRecDepth 100000
set_option maxHeartbeats 2000000
theorem rowsOf_own {h : Hp} {k sz n ty : Nat} {b : Option Nat} {rs : List (List V)} (hn : n = rs.length) (hk : h k = some ⟨b, ty, sz, rs⟩) : rowsOf h sz (.own k b sz n) = some rs := by
  simp only [rowsOf, hk]
  rw [if_pos ⟨trivial, trivial, trivial, by omega⟩, hn, List.take_length]
/-- a row of the call's own is handed to a function that reads it -/
theorem ownCall {f sz ty : Nat} {rows : List (List V)} {v : V} (hs : Spec Try.prog f [.sl true sz rows] Hp.emp (Is v)) (hv : v.ren (lab []) = v) (h : Hp) (K : V → Hp → Prop) (k : Nat) (b : Option Nat) (n : Nat) (rs : List (List V)) (hrs : rs = rows) (hn : n = rs.length) (hk : h k = some ⟨b, ty, sz, rs⟩) (hK : K v h) : CallE Try.prog f [.own k b sz n] h K :=
  ⟨h, HEnt.refl h, call_pure hs (.cons (.own k b sz n rows (by rw [rowsOf_own hn hk, hrs]) (by simp)) .nil) (by rw [hv]; exact hK)⟩
theorem puts_flat (ts : List Tok) : (puts ts).flatten.length ≤ ts.length := by
  induction ts with
  | nil => simp [puts]
  | cons t ts ih =>
    cases t
    · simp only [puts, List.flatten_cons, List.length_append, List.length_nil, List.length_cons]; omega
    · obtain ⟨p, r, h⟩ := puts_ne ts
      simp only [puts, h, consHead, List.flatten_cons, List.length_append, List.length_cons] at *; omega
    · simp only [puts, List.flatten_cons, List.length_append, List.length_nil, List.length_cons]; omega
theorem arg_pl (h : Hp) (ps : List (List UInt8)) (ks : List Bool) : Arg h [] (encPl ps ks) (.agg [.sl true 1 (strRows ps), .sl true 1 (boolRows ks)]) :=
  .agg _ _ rfl fun i v v' a b => by
    match i with
    | 0 => simp at a b; subst a b; exact .weak _ _
    | 1 => simp at a b; subst a b; exact .weak _ _
    | i + 2 => simp at a
theorem pl_ren (ps : List (List UInt8)) (ks : List Bool) : (encPl ps ks).ren (lab []) = encPl ps ks := rfl
theorem toks_le (l : List Part) (h1 : l.length ≤ 1600) (h2 : ∀ p ∈ l, 0 ≤ p.n ∧ p.n ≤ 500 ∧ p.text.length ≤ 500) : (toks l).length ≤ 1000000 := by have := toks_len l h2; omega
theorem ansL2 {f : Nat} {d d2 : List Part} {v : V} (h : Spec Try.prog f [.sl true 3 (d.map encPart), .sl true 3 (d2.map encPart)] Hp.emp (Is v)) (hv : v.ren (lab []) = v) : Ans (CallE Try.prog) f [encParts d, encParts d2] v := ansW h (fun _ => .cons (.weak _ _) (.cons (.weak _ _) .nil)) hv
end Go.Proofs.Ytobngncjflogcaa.AM

set_option linter.unusedVariables false
set_option linter.unusedSimpArgs false
namespace Go.Proofs.Ytobngncjflogcaa.AM
open Go
theorem br_tt {t : Bool} {A B : Prop} (ht : t = true) (h : A) : br.match_1 (fun _ => Prop) t (fun _ => A) (fun _ => B) := by subst ht; exact h
theorem br_ff {t : Bool} {A B : Prop} (ht : t = false) (h : B) : br.match_1 (fun _ => Prop) t (fun _ => A) (fun _ => B) := by subst ht; exact h
section
variable {P : Prim} (hP : P = std)
include hP
theorem lt_t {a b : Int} (h : P.lt a b = true) : a < b := by subst hP; exact of_decide_eq_true h
theorem lt_f {a b : Int} (h : P.lt a b = false) : ¬ a < b := by subst hP; exact of_decide_eq_false h
theorem le_t {a b : Int} (h : P.le a b = true) : a ≤ b := by subst hP; exact of_decide_eq_true h
theorem le_f {a b : Int} (h : P.le a b = false) : ¬ a ≤ b := by subst hP; exact of_decide_eq_false h
theorem eq_t {a b : Int} (h : P.eq a b = true) : a = b := by subst hP; exact of_decide_eq_true h
theorem eq_f {a b : Int} (h : P.eq a b = false) : ¬ a = b := by subst hP; exact of_decide_eq_false h
theorem ne_t {a b : Int} (h : P.ne a b = true) : ¬ a = b := by subst hP; exact of_decide_eq_true h
theorem ne_f {a b : Int} (h : P.ne a b = false) : a = b := by subst hP; exact Decidable.of_not_not (of_decide_eq_false h)
theorem seq_t {a b : List UInt8} (h : P.seq a b = true) : a = b := by subst hP; exact of_decide_eq_true h
theorem seq_f {a b : List UInt8} (h : P.seq a b = false) : ¬ a = b := by subst hP; exact of_decide_eq_false h
theorem sne_t {a b : List UInt8} (h : P.sne a b = true) : ¬ a = b := by subst hP; exact of_decide_eq_true h
theorem sne_f {a b : List UInt8} (h : P.sne a b = false) : a = b := by subst hP; exact Decidable.of_not_not (of_decide_eq_false h)
theorem lt_T {a b : Int} (h : a < b) : P.lt a b = true := by subst hP; exact decide_eq_true h
theorem lt_F {a b : Int} (h : ¬ a < b) : P.lt a b = false := by subst hP; exact decide_eq_false h
theorem eq_T {a b : Int} (h : a = b) : P.eq a b = true := by subst hP; exact decide_eq_true h
theorem eq_F {a b : Int} (h : ¬ a = b) : P.eq a b = false := by subst hP; exact decide_eq_false h
theorem ne_T {a b : Int} (h : ¬ a = b) : P.ne a b = true := by subst hP; exact decide_eq_true h
theorem ne_F {a b : Int} (h : a = b) : P.ne a b = false := by subst hP; exact decide_eq_false (fun hh => hh h)
theorem sne_F {a b : List UInt8} (h : a = b) : P.sne a b = false := by subst hP; exact decide_eq_false (fun hh => hh h)
theorem rlen_eq (rows : List (List V)) : P.rlen rows = (rows.length : Int) := by subst hP; rfl
theorem slen_eq (s : List UInt8) : P.slen s = (s.length : Int) := by subst hP; rfl
theorem add_eq (a b : Int) : P.add a b = a + b := by subst hP; rfl
theorem sub_eq (a b : Int) : P.sub a b = a - b := by subst hP; rfl
theorem int_eq (n : Nat) : P.int n = (n : Int) := by subst hP; rfl
theorem le0 {k : Int} (h : 0 ≤ k) : P.leP 0 k := by subst hP; exact h
theorem leI {a b : Int} (h : a ≤ b) : P.leP a b := by subst hP; exact h
theorem ltI {a b : Int} (h : a < b) : P.ltP a b := by subst hP; exact h
theorem i64I {a : Int} (h : -9223372036854775808 ≤ a ∧ a ≤ 9223372036854775807) : P.i64 a := by subst hP; exact h
theorem row_of {rows : List (List V)} {i : Nat} {r : List V} {k : Int} (hk : k = (i : Int)) (h : rows[i]? = some r) : P.row rows (P.nat k) r := by
  subst hP; subst hk; show rows[((i : Nat) : Int).toNat]? = some r; rw [Int.toNat_natCast]; exact h
end
theorem ansLs {f : Nat} {d : List Part} {vs : List V} {v : V} (h : Spec Try.prog f (.sl true 3 (d.map encPart) :: vs) Hp.emp (Is v)) (hv : v.ren (lab []) = v) (hvs : vs.all V.pl = true) : Ans (CallE Try.prog) f (encParts d :: vs) v := ansW h (fun _ => .cons (.weak _ _) (args_plain hvs)) hv
theorem same_self (d : List Part) (h : d.length ≤ 10000000) : Ans (CallE Try.prog) 109 [encParts d, encParts d] (.bool true) := by
  have := ansL2 (sp_same d d (by have : maxLen = 9223372036854775807 := by decide
                                 omega)) rfl
  rwa [decide_eq_true rfl] at this
theorem ansSame {f : Nat} {vs : List V} {v : V} (h : Spec Try.prog f vs Hp.emp (Is v)) (hv : v.ren (lab []) = v) (hvs : vs.all V.pl = true) : Ans (CallE Try.prog) f vs v := ansW h (fun _ => args_plain hvs) hv
/-- sizes of a right delta, in bytes -/
theorem inT_toks (d : List Part) (h : ∀ p ∈ d, okP p) : (inT (toks d) : Int) = inF d := by
  induction d with
  | nil => rfl
  | cons p d ih =>
    have h1 := okP_bd (h p (by simp))
    have h2 := ih fun q hq => h q (by simp [hq])
    simp only [toks, inT_app, inF]
    have : (inT (toks1 p) : Int) = if p.kind = 1 ∨ p.kind = 3 then p.n else 0 := by
      unfold toks1
      by_cases k2 : p.kind = 2
      · rw [if_pos k2, if_neg (by omega)]; simp [inT, kepts_put]
      · rw [if_neg k2]
        have hr : ∀ (n : Nat) (x : Tok), x = .keep ∨ x = .cut → inT (List.replicate n x) = n := by
          intro n x hx
          have := kepts_app_n [] x hx n
          simp only [List.nil_append, kepts] at this
          simp [inT, this]
        have h13 : p.kind = 1 ∨ p.kind = 3 := by omega
        rw [if_pos h13]
        split
        · rw [hr _ _ (.inl rfl)]; omega
        · rw [hr _ _ (.inr rfl)]; omega
    rw [← this, ← h2]
    omega
theorem ok_bd {d : List Part} (h : ∀ p ∈ d, okP p) : ∀ p ∈ d, 0 ≤ p.n ∧ p.n ≤ 500 ∧ p.text.length ≤ 500 := fun p hp => by have := okP_bd (h p hp); omega
theorem checkF_all {d : List Part} (h : checkF d = 0) : d.length ≤ 1600 ∧ (∀ p ∈ d, okP p) ∧ inF d ≤ 500 ∧ outF d ≤ 500 ∧ 0 ≤ inF d ∧ 0 ≤ outF d := by
  obtain ⟨h1, h2, h3, h4⟩ := checkF_ok h
  have h5 := chk_ok 0 d h2
  exact ⟨h1, h5, h3, h4, (inF_bd d h5).1, (outF_bd d h5).1⟩
theorem fits_len {d : List Part} (h : checkF d = 0) : (toks d).length ≤ 1000000 := by
  obtain ⟨h1, h2, _⟩ := checkF_all h
  exact toks_le d h1 (ok_bd h2)
end Go.Proofs.Ytobngncjflogcaa.AM
