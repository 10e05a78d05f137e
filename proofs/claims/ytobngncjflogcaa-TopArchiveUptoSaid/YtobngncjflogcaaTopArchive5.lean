/-
  Texts of the plain machine, put together: what the law TopArchive reaches.
-/
import Derived.Test.YtobngncjflogcaaTopArchive3
import Derived.Below
import Derived.Test.YtobngncjflogcaaTopArchive4
set_option linter.unusedVariables false
set_option linter.unusedSimpArgs false
namespace Go.Proofs.Ytobngncjflogcaa.AM
open Go
open Go.BigFrame
open Go.RowKit (Below)

inductive Fr (h : Hp) : V → V → Prop
  | same (v : V) (hz : Fz v) : Fr h v v
  | nilsl (sz : Nat) : Fr h .nilsl (.sl false sz [])
  | own (k : Nat) (b : Option Nat) (sz n : Nat) (o : Ob) (rows : List (List V)) (hk : h k = some o) (hb : o.b = b) (hs : o.sz = sz) (hn : rows.length = n) (hw : ∀ r ∈ rows, r.length = sz) (hl : n ≤ o.rows.length) (hrl : ∀ (i : Nat) (r r' : List V), o.rows[i]? = some r → rows[i]? = some r' → r.length = r'.length)
      (hr : ∀ (i j : Nat) (r r' : List V) (v v' : V), o.rows[i]? = some r → rows[i]? = some r' → r[j]? = some v → r'[j]? = some v' → Fr h v v') : Fr h (.own k b sz n) (.sl false sz rows)
  | agg (cs cs' : List V) (hl : cs.length = cs'.length) (hr : ∀ (i : Nat) (v v' : V), cs[i]? = some v → cs'[i]? = some v' → Fr h v v') : Fr h (.agg cs) (.agg cs')
  | tup (cs cs' : List V) (hl : cs.length = cs'.length) (hr : ∀ (i : Nat) (v v' : V), cs[i]? = some v → cs'[i]? = some v' → Fr h v v') : Fr h (.tup cs) (.tup cs')

/-- the blocks of what a call made -/
def Made (F : Nat → Prop) (h : Hp) (b : Nat) : Prop := F b ∨ ∃ k o, h k = some o ∧ o.b = some b

theorem Fr.rel {C : Ctx} {F : Nat → Prop} {h : Hp} {w : World} (hs : HSat C F h w) {v v' : V} (hf : Fr h v v') : ∀ {u : Value}, Rel F C.B w v u → Rel (Made F h) (fun _ => False) w v' u := by
  induction hf with
  | same v hz => exact fun hr => (hr.mono (F' := Made F h) (B' := C.B) (fun b hb => .inl hb) (fun b hb => .inr hb)).fz hz
  | nilsl sz => intro u hr; cases hr; exact .slnil _ _
  | own k b sz n o rows hk hb hsz hn hw hl hrl hr ih =>
    intro u hv
    cases hv with
    | ownnil => have : rows = [] := List.eq_nil_of_length_eq_zero hn; subst this; exact .slnil _ _
    | own _ b' _ n' cap c e fr hheap hcs hm hnc =>
      have ho := hs.ob k o hk
      unfold ObSat at ho
      rw [hb] at ho
      obtain ⟨c', cap', hc', h1, h2, h3, h4, h5⟩ := ho
      rw [hheap] at hc'
      cases hc'
      subst hn
      refine .sl false sz rows b' 0 cap (fun i j => (c[i * sz + j]?).getD undef) (.inl (.inr ⟨k, o, hk, hb⟩)) hnc hw (fun i j r v hi hj => ?_) (fun i j r v hi hj => ?_)
      · have hil := (List.getElem?_eq_some_iff.1 hi).1
        have hjl := (List.getElem?_eq_some_iff.1 hj).1
        have hoi : o.rows[i]? = some (o.rows[i]'(by omega)) := List.getElem?_eq_getElem (by omega)
        have hlen := hrl i _ r hoi hi
        obtain ⟨u, hu, h1u, hru⟩ := h5 i j _ _ hoi (List.getElem?_eq_getElem (by omega))
        rw [hsz] at hu
        rw [hu, cell_of_row w b' _ c o.ty (0, 0) hheap]
        have : i * sz + j < c.size := (Array.getElem?_eq_some_iff.1 hu).1
        refine ⟨?_, h1u⟩
        rw [Nat.zero_add]
        exact hu
      · have hil := (List.getElem?_eq_some_iff.1 hi).1
        have hjl := (List.getElem?_eq_some_iff.1 hj).1
        have hoi : o.rows[i]? = some (o.rows[i]'(by omega)) := List.getElem?_eq_getElem (by omega)
        have hlen := hrl i _ r hoi hi
        have hoj : (o.rows[i]'(by omega))[j]? = some ((o.rows[i]'(by omega))[j]'(by omega)) := List.getElem?_eq_getElem (by omega)
        obtain ⟨u, hu, h1u, hru⟩ := h5 i j _ _ hoi hoj
        rw [hsz] at hu
        rw [hu]
        exact ih i j _ r _ v hoi hi hoj hj hru
  | agg cs cs' hl hr ih =>
    intro u hv
    cases hv with
    | agg _ us hsz hrr =>
      refine .agg cs' us (by omega) fun i v u hv hu => ?_
      have hi : i < cs.length := by have := (List.getElem?_eq_some_iff.1 hv).1; omega
      exact ih i cs[i] v (List.getElem?_eq_getElem hi) hv (hrr i cs[i] u (List.getElem?_eq_getElem hi) hu)
  | tup cs cs' hl hr ih =>
    intro u hv
    cases hv with
    | tup _ us hsz hrr =>
      refine .tup cs' us (by omega) fun i v u hv hu => ?_
      have hi : i < cs.length := by have := (List.getElem?_eq_some_iff.1 hv).1; omega
      exact ih i cs[i] v (List.getElem?_eq_getElem hi) hv (hrr i cs[i] u (List.getElem?_eq_getElem hi) hu)

theorem Fr.rows {h : Hp} {k sz n : Nat} {b : Option Nat} {o : Ob} (hk : h k = some o) (hb : o.b = b) (hs : o.sz = sz) (hn : o.rows.length = n) (hw : ∀ r ∈ o.rows, r.length = sz) (hz : ∀ r ∈ o.rows, ∀ v ∈ r, Fz v) : Fr h (.own k b sz n) (.sl false sz o.rows) :=
  .own k b sz n o o.rows hk hb hs hn hw (by omega) (fun i r r' h1 h2 => by rw [h1] at h2; cases h2; rfl) fun i j r r' v v' h1 h2 h3 h4 => by
    rw [h1] at h2; cases h2
    rw [h3] at h4; cases h4
    exact .same _ (hz r (List.mem_of_getElem? h1) v (List.mem_of_getElem? h3))
theorem Fr.tup_nil {h : Hp} : Fr h (.tup []) (.tup []) := .tup _ _ rfl (by simp)
theorem Fr.tup_cons {h : Hp} {v v' : V} {cs cs' : List V} (h1 : Fr h v v') (h2 : Fr h (.tup cs) (.tup cs')) : Fr h (.tup (v :: cs)) (.tup (v' :: cs')) := by
  have key : cs.length = cs'.length ∧ ∀ (i : Nat) (v v' : V), cs[i]? = some v → cs'[i]? = some v' → Fr h v v' := by
    cases h2 with
    | same _ hz => 
      cases hz with
      | tup _ hz => exact ⟨rfl, fun i v v' a b => by rw [a] at b; cases b; exact .same _ (hz _ (List.mem_of_getElem? a))⟩
    | tup _ _ hl hr => exact ⟨hl, hr⟩
  refine .tup _ _ (by simp [key.1]) fun i v v' a b => ?_
  cases i with
  | zero => simp at a b; subst a b; exact h1
  | succ i => exact key.2 i v v' (by simpa using a) (by simpa using b)

/-- the results, as they stand behind the call -/
def RetF (rv : List RV) (v' : V) (s : S) : Prop := resV s rv fun vs => Fr s.h (oneV vs) v'

theorem spec_frz {P : Program} {f : Nat} {fn : Func} {ac : AC} {rv : List RV} {args : List V} {v' : V} {D : Array Oper → List AO → Bool} (hD : DrawOk P D) (ok : FnOk P f fn ac rv args.length D)
    (hK : ∀ R, (∀ s s', Ent s s' → RetF rv v' s' → R s) → awp std (CallE P) (CallP P) ac (S0 args Hp.emp) R (fun _ _ => False) R) : Spec P f args Hp.emp (Is v') := by
  obtain ⟨c, hb, hc⟩ := Option.bind_eq_some_iff.1 ok.body
  refine ⟨⟨fn, ok.func, ok.name, c, hb⟩, fun C0 us hC0 hl hargs0 _ => ?_⟩
  let C : Ctx := ⟨C0.w0, C0.F0, C0.B, fun _ => False⟩
  have hC : C.Ok := ⟨fun b hb => ⟨(hC0.F0 b hb).1, fun h => h⟩, fun b hb => ⟨(hC0.B b hb).1, fun h => h⟩, fun b hb => hb.elim⟩
  have hargs : ∀ (i : Nat) (v : V) (u : Value), args[i]? = some v → us[i]? = some u → Rel C.F0 C.B C.w0 v u := hargs0
  refine calls_of_wp ok.func hb ?_
  have hs0 : HSat C C.F0 Hp.emp C.w0 := ⟨fun k o hk => by simp [Hp.emp] at hk, fun k k' o o' b hk => by simp [Hp.emp] at hk, fun k o b hk => by simp [Hp.emp] at hk, fun b hb => .inl hb, fun b hb => hb, fun b hb => (hC.F0 b hb).1, Ev.refl _ _⟩
  have hsat : Sat C fn.ntmps (S0 args Hp.emp) { tmps := us ++ Array.replicate (fn.ntmps - us.size) undef, defers := [] } C.w0 := by
    have hn := ok.args
    refine ⟨⟨C.F0, hs0, fun i => ?_⟩, rfl, by simp; omega⟩
    simp only [S0, sl0_eq]
    by_cases hi : i < args.length
    · have hi' : i < us.size := by omega
      have h1 : args[i]? = some (args.getD i .junk) := by rw [List.getD_eq_getElem?_getD, List.getElem?_eq_getElem hi]; rfl
      have h2 : us[i]? = some ((us ++ Array.replicate (fn.ntmps - us.size) undef).getD i undef) := by
        simp [hi', Array.getElem?_append_left]
      exact hargs i _ _ h1 h2
    · have h1 : args.getD i .junk = .junk := by rw [List.getD_eq_getElem?_getD, List.getElem?_eq_none (by omega)]; rfl
      rw [h1]
      exact .junk _
  let fin : S → Prop := fun s => ∃ s', Ent s s' ∧ RetF rv v' s'
  refine wp_mono (awp_sound hD hC c ac _ _ _ fin (fun _ _ => False) fin hc hsat (hK fin fun s s' he hr => ⟨s', he, hr⟩)) fun e a' w' hq => ?_
  have last : (∃ s, Sat C fn.ntmps s a' w' ∧ fin s) → a'.defers = [] ∧ ∃ v, (results fn a'.tmps).run P w' = .ok v w' ∧ ∃ u v_1 h' F', Ending.returned v = .returned u ∧ Rel F' (fun _ => False) w' v_1 u ∧ HSat C0.nb F' h' w' ∧ Is v' v_1 h' := by
    rintro ⟨s1, hs1, s2, hent, hres⟩
    have hs2 := hent C _ a' w' hC hs1
    obtain ⟨F, hh, hr⟩ := hs2.ex
    obtain ⟨vs, us', h1, h2, h3, h4⟩ := res_run hh hr _ _ _ ok.res hres
    have hone : Rel F C.B w' (oneV vs) (if h : us'.toArray.size = 1 then us'.toArray[0] else .tuple us'.toArray) := by
      match vs, us', h2, h3 with
      | [], [], _, _ => exact .tup _ _ rfl (by simp)
      | [v], [u], _, h3 => exact h3 0 v u rfl rfl
      | v1 :: v2 :: vs, u1 :: u2 :: us', h2, h3 =>
        have hne : ¬ ((u1 :: u2 :: us').toArray.size = 1) := by simp
        rw [dif_neg hne]
        exact .tup _ _ (by simpa using h2) fun i v u hv hu => h3 i v u hv (by simpa using hu)
    refine ⟨hs2.df, _, results_run h1, _, v', Hp.emp, Made F s2.h, rfl, Fr.rel hh h4 hone, ⟨fun k o hk => by simp [Hp.emp] at hk, fun k k' o o' b hk => by simp [Hp.emp] at hk, fun k o b hk => by simp [Hp.emp] at hk, fun b hb => ?_, fun b hb => .inl (hh.new b hb), fun b hb => ?_, ?_⟩, rfl, rfl⟩
    · rcases hb with hb | ⟨k, o, hk, hb⟩
      · rcases hh.old b hb with h | h | h
        · exact .inl h
        · exact h.elim
        · exact .inr (.inr h)
      · rcases (hh.live k o b hk hb).2 with h | h
        · exact h.elim
        · exact .inr (.inr h)
    · rcases hb with hb | ⟨k, o, hk, hb⟩
      · exact hh.lt b hb
      · exact (hh.ob k o hk).lt hb
    · exact hh.ev.mono fun b _ h => h.elim
  cases e with
  | normal => exact last hq
  | ret => exact last hq
  | exit j => obtain ⟨_, _, h⟩ := hq; exact h.elim
  | _ => exact hq.elim

/-- a contract of the library's kind, of plain arguments -/
theorem spec_of_calls {P : Program} {f : Nat} {args : List V} {us0 : Array Value} {v : V} {u0 : Value} (hf : ∃ fn, P.funcs[f]? = some fn ∧ fn.name ≠ "runtime.NumGoroutine" ∧ ∃ c, fn.body = some c)
    (hus : ∀ (F B : Nat → Prop) (w : World) (us : Array Value), us.size = args.length → (∀ (i : Nat) (v : V) (u : Value), args[i]? = some v → us[i]? = some u → Rel F B w v u) → us = us0)
    (hv : ∀ (F B : Nat → Prop) (w : World), Rel F B w v u0) (h : ∀ w, Calls P f us0 w fun e w' => e = .returned u0 ∧ Below w.heap.size w w') : Spec P f args Hp.emp (Is v) := by
  refine ⟨hf, fun C us hC hl hargs _ => ?_⟩
  rw [hus _ _ _ us hl hargs]
  refine (h C.w0).mono ?_
  rintro e w' ⟨rfl, hb⟩
  refine ⟨u0, v, Hp.emp, C.F0, rfl, hv _ _ _, ⟨fun k o hk => by simp [Hp.emp] at hk, fun k k' o o' b hk => by simp [Hp.emp] at hk, fun k o b hk => by simp [Hp.emp] at hk, fun b hb => .inl hb, fun b hb => hb, fun b hb' => Nat.lt_of_lt_of_le (hC.F0 b hb').1 hb.size, ?_⟩, rfl, rfl⟩
  exact ⟨hb.os, hb.tape, hb.output, hb.size, fun b hlt _ => hb.block b hlt, fun b c e fr hc => ⟨c, fr, by rw [hb.block b (Array.getElem?_eq_some_iff.1 hc).1]; exact hc, rfl⟩⟩
end Go.Proofs.Ytobngncjflogcaa.AM

set_option linter.unusedVariables false
set_option linter.unusedSimpArgs false
namespace Go.Proofs.Ytobngncjflogcaa.AM
open Go
open Go.BigFrame

theorem HEnt.refl (h : Hp) : HEnt h h := fun _ F _ _ hs => ⟨F, fun _ h => h, hs⟩
theorem HEnt.trans {a b c : Hp} (h : HEnt a b) (h' : HEnt b c) : HEnt a c := fun C F w hC hs => by
  obtain ⟨F1, h1, hs1⟩ := h C F w hC hs
  obtain ⟨F2, h2, hs2⟩ := h' C F1 w hC hs1
  exact ⟨F2, fun b hb => h2 b (h1 b hb), hs2⟩

/-- a cell that is a slice of nothing may be said to be an object of the call's own -/
theorem HEnt.nilcell {h : Hp} {k k' ty sz r c : Nat} {o : Ob} {row : List V} (hk : h k = some o) (hr : o.rows[r]? = some row) (hc : row[c]? = some .nilsl) (hk' : h k' = none) :
    HEnt h (Hp.put (Hp.put h k ⟨o.b, o.ty, o.sz, o.rows.set r (row.set c (.own k' none sz 0))⟩) k' ⟨none, ty, sz, []⟩) := by
  intro C F w hC hs
  refine ⟨F, fun _ h => h, ?_⟩
  have hne : k ≠ k' := fun e => by rw [e, hk'] at hk; cases hk
  have look : ∀ j q, (Hp.put (Hp.put h k ⟨o.b, o.ty, o.sz, o.rows.set r (row.set c (.own k' none sz 0))⟩) k' ⟨none, ty, sz, []⟩) j = some q →
      (j = k' ∧ q = ⟨none, ty, sz, []⟩) ∨ (j ≠ k' ∧ j = k ∧ q = ⟨o.b, o.ty, o.sz, o.rows.set r (row.set c (.own k' none sz 0))⟩) ∨ (j ≠ k' ∧ j ≠ k ∧ h j = some q) := by
    intro j q hj
    simp only [Hp.put] at hj
    by_cases h1 : j = k'
    · rw [if_pos h1] at hj; cases hj; exact .inl ⟨h1, rfl⟩
    · rw [if_neg h1] at hj
      by_cases h2 : j = k
      · rw [if_pos h2] at hj; cases hj; exact .inr (.inl ⟨h1, h2, rfl⟩)
      · rw [if_neg h2] at hj; exact .inr (.inr ⟨h1, h2, hj⟩)
  have blk : ∀ j q b, (Hp.put (Hp.put h k ⟨o.b, o.ty, o.sz, o.rows.set r (row.set c (.own k' none sz 0))⟩) k' ⟨none, ty, sz, []⟩) j = some q → q.b = some b → ∃ q', h j = some q' ∧ q'.b = some b := by
    intro j q b hj hb
    rcases look j q hj with ⟨_, rfl⟩ | ⟨_, rfl, rfl⟩ | ⟨_, _, hq⟩
    · cases hb
    · exact ⟨o, hk, hb⟩
    · exact ⟨q, hq, hb⟩
  refine ⟨fun j q hj => ?_, fun j j' q q' b hj hj' hb hb' => ?_, fun j q b hj hb => ?_, hs.old, hs.new, hs.lt, hs.ev⟩
  · rcases look j q hj with ⟨_, rfl⟩ | ⟨_, rfl, rfl⟩ | ⟨_, _, hq⟩
    · exact (show ObSat F C.B w ⟨none, ty, sz, []⟩ from rfl)
    · have ho := hs.ob j o hk
      unfold ObSat at ho ⊢
      simp only
      cases hb : o.b with
      | none =>
        rw [hb] at ho
        simp only at ho ⊢
        rw [ho] at hr
        simp at hr
      | some b =>
        rw [hb] at ho
        obtain ⟨cs, cap, h1, h2, h3, h4, h5, h6⟩ := ho
        have hrl := (List.getElem?_eq_some_iff.1 hr).1
        refine ⟨cs, cap, h1, h2, h3, by simpa using h4, fun r' hr' => ?_, fun i l r' v hi hl => ?_⟩
        · rcases List.mem_or_eq_of_mem_set hr' with h | h
          · exact h5 r' h
          · rw [h, List.length_set]; exact h5 row (List.mem_of_getElem? hr)
        · rw [List.getElem?_set] at hi
          by_cases hir : r = i
          · subst hir
            rw [if_pos rfl, if_pos hrl] at hi
            cases hi
            rw [List.getElem?_set] at hl
            by_cases hlc : c = l
            · subst hlc
              rw [if_pos rfl] at hl
              obtain ⟨u, hu, h1u, hru⟩ := h6 r c row .nilsl hr hc
              split at hl
              · cases hl
                refine ⟨u, hu, h1u, ?_⟩
                cases hru
                exact .ownnil _ _
              · cases hl
            · rw [if_neg hlc] at hl
              exact h6 r l row v hr hl
          · rw [if_neg hir] at hi
            exact h6 i l r' v hi hl
    · exact hs.ob j q hq
  · obtain ⟨p, hp, hpb⟩ := blk j q b hj hb
    obtain ⟨p', hp', hpb'⟩ := blk j' q' b hj' hb'
    exact hs.inj j j' p p' b hp hp' hpb hpb'
  · obtain ⟨p, hp, hpb⟩ := blk j q b hj hb
    exact hs.live j p b hp hpb

/-- plain values: no object of the call's own in them -/
def V.pl : V → Bool
  | .own .. => false
  | .win .. => false
  | .ptr .. => false
  | .agg _ => false
  | .tup _ => false
  | _ => true
theorem V.pl_ren {v : V} (h : v.pl = true) (f : Nat → Nat) : v.ren f = v := by cases v <;> first | rfl | cases h
theorem args_plain {h : Hp} {m : List (Nat × Nat)} : ∀ {l : List V}, l.all V.pl = true → Args h m l l
  | [], _ => .nil
  | v :: l, hl => by
    simp only [List.all_cons, Bool.and_eq_true] at hl
    refine .cons ?_ (args_plain hl.2)
    have := Arg.same (h := h) (m := m) v
    rwa [V.pl_ren hl.1] at this

/-- a call that is handed one object -/
theorem call1 {P : Program} {f k sz : Nat} {b : Option Nat} {rest : List V} {o : Ob} {post : V → List (Nat × Ob) → Prop} (hs : Spec P f (.ptr 0 b sz 0 0 :: rest) (lookH [(0, o)]) fun v' h' => ∃ L', post v' L' ∧ h' = lookH L') (hpost : ∀ v L', post v L' → ∃ o', L' = [(0, o')])
    (hrest : rest.all V.pl = true) (ho : ∀ g, o.ren g = o) (hz : o.Fz) {h : Hp} {K : V → Hp → Prop} (hk : h k = some o) (hK : ∀ v o', post v [(0, o')] → K (v.ren (lab [(0, k)])) (h.put k (o'.ren (lab [(0, k)])))) : CallE P f (.ptr k b sz 0 0 :: rest) h K := by
  refine ⟨h, HEnt.refl h, [(0, k)], _, _, _, hs, .cons ?_ (args_plain hrest), fun j q hj => ?_, fun p hp => ?_, ?_⟩
  · have := Arg.same (h := h) (m := [(0, k)]) (.ptr k b sz 0 0)
    simpa [V.ren, V.rl, bal] using this
  · simp only [lookH] at hj
    split at hj
    · rename_i h0; exact ⟨(0, k), by simp, h0.symm⟩
    · cases hj
  · simp only [List.mem_singleton] at hp
    subst hp
    refine ⟨by simp [lab], by simp [bal], fun q hq => ?_⟩
    simp only [lookH, ↓reduceIte, Option.some.injEq] at hq
    subst hq
    exact ⟨by rw [hk, Option.map_some, ho], hz⟩
  · rintro v' h' ⟨L', hp, rfl⟩
    obtain ⟨o', rfl⟩ := hpost _ _ hp
    have e : h.upd [(0, k)] (lookH [(0, o')]) = h.put k (o'.ren (lab [(0, k)])) := by
      funext i
      unfold Hp.upd Hp.put
      simp only [List.any_cons, List.any_nil, Bool.or_false, decide_eq_true_eq]
      by_cases hi : k = i
      · rw [if_pos hi, if_pos hi.symm, ← hi]
        simp [bal, lookH]
      · rw [if_neg hi, if_neg (fun e => hi e.symm)]
    rw [e]
    exact hK v' o' hp

theorem resV_mono {s : S} : ∀ (rv : List RV) (K K' : List V → Prop), (∀ x, K x → K' x) → resV s rv K → resV s rv K' := by
  intro rv
  induction rv with
  | nil => intro K K' hK h; exact hK _ h
  | cons r rv ih =>
    intro K K' hK h
    cases r with
    | t i => exact ih _ _ (fun x hx => hK _ hx) h
    | c1 i =>
      simp only [resV] at h ⊢
      unfold load1V at h ⊢
      split at h
      · unfold rowC at h ⊢
        split at h
        · obtain ⟨a1, a2, a3, a4, a5⟩ := h
          exact ⟨a1, a2, a3, a4, ih _ _ (fun x hx => hK _ hx) a5⟩
        · exact h.elim
      · exact ⟨h.1, ih _ _ (fun x hx => hK _ hx) h.2⟩
      · exact h.elim
    | cn i n =>
      simp only [resV] at h ⊢
      unfold loadnV at h ⊢
      split at h
      · unfold rowC at h ⊢
        split at h
        · obtain ⟨a1, a2, a3, a4, a5⟩ := h
          exact ⟨a1, a2, a3, a4, ih _ _ (fun x hx => hK _ hx) a5⟩
        · exact h.elim
      · exact ⟨h.1, ih _ _ (fun x hx => hK _ hx) h.2⟩
      · exact h.elim

/-- a method that is handed some objects, numbered from 0 -/
theorem spec_meth {P : Program} {f : Nat} {fn : Func} {ac : AC} {rv : List RV} {args : List V} {L : List (Nat × Ob)} {D : Array Oper → List AO → Bool} (hD : DrawOk P D) (ok : FnOk P f fn ac rv args.length D) (post : V → List (Nat × Ob) → Prop)
    (h : ∀ R : S → Prop, (∀ (s s' : S) (v : V) (L' : List (Nat × Ob)), Ent s s' → resV s' rv (fun x => oneV x = v) → agreeH L' s' → Fz v → (∀ p ∈ L', p.2.Fz) → post v L' → R s) → awp std (CallE P) (CallP P) ac (S0 args (lookH L)) R (fun _ _ => False) R) :
    Spec P f args (lookH L) (fun v h' => ∃ L', post v L' ∧ h' = lookH L') := by
  obtain ⟨c, hc, hac⟩ := Option.bind_eq_some_iff.1 ok.body
  refine spec_of hD ok.func ok.name hc hac ok.res ok.args (h _ fun s s' v L' he hr ha hz hzL hp => ⟨s', he, ?_⟩)
  refine resV_mono rv _ _ (fun x hx => ?_) hr
  subst hx
  refine ⟨hz, lookH L', fun k o hk => ?_, L', hp, rfl⟩
  refine ⟨lookH_agree ha k o hk, ?_⟩
  have : ∀ (l : List (Nat × Ob)), (∀ p ∈ l, p.2.Fz) → ∀ k o, lookH l k = some o → o.Fz := by
    intro l
    induction l with
    | nil => intro _ k o hk; cases hk
    | cons p l ih =>
      intro hl k o hk
      simp only [lookH] at hk
      split at hk
      · cases hk; exact hl p (by simp)
      · exact ih (fun q hq => hl q (by simp [hq])) k o hk
  exact this L' hzL k o hk
end Go.Proofs.Ytobngncjflogcaa.AM

set_option linter.unusedVariables false
set_option linter.unusedSimpArgs false
namespace Go.Proofs.Ytobngncjflogcaa.AM
open Go
set_option maxRecDepth 100000
set_option maxHeartbeats 2000000

/-- a maker and its parts in memory -/
def obM (b ka : Nat) (ba : Option Nat) (n : Nat) (put : List UInt8) (cut : Int) : Ob := ⟨some b, 151, 3, [[.own ka ba 3 n, .str put, .int .i64 cut]]⟩
def obA (ba : Option Nat) (rows : List (List V)) : Ob := ⟨ba, 108, 3, rows⟩
def hMk (b : Nat) (ba : Option Nat) (m : Mk) : List (Nat × Ob) := [(0, obM b 1000000 ba m.out.length m.put m.cut), (1000000, obA ba (m.out.map encPart))]
theorem encPart_fz (p : Part) : ∀ v ∈ encPart p, Fz v := by
  intro v hv
  simp only [encPart, List.mem_cons, List.not_mem_nil, or_false] at hv
  rcases hv with rfl | rfl | rfl
  · exact .int _ _
  · exact .int _ _
  · exact .str _
theorem encParts_fz (d : List Part) : ∀ r ∈ d.map encPart, ∀ v ∈ r, Fz v := by
  intro r hr
  obtain ⟨p, _, rfl⟩ := List.mem_map.1 hr
  exact encPart_fz p
theorem obM_fz {b ka n : Nat} {ba : Option Nat} {put : List UInt8} {cut : Int} : (obM b ka ba n put cut).Fz := by
  intro r hr v hv
  simp only [obM, List.mem_singleton] at hr
  subst hr
  simp only [List.mem_cons, List.not_mem_nil, or_false] at hv
  rcases hv with rfl | rfl | rfl
  · exact .own _ _ _ _
  · exact .str _
  · exact .int _ _
theorem obA_fz {ba : Option Nat} {d : List Part} : (obA ba (d.map encPart)).Fz := encParts_fz d

def MkSpec (f : Nat) (args : List V) (m m' : Mk) (r : Option Nat → V) : Prop := ∀ b ba, Spec Try.prog f (.ptr 0 (some b) 3 0 0 :: args) (lookH (hMk b ba m)) (fun v h' => ∃ L', (∃ ba', v = r ba' ∧ L' = hMk b ba' m') ∧ h' = lookH L')
theorem spec_mk {f : Nat} {fn : Func} {ac : AC} {rv : List RV} {args : List V} {D : Array Oper → List AO → Bool} (hD : DrawOk Try.prog D) (ok : FnOk Try.prog f fn ac rv (args.length + 1) D) {m m' : Mk} (r : Option Nat → V) (hr : ∀ ba, Fz (r ba))
    (h : ∀ (b : Nat) (ba : Option Nat) (R : S → Prop), (∀ (s s' : S) (ba' : Option Nat), Ent s s' → resV s' rv (fun x => oneV x = r ba') → s'.h 0 = some (obM b 1000000 ba' m'.out.length m'.put m'.cut) → s'.h 1000000 = some (obA ba' (m'.out.map encPart)) → R s) →
      awp std (CallE Try.prog) (CallP Try.prog) ac (S0 (.ptr 0 (some b) 3 0 0 :: args) (lookH (hMk b ba m))) R (fun _ _ => False) R) : MkSpec f args m m' r := fun b ba =>
  spec_meth hD ok (fun v L' => ∃ ba', v = r ba' ∧ L' = hMk b ba' m') fun R hR => h b ba R fun s s' ba' he hres h0 h1 => hR s s' (r ba') (hMk b ba' m') he hres ⟨h0, h1, trivial⟩ (hr ba')
    (by intro p hp; simp only [hMk, List.mem_cons, List.not_mem_nil, or_false] at hp; rcases hp with rfl | rfl; exact obM_fz; exact obA_fz) ⟨ba', rfl, rfl⟩

theorem mem_of_lookH : ∀ {L : List (Nat × Ob)} {k : Nat} {o : Ob}, lookH L k = some o → (k, o) ∈ L
  | [], _, _, h => by cases h
  | (j, q) :: L, k, o, h => by
    simp only [lookH] at h
    split at h
    · rename_i hk; cases h; rw [hk]; exact List.mem_cons_self
    · exact List.mem_cons_of_mem _ (mem_of_lookH h)
theorem callG {P : Program} {f : Nat} {args args' : List V} {L : List (Nat × Ob)} {m : List (Nat × Nat)} {post : V → List (Nat × Ob) → Prop} (hs : Spec P f args' (lookH L) fun v' h' => ∃ L', post v' L' ∧ h' = lookH L') {h : Hp} {K : V → Hp → Prop} (ha : Args h m args args')
    (hdom : ∀ k o, lookH L k = some o → ∃ q ∈ m, q.1 = k) (hm : ∀ q ∈ m, lab m q.1 = q.2 ∧ bal m q.2 = q.1 ∧ ∀ o, lookH L q.1 = some o → (h q.2).map (Ob.ren (bal m)) = some o ∧ o.Fz)
    (hK : ∀ v L', post v L' → K (v.ren (lab m)) (h.upd m (lookH L'))) : CallE P f args h K :=
  ⟨h, HEnt.refl h, m, args', lookH L, _, hs, ha, hdom, hm, by rintro v h' ⟨L', hp, rfl⟩; exact hK v L' hp⟩

theorem ren_parts (d : List Part) (f : Nat → Nat) : (d.map encPart).map (·.map (V.rl f)) = d.map encPart := by
  simp [List.map_map, Function.comp_def, encPart, V.rl]
theorem obA_ren (ba : Option Nat) (d : List Part) (f : Nat → Nat) : (obA ba (d.map encPart)).ren f = obA ba (d.map encPart) := by
  simp only [Ob.ren, obA, ren_parts]
theorem obM_ren (b ka n : Nat) (ba : Option Nat) (put : List UInt8) (cut : Int) (f : Nat → Nat) : (obM b ka ba n put cut).ren f = obM b (f ka) ba n put cut := by
  simp [Ob.ren, obM, V.rl]
/-- a maker's method is called -/
theorem call_mk {f : Nat} {args args' : List V} {m m' : Mk} {r : Option Nat → V} (hs : MkSpec f args' m m' r) {h : Hp} {K : V → Hp → Prop} {k ka b : Nat} {ba : Option Nat} (hne : k ≠ ka) (hargs : ∀ h, Args h [(0, k), (1000000, ka)] args args')
    (hk : h k = some (obM b ka ba m.out.length m.put m.cut)) (hka : h ka = some (obA ba (m.out.map encPart)))
    (hK : ∀ ba', K ((r ba').ren (lab [(0, k), (1000000, ka)])) (Hp.put (Hp.put h k (obM b ka ba' m'.out.length m'.put m'.cut)) ka (obA ba' (m'.out.map encPart)))) : CallE Try.prog f (.ptr k (some b) 3 0 0 :: args) h K := by
  have hne' : ¬ ka = k := fun e => hne e.symm
  refine callG (hs b ba) (m := [(0, k), (1000000, ka)]) (.cons ?_ (hargs h)) (fun j o hj => ?_) (fun q hq => ?_) ?_
  · have := Arg.same (h := h) (m := [(0, k), (1000000, ka)]) (.ptr k (some b) 3 0 0)
    simpa [V.ren, V.rl, bal] using this
  · simp only [hMk, lookH] at hj
    split at hj
    · rename_i h0; exact ⟨(0, k), by simp, h0.symm⟩
    · split at hj
      · rename_i h0; exact ⟨(1000000, ka), by simp, h0.symm⟩
      · cases hj
  · simp only [List.mem_cons, List.not_mem_nil, or_false] at hq
    rcases hq with rfl | rfl
    · refine ⟨by simp [lab], by simp [bal], fun o ho => ?_⟩
      simp only [hMk, lookH, ↓reduceIte, Option.some.injEq] at ho
      subst ho
      exact ⟨by rw [hk]; simp [Ob.ren, obM, V.rl, bal, hne'], obM_fz⟩
    · refine ⟨by simp [lab], by simp [bal, hne'], fun o ho => ?_⟩
      simp [hMk, lookH] at ho
      subst ho
      exact ⟨by rw [hka]; simp only [Option.map_some, Ob.ren, obA, ren_parts], obA_fz⟩
  · rintro v L' ⟨ba', rfl, rfl⟩
    have e : h.upd [(0, k), (1000000, ka)] (lookH (hMk b ba' m')) = Hp.put (Hp.put h k (obM b ka ba' m'.out.length m'.put m'.cut)) ka (obA ba' (m'.out.map encPart)) := by
      funext i
      by_cases h1 : ka = i
      · subst h1
        simp [Hp.upd, Hp.put, bal, hMk, lookH, hne', obA_ren]
      · by_cases h2 : k = i
        · subst h2
          simp [Hp.upd, Hp.put, bal, hMk, lookH, h1, hne, obM_ren, lab]
        · have h3 : ¬ i = ka := fun e => h1 e.symm
          have h4 : ¬ i = k := fun e => h2 e.symm
          simp [Hp.upd, Hp.put, h1, h2, h3, h4]
    rw [e]
    exact hK ba'

/-- how a maker's method ends -/
def MkEnd (rv : List RV) (r : Option Nat → List V) (b n' : Nat) (p' : List UInt8) (c' : Int) (rows' : List (List V)) (R : S → Prop) : Prop :=
  ∀ (s s' : S) (ba' : Option Nat) (n2 : Nat) (p2 : List UInt8) (c2 : Int) (rows2 : List (List V)), Ent s s' → s'.h 0 = some ⟨some b, 151, 3, [[.own 1000000 ba' 3 n2, .str p2, .int .i64 c2]]⟩ → s'.h 1000000 = some ⟨ba', 108, 3, rows2⟩ →
    Ret rv (r ba') s' → n2 = n' ∧ p2 = p' ∧ c2 = c' ∧ rows2 = rows' → R s
theorem mkEnd_of {rv : List RV} {r : Option Nat → List V} {b : Nat} {m' : Mk} {R : S → Prop} (hR : ∀ (s s' : S) (ba' : Option Nat), Ent s s' → resV s' rv (fun x => oneV x = oneV (r ba')) → s'.h 0 = some (obM b 1000000 ba' m'.out.length m'.put m'.cut) → s'.h 1000000 = some (obA ba' (m'.out.map encPart)) → R s) :
    MkEnd rv r b m'.out.length m'.put m'.cut (m'.out.map encPart) R := by
  rintro s s' ba' n2 p2 c2 rows2 he h0 h1 hr ⟨rfl, rfl, rfl, rfl⟩
  exact hR s s' ba' he (resV_mono rv _ _ (fun x hx => by rw [hx]) hr) h0 h1
def M0 (b : Nat) (ba : Option Nat) (n : Nat) (put : List UInt8) (cut : Int) (rows : List (List V)) : List (Nat × Ob) := [(0, ⟨some b, 151, 3, [[.own 1000000 ba 3 n, .str put, .int .i64 cut]]⟩), (1000000, ⟨ba, 108, 3, rows⟩)]
theorem specMk {f : Nat} {fn : Func} {ac : AC} {rv : List RV} {args : List V} {D : Array Oper → List AO → Bool} (hD : DrawOk Try.prog D) (ok : FnOk Try.prog f fn ac rv (args.length + 1) D) {m m' : Mk} (r : Option Nat → List V) (hr : ∀ ba, Fz (oneV (r ba)))
    (h : ∀ (b : Nat) (ba : Option Nat) (R : S → Prop), MkEnd rv r b m'.out.length m'.put m'.cut (m'.out.map encPart) R →
      awp std (CallE Try.prog) (CallP Try.prog) ac (S0 (.ptr 0 (some b) 3 0 0 :: args) (lookH (M0 b ba m.out.length m.put m.cut (m.out.map encPart)))) R (fun _ _ => False) R) : MkSpec f args m m' (fun ba => oneV (r ba)) :=
  spec_mk hD ok (fun ba => oneV (r ba)) hr fun b ba R hR => h b ba R (mkEnd_of hR)

def ac_flush : AC := .seq (.seq (.region false [
    ⟨some 2, none, .mov (.t 0)⟩,
    ⟨some 3, none, .nilchk (.t 2)⟩,
    ⟨some 4, none, .faddr 1 (.t 3)⟩,
    ⟨some 5, none, .load1 (.t 4)⟩,
    ⟨some 6, none, .bin .neq (.t 5) (.c (.string ⟨#[]⟩))⟩])
  (.cond (.t 6)
    (.region true [
      ⟨some 7, none, .mov (.t 0)⟩,
      ⟨some 8, none, .mov (.t 0)⟩,
      ⟨some 9, none, .nilchk (.t 8)⟩,
      ⟨some 10, none, .faddr 0 (.t 9)⟩,
      ⟨some 11, none, .load1 (.t 10)⟩,
      ⟨some 12, none, .mov (.t 0)⟩,
      ⟨some 13, none, .nilchk (.t 12)⟩,
      ⟨some 14, none, .faddr 1 (.t 13)⟩,
      ⟨some 15, none, .load1 (.t 14)⟩,
      ⟨some 16, none, .build [(.int .i64 0), (.int .i64 0), (.string ⟨#[]⟩)] [(0, 1, (.c (.int .i64 2))), (2, 1, (.t 15))]⟩,
      ⟨some 17, none, .bslice 108 3 [(.t 16)]⟩,
      ⟨some 18, none, .append 108 3 32 (.t 11) (.t 17)⟩,
      ⟨some 19, none, .nilchk (.t 7)⟩,
      ⟨some 20, none, .faddr 0 (.t 19)⟩,
      ⟨none, none, .store 1 (.t 20) (.t 18)⟩])
    (.skip)))
  (.seq (.seq (.region false [
    ⟨some 21, none, .mov (.t 0)⟩,
    ⟨some 22, none, .nilchk (.t 21)⟩,
    ⟨some 23, none, .faddr 2 (.t 22)⟩,
    ⟨some 24, none, .load1 (.t 23)⟩,
    ⟨some 25, none, .bin .gtr (.t 24) (.c (.int .i64 0))⟩])
  (.cond (.t 25)
    (.region true [
      ⟨some 26, none, .mov (.t 0)⟩,
      ⟨some 27, none, .mov (.t 0)⟩,
      ⟨some 28, none, .nilchk (.t 27)⟩,
      ⟨some 29, none, .faddr 0 (.t 28)⟩,
      ⟨some 30, none, .load1 (.t 29)⟩,
      ⟨some 31, none, .mov (.t 0)⟩,
      ⟨some 32, none, .nilchk (.t 31)⟩,
      ⟨some 33, none, .faddr 2 (.t 32)⟩,
      ⟨some 34, none, .load1 (.t 33)⟩,
      ⟨some 35, none, .build [(.int .i64 0), (.int .i64 0), (.string ⟨#[]⟩)] [(0, 1, (.c (.int .i64 3))), (1, 1, (.t 34))]⟩,
      ⟨some 36, none, .bslice 108 3 [(.t 35)]⟩,
      ⟨some 37, none, .append 108 3 32 (.t 30) (.t 36)⟩,
      ⟨some 38, none, .nilchk (.t 26)⟩,
      ⟨some 39, none, .faddr 0 (.t 38)⟩,
      ⟨none, none, .store 1 (.t 39) (.t 37)⟩])
    (.skip)))
  (.region false [
    ⟨some 40, none, .mov (.t 0)⟩,
    ⟨some 41, none, .mov (.t 0)⟩,
    ⟨some 42, none, .nilchk (.t 40)⟩,
    ⟨some 43, none, .faddr 1 (.t 42)⟩,
    ⟨none, none, .store 1 (.t 43) (.c (.string ⟨#[]⟩))⟩,
    ⟨some 44, none, .nilchk (.t 41)⟩,
    ⟨some 45, none, .faddr 2 (.t 44)⟩,
    ⟨none, none, .store 1 (.t 45) (.c (.int .i64 0))⟩]))
theorem ok_flush : FnOk Try.prog 110 Try.f110 ac_flush [] 1 drawD := ⟨Try.func110, by decide +kernel, by kernel_rfl, by kernel_rfl, by decide +kernel⟩
theorem vc_flush (P : Prim) (hP : P = std) (T T1 : CallT) (b : Nat) (ba : Option Nat) (n : Nat) (put : List UInt8) (cut : Int) (rows : List (List V)) (m : Mk) (hn : n = m.out.length) (hrows : rows = m.out.map encPart) (hput : put = m.put) (hcut : cut = m.cut) (hbd : m.out.length ≤ 100000000) (rows' : List (List V)) (n' : Nat) (hn' : n' = m.flush.length) (hrows' : rows' = m.flush.map encPart)
    (R : S → Prop) (hR : MkEnd [] (fun _ => []) b n' [] 0 rows' R) : awp P T T1 ac_flush (S0 [.ptr 0 (some b) 3 0 0] (lookH (M0 b ba n put cut rows))) R (fun _ _ => False) R := by
  cbv
  repeat' (first | (intro β; try cbv) | (refine And.intro (by assumption) ?_; try cbv) | (refine br_cases (fun h => ?_) (fun h => ?_) <;> try cbv) | (refine Exists.intro _ (And.intro (by assumption) ?_); try cbv) | (refine hc1 _ _ ?_; try cbv) | (refine hc2 _ _ ?_; try cbv) | (refine hc3 _ _ ?_; try cbv) | (refine hc4 _ _ ?_; try cbv) | (refine hc5 _ _ ?_; try cbv) | (refine hc6 _ _ ?_; try cbv) | (refine And.intro (by (clear hR; subst hP; simp [std, I64, nc] at * <;> first | omega | grind)) ?_; try cbv))
  all_goals
    refine hR _ _ _ _ _ _ _ (Ent.refl _) rfl rfl rfl ?_
    cbv
    clear hR; subst hP; subst hn' hrows' hn hrows hput hcut; simp [std, nc, Mk.flush] at *
    try simp [*]
    try exact ⟨rfl, rfl⟩
    try rfl
theorem sp_flush (m : Mk) (hbd : m.out.length ≤ 100000000) : MkSpec 110 [] m ⟨m.flush, [], 0⟩ (fun _ => .tup []) :=
  specMk dOk ok_flush (fun _ => []) (fun _ => .tup _ (by simp)) fun b ba R hR => vc_flush std rfl _ _ b ba _ _ _ _ m rfl rfl rfl rfl hbd _ _ rfl rfl R hR

def ac_mput : AC := .region false [
    ⟨some 4, none, .mov (.t 0)⟩,
    ⟨some 5, none, .nilchk (.t 4)⟩,
    ⟨some 6, none, .faddr 1 (.t 5)⟩,
    ⟨some 7, none, .load1 (.t 6)⟩,
    ⟨some 8, none, .mov (.t 1)⟩,
    ⟨some 9, none, .bin .add (.t 7) (.t 8)⟩,
    ⟨some 10, none, .nilchk (.t 4)⟩,
    ⟨some 11, none, .faddr 1 (.t 10)⟩,
    ⟨none, none, .store 1 (.t 11) (.t 9)⟩]
theorem ok_mput : FnOk Try.prog 82 Try.f82 ac_mput [] 2 drawD := ⟨Try.func82, by decide +kernel, by kernel_rfl, by kernel_rfl, by decide +kernel⟩
theorem vc_mput (P : Prim) (hP : P = std) (T T1 : CallT) (b : Nat) (ba : Option Nat) (n : Nat) (put s : List UInt8) (cut : Int) (rows : List (List V)) (hbd : (put.length : Int) + s.length ≤ 1000000000) (p' : List UInt8) (hp' : p' = put ++ s)
    (R : S → Prop) (hR : MkEnd [] (fun _ => []) b n p' cut rows R) : awp P T T1 ac_mput (S0 [.ptr 0 (some b) 3 0 0, .str s] (lookH (M0 b ba n put cut rows))) R (fun _ _ => False) R := by
  cbv
  repeat' (first | (intro β; try cbv) | (refine And.intro (by assumption) ?_; try cbv) | (refine br_cases (fun h => ?_) (fun h => ?_) <;> try cbv) | (refine Exists.intro _ (And.intro (by assumption) ?_); try cbv) | (refine hc1 _ _ ?_; try cbv) | (refine hc2 _ _ ?_; try cbv) | (refine hc3 _ _ ?_; try cbv) | (refine hc4 _ _ ?_; try cbv) | (refine hc5 _ _ ?_; try cbv) | (refine hc6 _ _ ?_; try cbv) | (refine And.intro (by (clear hR; subst hP; simp [std, I64, nc] at * <;> first | omega | grind)) ?_; try cbv))
  all_goals
    refine hR _ _ _ _ _ _ _ (Ent.refl _) rfl rfl rfl ?_
    cbv
    clear hR; subst hP; subst hp'; simp [std]
theorem sp_mput (m : Mk) (s : List UInt8) (hbd : (m.put.length : Int) + s.length ≤ 1000000000) : MkSpec 82 [.str s] m (m.doPut s) (fun _ => .tup []) :=
  specMk dOk ok_mput (fun _ => []) (fun _ => .tup _ (by simp)) fun b ba R hR => vc_mput std rfl _ _ b ba _ _ s _ _ hbd _ rfl R hR

def ac_mcut : AC := .region false [
    ⟨some 4, none, .mov (.t 0)⟩,
    ⟨some 5, none, .nilchk (.t 4)⟩,
    ⟨some 6, none, .faddr 2 (.t 5)⟩,
    ⟨some 7, none, .load1 (.t 6)⟩,
    ⟨some 8, none, .mov (.t 1)⟩,
    ⟨some 9, none, .bin .add (.t 7) (.t 8)⟩,
    ⟨some 10, none, .nilchk (.t 4)⟩,
    ⟨some 11, none, .faddr 2 (.t 10)⟩,
    ⟨none, none, .store 1 (.t 11) (.t 9)⟩]
theorem ok_mcut : FnOk Try.prog 83 Try.f83 ac_mcut [] 2 drawD := ⟨Try.func83, by decide +kernel, by kernel_rfl, by kernel_rfl, by decide +kernel⟩
theorem vc_mcut (P : Prim) (hP : P = std) (T T1 : CallT) (b : Nat) (ba : Option Nat) (n : Nat) (put : List UInt8) (cut k : Int) (rows : List (List V)) (hbd : I64 (cut + k)) (c' : Int) (hc' : c' = cut + k)
    (R : S → Prop) (hR : MkEnd [] (fun _ => []) b n put c' rows R) : awp P T T1 ac_mcut (S0 [.ptr 0 (some b) 3 0 0, .int .i64 k] (lookH (M0 b ba n put cut rows))) R (fun _ _ => False) R := by
  cbv
  repeat' (first | (intro β; try cbv) | (refine And.intro (by assumption) ?_; try cbv) | (refine br_cases (fun h => ?_) (fun h => ?_) <;> try cbv) | (refine Exists.intro _ (And.intro (by assumption) ?_); try cbv) | (refine hc1 _ _ ?_; try cbv) | (refine hc2 _ _ ?_; try cbv) | (refine hc3 _ _ ?_; try cbv) | (refine hc4 _ _ ?_; try cbv) | (refine hc5 _ _ ?_; try cbv) | (refine hc6 _ _ ?_; try cbv) | (refine And.intro (by (clear hR; subst hP; simp [std, I64, nc] at * <;> first | omega | grind)) ?_; try cbv))
  all_goals
    refine hR _ _ _ _ _ _ _ (Ent.refl _) rfl rfl rfl ?_
    cbv
    clear hR; subst hP; subst hc'; simp [std]
theorem sp_mcut (m : Mk) (k : Int) (hbd : I64 (m.cut + k)) : MkSpec 83 [.int .i64 k] m (m.doCut k) (fun _ => .tup []) :=
  specMk dOk ok_mcut (fun _ => []) (fun _ => .tup _ (by simp)) fun b ba R hR => vc_mcut std rfl _ _ b ba _ _ _ k _ hbd _ rfl R hR

theorem ansMk {f : Nat} {args : List V} {m m' : Mk} {r : Option Nat → V} (hs : MkSpec f args m m' r) (ha : args.all V.pl = true) {k ka b : Nat} {ba : Option Nat} (hne : k ≠ ka) {h : Hp} {K : V → Hp → Prop}
    (hk : h k = some ⟨some b, 151, 3, [[.own ka ba 3 m.out.length, .str m.put, .int .i64 m.cut]]⟩) (hka : h ka = some ⟨ba, 108, 3, m.out.map encPart⟩)
    (hK : ∀ ba', K ((r ba').ren (lab [(0, k), (1000000, ka)])) (Hp.put (Hp.put h k ⟨some b, 151, 3, [[.own ka ba' 3 m'.out.length, .str m'.put, .int .i64 m'.cut]]⟩) ka ⟨ba', 108, 3, m'.out.map encPart⟩)) : CallE Try.prog f (.ptr k (some b) 3 0 0 :: args) h K :=
  call_mk hs hne (fun h => args_plain ha) hk hka hK
/-- a call of a maker's method, as a text's proof takes it -/
def MkCall (T : CallT) (f : Nat) (k ka b : Nat) (ba : Option Nat) (args : List V) (n : Nat) (put : List UInt8) (cut : Int) (rows : List (List V)) (r : Option Nat → V) (n' : Nat) (put' : List UInt8) (cut' : Int) (rows' : List (List V)) : Prop :=
  ∀ (h : Hp) (K : V → Hp → Prop), h k = some ⟨some b, 151, 3, [[.own ka ba 3 n, .str put, .int .i64 cut]]⟩ → h ka = some ⟨ba, 108, 3, rows⟩ →
    (∀ ba', K (r ba') (Hp.put (Hp.put h k ⟨some b, 151, 3, [[.own ka ba' 3 n', .str put', .int .i64 cut']]⟩) ka ⟨ba', 108, 3, rows'⟩)) → T f (.ptr k (some b) 3 0 0 :: args) h K
theorem mkCall {f : Nat} {args : List V} {m m' : Mk} {r r' : Option Nat → V} (hs : MkSpec f args m m' r) (ha : args.all V.pl = true) (k ka b : Nat) (ba : Option Nat) (hne : k ≠ ka) (hr : ∀ ba', (r ba').ren (lab [(0, k), (1000000, ka)]) = r' ba') :
    MkCall (CallE Try.prog) f k ka b ba args m.out.length m.put m.cut (m.out.map encPart) r' m'.out.length m'.put m'.cut (m'.out.map encPart) := fun h K hk hka hK => ansMk hs ha hne hk hka fun ba' => by rw [hr]; exact hK ba'

end Go.Proofs.Ytobngncjflogcaa.AM

set_option linter.unusedVariables false
set_option linter.unusedSimpArgs false
namespace Go.Proofs.Ytobngncjflogcaa.AM
open Go
set_option maxRecDepth 100000
set_option maxHeartbeats 2000000
def ac_mkeep : AC := .seq (.seq (.region false [
    ⟨some 5, none, .mov (.t 1)⟩,
    ⟨some 6, none, .bin .eql (.t 5) (.c (.int .i64 0))⟩])
  (.cond (.t 6)
    (.ret)
    (.skip)))
  (.seq (.region false [
    ⟨some 7, none, .mov (.t 0)⟩,
    ⟨some 8, none, .call 110 [(.t 7)]⟩])
  (.seq (.seq (.region false [
    ⟨some 9, none, .mov (.t 0)⟩,
    ⟨some 10, none, .nilchk (.t 9)⟩,
    ⟨some 11, none, .faddr 0 (.t 10)⟩,
    ⟨some 12, none, .load1 (.t 11)⟩,
    ⟨some 13, none, .len false (.t 12)⟩,
    ⟨some 14, none, .bin .sub (.t 13) (.c (.int .i64 1))⟩,
    ⟨some 4, none, .mov (.t 14)⟩])
  (.seq (.region false [
    ⟨some 15, none, .mov (.t 4)⟩,
    ⟨some 16, none, .bin .geq (.t 15) (.c (.int .i64 0))⟩,
    ⟨some 17, none, .mov (.t 16)⟩,
    ⟨some 18, some (17, true), .mov (.t 0)⟩,
    ⟨some 19, some (17, true), .nilchk (.t 18)⟩,
    ⟨some 20, some (17, true), .faddr 0 (.t 19)⟩,
    ⟨some 21, some (17, true), .load1 (.t 20)⟩,
    ⟨some 22, some (17, true), .mov (.t 4)⟩,
    ⟨some 23, some (17, true), .iaddr 3 (.t 21) (.t 22)⟩,
    ⟨some 24, some (17, true), .faddr 0 (.t 23)⟩,
    ⟨some 25, some (17, true), .load1 (.t 24)⟩,
    ⟨some 26, some (17, true), .bin .eql (.t 25) (.c (.int .i64 1))⟩,
    ⟨some 27, none, .pick (.t 17) (.t 26) (.c (.bool false))⟩])
  (.cond (.t 27)
    (.seq (.region false [
      ⟨some 28, none, .mov (.t 0)⟩,
      ⟨some 29, none, .nilchk (.t 28)⟩,
      ⟨some 30, none, .faddr 0 (.t 29)⟩,
      ⟨some 31, none, .load1 (.t 30)⟩,
      ⟨some 32, none, .mov (.t 4)⟩,
      ⟨some 33, none, .iaddr 3 (.t 31) (.t 32)⟩,
      ⟨some 34, none, .faddr 1 (.t 33)⟩,
      ⟨some 35, none, .load1 (.t 34)⟩,
      ⟨some 36, none, .mov (.t 1)⟩,
      ⟨some 37, none, .bin .add (.t 35) (.t 36)⟩,
      ⟨some 38, none, .iaddr 3 (.t 31) (.t 32)⟩,
      ⟨some 39, none, .faddr 1 (.t 38)⟩,
      ⟨none, none, .store 1 (.t 39) (.t 37)⟩])
    (.ret))
    (.skip))))
  (.region false [
    ⟨some 40, none, .mov (.t 0)⟩,
    ⟨some 41, none, .mov (.t 0)⟩,
    ⟨some 42, none, .nilchk (.t 41)⟩,
    ⟨some 43, none, .faddr 0 (.t 42)⟩,
    ⟨some 44, none, .load1 (.t 43)⟩,
    ⟨some 45, none, .mov (.t 1)⟩,
    ⟨some 46, none, .build [(.int .i64 0), (.int .i64 0), (.string ⟨#[]⟩)] [(0, 1, (.c (.int .i64 1))), (1, 1, (.t 45))]⟩,
    ⟨some 47, none, .bslice 108 3 [(.t 46)]⟩,
    ⟨some 48, none, .append 108 3 32 (.t 44) (.t 47)⟩,
    ⟨some 49, none, .nilchk (.t 40)⟩,
    ⟨some 50, none, .faddr 0 (.t 49)⟩,
    ⟨none, none, .store 1 (.t 50) (.t 48)⟩])))
theorem ok_mkeep : FnOk Try.prog 81 Try.f81 ac_mkeep [] 2 drawD := ⟨Try.func81, by decide +kernel, by kernel_rfl, by kernel_rfl, by decide +kernel⟩
theorem vc_mkeep (P : Prim) (hP : P = std) (T T1 : CallT) (b : Nat) (ba : Option Nat) (n : Nat) (put : List UInt8) (cut k : Int) (rows : List (List V)) (m : Mk) (hn : n = m.out.length) (hrows : rows = m.out.map encPart) (hput : put = m.put) (hcut : cut = m.cut)
    (nf : Nat) (rowsf : List (List V)) (hnf : nf = m.flush.length) (hrowsf : rowsf = m.flush.map encPart) (hbd : m.flush.length ≤ 100000000) (hbk : ∀ p ∈ m.flush, I64 (p.n + k))
    (hc1 : MkCall T 110 0 1000000 b ba [] n put cut rows (fun _ => .tup []) nf [] 0 rowsf)
    (n' : Nat) (p' : List UInt8) (c' : Int) (rows' : List (List V)) (hn' : n' = (m.doKeep k).out.length) (hrows' : rows' = (m.doKeep k).out.map encPart) (hp' : p' = (m.doKeep k).put) (hc' : c' = (m.doKeep k).cut)
    (R : S → Prop) (hR : MkEnd [] (fun _ => []) b n' p' c' rows' R) : awp P T T1 ac_mkeep (S0 [.ptr 0 (some b) 3 0 0, .int .i64 k] (lookH (M0 b ba n put cut rows))) R (fun _ _ => False) R := by
  cbv
  refine br_cases (fun h => ?_) (fun h => ?_)
  · cbv
    refine hR _ _ _ _ _ _ _ (Ent.refl _) rfl rfl rfl ?_
    cbv
    clear hR hc1; subst hP; subst hn' hrows' hn hrows hput hcut hp' hc'; simp [std] at h; simp [Mk.doKeep, h]
  cbv
  have hk0 : k ≠ 0 := by clear hR hc1; subst hP; simpa [std] using h
  refine hc1 _ _ rfl rfl fun ba1 => ?_
  clear hc1
  cbv
  have ho1 : P.i64 (P.sub (P.int nf) 1) := by clear hR; subst hP; simp only [std, I64, hnf]; omega
  refine ⟨ho1, ?_⟩
  rcases List.eq_nil_or_concat m.flush with hf | ⟨pre, ⟨qk, qn, qt⟩, hf⟩
  · refine br_cases (fun h => ?_) (fun h => ?_)
    · exfalso; clear hR; subst hP; rw [hf] at hnf; simp [std, hnf] at h
    cbv
    repeat' (first | (intro β; try cbv) | (refine And.intro (by assumption) ?_; try cbv) | (refine br_cases (fun h => ?_) (fun h => ?_) <;> try cbv) | (refine Exists.intro _ (And.intro (by assumption) ?_); try cbv) | (refine hc1 _ _ ?_; try cbv) | (refine hc2 _ _ ?_; try cbv) | (refine hc3 _ _ ?_; try cbv) | (refine hc4 _ _ ?_; try cbv) | (refine hc5 _ _ ?_; try cbv) | (refine hc6 _ _ ?_; try cbv) | (refine And.intro (by (clear hR; subst hP; simp [std, I64, nc] at * <;> first | omega | grind)) ?_; try cbv))
    all_goals
      refine hR _ _ _ _ _ _ _ (Ent.refl _) rfl rfl rfl ?_
      cbv
      clear hR; subst hP; subst hn' hrows' hn hrows hput hcut hp' hc' hnf hrowsf
      simp [Mk.doKeep, hk0, hf, addKeep, std, encPart]
  · rw [List.concat_eq_append] at hf
    have hq := hbk ⟨qk, qn, qt⟩ (by rw [hf]; simp)
    simp only at hq
    have hrow : P.row rowsf (P.nat (P.sub (P.int nf) 1)) [.int .i64 qk, .int .i64 qn, .str qt] := by
      clear hR; subst hP; rw [hrowsf, hnf, hf]; simp [std, encPart]
    have hnn : nf = pre.length + 1 := by rw [hnf, hf]; simp
    have ho2 : P.leP 0 (P.sub (P.int nf) 1) := by clear hR; subst hP; simp only [std, hnn]; omega
    have ho3 : P.ltP (P.sub (P.int nf) 1) (P.int nf) := by clear hR; subst hP; simp only [std, hnn]; omega
    have ho4 : P.i64 (P.add qn k) := by clear hR; subst hP; exact hq
    refine br_cases (fun h => ?_) (fun h => ?_)
    rotate_left
    · exfalso; clear hR; subst hP; simp [std, hnn] at h
    cbv
    repeat' (first | (intro β; try cbv) | (refine And.intro (by assumption) ?_; try cbv) | (refine br_cases (fun h => ?_) (fun h => ?_) <;> try cbv) | (refine Exists.intro _ (And.intro (by assumption) ?_); try cbv) | (refine hc1 _ _ ?_; try cbv) | (refine hc2 _ _ ?_; try cbv) | (refine hc3 _ _ ?_; try cbv) | (refine hc4 _ _ ?_; try cbv) | (refine hc5 _ _ ?_; try cbv) | (refine hc6 _ _ ?_; try cbv) | (refine And.intro (by (clear hR; subst hP; simp [std, I64, nc] at * <;> first | omega | grind)) ?_; try cbv))
    all_goals
      refine hR _ _ _ _ _ _ _ (Ent.refl _) rfl rfl rfl ?_
      cbv
      clear hR hrow ho1 ho2 ho3 ho4 hbk; subst hP; subst hn' hrows' hn hrows hput hcut hp' hc' hrowsf
      simp [std] at *
      simp [Mk.doKeep, hk0, hf, addKeep, encPart, *]
theorem sp_mkeep (m : Mk) (k : Int) (hbd : m.flush.length ≤ 100000000) (hbk : ∀ p ∈ m.flush, I64 (p.n + k)) (hbo : m.out.length ≤ 100000000) : MkSpec 81 [.int .i64 k] m (m.doKeep k) (fun _ => .tup []) :=
  specMk dOk ok_mkeep (fun _ => []) (fun _ => .tup _ (by simp)) fun b ba R hR => vc_mkeep std rfl _ _ b ba _ _ _ k _ m rfl rfl rfl rfl _ _ rfl rfl hbd hbk (mkCall (sp_flush m hbo) rfl 0 1000000 b ba (by decide) (fun _ => rfl)) _ _ _ _ rfl rfl rfl rfl R hR

def ac_mdone : AC := .seq (.region false [
    ⟨some 2, none, .mov (.c (.slice none 0 0))⟩])
  (.seq (.region false [
    ⟨some 3, none, .mov (.t 0)⟩,
    ⟨some 4, none, .call 110 [(.t 3)]⟩])
  (.seq (.region false [
    ⟨some 5, none, .mov (.t 0)⟩,
    ⟨some 6, none, .nilchk (.t 5)⟩,
    ⟨some 7, none, .faddr 0 (.t 6)⟩,
    ⟨some 8, none, .load1 (.t 7)⟩,
    ⟨some 2, none, .mov (.t 8)⟩])
  (.ret)))
theorem ok_mdone : FnOk Try.prog 84 Try.f84 ac_mdone [.t 2] 1 drawD := ⟨Try.func84, by decide +kernel, by kernel_rfl, by kernel_rfl, by decide +kernel⟩
theorem vc_mdone (P : Prim) (hP : P = std) (T T1 : CallT) (b : Nat) (ba : Option Nat) (n : Nat) (put : List UInt8) (cut : Int) (rows : List (List V)) (nf : Nat) (rowsf : List (List V))
    (hc1 : MkCall T 110 0 1000000 b ba [] n put cut rows (fun _ => .tup []) nf [] 0 rowsf)
    (R : S → Prop) (hR : MkEnd [.t 2] (fun ba' => [.own 1000000 ba' 3 nf]) b nf [] 0 rowsf R) : awp P T T1 ac_mdone (S0 [.ptr 0 (some b) 3 0 0] (lookH (M0 b ba n put cut rows))) R (fun _ _ => False) R := by
  cbv
  refine hc1 _ _ rfl rfl fun ba1 => ?_
  cbv
  exact hR _ _ _ _ _ _ _ (Ent.refl _) rfl rfl rfl ⟨rfl, rfl, rfl, rfl⟩
theorem sp_mdone (m : Mk) (hbo : m.out.length ≤ 100000000) : MkSpec 84 [] m ⟨m.flush, [], 0⟩ (fun ba' => .own 1000000 ba' 3 m.flush.length) :=
  specMk dOk ok_mdone (fun ba' => [.own 1000000 ba' 3 m.flush.length]) (fun _ => .own _ _ _ _) fun b ba R hR => vc_mdone std rfl _ _ b ba _ _ _ _ _ _ (mkCall (sp_flush m hbo) rfl 0 1000000 b ba (by decide) (fun _ => rfl)) R hR
end Go.Proofs.Ytobngncjflogcaa.AM

set_option linter.unusedVariables false
set_option linter.unusedSimpArgs false
namespace Go.Proofs.Ytobngncjflogcaa.AM
open Go

def doT : List Tok → List UInt8 → List UInt8
  | [], _ => []
  | .put b :: ts, s => b :: doT ts s
  | .keep :: ts, s => s.take 1 ++ doT ts (s.drop 1)
  | .cut :: ts, s => doT ts (s.drop 1)
def inT (ts : List Tok) : Nat := (kepts ts).length
def outT : List Tok → Nat
  | [] => 0
  | .cut :: ts => outT ts
  | .keep :: ts => outT ts + 1
  | .put _ :: ts => outT ts + 1
theorem outT_app (a b : List Tok) : outT (a ++ b) = outT a + outT b := by
  induction a with
  | nil => simp [outT]
  | cons t a ih => cases t <;> simp [outT, ih] <;> omega
theorem inT_app (a b : List Tok) : inT (a ++ b) = inT a + inT b := by simp [inT, kepts_app]
theorem doT_len (ts : List Tok) (s : List UInt8) (h : s.length = inT ts) : (doT ts s).length = outT ts := by
  induction ts generalizing s with
  | nil => rfl
  | cons t ts ih =>
    cases t
    · simp only [inT, kepts, List.length_cons] at h
      simp only [doT, outT, List.length_append, List.length_take]
      rw [ih _ (by simp [inT]; omega)]
      omega
    · simp only [doT, outT, List.length_cons]
      rw [ih _ h]
    · simp only [inT, kepts, List.length_cons] at h
      simp only [doT, outT]
      exact ih _ (by simp [inT]; omega)




end Go.Proofs.Ytobngncjflogcaa.AM

set_option linter.unusedVariables false
set_option linter.unusedSimpArgs false
namespace Go.Proofs.Ytobngncjflogcaa.AM
open Go

def partOk (p : Part) : Prop := (p.kind = 2 ∧ p.n = 0 ∧ p.text ≠ []) ∨ ((p.kind = 1 ∨ p.kind = 3) ∧ 0 < p.n ∧ p.text = [])
def formOk : Int → List Part → Prop
  | _, [] => True
  | last, p :: l => partOk p ∧ p.kind ≠ last ∧ ¬ (last = 3 ∧ p.kind = 2) ∧ formOk p.kind l
def lastK : Int → List Part → Int
  | k, [] => k
  | _, p :: l => lastK p.kind l
theorem formOk_app (k : Int) (a b : List Part) : formOk k (a ++ b) ↔ formOk k a ∧ formOk (lastK k a) b := by
  induction a generalizing k with
  | nil => simp [formOk, lastK]
  | cons p a ih =>
    simp only [List.cons_append, formOk, lastK, ih]
    constructor
    · rintro ⟨a, b, c, d, e⟩; exact ⟨⟨a, b, c, d⟩, e⟩
    · rintro ⟨⟨a, b, c, d⟩, e⟩; exact ⟨a, b, c, d, e⟩
theorem lastK_app (k : Int) (a b : List Part) : lastK k (a ++ b) = lastK (lastK k a) b := by
  induction a generalizing k with
  | nil => rfl
  | cons p a ih => simp [lastK, ih]
structure Mk.Ok (m : Mk) : Prop where
  form : formOk 0 m.out
  last : lastK 0 m.out = 1 ∨ lastK 0 m.out = 0
  cut : 0 ≤ m.cut
theorem Mk.Ok.flush {m : Mk} (h : m.Ok) : formOk 0 m.flush := by
  obtain ⟨h1, h2, h3⟩ := h
  unfold Mk.flush
  by_cases hp : m.put = []
  · rw [if_pos hp, List.append_nil, formOk_app]
    refine ⟨h1, ?_⟩
    by_cases hc : 0 < m.cut
    · rw [if_pos hc]
      exact ⟨.inr ⟨.inr rfl, hc, rfl⟩, by show (3 : Int) ≠ _; omega, by show ¬ (_ ∧ (3 : Int) = 2); omega, trivial⟩
    · rw [if_neg hc]; trivial
  · rw [if_neg hp, formOk_app, formOk_app, lastK_app]
    refine ⟨⟨h1, .inl ⟨rfl, rfl, hp⟩, by show (2 : Int) ≠ _; omega, by show ¬ (_ ∧ (2 : Int) = 2); omega, trivial⟩, ?_⟩
    by_cases hc : 0 < m.cut
    · rw [if_pos hc]
      exact ⟨.inr ⟨.inr rfl, hc, rfl⟩, by show (3 : Int) ≠ 2; omega, by show ¬ (_ ∧ (3 : Int) = 2); omega, trivial⟩
    · rw [if_neg hc]; trivial
theorem addKeep_ok {o : List Part} {n : Int} (h : formOk 0 o) (hn : 0 < n) : formOk 0 (addKeep o n) ∧ lastK 0 (addKeep o n) = 1 := by
  unfold addKeep
  cases hl : o.getLast? with
  | none =>
    have : o = [] := by simpa using hl
    subst this
    exact ⟨⟨.inr ⟨.inl rfl, hn, rfl⟩, by show (1 : Int) ≠ 0; omega, by show ¬ (_ ∧ (1 : Int) = 2); omega, trivial⟩, rfl⟩
  | some p =>
    obtain ⟨a, rfl⟩ : ∃ a, o = a ++ [p] := by
      have hne : o ≠ [] := by intro h0; subst h0; simp at hl
      refine ⟨o.dropLast, ?_⟩
      have := List.dropLast_concat_getLast hne
      rw [List.getLast?_eq_some_getLast hne] at hl
      cases hl
      exact this.symm
    rw [formOk_app] at h
    obtain ⟨h1, h2, h3, h4, _⟩ := h
    by_cases hk : p.kind = 1
    · simp only [hk, ↓reduceIte, List.dropLast_concat]
      rw [formOk_app, lastK_app]
      refine ⟨⟨h1, ?_, ?_, by show ¬ (_ ∧ (1 : Int) = 2); omega, trivial⟩, rfl⟩
      · rcases h2 with ⟨h, _⟩ | ⟨_, h5, h6⟩
        · omega
        · exact .inr ⟨.inl rfl, by show 0 < p.n + n; omega, h6⟩
      · rw [hk] at h3; exact h3
    · simp only [hk, ↓reduceIte]
      rw [formOk_app, lastK_app, lastK_app]
      refine ⟨⟨(formOk_app _ _ _).2 ⟨h1, h2, h3, h4, trivial⟩, .inr ⟨.inl rfl, hn, rfl⟩, ?_, by show ¬ (_ ∧ (1 : Int) = 2); omega, trivial⟩, rfl⟩
      show (1 : Int) ≠ p.kind
      omega
theorem Mk.Ok.tok {m : Mk} (h : m.Ok) (t : Tok) : (m.tok t).Ok := by
  cases t
  · have := addKeep_ok h.flush (n := 1) (by omega)
    simp only [Mk.tok, Mk.doKeep]
    rw [if_neg (by omega)]
    exact ⟨this.1, .inl this.2, Int.le_refl _⟩
  · exact ⟨h.form, h.last, h.cut⟩
  · exact ⟨h.form, h.last, by show 0 ≤ m.cut + 1; have := h.cut; omega⟩
theorem Mk.Ok.run {m : Mk} (h : m.Ok) (ts : List Tok) : (m.run ts).Ok := by
  induction ts generalizing m with
  | nil => exact h
  | cons t ts ih => exact ih (h.tok t)
end Go.Proofs.Ytobngncjflogcaa.AM

set_option linter.unusedVariables false
set_option linter.unusedSimpArgs false
namespace Go.Proofs.Ytobngncjflogcaa.AM
open Go
set_option maxRecDepth 100000
set_option maxHeartbeats 2000000
def strRows (l : List (List UInt8)) : List (List V) := l.map fun s => [.str s]
def boolRows (l : List Bool) : List (List V) := l.map fun b => [.bool b]

theorem kepts_app_n (ts : List Tok) (x : Tok) (hx : x = .keep ∨ x = .cut) (n : Nat) : kepts (ts ++ List.replicate n x) = kepts ts ++ List.replicate n (decide (x = .keep)) := by
  rw [kepts_app]
  congr 1
  induction n with
  | zero => rfl
  | succ n ih => rcases hx with rfl | rfl <;> simp [List.replicate_succ, kepts, ih]

/-- a loop begins: a cell that is nil is an object of the call's own -/
theorem Ent.nilcell {s : S} {k k' ty sz r c : Nat} {o : Ob} {row : List V} (hk : s.h k = some o) (hr : o.rows[r]? = some row) (hc : row[c]? = some .nilsl) (hk' : s.h k' = none) :
    Ent s ⟨s.t, Hp.put (Hp.put s.h k ⟨o.b, o.ty, o.sz, o.rows.set r (row.set c (.own k' none sz 0))⟩) k' ⟨none, ty, sz, []⟩⟩ := by
  intro C n a w hC hs
  obtain ⟨F, h1, h2⟩ := hs.ex
  obtain ⟨F', hF, h1'⟩ := HEnt.nilcell hk hr hc hk' C F w hC h1
  exact ⟨⟨F', h1', fun i => (h2 i).mono hF (fun _ h => .inr h)⟩, hs.df, hs.sz⟩
theorem strRows_fz (l : List (List UInt8)) : ∀ r ∈ strRows l, ∀ v ∈ r, Fz v := by
  intro r hr v hv
  obtain ⟨s, _, rfl⟩ := List.mem_map.1 hr
  simp only [List.mem_singleton] at hv
  subst hv; exact .str _
theorem strRows_sz (l : List (List UInt8)) : ∀ r ∈ strRows l, r.length = 1 := by
  intro r hr; obtain ⟨s, _, rfl⟩ := List.mem_map.1 hr; rfl
/-- places as a value -/
def encPl (ps : List (List UInt8)) (ks : List Bool) : V := .agg [.sl false 1 (strRows ps), .sl false 1 (boolRows ks)]
end Go.Proofs.Ytobngncjflogcaa.AM

set_option linter.unusedVariables false
set_option linter.unusedSimpArgs false
namespace Go.Proofs.Ytobngncjflogcaa.AM
open Go
set_option maxRecDepth 100000
set_option maxHeartbeats 2000000
structure Mk.Bd (m : Mk) (j w : Nat) : Prop where
  len : m.out.length ≤ 3 * j
  cut : 0 ≤ m.cut ∧ m.cut ≤ j
  ns : ∀ p ∈ m.out, 0 ≤ p.n ∧ p.n ≤ j
  put : m.put.length ≤ w
theorem Mk.bd_new : Mk.new.Bd 0 0 := ⟨by simp [Mk.new], by simp [Mk.new], by simp [Mk.new], by simp [Mk.new]⟩
theorem Mk.Bd.doPut {m : Mk} {j w : Nat} (h : m.Bd j w) (s : List UInt8) : (m.doPut s).Bd j (w + s.length) := ⟨h.len, h.cut, h.ns, by have := h.put; simp [Mk.doPut]; omega⟩
theorem Mk.Bd.doCut {m : Mk} {j w : Nat} (h : m.Bd j w) (n : Int) (hn : 0 ≤ n) : (m.doCut n).Bd (j + n.toNat) w :=
  ⟨by have := h.len; simp only [Mk.doCut]; omega, by have := h.cut; simp only [Mk.doCut]; omega, fun p hp => by have := h.ns p hp; omega, h.put⟩
theorem Mk.Bd.flush {m : Mk} {j w : Nat} (h : m.Bd j w) : m.flush.length ≤ 3 * j + 2 ∧ ∀ p ∈ m.flush, 0 ≤ p.n ∧ p.n ≤ j := by
  have h1 := h.len
  have h2 := h.cut
  refine ⟨?_, fun p hp => ?_⟩
  · unfold Mk.flush
    split <;> split <;> simp <;> omega
  · unfold Mk.flush at hp
    rw [List.mem_append, List.mem_append] at hp
    rcases hp with (hp | hp) | hp
    · exact h.ns p hp
    · split at hp
      · cases hp
      · simp at hp; subst hp; simp
    · split at hp
      · simp at hp; subst hp; exact h2
      · cases hp
theorem Mk.Bd.doKeep {m : Mk} {j w : Nat} (h : m.Bd j w) (n : Int) (hn : 0 ≤ n) : (m.doKeep n).Bd (j + n.toNat) w := by
  unfold Mk.doKeep
  by_cases h0 : n = 0
  · subst h0; simpa using h
  rw [if_neg h0]
  obtain ⟨h1, h2⟩ := h.flush
  refine ⟨?_, by simp; omega, fun p hp => ?_, by simp⟩
  · simp only [addKeep]
    split
    · split
      · simp; omega
      · simp; omega
    · simp; omega
  · simp only [addKeep] at hp
    split at hp
    · rename_i q hq
      split at hp
      · rcases List.mem_append.1 hp with hp | hp
        · have := h2 p ((List.dropLast_sublist _).mem hp); omega
        · simp at hp; subst hp
          have := h2 q (List.mem_of_getLast? hq)
          simp only; omega
      · rcases List.mem_append.1 hp with hp | hp
        · have := h2 p hp; omega
        · simp at hp; subst hp; simp only; omega
    · simp at hp; subst hp; simp only; omega
theorem Mk.Bd.mono {m : Mk} {j w j' w' : Nat} (h : m.Bd j w) (hj : j ≤ j') (hw : w ≤ w') : m.Bd j' w' :=
  ⟨by have := h.len; omega, by have := h.cut; omega, fun p hp => by have := h.ns p hp; omega, by have := h.put; omega⟩

end Go.Proofs.Ytobngncjflogcaa.AM

set_option linter.unusedVariables false
set_option linter.unusedSimpArgs false
namespace Go.Proofs.Ytobngncjflogcaa.AM
open Go
set_option maxRecDepth 100000
set_option maxHeartbeats 2000000

theorem ansL {f : Nat} {d : List Part} {v : V} (h : Spec Try.prog f [.sl true 3 (d.map encPart)] Hp.emp (Is v)) (hv : v.ren (lab []) = v) : Ans (CallE Try.prog) f [encParts d] v := ansW h (fun _ => .cons (.weak _ _) .nil) hv
end Go.Proofs.Ytobngncjflogcaa.AM

set_option linter.unusedVariables false
set_option linter.unusedSimpArgs false
namespace Go.Proofs.Ytobngncjflogcaa.AM
open Go
set_option maxRecDepth 100000
set_option maxHeartbeats 2000000
def MkC (T : CallT) (f : Nat) (args : List V) (pre : Mk → Prop) (g : Mk → Mk) (r : Nat → Option Nat → Nat → V) : Prop :=
  ∀ (k ka b : Nat) (ba : Option Nat) (n : Nat) (put : List UInt8) (cut : Int) (rows : List (List V)) (m : Mk) (h : Hp) (K : V → Hp → Prop), n = m.out.length ∧ rows = m.out.map encPart ∧ put = m.put ∧ cut = m.cut → pre m → Nat.beq k ka = false →
    h k = some ⟨some b, 151, 3, [[.own ka ba 3 n, .str put, .int .i64 cut]]⟩ → h ka = some ⟨ba, 108, 3, rows⟩ →
    (∀ (ba' : Option Nat) (n' : Nat) (put' : List UInt8) (cut' : Int) (rows' : List (List V)), n' = (g m).out.length ∧ rows' = (g m).out.map encPart ∧ put' = (g m).put ∧ cut' = (g m).cut →
      K (r ka ba' n') (Hp.put (Hp.put h k ⟨some b, 151, 3, [[.own ka ba' 3 n', .str put', .int .i64 cut']]⟩) ka ⟨ba', 108, 3, rows'⟩)) → T f (.ptr k (some b) 3 0 0 :: args) h K
theorem mkC_of {f : Nat} {args : List V} {pre : Mk → Prop} {g : Mk → Mk} {r0 : Mk → Option Nat → V} {r : Nat → Option Nat → Nat → V} (hs : ∀ m, pre m → MkSpec f args m (g m) (r0 m)) (ha : args.all V.pl = true) (hr : ∀ m k ka ba, (r0 m ba).ren (lab [(0, k), (1000000, ka)]) = r ka ba (g m).out.length) : MkC (CallE Try.prog) f args pre g r := by
  rintro k ka b ba n put cut rows m h K ⟨rfl, rfl, rfl, rfl⟩ hp hne hk hka hK
  have hne' : k ≠ ka := by intro e; subst e; rw [Nat.beq_refl] at hne; cases hne
  exact ansMk (hs m hp) ha hne' hk hka fun ba' => by rw [hr]; exact hK ba' _ _ _ _ ⟨rfl, rfl, rfl, rfl⟩
def unitR : Nat → Option Nat → Nat → V := fun _ _ _ => .tup []
def doneR : Nat → Option Nat → Nat → V := fun ka ba n => .own ka ba 3 n
theorem keepC (k : Int) (hk : 0 ≤ k ∧ k ≤ 1000000) : MkC (CallE Try.prog) 81 [.int .i64 k] (fun m => ∃ j w, m.Bd j w ∧ j ≤ 2000000) (fun m => m.doKeep k) unitR :=
  mkC_of (fun m ⟨j, w, hb, hj⟩ => sp_mkeep m k (by have := hb.flush.1; omega) (fun p hp => by have := hb.flush.2 p hp; unfold I64; omega) (by have := hb.len; omega)) rfl (fun _ _ _ _ => rfl)
theorem putC (s : List UInt8) (hs : s.length ≤ 1000000000) : MkC (CallE Try.prog) 82 [.str s] (fun m => m.put.length + s.length ≤ 1000000000) (fun m => m.doPut s) unitR :=
  mkC_of (fun m h => sp_mput m s (by omega)) rfl (fun _ _ _ _ => rfl)
theorem cutC (k : Int) (hk : 0 ≤ k ∧ k ≤ 1000000) : MkC (CallE Try.prog) 83 [.int .i64 k] (fun m => ∃ j w, m.Bd j w ∧ j ≤ 2000000) (fun m => m.doCut k) unitR :=
  mkC_of (fun m ⟨j, w, hb, hj⟩ => sp_mcut m k (by have := hb.cut; unfold I64; omega)) rfl (fun _ _ _ _ => rfl)
theorem doneC : MkC (CallE Try.prog) 84 [] (fun m => m.out.length ≤ 100000000) (fun m => ⟨m.flush, [], 0⟩) doneR :=
  mkC_of (r0 := fun m ba' => .own 1000000 ba' 3 m.flush.length) (fun m h => sp_mdone m h) rfl (fun m k ka ba => by simp [V.ren, V.rl, lab, doneR])

def RetSl (rv : List RV) (sz : Nat) (rows' : List (List V)) (tl : List V) (R : S → Prop) : Prop :=
  (∀ (s s' : S), Ent s s' → Ret rv (.nilsl :: tl) s' → rows' = [] → R s) ∧
  (∀ (s s' : S) (k : Nat) (b : Option Nat) (ty n : Nat) (rows : List (List V)), Ent s s' → Ret rv (.own k b sz n :: tl) s' → s'.h k = some ⟨b, ty, sz, rows⟩ → n = rows'.length ∧ rows = rows' → R s) ∧
  (∀ (s s' : S) (rows : List (List V)), Ent s s' → Ret rv (.sl false sz rows :: tl) s' → rows = rows' → R s)
theorem fr_tup {h : Hp} : ∀ {l : List V}, (∀ v ∈ l, Fz v) → Fr h (.tup l) (.tup l) := fun hz => .same _ (.tup _ hz)
theorem fr_one {h : Hp} {v v' : V} {tl : List V} (h1 : Fr h v v') (hz : ∀ v ∈ tl, Fz v) : Fr h (oneV (v :: tl)) (oneV (v' :: tl)) := by
  cases tl with
  | nil => exact h1
  | cons a tl => exact .tup_cons h1 (fr_tup hz)
theorem retSl_of {rv : List RV} {sz : Nat} {rows' : List (List V)} {tl : List V} {R : S → Prop} (hsz : ∀ r ∈ rows', r.length = sz) (hz : ∀ r ∈ rows', ∀ v ∈ r, Fz v) (htl : ∀ v ∈ tl, Fz v) (hR : ∀ s s', Ent s s' → RetF rv (oneV (.sl false sz rows' :: tl)) s' → R s) : RetSl rv sz rows' tl R := by
  refine ⟨?_, ?_, ?_⟩
  · rintro s s' he hr rfl
    exact hR s s' he (resV_mono _ _ _ (fun x hx => by subst hx; exact fr_one (.nilsl sz) htl) hr)
  · rintro s s' k b ty n rows he hr h1 ⟨rfl, rfl⟩
    exact hR s s' he (resV_mono _ _ _ (fun x hx => by subst hx; exact fr_one (.rows h1 rfl rfl rfl hsz hz) htl) hr)
  · rintro s s' rows he hr rfl
    exact hR s s' he (resV_mono _ _ _ (fun x hx => by subst hx; exact fr_one (.same _ (.sl _ _ hz)) htl) hr)
theorem parts_sz (d : List Part) : ∀ r ∈ d.map encPart, r.length = 3 := by
  intro r hr; obtain ⟨p, _, rfl⟩ := List.mem_map.1 hr; rfl
theorem int_fz (e : Int) : ∀ v ∈ [V.int .i64 e], Fz v := by intro v hv; simp at hv; subst hv; exact .int _ _

instance : DecidableEq Part := fun a b => by
  cases a with
  | mk k n t => cases b with
    | mk k' n' t' => exact decidable_of_iff (k = k' ∧ n = n' ∧ t = t') (by simp)


end Go.Proofs.Ytobngncjflogcaa.AM

set_option linter.unusedVariables false
set_option linter.unusedSimpArgs false
namespace Go.Proofs.Ytobngncjflogcaa.AM
open Go
set_option maxRecDepth 100000
set_option maxHeartbeats 2000000
theorem rowsOf_own {h : Hp} {k sz n ty : Nat} {b : Option Nat} {rs : List (List V)} (hn : n = rs.length) (hk : h k = some ⟨b, ty, sz, rs⟩) : rowsOf h sz (.own k b sz n) = some rs := by
  simp only [rowsOf, hk]
  rw [if_pos ⟨trivial, trivial, trivial, by omega⟩, hn, List.take_length]
/-- a row of the call's own is handed to a function that reads it -/
theorem ownCall {f sz ty : Nat} {rows : List (List V)} {v : V} (hs : Spec Try.prog f [.sl true sz rows] Hp.emp (Is v)) (hv : v.ren (lab []) = v) (h : Hp) (K : V → Hp → Prop) (k : Nat) (b : Option Nat) (n : Nat) (rs : List (List V)) (hrs : rs = rows) (hn : n = rs.length) (hk : h k = some ⟨b, ty, sz, rs⟩) (hK : K v h) : CallE Try.prog f [.own k b sz n] h K :=
  ⟨h, HEnt.refl h, call_pure hs (.cons (.own k b sz n rows (by rw [rowsOf_own hn hk, hrs]) (by simp)) .nil) (by rw [hv]; exact hK)⟩
theorem pl_ren (ps : List (List UInt8)) (ks : List Bool) : (encPl ps ks).ren (lab []) = encPl ps ks := rfl
end Go.Proofs.Ytobngncjflogcaa.AM

set_option linter.unusedVariables false
set_option linter.unusedSimpArgs false
namespace Go.Proofs.Ytobngncjflogcaa.AM
open Go
theorem br_tt {t : Bool} {A B : Prop} (ht : t = true) (h : A) : br.match_1 (fun _ => Prop) t (fun _ => A) (fun _ => B) := by subst ht; exact h
theorem br_ff {t : Bool} {A B : Prop} (ht : t = false) (h : B) : br.match_1 (fun _ => Prop) t (fun _ => A) (fun _ => B) := by subst ht; exact h
section
variable {P : Prim} (hP : P = std)
include hP
theorem lt_t {a b : Int} (h : P.lt a b = true) : a < b := by subst hP; exact of_decide_eq_true h
theorem lt_f {a b : Int} (h : P.lt a b = false) : ¬ a < b := by subst hP; exact of_decide_eq_false h
theorem le_t {a b : Int} (h : P.le a b = true) : a ≤ b := by subst hP; exact of_decide_eq_true h
theorem le_f {a b : Int} (h : P.le a b = false) : ¬ a ≤ b := by subst hP; exact of_decide_eq_false h
theorem eq_t {a b : Int} (h : P.eq a b = true) : a = b := by subst hP; exact of_decide_eq_true h
theorem eq_f {a b : Int} (h : P.eq a b = false) : ¬ a = b := by subst hP; exact of_decide_eq_false h
theorem ne_t {a b : Int} (h : P.ne a b = true) : ¬ a = b := by subst hP; exact of_decide_eq_true h
theorem ne_f {a b : Int} (h : P.ne a b = false) : a = b := by subst hP; exact Decidable.of_not_not (of_decide_eq_false h)
theorem sne_t {a b : List UInt8} (h : P.sne a b = true) : ¬ a = b := by subst hP; exact of_decide_eq_true h
theorem sne_f {a b : List UInt8} (h : P.sne a b = false) : a = b := by subst hP; exact Decidable.of_not_not (of_decide_eq_false h)
theorem lt_T {a b : Int} (h : a < b) : P.lt a b = true := by subst hP; exact decide_eq_true h
theorem lt_F {a b : Int} (h : ¬ a < b) : P.lt a b = false := by subst hP; exact decide_eq_false h
theorem eq_T {a b : Int} (h : a = b) : P.eq a b = true := by subst hP; exact decide_eq_true h
theorem eq_F {a b : Int} (h : ¬ a = b) : P.eq a b = false := by subst hP; exact decide_eq_false h
theorem ne_T {a b : Int} (h : ¬ a = b) : P.ne a b = true := by subst hP; exact decide_eq_true h
theorem ne_F {a b : Int} (h : a = b) : P.ne a b = false := by subst hP; exact decide_eq_false (fun hh => hh h)
theorem seq_T {a b : List UInt8} (h : a = b) : P.seq a b = true := by subst hP; exact decide_eq_true h
theorem sne_F {a b : List UInt8} (h : a = b) : P.sne a b = false := by subst hP; exact decide_eq_false (fun hh => hh h)
theorem mn_eq (a b : Int) : P.mn a b = min a b := by subst hP; rfl
theorem rlen_eq (rows : List (List V)) : P.rlen rows = (rows.length : Int) := by subst hP; rfl
theorem slen_eq (s : List UInt8) : P.slen s = (s.length : Int) := by subst hP; rfl
theorem add_eq (a b : Int) : P.add a b = a + b := by subst hP; rfl
theorem sub_eq (a b : Int) : P.sub a b = a - b := by subst hP; rfl
theorem int_eq (n : Nat) : P.int n = (n : Int) := by subst hP; rfl
theorem le0 {k : Int} (h : 0 ≤ k) : P.leP 0 k := by subst hP; exact h
theorem leI {a b : Int} (h : a ≤ b) : P.leP a b := by subst hP; exact h
theorem ltI {a b : Int} (h : a < b) : P.ltP a b := by subst hP; exact h
theorem i64I {a : Int} (h : -9223372036854775808 ≤ a ∧ a ≤ 9223372036854775807) : P.i64 a := by subst hP; exact h
theorem row_of {rows : List (List V)} {i : Nat} {r : List V} {k : Int} (hk : k = (i : Int)) (h : rows[i]? = some r) : P.row rows (P.nat k) r := by
  subst hP; subst hk; show rows[((i : Nat) : Int).toNat]? = some r; rw [Int.toNat_natCast]; exact h
end
theorem ansLs {f : Nat} {d : List Part} {vs : List V} {v : V} (h : Spec Try.prog f (.sl true 3 (d.map encPart) :: vs) Hp.emp (Is v)) (hv : v.ren (lab []) = v) (hvs : vs.all V.pl = true) : Ans (CallE Try.prog) f (encParts d :: vs) v := ansW h (fun _ => .cons (.weak _ _) (args_plain hvs)) hv
theorem ansSame {f : Nat} {vs : List V} {v : V} (h : Spec Try.prog f vs Hp.emp (Is v)) (hv : v.ren (lab []) = v) (hvs : vs.all V.pl = true) : Ans (CallE Try.prog) f vs v := ansW h (fun _ => args_plain hvs) hv
/-- sizes of a right delta, in bytes -/
theorem inT_toks (d : List Part) (h : ∀ p ∈ d, okP p) : (inT (toks d) : Int) = inF d := by
  induction d with
  | nil => rfl
  | cons p d ih =>
    have h1 := okP_bd (h p (by simp))
    have h2 := ih fun q hq => h q (by simp [hq])
    simp only [toks, inT_app, inF]
    have : (inT (toks1 p) : Int) = if p.kind = 1 ∨ p.kind = 3 then p.n else 0 := by
      unfold toks1
      by_cases k2 : p.kind = 2
      · rw [if_pos k2, if_neg (by omega)]; simp [inT, kepts_put]
      · rw [if_neg k2]
        have hr : ∀ (n : Nat) (x : Tok), x = .keep ∨ x = .cut → inT (List.replicate n x) = n := by
          intro n x hx
          have := kepts_app_n [] x hx n
          simp only [List.nil_append, kepts] at this
          simp [inT, this]
        have h13 : p.kind = 1 ∨ p.kind = 3 := by omega
        rw [if_pos h13]
        split
        · rw [hr _ _ (.inl rfl)]; omega
        · rw [hr _ _ (.inr rfl)]; omega
    rw [← this, ← h2]
    omega
theorem outT_rep (n : Nat) (x : Tok) : outT (List.replicate n x) = if x = .cut then 0 else n := by
  induction n with
  | zero => simp [outT]
  | succ n ih => cases x <;> simp [List.replicate_succ, outT, ih]
theorem outT_map (t : List UInt8) : outT (t.map .put) = t.length := by
  induction t with
  | nil => rfl
  | cons b t ih => simp [outT, ih]
theorem outT_toks (d : List Part) (h : ∀ p ∈ d, okP p) : (outT (toks d) : Int) = outF d := by
  induction d with
  | nil => rfl
  | cons p d ih =>
    have h1 := okP_bd (h p (by simp))
    have h2 := ih fun q hq => h q (by simp [hq])
    simp only [toks, outT_app, outF]
    have : (outT (toks1 p) : Int) = if p.kind = 1 then p.n else if p.kind = 3 then 0 else p.text.length := by
      unfold toks1
      by_cases k2 : p.kind = 2
      · rw [if_pos k2, outT_map, if_neg (by omega), if_neg (by omega)]
      · rw [if_neg k2]
        split
        · rw [outT_rep, if_neg (by simp)]; omega
        · rw [outT_rep, if_pos rfl, if_pos (by omega)]; rfl
    rw [← this, ← h2]
    omega
theorem checkF_all {d : List Part} (h : checkF d = 0) : d.length ≤ 1600 ∧ (∀ p ∈ d, okP p) ∧ inF d ≤ 500 ∧ outF d ≤ 500 ∧ 0 ≤ inF d ∧ 0 ≤ outF d := by
  obtain ⟨h1, h2, h3, h4⟩ := checkF_ok h
  have h5 := chk_ok 0 d h2
  exact ⟨h1, h5, h3, h4, (inF_bd d h5).1, (outF_bd d h5).1⟩
end Go.Proofs.Ytobngncjflogcaa.AM

set_option linter.unusedVariables false
set_option linter.unusedSimpArgs false
namespace Go.Proofs.Ytobngncjflogcaa.AM
open Go Go.RowKit
set_option maxRecDepth 100000
set_option maxHeartbeats 2000000
def slotT (x : List UInt8) (n : Int) : Int := if 1048576 < x.length then 2 else if n < 0 ∨ (x.length : Int) < n then 3 else 0
def diskT (a1 : List UInt8) (a2 : Int) (b1 : List UInt8) (b2 : Int) : Int := if slotT a1 a2 ≠ 0 then slotT a1 a2 else slotT b1 b2
def lookT (a1 : List UInt8) (a2 : Int) (b1 : List UInt8) (b2 : Int) (i : Int) : Int := if diskT a1 a2 b1 b2 ≠ 0 then diskT a1 a2 b1 b2 else if i < 0 ∨ 2 ≤ i then 1 else 0
structure D4 where
  x1 : List UInt8
  x2 : Int
  x3 : List UInt8
  x4 : Int
  e : Int
def noD (e : Int) : D4 := ⟨[], 0, [], 0, e⟩
def appT (a1 : List UInt8) (a2 : Int) (b1 : List UInt8) (b2 : Int) (i : Int) (s : List UInt8) : D4 := if lookT a1 a2 b1 b2 i ≠ 0 then noD (lookT a1 a2 b1 b2 i)
  else if i = 0 then (if 1048576 < a1.length + s.length then noD 2 else ⟨a1 ++ s, a2, b1, b2, 0⟩)
  else (if 1048576 < b1.length + s.length then noD 2 else ⟨a1, a2, b1 ++ s, b2, 0⟩)
def synT (a1 : List UInt8) (a2 : Int) (b1 : List UInt8) (b2 : Int) (i : Int) : D4 := if lookT a1 a2 b1 b2 i ≠ 0 then noD (lookT a1 a2 b1 b2 i)
  else if i = 0 then ⟨a1, a1.length, b1, b2, 0⟩ else ⟨a1, a2, b1, b1.length, 0⟩
def trmT (a1 : List UInt8) (a2 : Int) (b1 : List UInt8) (b2 : Int) (i n : Int) : D4 := if lookT a1 a2 b1 b2 i ≠ 0 then noD (lookT a1 a2 b1 b2 i)
  else if i = 0 then (if n < 0 ∨ (a1.length : Int) < n then noD 1 else ⟨a1.take n.toNat, min a2 n, b1, b2, 0⟩)
  else (if n < 0 ∨ (b1.length : Int) < n then noD 1 else ⟨a1, a2, b1.take n.toNat, min b2 n, 0⟩)
theorem slot_ok {x : List UInt8} {n : Int} (h : slotT x n = 0) : x.length ≤ 1048576 ∧ 0 ≤ n ∧ n ≤ (x.length : Int) := by
  unfold slotT at h
  split at h
  · exact absurd h (by decide)
  · split at h
    · exact absurd h (by decide)
    · omega
theorem disk_ok {a1 b1 : List UInt8} {a2 b2 : Int} (h : diskT a1 a2 b1 b2 = 0) : slotT a1 a2 = 0 ∧ slotT b1 b2 = 0 := by
  unfold diskT at h
  by_cases g : slotT a1 a2 ≠ 0
  · rw [if_pos g] at h; exact absurd h g
  · rw [if_neg g] at h; exact ⟨Decidable.of_not_not g, h⟩
theorem look_ok {a1 b1 : List UInt8} {a2 b2 i : Int} (h : lookT a1 a2 b1 b2 i = 0) : diskT a1 a2 b1 b2 = 0 ∧ (i = 0 ∨ i = 1) := by
  unfold lookT at h
  by_cases g : diskT a1 a2 b1 b2 ≠ 0
  · rw [if_pos g] at h; exact absurd h g
  · rw [if_neg g] at h
    refine ⟨Decidable.of_not_not g, ?_⟩
    split at h
    · exact absurd h (by decide)
    · omega
structure YDk (a1 : List UInt8) (a2 : Int) (b1 : List UInt8) (b2 : Int) where
  m : Nat
  k : Int
  hm : m ≤ 2
  hk : k = (m : Int)
  h0 : 0 < m → slotT a1 a2 = 0
  h1 : 1 < m → slotT b1 b2 = 0
def ac_dck : AC := .seq (.region false [
    ⟨some 1, none, .box 26 4 (.t 0)⟩,
    ⟨some 2, none, .mov (.c (.int .i64 0))⟩])
  (.seq (.seq (.region false [
    ⟨some 5, none, .faddr 0 (.t 1)⟩,
    ⟨some 6, none, .loadn 4 (.t 5)⟩,
    ⟨some 7, none, .mov (.c (.int .i64 0))⟩])
  (.block 0 (.loop (.seq (.region false [
      ⟨some 8, none, .bin .lss (.t 7) (.c (.int .i64 2))⟩])
    (.seq (.cond (.t 8)
      (.skip)
      (.exit 0))
    (.seq (.block 1 (.seq (.region false [
      ⟨some 9, none, .ixa true 2 2 (.t 6) (.t 7)⟩,
      ⟨some 4, none, .alloc 23 [(.string ⟨#[]⟩), (.int .i64 0)]⟩,
      ⟨none, none, .store 2 (.t 4) (.t 9)⟩])
    (.seq (.seq (.region false [
      ⟨some 10, none, .faddr 0 (.t 4)⟩,
      ⟨some 11, none, .load1 (.t 10)⟩,
      ⟨some 12, none, .len true (.t 11)⟩,
      ⟨some 13, none, .bin .gtr (.t 12) (.c (.int .i64 1048576))⟩])
    (.cond (.t 13)
      (.seq (.region false [
        ⟨some 2, none, .mov (.c (.int .i64 2))⟩])
      (.ret))
      (.skip)))
    (.seq (.region false [
      ⟨some 14, none, .faddr 1 (.t 4)⟩,
      ⟨some 15, none, .load1 (.t 14)⟩,
      ⟨some 16, none, .bin .lss (.t 15) (.c (.int .i64 0))⟩,
      ⟨some 17, none, .mov (.t 16)⟩,
      ⟨some 18, some (17, false), .faddr 1 (.t 4)⟩,
      ⟨some 19, some (17, false), .load1 (.t 18)⟩,
      ⟨some 20, some (17, false), .faddr 0 (.t 4)⟩,
      ⟨some 21, some (17, false), .load1 (.t 20)⟩,
      ⟨some 22, some (17, false), .len true (.t 21)⟩,
      ⟨some 23, some (17, false), .bin .gtr (.t 19) (.t 22)⟩,
      ⟨some 24, none, .pick (.t 17) (.c (.bool true)) (.t 23)⟩])
    (.cond (.t 24)
      (.seq (.region false [
        ⟨some 2, none, .mov (.c (.int .i64 3))⟩])
      (.ret))
      (.skip))))))
    (.region false [
      ⟨some 25, none, .bin .add (.t 7) (.c (.int .i64 1))⟩,
      ⟨some 7, none, .mov (.t 25)⟩])))))))
  (.seq (.region false [
    ⟨some 2, none, .mov (.c (.int .i64 0))⟩])
  (.ret)))
theorem ok_dck : FnOk Try.prog 33 Try.f33 ac_dck [.t 2] 1 drawD := ⟨Try.func33, by decide +kernel, by kernel_rfl, by kernel_rfl, by decide +kernel⟩
theorem vc_dck (P : Prim) (hP : P = std) (T T1 : CallT) (a1 : List UInt8) (a2 : Int) (b1 : List UInt8) (b2 : Int)
    (R : S → Prop) (hR : ∀ s0 s' x, x = diskT a1 a2 b1 b2 → Ent s0 s' → Ret [.t 2] [.int .i64 x] s' → R s0) : awp P T T1 ac_dck (S0 [.agg [.str a1, .int .i64 a2, .str b1, .int .i64 b2]] Hp.emp) R (fun _ _ => False) R := by
  cbv
  intro β
  cbv
  repeat' (first
    | (refine And.intro (by first | assumption | decide) ?_; try cbv)
    | (intro β2; try cbv))
  refine ⟨YDk a1 a2 b1 b2, fun y => [(6, .agg [.str a1, .int .i64 a2, .str b1, .int .i64 b2]), (7, .int .i64 y.k)], fun y => [], fun y => 2 - y.m,
    ⟨_, Ent.refl _, ⟨0, 0, by decide, rfl, fun h => absurd h (by decide), fun h => absurd h (by decide)⟩, ⟨rfl, rfl, trivial⟩, trivial⟩, ?_⟩
  rintro ⟨m, k, hm, hk, h0, h1⟩
  cbv
  refine br_cases (fun g => ?_) (fun g => ?_)
  · have h5 : k < 2 := lt_t hP g
    replace hm : m < 2 := by ((try simp only [nc] at *); omega)
    have k0 : P.leP 0 k := le0 hP (by ((try simp only [nc] at *); omega))
    have k1 : P.ltP k 2 := ltI hP (by ((try simp only [nc] at *); omega))
    have k2 : P.i64 (P.add k 1) := by rw [add_eq hP]; exact i64I hP (by ((try simp only [nc] at *); omega))
    have k3 : P.add k 1 = ((m + 1 : Nat) : Int) := by rw [add_eq hP, hk]; ((try simp only [nc] at *); omega)
    have hc : m = 0 ∨ m = 1 := by omega
    rcases hc with rfl | rfl
    · cbv
      have k4 : P.nat k = 0 := by rw [hk]; subst hP; rfl
      refine ⟨k0, k1, 0, k4, ?_⟩
      cbv
      repeat' (first
        | (refine And.intro (by first | assumption | decide) ?_; try cbv)
        | (intro β2; try cbv))
      refine br_cases (fun g => ?_) (fun g => ?_)
      · have g1 : 1048576 < P.slen a1 := lt_t hP g
        rw [slen_eq hP] at g1
        have hx : slotT a1 a2 = 2 := by unfold slotT; rw [if_pos (by ((try simp only [nc] at *); omega))]
        cbv
        exact hR _ _ _ (by unfold diskT; rw [if_pos (by rw [hx]; decide), hx]) (Ent.refl _) rfl
      have g1 : ¬ 1048576 < P.slen a1 := lt_f hP g
      rw [slen_eq hP] at g1
      cbv
      repeat' (first
        | (refine And.intro (by first | assumption | decide) ?_; try cbv)
        | (intro β2; try cbv))
      refine br_cases (fun g => ?_) (fun g => ?_)
      · have g2 : a2 < 0 := lt_t hP g
        have hx : slotT a1 a2 = 3 := by unfold slotT; rw [if_neg (by ((try simp only [nc] at *); omega)), if_pos (.inl g2)]
        cbv
        exact hR _ _ _ (by unfold diskT; rw [if_pos (by rw [hx]; decide), hx]) (Ent.refl _) rfl
      have g2 : ¬ a2 < 0 := lt_f hP g
      cbv
      repeat' (first
        | (refine And.intro (by first | assumption | decide) ?_; try cbv)
        | (intro β2; try cbv))
      refine br_cases (fun g => ?_) (fun g => ?_)
      · have g3 : P.slen a1 < a2 := lt_t hP g
        rw [slen_eq hP] at g3
        have hx : slotT a1 a2 = 3 := by unfold slotT; rw [if_neg (by ((try simp only [nc] at *); omega)), if_pos (.inr g3)]
        cbv
        exact hR _ _ _ (by unfold diskT; rw [if_pos (by rw [hx]; decide), hx]) (Ent.refl _) rfl
      have g3 : ¬ P.slen a1 < a2 := lt_f hP g
      rw [slen_eq hP] at g3
      have hx : slotT a1 a2 = 0 := by unfold slotT; rw [if_neg (by ((try simp only [nc] at *); omega)), if_neg (by ((try simp only [nc] at *); omega))]
      cbv
      repeat' (first
        | (refine And.intro (by first | assumption | decide) ?_; try cbv)
        | (intro β2; try cbv))
      exact ⟨_, Ent.refl _, ⟨1, _, by decide, k3, fun _ => hx, fun h => absurd h (by decide)⟩, ⟨rfl, rfl, trivial⟩, trivial, by show 2 - (0 + 1) < 2 - 0; decide⟩
    · cbv
      have k4 : P.nat k = 1 := by rw [hk]; subst hP; rfl
      refine ⟨k0, k1, 1, k4, ?_⟩
      cbv
      repeat' (first
        | (refine And.intro (by first | assumption | decide) ?_; try cbv)
        | (intro β2; try cbv))
      refine br_cases (fun g => ?_) (fun g => ?_)
      · have g1 : 1048576 < P.slen b1 := lt_t hP g
        rw [slen_eq hP] at g1
        have hx : slotT b1 b2 = 2 := by unfold slotT; rw [if_pos (by ((try simp only [nc] at *); omega))]
        cbv
        exact hR _ _ _ (by unfold diskT; rw [if_neg (fun g => g (h0 (by decide))), hx]) (Ent.refl _) rfl
      have g1 : ¬ 1048576 < P.slen b1 := lt_f hP g
      rw [slen_eq hP] at g1
      cbv
      repeat' (first
        | (refine And.intro (by first | assumption | decide) ?_; try cbv)
        | (intro β2; try cbv))
      refine br_cases (fun g => ?_) (fun g => ?_)
      · have g2 : b2 < 0 := lt_t hP g
        have hx : slotT b1 b2 = 3 := by unfold slotT; rw [if_neg (by ((try simp only [nc] at *); omega)), if_pos (.inl g2)]
        cbv
        exact hR _ _ _ (by unfold diskT; rw [if_neg (fun g => g (h0 (by decide))), hx]) (Ent.refl _) rfl
      have g2 : ¬ b2 < 0 := lt_f hP g
      cbv
      repeat' (first
        | (refine And.intro (by first | assumption | decide) ?_; try cbv)
        | (intro β2; try cbv))
      refine br_cases (fun g => ?_) (fun g => ?_)
      · have g3 : P.slen b1 < b2 := lt_t hP g
        rw [slen_eq hP] at g3
        have hx : slotT b1 b2 = 3 := by unfold slotT; rw [if_neg (by ((try simp only [nc] at *); omega)), if_pos (.inr g3)]
        cbv
        exact hR _ _ _ (by unfold diskT; rw [if_neg (fun g => g (h0 (by decide))), hx]) (Ent.refl _) rfl
      have g3 : ¬ P.slen b1 < b2 := lt_f hP g
      rw [slen_eq hP] at g3
      have hx : slotT b1 b2 = 0 := by unfold slotT; rw [if_neg (by ((try simp only [nc] at *); omega)), if_neg (by ((try simp only [nc] at *); omega))]
      cbv
      repeat' (first
        | (refine And.intro (by first | assumption | decide) ?_; try cbv)
        | (intro β2; try cbv))
      exact ⟨_, Ent.refl _, ⟨2, _, by decide, k3, fun _ => h0 (by decide), fun _ => hx⟩, ⟨rfl, rfl, trivial⟩, trivial, by show 2 - (1 + 1) < 2 - 1; decide⟩
  · have h5 : ¬ k < 2 := lt_f hP g
    have hm2 : m = 2 := by ((try simp only [nc] at *); omega)
    have e : diskT a1 a2 b1 b2 = 0 := by unfold diskT; rw [if_neg (fun g => g (h0 (by omega))), h1 (by omega)]
    cbv
    exact hR _ _ _ e.symm (Ent.refl _) rfl
theorem sp_dck (a1 : List UInt8) (a2 : Int) (b1 : List UInt8) (b2 : Int) : Spec Try.prog 33 [.agg [.str a1, .int .i64 a2, .str b1, .int .i64 b2]] Hp.emp (Is (.int .i64 (diskT a1 a2 b1 b2))) :=
  spec_pure dOk ok_dck [.int .i64 (diskT a1 a2 b1 b2)] (.int _ _) fun R hR => vc_dck std rfl _ _ a1 a2 b1 b2 R fun s s' b h he hr => by subst h; exact hR s s' he hr
def ac_dlk : AC := .seq (.region false [
    ⟨some 2, none, .box 26 4 (.t 0)⟩,
    ⟨some 4, none, .mov (.c (.int .i64 0))⟩])
  (.seq (.seq (.region false [
    ⟨some 6, none, .loadn 4 (.t 2)⟩,
    ⟨some 7, none, .call 33 [(.t 6)]⟩,
    ⟨some 5, none, .mov (.t 7)⟩])
  (.seq (.region false [
    ⟨some 8, none, .mov (.t 5)⟩,
    ⟨some 9, none, .bin .neq (.t 8) (.c (.int .i64 0))⟩])
  (.cond (.t 9)
    (.seq (.region false [
      ⟨some 10, none, .mov (.t 5)⟩,
      ⟨some 4, none, .mov (.t 10)⟩])
    (.ret))
    (.skip))))
  (.seq (.seq (.region false [
    ⟨some 11, none, .mov (.t 1)⟩,
    ⟨some 12, none, .bin .lss (.t 11) (.c (.int .i64 0))⟩,
    ⟨some 13, none, .mov (.t 12)⟩,
    ⟨some 14, some (13, false), .mov (.t 1)⟩,
    ⟨some 15, some (13, false), .bin .geq (.t 14) (.c (.int .i64 2))⟩,
    ⟨some 16, none, .pick (.t 13) (.c (.bool true)) (.t 15)⟩])
  (.cond (.t 16)
    (.seq (.region false [
      ⟨some 4, none, .mov (.c (.int .i64 1))⟩])
    (.ret))
    (.skip)))
  (.seq (.region false [
    ⟨some 4, none, .mov (.c (.int .i64 0))⟩])
  (.ret))))
theorem ok_dlk : FnOk Try.prog 101 Try.f101 ac_dlk [.t 4] 2 drawD := ⟨Try.func101, by decide +kernel, by kernel_rfl, by kernel_rfl, by decide +kernel⟩
theorem vc_dlk (P : Prim) (hP : P = std) (T T1 : CallT) (a1 : List UInt8) (a2 : Int) (b1 : List UInt8) (b2 i c : Int) (h1 : Ans T 33 [.agg [.str a1, .int .i64 a2, .str b1, .int .i64 b2]] (.int .i64 c)) (r : Int) (hr : (if c ≠ 0 then c else if i < 0 ∨ 2 ≤ i then 1 else 0) = r)
    (R : S → Prop) (hR : ∀ s0 s' x, x = r → Ent s0 s' → Ret [.t 4] [.int .i64 x] s' → R s0) : awp P T T1 ac_dlk (S0 [.agg [.str a1, .int .i64 a2, .str b1, .int .i64 b2], .int .i64 i] Hp.emp) R (fun _ _ => False) R := by
  cbv
  intro β
  cbv
  repeat' (first
    | (refine And.intro (by first | assumption | decide) ?_; try cbv)
    | (intro β2; try cbv))
  refine h1 _ _ ?_
  cbv
  refine br_cases (fun g => ?_) (fun g => ?_)
  · rw [if_pos (ne_t hP g)] at hr
    cbv
    exact hR _ _ _ hr (Ent.refl _) rfl
  rw [if_neg (fun x => x (ne_f hP g))] at hr
  cbv
  refine br_cases (fun g => ?_) (fun g => ?_)
  · rw [if_pos (.inl (lt_t hP g))] at hr
    cbv
    exact hR _ _ _ hr (Ent.refl _) rfl
  have g1 := lt_f hP g
  cbv
  refine br_cases (fun g => ?_) (fun g => ?_)
  · rw [if_pos (.inr (le_t hP g))] at hr
    cbv
    exact hR _ _ _ hr (Ent.refl _) rfl
  have g2 := le_f hP g
  rw [if_neg (by omega)] at hr
  cbv
  exact hR _ _ _ hr (Ent.refl _) rfl
theorem sp_dlk (a1 : List UInt8) (a2 : Int) (b1 : List UInt8) (b2 i : Int) : Spec Try.prog 101 [.agg [.str a1, .int .i64 a2, .str b1, .int .i64 b2], .int .i64 i] Hp.emp (Is (.int .i64 (lookT a1 a2 b1 b2 i))) :=
  spec_pure dOk ok_dlk [.int .i64 (lookT a1 a2 b1 b2 i)] (.int _ _) fun R hR => vc_dlk std rfl _ _ a1 a2 b1 b2 i _ (ansW (sp_dck a1 a2 b1 b2) (fun h => .cons (.same _) .nil) rfl) _ rfl R fun s s' b h he hr => by subst h; exact hR s s' he hr
def ac_dap : AC := .seq (.region false [
    ⟨some 3, none, .box 26 4 (.t 0)⟩,
    ⟨some 6, none, .alloc 26 [(.string ⟨#[]⟩), (.int .i64 0), (.string ⟨#[]⟩), (.int .i64 0)]⟩,
    ⟨some 7, none, .mov (.c (.int .i64 0))⟩])
  (.seq (.seq (.region false [
    ⟨some 9, none, .loadn 4 (.t 3)⟩,
    ⟨some 10, none, .mov (.t 1)⟩,
    ⟨some 11, none, .call 101 [(.t 9), (.t 10)]⟩,
    ⟨some 8, none, .mov (.t 11)⟩])
  (.seq (.region false [
    ⟨some 12, none, .mov (.t 8)⟩,
    ⟨some 13, none, .bin .neq (.t 12) (.c (.int .i64 0))⟩])
  (.cond (.t 13)
    (.seq (.region false [
      ⟨some 14, none, .build [(.string ⟨#[]⟩), (.int .i64 0), (.string ⟨#[]⟩), (.int .i64 0)] []⟩,
      ⟨some 15, none, .mov (.t 8)⟩,
      ⟨none, none, .store 4 (.t 6) (.t 14)⟩,
      ⟨some 7, none, .mov (.t 15)⟩])
    (.ret))
    (.skip))))
  (.seq (.seq (.region false [
    ⟨some 16, none, .mov (.t 1)⟩,
    ⟨some 17, none, .faddr 0 (.t 3)⟩,
    ⟨some 18, none, .iarr 2 2 (.t 17) (.t 16)⟩,
    ⟨some 19, none, .faddr 0 (.t 18)⟩,
    ⟨some 20, none, .load1 (.t 19)⟩,
    ⟨some 21, none, .len true (.t 20)⟩,
    ⟨some 22, none, .mov (.t 2)⟩,
    ⟨some 23, none, .len true (.t 22)⟩,
    ⟨some 24, none, .bin .add (.t 21) (.t 23)⟩,
    ⟨some 25, none, .bin .gtr (.t 24) (.c (.int .i64 1048576))⟩])
  (.cond (.t 25)
    (.seq (.region false [
      ⟨some 26, none, .build [(.string ⟨#[]⟩), (.int .i64 0), (.string ⟨#[]⟩), (.int .i64 0)] []⟩,
      ⟨none, none, .store 4 (.t 6) (.t 26)⟩,
      ⟨some 7, none, .mov (.c (.int .i64 2))⟩])
    (.ret))
    (.skip)))
  (.seq (.region false [
    ⟨some 27, none, .mov (.t 1)⟩,
    ⟨some 28, none, .faddr 0 (.t 3)⟩,
    ⟨some 29, none, .iarr 2 2 (.t 28) (.t 27)⟩,
    ⟨some 30, none, .faddr 0 (.t 29)⟩,
    ⟨some 31, none, .load1 (.t 30)⟩,
    ⟨some 32, none, .mov (.t 2)⟩,
    ⟨some 33, none, .bin .add (.t 31) (.t 32)⟩,
    ⟨some 34, none, .faddr 0 (.t 3)⟩,
    ⟨some 35, none, .iarr 2 2 (.t 34) (.t 27)⟩,
    ⟨some 36, none, .faddr 0 (.t 35)⟩,
    ⟨none, none, .store 1 (.t 36) (.t 33)⟩])
  (.seq (.region false [
    ⟨some 37, none, .loadn 4 (.t 3)⟩,
    ⟨none, none, .store 4 (.t 6) (.t 37)⟩,
    ⟨some 7, none, .mov (.c (.int .i64 0))⟩])
  (.ret)))))
theorem ok_dap : FnOk Try.prog 95 Try.f95 ac_dap [.cn 6 4, .t 7] 3 drawD := ⟨Try.func95, by decide +kernel, by kernel_rfl, by kernel_rfl, by decide +kernel⟩
theorem vc_dap (P : Prim) (hP : P = std) (T T1 : CallT) (a1 : List UInt8) (a2 : Int) (b1 : List UInt8) (b2 i : Int) (s : List UInt8) (hs : s.length ≤ 140737488355328) (c : Int) (hc : c = lookT a1 a2 b1 b2 i) (h1 : Ans T 101 [.agg [.str a1, .int .i64 a2, .str b1, .int .i64 b2], .int .i64 i] (.int .i64 c)) (r : D4) (hr : appT a1 a2 b1 b2 i s = r)
    (R : S → Prop) (hR : ∀ s0 s' x1 x2 x3 x4 e, (⟨x1, x2, x3, x4, e⟩ : D4) = r → Ent s0 s' → Ret [.cn 6 4, .t 7] [.agg [.str x1, .int .i64 x2, .str x3, .int .i64 x4], .int .i64 e] s' → R s0) : awp P T T1 ac_dap (S0 [.agg [.str a1, .int .i64 a2, .str b1, .int .i64 b2], .int .i64 i, .str s] Hp.emp) R (fun _ _ => False) R := by
  have a0 : P.leP 0 0 := le0 hP (by decide)
  have a01 : P.leP 0 1 := le0 hP (by decide)
  have l0 : P.ltP 0 2 := ltI hP (by decide)
  have l1 : P.ltP 1 2 := ltI hP (by decide)
  have n0 : P.nat 0 = 0 := by subst hP; rfl
  have n1 : P.nat 1 = 1 := by subst hP; rfl
  unfold appT at hr
  cbv
  intro β
  cbv
  repeat' (first
    | (refine And.intro (by first | assumption | decide) ?_; try cbv)
    | (intro β2; try cbv))
  refine h1 _ _ ?_
  clear h1
  cbv
  refine br_cases (fun g => ?_) (fun g => ?_)
  · rw [← hc, if_pos (ne_t hP g)] at hr
    cbv
    repeat' (first
      | (refine And.intro (by first | assumption | decide) ?_; try cbv)
      | (intro β2; try cbv))
    exact hR _ _ _ _ _ _ _ hr (Ent.refl _) ⟨rfl, rfl, Nat.zero_lt_succ 0, Nat.le_refl 4, rfl⟩
  have g0 : c = 0 := ne_f hP g
  rw [← hc, if_neg (fun x => x g0)] at hr
  obtain ⟨hd, hi⟩ := look_ok (hc.symm.trans g0)
  obtain ⟨ha, hb⟩ := disk_ok hd
  obtain ⟨ha1, ha2, ha3⟩ := slot_ok ha
  obtain ⟨hb1, hb2, hb3⟩ := slot_ok hb
  clear hc g
  rcases hi with rfl | rfl
  · rw [if_pos rfl] at hr
    have i1 : P.i64 (P.add (P.slen a1) (P.slen s)) := by rw [add_eq hP, slen_eq hP, slen_eq hP]; exact i64I hP (by ((try simp only [nc] at *); omega))
    cbv
    repeat' (first
      | (refine And.intro (by first | assumption | decide) ?_; try cbv)
      | (refine ⟨0, n0, ?_⟩; try cbv)
      | (intro β2; try cbv))
    refine br_cases (fun g => ?_) (fun g => ?_)
    · have g1 : 1048576 < P.add (P.slen a1) (P.slen s) := lt_t hP g
      rw [add_eq hP, slen_eq hP, slen_eq hP] at g1
      rw [if_pos (by ((try simp only [nc] at *); omega))] at hr
      cbv
      repeat' (first
        | (refine And.intro (by first | assumption | decide) ?_; try cbv)
        | (refine ⟨0, n0, ?_⟩; try cbv)
        | (intro β2; try cbv))
      exact hR _ _ _ _ _ _ _ hr (Ent.refl _) ⟨rfl, rfl, Nat.zero_lt_succ 0, Nat.le_refl 4, rfl⟩
    · have g1 : ¬ 1048576 < P.add (P.slen a1) (P.slen s) := lt_f hP g
      rw [add_eq hP, slen_eq hP, slen_eq hP] at g1
      have e1 : P.sapp a1 s = a1 ++ s := by subst hP; rfl
      rw [if_neg (by ((try simp only [nc] at *); omega)), ← e1] at hr
      cbv
      repeat' (first
        | (refine And.intro (by first | assumption | decide) ?_; try cbv)
        | (refine ⟨0, n0, ?_⟩; try cbv)
        | (intro β2; try cbv))
      exact hR _ _ _ _ _ _ _ hr (Ent.refl _) ⟨rfl, rfl, Nat.zero_lt_succ 0, Nat.le_refl 4, rfl⟩
  · rw [if_neg (by decide)] at hr
    have i1 : P.i64 (P.add (P.slen b1) (P.slen s)) := by rw [add_eq hP, slen_eq hP, slen_eq hP]; exact i64I hP (by ((try simp only [nc] at *); omega))
    cbv
    repeat' (first
      | (refine And.intro (by first | assumption | decide) ?_; try cbv)
      | (refine ⟨1, n1, ?_⟩; try cbv)
      | (intro β2; try cbv))
    refine br_cases (fun g => ?_) (fun g => ?_)
    · have g1 : 1048576 < P.add (P.slen b1) (P.slen s) := lt_t hP g
      rw [add_eq hP, slen_eq hP, slen_eq hP] at g1
      rw [if_pos (by ((try simp only [nc] at *); omega))] at hr
      cbv
      repeat' (first
        | (refine And.intro (by first | assumption | decide) ?_; try cbv)
        | (refine ⟨1, n1, ?_⟩; try cbv)
        | (intro β2; try cbv))
      exact hR _ _ _ _ _ _ _ hr (Ent.refl _) ⟨rfl, rfl, Nat.zero_lt_succ 0, Nat.le_refl 4, rfl⟩
    · have g1 : ¬ 1048576 < P.add (P.slen b1) (P.slen s) := lt_f hP g
      rw [add_eq hP, slen_eq hP, slen_eq hP] at g1
      have e1 : P.sapp b1 s = b1 ++ s := by subst hP; rfl
      rw [if_neg (by ((try simp only [nc] at *); omega)), ← e1] at hr
      cbv
      repeat' (first
        | (refine And.intro (by first | assumption | decide) ?_; try cbv)
        | (refine ⟨1, n1, ?_⟩; try cbv)
        | (intro β2; try cbv))
      exact hR _ _ _ _ _ _ _ hr (Ent.refl _) ⟨rfl, rfl, Nat.zero_lt_succ 0, Nat.le_refl 4, rfl⟩
theorem sp_dap (a1 : List UInt8) (a2 : Int) (b1 : List UInt8) (b2 i : Int) (s : List UInt8) (hs : s.length ≤ 140737488355328) : Spec Try.prog 95 [.agg [.str a1, .int .i64 a2, .str b1, .int .i64 b2], .int .i64 i, .str s] Hp.emp (Is (.tup [.agg [.str (appT a1 a2 b1 b2 i s).x1, .int .i64 (appT a1 a2 b1 b2 i s).x2, .str (appT a1 a2 b1 b2 i s).x3, .int .i64 (appT a1 a2 b1 b2 i s).x4], .int .i64 (appT a1 a2 b1 b2 i s).e])) :=
  spec_pure dOk ok_dap [.agg [.str (appT a1 a2 b1 b2 i s).x1, .int .i64 (appT a1 a2 b1 b2 i s).x2, .str (appT a1 a2 b1 b2 i s).x3, .int .i64 (appT a1 a2 b1 b2 i s).x4], .int .i64 (appT a1 a2 b1 b2 i s).e] (.tup _ (by simp; exact ⟨.agg _ (by simp; exact ⟨.str _, .int _ _, .str _, .int _ _⟩), .int _ _⟩)) fun R hR => vc_dap std rfl _ _ a1 a2 b1 b2 i s hs _ rfl (ansW (sp_dlk a1 a2 b1 b2 i) (fun h => .cons (.same _) (.cons (.same _) .nil)) rfl) (appT a1 a2 b1 b2 i s) rfl R
    fun s s' x1 x2 x3 x4 e h he hr => hR s s' he (by rw [← h]; exact hr)
def ac_dsy : AC := .seq (.region false [
    ⟨some 2, none, .box 26 4 (.t 0)⟩,
    ⟨some 4, none, .alloc 26 [(.string ⟨#[]⟩), (.int .i64 0), (.string ⟨#[]⟩), (.int .i64 0)]⟩,
    ⟨some 5, none, .mov (.c (.int .i64 0))⟩])
  (.seq (.seq (.region false [
    ⟨some 7, none, .loadn 4 (.t 2)⟩,
    ⟨some 8, none, .mov (.t 1)⟩,
    ⟨some 9, none, .call 101 [(.t 7), (.t 8)]⟩,
    ⟨some 6, none, .mov (.t 9)⟩])
  (.seq (.region false [
    ⟨some 10, none, .mov (.t 6)⟩,
    ⟨some 11, none, .bin .neq (.t 10) (.c (.int .i64 0))⟩])
  (.cond (.t 11)
    (.seq (.region false [
      ⟨some 12, none, .build [(.string ⟨#[]⟩), (.int .i64 0), (.string ⟨#[]⟩), (.int .i64 0)] []⟩,
      ⟨some 13, none, .mov (.t 6)⟩,
      ⟨none, none, .store 4 (.t 4) (.t 12)⟩,
      ⟨some 5, none, .mov (.t 13)⟩])
    (.ret))
    (.skip))))
  (.seq (.region false [
    ⟨some 14, none, .mov (.t 1)⟩,
    ⟨some 15, none, .mov (.t 1)⟩,
    ⟨some 16, none, .faddr 0 (.t 2)⟩,
    ⟨some 17, none, .iarr 2 2 (.t 16) (.t 15)⟩,
    ⟨some 18, none, .faddr 0 (.t 17)⟩,
    ⟨some 19, none, .load1 (.t 18)⟩,
    ⟨some 20, none, .len true (.t 19)⟩,
    ⟨some 21, none, .faddr 0 (.t 2)⟩,
    ⟨some 22, none, .iarr 2 2 (.t 21) (.t 14)⟩,
    ⟨some 23, none, .faddr 1 (.t 22)⟩,
    ⟨none, none, .store 1 (.t 23) (.t 20)⟩])
  (.seq (.region false [
    ⟨some 24, none, .loadn 4 (.t 2)⟩,
    ⟨none, none, .store 4 (.t 4) (.t 24)⟩,
    ⟨some 5, none, .mov (.c (.int .i64 0))⟩])
  (.ret))))
theorem ok_dsy : FnOk Try.prog 72 Try.f72 ac_dsy [.cn 4 4, .t 5] 2 drawD := ⟨Try.func72, by decide +kernel, by kernel_rfl, by kernel_rfl, by decide +kernel⟩
theorem vc_dsy (P : Prim) (hP : P = std) (T T1 : CallT) (a1 : List UInt8) (a2 : Int) (b1 : List UInt8) (b2 i : Int) (c : Int) (hc : c = lookT a1 a2 b1 b2 i) (h1 : Ans T 101 [.agg [.str a1, .int .i64 a2, .str b1, .int .i64 b2], .int .i64 i] (.int .i64 c)) (r : D4) (hr : synT a1 a2 b1 b2 i = r)
    (R : S → Prop) (hR : ∀ s0 s' x1 x2 x3 x4 e, (⟨x1, x2, x3, x4, e⟩ : D4) = r → Ent s0 s' → Ret [.cn 4 4, .t 5] [.agg [.str x1, .int .i64 x2, .str x3, .int .i64 x4], .int .i64 e] s' → R s0) : awp P T T1 ac_dsy (S0 [.agg [.str a1, .int .i64 a2, .str b1, .int .i64 b2], .int .i64 i] Hp.emp) R (fun _ _ => False) R := by
  have a0 : P.leP 0 0 := le0 hP (by decide)
  have a01 : P.leP 0 1 := le0 hP (by decide)
  have l0 : P.ltP 0 2 := ltI hP (by decide)
  have l1 : P.ltP 1 2 := ltI hP (by decide)
  have n0 : P.nat 0 = 0 := by subst hP; rfl
  have n1 : P.nat 1 = 1 := by subst hP; rfl
  unfold synT at hr
  cbv
  intro β
  cbv
  repeat' (first
    | (refine And.intro (by first | assumption | decide) ?_; try cbv)
    | (intro β2; try cbv))
  refine h1 _ _ ?_
  clear h1
  cbv
  refine br_cases (fun g => ?_) (fun g => ?_)
  · rw [← hc, if_pos (ne_t hP g)] at hr
    cbv
    repeat' (first
      | (refine And.intro (by first | assumption | decide) ?_; try cbv)
      | (intro β2; try cbv))
    exact hR _ _ _ _ _ _ _ hr (Ent.refl _) ⟨rfl, rfl, Nat.zero_lt_succ 0, Nat.le_refl 4, rfl⟩
  have g0 : c = 0 := ne_f hP g
  rw [← hc, if_neg (fun x => x g0)] at hr
  obtain ⟨hd, hi⟩ := look_ok (hc.symm.trans g0)
  obtain ⟨ha, hb⟩ := disk_ok hd
  obtain ⟨ha1, ha2, ha3⟩ := slot_ok ha
  obtain ⟨hb1, hb2, hb3⟩ := slot_ok hb
  clear hc g
  rcases hi with rfl | rfl
  · have e1 : P.slen a1 = (a1.length : Int) := slen_eq hP _
    rw [if_pos rfl] at hr
    cbv
    repeat' (first
      | (refine And.intro (by first | assumption | decide) ?_; try cbv)
      | (refine ⟨0, n0, ?_⟩; try cbv)
      | (intro β2; try cbv))
    exact hR _ _ _ _ _ _ _ ((congrArg (fun x => (⟨a1, x, b1, b2, 0⟩ : D4)) e1).trans hr) (Ent.refl _) ⟨rfl, rfl, Nat.zero_lt_succ 0, Nat.le_refl 4, rfl⟩
  · have e1 : P.slen b1 = (b1.length : Int) := slen_eq hP _
    rw [if_neg (by decide)] at hr
    cbv
    repeat' (first
      | (refine And.intro (by first | assumption | decide) ?_; try cbv)
      | (refine ⟨1, n1, ?_⟩; try cbv)
      | (intro β2; try cbv))
    exact hR _ _ _ _ _ _ _ ((congrArg (fun x => (⟨a1, a2, b1, x, 0⟩ : D4)) e1).trans hr) (Ent.refl _) ⟨rfl, rfl, Nat.zero_lt_succ 0, Nat.le_refl 4, rfl⟩
theorem sp_dsy (a1 : List UInt8) (a2 : Int) (b1 : List UInt8) (b2 i : Int) : Spec Try.prog 72 [.agg [.str a1, .int .i64 a2, .str b1, .int .i64 b2], .int .i64 i] Hp.emp (Is (.tup [.agg [.str (synT a1 a2 b1 b2 i).x1, .int .i64 (synT a1 a2 b1 b2 i).x2, .str (synT a1 a2 b1 b2 i).x3, .int .i64 (synT a1 a2 b1 b2 i).x4], .int .i64 (synT a1 a2 b1 b2 i).e])) :=
  spec_pure dOk ok_dsy [.agg [.str (synT a1 a2 b1 b2 i).x1, .int .i64 (synT a1 a2 b1 b2 i).x2, .str (synT a1 a2 b1 b2 i).x3, .int .i64 (synT a1 a2 b1 b2 i).x4], .int .i64 (synT a1 a2 b1 b2 i).e] (.tup _ (by simp; exact ⟨.agg _ (by simp; exact ⟨.str _, .int _ _, .str _, .int _ _⟩), .int _ _⟩)) fun R hR => vc_dsy std rfl _ _ a1 a2 b1 b2 i _ rfl (ansW (sp_dlk a1 a2 b1 b2 i) (fun h => .cons (.same _) (.cons (.same _) .nil)) rfl) (synT a1 a2 b1 b2 i) rfl R
    fun s s' x1 x2 x3 x4 e h he hr => hR s s' he (by rw [← h]; exact hr)
def ac_dtr : AC := .seq (.region false [
    ⟨some 3, none, .box 26 4 (.t 0)⟩,
    ⟨some 6, none, .alloc 26 [(.string ⟨#[]⟩), (.int .i64 0), (.string ⟨#[]⟩), (.int .i64 0)]⟩,
    ⟨some 7, none, .mov (.c (.int .i64 0))⟩])
  (.seq (.seq (.region false [
    ⟨some 10, none, .loadn 4 (.t 3)⟩,
    ⟨some 11, none, .mov (.t 1)⟩,
    ⟨some 12, none, .call 101 [(.t 10), (.t 11)]⟩,
    ⟨some 8, none, .mov (.t 12)⟩])
  (.seq (.region false [
    ⟨some 13, none, .mov (.t 8)⟩,
    ⟨some 14, none, .bin .neq (.t 13) (.c (.int .i64 0))⟩])
  (.cond (.t 14)
    (.seq (.region false [
      ⟨some 15, none, .build [(.string ⟨#[]⟩), (.int .i64 0), (.string ⟨#[]⟩), (.int .i64 0)] []⟩,
      ⟨some 16, none, .mov (.t 8)⟩,
      ⟨none, none, .store 4 (.t 6) (.t 15)⟩,
      ⟨some 7, none, .mov (.t 16)⟩])
    (.ret))
    (.skip))))
  (.seq (.region false [
    ⟨some 17, none, .mov (.t 1)⟩,
    ⟨some 18, none, .faddr 0 (.t 3)⟩,
    ⟨some 19, none, .iarr 2 2 (.t 18) (.t 17)⟩,
    ⟨some 9, none, .mov (.t 19)⟩])
  (.seq (.seq (.region false [
    ⟨some 20, none, .mov (.t 2)⟩,
    ⟨some 21, none, .bin .lss (.t 20) (.c (.int .i64 0))⟩,
    ⟨some 22, none, .mov (.t 21)⟩,
    ⟨some 23, some (22, false), .mov (.t 2)⟩,
    ⟨some 24, some (22, false), .mov (.t 9)⟩,
    ⟨some 25, some (22, false), .nilchk (.t 24)⟩,
    ⟨some 26, some (22, false), .faddr 0 (.t 25)⟩,
    ⟨some 27, some (22, false), .load1 (.t 26)⟩,
    ⟨some 28, some (22, false), .len true (.t 27)⟩,
    ⟨some 29, some (22, false), .bin .gtr (.t 23) (.t 28)⟩,
    ⟨some 30, none, .pick (.t 22) (.c (.bool true)) (.t 29)⟩])
  (.cond (.t 30)
    (.seq (.region false [
      ⟨some 31, none, .build [(.string ⟨#[]⟩), (.int .i64 0), (.string ⟨#[]⟩), (.int .i64 0)] []⟩,
      ⟨none, none, .store 4 (.t 6) (.t 31)⟩,
      ⟨some 7, none, .mov (.c (.int .i64 1))⟩])
    (.ret))
    (.skip)))
  (.seq (.region false [
    ⟨some 32, none, .mov (.t 9)⟩,
    ⟨some 33, none, .mov (.t 9)⟩,
    ⟨some 34, none, .nilchk (.t 33)⟩,
    ⟨some 35, none, .faddr 0 (.t 34)⟩,
    ⟨some 36, none, .load1 (.t 35)⟩,
    ⟨some 37, none, .mov (.t 2)⟩,
    ⟨some 38, none, .slstr (.t 36) none (some (.t 37))⟩,
    ⟨some 39, none, .nilchk (.t 32)⟩,
    ⟨some 40, none, .faddr 0 (.t 39)⟩,
    ⟨none, none, .store 1 (.t 40) (.t 38)⟩])
  (.seq (.region false [
    ⟨some 41, none, .mov (.t 9)⟩,
    ⟨some 42, none, .mov (.t 9)⟩,
    ⟨some 43, none, .nilchk (.t 42)⟩,
    ⟨some 44, none, .faddr 1 (.t 43)⟩,
    ⟨some 45, none, .load1 (.t 44)⟩,
    ⟨some 46, none, .mov (.t 2)⟩,
    ⟨some 47, none, .mm false (.t 45) (.t 46)⟩,
    ⟨some 48, none, .nilchk (.t 41)⟩,
    ⟨some 49, none, .faddr 1 (.t 48)⟩,
    ⟨none, none, .store 1 (.t 49) (.t 47)⟩])
  (.seq (.region false [
    ⟨some 50, none, .loadn 4 (.t 3)⟩,
    ⟨none, none, .store 4 (.t 6) (.t 50)⟩,
    ⟨some 7, none, .mov (.c (.int .i64 0))⟩])
  (.ret)))))))
theorem ok_dtr : FnOk Try.prog 71 Try.f71 ac_dtr [.cn 6 4, .t 7] 3 drawD := ⟨Try.func71, by decide +kernel, by kernel_rfl, by kernel_rfl, by decide +kernel⟩
theorem vc_dtr (P : Prim) (hP : P = std) (T T1 : CallT) (a1 : List UInt8) (a2 : Int) (b1 : List UInt8) (b2 i : Int) (n : Int) (c : Int) (hc : c = lookT a1 a2 b1 b2 i) (h1 : Ans T 101 [.agg [.str a1, .int .i64 a2, .str b1, .int .i64 b2], .int .i64 i] (.int .i64 c)) (r : D4) (hr : trmT a1 a2 b1 b2 i n = r)
    (R : S → Prop) (hR : ∀ s0 s' x1 x2 x3 x4 e, (⟨x1, x2, x3, x4, e⟩ : D4) = r → Ent s0 s' → Ret [.cn 6 4, .t 7] [.agg [.str x1, .int .i64 x2, .str x3, .int .i64 x4], .int .i64 e] s' → R s0) : awp P T T1 ac_dtr (S0 [.agg [.str a1, .int .i64 a2, .str b1, .int .i64 b2], .int .i64 i, .int .i64 n] Hp.emp) R (fun _ _ => False) R := by
  have a0 : P.leP 0 0 := le0 hP (by decide)
  have a01 : P.leP 0 1 := le0 hP (by decide)
  have l0 : P.ltP 0 2 := ltI hP (by decide)
  have l1 : P.ltP 1 2 := ltI hP (by decide)
  have n0 : P.nat 0 = 0 := by subst hP; rfl
  have n1 : P.nat 1 = 1 := by subst hP; rfl
  unfold trmT at hr
  cbv
  intro β
  cbv
  repeat' (first
    | (refine And.intro (by first | assumption | decide) ?_; try cbv)
    | (intro β2; try cbv))
  refine h1 _ _ ?_
  clear h1
  cbv
  refine br_cases (fun g => ?_) (fun g => ?_)
  · rw [← hc, if_pos (ne_t hP g)] at hr
    cbv
    repeat' (first
      | (refine And.intro (by first | assumption | decide) ?_; try cbv)
      | (intro β2; try cbv))
    exact hR _ _ _ _ _ _ _ hr (Ent.refl _) ⟨rfl, rfl, Nat.zero_lt_succ 0, Nat.le_refl 4, rfl⟩
  have g0 : c = 0 := ne_f hP g
  rw [← hc, if_neg (fun x => x g0)] at hr
  obtain ⟨hd, hi⟩ := look_ok (hc.symm.trans g0)
  obtain ⟨ha, hb⟩ := disk_ok hd
  obtain ⟨ha1, ha2, ha3⟩ := slot_ok ha
  obtain ⟨hb1, hb2, hb3⟩ := slot_ok hb
  clear hc g
  rcases hi with rfl | rfl
  · rw [if_pos rfl] at hr
    cbv
    repeat' (first
      | (refine And.intro (by first | assumption | decide) ?_; try cbv)
      | (refine ⟨0, n0, ?_⟩; try cbv)
      | (intro β2; try cbv))
    refine br_cases (fun g => ?_) (fun g => ?_)
    · rw [if_pos (.inl (lt_t hP g))] at hr
      cbv
      repeat' (first
        | (refine And.intro (by first | assumption | decide) ?_; try cbv)
        | (refine ⟨0, n0, ?_⟩; try cbv)
        | (intro β2; try cbv))
      exact hR _ _ _ _ _ _ _ hr (Ent.refl _) ⟨rfl, rfl, Nat.zero_lt_succ 0, Nat.le_refl 4, rfl⟩
    have g1 := lt_f hP g
    cbv
    repeat' (first
      | (refine And.intro (by first | assumption | decide) ?_; try cbv)
      | (refine ⟨0, n0, ?_⟩; try cbv)
      | (intro β2; try cbv))
    refine br_cases (fun g => ?_) (fun g => ?_)
    · have g2 : P.slen a1 < n := lt_t hP g
      rw [slen_eq hP] at g2
      rw [if_pos (.inr g2)] at hr
      cbv
      repeat' (first
        | (refine And.intro (by first | assumption | decide) ?_; try cbv)
        | (refine ⟨0, n0, ?_⟩; try cbv)
        | (intro β2; try cbv))
      exact hR _ _ _ _ _ _ _ hr (Ent.refl _) ⟨rfl, rfl, Nat.zero_lt_succ 0, Nat.le_refl 4, rfl⟩
    have g2 : ¬ P.slen a1 < n := lt_f hP g
    rw [slen_eq hP] at g2
    have m1 : P.leP 0 n := le0 hP (by omega)
    have m2 : P.leP n (P.slen a1) := leI hP (by rw [slen_eq hP]; ((try simp only [nc] at *); omega))
    have e1 : P.ssub a1 0 n = a1.take n.toNat := by subst hP; rfl
    have e2 : P.mn a2 n = min a2 n := by subst hP; rfl
    rw [if_neg (by ((try simp only [nc] at *); omega)), ← e1, ← e2] at hr
    cbv
    repeat' (first
      | (refine And.intro (by first | assumption | decide) ?_; try cbv)
      | (refine ⟨0, n0, ?_⟩; try cbv)
      | (intro β2; try cbv))
    exact hR _ _ _ _ _ _ _ hr (Ent.refl _) ⟨rfl, rfl, Nat.zero_lt_succ 0, Nat.le_refl 4, rfl⟩
  · rw [if_neg (by decide)] at hr
    cbv
    repeat' (first
      | (refine And.intro (by first | assumption | decide) ?_; try cbv)
      | (refine ⟨1, n1, ?_⟩; try cbv)
      | (intro β2; try cbv))
    refine br_cases (fun g => ?_) (fun g => ?_)
    · rw [if_pos (.inl (lt_t hP g))] at hr
      cbv
      repeat' (first
        | (refine And.intro (by first | assumption | decide) ?_; try cbv)
        | (refine ⟨1, n1, ?_⟩; try cbv)
        | (intro β2; try cbv))
      exact hR _ _ _ _ _ _ _ hr (Ent.refl _) ⟨rfl, rfl, Nat.zero_lt_succ 0, Nat.le_refl 4, rfl⟩
    have g1 := lt_f hP g
    cbv
    repeat' (first
      | (refine And.intro (by first | assumption | decide) ?_; try cbv)
      | (refine ⟨1, n1, ?_⟩; try cbv)
      | (intro β2; try cbv))
    refine br_cases (fun g => ?_) (fun g => ?_)
    · have g2 : P.slen b1 < n := lt_t hP g
      rw [slen_eq hP] at g2
      rw [if_pos (.inr g2)] at hr
      cbv
      repeat' (first
        | (refine And.intro (by first | assumption | decide) ?_; try cbv)
        | (refine ⟨1, n1, ?_⟩; try cbv)
        | (intro β2; try cbv))
      exact hR _ _ _ _ _ _ _ hr (Ent.refl _) ⟨rfl, rfl, Nat.zero_lt_succ 0, Nat.le_refl 4, rfl⟩
    have g2 : ¬ P.slen b1 < n := lt_f hP g
    rw [slen_eq hP] at g2
    have m1 : P.leP 0 n := le0 hP (by omega)
    have m2 : P.leP n (P.slen b1) := leI hP (by rw [slen_eq hP]; ((try simp only [nc] at *); omega))
    have e1 : P.ssub b1 0 n = b1.take n.toNat := by subst hP; rfl
    have e2 : P.mn b2 n = min b2 n := by subst hP; rfl
    rw [if_neg (by ((try simp only [nc] at *); omega)), ← e1, ← e2] at hr
    cbv
    repeat' (first
      | (refine And.intro (by first | assumption | decide) ?_; try cbv)
      | (refine ⟨1, n1, ?_⟩; try cbv)
      | (intro β2; try cbv))
    exact hR _ _ _ _ _ _ _ hr (Ent.refl _) ⟨rfl, rfl, Nat.zero_lt_succ 0, Nat.le_refl 4, rfl⟩
theorem sp_dtr (a1 : List UInt8) (a2 : Int) (b1 : List UInt8) (b2 i : Int) (n : Int) : Spec Try.prog 71 [.agg [.str a1, .int .i64 a2, .str b1, .int .i64 b2], .int .i64 i, .int .i64 n] Hp.emp (Is (.tup [.agg [.str (trmT a1 a2 b1 b2 i n).x1, .int .i64 (trmT a1 a2 b1 b2 i n).x2, .str (trmT a1 a2 b1 b2 i n).x3, .int .i64 (trmT a1 a2 b1 b2 i n).x4], .int .i64 (trmT a1 a2 b1 b2 i n).e])) :=
  spec_pure dOk ok_dtr [.agg [.str (trmT a1 a2 b1 b2 i n).x1, .int .i64 (trmT a1 a2 b1 b2 i n).x2, .str (trmT a1 a2 b1 b2 i n).x3, .int .i64 (trmT a1 a2 b1 b2 i n).x4], .int .i64 (trmT a1 a2 b1 b2 i n).e] (.tup _ (by simp; exact ⟨.agg _ (by simp; exact ⟨.str _, .int _ _, .str _, .int _ _⟩), .int _ _⟩)) fun R hR => vc_dtr std rfl _ _ a1 a2 b1 b2 i n _ rfl (ansW (sp_dlk a1 a2 b1 b2 i) (fun h => .cons (.same _) (.cons (.same _) .nil)) rfl) (trmT a1 a2 b1 b2 i n) rfl R
    fun s s' x1 x2 x3 x4 e h he hr => hR s s' he (by rw [← h]; exact hr)
end Go.Proofs.Ytobngncjflogcaa.AM
