/-
  Calls: what a function does, for the plain machine.
-/
import Derived.Test.YtdmpbdmgaepndaaAm11
set_option linter.unusedVariables false
set_option linter.unusedSimpArgs false
namespace Go.Proofs.Ytdmpbdmgaepndaa.AM
open Go
open Go.BigFrame

/-! names of own objects may be changed: they say nothing of the memory -/
def V.rl (f : Nat → Nat) : V → V
  | .own k b sz n => .own (f k) b sz n
  | .ptr k b sz i off => .ptr (f k) b sz i off
  | v => v
def V.ren (f : Nat → Nat) : V → V
  | .agg cs => .agg (cs.map (V.rl f))
  | .tup vs => .tup (vs.map fun | .agg cs => .agg (cs.map (V.rl f)) | v => v.rl f)
  | v => v.rl f
def Ob.ren (f : Nat → Nat) (o : Ob) : Ob := { o with rows := o.rows.map (·.map (V.rl f)) }
def lab (m : List (Nat × Nat)) (k : Nat) : Nat := match m with
  | [] => k
  | (a, b) :: m => if k = a then b else lab m k
def bal (m : List (Nat × Nat)) (k : Nat) : Nat := match m with
  | [] => k
  | (a, b) :: m => if k = b then a else bal m k

theorem Rel.rl {F B : Nat → Prop} {w : World} {v : V} {u : Value} (f : Nat → Nat) (h : Rel F B w v u) : Rel F B w (v.rl f) u := by
  cases h with
  | ownnil k sz => exact .ownnil _ _
  | own k b sz n cap c e fr h hs hm hn => exact .own _ b sz n cap c e fr h hs hm hn
  | ptr k b sz i off => exact .ptr _ b sz i off
  | int => exact .int _ _
  | bool => exact .bool _
  | str => exact .str _
  | agg cs us hl h => exact .agg cs us hl h
  | tup cs us hl h => exact .tup cs us hl h
  | slnil t sz => exact .slnil t sz
  | slemp t sz a cap => exact .slemp t sz a cap
  | sl t sz rows b off cap us a1 a2 a3 a4 a5 => exact .sl t sz rows b off cap us a1 a2 a3 a4 a5
  | nilsl => exact .nilsl
  | rp t b off cs us a1 a2 a3 => exact .rp t b off cs us a1 a2 a3
  | nil => exact .nil
  | fn f caps us hl h => exact .fn f caps us hl h
  | raw => exact .raw _
  | und => exact .und
  | junk => exact .junk _
theorem Rel.agg_ren {F B : Nat → Prop} {w : World} {cs : List V} {u : Value} (f : Nat → Nat) (h : Rel F B w (.agg cs) u) : Rel F B w (.agg (cs.map (V.rl f))) u := by
  cases h with
  | agg _ us hl h =>
    refine .agg _ us (by simpa using hl) fun i v u hv hu => ?_
    simp only [List.getElem?_map, Option.map_eq_some_iff] at hv
    obtain ⟨v', hv', rfl⟩ := hv
    exact (h i v' u hv' hu).rl f
theorem Rel.ren {F B : Nat → Prop} {w : World} {v : V} {u : Value} (f : Nat → Nat) (h : Rel F B w v u) : Rel F B w (v.ren f) u := by
  cases v with
  | agg cs => exact h.agg_ren f
  | tup vs =>
    cases h with
    | tup _ us hl h =>
      refine .tup _ us (by simpa using hl) fun i v u hv hu => ?_
      simp only [List.getElem?_map, Option.map_eq_some_iff] at hv
      obtain ⟨v', hv', rfl⟩ := hv
      have := h i v' u hv' hu
      cases v' with
      | agg cs => exact this.agg_ren f
      | _ => exact this.rl f
  | _ => exact h.rl f
theorem ObSat.ren {F B : Nat → Prop} {w : World} {o : Ob} (f : Nat → Nat) (h : ObSat F B w o) : ObSat F B w (o.ren f) := by
  unfold ObSat at h ⊢
  simp only [Ob.ren]
  cases hb : o.b with
  | none => rw [hb] at h; simp only at h ⊢; rw [h]; rfl
  | some b =>
    rw [hb] at h
    obtain ⟨c, cap, hc, h1, h2, h3, h4, h5⟩ := h
    refine ⟨c, cap, hc, h1, h2, by simpa using h3, fun r hr => ?_, fun i j r v hi hj => ?_⟩
    · simp only [List.mem_map] at hr
      obtain ⟨r', hr', rfl⟩ := hr
      simpa using h4 r' hr'
    · simp only [List.getElem?_map, Option.map_eq_some_iff] at hi
      obtain ⟨r', hr', rfl⟩ := hi
      simp only [List.getElem?_map, Option.map_eq_some_iff] at hj
      obtain ⟨v', hv', rfl⟩ := hj
      obtain ⟨u, hu, h1u, hr⟩ := h5 i j r' v' hr' hv'
      exact ⟨u, hu, h1u, hr.rl f⟩

/-- blocks that are lent only are not in it -/
inductive Fz : V → Prop
  | int (k n) : Fz (.int k n)
  | bool (b) : Fz (.bool b)
  | str (l) : Fz (.str l)
  | agg (cs) (h : ∀ v ∈ cs, Fz v) : Fz (.agg cs)
  | tup (cs) (h : ∀ v ∈ cs, Fz v) : Fz (.tup cs)
  | sl (sz rows) (h : ∀ r ∈ rows, ∀ v ∈ r, Fz v) : Fz (.sl false sz rows)
  | nilsl : Fz .nilsl
  | own (k b sz n) : Fz (.own k b sz n)
  | ptr (k b sz i off) : Fz (.ptr k b sz i off)
  | rp (cs) (h : ∀ v ∈ cs, Fz v) : Fz (.rp false cs)
  | nil : Fz .nil
  | fn (f caps) (h : ∀ v ∈ caps, Fz v) : Fz (.fn f caps)
  | raw (v) : Fz (.raw v)
  | und : Fz .und
  | junk : Fz .junk

theorem Rel.fz {F B B' : Nat → Prop} {w : World} {v : V} {u : Value} (h : Rel F B w v u) (hz : Fz v) : Rel F B' w v u := by
  induction h with
  | int => exact .int _ _
  | bool => exact .bool _
  | str => exact .str _
  | agg cs us hl h ih => cases hz with | agg _ hz => exact .agg cs us hl fun i v u hv hu => ih i v u hv hu (hz v (List.mem_of_getElem? hv))
  | tup cs us hl h ih => cases hz with | tup _ hz => exact .tup cs us hl fun i v u hv hu => ih i v u hv hu (hz v (List.mem_of_getElem? hv))
  | slnil t sz => exact .slnil t sz
  | slemp t sz a cap => exact .slemp t sz a cap
  | sl t sz rows b off cap us hF hcap hsz hc hr ih =>
    cases hz with
    | sl _ _ hz =>
      refine .sl false sz rows b off cap us ?_ hcap hsz hc fun i j r v hi hj => ih i j r v hi hj (hz r (List.mem_of_getElem? hi) v (List.mem_of_getElem? hj))
      rcases hF with h | ⟨h, _⟩
      · exact .inl h
      · cases h
  | nilsl => exact .nilsl
  | ownnil k sz => exact .ownnil _ _
  | own k b sz n cap c e fr h hs hm hn => exact .own _ b sz n cap c e fr h hs hm hn
  | ptr k b sz i off => exact .ptr _ b sz i off
  | rp t b off cs us hF hc hr ih =>
    cases hz with
    | rp _ hz =>
      refine .rp false b off cs us ?_ hc fun j v hj => ih j v hj (hz v (List.mem_of_getElem? hj))
      rcases hF with h | ⟨h, _⟩
      · exact .inl h
      · cases h
  | nil => exact .nil
  | fn f caps us hl h ih => cases hz with | fn _ _ hz => exact .fn f caps us hl fun i v u hv hu => ih i v u hv hu (hz v (List.mem_of_getElem? hv))
  | raw v => exact .raw v
  | und => exact .und
  | junk v => exact .junk v

/-- more is known of memory -/
theorem Rel.mono {F B F' B' : Nat → Prop} {w : World} {v : V} {u : Value} (h : Rel F B w v u) (hF : ∀ b, F b → F' b) (hB : ∀ b, B b → F' b ∨ B' b) : Rel F' B' w v u := by
  have side : ∀ (t : Bool) b, F b ∨ (t = true ∧ B b) → F' b ∨ (t = true ∧ B' b) := by
    intro t b hh
    rcases hh with h | ⟨ht, h⟩
    · exact .inl (hF b h)
    · rcases hB b h with h | h
      · exact .inl h
      · exact .inr ⟨ht, h⟩
  induction h with
  | int => exact .int _ _
  | bool => exact .bool _
  | str => exact .str _
  | agg cs us hl h ih => exact .agg cs us hl ih
  | tup cs us hl h ih => exact .tup cs us hl ih
  | slnil t sz => exact .slnil t sz
  | slemp t sz a cap => exact .slemp t sz a cap
  | sl t sz rows b off cap us hFb hcap hsz hc hr ih => exact .sl t sz rows b off cap us (side t b hFb) hcap hsz hc ih
  | nilsl => exact .nilsl
  | ownnil k sz => exact .ownnil _ _
  | own k b sz n cap c e fr h hs hm hn => exact .own _ b sz n cap c e fr h hs hm hn
  | ptr k b sz i off => exact .ptr _ b sz i off
  | rp t b off cs us hFb hc hr ih => exact .rp t b off cs us (side t b hFb) hc ih
  | nil => exact .nil
  | fn f caps us hl h ih => exact .fn f caps us hl ih
  | raw v => exact .raw v
  | und => exact .und
  | junk v => exact .junk v

def Ob.Fz (o : Ob) : Prop := ∀ r ∈ o.rows, ∀ v ∈ r, AM.Fz v
theorem ObSat.fz {F B B' : Nat → Prop} {w : World} {o : Ob} (h : ObSat F B w o) (hz : o.Fz) : ObSat F B' w o := by
  unfold ObSat at h ⊢
  cases hb : o.b with
  | none => rw [hb] at h; exact h
  | some b =>
    rw [hb] at h
    obtain ⟨c, cap, hc, h1, h2, h3, h4, h5⟩ := h
    refine ⟨c, cap, hc, h1, h2, h3, h4, fun i j r v hi hj => ?_⟩
    obtain ⟨u, hu, h1u, hr⟩ := h5 i j r v hi hj
    exact ⟨u, hu, h1u, hr.fz (hz r (List.mem_of_getElem? hi) v (List.mem_of_getElem? hj))⟩
theorem ObSat.mono {F B F' B' : Nat → Prop} {w : World} {o : Ob} (h : ObSat F B w o) (hF : ∀ b, F b → F' b) (hB : ∀ b, B b → F' b ∨ B' b) : ObSat F' B' w o := by
  unfold ObSat at h ⊢
  cases hb : o.b with
  | none => rw [hb] at h; exact h
  | some b =>
    rw [hb] at h
    obtain ⟨c, cap, hc, h1, h2, h3, h4, h5⟩ := h
    refine ⟨c, cap, hc, h1, h2, h3, h4, fun i j r v hi hj => ?_⟩
    obtain ⟨u, hu, h1u, hr⟩ := h5 i j r v hi hj
    exact ⟨u, hu, h1u, hr.mono hF hB⟩

def Ctx.nb (C : Ctx) : Ctx := { C with B := fun _ => False }

/-- what a call of a function does: of arguments and of the objects that it is handed -/
structure Spec (P : Program) (f : Nat) (args : List V) (hp : Hp) (post : V → Hp → Prop) : Prop where
  fn : ∃ fn, P.funcs[f]? = some fn ∧ fn.name ≠ "runtime.NumGoroutine" ∧ ∃ c, fn.body = some c
  run : ∀ (C : Ctx) (us : Array Value), C.Ok → us.size = args.length → (∀ (i : Nat) (v : V) (u : Value), args[i]? = some v → us[i]? = some u → Rel C.F0 C.B C.w0 v u) → HSat C.nb C.F0 hp C.w0 →
    Calls P f us C.w0 fun e w' => ∃ u v h' F', e = .returned u ∧ Rel F' (fun _ => False) w' v u ∧ HSat C.nb F' h' w' ∧ post v h'

/-- how an argument is handed in: as it is; lent; nil as a slice of nothing -/
inductive Arg (h : Hp) (m : List (Nat × Nat)) : V → V → Prop
  | same (v : V) : Arg h m v (v.ren (bal m))
  | own (k b sz n rows) (hr : rowsOf h sz (.own k b sz n) = some rows) (hm : ∀ p ∈ m, p.2 ≠ k) : Arg h m (.own k b sz n) (.sl true sz rows)
  | weak (sz rows) : Arg h m (.sl false sz rows) (.sl true sz rows)
  | nil (t sz) : Arg h m .nilsl (.sl t sz [])
  | agg (cs cs' : List V) (hl : cs.length = cs'.length) (ha : ∀ (i : Nat) (v v' : V), cs[i]? = some v → cs'[i]? = some v' → Arg h m v v') : Arg h m (.agg cs) (.agg cs')
inductive Args (h : Hp) (m : List (Nat × Nat)) : List V → List V → Prop
  | nil : Args h m [] []
  | cons {v v' l l'} (a : Arg h m v v') (b : Args h m l l') : Args h m (v :: l) (v' :: l')

/-- the objects behind a call -/
def Hp.upd (h : Hp) (m : List (Nat × Nat)) (h' : Hp) : Hp := match m with
  | [] => h
  | m => fun i => if m.any (fun p => p.2 = i) then (h' (bal m i)).map (Ob.ren (lab m)) else h i

/-- what a call asks -/
def CallW (P : Program) : CallT := fun f args h K =>
  ∃ (m : List (Nat × Nat)) (args' : List V) (hp : Hp) (post : V → Hp → Prop), Spec P f args' hp post ∧ Args h m args args' ∧
    (∀ k o, hp k = some o → ∃ p ∈ m, p.1 = k) ∧ (∀ p ∈ m, lab m p.1 = p.2 ∧ bal m p.2 = p.1 ∧ ∀ o, hp p.1 = some o → (h p.2).map (Ob.ren (bal m)) = some o ∧ o.Fz) ∧
    ∀ v h', post v h' → K (v.ren (lab m)) (h.upd m h')
end Go.Proofs.Ytdmpbdmgaepndaa.AM
