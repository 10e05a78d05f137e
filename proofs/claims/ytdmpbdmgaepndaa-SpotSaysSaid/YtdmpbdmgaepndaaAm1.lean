/-
  What the plain machine's states say of the model's.
-/
import Derived.Test.YtdmpbdmgaepndaaAm0
set_option linter.unusedVariables false
set_option linter.unusedSimpArgs false
namespace Go.Proofs.Ytdmpbdmgaepndaa.AM
open Go

/-- the world moved on: blocks outside L are as they were; rows of cells keep their size, type and marks -/
structure Ev (L : Nat → Prop) (w w' : World) : Prop where
  os : w'.os = w.os
  tape : w'.tape = w.tape
  output : w'.output = w.output
  size : w.heap.size ≤ w'.heap.size
  same : ∀ b : Nat, b < w.heap.size → ¬ L b → w'.heap[b]? = w.heap[b]?
  cells : ∀ (b : Nat) (c : Array Value) (e : TypeId) (fr : Nat × Nat), w.heap[b]? = some (Obj.cells c e fr) → ∃ (c' : Array Value) (fr' : Nat × Nat), w'.heap[b]? = some (Obj.cells c' e fr') ∧ c'.size = c.size

theorem Ev.refl (L : Nat → Prop) (w : World) : Ev L w w := ⟨rfl, rfl, rfl, Nat.le_refl _, fun _ _ _ => rfl, fun _ c _ fr h => ⟨c, fr, h, rfl⟩⟩
theorem Ev.trans {L : Nat → Prop} {a b c : World} (h : Ev L a b) (h' : Ev L b c) : Ev L a c :=
  ⟨h'.os.trans h.os, h'.tape.trans h.tape, h'.output.trans h.output, Nat.le_trans h.size h'.size,
    fun x hx hn => (h'.same x (Nat.lt_of_lt_of_le hx h.size) hn).trans (h.same x hx hn),
    fun x cs e fr hc => by
      obtain ⟨c1, f1, h1, e1⟩ := h.cells x cs e fr hc
      obtain ⟨c2, f2, h2, e2⟩ := h'.cells x c1 e f1 h1
      exact ⟨c2, f2, h2, e2.trans e1⟩⟩
theorem Ev.mono {L M : Nat → Prop} {a b : World} (h : Ev L a b) (hm : ∀ x, x < a.heap.size → L x → M x) : Ev M a b :=
  ⟨h.os, h.tape, h.output, h.size, fun x hx hn => h.same x hx fun hl => hn (hm x hx hl), h.cells⟩
theorem Ev.weak {L M : Nat → Prop} {a b c : World} (h : Ev M a b) (h' : Ev L b c) (hm : ∀ x, x < a.heap.size → L x → M x) : Ev M a c :=
  ⟨h'.os.trans h.os, h'.tape.trans h.tape, h'.output.trans h.output, Nat.le_trans h.size h'.size,
    fun x hx hn => (h'.same x (Nat.lt_of_lt_of_le hx h.size) (fun hl => hn (hm x hx hl))).trans (h.same x hx hn),
    fun x cs e fr hc => by
      obtain ⟨c1, f1, h1, e1⟩ := h.cells x cs e fr hc
      obtain ⟨c2, f2, h2, e2⟩ := h'.cells x c1 e f1 h1
      exact ⟨c2, f2, h2, e2.trans e1⟩⟩
theorem Ev.drew (L : Nat → Prop) (w : World) : Ev L w w.drew := ⟨rfl, rfl, rfl, Nat.le_refl _, fun _ _ _ => rfl, fun _ c _ fr h => ⟨c, fr, h, rfl⟩⟩
theorem Ev.alloc (L : Nat → Prop) (w : World) (o : Obj) : Ev L w (w.alloc o) :=
  ⟨rfl, rfl, rfl, by simp, fun b hb _ => heap_alloc_old w o hb, fun b c e fr h => ⟨c, fr, (heap_alloc_old w o (Array.getElem?_eq_some_iff.1 h).1).trans h, rfl⟩⟩
theorem Ev.setRow {L : Nat → Prop} {w : World} {b : Nat} {c c' : Array Value} {e : TypeId} (hL : L b) (h : w.heap[b]? = some (.cells c e (0, 0))) (hs : c'.size = c.size) :
    Ev L w (w.setRow b c') := by
  refine ⟨rfl, rfl, rfl, ?_, fun x hx hn => ?_, fun x cs e' fr hx => ?_⟩
  · simp [World.setRow]
  · exact setRow_other w b x c' (fun he => hn (he ▸ hL))
  · by_cases hxb : x = b
    · subst hxb
      rw [h] at hx
      cases hx
      exact ⟨c', _, setRow_heap w x c c' e _ h, hs⟩
    · exact ⟨cs, _, (setRow_other w b x c' hxb).trans hx, rfl⟩

/-- the block's cells -/
def World.row? (w : World) (b : Nat) : Option (Array Value) := match w.heap[b]? with | some (.cells c _ _) => some c | _ => none

/-- what a value of the machine says of a value of the model's: F: blocks that never change any more, B: blocks that do not change while this call lasts -/
inductive Rel (F B : Nat → Prop) (w : World) : V → Value → Prop
  | int (k n) : Rel F B w (.int k n) (.int k n)
  | bool (b) : Rel F B w (.bool b) (.bool b)
  | str (l : List UInt8) : Rel F B w (.str l) (.string ⟨l.toArray⟩)
  | agg (cs : List V) (us : Array Value) (hl : us.size = cs.length) (h : ∀ (i : Nat) (v : V) (u : Value), cs[i]? = some v → us[i]? = some u → Rel F B w v u) : Rel F B w (.agg cs) (.agg us)
  | tup (cs : List V) (us : Array Value) (hl : us.size = cs.length) (h : ∀ (i : Nat) (v : V) (u : Value), cs[i]? = some v → us[i]? = some u → Rel F B w v u) : Rel F B w (.tup cs) (.tuple us)
  | slnil (t sz) : Rel F B w (.sl t sz []) (.slice none 0 0)
  | sl (t sz rows b off cap) (us : Nat → Nat → Value) (hF : F b ∨ (t = true ∧ B b)) (hcap : rows.length ≤ cap) (hsz : ∀ r ∈ rows, r.length = sz)
      (hc : ∀ (i j : Nat) (r : List V) (v : V), rows[i]? = some r → r[j]? = some v → w.cell? ⟨b, off + (i * sz + j), none⟩ = some (us i j) ∧ (us i j).oneCell' = true)
      (hr : ∀ (i j : Nat) (r : List V) (v : V), rows[i]? = some r → r[j]? = some v → Rel F B w v (us i j)) :
      Rel F B w (.sl t sz rows) (.slice (some ⟨b, off, none⟩) rows.length cap)
  | slemp (t sz a cap) : Rel F B w (.sl t sz []) (.slice (some a) 0 cap)
  | nilsl : Rel F B w .nilsl (.slice none 0 0)
  | ownnil (k sz) : Rel F B w (.own k none sz 0) (.slice none 0 0)
  | own (k b sz n cap) (c : Array Value) (e : TypeId) (fr : Nat × Nat) (h : w.heap[b]? = some (.cells c e fr)) (hs : c.size = cap * sz) (hm : cap ≤ maxLen) (hn : n ≤ cap) : Rel F B w (.own k (some b) sz n) (.slice (some ⟨b, 0, none⟩) n cap)
  | ptr (k b sz i off) : Rel F B w (.ptr k (some b) sz i off) (.pointer (some ⟨b, i * sz + off, none⟩))
  | rp (t b off) (cs : List V) (us : Nat → Value) (hF : F b ∨ (t = true ∧ B b)) (hc : ∀ (j : Nat) (v : V), cs[j]? = some v → w.cell? ⟨b, off + j, none⟩ = some (us j) ∧ (us j).oneCell' = true) (hr : ∀ (j : Nat) (v : V), cs[j]? = some v → Rel F B w v (us j)) :
      Rel F B w (.rp t cs) (.pointer (some ⟨b, off, none⟩))
  | nil : Rel F B w .nil (.pointer none)
  | fn (f) (caps : List V) (us : Array Value) (hl : us.size = caps.length) (h : ∀ (i : Nat) (v : V) (u : Value), caps[i]? = some v → us[i]? = some u → Rel F B w v u) : Rel F B w (.fn f caps) (.func (.func f) #[] us)
  | raw (v) : Rel F B w (.raw v) v
  | und : Rel F B w .und undef
  | junk (v) : Rel F B w .junk v

theorem World.cell?_same {w w' : World} {b o : Nat} (h : w'.heap[b]? = w.heap[b]?) : w'.cell? ⟨b, o, none⟩ = w.cell? ⟨b, o, none⟩ := by simp [World.cell?, h]
theorem World.cell?_lt {w : World} {b o : Nat} {v : Value} (h : w.cell? ⟨b, o, none⟩ = some v) : b < w.heap.size := World.block_lt_of_cell? w ⟨b, o, none⟩ h

/-- values keep, while what they read keeps -/
theorem Rel.keep {F B F' B' : Nat → Prop} {L : Nat → Prop} {w w' : World} (he : Ev L w w') (hF : ∀ b, b < w.heap.size → F b → F' b) (hB : ∀ b, b < w.heap.size → B b → F' b ∨ B' b)
    (hL : ∀ b, b < w.heap.size → (F b ∨ B b) → ¬ L b) {v : V} {u : Value} (h : Rel F B w v u) (hlt : ∀ b, F b ∨ B b → b < w.heap.size) : Rel F' B' w' v u := by
  induction h with
  | int k n => exact .int k n
  | bool b => exact .bool b
  | str l => exact .str l
  | agg cs us hl h ih => exact .agg cs us hl ih
  | tup cs us hl h ih => exact .tup cs us hl ih
  | slnil t sz => exact .slnil t sz
  | sl t sz rows b off cap us hFb hcap hsz hc hr ih =>
    have hb : b < w.heap.size := hlt b (by rcases hFb with h | ⟨_, h⟩ <;> simp [h])
    have hs : w'.heap[b]? = w.heap[b]? := he.same b hb (hL b hb (by rcases hFb with h | ⟨_, h⟩ <;> simp [h]))
    refine .sl t sz rows b off cap us ?_ hcap hsz (fun i j r v hi hj => ⟨(World.cell?_same hs).trans (hc i j r v hi hj).1, (hc i j r v hi hj).2⟩) ih
    rcases hFb with h | ⟨ht, h⟩
    · exact .inl (hF b hb h)
    · rcases hB b hb h with h | h
      · exact .inl h
      · exact .inr ⟨ht, h⟩
  | slemp t sz a cap => exact .slemp t sz a cap
  | nilsl => exact .nilsl
  | ownnil k sz => exact .ownnil k sz
  | own k b sz n cap c e fr h hs hm hn =>
    obtain ⟨c', fr', h', e'⟩ := he.cells b c e fr h
    exact .own k b sz n cap c' e fr' h' (e'.trans hs) hm hn
  | ptr k b sz i off => exact .ptr k b sz i off
  | rp t b off cs us hFb hc hr ih =>
    have hb : b < w.heap.size := hlt b (by rcases hFb with h | ⟨_, h⟩ <;> simp [h])
    have hs : w'.heap[b]? = w.heap[b]? := he.same b hb (hL b hb (by rcases hFb with h | ⟨_, h⟩ <;> simp [h]))
    refine .rp t b off cs us ?_ (fun j v hj => ⟨(World.cell?_same hs).trans (hc j v hj).1, (hc j v hj).2⟩) ih
    rcases hFb with h | ⟨ht, h⟩
    · exact .inl (hF b hb h)
    · rcases hB b hb h with h | h
      · exact .inl h
      · exact .inr ⟨ht, h⟩
  | nil => exact .nil
  | fn f caps us hl h ih => exact .fn f caps us hl ih
  | raw v => exact .raw v
  | und => exact .und
  | junk v => exact .junk v

/-- an own object in memory -/
def ObSat (F B : Nat → Prop) (w : World) (o : Ob) : Prop :=
  match o.b with
  | none => o.rows = []
  | some b => ∃ (c : Array Value) (cap : Nat), w.heap[b]? = some (Obj.cells c o.ty (0, 0)) ∧ c.size = cap * o.sz ∧ cap ≤ maxLen ∧ o.rows.length ≤ cap ∧ (∀ r ∈ o.rows, r.length = o.sz) ∧
      ∀ (i j : Nat) (r : List V) (v : V), o.rows[i]? = some r → r[j]? = some v → ∃ u, c[i * o.sz + j]? = some u ∧ u.oneCell' = true ∧ Rel F B w v u

/-- where a call stands: the world that it began in, the blocks that never change, those that don't while it lasts, those of the objects that it was handed -/
structure Ctx where
  w0 : World
  F0 : Nat → Prop
  B : Nat → Prop
  pass : Nat → Prop
structure Ctx.Ok (C : Ctx) : Prop where
  F0 : ∀ b, C.F0 b → b < C.w0.heap.size ∧ ¬ C.pass b
  B : ∀ b, C.B b → b < C.w0.heap.size ∧ ¬ C.pass b
  pass : ∀ b, C.pass b → b < C.w0.heap.size

structure HSat (C : Ctx) (F : Nat → Prop) (h : Hp) (w : World) : Prop where
  ob : ∀ k o, h k = some o → ObSat F C.B w o
  inj : ∀ k k' o o' b, h k = some o → h k' = some o' → o.b = some b → o'.b = some b → k = k'
  live : ∀ k o b, h k = some o → o.b = some b → ¬ F b ∧ (C.pass b ∨ C.w0.heap.size ≤ b)
  old : ∀ b, F b → C.F0 b ∨ C.w0.heap.size ≤ b
  new : ∀ b, C.F0 b → F b
  lt : ∀ b, F b → b < w.heap.size
  ev : Ev C.pass C.w0 w

structure Sat (C : Ctx) (n : Nat) (s : S) (a : Act) (w : World) : Prop where
  ex : ∃ F, HSat C F s.h w ∧ ∀ i : Nat, Rel F C.B w (s.t i) (a.tmps.getD i undef)
  df : a.defers = []
  sz : a.tmps.size = n
