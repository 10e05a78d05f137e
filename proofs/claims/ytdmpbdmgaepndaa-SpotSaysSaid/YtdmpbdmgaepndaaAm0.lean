/-
  A plain machine for the walks: values without addresses, own objects by name; and what a text of it asks.
-/
import Derived.WalkKit
import Derived.Laws.AppendOwn
import GoSem.ClaimData
set_option linter.unusedVariables false
set_option linter.unusedSimpArgs false
namespace Go.Proofs.Ytdmpbdmgaepndaa.AM
open Go

/-- values: 'sl' a slice that only is read (t: lent for this call alone), 'own' a slice of an object of the call's own, 'ptr' a pointer into an own object, 'rp' a pointer to what only is read -/
inductive V where
  | int (k : IntKind) (n : Int)
  | bool (b : Bool)
  | str (l : List UInt8)
  | agg (cs : List V)
  | tup (vs : List V)
  | sl (t : Bool) (sz : Nat) (rows : List (List V))
  | nilsl
  | own (k : Nat) (b : Option Nat) (sz len : Nat)
  | ptr (k : Nat) (b : Option Nat) (sz i off : Nat)
  | rp (t : Bool) (cs : List V)
  | nil
  | fn (f : Nat) (caps : List V)
  | raw (v : Value)
  | und
  | junk
  deriving Inhabited

/-- an object of the call's own: its block (none: it is nil yet), its element type, cells a row, its rows -/
structure Ob where
  b : Option Nat
  ty : Nat
  sz : Nat
  rows : List (List V)
  deriving Inhabited

abbrev Hp := Nat → Option Ob
def Hp.emp (_ : Nat) : Option Ob := none
def Hp.put (h : Hp) (k : Nat) (o : Ob) (i : Nat) : Option Ob := if i = k then some o else h i
def Hp.del (h : Hp) (k : Nat) (i : Nat) : Option Ob := if i = k then none else h i

structure S where
  t : Nat → V
  h : Hp
def upd (t : Nat → V) (d : Nat) (v : V) (i : Nat) : V := if i = d then v else t i
def S.set (s : S) (d : Nat) (v : V) : S := ⟨upd s.t d v, s.h⟩
def S.put (s : S) (d : Option Nat) (v : V) : S := match d with | some d => s.set d v | none => s
def S.seth (s : S) (h : Hp) : S := ⟨s.t, h⟩

inductive Opd where
  | t (i : Nat)
  | c (v : Value)
  deriving Inhabited

/-- a constant -/
def vOf : Value → V
  | .int k n => .int k n
  | .bool b => .bool b
  | .string s => .str s.data.toList
  | .slice none 0 0 => .nilsl
  | .pointer none => .nil
  | v => .raw v
def vOfC : Value → V
  | .agg cs => .agg (cs.toList.map vOf)
  | .func (.func f) a b => if a.size = 0 ∧ b.size = 0 then .fn f [] else .junk
  | v => vOf v
def Opd.ev (s : S) : Opd → V
  | .t i => s.t i
  | .c v => vOfC v

/-- a value of one cell -/
def V.one : V → Bool
  | .agg _ => false
  | .tup _ => false
  | .junk => false
  | .und => false
  | .raw v => v.oneCell'
  | _ => true
/-- the cells of a value -/
def V.cells : V → List V
  | .agg cs => cs
  | v => [v]
/-- a value of n cells, each of one cell -/
def V.fits (n : Nat) (v : V) : Prop := v.cells.length = n ∧ v.cells.all V.one = true

inductive AOp where
  | mov (x : Opd)
  | pick (c a b : Opd)
  | alloc (ty : Nat) (z : List Value)
  | box (ty n : Nat) (x : Opd)
  | build (z : List Value) (parts : List (Nat × Nat × Opd))
  | bslice (ty sz : Nat) (parts : List Opd)
  | load1 (x : Opd)
  | loadn (n : Nat) (x : Opd)
  | store (n : Nat) (x v : Opd)
  | nilchk (x : Opd)
  | bin (op : BinOp) (x y : Opd)
  | eqb (neg : Bool) (x y : Opd)
  | eqp (neg : Bool) (x y : Opd)
  | eqs (neg : Bool) (ts : List Nat) (x y : Opd)
  | not (x : Opd)
  | conv (k : IntKind) (x : Opd)
  | mkslice (ty sz bytes : Nat) (z : List Value) (l c : Opd)
  | slstr (x : Opd) (lo hi : Option Opd)
  | slsl (sz : Nat) (x : Opd) (lo hi : Option Opd)
  | faddr (off : Nat) (x : Opd)
  | fld1 (off : Nat) (x : Opd)
  | fldn (off n : Nat) (x : Opd)
  | iaddr (sz : Nat) (x i : Opd)
  | iarr (len sz : Nat) (x i : Opd)
  | ixs (x i : Opd)
  | ext (i : Nat) (x : Opd)
  | len (str : Bool) (x : Opd)
  | mm (mx : Bool) (x y : Opd)
  | append (ty sz bytes : Nat) (x y : Opd)
  | call (f : Nat) (args : List Opd)
  | callv (x : Opd) (args : List Opd)
  | mkfn (f : Nat) (caps : List Opd)
  | convbs (x : Opd)
  | dead
  | ixa (g : Bool) (len sz : Nat) (x i : Opd)
  deriving Inhabited

structure AO where
  d : Option Nat
  g : Option (Nat × Bool)
  op : AOp
  deriving Inhabited

inductive AC where
  | skip
  | region (draw : Bool) (ops : List AO)
  | seq (a b : AC)
  | cond (c : Opd) (a b : AC)
  | block (id : Nat) (a : AC)
  | loop (a : AC)
  | exit (id : Nat)
  | ret
  | dregion (ops : List (AO × List Nat))
  deriving Inhabited

/-! what an operation asks -/
def I64 (n : Int) : Prop := -9223372036854775808 ≤ n ∧ n ≤ 9223372036854775807
def arith (k : IntKind) (n : Int) (K : V → Prop) : Prop :=
  match k with
  | .i64 => I64 n ∧ K (.int .i64 n)
  | k => K (.int k (k.wrap n))
def binV (op : BinOp) (x y : V) (K : V → Prop) : Prop :=
  match op, x, y with
  | .add, .int k a, .int k' b => k = k' ∧ arith k (a + b) K
  | .sub, .int k a, .int k' b => k = k' ∧ arith k (a - b) K
  | .mul, .int k a, .int k' b => k = k' ∧ arith k (a * b) K
  | .quo, .int k a, .int k' b => k = k' ∧ 0 ≤ a ∧ 0 < b ∧ arith k (a / b) K
  | .rem, .int k a, .int k' b => k = k' ∧ 0 ≤ a ∧ 0 < b ∧ K (.int k (a % b))
  | .shl, .int k a, .int _ b => 0 ≤ b ∧ b < 64 ∧ arith k (a * 2 ^ b.toNat) K
  | .shr, .int k a, .int _ b => 0 ≤ b ∧ b < k.bits ∧ K (.int k (a / 2 ^ b.toNat))
  | .and, .int k a, .int k' b => k = k' ∧ K (.int k (k.wrap (BitVec.ofInt k.bits a &&& BitVec.ofInt k.bits b).toNat))
  | .or, .int k a, .int k' b => k = k' ∧ K (.int k (k.wrap (BitVec.ofInt k.bits a ||| BitVec.ofInt k.bits b).toNat))
  | .xor, .int k a, .int k' b => k = k' ∧ K (.int k (k.wrap (BitVec.ofInt k.bits a ^^^ BitVec.ofInt k.bits b).toNat))
  | .lss, .int k a, .int k' b => k = k' ∧ K (.bool (decide (a < b)))
  | .leq, .int k a, .int k' b => k = k' ∧ K (.bool (decide (a ≤ b)))
  | .gtr, .int k a, .int k' b => k = k' ∧ K (.bool (decide (b < a)))
  | .geq, .int k a, .int k' b => k = k' ∧ K (.bool (decide (b ≤ a)))
  | .eql, .int k a, .int k' b => k = k' ∧ K (.bool (decide (a = b)))
  | .neq, .int k a, .int k' b => k = k' ∧ K (.bool (decide (a ≠ b)))
  | .add, .str a, .str b => I64 ((a.length : Int) + b.length) ∧ K (.str (a ++ b))
  | .eql, .str a, .str b => K (.bool (decide (a = b)))
  | .neq, .str a, .str b => K (.bool (decide (a ≠ b)))
  | _, _, _ => False
/-- one cell held against another, of a type of this mark (0: truth values, 1: integers, 2: texts) -/
def eqCell (t : Nat) (x y : V) : Option Bool :=
  match t, x, y with
  | 0, .bool a, .bool b => some (a == b)
  | 1, .int k a, .int k' b => if k = k' then some (decide (a = b)) else none
  | 2, .str a, .str b => some (decide (a = b))
  | _, _, _ => none
def eqCells : List Nat → List V → List V → Option Bool
  | [], [], [] => some true
  | t :: ts, a :: l, b :: m => match eqCell t a b, eqCells ts l m with
    | some x, some y => some (x && y)
    | _, _ => none
  | _, _, _ => none
def eqP (x y : V) : Option Bool :=
  match x, y with
  | .nil, .nil => some true
  | .ptr .., .nil => some false
  | .nil, .ptr .. => some false
  | .rp .., .nil => some false
  | .nil, .rp .. => some false
  | _, _ => none
def eqbK (neg : Bool) (x y : V) (K : V → Prop) : Prop :=
  match x, y with
  | .bool a, .bool b => K (.bool (if neg then !(a == b) else a == b))
  | _, _ => False
def eqpK (neg : Bool) (x y : V) (K : V → Prop) : Prop := match eqP x y with
  | some b => K (.bool (if neg then !b else b))
  | none => False
def eqsK (neg : Bool) (ts : List Nat) (x y : V) (K : V → Prop) : Prop :=
  match x, y with
  | .agg cs, .agg ds => match eqCells ts cs ds with
    | some b => K (.bool (if neg then !b else b))
    | none => False
  | _, _ => False
def splice (r : List V) (off : Nat) (cs : List V) : List V := r.take off ++ cs ++ r.drop (off + cs.length)
def fillV (r : List V) : List (Nat × List V) → List V
  | [] => r
  | (o, cs) :: ps => fillV (splice r o cs) ps
/-- the rows of a slice that is read -/
def rowsOf (h : Hp) (sz : Nat) : V → Option (List (List V))
  | .sl _ sz' rows => if sz' = sz then some rows else none
  | .nilsl => some []
  | .own k b sz' n => match h k with
    | some o => if o.b = b ∧ o.sz = sz ∧ sz' = sz ∧ n ≤ o.rows.length then some (o.rows.take n) else none
    | none => none
  | _ => none
def lenV (str : Bool) (x : V) (K : V → Prop) : Prop :=
  match str, x with
  | true, .str l => K (.int .i64 l.length)
  | false, .sl _ _ rows => K (.int .i64 rows.length)
  | false, .nilsl => K (.int .i64 0)
  | false, .own _ _ _ n => K (.int .i64 n)
  | _, _ => False
def loV (lo : Option V) (K : Int → Prop) : Prop :=
  match lo with
  | some (.int _ n) => K n
  | none => K 0
  | _ => False
def hiV (hi : Option V) (n : Nat) (K : Int → Prop) : Prop :=
  match hi with
  | some (.int _ n) => K n
  | none => K n
  | _ => False
def nthC (cs : List V) (i : Nat) (K : V → Prop) : Prop := i < cs.length ∧ K (cs.getD i .junk)
def rowC (h : Hp) (k : Nat) (b : Option Nat) (sz i : Nat) (K : Ob → List V → Prop) : Prop :=
  match h k with
  | some o => o.b = b ∧ o.sz = sz ∧ i < o.rows.length ∧ K o (o.rows.getD i [])
  | none => False

def load1V (h : Hp) (x : V) (K : V → Prop) : Prop :=
  match x with
  | .ptr j b sz i off => rowC h j b sz i fun _ r => nthC r off K
  | .rp _ cs => nthC cs 0 K
  | _ => False
def loadnV (h : Hp) (n : Nat) (x : V) (K : V → Prop) : Prop :=
  match x with
  | .ptr j b sz i off => rowC h j b sz i fun _ r => off + n ≤ r.length ∧ K (.agg ((r.drop off).take n))
  | .rp _ cs => n ≤ cs.length ∧ K (.agg (cs.take n))
  | _ => False
def storeV (h : Hp) (n : Nat) (x v : V) (K : Hp → Prop) : Prop :=
  match x with
  | .ptr j b sz i off => rowC h j b sz i fun o r => off + n ≤ r.length ∧ v.fits n ∧ K (h.put j { o with rows := o.rows.set i (splice r off v.cells) })
  | _ => False

def appendV (h : Hp) (k ty sz bytes : Nat) (x y : V) (K : V → Hp → Prop) : Prop :=
  match rowsOf h sz y with
  | some news => match x with
    | .nilsl => h k = none ∧ (news.length : Int) * bytes ≤ 140737488355328 ∧ ∀ β : Option Nat, K (.own k β sz news.length) (h.put k ⟨β, ty, sz, news⟩)
    | .own j b sz' n => match h j with
      | some o => o.b = b ∧ o.sz = sz ∧ sz' = sz ∧ o.ty = ty ∧ o.rows.length = n ∧ ((n : Int) + news.length) * bytes ≤ 140737488355328 ∧ ∀ β : Option Nat, K (.own j β sz (n + news.length)) (h.put j ⟨β, ty, sz, o.rows ++ news⟩)
      | none => False
    | _ => False
  | none => False

/-- what a call asks: the word of its own (CallW below) -/
abbrev CallT := Nat → List V → Hp → (V → Hp → Prop) → Prop

def aop (C : CallT) (op : AOp) (ev : Opd → V) (h : Hp) (k : Nat) (K : V → Hp → Prop) : Prop :=
  match op with
  | .mov x => K (ev x) h
  | .pick c a b => match ev c with
    | .bool t => K (if t then ev a else ev b) h
    | _ => False
  | .alloc ty z => h k = none ∧ z.all (fun u => u.oneCell') = true ∧ ∀ β : Nat, K (.ptr k (some β) z.length 0 0) (h.put k ⟨some β, ty, z.length, [z.map vOf]⟩)
  | .box ty n x => h k = none ∧ (ev x).fits n ∧ ∀ β : Nat, K (.ptr k (some β) n 0 0) (h.put k ⟨some β, ty, n, [(ev x).cells]⟩)
  | .build z parts => (∀ p ∈ parts, (ev p.2.2).fits p.2.1) ∧ K (.agg (fillV (z.map vOf) (parts.map fun p => (p.1, (ev p.2.2).cells)))) h
  | .bslice ty sz parts => h k = none ∧ (∀ p ∈ parts, (ev p).fits sz) ∧ ∀ β : Nat, K (.own k (some β) sz parts.length) (h.put k ⟨some β, ty, sz, parts.map fun p => (ev p).cells⟩)
  | .load1 x => load1V h (ev x) fun v => K v h
  | .loadn n x => loadnV h n (ev x) fun v => K v h
  | .store n x v => storeV h n (ev x) (ev v) fun h => K .junk h
  | .nilchk x => match ev x with
    | .ptr .. | .rp .. => K (ev x) h
    | _ => False
  | .bin op x y => binV op (ev x) (ev y) fun v => K v h
  | .eqb neg x y => eqbK neg (ev x) (ev y) fun v => K v h
  | .eqp neg x y => eqpK neg (ev x) (ev y) fun v => K v h
  | .eqs neg ts x y => eqsK neg ts (ev x) (ev y) fun v => K v h
  | .not x => match ev x with
    | .bool b => K (.bool !b) h
    | _ => False
  | .conv kd x => match ev x with
    | .int _ n => K (.int kd (kd.wrap n)) h
    | _ => False
  | .mkslice ty sz bytes z l c => match ev l, ev c with
    | .int _ n, .int _ m => h k = none ∧ 0 ≤ n ∧ m = n ∧ z.length = sz ∧ z.all (fun u => u.oneCell') = true ∧ n * bytes ≤ 140737488355328 ∧ n ≤ 140737488355328 ∧ ∀ β : Nat, K (.own k (some β) sz n.toNat) (h.put k ⟨some β, ty, sz, List.replicate n.toNat (z.map vOf)⟩)
    | _, _ => False
  | .slstr x lo hi => match ev x with
    | .str l => loV (lo.map ev) fun a => hiV (hi.map ev) l.length fun b => 0 ≤ a ∧ a ≤ b ∧ b ≤ l.length ∧ K (.str ((l.take b.toNat).drop a.toNat)) h
    | _ => False
  | .slsl sz x lo hi => match ev x with
    | .sl t sz' rows => sz' = sz ∧ loV (lo.map ev) fun a => hiV (hi.map ev) rows.length fun b => 0 ≤ a ∧ a ≤ b ∧ b ≤ rows.length ∧ K (.sl t sz ((rows.take b.toNat).drop a.toNat)) h
    | _ => False
  | .faddr off x => match ev x with
    | .ptr j b sz i o => K (.ptr j b sz i (o + off)) h
    | .rp t cs => K (.rp t (cs.drop off)) h
    | _ => False
  | .fld1 off x => match ev x with
    | .agg cs => nthC cs off fun v => K v h
    | _ => False
  | .fldn off n x => match ev x with
    | .agg cs => off + n ≤ cs.length ∧ K (.agg ((cs.drop off).take n)) h
    | _ => False
  | .iaddr sz x i => match ev x, ev i with
    | .sl t sz' rows, .int _ i => sz' = sz ∧ 0 ≤ i ∧ i < rows.length ∧ K (.rp t (rows.getD i.toNat [])) h
    | .own j b sz' n, .int _ i => sz' = sz ∧ 0 ≤ i ∧ i < n ∧ K (.ptr j b sz i.toNat 0) h
    | _, _ => False
  | .iarr len sz x i => match ev x, ev i with
    | .ptr j b sz' r off, .int _ i => 0 ≤ i ∧ i < len ∧ K (.ptr j b sz' r (off + i.toNat * sz)) h
    | .rp t cs, .int _ i => 0 ≤ i ∧ i < len ∧ K (.rp t (cs.drop (i.toNat * sz))) h
    | _, _ => False
  | .ixs x i => match ev x, ev i with
    | .str l, .int _ i => 0 ≤ i ∧ i < l.length ∧ K (.int .u8 (l.getD i.toNat 0).toNat) h
    | _, _ => False
  | .ext i x => match ev x with
    | .tup vs => i < vs.length ∧ K (vs.getD i .junk) h
    | _ => False
  | .len str x => lenV str (ev x) fun v => K v h
  | .mm mx x y => match ev x, ev y with
    | .int k a, .int k' b => k = k' ∧ K (.int k (if mx then max a b else min a b)) h
    | _, _ => False
  | .append ty sz bytes x y => appendV h k ty sz bytes (ev x) (ev y) K
  | .call f args => C f (args.map ev) h K
  | .callv x args => match ev x with
    | .fn f caps => C f (args.map ev ++ caps) h K
    | _ => False
  | .mkfn f caps => K (.fn f (caps.map ev)) h
  | .convbs x => ∃ l : List UInt8, rowsOf h 1 (ev x) = some (l.map fun b => [V.int .u8 b.toNat]) ∧ K (.str l) h
  | .dead => False
  | .ixa g len sz x i => match ev x, ev i with
    | .agg cs, .int _ i => 0 ≤ i ∧ i < len ∧ len * sz ≤ cs.length ∧ 0 < sz ∧ K (if g then .agg ((cs.drop (i.toNat * sz)).take sz) else cs.getD (i.toNat * sz) .junk) h
    | _, _ => False

/-- two ways, of a truth value that the machine may not know yet -/
def br (t : Bool) (A B : Unit → Prop) : Prop := match t with
  | true => A ()
  | false => B ()
theorem br_intro {t : Bool} {A B : Unit → Prop} (h1 : t = true → A ()) (h2 : t = false → B ()) : br t A B := by
  cases t
  · exact h2 rfl
  · exact h1 rfl
theorem br_cases {t : Bool} {A B : Prop} (h1 : t = true → A) (h2 : t = false → B) : br.match_1 (fun _ => Prop) t (fun _ => A) (fun _ => B) := by
  cases t
  · exact h2 rfl
  · exact h1 rfl
end Go.Proofs.Ytdmpbdmgaepndaa.AM
