/-
  Texts of the plain machine, put together: what the law ShopOpens reaches.
-/
import Derived.Test.YtobngncjflogcaaRows
import Derived.ProofKit
import Derived.SizedLaws
import Derived.WalkKit
import Derived.Laws.AppendOwn
import GoSem.ClaimData
import Derived.BigFrame
import Derived.Laws.CopyRow
set_option linter.unusedVariables false
set_option linter.unusedSimpArgs false
namespace Go.Proofs.Ytobngncjflogcaa
open Go.ChangeShapes Go.WideShapes Go.ChangeAt Go.RowKit

theorem Try.own : ownKnob Try.prog.godebug = none := by kernel_rfl
theorem Try.laidOut : laidOutB Try.prog = true := by kernel_rfl

theorem below_trodAll {H : Type} {enc : TypeId × Value → H} {P : Program} (hl : laidOutB P = true) {W W' : World} (hb : Below W.heap.size W W') :
    ∀ {ts : List TypeId} {vs : List Value} {ds : List (DataW H)} {ps : List MemPlace}, (∀ t ∈ ts, P.readableRec t = true ∧ t < P.types.size) →
      DataW.TrodAll enc P W 0 (fun _ => true) true ts vs ds ps → (∀ x ∈ ps, x.block < W.heap.size) →
      DataW.TrodAll enc P W' 0 (fun b => decide (b < W.heap.size)) true ts vs ds ps
  | [], [], [], _, _, h, _ => h
  | t :: _, _ :: _, _ :: _, _, hr, ⟨p, q, h, hs, e⟩, hlt =>
    ⟨p, q, Below.trod hl (hr t List.mem_cons_self).1 (hr t List.mem_cons_self).2 h hb (fun x hx => hlt x (by rw [e]; exact List.mem_append_left _ hx)),
      below_trodAll hl hb (fun t ht => hr t (List.mem_cons_of_mem _ ht)) hs (fun x hx => hlt x (by rw [e]; exact List.mem_append_right _ hx)), e⟩
  | [], _ :: _, _, _, _, h, _ => h.elim
  | [], [], _ :: _, _, _, h, _ => h.elim
  | _ :: _, [], _, _, _, h, _ => h.elim
  | _ :: _, _ :: _, [], _, _, h, _ => h.elim

/-- The end of every law's row. -/
theorem law_post {H : Type} {enc : TypeId × Value → H} {fn : Func} {s : ChangeSpec} {W W' : World} {args : Array Value} {ds : List (DataW H)} {before : List MemPlace}
    (hv : s.vars = []) (hr : fn.resultTypes = #[4]) (hread : ∀ t ∈ fn.params.toList, Try.prog.readableRec t = true ∧ t < Try.prog.types.size)
    (hW : DataW.Whole enc Try.prog fn.params.toList s.vars false W args.toList ds [] before)
    (hlt : ∀ x ∈ before, x.block < W.heap.size)
    (hs : s.fn H (ds ++ []) = { results := [.lit (.bool true)], args := ds }) (hb : Below W.heap.size W W') :
    s.post enc Try.prog fn false true false false W args (.bool true) W' := by
  have hW' := hW
  obtain ⟨p, q, hA, hV, rfl, _, _⟩ := hW
  rw [hv] at hV
  obtain ⟨_, rfl⟩ := trodVars_none hV
  have hvars : (s.fn H (ds ++ [])).vars = [] := by rw [hs]
  refine ⟨ds, [], p ++ [], [], p, [], hW', ?_, ?_, ?_, hb.frame _, fun h => by cases h⟩
  · rw [hs, hr]
    exact trodAll_mk1 (shut_bool Try.underlying4 true)
  · rw [hs]
    exact below_trodAll Try.laidOut hb hread hA (fun x hx => hlt x (List.mem_append_left _ hx))
  · rw [hvars, hv]
    rfl
end Go.Proofs.Ytobngncjflogcaa

set_option linter.unusedVariables false
set_option linter.unusedSimpArgs false
namespace Go.Proofs.Ytobngncjflogcaa.AM
open Go

/-- values: 'sl' a slice that only is read (t: lent for this call alone), 'own' a slice of an object of the call's own, 'ptr' a pointer into an own object, 'rp' a pointer to what only is read -/
inductive V where
  | int (k : IntKind) (n : Int)
  | bool (b : Bool)
  | str (l : List UInt8)
  | agg (cs : List V)
  | tup (vs : List V)
  | sl (t : Bool) (sz : Nat) (rows : List (List V))
  | nilsl
  | own (k : Nat) (b : Option Nat) (sz len : Nat)
  | win (k : Nat) (b : Option Nat) (sz : Nat) (lo hi : Int)
  | ptr (k : Nat) (b : Option Nat) (sz i off : Nat)
  | rp (t : Bool) (cs : List V)
  | nil
  | fn (f : Nat) (caps : List V)
  | raw (v : Value)
  | und
  | junk
  deriving Inhabited

/-- an object of the call's own: its block (none: it is nil yet), its element type, cells a row, its rows -/
structure Ob where
  b : Option Nat
  ty : Nat
  sz : Nat
  rows : List (List V)
  deriving Inhabited

abbrev Hp := Nat → Option Ob
def Hp.emp (_ : Nat) : Option Ob := none
def Hp.put (h : Hp) (k : Nat) (o : Ob) (i : Nat) : Option Ob := if i = k then some o else h i
def Hp.del (h : Hp) (k : Nat) (i : Nat) : Option Ob := if i = k then none else h i

structure S where
  t : Nat → V
  h : Hp
def upd (t : Nat → V) (d : Nat) (v : V) (i : Nat) : V := if i = d then v else t i
def S.set (s : S) (d : Nat) (v : V) : S := ⟨upd s.t d v, s.h⟩
def S.put (s : S) (d : Option Nat) (v : V) : S := match d with | some d => s.set d v | none => s
def S.seth (s : S) (h : Hp) : S := ⟨s.t, h⟩

inductive Opd where
  | t (i : Nat)
  | c (v : Value)
  deriving Inhabited

/-- a constant -/
def vOf : Value → V
  | .int k n => .int k n
  | .bool b => .bool b
  | .string s => .str s.data.toList
  | .slice none 0 0 => .nilsl
  | .pointer none => .nil
  | v => .raw v
def vOfC : Value → V
  | .agg cs => .agg (cs.toList.map vOf)
  | .func (.func f) a b => if a.size = 0 ∧ b.size = 0 then .fn f [] else .junk
  | v => vOf v
def Opd.ev (s : S) : Opd → V
  | .t i => s.t i
  | .c v => vOfC v

/-- a value of one cell -/
def V.one : V → Bool
  | .agg _ => false
  | .tup _ => false
  | .junk => false
  | .und => false
  | .raw v => v.oneCell'
  | _ => true
/-- the cells of a value -/
def V.cells : V → List V
  | .agg cs => cs
  | v => [v]
/-- a value of n cells, each of one cell -/
def V.fits (n : Nat) (v : V) : Prop := v.cells.length = n ∧ v.cells.all V.one = true

inductive AOp where
  | mov (x : Opd)
  | pick (c a b : Opd)
  | alloc (ty : Nat) (z : List Value)
  | box (ty n : Nat) (x : Opd)
  | build (z : List Value) (parts : List (Nat × Nat × Opd))
  | bslice (ty sz : Nat) (parts : List Opd)
  | load1 (x : Opd)
  | loadn (n : Nat) (x : Opd)
  | store (n : Nat) (x v : Opd)
  | nilchk (x : Opd)
  | bin (op : BinOp) (x y : Opd)
  | eqb (neg : Bool) (x y : Opd)
  | eqp (neg : Bool) (x y : Opd)
  | eqn (neg : Bool) (x : Opd)
  | eqs (neg : Bool) (ts : List Nat) (x y : Opd)
  | not (x : Opd)
  | conv (k : IntKind) (x : Opd)
  | mkslice (ty sz bytes : Nat) (z : List Value) (l c : Opd)
  | slstr (x : Opd) (lo hi : Option Opd)
  | slsl (sz : Nat) (x : Opd) (lo hi : Option Opd)
  | faddr (off : Nat) (x : Opd)
  | fld1 (off : Nat) (x : Opd)
  | fldn (off n : Nat) (x : Opd)
  | iaddr (sz : Nat) (x i : Opd)
  | iarr (len sz : Nat) (x i : Opd)
  | ixs (x i : Opd)
  | ext (i : Nat) (x : Opd)
  | len (str : Bool) (x : Opd)
  | mm (mx : Bool) (x y : Opd)
  | append (ty sz bytes : Nat) (x y : Opd)
  | call (f : Nat) (args : List Opd)
  | callv (x : Opd) (args : List Opd)
  | mkfn (f : Nat) (caps : List Opd)
  | convbs (x : Opd)
  | dead
  | ixa (g : Bool) (len sz : Nat) (x i : Opd)
  deriving Inhabited

structure AO where
  d : Option Nat
  g : Option (Nat × Bool)
  op : AOp
  deriving Inhabited

inductive AC where
  | skip
  | region (draw : Bool) (ops : List AO)
  | seq (a b : AC)
  | cond (c : Opd) (a b : AC)
  | block (id : Nat) (a : AC)
  | loop (a : AC)
  | exit (id : Nat)
  | ret
  | dregion (ops : List (AO × List Nat))
  deriving Inhabited

def I64 (n : Int) : Prop := -9223372036854775808 ≤ n ∧ n ≤ 9223372036854775807
def arith (k : IntKind) (n : Int) (K : V → Prop) : Prop :=
  match k with
  | .i64 => I64 n ∧ K (.int .i64 n)
  | k => K (.int k (k.wrap n))
def binV (op : BinOp) (x y : V) (K : V → Prop) : Prop :=
  match op, x, y with
  | .add, .int k a, .int k' b => k = k' ∧ arith k (a + b) K
  | .sub, .int k a, .int k' b => k = k' ∧ arith k (a - b) K
  | .mul, .int k a, .int k' b => k = k' ∧ arith k (a * b) K
  | .quo, .int k a, .int k' b => k = k' ∧ 0 ≤ a ∧ 0 < b ∧ arith k (a / b) K
  | .rem, .int k a, .int k' b => k = k' ∧ 0 ≤ a ∧ 0 < b ∧ K (.int k (a % b))
  | .shl, .int k a, .int _ b => 0 ≤ b ∧ b < 64 ∧ arith k (a * 2 ^ b.toNat) K
  | .shr, .int k a, .int _ b => 0 ≤ b ∧ b < k.bits ∧ K (.int k (a / 2 ^ b.toNat))
  | .and, .int k a, .int k' b => k = k' ∧ K (.int k (k.wrap (BitVec.ofInt k.bits a &&& BitVec.ofInt k.bits b).toNat))
  | .or, .int k a, .int k' b => k = k' ∧ K (.int k (k.wrap (BitVec.ofInt k.bits a ||| BitVec.ofInt k.bits b).toNat))
  | .xor, .int k a, .int k' b => k = k' ∧ K (.int k (k.wrap (BitVec.ofInt k.bits a ^^^ BitVec.ofInt k.bits b).toNat))
  | .lss, .int k a, .int k' b => k = k' ∧ K (.bool (decide (a < b)))
  | .leq, .int k a, .int k' b => k = k' ∧ K (.bool (decide (a ≤ b)))
  | .gtr, .int k a, .int k' b => k = k' ∧ K (.bool (decide (b < a)))
  | .geq, .int k a, .int k' b => k = k' ∧ K (.bool (decide (b ≤ a)))
  | .eql, .int k a, .int k' b => k = k' ∧ K (.bool (decide (a = b)))
  | .neq, .int k a, .int k' b => k = k' ∧ K (.bool (decide (a ≠ b)))
  | .add, .str a, .str b => I64 ((a.length : Int) + b.length) ∧ K (.str (a ++ b))
  | .eql, .str a, .str b => K (.bool (decide (a = b)))
  | .neq, .str a, .str b => K (.bool (decide (a ≠ b)))
  | _, _, _ => False
/-- one cell held against another, of a type of this mark (0: truth values, 1: integers, 2: texts) -/
def eqCell (t : Nat) (x y : V) : Option Bool :=
  match t, x, y with
  | 0, .bool a, .bool b => some (a == b)
  | 1, .int k a, .int k' b => if k = k' then some (decide (a = b)) else none
  | 2, .str a, .str b => some (decide (a = b))
  | _, _, _ => none
def eqCells : List Nat → List V → List V → Option Bool
  | [], [], [] => some true
  | t :: ts, a :: l, b :: m => match eqCell t a b, eqCells ts l m with
    | some x, some y => some (x && y)
    | _, _ => none
  | _, _, _ => none
def eqP (x y : V) : Option Bool :=
  match x, y with
  | .nil, .nil => some true
  | .ptr .., .nil => some false
  | .nil, .ptr .. => some false
  | .rp .., .nil => some false
  | .nil, .rp .. => some false
  | _, _ => none
def eqbK (neg : Bool) (x y : V) (K : V → Prop) : Prop :=
  match x, y with
  | .bool a, .bool b => K (.bool (if neg then !(a == b) else a == b))
  | _, _ => False
def eqpK (neg : Bool) (x y : V) (K : V → Prop) : Prop := match eqP x y with
  | some b => K (.bool (if neg then !b else b))
  | none => False
def eqsK (neg : Bool) (ts : List Nat) (x y : V) (K : V → Prop) : Prop :=
  match x, y with
  | .agg cs, .agg ds => match eqCells ts cs ds with
    | some b => K (.bool (if neg then !b else b))
    | none => False
  | _, _ => False
def splice (r : List V) (off : Nat) (cs : List V) : List V := r.take off ++ cs ++ r.drop (off + cs.length)
def fillV (r : List V) : List (Nat × List V) → List V
  | [] => r
  | (o, cs) :: ps => fillV (splice r o cs) ps
/-- the rows of a slice that is read -/
def rowsOf (h : Hp) (sz : Nat) : V → Option (List (List V))
  | .sl _ sz' rows => if sz' = sz then some rows else none
  | .nilsl => some []
  | .own k b sz' n => match h k with
    | some o => if o.b = b ∧ o.sz = sz ∧ sz' = sz ∧ n ≤ o.rows.length then some (o.rows.take n) else none
    | none => none
  | _ => none
def lenV (str : Bool) (x : V) (K : V → Prop) : Prop :=
  match str, x with
  | true, .str l => K (.int .i64 l.length)
  | false, .sl _ _ rows => K (.int .i64 rows.length)
  | false, .nilsl => K (.int .i64 0)
  | false, .own _ _ _ n => K (.int .i64 n)
  | false, .win _ _ _ lo hi => K (.int .i64 (hi - lo))
  | _, _ => False
/-- is a slice nil? a slice of nothing may be nil or not -/
def eqnK (neg : Bool) (x : V) (K : V → Prop) : Prop := match x with
  | .nilsl => K (.bool (if neg then false else true))
  | .sl _ _ rows => K (.bool (if neg then true else false)) ∧ ((rows.length : Int) = 0 → K (.bool (if neg then false else true)))
  | _ => False
def loV (lo : Option V) (K : Int → Prop) : Prop :=
  match lo with
  | some (.int _ n) => K n
  | none => K 0
  | _ => False
def hiV (hi : Option V) (n : Nat) (K : Int → Prop) : Prop :=
  match hi with
  | some (.int _ n) => K n
  | none => K n
  | _ => False
def nthC (cs : List V) (i : Nat) (K : V → Prop) : Prop := i < cs.length ∧ K (cs.getD i .junk)
def rowC (h : Hp) (k : Nat) (b : Option Nat) (sz i : Nat) (K : Ob → List V → Prop) : Prop :=
  match h k with
  | some o => o.b = b ∧ o.sz = sz ∧ i < o.rows.length ∧ K o (o.rows.getD i [])
  | none => False

def load1V (h : Hp) (x : V) (K : V → Prop) : Prop :=
  match x with
  | .ptr j b sz i off => rowC h j b sz i fun _ r => nthC r off K
  | .rp _ cs => nthC cs 0 K
  | _ => False
def loadnV (h : Hp) (n : Nat) (x : V) (K : V → Prop) : Prop :=
  match x with
  | .ptr j b sz i off => rowC h j b sz i fun _ r => off + n ≤ r.length ∧ K (.agg ((r.drop off).take n))
  | .rp _ cs => n ≤ cs.length ∧ K (.agg (cs.take n))
  | _ => False
def storeV (h : Hp) (n : Nat) (x v : V) (K : Hp → Prop) : Prop :=
  match x with
  | .ptr j b sz i off => rowC h j b sz i fun o r => off + n ≤ r.length ∧ v.fits n ∧ K (h.put j { o with rows := o.rows.set i (splice r off v.cells) })
  | _ => False

def appendV (h : Hp) (k ty sz bytes : Nat) (x y : V) (K : V → Hp → Prop) : Prop :=
  match rowsOf h sz y with
  | some news => match x with
    | .nilsl => h k = none ∧ (news.length : Int) * bytes ≤ 140737488355328 ∧ ∀ β : Option Nat, K (.own k β sz news.length) (h.put k ⟨β, ty, sz, news⟩)
    | .own j b sz' n => match h j with
      | some o => o.b = b ∧ o.sz = sz ∧ sz' = sz ∧ o.ty = ty ∧ o.rows.length = n ∧ ((n : Int) + news.length) * bytes ≤ 140737488355328 ∧ ∀ β : Option Nat, K (.own j β sz (n + news.length)) (h.put j ⟨β, ty, sz, o.rows ++ news⟩)
      | none => False
    | _ => False
  | none => False

/-- what a call asks: the word of its own (CallW below) -/
abbrev CallT := Nat → List V → Hp → (V → Hp → Prop) → Prop

def aop (C : CallT) (op : AOp) (ev : Opd → V) (h : Hp) (k : Nat) (K : V → Hp → Prop) : Prop :=
  match op with
  | .mov x => K (ev x) h
  | .pick c a b => match ev c with
    | .bool t => K (if t then ev a else ev b) h
    | _ => False
  | .alloc ty z => h k = none ∧ z.all (fun u => u.oneCell') = true ∧ ∀ β : Nat, K (.ptr k (some β) z.length 0 0) (h.put k ⟨some β, ty, z.length, [z.map vOf]⟩)
  | .box ty n x => h k = none ∧ (ev x).fits n ∧ ∀ β : Nat, K (.ptr k (some β) n 0 0) (h.put k ⟨some β, ty, n, [(ev x).cells]⟩)
  | .build z parts => (∀ p ∈ parts, (ev p.2.2).fits p.2.1) ∧ K (.agg (fillV (z.map vOf) (parts.map fun p => (p.1, (ev p.2.2).cells)))) h
  | .bslice ty sz parts => h k = none ∧ (∀ p ∈ parts, (ev p).fits sz) ∧ ∀ β : Nat, K (.own k (some β) sz parts.length) (h.put k ⟨some β, ty, sz, parts.map fun p => (ev p).cells⟩)
  | .load1 x => load1V h (ev x) fun v => K v h
  | .loadn n x => loadnV h n (ev x) fun v => K v h
  | .store n x v => storeV h n (ev x) (ev v) fun h => K .junk h
  | .nilchk x => match ev x with
    | .ptr .. | .rp .. => K (ev x) h
    | _ => False
  | .bin op x y => binV op (ev x) (ev y) fun v => K v h
  | .eqb neg x y => eqbK neg (ev x) (ev y) fun v => K v h
  | .eqp neg x y => eqpK neg (ev x) (ev y) fun v => K v h
  | .eqn neg x => eqnK neg (ev x) fun v => K v h
  | .eqs neg ts x y => eqsK neg ts (ev x) (ev y) fun v => K v h
  | .not x => match ev x with
    | .bool b => K (.bool !b) h
    | _ => False
  | .conv kd x => match ev x with
    | .int _ n => K (.int kd (kd.wrap n)) h
    | _ => False
  | .mkslice ty sz bytes z l c => match ev l, ev c with
    | .int _ n, .int _ m => h k = none ∧ 0 ≤ n ∧ m = n ∧ z.length = sz ∧ z.all (fun u => u.oneCell') = true ∧ n * bytes ≤ 140737488355328 ∧ n ≤ 140737488355328 ∧ ∀ β : Nat, K (.own k (some β) sz n.toNat) (h.put k ⟨some β, ty, sz, List.replicate n.toNat (z.map vOf)⟩)
    | _, _ => False
  | .slstr x lo hi => match ev x with
    | .str l => loV (lo.map ev) fun a => hiV (hi.map ev) l.length fun b => 0 ≤ a ∧ a ≤ b ∧ b ≤ l.length ∧ K (.str ((l.take b.toNat).drop a.toNat)) h
    | _ => False
  | .slsl sz x lo hi => match ev x with
    | .sl t sz' rows => sz' = sz ∧ loV (lo.map ev) fun a => hiV (hi.map ev) rows.length fun b => 0 ≤ a ∧ a ≤ b ∧ b ≤ rows.length ∧ K (.sl t sz ((rows.take b.toNat).drop a.toNat)) h
    | .own j bk sz' n => sz' = sz ∧ loV (lo.map ev) fun a => hiV (hi.map ev) n fun b => 0 ≤ a ∧ a ≤ b ∧ b ≤ n ∧ K (.win j bk sz a b) h
    | _ => False
  | .faddr off x => match ev x with
    | .ptr j b sz i o => K (.ptr j b sz i (o + off)) h
    | .rp t cs => K (.rp t (cs.drop off)) h
    | _ => False
  | .fld1 off x => match ev x with
    | .agg cs => nthC cs off fun v => K v h
    | _ => False
  | .fldn off n x => match ev x with
    | .agg cs => off + n ≤ cs.length ∧ K (.agg ((cs.drop off).take n)) h
    | _ => False
  | .iaddr sz x i => match ev x, ev i with
    | .sl t sz' rows, .int _ i => sz' = sz ∧ 0 ≤ i ∧ i < rows.length ∧ K (.rp t (rows.getD i.toNat [])) h
    | .own j b sz' n, .int _ i => sz' = sz ∧ 0 ≤ i ∧ i < n ∧ K (.ptr j b sz i.toNat 0) h
    | .win j b sz' lo hi, .int _ i => sz' = sz ∧ 0 ≤ i ∧ i < hi - lo ∧ K (.ptr j b sz (lo + i).toNat 0) h
    | _, _ => False
  | .iarr len sz x i => match ev x, ev i with
    | .ptr j b sz' r off, .int _ i => 0 ≤ i ∧ i < len ∧ K (.ptr j b sz' r (off + i.toNat * sz)) h
    | .rp t cs, .int _ i => 0 ≤ i ∧ i < len ∧ K (.rp t (cs.drop (i.toNat * sz))) h
    | _, _ => False
  | .ixs x i => match ev x, ev i with
    | .str l, .int _ i => 0 ≤ i ∧ i < l.length ∧ K (.int .u8 (l.getD i.toNat 0).toNat) h
    | _, _ => False
  | .ext i x => match ev x with
    | .tup vs => i < vs.length ∧ K (vs.getD i .junk) h
    | _ => False
  | .len str x => lenV str (ev x) fun v => K v h
  | .mm mx x y => match ev x, ev y with
    | .int k a, .int k' b => k = k' ∧ K (.int k (if mx then max a b else min a b)) h
    | _, _ => False
  | .append ty sz bytes x y => appendV h k ty sz bytes (ev x) (ev y) K
  | .call f args => C f (args.map ev) h K
  | .callv x args => match ev x with
    | .fn f caps => C f (args.map ev ++ caps) h K
    | _ => False
  | .mkfn f caps => K (.fn f (caps.map ev)) h
  | .convbs x => ∃ l : List UInt8, rowsOf h 1 (ev x) = some (l.map fun b => [V.int .u8 b.toNat]) ∧ K (.str l) h
  | .dead => False
  | .ixa g len sz x i => match ev x, ev i with
    | .agg cs, .int _ i => 0 ≤ i ∧ i < len ∧ len * sz ≤ cs.length ∧ 0 < sz ∧ K (if g then .agg ((cs.drop (i.toNat * sz)).take sz) else cs.getD (i.toNat * sz) .junk) h
    | _, _ => False

/-- two ways, of a truth value that the machine may not know yet -/
def br (t : Bool) (A B : Unit → Prop) : Prop := match t with
  | true => A ()
  | false => B ()
theorem br_cases {t : Bool} {A B : Prop} (h1 : t = true → A) (h2 : t = false → B) : br.match_1 (fun _ => Prop) t (fun _ => A) (fun _ => B) := by
  cases t
  · exact h2 rfl
  · exact h1 rfl
end Go.Proofs.Ytobngncjflogcaa.AM

set_option linter.unusedVariables false
set_option linter.unusedSimpArgs false
namespace Go.Proofs.Ytobngncjflogcaa.AM
open Go

/-- the world moved on: blocks outside L are as they were; rows of cells keep their size, type and marks -/
structure Ev (L : Nat → Prop) (w w' : World) : Prop where
  os : w'.os = w.os
  tape : w'.tape = w.tape
  output : w'.output = w.output
  size : w.heap.size ≤ w'.heap.size
  same : ∀ b : Nat, b < w.heap.size → ¬ L b → w'.heap[b]? = w.heap[b]?
  cells : ∀ (b : Nat) (c : Array Value) (e : TypeId) (fr : Nat × Nat), w.heap[b]? = some (Obj.cells c e fr) → ∃ (c' : Array Value) (fr' : Nat × Nat), w'.heap[b]? = some (Obj.cells c' e fr') ∧ c'.size = c.size

theorem Ev.refl (L : Nat → Prop) (w : World) : Ev L w w := ⟨rfl, rfl, rfl, Nat.le_refl _, fun _ _ _ => rfl, fun _ c _ fr h => ⟨c, fr, h, rfl⟩⟩
theorem Ev.trans {L : Nat → Prop} {a b c : World} (h : Ev L a b) (h' : Ev L b c) : Ev L a c :=
  ⟨h'.os.trans h.os, h'.tape.trans h.tape, h'.output.trans h.output, Nat.le_trans h.size h'.size,
    fun x hx hn => (h'.same x (Nat.lt_of_lt_of_le hx h.size) hn).trans (h.same x hx hn),
    fun x cs e fr hc => by
      obtain ⟨c1, f1, h1, e1⟩ := h.cells x cs e fr hc
      obtain ⟨c2, f2, h2, e2⟩ := h'.cells x c1 e f1 h1
      exact ⟨c2, f2, h2, e2.trans e1⟩⟩
theorem Ev.mono {L M : Nat → Prop} {a b : World} (h : Ev L a b) (hm : ∀ x, x < a.heap.size → L x → M x) : Ev M a b :=
  ⟨h.os, h.tape, h.output, h.size, fun x hx hn => h.same x hx fun hl => hn (hm x hx hl), h.cells⟩
theorem Ev.weak {L M : Nat → Prop} {a b c : World} (h : Ev M a b) (h' : Ev L b c) (hm : ∀ x, x < a.heap.size → L x → M x) : Ev M a c :=
  ⟨h'.os.trans h.os, h'.tape.trans h.tape, h'.output.trans h.output, Nat.le_trans h.size h'.size,
    fun x hx hn => (h'.same x (Nat.lt_of_lt_of_le hx h.size) (fun hl => hn (hm x hx hl))).trans (h.same x hx hn),
    fun x cs e fr hc => by
      obtain ⟨c1, f1, h1, e1⟩ := h.cells x cs e fr hc
      obtain ⟨c2, f2, h2, e2⟩ := h'.cells x c1 e f1 h1
      exact ⟨c2, f2, h2, e2.trans e1⟩⟩
theorem Ev.drew (L : Nat → Prop) (w : World) : Ev L w w.drew := ⟨rfl, rfl, rfl, Nat.le_refl _, fun _ _ _ => rfl, fun _ c _ fr h => ⟨c, fr, h, rfl⟩⟩
theorem Ev.alloc (L : Nat → Prop) (w : World) (o : Obj) : Ev L w (w.alloc o) :=
  ⟨rfl, rfl, rfl, by simp, fun b hb _ => heap_alloc_old w o hb, fun b c e fr h => ⟨c, fr, (heap_alloc_old w o (Array.getElem?_eq_some_iff.1 h).1).trans h, rfl⟩⟩
theorem Ev.setRow {L : Nat → Prop} {w : World} {b : Nat} {c c' : Array Value} {e : TypeId} (hL : L b) (h : w.heap[b]? = some (.cells c e (0, 0))) (hs : c'.size = c.size) :
    Ev L w (w.setRow b c') := by
  refine ⟨rfl, rfl, rfl, ?_, fun x hx hn => ?_, fun x cs e' fr hx => ?_⟩
  · simp [World.setRow]
  · exact setRow_other w b x c' (fun he => hn (he ▸ hL))
  · by_cases hxb : x = b
    · subst hxb
      rw [h] at hx
      cases hx
      exact ⟨c', _, setRow_heap w x c c' e _ h, hs⟩
    · exact ⟨cs, _, (setRow_other w b x c' hxb).trans hx, rfl⟩


/-- what a value of the machine says of a value of the model's: F: blocks that never change any more, B: blocks that do not change while this call lasts -/
inductive Rel (F B : Nat → Prop) (w : World) : V → Value → Prop
  | int (k n) : Rel F B w (.int k n) (.int k n)
  | bool (b) : Rel F B w (.bool b) (.bool b)
  | str (l : List UInt8) : Rel F B w (.str l) (.string ⟨l.toArray⟩)
  | agg (cs : List V) (us : Array Value) (hl : us.size = cs.length) (h : ∀ (i : Nat) (v : V) (u : Value), cs[i]? = some v → us[i]? = some u → Rel F B w v u) : Rel F B w (.agg cs) (.agg us)
  | tup (cs : List V) (us : Array Value) (hl : us.size = cs.length) (h : ∀ (i : Nat) (v : V) (u : Value), cs[i]? = some v → us[i]? = some u → Rel F B w v u) : Rel F B w (.tup cs) (.tuple us)
  | slnil (t sz) : Rel F B w (.sl t sz []) (.slice none 0 0)
  | sl (t sz rows b off cap) (us : Nat → Nat → Value) (hF : F b ∨ (t = true ∧ B b)) (hcap : rows.length ≤ cap) (hsz : ∀ r ∈ rows, r.length = sz)
      (hc : ∀ (i j : Nat) (r : List V) (v : V), rows[i]? = some r → r[j]? = some v → w.cell? ⟨b, off + (i * sz + j), none⟩ = some (us i j) ∧ (us i j).oneCell' = true)
      (hr : ∀ (i j : Nat) (r : List V) (v : V), rows[i]? = some r → r[j]? = some v → Rel F B w v (us i j)) :
      Rel F B w (.sl t sz rows) (.slice (some ⟨b, off, none⟩) rows.length cap)
  | slemp (t sz a cap) : Rel F B w (.sl t sz []) (.slice (some a) 0 cap)
  | nilsl : Rel F B w .nilsl (.slice none 0 0)
  | ownnil (k sz) : Rel F B w (.own k none sz 0) (.slice none 0 0)
  | own (k b sz n cap) (c : Array Value) (e : TypeId) (fr : Nat × Nat) (h : w.heap[b]? = some (.cells c e fr)) (hs : c.size = cap * sz) (hm : cap ≤ maxLen) (hn : n ≤ cap) : Rel F B w (.own k (some b) sz n) (.slice (some ⟨b, 0, none⟩) n cap)
  | winemp (k b sz lo cap) (a : Option Addr) : Rel F B w (.win k b sz lo lo) (.slice a 0 cap)
  | win (k b sz cap) (lo hi : Int) (c : Array Value) (e : TypeId) (fr : Nat × Nat) (h : w.heap[b]? = some (.cells c e fr)) (hs : c.size = (cap + lo.toNat) * sz) (hm : cap + lo.toNat ≤ maxLen) (hn : (hi - lo).toNat ≤ cap) (h0 : 0 ≤ lo) (h1 : lo ≤ hi) : Rel F B w (.win k (some b) sz lo hi) (.slice (some ⟨b, lo.toNat * sz, none⟩) (hi - lo).toNat cap)
  | ptr (k b sz i off) : Rel F B w (.ptr k (some b) sz i off) (.pointer (some ⟨b, i * sz + off, none⟩))
  | rp (t b off) (cs : List V) (us : Nat → Value) (hF : F b ∨ (t = true ∧ B b)) (hc : ∀ (j : Nat) (v : V), cs[j]? = some v → w.cell? ⟨b, off + j, none⟩ = some (us j) ∧ (us j).oneCell' = true) (hr : ∀ (j : Nat) (v : V), cs[j]? = some v → Rel F B w v (us j)) :
      Rel F B w (.rp t cs) (.pointer (some ⟨b, off, none⟩))
  | nil : Rel F B w .nil (.pointer none)
  | fn (f) (caps : List V) (us : Array Value) (hl : us.size = caps.length) (h : ∀ (i : Nat) (v : V) (u : Value), caps[i]? = some v → us[i]? = some u → Rel F B w v u) : Rel F B w (.fn f caps) (.func (.func f) #[] us)
  | raw (v) : Rel F B w (.raw v) v
  | und : Rel F B w .und undef
  | junk (v) : Rel F B w .junk v

theorem World.cell?_same {w w' : World} {b o : Nat} (h : w'.heap[b]? = w.heap[b]?) : w'.cell? ⟨b, o, none⟩ = w.cell? ⟨b, o, none⟩ := by simp [World.cell?, h]

/-- values keep, while what they read keeps -/
theorem Rel.keep {F B F' B' : Nat → Prop} {L : Nat → Prop} {w w' : World} (he : Ev L w w') (hF : ∀ b, b < w.heap.size → F b → F' b) (hB : ∀ b, b < w.heap.size → B b → F' b ∨ B' b)
    (hL : ∀ b, b < w.heap.size → (F b ∨ B b) → ¬ L b) {v : V} {u : Value} (h : Rel F B w v u) (hlt : ∀ b, F b ∨ B b → b < w.heap.size) : Rel F' B' w' v u := by
  induction h with
  | int k n => exact .int k n
  | bool b => exact .bool b
  | str l => exact .str l
  | agg cs us hl h ih => exact .agg cs us hl ih
  | tup cs us hl h ih => exact .tup cs us hl ih
  | slnil t sz => exact .slnil t sz
  | sl t sz rows b off cap us hFb hcap hsz hc hr ih =>
    have hb : b < w.heap.size := hlt b (by rcases hFb with h | ⟨_, h⟩ <;> simp [h])
    have hs : w'.heap[b]? = w.heap[b]? := he.same b hb (hL b hb (by rcases hFb with h | ⟨_, h⟩ <;> simp [h]))
    refine .sl t sz rows b off cap us ?_ hcap hsz (fun i j r v hi hj => ⟨(World.cell?_same hs).trans (hc i j r v hi hj).1, (hc i j r v hi hj).2⟩) ih
    rcases hFb with h | ⟨ht, h⟩
    · exact .inl (hF b hb h)
    · rcases hB b hb h with h | h
      · exact .inl h
      · exact .inr ⟨ht, h⟩
  | slemp t sz a cap => exact .slemp t sz a cap
  | nilsl => exact .nilsl
  | ownnil k sz => exact .ownnil k sz
  | own k b sz n cap c e fr h hs hm hn =>
    obtain ⟨c', fr', h', e'⟩ := he.cells b c e fr h
    exact .own k b sz n cap c' e fr' h' (e'.trans hs) hm hn
  | winemp k b sz lo cap a => exact .winemp k b sz lo cap a
  | win k b sz cap lo hi c e fr h hs hm hn h0 h1 =>
    obtain ⟨c', fr', h', e'⟩ := he.cells b c e fr h
    exact .win k b sz cap lo hi c' e fr' h' (e'.trans hs) hm hn h0 h1
  | ptr k b sz i off => exact .ptr k b sz i off
  | rp t b off cs us hFb hc hr ih =>
    have hb : b < w.heap.size := hlt b (by rcases hFb with h | ⟨_, h⟩ <;> simp [h])
    have hs : w'.heap[b]? = w.heap[b]? := he.same b hb (hL b hb (by rcases hFb with h | ⟨_, h⟩ <;> simp [h]))
    refine .rp t b off cs us ?_ (fun j v hj => ⟨(World.cell?_same hs).trans (hc j v hj).1, (hc j v hj).2⟩) ih
    rcases hFb with h | ⟨ht, h⟩
    · exact .inl (hF b hb h)
    · rcases hB b hb h with h | h
      · exact .inl h
      · exact .inr ⟨ht, h⟩
  | nil => exact .nil
  | fn f caps us hl h ih => exact .fn f caps us hl ih
  | raw v => exact .raw v
  | und => exact .und
  | junk v => exact .junk v

/-- an own object in memory -/
def ObSat (F B : Nat → Prop) (w : World) (o : Ob) : Prop :=
  match o.b with
  | none => o.rows = []
  | some b => ∃ (c : Array Value) (cap : Nat), w.heap[b]? = some (Obj.cells c o.ty (0, 0)) ∧ c.size = cap * o.sz ∧ cap ≤ maxLen ∧ o.rows.length ≤ cap ∧ (∀ r ∈ o.rows, r.length = o.sz) ∧
      ∀ (i j : Nat) (r : List V) (v : V), o.rows[i]? = some r → r[j]? = some v → ∃ u, c[i * o.sz + j]? = some u ∧ u.oneCell' = true ∧ Rel F B w v u

/-- where a call stands: the world that it began in, the blocks that never change, those that don't while it lasts, those of the objects that it was handed -/
structure Ctx where
  w0 : World
  F0 : Nat → Prop
  B : Nat → Prop
  pass : Nat → Prop
structure Ctx.Ok (C : Ctx) : Prop where
  F0 : ∀ b, C.F0 b → b < C.w0.heap.size ∧ ¬ C.pass b
  B : ∀ b, C.B b → b < C.w0.heap.size ∧ ¬ C.pass b
  pass : ∀ b, C.pass b → b < C.w0.heap.size

structure HSat (C : Ctx) (F : Nat → Prop) (h : Hp) (w : World) : Prop where
  ob : ∀ k o, h k = some o → ObSat F C.B w o
  inj : ∀ k k' o o' b, h k = some o → h k' = some o' → o.b = some b → o'.b = some b → k = k'
  live : ∀ k o b, h k = some o → o.b = some b → ¬ F b ∧ (C.pass b ∨ C.w0.heap.size ≤ b)
  old : ∀ b, F b → C.F0 b ∨ C.pass b ∨ C.w0.heap.size ≤ b
  new : ∀ b, C.F0 b → F b
  lt : ∀ b, F b → b < w.heap.size
  ev : Ev C.pass C.w0 w

structure Sat (C : Ctx) (n : Nat) (s : S) (a : Act) (w : World) : Prop where
  ex : ∃ F, HSat C F s.h w ∧ ∀ i : Nat, Rel F C.B w (s.t i) (a.tmps.getD i undef)
  df : a.defers = []
  sz : a.tmps.size = n
end Go.Proofs.Ytobngncjflogcaa.AM

set_option linter.unusedVariables false
set_option linter.unusedSimpArgs false
namespace Go.Proofs.Ytobngncjflogcaa.AM
open Go

def trX : Operand → Option Opd
  | .tmp t => some (.t t)
  | .const v => some (.c v)
  | .func f => some (.c (.func (.func f) #[] #[]))
  | .global _ => none
def isNilC : Opd → Bool
  | .c (.slice none 0 0) => true
  | _ => false
theorem nilC_eval {a : Act} {y : Operand} {y' : Opd} (h : trX y = some y') (hn : isNilC y' = true) : a.eval y = .slice none 0 0 := by
  cases y with
  | tmp t => simp [trX] at h; subst h; cases hn
  | global g => cases h
  | func f => simp [trX] at h; subst h; cases hn
  | const v =>
    simp only [trX, Option.some.injEq] at h
    subst h
    have hv : v = .slice none 0 0 := by
      unfold isNilC at hn
      split at hn
      · rename_i he; cases he; rfl
      · cases hn
    subst hv
    rfl
def trXo : Option Operand → Option (Option Opd)
  | none => some none
  | some x => (trX x).map some
def trXs : List Operand → Option (List Opd)
  | [] => some []
  | x :: l => match trX x, trXs l with
    | some y, some m => some (y :: m)
    | _, _ => none
def isAggT (P : Program) (T : TypeId) : Option Bool :=
  match P.underlying T with
  | some (.struct _) => some true
  | some (.array _ _) => some true
  | some _ => some false
  | none => none
def szT (P : Program) (T : TypeId) : Option Nat := (P.info? T).map (·.size)
def zeroT (P : Program) (T : TypeId) : Option (List Value) := ((P.info? T).bind (·.zero)).map (·.cells.toList)
def trParts (off : Nat → Option (Nat × Nat)) (n : Nat) : List (Nat × Operand) → Option (List (Nat × Nat × Opd))
  | [] => some []
  | (j, x) :: l => match off j, trX x, trParts off n l with
    | some (o, sz), some y, some m => if o + sz ≤ n then some ((o, sz, y) :: m) else none
    | _, _, _ => none
def trSeq (i : Nat) : List (Nat × Operand) → Option (List Opd)
  | [] => some []
  | (j, x) :: l => match trX x, trSeq (i + 1) l with
    | some y, some m => if j = i then some (y :: m) else none
    | _, _ => none
/-- the marks of a type's cells, where its values can be held against each other cell by cell -/
def flatF (P : Program) (g : TypeId → Option (List Nat)) : List Field → Nat → Option (List Nat)
  | [], _ => some []
  | f :: fs, off => match g f.type with
    | some c => if f.name ≠ "_" ∧ f.offset = off ∧ P.cellsOf f.type = c.length then (flatF P g fs (off + c.length)).map (c ++ ·) else none
    | none => none
def flatK (P : Program) : Nat → TypeId → Option (List Nat)
  | 0, _ => none
  | m + 1, t => match P.underlying t with
    | some .bool => some [0]
    | some (.int _) => some [1]
    | some .string => some [2]
    | some (.array n e) => match flatK P m e with
      | some c => if P.cellsOf e = c.length then some (List.replicate n c).flatten else none
      | none => none
    | some (.struct fs) => if P.stoodInHeld t then none else flatF P (flatK P m) fs.toList 0
    | _ => none
def trOp (P : Program) (o : Op) : Option AOp :=
  match o with
  | .move x | .assign x => (trX x).map .mov
  | .pick c a b => match trX c, trX a, trX b with
    | some c, some a, some b => some (.pick c a b)
    | _, _, _ => none
  | .alloc T => (zeroT P T).map (.alloc T)
  | .box T x => match szT P T, trX x with
    | some n, some x => some (.box T n x)
    | _, _ => none
  | .build T parts => match zeroT P T, P.underlying T with
    | some z, some (.struct fs) => match fs.toList.mapM (fun f => (P.info? f.type).map fun i => (f.offset, i.size)) with
      | some places => (trParts (fun j => places.toArray[j]?) z.length parts.toList).map (.build z)
      | none => none
    | some z, some (.array _ e) => match szT P e with
      | some n => (trParts (fun j => some (j * n, n)) z.length parts.toList).map (.build z)
      | none => none
    | _, _ => none
  | .buildSlice T len parts => match P.underlying T with
    | some (.slice e) => match szT P e, zeroT P e, trSeq 0 parts.toList with
      | some n, some z, some ps => if z.length = n ∧ 0 < n ∧ len * n ≤ 16777216 ∧ ps.length = len then some (.bslice e n ps) else none
      | _, _, _ => none
    | _ => none
  | .load T x => match isAggT P T, szT P T, trX x with
    | some true, some n, some x => some (.loadn n x)
    | some false, _, some x => some (.load1 x)
    | _, _, _ => none
  | .store T x v => match szT P T, trX x, trX v with
    | some n, some x, some v => some (.store n x v)
    | _, _, _ => none
  | .nilCheck x => (trX x).map .nilchk
  | .binOp op T x y _ => match P.underlying T, trX x, trX y with
    | some (.int _), some x, some y => some (.bin op x y)
    | some .string, some x, some y => some (.bin op x y)
    | some .bool, some x, some y => match op with
      | .eql => some (.eqb false x y)
      | .neq => some (.eqb true x y)
      | _ => none
    | some (.pointer _), some x, some y => match op with
      | .eql => some (.eqp false x y)
      | .neq => some (.eqp true x y)
      | _ => none
    | some (.slice _), some x, some y => if isNilC y then (match op with
      | .eql => some (.eqn false x)
      | .neq => some (.eqn true x)
      | _ => none) else none
    | some (.struct _), some x, some y | some (.array _ _), some x, some y => match flatK P 8 T with
      | some ts => if P.eqGuardType P.depth T then none else match op with
        | .eql => some (.eqs false ts x y)
        | .neq => some (.eqs true ts x y)
        | _ => none
      | none => none
    | _, _, _ => none
  | .unOp .not _ x => (trX x).map .not
  | .convert src dst x => match P.underlying src, P.underlying dst, trX x with
    | some (.int _), some (.int k), some x => some (.conv k x)
    | some (.slice e), some .string, some x => (match P.underlying e with
      | some (.int .u8) => some (.convbs x)
      | _ => none)
    | _, _, _ => none
  | .panic _ => some .dead
  | .makeInterface .. => some .dead
  | .makeSlice T l c => match P.underlying T with
    | some (.slice e) => match P.info? e, zeroT P e, trX l, trX c with
      | some i, some z, some l, some c => if i.size = z.length ∧ 0 < z.length ∧ 0 < i.bytes then some (.mkslice e i.size i.bytes z l c) else none
      | _, _, _, _ => none
    | _ => none
  | .slice T x lo hi none => match P.underlying T, trX x, trXo lo, trXo hi with
    | some .string, some x, some lo, some hi => some (.slstr x lo hi)
    | some (.slice e), some x, some lo, some hi => (szT P e).map fun n => .slsl n x lo hi
    | _, _, _, _ => none
  | .fieldAddr T x f => match P.underlying T, trX x with
    | some (.struct fs), some x => match fs[f]? with
      | some f => match szT P f.type with
        | some n => if n = 0 then none else some (.faddr f.offset x)
        | none => none
      | none => none
    | _, _ => none
  | .field T x f => match P.underlying T, trX x with
    | some (.struct fs), some x => match fs[f]? with
      | some f => match isAggT P f.type, szT P f.type with
        | some true, some n => some (.fldn f.offset n x)
        | some false, _ => some (.fld1 f.offset x)
        | _, _ => none
      | none => none
    | _, _ => none
  | .indexAddr T x i => match P.underlying T, trX x, trX i with
    | some (.slice e), some x, some i => (szT P e).map fun n => .iaddr n x i
    | some (.array len e), some x, some i => (szT P e).map fun n => .iarr len n x i
    | _, _, _ => none
  | .index T x i => match P.underlying T, trX x, trX i with
    | some .string, some x, some i => some (.ixs x i)
    | some (.array len e), some x, some i => match isAggT P e, szT P e with
      | some g, some n => some (.ixa g len n x i)
      | _, _ => none
    | _, _, _ => none
  | .extract x i => (trX x).map (.ext i)
  | .makeFunc (.func f) first caps => if first.size = 0 then (trXs caps.toList).map (.mkfn f) else none
  | .call c => match c.callee with
    | .value (.func f) => (trXs c.args.toList).map (.call f)
    | .value (.tmp t) => (trXs c.args.toList).map (.callv (.t t))
    | .builtin .len => match c.args.toList, c.argTypes.toList with
      | [x], [T] => match P.underlying T with
        | some .string => (trX x).map (.len true)
        | some (.slice _) => (trX x).map (.len false)
        | _ => none
      | _, _ => none
    | .builtin .max => match trXs c.args.toList with
      | some [x, y] => some (.mm true x y)
      | _ => none
    | .builtin .min => match trXs c.args.toList with
      | some [x, y] => some (.mm false x y)
      | _ => none
    | .builtin .append => match trXs c.args.toList, c.argTypes.toList with
      | some [x, y], [T, T'] => match P.underlying T, P.underlying T' with
        | some (.slice e), some (.slice _) => match P.info? e, zeroT P e with
          | some i, some z => if i.size = z.length ∧ 0 < z.length ∧ 0 < i.bytes ∧ T' = T then some (.append e i.size i.bytes x y) else none
          | _, _ => none
        | _, _ => none
      | _, _ => none
    | _ => none
  | _ => none

theorem rel_vOf (F B : Nat → Prop) (w : World) (v : Value) : Rel F B w (vOf v) v := by
  unfold vOf
  split
  · exact .int _ _
  · exact .bool _
  · exact .str _
  · exact .nilsl
  · exact .nil
  · exact .raw _
theorem rel_vOfC (F B : Nat → Prop) (w : World) (v : Value) : Rel F B w (vOfC v) v := by
  unfold vOfC
  split
  · refine .agg _ _ (by simp) fun i v u hv hu => ?_
    simp only [List.getElem?_map, Option.map_eq_some_iff] at hv
    obtain ⟨x, hx, rfl⟩ := hv
    rw [Array.getElem?_toList, hu] at hx
    cases hx
    exact rel_vOf F B w _
  · rename_i f p q
    split
    · rename_i h
      have e1 : p = #[] := Array.eq_empty_of_size_eq_zero h.1
      have e2 : q = #[] := Array.eq_empty_of_size_eq_zero h.2
      subst e1 e2
      exact .fn _ _ _ (by simp) (by simp)
    · exact .junk _
  · exact rel_vOf F B w _

section
variable {P : Program} {C : Ctx} {F : Nat → Prop} {w : World} {a : Act} {s : S}

theorem ev_rel (hr : ∀ i : Nat, Rel F C.B w (s.t i) (a.tmps.getD i undef)) {x : Operand} {y : Opd} (h : trX x = some y) : Rel F C.B w (y.ev s) (a.eval x) := by
  cases x with
  | tmp t => simp only [trX, Option.some.injEq] at h; subst h; exact hr t
  | const v => simp only [trX, Option.some.injEq] at h; subst h; exact rel_vOfC _ _ _ _
  | func f => simp only [trX, Option.some.injEq] at h; subst h; exact rel_vOfC F C.B w (.func (.func f) #[] #[])
  | global g => simp [trX] at h

/-- how an operation leaves the state -/
def OpPost (C : Ctx) (F : Nat → Prop) (w : World) (a : Act) (dst : Option Tmp) (K : V → Hp → Prop) : Act → World → Prop := fun a' w' =>
  ∃ u v h' F', a' = a.put dst u ∧ Rel F' C.B w' v u ∧ HSat C F' h' w' ∧ (∀ x y, Rel F C.B w x y → Rel F' C.B w' x y) ∧ K v h'

theorem wp_val {o : Oper} {u : Value} {w' : World} {K : Act → World → Prop} {Q : Exit → Act → World → Prop} (hrun : (execOp a.eval o).run P w = .ok (.value u) w') (h : K (a.put o.dst u) w') : o.wp P a w K Q := by
  unfold Oper.wp
  rw [hrun]
  exact h
theorem wp_pure {o : Oper} {u : Value} {v : V} {h : Hp} {K : V → Hp → Prop} {Q : Exit → Act → World → Prop} (hs : HSat C F h w) (hrun : (execOp a.eval o).run P w = .ok (.value u) w) (hv : Rel F C.B w v u) (hK : K v h) :
    o.wp P a w (OpPost C F w a o.dst K) Q :=
  wp_val hrun ⟨u, v, h, F, rfl, hv, hs, fun _ _ h => h, hK⟩
end
end Go.Proofs.Ytobngncjflogcaa.AM

set_option linter.unusedVariables false
set_option linter.unusedSimpArgs false
namespace Go.Proofs.Ytobngncjflogcaa.AM
open Go
section
variable {P : Program} {C : Ctx} {F : Nat → Prop} {w : World} {a : Act} {s : S} {h : Hp} {K : V → Hp → Prop} {Q : Exit → Act → World → Prop} {o : Oper}

theorem snd_mov {x : Operand} {v : V} (ho : o.op = .move x ∨ o.op = .assign x) (hs : HSat C F h w) (hv : Rel F C.B w v (a.eval x)) (hK : K v h) : o.wp P a w (OpPost C F w a o.dst K) Q := by
  refine wp_pure hs ?_ hv hK
  rcases ho with ho | ho <;> generalize a.eval = ρ at * <;> simp [execOp, ho, go_sem]

theorem snd_pick {c x y : Operand} {t : Bool} {vx vy : V} (ho : o.op = .pick c x y) (hs : HSat C F h w) (hc : Rel F C.B w (.bool t) (a.eval c)) (hx : Rel F C.B w vx (a.eval x)) (hy : Rel F C.B w vy (a.eval y))
    (hK : K (if t then vx else vy) h) : o.wp P a w (OpPost C F w a o.dst K) Q := by
  generalize hec : a.eval c = uc at hc
  cases hc
  refine wp_pure (u := if t then a.eval x else a.eval y) hs ?_ ?_ hK
  · generalize a.eval = ρ at *
    simp [execOp, ho, hec, go_sem, asBool]
  · cases t
    · exact hy
    · exact hx

theorem snd_not {T : TypeId} {x : Operand} {b : Bool} (ho : o.op = .unOp .not T x) (hs : HSat C F h w) (hx : Rel F C.B w (.bool b) (a.eval x)) (hK : K (.bool !b) h) : o.wp P a w (OpPost C F w a o.dst K) Q := by
  generalize hec : a.eval x = uc at hx
  cases hx
  refine wp_pure (u := .bool !b) hs ?_ (.bool _) hK
  generalize a.eval = ρ at *
  simp [execOp, ho, hec, go_sem, Op.unary]

theorem snd_nilchk {x : Operand} {v : V} (ho : o.op = .nilCheck x) (hs : HSat C F h w) (hx : Rel F C.B w v (a.eval x)) (hv : (∃ k b sz i off, v = .ptr k b sz i off) ∨ (∃ t cs, v = .rp t cs)) (hK : K v h) : o.wp P a w (OpPost C F w a o.dst K) Q := by
  refine wp_pure (u := a.eval x) hs ?_ hx hK
  generalize hec : a.eval x = uc at hx
  rcases hv with ⟨k, b, sz, i, off, rfl⟩ | ⟨t, cs, rfl⟩ <;> cases hx <;> generalize a.eval = ρ at * <;> simp [execOp, ho, hec, go_sem]

theorem snd_ext {x : Operand} {i : Nat} {vs : List V} (ho : o.op = .extract x i) (hs : HSat C F h w) (hx : Rel F C.B w (.tup vs) (a.eval x)) (hi : i < vs.length) (hK : K (vs.getD i .junk) h) : o.wp P a w (OpPost C F w a o.dst K) Q := by
  generalize hec : a.eval x = uc at hx
  cases hx with
  | tup _ us hl hr =>
    have hi' : i < us.size := by omega
    refine wp_pure (u := us[i]) hs ?_ (hr i _ _ (by simp [List.getD_eq_getElem?_getD, hi]) (by simp [hi'])) hK
    generalize a.eval = ρ at *
    simp [execOp, ho, hec, go_sem, Instr.extract, hi']

theorem snd_conv {src dst : TypeId} {x : Operand} {k : IntKind} {kx : IntKind} {n : Int} {ks : IntKind} (ho : o.op = .convert src dst x) (h1 : P.underlying src = some (.int ks)) (h2 : P.underlying dst = some (.int k)) (hs : HSat C F h w)
    (hx : Rel F C.B w (.int kx n) (a.eval x)) (hK : K (.int k (k.wrap n)) h) : o.wp P a w (OpPost C F w a o.dst K) Q := by
  generalize hec : a.eval x = uc at hx
  cases hx
  refine wp_pure (u := .int k (k.wrap n)) hs ?_ (.int _ _) hK
  generalize a.eval = ρ at *
  simp [execOp, ho, hec, go_sem, convert, run_underlying h1, run_underlying h2, Conv.intToInt]


theorem wrap64 {n : Int} (h : I64 n) : IntKind.i64.wrap n = n := by
  unfold I64 at h
  simp only [IntKind.wrap, IntKind.bits, IntKind.signed]
  simp
  omega
theorem arith_ok {k : IntKind} {n : Int} {K : V → Prop} (h : arith k n K) : K (.int k (k.wrap n)) := by
  unfold arith at h
  split at h
  · rw [wrap64 h.1]; exact h.2
  · exact h
theorem wrap_id {k : IntKind} {n : Int} (h1 : k.min ≤ n) (h2 : n ≤ k.max) : k.wrap n = n := by
  cases k <;> simp [IntKind.min, IntKind.max, IntKind.wrap, IntKind.bits, IntKind.signed] at * <;> omega
end
end Go.Proofs.Ytobngncjflogcaa.AM

set_option linter.unusedVariables false
set_option linter.unusedSimpArgs false
namespace Go.Proofs.Ytobngncjflogcaa.AM
open Go
section
variable {P : Program} {C : Ctx} {F : Nat → Prop} {w : World} {a : Act} {s : S} {h : Hp} {K : V → Hp → Prop} {Q : Exit → Act → World → Prop} {o : Oper}

theorem run_guard_ii {op : BinOp} {T : TypeId} {x y : Operand} {k k' : IntKind} {m n : Int} : (eqGuard op T x y (.int k m) (.int k' n)).run P w = .ok () w := by
  unfold eqGuard; cases op <;> simp [go_sem]
theorem run_guard_ss {op : BinOp} {T : TypeId} {x y : Operand} {m n : ByteArray} : (eqGuard op T x y (.string m) (.string n)).run P w = .ok () w := by
  unfold eqGuard; cases op <;> simp [go_sem]

theorem snd_bin_of {op : BinOp} {T U : TypeId} {x y : Operand} {u : Value} {v : V} (ho : o.op = .binOp op T x y U) (hs : HSat C F h w) (hg : (eqGuard op T x y (a.eval x) (a.eval y)).run P w = .ok () w)
    (hb : (binOp op T (a.eval x) (a.eval y)).run P w = .ok u w) (hv : Rel F C.B w v u) (hK : K v h) : o.wp P a w (OpPost C F w a o.dst K) Q := by
  refine wp_pure hs ?_ hv hK
  generalize a.eval = ρ at *
  simp [execOp, ho, go_sem, hg, hb]

theorem toList_inj {l m : List UInt8} : ((⟨l.toArray⟩ : ByteArray).toList == (⟨m.toArray⟩ : ByteArray).toList) = decide (l = m) := by
  rw [Bool.eq_iff_iff]; simp

theorem tdiv_pos {m n : Int} (h1 : 0 ≤ m) : m.tdiv n = m / n := by rw [Int.tdiv_eq_ediv_of_nonneg h1]
theorem tmod_pos {m n : Int} (h1 : 0 ≤ m) : m.tmod n = m % n := by rw [Int.tmod_eq_emod_of_nonneg h1]
theorem fdiv_pos {m : Int} {n : Nat} : m.fdiv (2 ^ n) = m / 2 ^ n := Int.fdiv_eq_ediv_of_nonneg _ (Int.le_of_lt (Int.pow_pos (by decide)))
theorem wrap_shl {k : IntKind} {x : Int} {n : Nat} (h : k.bits ≤ n) : k.wrap (x * 2 ^ k.bits) = k.wrap (x * 2 ^ n) := by
  obtain ⟨d, rfl⟩ : ∃ d, n = k.bits + d := ⟨n - k.bits, by omega⟩
  simp only [IntKind.wrap]
  rw [Int.pow_add, show x * ((2:Int) ^ k.bits * 2 ^ d) = (x * 2 ^ d) * 2 ^ k.bits by rw [Int.mul_comm (2 ^ k.bits), Int.mul_assoc], Int.mul_emod_left, Int.mul_emod_left]

theorem run_bin_ii {op : BinOp} {T : TypeId} {k k' : IntKind} {m n : Int} {v : V} {K : V → Prop} (h : binV op (.int k m) (.int k' n) K) :
    ∃ u v, (binOp op T (.int k m) (.int k' n)).run P w = .ok u w ∧ Rel F C.B w v u ∧ K v := by
  cases op <;> simp only [binV] at h
  case add => obtain ⟨rfl, h⟩ := h; exact ⟨.int k (k.wrap (m + n)), _, by simp [binOp, Op.intArith, go_sem], .int _ _, arith_ok h⟩
  case sub => obtain ⟨rfl, h⟩ := h; exact ⟨.int k (k.wrap (m - n)), _, by simp [binOp, Op.intArith, go_sem], .int _ _, arith_ok h⟩
  case mul => obtain ⟨rfl, h⟩ := h; exact ⟨.int k (k.wrap (m * n)), _, by simp [binOp, Op.intArith, go_sem], .int _ _, arith_ok h⟩
  case quo =>
    obtain ⟨rfl, h1, h2, h⟩ := h
    exact ⟨.int k (k.wrap (m.tdiv n)), _, by simp [binOp, Op.intDiv, go_sem, show ¬ n = 0 by omega], .int _ _, by rw [tdiv_pos h1]; exact arith_ok h⟩
  case rem =>
    obtain ⟨rfl, h1, h2, h⟩ := h
    exact ⟨.int k (m.tmod n), _, by simp [binOp, Op.intDiv, go_sem, show ¬ n = 0 by omega], .int _ _, by rw [tmod_pos h1]; exact h⟩
  case and => obtain ⟨rfl, h⟩ := h; exact ⟨.int k (k.wrap (BitVec.ofInt k.bits m &&& BitVec.ofInt k.bits n).toNat), _, by simp only [binOp, ne_eq, not_true, ↓reduceIte, Op.intBits]; rfl, .int _ _, h⟩
  case or => obtain ⟨rfl, h⟩ := h; exact ⟨.int k (k.wrap (BitVec.ofInt k.bits m ||| BitVec.ofInt k.bits n).toNat), _, by simp only [binOp, ne_eq, not_true, ↓reduceIte, Op.intBits]; rfl, .int _ _, h⟩
  case xor => obtain ⟨rfl, h⟩ := h; exact ⟨.int k (k.wrap (BitVec.ofInt k.bits m ^^^ BitVec.ofInt k.bits n).toNat), _, by simp only [binOp, ne_eq, not_true, ↓reduceIte, Op.intBits]; rfl, .int _ _, h⟩
  case shl =>
    obtain ⟨h1, h2, h⟩ := h
    refine ⟨.int k (k.wrap (m * 2 ^ min n.toNat k.bits)), _, by simp only [binOp, Op.shift]; rw [if_neg (by omega)]; rfl, .int _ _, ?_⟩
    by_cases hb : n.toNat ≤ k.bits
    · rw [Nat.min_eq_left hb]; exact arith_ok h
    · rw [Nat.min_eq_right (by omega), wrap_shl (n := n.toNat) (by omega)]; exact arith_ok h
  case shr =>
    obtain ⟨h1, h2, h⟩ := h
    refine ⟨.int k (m.fdiv (2 ^ min n.toNat k.bits)), _, by simp only [binOp, Op.shift]; rw [if_neg (by omega)]; rfl, .int _ _, ?_⟩
    rw [Nat.min_eq_left (by omega), fdiv_pos]; exact h
  case lss => obtain ⟨rfl, h⟩ := h; exact ⟨.bool (decide (m < n)), _, by simp [binOp, Op.intCmp, go_sem], .bool _, h⟩
  case leq => obtain ⟨rfl, h⟩ := h; exact ⟨.bool (decide (m ≤ n)), _, by simp [binOp, Op.intCmp, go_sem], .bool _, h⟩
  case gtr => obtain ⟨rfl, h⟩ := h; exact ⟨.bool (decide (n < m)), _, by simp [binOp, Op.intCmp, go_sem], .bool _, h⟩
  case geq => obtain ⟨rfl, h⟩ := h; exact ⟨.bool (decide (n ≤ m)), _, by simp [binOp, Op.intCmp, go_sem], .bool _, h⟩
  case eql =>
    obtain ⟨rfl, h⟩ := h
    refine ⟨.bool (decide (m = n)), _, ?_, .bool _, h⟩
    have e : (m == n) = decide (m = n) := by rw [Bool.eq_iff_iff]; simp
    simp [binOp, Op.intCmp, go_sem, e]
  case neq =>
    obtain ⟨rfl, h⟩ := h
    refine ⟨.bool (decide (m ≠ n)), _, ?_, .bool _, h⟩
    have e : (m == n) = decide (m = n) := by rw [Bool.eq_iff_iff]; simp
    simp [binOp, Op.intCmp, go_sem, e, bne]

theorem run_bin_ss {op : BinOp} {T : TypeId} {m n : List UInt8} {K : V → Prop} (h : binV op (.str m) (.str n) K) :
    ∃ u v, (binOp op T (.string ⟨m.toArray⟩) (.string ⟨n.toArray⟩)).run P w = .ok u w ∧ Rel F C.B w v u ∧ K v := by
  cases op <;> simp only [binV] at h
  case add =>
    refine ⟨.string ⟨(m ++ n).toArray⟩, _, ?_, .str _, h.2⟩
    have h1 := h.1
    unfold I64 at h1
    have e : (⟨m.toArray⟩ : ByteArray) ++ ⟨n.toArray⟩ = ⟨(m ++ n).toArray⟩ := by
      apply ByteArray.ext
      simp
    have hs1 : (⟨m.toArray⟩ : ByteArray).size = m.length := by simp [ByteArray.size]
    have hs2 : (⟨n.toArray⟩ : ByteArray).size = n.length := by simp [ByteArray.size]
    simp only [binOp, Op.stringOp, hs1, hs2, e]
    rw [if_neg (by simp [IntKind.max, IntKind.signed, IntKind.bits]; omega)]
    simp [go_sem]
  case eql =>
    refine ⟨.bool (decide (m = n)), _, ?_, .bool _, h⟩
    simp only [binOp, Op.stringOp, toList_inj]; simp [go_sem]
  case neq =>
    refine ⟨.bool (decide (m ≠ n)), _, ?_, .bool _, h⟩
    simp only [binOp, Op.stringOp, toList_inj]; simp [go_sem]

theorem snd_bin {op : BinOp} {T U : TypeId} {x y : Operand} {vx vy : V} (ho : o.op = .binOp op T x y U) (hs : HSat C F h w) (hx : Rel F C.B w vx (a.eval x)) (hy : Rel F C.B w vy (a.eval y))
    (hK : binV op vx vy fun v => K v h) : o.wp P a w (OpPost C F w a o.dst K) Q := by
  generalize hex : a.eval x = ux at hx
  generalize hey : a.eval y = uy at hy
  cases hx
  case int k m =>
    cases hy
    case int k' n =>
      obtain ⟨u, v, hr, hv, hk⟩ := run_bin_ii (P := P) (C := C) (F := F) (w := w) (T := T) (v := .junk) hK
      exact snd_bin_of ho hs (by rw [hex, hey]; exact run_guard_ii) (by rw [hex, hey]; exact hr) hv hk
    all_goals (cases op <;> simp [binV] at hK)
  case str m =>
    cases hy
    case str n =>
      obtain ⟨u, v, hr, hv, hk⟩ := run_bin_ss (P := P) (C := C) (F := F) (w := w) (T := T) hK
      exact snd_bin_of ho hs (by rw [hex, hey]; exact run_guard_ss) (by rw [hex, hey]; exact hr) hv hk
    all_goals (cases op <;> simp [binV] at hK)
  all_goals (cases op <;> simp [binV] at hK)
end
end Go.Proofs.Ytobngncjflogcaa.AM

set_option linter.unusedVariables false
set_option linter.unusedSimpArgs false
namespace Go.Proofs.Ytobngncjflogcaa.AM
open Go
open Go.BigFrame
section
variable {P : Program} {C : Ctx} {F : Nat → Prop} {w : World} {a : Act} {s : S} {h : Hp} {K : V → Hp → Prop} {Q : Exit → Act → World → Prop} {o : Oper}

theorem size_str (l : List UInt8) : (⟨l.toArray⟩ : ByteArray).size = l.length := by simp [ByteArray.size]

theorem snd_call_of {c : Call} {u : Value} {v : V} {b : Builtin} (ho : o.op = .call c) (hb : c.callee = .builtin b) (hs : HSat C F h w)
    (hr : (builtin b c.argTypes o.type (c.args.map fun | .const _ => true | _ => false) (c.args.map a.eval)).run P w = .ok (.value u) w) (hv : Rel F C.B w v u) (hK : K v h) : o.wp P a w (OpPost C F w a o.dst K) Q := by
  refine wp_pure hs ?_ hv hK
  obtain ⟨callee, args, ats⟩ := c
  cases hb
  unfold execOp
  rw [ho]
  simp only [resolve, Sem.run_bind, Sem.run_pure, Result.andThen_ok, invoke]
  exact hr

theorem snd_call1 {c : Call} {x : Operand} {u ux : Value} {v : V} {b : Builtin} {T : TypeId} (ho : o.op = .call c) (hb : c.callee = .builtin b) (hx : c.args = #[x]) (hT : c.argTypes = #[T]) (hs : HSat C F h w) (he : a.eval x = ux)
    (hr : ∀ ty cs, (builtin b #[T] ty cs #[ux]).run P w = .ok (.value u) w) (hv : Rel F C.B w v u) (hK : K v h) : o.wp P a w (OpPost C F w a o.dst K) Q := by
  refine snd_call_of ho hb hs ?_ hv hK
  simp only [hx, hT, List.map_toArray, List.map_cons, List.map_nil, he]
  exact hr _ _

theorem run_len_str {T : TypeId} (hd : P.underlying T = some .string) (l : List UInt8) (ty : TypeId) (cs : Array Bool) : (builtin .len #[T] ty cs #[.string ⟨l.toArray⟩]).run P w = .ok (.value (.int .i64 l.length)) w := by
  rw [builtin_len]
  simp [Builtin.len_, Sem.run_bind, Sem.run_pure, run_underlying hd, goInt, size_str]
theorem run_len_sl {T e : TypeId} (hd : P.underlying T = some (.slice e)) (b : Option Addr) (n m : Nat) (ty : TypeId) (cs : Array Bool) : (builtin .len #[T] ty cs #[.slice b n m]).run P w = .ok (.value (.int .i64 n)) w := by
  rw [builtin_len]
  simp [Builtin.len_, Sem.run_bind, Sem.run_pure, run_underlying hd, goInt]

theorem snd_lens {c : Call} {x : Operand} {T : TypeId} {vx : V} (ho : o.op = .call c) (hb : c.callee = .builtin .len) (hx : c.args = #[x]) (hT : c.argTypes = #[T]) (hd : P.underlying T = some .string)
    (hs : HSat C F h w) (hv : Rel F C.B w vx (a.eval x)) (hK : lenV true vx fun v => K v h) : o.wp P a w (OpPost C F w a o.dst K) Q := by
  generalize hex : a.eval x = ux at hv
  cases hv
  case str l => exact snd_call1 ho hb hx hT hs hex (run_len_str hd l) (.int _ _) hK
  all_goals (simp [lenV] at hK)
theorem snd_lenl {c : Call} {x : Operand} {T e : TypeId} {vx : V} (ho : o.op = .call c) (hb : c.callee = .builtin .len) (hx : c.args = #[x]) (hT : c.argTypes = #[T]) (hd : P.underlying T = some (.slice e))
    (hs : HSat C F h w) (hv : Rel F C.B w vx (a.eval x)) (hK : lenV false vx fun v => K v h) : o.wp P a w (OpPost C F w a o.dst K) Q := by
  generalize hex : a.eval x = ux at hv
  cases hv
  case slnil t sz => exact snd_call1 ho hb hx hT hs hex (run_len_sl hd _ _ _) (.int _ _) hK
  case sl => exact snd_call1 ho hb hx hT hs hex (run_len_sl hd _ _ _) (.int _ _) hK
  case slemp => exact snd_call1 ho hb hx hT hs hex (run_len_sl hd _ _ _) (.int _ _) hK
  case nilsl => exact snd_call1 ho hb hx hT hs hex (run_len_sl hd _ _ _) (.int _ _) hK
  case ownnil => exact snd_call1 ho hb hx hT hs hex (run_len_sl hd _ _ _) (.int _ _) hK
  case own => exact snd_call1 ho hb hx hT hs hex (run_len_sl hd _ _ _) (.int _ _) hK
  case winemp k b sz lo cap ad =>
    have e : ((0 : Nat) : Int) = lo - lo := by omega
    exact snd_call1 ho hb hx hT hs hex (run_len_sl hd _ _ _) (.int _ _) (show K (.int .i64 ((0 : Nat) : Int)) h from by rw [e]; exact hK)
  case win k b sz cap lo hi c e fr _ _ _ _ h0 h1 => exact snd_call1 ho hb hx hT hs hex (run_len_sl hd _ _ _) (.int _ _) (by rw [Int.toNat_of_nonneg (by omega)]; exact hK)
  all_goals (simp [lenV] at hK)

theorem run_mm (mx : Bool) (k : IntKind) (m n : Int) (ats : Array TypeId) (ty : TypeId) (cs : Array Bool) :
    (builtin (if mx then .max else .min) ats ty cs #[.int k m, .int k n]).run P w = .ok (.value (.int k (if mx then max m n else min m n))) w := by
  cases mx
  · have e : (if n < m then n else m) = min m n := by simp only [Int.min_def]; split <;> split <;> omega
    simp [builtin_min, Builtin.min_, Builtin.min2, Sem.run_bind, Sem.run_pure, e]
  · have e : (if n > m then n else m) = max m n := by simp only [Int.max_def]; split <;> split <;> omega
    simp [builtin_max, Builtin.max_, Builtin.max2, Sem.run_bind, Sem.run_pure, ← e]

theorem snd_mm {c : Call} {x y : Operand} {mx : Bool} {k : IntKind} {m n : Int} (ho : o.op = .call c) (hb : c.callee = .builtin (if mx then .max else .min)) (hx : c.args = #[x, y]) (hs : HSat C F h w)
    (h1 : Rel F C.B w (.int k m) (a.eval x)) (h2 : Rel F C.B w (.int k n) (a.eval y)) (hK : K (.int k (if mx then max m n else min m n)) h) : o.wp P a w (OpPost C F w a o.dst K) Q := by
  generalize hex : a.eval x = ux at h1
  generalize hey : a.eval y = uy at h2
  cases h1
  cases h2
  refine snd_call_of ho hb hs ?_ (.int _ _) hK
  simp only [hx, List.map_toArray, List.map_cons, List.map_nil, hex, hey]
  exact run_mm mx k m n _ _ _

theorem snd_ixs {T : TypeId} {x y : Operand} {l : List UInt8} {k : IntKind} {i : Int} (ho : o.op = .index T x y) (hd : P.underlying T = some .string) (hs : HSat C F h w) (h1 : Rel F C.B w (.str l) (a.eval x)) (h2 : Rel F C.B w (.int k i) (a.eval y))
    (hi : 0 ≤ i) (hl : i < l.length) (hK : K (.int .u8 (l.getD i.toNat 0).toNat) h) : o.wp P a w (OpPost C F w a o.dst K) Q := by
  generalize hex : a.eval x = ux at h1
  generalize hey : a.eval y = uy at h2
  cases h1
  cases h2
  refine wp_pure (u := .int .u8 (l.getD i.toNat 0).toNat) hs ?_ (.int _ _) hK
  generalize a.eval = ρ at *
  have hlt : i.toNat < l.length := by omega
  have e : (⟨l.toArray⟩ : ByteArray)[i.toNat]? = some (l.getD i.toNat 0) := by
    rw [getElem?_pos _ _ (by rw [size_str]; exact hlt)]
    simp [List.getD_eq_getElem?_getD, hlt, ByteArray.getElem_eq_getElem_data]
  simp [execOp, ho, hex, hey, Sem.run_bind, Sem.run_pure, Instr.index, run_underlying hd, asIntOf, hi, e]

theorem isAgg_run {T : TypeId} {b : Bool} (hb : isAggT P T = some b) : (isAgg T).run P w = .ok b w := by
  unfold isAggT at hb
  cases hu : P.underlying T with
  | none => rw [hu] at hb; simp at hb
  | some d =>
    rw [hu] at hb
    cases d <;> simp at hb <;> subst hb <;> simp [isAgg, Sem.run_bind, Sem.run_pure, run_underlying hu]
theorem sizeOf_run {T : TypeId} {n : Nat} (hn : szT P T = some n) : (sizeOf T).run P w = .ok n w := by
  simp only [szT, Option.map_eq_some_iff] at hn
  obtain ⟨i, hi, rfl⟩ := hn
  simp [sizeOf, typeInfo, program, Sem.run_bind, Sem.run_pure, Sem.run, hi]

theorem snd_fldn {T : TypeId} {x : Operand} {j n : Nat} {fs : Array Field} {f : Field} {cs : List V} (ho : o.op = .field T x j) (hd : P.underlying T = some (.struct fs)) (hf : fs[j]? = some f) (hg : isAggT P f.type = some true) (hn : szT P f.type = some n)
    (hs : HSat C F h w) (hx : Rel F C.B w (.agg cs) (a.eval x)) (hl : f.offset + n ≤ cs.length) (hK : K (.agg ((cs.drop f.offset).take n)) h) : o.wp P a w (OpPost C F w a o.dst K) Q := by
  generalize hex : a.eval x = ux at hx
  cases hx with
  | agg _ us hsz hr =>
    refine wp_pure (u := .agg (us.extract f.offset (f.offset + n))) hs ?_ (.agg _ _ (by simp; omega) fun i v u hv hu => ?_) hK
    · generalize a.eval = ρ at *
      simp [execOp, ho, hex, Sem.run_bind, Sem.run_pure, Instr.field, run_underlying hd, hf, part, asAgg, isAgg_run hg, sizeOf_run hn]
    · simp only [List.getElem?_take, List.getElem?_drop] at hv
      split at hv
      · refine hr _ v u hv ?_
        simp only [Array.getElem?_extract] at hu
        split at hu
        · exact hu
        · simp at hu
      · simp at hv
theorem snd_fld1 {T : TypeId} {x : Operand} {j : Nat} {fs : Array Field} {f : Field} {cs : List V} (ho : o.op = .field T x j) (hd : P.underlying T = some (.struct fs)) (hf : fs[j]? = some f) (hg : isAggT P f.type = some false)
    (hs : HSat C F h w) (hx : Rel F C.B w (.agg cs) (a.eval x)) (hl : f.offset < cs.length) (hK : K (cs.getD f.offset .junk) h) : o.wp P a w (OpPost C F w a o.dst K) Q := by
  generalize hex : a.eval x = ux at hx
  cases hx with
  | agg _ us hsz hr =>
    have hl' : f.offset < us.size := by omega
    refine wp_pure (u := us[f.offset]) hs ?_ (hr f.offset _ _ (by simp [List.getD_eq_getElem?_getD, hl]) (by simp [hl'])) hK
    generalize a.eval = ρ at *
    simp [execOp, ho, hex, Sem.run_bind, Sem.run_pure, Instr.field, run_underlying hd, hf, part, asAgg, isAgg_run hg, hl']

theorem add_off {b off n : Nat} : (⟨b, off, none⟩ : Addr).add n = ⟨b, off + n, none⟩ := by
  unfold Addr.add
  split
  · subst_vars; rfl
  · rfl

theorem snd_faddr {T : TypeId} {x : Operand} {j n : Nat} {fs : Array Field} {f : Field} {u : Value} {v : V} {b off : Nat} (ho : o.op = .fieldAddr T x j) (hd : P.underlying T = some (.struct fs)) (hf : fs[j]? = some f) (hn : szT P f.type = some n) (hn0 : n ≠ 0)
    (hs : HSat C F h w) (hx : a.eval x = .pointer (some ⟨b, off, none⟩)) (hv : Rel F C.B w v (.pointer (some ⟨b, off + f.offset, none⟩))) (hK : K v h) : o.wp P a w (OpPost C F w a o.dst K) Q := by
  refine wp_pure hs ?_ hv hK
  generalize a.eval = ρ at *
  simp [execOp, ho, hx, Sem.run_bind, Sem.run_pure, Instr.fieldAt, run_underlying hd, hf, Instr.sureAddr, fieldPlace, sizeOf_run hn, hn0, add_off]

theorem snd_iaddr {T e : TypeId} {x y : Operand} {n : Nat} {v : V} {k : IntKind} {i : Int} {b off len cap : Nat} (ho : o.op = .indexAddr T x y) (hd : P.underlying T = some (.slice e)) (hn : szT P e = some n)
    (hs : HSat C F h w) (hx : a.eval x = .slice (some ⟨b, off, none⟩) len cap) (hy : a.eval y = .int k i) (h0 : 0 ≤ i) (hl : i < len) (hv : Rel F C.B w v (.pointer (some ⟨b, off + i.toNat * n, none⟩))) (hK : K v h) : o.wp P a w (OpPost C F w a o.dst K) Q := by
  refine wp_pure hs ?_ hv hK
  generalize a.eval = ρ at *
  simp [execOp, ho, hx, hy, Sem.run_bind, Sem.run_pure, Instr.indexAt, run_underlying hd, asIntOf, h0, hl, sizeOf_run hn, add_off]

theorem snd_iarr {T e : TypeId} {x y : Operand} {n : Nat} {v : V} {k : IntKind} {i : Int} {b off len : Nat} (ho : o.op = .indexAddr T x y) (hd : P.underlying T = some (.array len e)) (hn : szT P e = some n)
    (hs : HSat C F h w) (hx : a.eval x = .pointer (some ⟨b, off, none⟩)) (hy : a.eval y = .int k i) (h0 : 0 ≤ i) (hl : i < len) (hv : Rel F C.B w v (.pointer (some ⟨b, off + i.toNat * n, none⟩))) (hK : K v h) : o.wp P a w (OpPost C F w a o.dst K) Q := by
  refine wp_pure hs ?_ hv hK
  generalize a.eval = ρ at *
  simp [execOp, ho, hx, hy, Sem.run_bind, Sem.run_pure, Instr.indexAt, run_underlying hd, Instr.sureAddr, asIntOf, h0, hl, sizeOf_run hn, add_off]

theorem run_bound {k : IntKind} {i : Int} {y : Nat} {c : BoundsCode} (h0 : 0 ≤ i) (h1 : i ≤ y) : (Instr.sliceBound (.int k i) y c).run P w = .ok i.toNat w := by
  simp [Instr.sliceBound, Sem.run_bind, Sem.run_pure, asIntOf, h0, h1]

/-- the bounds of a slice expression, of values -/
theorem run_bounds {isS : Bool} {len cap : Nat} {lo hi : Option Value} {l r : Int} (hl : (lo = none ∧ l = 0) ∨ ∃ k, lo = some (.int k l)) (hh : (hi = none ∧ r = len) ∨ ∃ k, hi = some (.int k r)) (h0 : 0 ≤ l) (h1 : l ≤ r) (h2 : r ≤ len) (hc : len ≤ cap) :
    (Instr.sliceBounds isS len cap lo hi none).run P w = .ok (l.toNat, r.toNat, cap) w := by
  have h0' : 0 ≤ r := by omega
  have h2' : r ≤ cap := by omega
  have h1' : l ≤ (r.toNat : Int) := by omega
  rcases hl with ⟨rfl, rfl⟩ | ⟨k, rfl⟩ <;> rcases hh with ⟨rfl, rfl⟩ | ⟨k', rfl⟩
  · simp [Instr.sliceBounds, Sem.run_bind, Sem.run_pure]
  · simp [Instr.sliceBounds, Sem.run_bind, Sem.run_pure, run_bound h0' h2']
  · simp [Instr.sliceBounds, Sem.run_bind, Sem.run_pure, run_bound (y := len) h0 h1]
  · simp [Instr.sliceBounds, Sem.run_bind, Sem.run_pure, run_bound h0' h2', run_bound h0 h1']

theorem lo_rel {lo : Option Operand} {lo' : Option Opd} {l : Int} {Kk : Int → Prop} (ht : trXo lo = some lo') (hr : ∀ i : Nat, Rel F C.B w (s.t i) (a.tmps.getD i undef)) (h : loV (lo'.map (Opd.ev s)) Kk) :
    ∃ l, Kk l ∧ ((lo.map a.eval = none ∧ l = 0) ∨ ∃ k, lo.map a.eval = some (.int k l)) := by
  cases lo with
  | none => simp [trXo] at ht; subst ht; exact ⟨0, h, .inl ⟨rfl, rfl⟩⟩
  | some x =>
    simp only [trXo, Option.map_eq_some_iff] at ht
    obtain ⟨y, hy, rfl⟩ := ht
    have hrel := ev_rel hr hy
    simp only [Option.map_some] at h
    generalize Opd.ev s y = vy at h hrel
    generalize hex : a.eval x = ux at hrel
    cases hrel <;> simp only [loV] at h
    case int k n => exact ⟨n, h, .inr ⟨k, by simp [hex]⟩⟩
    all_goals exact h.elim
theorem hi_rel {hi : Option Operand} {hi' : Option Opd} {len : Nat} {Kk : Int → Prop} (ht : trXo hi = some hi') (hr : ∀ i : Nat, Rel F C.B w (s.t i) (a.tmps.getD i undef)) (h : hiV (hi'.map (Opd.ev s)) len Kk) :
    ∃ l, Kk l ∧ ((hi.map a.eval = none ∧ l = len) ∨ ∃ k, hi.map a.eval = some (.int k l)) := by
  cases hi with
  | none => simp [trXo] at ht; subst ht; exact ⟨len, h, .inl ⟨rfl, rfl⟩⟩
  | some x =>
    simp only [trXo, Option.map_eq_some_iff] at ht
    obtain ⟨y, hy, rfl⟩ := ht
    have hrel := ev_rel hr hy
    simp only [Option.map_some] at h
    generalize Opd.ev s y = vy at h hrel
    generalize hex : a.eval x = ux at hrel
    cases hrel <;> simp only [hiV] at h
    case int k n => exact ⟨n, h, .inr ⟨k, by simp [hex]⟩⟩
    all_goals exact h.elim

theorem snd_slstr {T : TypeId} {x : Operand} {lo hi : Option Operand} {l : List UInt8} {p q : Int} (ho : o.op = .slice T x lo hi none) (hd : P.underlying T = some .string) (hs : HSat C F h w) (hx : Rel F C.B w (.str l) (a.eval x))
    (hlo : (lo.map a.eval = none ∧ p = 0) ∨ ∃ k, lo.map a.eval = some (.int k p)) (hhi : (hi.map a.eval = none ∧ q = l.length) ∨ ∃ k, hi.map a.eval = some (.int k q)) (h0 : 0 ≤ p) (h1 : p ≤ q) (h2 : q ≤ l.length)
    (hK : K (.str ((l.take q.toNat).drop p.toNat)) h) : o.wp P a w (OpPost C F w a o.dst K) Q := by
  generalize hex : a.eval x = ux at hx
  cases hx
  refine wp_pure (u := .string ⟨((l.take q.toNat).drop p.toNat).toArray⟩) hs ?_ (.str _) hK
  generalize a.eval = ρ at *
  have e : (⟨l.toArray⟩ : ByteArray).extract p.toNat q.toNat = ⟨((l.take q.toNat).drop p.toNat).toArray⟩ := by
    apply ByteArray.ext
    apply Array.ext'
    simp [ByteArray.data_extract, List.drop_take]
  have hb := run_bounds (P := P) (w := w) (isS := false) (len := l.length) (cap := l.length) hlo hhi h0 h1 h2 (Nat.le_refl _)
  simp [execOp, ho, hex, Sem.run_bind, Sem.run_pure, Instr.sliceAt, run_underlying hd, Instr.slice, size_str, hb, e]

theorem snd_slown {T e : TypeId} {x : Operand} {lo hi : Option Operand} {n m k : Nat} {bk : Option Nat} {p q : Int} (ho : o.op = .slice T x lo hi none) (hd : P.underlying T = some (.slice e)) (hn : szT P e = some n) (hs : HSat C F h w) (hx : Rel F C.B w (.own k bk n m) (a.eval x))
    (hlo : (lo.map a.eval = none ∧ p = 0) ∨ ∃ k, lo.map a.eval = some (.int k p)) (hhi : (hi.map a.eval = none ∧ q = m) ∨ ∃ k, hi.map a.eval = some (.int k q)) (h0 : 0 ≤ p) (h1 : p ≤ q) (h2 : q ≤ m)
    (hK : K (.win k bk n p q) h) : o.wp P a w (OpPost C F w a o.dst K) Q := by
  generalize hex : a.eval x = ux at hx
  cases hx with
  | ownnil =>
    have hp : p = 0 := by omega
    have hq : q = 0 := by omega
    subst hp hq
    refine wp_pure (u := .slice none 0 0) hs ?_ (.winemp _ _ _ _ _ _) hK
    generalize a.eval = ρ at *
    have hb := run_bounds (P := P) (w := w) (isS := true) (len := 0) (cap := 0) hlo hhi h0 h1 (by omega) (Nat.le_refl _)
    simp [execOp, ho, hex, Sem.run_bind, Sem.run_pure, Instr.sliceAt, run_underlying hd, Instr.slice, hb, sizeOf_run hn]
  | own _ b _ _ cap c e fr hbk hcs hml hcap =>
    have hb := run_bounds (P := P) (w := w) (isS := true) (len := m) (cap := cap) hlo hhi h0 h1 h2 hcap
    by_cases hm : cap = p.toNat
    · have e1 : q = p := by omega
      subst e1
      refine wp_pure (u := .slice (some ⟨b, 0, none⟩) 0 (cap - q.toNat)) hs ?_ (.winemp _ _ _ _ _ _) hK
      generalize a.eval = ρ at *
      simp [execOp, ho, hex, Sem.run_bind, Sem.run_pure, Instr.sliceAt, run_underlying hd, Instr.slice, hb, sizeOf_run hn]
      simp [hm]
    · refine wp_pure (u := .slice (some ⟨b, p.toNat * n, none⟩) (q.toNat - p.toNat) (cap - p.toNat)) hs ?_ ?_ hK
      · generalize a.eval = ρ at *
        simp [execOp, ho, hex, Sem.run_bind, Sem.run_pure, Instr.sliceAt, run_underlying hd, Instr.slice, hb, sizeOf_run hn]
        simp [hm, add_off]
      · have e2 : q.toNat - p.toNat = (q - p).toNat := by omega
        rw [e2]
        have e3 : cap - p.toNat + p.toNat = cap := by omega
        exact .win _ b _ (cap - p.toNat) p q c e fr hbk (by rw [e3]; exact hcs) (by omega) (by omega) h0 h1

theorem snd_slsl {T e : TypeId} {x : Operand} {lo hi : Option Operand} {n : Nat} {t : Bool} {rows : List (List V)} {p q : Int} (ho : o.op = .slice T x lo hi none) (hd : P.underlying T = some (.slice e)) (hn : szT P e = some n) (hs : HSat C F h w) (hx : Rel F C.B w (.sl t n rows) (a.eval x))
    (hlo : (lo.map a.eval = none ∧ p = 0) ∨ ∃ k, lo.map a.eval = some (.int k p)) (hhi : (hi.map a.eval = none ∧ q = rows.length) ∨ ∃ k, hi.map a.eval = some (.int k q)) (h0 : 0 ≤ p) (h1 : p ≤ q) (h2 : q ≤ rows.length)
    (hK : K (.sl t n ((rows.take q.toNat).drop p.toNat)) h) : o.wp P a w (OpPost C F w a o.dst K) Q := by
  generalize hex : a.eval x = ux at hx
  cases hx with
  | slnil t sz =>
    have hp : p = 0 := by simp at h2; omega
    have hq : q = 0 := by simp at h2; omega
    subst hp hq
    simp only [List.take_nil, List.drop_nil] at hK
    refine wp_pure (u := .slice none 0 0) hs ?_ (.slnil _ _) hK
    generalize a.eval = ρ at *
    have hb := run_bounds (P := P) (w := w) (isS := true) (len := 0) (cap := 0) hlo hhi h0 h1 (by omega) (Nat.le_refl _)
    simp [execOp, ho, hex, Sem.run_bind, Sem.run_pure, Instr.sliceAt, run_underlying hd, Instr.slice, hb, sizeOf_run hn]
  | slemp t sz ad cap =>
    have hp : p = 0 := by simp at h2; omega
    have hq : q = 0 := by simp at h2; omega
    subst hp hq
    simp only [List.take_nil, List.drop_nil] at hK
    refine wp_pure (u := .slice (some ad) 0 cap) hs ?_ (.slemp _ _ _ _) hK
    generalize a.eval = ρ at *
    have hb := run_bounds (P := P) (w := w) (isS := true) (len := 0) (cap := cap) hlo hhi h0 h1 (by omega) (Nat.zero_le _)
    have h00 : ad.add 0 = ad := by simp [Addr.add]
    by_cases hcz : cap = 0 <;> simp [execOp, ho, hex, Sem.run_bind, Sem.run_pure, Instr.sliceAt, run_underlying hd, Instr.slice, hb, sizeOf_run hn, h00]
  | sl _ _ _ b off cap us hF hcap hsz hc hr =>
    have hb := run_bounds (P := P) (w := w) (isS := true) (len := rows.length) (cap := cap) hlo hhi h0 h1 h2 hcap
    have hlen : ((rows.take q.toNat).drop p.toNat).length = q.toNat - p.toNat := by simp; omega
    by_cases hm : cap = p.toNat
    · refine wp_pure (u := .slice (some ⟨b, off, none⟩) (q.toNat - p.toNat) (cap - p.toNat)) hs ?_ ?_ hK
      · generalize a.eval = ρ at *
        simp [execOp, ho, hex, Sem.run_bind, Sem.run_pure, Instr.sliceAt, run_underlying hd, Instr.slice, hb, sizeOf_run hn]
        simp [hm]
      · have e0 : (rows.take q.toNat).drop p.toNat = [] := by apply List.eq_nil_of_length_eq_zero; rw [hlen]; omega
        have := Rel.sl (F := F) (B := C.B) (w := w) t n [] b off (cap - p.toNat) us hF (by simp) (by simp) (by simp) (by simp)
        rw [e0]
        have e1 : q.toNat - p.toNat = 0 := by omega
        rw [e1]
        exact this
    · refine wp_pure (u := .slice (some ⟨b, off + p.toNat * n, none⟩) (q.toNat - p.toNat) (cap - p.toNat)) hs ?_ ?_ hK
      · generalize a.eval = ρ at *
        simp [execOp, ho, hex, Sem.run_bind, Sem.run_pure, Instr.sliceAt, run_underlying hd, Instr.slice, hb, sizeOf_run hn]
        simp [hm, add_off]
      · rw [← hlen]
        refine Rel.sl t n _ b (off + p.toNat * n) (cap - p.toNat) (fun i j => us (p.toNat + i) j) hF (by rw [hlen]; omega) (fun r hr' => hsz r (List.mem_of_mem_take (List.mem_of_mem_drop hr'))) (fun i j r v hi hj => ?_) (fun i j r v hi hj => ?_)
        · rw [List.getElem?_drop, List.getElem?_take] at hi
          split at hi
          · have := hc (p.toNat + i) j r v hi hj
            rw [show off + p.toNat * n + (i * n + j) = off + ((p.toNat + i) * n + j) by rw [Nat.add_mul]; omega]
            exact this
          · simp at hi
        · rw [List.getElem?_drop, List.getElem?_take] at hi
          split at hi
          · exact hr (p.toNat + i) j r v hi hj
          · simp at hi
end
end Go.Proofs.Ytobngncjflogcaa.AM

set_option linter.unusedVariables false
set_option linter.unusedSimpArgs false
namespace Go.Proofs.Ytobngncjflogcaa.AM
open Go
open Go.BigFrame
section
variable {P : Program} {C : Ctx} {F : Nat → Prop} {w w' : World} {a : Act} {s : S} {h : Hp} {K : V → Hp → Prop} {Q : Exit → Act → World → Prop} {o : Oper}

theorem ObSat.lt {B : Nat → Prop} {ob : Ob} {b : Nat} (h : ObSat F B w ob) (hb : ob.b = some b) : b < w.heap.size := by
  unfold ObSat at h
  rw [hb] at h
  obtain ⟨c, cap, hc, _⟩ := h
  exact (Array.getElem?_eq_some_iff.1 hc).1

theorem HSat.notB (hC : C.Ok) (hs : HSat C F h w) {k : Nat} {ob : Ob} {b : Nat} (hk : h k = some ob) (hb : ob.b = some b) : ¬ C.B b := by
  intro hB
  have h1 := hC.B b hB
  rcases (hs.live k ob b hk hb).2 with h2 | h2
  · exact h1.2 h2
  · omega

/-- what is known of values stays known while only own objects change -/
theorem HSat.keep (hC : C.Ok) (hs : HSat C F h w) {L : Nat → Prop} (he : Ev L w w') (hL : ∀ b, b < w.heap.size → L b → ∃ k ob, h k = some ob ∧ ob.b = some b) {x : V} {y : Value} (hr : Rel F C.B w x y) : Rel F C.B w' x y := by
  refine Rel.keep he (fun _ _ h => h) (fun _ _ h => .inr h) (fun b hb hFB hLb => ?_) hr (fun b hFB => ?_)
  · obtain ⟨k, ob, hk, hbb⟩ := hL b hb hLb
    rcases hFB with h1 | h1
    · exact (hs.live k ob b hk hbb).1 h1
    · exact hs.notB hC hk hbb h1
  · rcases hFB with h1 | h1
    · exact hs.lt b h1
    · exact Nat.lt_of_lt_of_le (hC.B b h1).1 hs.ev.size

theorem ObSat.keep (hC : C.Ok) (hs : HSat C F h w) {L : Nat → Prop} (he : Ev L w w') (hL : ∀ b, b < w.heap.size → L b → ∃ k ob, h k = some ob ∧ ob.b = some b) {ob : Ob} (ho : ObSat F C.B w ob) (hn : ∀ b, ob.b = some b → ¬ L b) : ObSat F C.B w' ob := by
  unfold ObSat at ho ⊢
  cases hb : ob.b with
  | none => rw [hb] at ho; exact ho
  | some b =>
    rw [hb] at ho
    obtain ⟨c, cap, hc, h1, h2, h3, h4, h5⟩ := ho
    refine ⟨c, cap, (he.same b (Array.getElem?_eq_some_iff.1 hc).1 (hn b hb)).trans hc, h1, h2, h3, h4, fun i j r v hi hj => ?_⟩
    obtain ⟨u, hu, ho, hr⟩ := h5 i j r v hi hj
    exact ⟨u, hu, ho, hs.keep hC he hL hr⟩

/-- one object is new, or is changed -/
theorem HSat.step (hC : C.Ok) (hs : HSat C F h w) {L : Nat → Prop} (he : Ev L w w') {k : Nat} (hL : ∀ b, b < w.heap.size → L b → ∃ ob, h k = some ob ∧ ob.b = some b) {o' : Ob} (ho : ObSat F C.B w' o')
    (hob : ∀ b, o'.b = some b → w.heap.size ≤ b ∨ ∃ ob, h k = some ob ∧ ob.b = some b) : HSat C F (h.put k o') w' := by
  have hL' : ∀ b, b < w.heap.size → L b → ∃ k ob, h k = some ob ∧ ob.b = some b := fun b hb hl => ⟨k, hL b hb hl⟩
  refine ⟨fun k' ob hk => ?_, fun k1 k2 o1 o2 b h1 h2 e1 e2 => ?_, fun k' ob b hk hb => ?_, hs.old, hs.new, fun b hb => Nat.lt_of_lt_of_le (hs.lt b hb) he.size, ?_⟩
  · unfold Hp.put at hk
    split at hk
    · cases hk; exact ho
    · refine ObSat.keep hC hs he hL' (hs.ob k' ob hk) fun b hb hl => ?_
      obtain ⟨ob2, h2, e2⟩ := hL b ((hs.ob k' ob hk).lt hb) hl
      have := hs.inj k' k ob ob2 b hk h2 hb e2
      contradiction
  · unfold Hp.put at h1 h2
    split at h1 <;> split at h2
    · subst_vars; rfl
    · cases h1
      rcases hob b e1 with hge | ⟨ob, hk, hb⟩
      · have := (hs.ob k2 o2 h2).lt e2; omega
      · have := hs.inj k k2 ob o2 b hk h2 hb e2
        omega
    · cases h2
      rcases hob b e2 with hge | ⟨ob, hk, hb⟩
      · have := (hs.ob k1 o1 h1).lt e1; omega
      · have := hs.inj k1 k o1 ob b h1 hk e1 hb
        omega
    · exact hs.inj k1 k2 o1 o2 b h1 h2 e1 e2
  · unfold Hp.put at hk
    split at hk
    · cases hk
      rcases hob b hb with hge | ⟨ob, hk2, hb2⟩
      · refine ⟨fun hF => ?_, .inr (Nat.le_trans hs.ev.size hge)⟩
        have := hs.lt b hF; omega
      · exact hs.live k ob b hk2 hb2
    · exact hs.live k' ob b hk hb
  · refine Ev.weak hs.ev he fun b hb hl => ?_
    obtain ⟨ob, hk, hbb⟩ := hL b (Nat.lt_of_lt_of_le hb hs.ev.size) hl
    rcases (hs.live k ob b hk hbb).2 with h1 | h1
    · exact h1
    · omega

theorem wp_step (hC : C.Ok) {u : Value} {v : V} {k : Nat} {o' : Ob} {L : Nat → Prop} (hs : HSat C F h w) (hrun : (execOp a.eval o).run P w = .ok (.value u) w') (he : Ev L w w') (hL : ∀ b, b < w.heap.size → L b → ∃ ob, h k = some ob ∧ ob.b = some b)
    (hv : Rel F C.B w' v u) (ho : ObSat F C.B w' o') (hob : ∀ b, o'.b = some b → w.heap.size ≤ b ∨ ∃ ob, h k = some ob ∧ ob.b = some b) (hK : K v (h.put k o')) :
    o.wp P a w (OpPost C F w a o.dst K) Q :=
  wp_val hrun ⟨u, v, _, F, rfl, hv, hs.step hC he hL ho hob, fun _ _ hr => hs.keep hC he (fun b hb hl => ⟨k, hL b hb hl⟩) hr, hK⟩

/-- a new row of cells -/
theorem ObSat.new {B : Nat → Prop} {c : Array Value} {e sz : Nat} {rows : List (List V)} (hc : ∀ (i j : Nat) (r : List V) (v : V), rows[i]? = some r → r[j]? = some v → ∃ u, c[i * sz + j]? = some u ∧ u.oneCell' = true ∧ Rel F B (w.alloc (.cells c e)) v u)
    (hsz : ∀ r ∈ rows, r.length = sz) (hcap : c.size = rows.length * sz) (hm : rows.length ≤ maxLen) : ObSat F B (w.alloc (.cells c e)) ⟨some w.heap.size, e, sz, rows⟩ :=
  ⟨c, rows.length, heap_alloc_new w _, hcap, hm, Nat.le_refl _, hsz, hc⟩

theorem zero_run {T : TypeId} {z : List Value} (hz : zeroT P T = some z) : ∃ v : Value, v.cells.toList = z ∧ (zeroValue T).run P w = .ok v w := by
  simp only [zeroT, Option.map_eq_some_iff, Option.bind_eq_some_iff] at hz
  obtain ⟨v, ⟨i, hi, hv⟩, rfl⟩ := hz
  exact ⟨v, rfl, by simp [zeroValue, typeInfo, program, Sem.run_bind, Sem.run_pure, Sem.run, hi, hv]⟩

theorem run_newVar {T : TypeId} {v : Value} : (newVar T v).run P w = .ok ⟨w.heap.size, 0, none⟩ (w.alloc (.cells v.cells T)) := by
  simp [newVar, newRow, newObj, Sem.run_bind, Sem.run_pure, Sem.run]

theorem snd_alloc (hC : C.Ok) {T : TypeId} {z : List Value} {k : Nat} (ho : o.op = .alloc T) (hz : zeroT P T = some z) (hs : HSat C F h w) (h1 : z.all (fun u => u.oneCell') = true)
    (hK : ∀ β : Nat, K (.ptr k (some β) z.length 0 0) (h.put k ⟨some β, T, z.length, [z.map vOf]⟩)) : o.wp P a w (OpPost C F w a o.dst K) Q := by
  obtain ⟨v, hv, hr⟩ := zero_run (w := w) hz
  subst hv
  refine wp_step hC (u := .pointer (some ⟨w.heap.size, 0, none⟩)) (w' := w.alloc (.cells v.cells T)) (L := fun _ => False) hs ?_ (Ev.alloc _ _ _) (fun _ _ h => h.elim) ?_ (ObSat.new (fun i j r v' hi hj => ?_) (by simp) (by simp) (by simp [maxLen])) (fun b hb => ?_) (hK w.heap.size)
  · generalize a.eval = ρ at *
    simp [execOp, ho, Sem.run_bind, Sem.run_pure, Instr.alloc, hr, run_newVar]
  · simpa using Rel.ptr (F := F) (B := C.B) (w := w.alloc (.cells v.cells T)) k w.heap.size v.cells.toList.length 0 0
  · cases i with
    | zero =>
      simp at hi
      subst hi
      simp only [List.getElem?_map, Option.map_eq_some_iff] at hj
      obtain ⟨u, hu, rfl⟩ := hj
      refine ⟨u, by simpa using hu, ?_, rel_vOf _ _ _ _⟩
      exact (List.all_eq_true.1 h1) u (List.mem_of_getElem? hu)
    | succ i => simp at hi
  · left; cases hb; exact Nat.le_refl _

/-- the cells of a value -/
theorem rel_cells {B : Nat → Prop} {v : V} {u : Value} {n : Nat} (hr : Rel F B w v u) (hf : v.fits n) : u.cells.size = n ∧ ∀ (j : Nat) (x : V), v.cells[j]? = some x → ∃ y, u.cells[j]? = some y ∧ y.oneCell' = true ∧ Rel F B w x y := by
  have one : ∀ x y, x.one = true → Rel F B w x y → y.oneCell' = true := by
    intro x y hx hr
    cases hr <;> simp [V.one, Value.oneCell'] at hx ⊢
    exact hx
  obtain ⟨hl, ha⟩ := hf
  have single : v.cells = [v] → u.cells = #[u] → u.cells.size = n ∧ ∀ (j : Nat) (x : V), v.cells[j]? = some x → ∃ y, u.cells[j]? = some y ∧ y.oneCell' = true ∧ Rel F B w x y := by
    intro e1 e2
    rw [e1] at hl ha
    refine ⟨by rw [e2]; simpa using hl, fun j x hj => ?_⟩
    rw [e1] at hj
    cases j with
    | zero =>
      simp at hj
      subst hj
      exact ⟨u, by simp [e2], one _ _ (by simpa using ha) hr, hr⟩
    | succ j => simp at hj
  cases hr with
  | agg cs us hsz hrr =>
    simp only [V.cells] at hl ha ⊢
    refine ⟨by simp only [Value.cells]; omega, fun j x hj => ?_⟩
    have hj' : j < us.size := by have := (List.getElem?_eq_some_iff.1 hj).1; omega
    have := hrr j x us[j] hj (by simp [hj'])
    exact ⟨us[j], by simp [Value.cells, hj'], one _ _ (List.all_eq_true.1 ha x (List.mem_of_getElem? hj)) this, this⟩
  | raw =>
    cases u <;> first | exact single rfl rfl | (simp [V.cells, V.one, Value.oneCell'] at ha)
  | junk => simp [V.cells, V.one] at ha
  | und => simp [V.cells, V.one] at ha
  | tup => simp [V.cells, V.one] at ha
  | _ => exact single rfl rfl

theorem snd_box (hC : C.Ok) {T : TypeId} {x : Operand} {v : V} {n k : Nat} (ho : o.op = .box T x) (hs : HSat C F h w) (hx : Rel F C.B w v (a.eval x)) (hf : v.fits n)
    (hK : ∀ β : Nat, K (.ptr k (some β) n 0 0) (h.put k ⟨some β, T, n, [v.cells]⟩)) : o.wp P a w (OpPost C F w a o.dst K) Q := by
  obtain ⟨h1, h2⟩ := rel_cells hx hf
  refine wp_step hC (u := .pointer (some ⟨w.heap.size, 0, none⟩)) (w' := w.alloc (.cells (a.eval x).cells T)) (L := fun _ => False) hs ?_ (Ev.alloc _ _ _) (fun _ _ h => h.elim) ?_ (ObSat.new (fun i j r v' hi hj => ?_) (by simp [hf.1]) (by simp [h1]) (by simp [maxLen])) (fun b hb => ?_) (hK w.heap.size)
  · generalize a.eval = ρ at *
    simp [execOp, ho, Sem.run_bind, Sem.run_pure, Instr.box, run_newVar]
  · simpa using Rel.ptr (F := F) (B := C.B) (w := w.alloc (.cells (a.eval x).cells T)) k w.heap.size n 0 0
  · cases i with
    | zero =>
      simp at hi
      subst hi
      obtain ⟨y, hy, h1y, hr⟩ := h2 j v' hj
      exact ⟨y, by simpa using hy, h1y, hs.keep hC (Ev.alloc (fun _ => False) _ _) (fun _ _ h => h.elim) hr⟩
    | succ i => simp at hi
  · left; cases hb; exact Nat.le_refl _
end
end Go.Proofs.Ytobngncjflogcaa.AM

set_option linter.unusedVariables false
set_option linter.unusedSimpArgs false
namespace Go.Proofs.Ytobngncjflogcaa.AM
open Go
open Go.BigFrame

theorem splice_get {α : Type} (l vs : List α) (o m : Nat) (h : o + vs.length ≤ l.length) : (l.take o ++ vs ++ l.drop (o + vs.length))[m]? = if m < o then l[m]? else if m < o + vs.length then vs[m - o]? else l[m]? := by
  have hl : (l.take o).length = o := by simp; omega
  by_cases h1 : m < o
  · rw [if_pos h1, List.append_assoc, List.getElem?_append_left (by omega), List.getElem?_take, if_pos h1]
  · rw [if_neg h1]
    by_cases h2 : m < o + vs.length
    · rw [if_pos h2, List.append_assoc, List.getElem?_append_right (by omega), List.getElem?_append_left (by omega), hl]
    · rw [if_neg h2, List.getElem?_append_right (by simp; omega), List.getElem?_drop]
      congr 1
      simp only [List.length_append, hl]
      omega

section
variable {P : Program} {C : Ctx} {F : Nat → Prop} {w w' : World} {a : Act} {s : S} {h : Hp} {K : V → Hp → Prop} {Q : Exit → Act → World → Prop} {o : Oper}

/-- the row of an own object that a pointer leads to -/
theorem rowC_sat (hs : HSat C F h w) {k sz i : Nat} {b : Option Nat} {Kr : Ob → List V → Prop} (hr : rowC h k b sz i Kr) :
    ∃ ob g c cap, h k = some ob ∧ ob.b = b ∧ ob.sz = sz ∧ i < ob.rows.length ∧ Kr ob (ob.rows.getD i []) ∧ b = some g ∧ w.heap[g]? = some (.cells c ob.ty (0, 0)) ∧ c.size = cap * sz ∧ cap ≤ maxLen ∧ ob.rows.length ≤ cap ∧ (ob.rows.getD i []).length = sz ∧ (∀ r ∈ ob.rows, r.length = sz) ∧
      (∀ (i j : Nat) (r : List V) (v : V), ob.rows[i]? = some r → r[j]? = some v → ∃ u, c[i * sz + j]? = some u ∧ u.oneCell' = true ∧ Rel F C.B w v u) := by
  unfold rowC at hr
  cases hk : h k with
  | none => rw [hk] at hr; exact hr.elim
  | some ob =>
    rw [hk] at hr
    obtain ⟨e1, e2, hi, hK⟩ := hr
    have ho := hs.ob k ob hk
    unfold ObSat at ho
    cases hb : ob.b with
    | none => rw [hb] at ho; rw [ho] at hi; simp at hi
    | some g =>
      rw [hb] at ho
      obtain ⟨c, cap, hc, h1, h2, h3, h4, h5⟩ := ho
      subst e2
      refine ⟨ob, g, c, cap, rfl, e1, rfl, hi, hK, by rw [← e1, hb], hc, h1, h2, h3, ?_, h4, h5⟩
      have hm : ob.rows.getD i [] ∈ ob.rows := by simp [List.getD_eq_getElem?_getD, hi]
      exact h4 _ hm

theorem run_load1 {T : TypeId} {ad : Addr} {u : Value} (hg : isAggT P T = some false) (hc : w.cell? ad = some u) : (loadVar T ad).run P w = .ok u w := by
  simp [loadVar, Sem.run_bind, Sem.run_pure, isAgg_run hg, load, Sem.run, hc]
theorem run_loadn {T : TypeId} {ad : Addr} {n : Nat} (hg : isAggT P T = some true) (hn : szT P T = some n) (hc : ∀ j, j < n → ∃ u, w.cell? (ad.add j) = some u) : (loadVar T ad).run P w = .ok (.agg ((List.range n).map fun j => (w.cell? (ad.add j)).getD undef).toArray) w := by
  have := run_loadCells (P := P) w ad n (fun j => (w.cell? (ad.add j)).getD undef) (fun j hj => by obtain ⟨u, hu⟩ := hc j hj; rw [hu]; rfl)
  simp [loadVar, Sem.run_bind, Sem.run_pure, isAgg_run hg, sizeOf_run hn, this]

theorem load1_core {T : TypeId} {vx : V} {ux : Value} {K : V → Prop} (hg : isAggT P T = some false) (hs : HSat C F h w) (hx : Rel F C.B w vx ux) (hK : load1V h vx K) :
    ∃ ad v u, ux = .pointer (some ad) ∧ (loadVar T ad).run P w = .ok u w ∧ Rel F C.B w v u ∧ K v := by
  cases hx with
  | ptr k b sz i off =>
    simp only [load1V] at hK
    obtain ⟨ob, g, c, cap, hk, e1, e2, hi, hN, e3, hc, _, _, _, hl, _, hcells⟩ := rowC_sat hs hK
    cases e3
    obtain ⟨hlt, hk'⟩ := hN
    obtain ⟨u, hu, h1, hr⟩ := hcells i off (ob.rows.getD i []) ((ob.rows.getD i []).getD off .junk) (by simp [List.getD_eq_getElem?_getD, hi]) (by simp only [List.getD_eq_getElem?_getD (l := ob.rows.getD i [])]; rw [List.getElem?_eq_getElem hlt]; rfl)
    have hcell : w.cell? ⟨b, i * sz + off, none⟩ = some u := by rw [cell_of_row w b _ c ob.ty (0, 0) hc]; exact hu
    exact ⟨_, _, u, rfl, run_load1 hg hcell, hr, hk'⟩
  | rp t b off cs us hF hc hr =>
    obtain ⟨hlt, hk'⟩ := hK
    have h0 : cs[0]? = some (cs.getD 0 .junk) := by rw [List.getD_eq_getElem?_getD, List.getElem?_eq_getElem hlt]; rfl
    have hcell := (hc 0 _ h0).1
    rw [Nat.add_zero] at hcell
    exact ⟨_, _, us 0, rfl, run_load1 hg hcell, hr 0 _ h0, hk'⟩
  | _ => exact hK.elim

theorem loadn_core {T : TypeId} {vx : V} {ux : Value} {n : Nat} {K : V → Prop} (hg : isAggT P T = some true) (hn : szT P T = some n) (hs : HSat C F h w) (hx : Rel F C.B w vx ux) (hK : loadnV h n vx K) :
    ∃ ad v u, ux = .pointer (some ad) ∧ (loadVar T ad).run P w = .ok u w ∧ Rel F C.B w v u ∧ K v := by
  have key : ∀ (b off : Nat) (cs : List V), ux = .pointer (some ⟨b, off, none⟩) → cs.length = n → (∀ (j : Nat) (v : V), cs[j]? = some v → ∃ u, w.cell? ⟨b, off + j, none⟩ = some u ∧ Rel F C.B w v u) → K (.agg cs) →
      ∃ ad v u, ux = .pointer (some ad) ∧ (loadVar T ad).run P w = .ok u w ∧ Rel F C.B w v u ∧ K v := by
    intro b off cs hex hl hc hk
    have hcells : ∀ j, j < n → ∃ u, w.cell? ((⟨b, off, none⟩ : Addr).add j) = some u := fun j hj => by
      obtain ⟨u, hu, _⟩ := hc j cs[j] (by simp [hl, hj])
      exact ⟨u, by rw [add_off]; exact hu⟩
    refine ⟨_, .agg cs, _, hex, run_loadn hg hn hcells, .agg _ _ (by simp [hl]) fun i v u hv hu => ?_, hk⟩
    obtain ⟨u', hu', hr⟩ := hc i v hv
    have hi : i < n := by have := (List.getElem?_eq_some_iff.1 hv).1; omega
    simp [hi, add_off, hu'] at hu
    subst hu
    exact hr
  cases hx with
  | ptr k b sz i off =>
    simp only [loadnV] at hK
    obtain ⟨ob, g, c, cap, hk, e1, e2, hi, hN, e3, hc, _, _, _, hl, _, hcells⟩ := rowC_sat hs hK
    cases e3
    obtain ⟨hlt, hk'⟩ := hN
    refine key b (i * sz + off) _ rfl (by simp only [List.length_take, List.length_drop]; omega) (fun j v hj => ?_) hk'
    rw [List.getElem?_take] at hj
    split at hj
    · rw [List.getElem?_drop] at hj
      obtain ⟨u, hu, h1, hr⟩ := hcells i (off + j) (ob.rows.getD i []) v (by simp [List.getD_eq_getElem?_getD, hi]) hj
      exact ⟨u, by rw [cell_of_row w b _ c ob.ty (0, 0) hc, show i * sz + off + j = i * sz + (off + j) by omega]; exact hu, hr⟩
    · cases hj
  | rp t b off cs us hF hc hr =>
    obtain ⟨hlt, hk'⟩ := hK
    refine key b off _ rfl (by simp; omega) (fun j v hj => ?_) hk'
    rw [List.getElem?_take] at hj
    split at hj
    · exact ⟨_, (hc j v hj).1, hr j v hj⟩
    · cases hj
  | _ => exact hK.elim

theorem snd_load1 {T : TypeId} {x : Operand} {vx : V} (ho : o.op = .load T x) (hg : isAggT P T = some false) (hs : HSat C F h w) (hx : Rel F C.B w vx (a.eval x))
    (hK : load1V h vx fun v => K v h) : o.wp P a w (OpPost C F w a o.dst K) Q := by
  obtain ⟨ad, v, u, hu, hr, hv, hk⟩ := load1_core hg hs hx hK
  refine wp_pure hs ?_ hv hk
  generalize a.eval = ρ at *
  simp [execOp, ho, Sem.run_bind, Sem.run_pure, hu, Instr.loadAt, Instr.sureAddr, hr]
theorem snd_loadn {T : TypeId} {x : Operand} {vx : V} {n : Nat} (ho : o.op = .load T x) (hg : isAggT P T = some true) (hn : szT P T = some n) (hs : HSat C F h w) (hx : Rel F C.B w vx (a.eval x))
    (hK : loadnV h n vx fun v => K v h) : o.wp P a w (OpPost C F w a o.dst K) Q := by
  obtain ⟨ad, v, u, hu, hr, hv, hk⟩ := loadn_core hg hn hs hx hK
  refine wp_pure hs ?_ hv hk
  generalize a.eval = ρ at *
  simp [execOp, ho, Sem.run_bind, Sem.run_pure, hu, Instr.loadAt, Instr.sureAddr, hr]

theorem snd_store (hC : C.Ok) {T : TypeId} {x y : Operand} {vx vy : V} {n : Nat} (ho : o.op = .store T x y) (hn : szT P T = some n) (hs : HSat C F h w) (hx : Rel F C.B w vx (a.eval x)) (hy : Rel F C.B w vy (a.eval y))
    (hK : storeV h n vx vy fun h => K .junk h) : o.wp P a w (OpPost C F w a o.dst K) Q := by
  generalize hex : a.eval x = ux at hx
  cases hx with
  | ptr k b sz i off =>
    simp only [storeV] at hK
    obtain ⟨ob, g, c, cap, hk, e1, e2, hi, hN, e3, hc, hcs, hm, hcap, hl, hrows, hcells⟩ := rowC_sat hs hK
    cases e3
    obtain ⟨hlt, hf, hk'⟩ := hN
    subst e2
    obtain ⟨hz, hce⟩ := rel_cells hy hf
    have hvl : vy.cells.length = n := hf.1
    have hmul : (i + 1) * ob.sz ≤ cap * ob.sz := Nat.mul_le_mul_right _ (by omega)
    have hbound : i * ob.sz + off + n ≤ c.size := by rw [hcs]; rw [Nat.add_mul] at hmul; omega
    have hst := run_storeCells_at P b (i * ob.sz + off) ob.ty (a.eval y).cells.toList 0 c w hc (by simp [hz]; exact hbound) (fun u hu => by
      obtain ⟨j, hj⟩ := List.getElem?_of_mem hu
      rw [Array.getElem?_toList] at hj
      have hjn : j < n := by have := (Array.getElem?_eq_some_iff.1 hj).1; omega
      obtain ⟨y', hy', h1, _⟩ := hce j vy.cells[j] (by simp [hvl, hjn])
      rw [hj] at hy'
      cases hy'
      exact h1)
    simp only [Nat.add_zero] at hst
    have hlen : (a.eval y).cells.toList.length = n := by simpa using hz
    have hsize : ((c.toList.take (i * ob.sz + off) ++ (a.eval y).cells.toList ++ c.toList.drop (i * ob.sz + off + (a.eval y).cells.toList.length)).toArray).size = c.size := by
      simp only [List.size_toArray, List.length_append, List.length_take, List.length_drop, Array.length_toList, hz]
      omega
    have hev : Ev (fun x => x = b) w (w.setRow b (c.toList.take (i * ob.sz + off) ++ (a.eval y).cells.toList ++ c.toList.drop (i * ob.sz + off + (a.eval y).cells.toList.length)).toArray) := Ev.setRow rfl hc hsize
    have hL : ∀ x, x < w.heap.size → x = b → ∃ ob, h k = some ob ∧ ob.b = some x := fun x _ hx => ⟨ob, hk, by rw [e1, hx]⟩
    have hstv : (storeVar T ⟨b, i * ob.sz + off, none⟩ (a.eval y)).run P w = .ok () (w.setRow b (c.toList.take (i * ob.sz + off) ++ (a.eval y).cells.toList ++ c.toList.drop (i * ob.sz + off + (a.eval y).cells.toList.length)).toArray) := by
      simp only [storeVar, Sem.run_bind, sizeOf_run hn, Result.andThen_ok, hz, ne_eq, not_true, ↓reduceIte]
      exact hst
    have hrun : (execOp a.eval o).run P w = .ok .skip (w.setRow b (c.toList.take (i * ob.sz + off) ++ (a.eval y).cells.toList ++ c.toList.drop (i * ob.sz + off + (a.eval y).cells.toList.length)).toArray) := by
      unfold execOp
      rw [ho]
      simp only [Instr.storeAt, Instr.sureAddr, Sem.run_bind, Sem.run_pure, Result.andThen_ok, hex, hstv]
    generalize hcc : (c.toList.take (i * ob.sz + off) ++ (a.eval y).cells.toList ++ c.toList.drop (i * ob.sz + off + (a.eval y).cells.toList.length)).toArray = c' at hrun hev hsize
    have hget : ∀ m, c'[m]? = if m < i * ob.sz + off then c[m]? else if m < i * ob.sz + off + n then (a.eval y).cells[m - (i * ob.sz + off)]? else c[m]? := by
      intro m
      subst hcc
      have := splice_get c.toList (a.eval y).cells.toList (i * ob.sz + off) m (by rw [hlen, Array.length_toList]; exact hbound)
      rw [hlen] at this
      simpa [hlen] using this
    have hkeep := fun {x : V} {y : Value} => hs.keep hC (x := x) (y := y) hev (fun x hx he => ⟨k, hL x hx he⟩)
    have hob : ObSat F C.B (w.setRow b c') { ob with rows := ob.rows.set i (splice (ob.rows.getD i []) off vy.cells) } := by
      unfold ObSat
      simp only [e1]
      have hspl : (splice (ob.rows.getD i []) off vy.cells).length = ob.sz := by
        simp only [splice, List.length_append, List.length_take, List.length_drop, hvl]; omega
      refine ⟨c', cap, setRow_heap w b c c' ob.ty (0, 0) hc, by rw [hsize, hcs], hm, by simpa using hcap, fun r hr => ?_, fun i' j r v hi' hj => ?_⟩
      · rcases List.mem_or_eq_of_mem_set hr with hr | rfl
        · exact hrows r hr
        · exact hspl
      · rw [List.getElem?_set] at hi'
        by_cases hii : i = i'
        · subst hii
          simp only [↓reduceIte, hi, Option.some.injEq] at hi'
          subst hi'
          have hj2 : j < ob.sz := by have := (List.getElem?_eq_some_iff.1 hj).1; omega
          have hsp := splice_get (ob.rows.getD i []) vy.cells off j (by rw [hvl]; exact hlt)
          unfold splice at hj
          rw [hsp, hvl] at hj
          rw [hget]
          by_cases h1 : j < off
          · rw [if_pos h1] at hj
            rw [if_pos (by omega)]
            obtain ⟨u, hu, hu1, hr⟩ := hcells i j _ v (by simp [List.getD_eq_getElem?_getD, hi]) hj
            exact ⟨u, hu, hu1, hkeep hr⟩
          · rw [if_neg h1] at hj
            by_cases h2 : j < off + n
            · rw [if_pos h2] at hj
              rw [if_neg (by omega), if_pos (by omega), show i * ob.sz + j - (i * ob.sz + off) = j - off by omega]
              obtain ⟨u, hu, hu1, hr⟩ := hce (j - off) v hj
              exact ⟨u, hu, hu1, hkeep hr⟩
            · rw [if_neg h2] at hj
              rw [if_neg (by omega), if_neg (by omega)]
              obtain ⟨u, hu, hu1, hr⟩ := hcells i j _ v (by simp [List.getD_eq_getElem?_getD, hi]) hj
              exact ⟨u, hu, hu1, hkeep hr⟩
        · simp only [hii, ↓reduceIte] at hi'
          have hj2 : j < ob.sz := by
            have h1 := (List.getElem?_eq_some_iff.1 hj).1
            have := hrows r (List.mem_of_getElem? hi')
            omega
          obtain ⟨u, hu, hu1, hr⟩ := hcells i' j r v hi' hj
          refine ⟨u, ?_, hu1, hkeep hr⟩
          rw [hget]
          rcases Nat.lt_or_gt_of_ne hii with hlt' | hgt'
          · have hm2 : (i + 1) * ob.sz ≤ i' * ob.sz := Nat.mul_le_mul_right _ hlt'
            rw [Nat.add_mul] at hm2
            rw [if_neg (by omega), if_neg (by omega)]
            exact hu
          · have hm2 : (i' + 1) * ob.sz ≤ i * ob.sz := Nat.mul_le_mul_right _ hgt'
            rw [Nat.add_mul] at hm2
            rw [if_pos (by omega)]
            exact hu
    unfold Oper.wp
    rw [hrun]
    exact ⟨undef, .junk, _, F, rfl, .junk _, hs.step hC hev hL hob (fun b' hb' => .inr ⟨ob, hk, hb'⟩), fun _ _ hr => hkeep hr, hk'⟩
  | _ => exact hK.elim
end
end Go.Proofs.Ytobngncjflogcaa.AM

set_option linter.unusedVariables false
set_option linter.unusedSimpArgs false
namespace Go.Proofs.Ytobngncjflogcaa.AM
open Go
open Go.BigFrame
section
variable {P : Program} {C : Ctx} {F : Nat → Prop} {w w' : World} {a : Act} {s : S} {h : Hp} {K : V → Hp → Prop} {Q : Exit → Act → World → Prop} {o : Oper}

/-- the cells of some rows -/
structure Flat (F B : Nat → Prop) (w : World) (sz : Nat) (rows : List (List V)) (us : List Value) : Prop where
  len : us.length = rows.length * sz
  all : ∀ r ∈ rows, r.length = sz
  one : ∀ u ∈ us, u.oneCell' = true
  rel : ∀ (i j : Nat) (r : List V) (v : V), rows[i]? = some r → r[j]? = some v → ∃ u, us[i * sz + j]? = some u ∧ Rel F B w v u

theorem idx_lt {i j sz n : Nat} (hi : i < n) (hj : j < sz) : i * sz + j < n * sz := by
  have : (i + 1) * sz ≤ n * sz := Nat.mul_le_mul_right _ hi
  rw [Nat.add_mul] at this
  omega
theorem idx_split {m n sz : Nat} (h : m < n * sz) : m / sz < n ∧ m % sz < sz ∧ m / sz * sz + m % sz = m := by
  have hsz : 0 < sz := by rcases Nat.eq_zero_or_pos sz with rfl | h' <;> simp_all
  exact ⟨Nat.div_lt_of_lt_mul (by rw [Nat.mul_comm]; exact h), Nat.mod_lt _ hsz, by rw [Nat.mul_comm]; exact Nat.div_add_mod m sz⟩

theorem Flat.of_fn {F B : Nat → Prop} {sz : Nat} {rows : List (List V)} (f : Nat → Value) (hsz : ∀ r ∈ rows, r.length = sz)
    (h : ∀ (i j : Nat) (r : List V) (v : V), rows[i]? = some r → r[j]? = some v → (f (i * sz + j)).oneCell' = true ∧ Rel F B w v (f (i * sz + j))) :
    Flat F B w sz rows ((List.range (rows.length * sz)).map f) := by
  refine ⟨by simp, hsz, fun u hu => ?_, fun i j r v hi hj => ?_⟩
  · simp only [List.mem_map, List.mem_range] at hu
    obtain ⟨m, hm, rfl⟩ := hu
    obtain ⟨h1, h2, h3⟩ := idx_split hm
    have hr : rows[m / sz]? = some rows[m / sz] := List.getElem?_eq_getElem h1
    have hl := hsz rows[m / sz] (List.getElem_mem h1)
    have := (h (m / sz) (m % sz) _ (rows[m / sz])[m % sz] hr (List.getElem?_eq_getElem (by omega))).1
    rwa [h3] at this
  · have h1 := (List.getElem?_eq_some_iff.1 hi).1
    have hl := hsz r (List.mem_of_getElem? hi)
    have h2 := (List.getElem?_eq_some_iff.1 hj).1
    exact ⟨f (i * sz + j), by simp [idx_lt h1 (by omega : j < sz)], (h i j r v hi hj).2⟩

/-- the rows that a slice holds, as cells in memory -/
theorem rows_flat (hs : HSat C F h w) {sz : Nat} {v : V} {u : Value} {rows : List (List V)} (hv : Rel F C.B w v u) (hr : rowsOf h sz v = some rows) :
    (rows = [] ∧ u = .slice none 0 0) ∨ ∃ ad cap us, u = .slice (some ad) rows.length cap ∧ Flat F C.B w sz rows us ∧ ∀ (j : Nat) (x : Value), us[j]? = some x → w.cell? (ad.add j) = some x := by
  cases hv with
  | slnil t sz' => simp [rowsOf] at hr; exact .inl ⟨hr.2, rfl⟩
  | slemp t sz' ad cap => simp [rowsOf] at hr; exact .inr ⟨ad, cap, [], by rw [hr.2]; rfl, by rw [hr.2]; exact ⟨by simp, by simp, by simp, by simp⟩, by simp⟩
  | nilsl => simp [rowsOf] at hr; exact .inl ⟨hr, rfl⟩
  | sl t sz' rows' b off cap us hF hcap hsz hc hrr =>
    simp only [rowsOf] at hr
    by_cases hszz : sz' = sz
    · rw [if_pos hszz] at hr
      cases hr
      subst hszz
      refine .inr ⟨⟨b, off, none⟩, cap, (List.range (rows.length * sz')).map fun m => (w.cell? ⟨b, off + m, none⟩).getD undef, rfl, Flat.of_fn _ hsz fun i j r v hi hj => ?_, fun j x hj => ?_⟩
      · have := hc i j r v hi hj
        rw [this.1]
        exact ⟨this.2, hrr i j r v hi hj⟩
      · simp only [List.getElem?_map, Option.map_eq_some_iff] at hj
        obtain ⟨m, hm, rfl⟩ := hj
        have hm' := List.getElem?_eq_some_iff.1 hm
        simp at hm'
        obtain ⟨hlt, rfl⟩ := hm'
        obtain ⟨h1, h2, h3⟩ := idx_split hlt
        have hl := hsz rows[j / sz'] (List.getElem_mem h1)
        have := (hc (j / sz') (j % sz') _ (rows[j / sz'])[j % sz'] (List.getElem?_eq_getElem h1) (List.getElem?_eq_getElem (by omega))).1
        rw [h3] at this
        rw [add_off, this]
        rfl
    · rw [if_neg hszz] at hr
      cases hr
  | ownnil k sz' =>
    simp only [rowsOf] at hr
    cases hk : h k with
    | none => simp only [hk] at hr; cases hr
    | some ob =>
      simp only [hk] at hr
      by_cases hc : ob.b = none ∧ ob.sz = sz ∧ sz' = sz ∧ 0 ≤ ob.rows.length
      · rw [if_pos hc] at hr; cases hr; exact .inl ⟨by simp, rfl⟩
      · rw [if_neg hc] at hr; cases hr
  | own k b sz' n cap c e fr hb hcs hm hn =>
    simp only [rowsOf] at hr
    cases hk : h k with
    | none => simp only [hk] at hr; cases hr
    | some ob =>
      simp only [hk] at hr
      by_cases hc : ob.b = some b ∧ ob.sz = sz ∧ sz' = sz ∧ n ≤ ob.rows.length
      · rw [if_pos hc] at hr
        obtain ⟨e1, e2, e3, e4⟩ := hc
        cases hr
        subst e3
        have ho := hs.ob k ob hk
        unfold ObSat at ho
        rw [e1] at ho
        obtain ⟨c', cap', hc', h1, h2, h3, h4, h5⟩ := ho
        rw [hb] at hc'
        cases hc'
        subst e2
        have hlen : (ob.rows.take n).length = n := by simp; omega
        refine .inr ⟨⟨b, 0, none⟩, cap, (List.range ((ob.rows.take n).length * ob.sz)).map fun m => (c[m]?).getD undef, by rw [hlen], Flat.of_fn _ (fun r hr => h4 r (List.mem_of_mem_take hr)) fun i j r v hi hj => ?_, fun j x hj => ?_⟩
        · rw [List.getElem?_take] at hi
          split at hi
          · obtain ⟨u, hu, h1u, hru⟩ := h5 i j r v hi hj
            rw [hu]
            exact ⟨h1u, hru⟩
          · cases hi
        · simp only [List.getElem?_map, Option.map_eq_some_iff] at hj
          obtain ⟨m, hm', rfl⟩ := hj
          have hm2 := List.getElem?_eq_some_iff.1 hm'
          simp at hm2
          obtain ⟨hlt, rfl⟩ := hm2
          rw [add_off, Nat.zero_add, cell_of_row w b j c ob.ty (0, 0) hb]
          have : j < c.size := by
            rw [hcs]
            refine Nat.lt_of_lt_of_le hlt ?_
            exact Nat.mul_le_mul_right _ (by omega)
          simp [this]
      · rw [if_neg hc] at hr; cases hr
  | _ => simp [rowsOf] at hr

theorem Flat.append {F B : Nat → Prop} {sz : Nat} {r1 r2 : List (List V)} {u1 u2 : List Value} (h1 : Flat F B w sz r1 u1) (h2 : Flat F B w sz r2 u2) : Flat F B w sz (r1 ++ r2) (u1 ++ u2) := by
  refine ⟨by simp [h1.len, h2.len, Nat.add_mul], fun r hr => ?_, fun u hu => ?_, fun i j r v hi hj => ?_⟩
  · rcases List.mem_append.1 hr with h | h
    · exact h1.all r h
    · exact h2.all r h
  · rcases List.mem_append.1 hu with h | h
    · exact h1.one u h
    · exact h2.one u h
  · by_cases hl : i < r1.length
    · rw [List.getElem?_append_left hl] at hi
      obtain ⟨u, hu, hr⟩ := h1.rel i j r v hi hj
      exact ⟨u, by rw [List.getElem?_append_left (List.getElem?_eq_some_iff.1 hu).1]; exact hu, hr⟩
    · rw [List.getElem?_append_right (by omega)] at hi
      obtain ⟨u, hu, hr⟩ := h2.rel (i - r1.length) j r v hi hj
      refine ⟨u, ?_, hr⟩
      have : r1.length * sz ≤ i * sz := Nat.mul_le_mul_right _ (by omega)
      rw [List.getElem?_append_right (by rw [h1.len]; omega), h1.len, show i * sz + j - r1.length * sz = (i - r1.length) * sz + j by rw [Nat.sub_mul]; omega]
      exact hu

theorem Flat.keep {sz : Nat} {rows : List (List V)} {us : List Value} (h : Flat F C.B w sz rows us) (hk : ∀ x y, Rel F C.B w x y → Rel F C.B w' x y) : Flat F C.B w' sz rows us :=
  ⟨h.len, h.all, h.one, fun i j r v hi hj => let ⟨u, hu, hr⟩ := h.rel i j r v hi hj; ⟨u, hu, hk _ _ hr⟩⟩

/-- an own object out of its cells -/
theorem ObSat.of_flat {B : Nat → Prop} {b e sz cap : Nat} {rows : List (List V)} {us : List Value} {c : Array Value} (hc : w.heap[b]? = some (.cells c e (0, 0))) (hs : c.size = cap * sz) (hm : cap ≤ maxLen) (hl : rows.length ≤ cap) (hf : Flat F B w sz rows us)
    (ht : ∀ (m : Nat) (u : Value), us[m]? = some u → c[m]? = some u) : ObSat F B w ⟨some b, e, sz, rows⟩ :=
  ⟨c, cap, hc, hs, hm, hl, hf.all, fun i j r v hi hj => let ⟨u, hu, hr⟩ := hf.rel i j r v hi hj; ⟨u, ht _ _ hu, hf.one u (List.mem_of_getElem? hu), hr⟩⟩

/-- the cells of a live object's rows -/
theorem ob_flat {ob : Ob} {b : Nat} (ho : ObSat F C.B w ob) (hb : ob.b = some b) : ∃ c cap us, w.heap[b]? = some (.cells c ob.ty (0, 0)) ∧ c.size = cap * ob.sz ∧ cap ≤ maxLen ∧ ob.rows.length ≤ cap ∧ Flat F C.B w ob.sz ob.rows us ∧ us = c.toList.take (ob.rows.length * ob.sz) := by
  unfold ObSat at ho
  rw [hb] at ho
  obtain ⟨c, cap, hc, h1, h2, h3, h4, h5⟩ := ho
  have hle : ob.rows.length * ob.sz ≤ c.size := by rw [h1]; exact Nat.mul_le_mul_right _ h3
  have hfl := Flat.of_fn (F := F) (B := C.B) (w := w) (fun m => (c[m]?).getD undef) h4 fun i j r v hi hj => by
    obtain ⟨u, hu, h1u, hru⟩ := h5 i j r v hi hj
    rw [hu]
    exact ⟨h1u, hru⟩
  refine ⟨c, cap, _, hc, h1, h2, h3, hfl, ?_⟩
  apply List.ext_getElem?
  intro m
  rw [List.getElem?_take]
  by_cases hm : m < ob.rows.length * ob.sz
  · rw [if_pos hm]
    have hmc : m < c.size := by omega
    simp [hm, hmc]
  · rw [if_neg hm]
    simp; omega
end
end Go.Proofs.Ytobngncjflogcaa.AM
