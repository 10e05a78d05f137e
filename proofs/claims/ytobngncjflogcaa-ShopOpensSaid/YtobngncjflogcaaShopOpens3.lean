/-
  Texts of the plain machine, put together: what the law ShopOpens reaches.
-/
import Derived.Test.YtobngncjflogcaaShopOpens2
import Derived.Scope
import Derived.Deep.LoopGhost
import Derived.Orders
set_option linter.unusedVariables false
set_option linter.unusedSimpArgs false
namespace Go.Proofs.Ytobngncjflogcaa.AM
open Go

structure Prim where
  add : Int → Int → Int
  sub : Int → Int → Int
  mul : Int → Int → Int
  div : Int → Int → Int
  mod : Int → Int → Int
  shl : Int → Int → Int
  shr : Int → Int → Int
  band : IntKind → Int → Int → Int
  bor : IntKind → Int → Int → Int
  bxor : IntKind → Int → Int → Int
  wrap : IntKind → Int → Int
  mx : Int → Int → Int
  mn : Int → Int → Int
  lt : Int → Int → Bool
  le : Int → Int → Bool
  eq : Int → Int → Bool
  ne : Int → Int → Bool
  sne : List UInt8 → List UInt8 → Bool
  i64 : Int → Prop
  leP : Int → Int → Prop
  ltP : Int → Int → Prop
  bits : IntKind → Int
  nat : Int → Nat
  int : Nat → Int
  slen : List UInt8 → Int
  seq : List UInt8 → List UInt8 → Bool
  sapp : List UInt8 → List UInt8 → List UInt8
  ssub : List UInt8 → Int → Int → List UInt8
  sat : List UInt8 → Int → Int
  rlen : List (List V) → Int
  rsub : List (List V) → Int → Int → List (List V)
  rapp : List (List V) → List (List V) → List (List V)
  rtake : List (List V) → Nat → List (List V)
  rset : List (List V) → Nat → List V → List (List V)
  rrep : Int → List V → List (List V)
  rlenN : List (List V) → Nat
  nadd : Nat → Nat → Nat
  cond : Bool → V → V → V
  and : Bool → Bool → Bool
  beq : Bool → Bool → Bool
  bytes : Int → Int → Prop
  neP : List (List V) → Nat → Prop
  row : List (List V) → Nat → List V → Prop
  bstr : List (List V) → List UInt8 → Prop

def std : Prim where
  add a b := a + b
  sub a b := a - b
  mul a b := a * b
  div a b := a / b
  mod a b := a % b
  shl a b := a * 2 ^ b.toNat
  shr a b := a / 2 ^ b.toNat
  band k a b := k.wrap (BitVec.ofInt k.bits a &&& BitVec.ofInt k.bits b).toNat
  bor k a b := k.wrap (BitVec.ofInt k.bits a ||| BitVec.ofInt k.bits b).toNat
  bxor k a b := k.wrap (BitVec.ofInt k.bits a ^^^ BitVec.ofInt k.bits b).toNat
  wrap k a := k.wrap a
  mx a b := max a b
  mn a b := min a b
  lt a b := decide (a < b)
  le a b := decide (a ≤ b)
  eq a b := decide (a = b)
  ne a b := decide (a ≠ b)
  sne a b := decide (a ≠ b)
  i64 a := I64 a
  leP a b := a ≤ b
  ltP a b := a < b
  bits k := k.bits
  nat a := a.toNat
  int a := a
  slen l := l.length
  seq a b := decide (a = b)
  sapp a b := a ++ b
  ssub l a b := (l.take b.toNat).drop a.toNat
  sat l i := (l.getD i.toNat 0).toNat
  rlen l := l.length
  rsub l a b := (l.take b.toNat).drop a.toNat
  rapp a b := a ++ b
  rtake l n := l.take n
  rset l i r := l.set i r
  rrep n r := List.replicate n.toNat r
  rlenN l := l.length
  nadd a b := a + b
  cond t a b := if t then a else b
  and a b := a && b
  beq a b := a == b
  bytes n b := n * b ≤ 140737488355328
  neP l n := l.length = n
  row l i r := l[i]? = some r
  bstr rows l := rows = l.map fun b => [V.int .u8 b.toNat]

def arithP (p : Prim) (k : IntKind) (n : Int) (K : V → Prop) : Prop :=
  match k with
  | .i64 => p.i64 n ∧ K (.int .i64 n)
  | k => K (.int k (p.wrap k n))
def binP (p : Prim) (op : BinOp) (x y : V) (K : V → Prop) : Prop :=
  match op, x, y with
  | .add, .int k a, .int k' b => k = k' ∧ arithP p k (p.add a b) K
  | .sub, .int k a, .int k' b => k = k' ∧ arithP p k (p.sub a b) K
  | .mul, .int k a, .int k' b => k = k' ∧ arithP p k (p.mul a b) K
  | .quo, .int k a, .int k' b => k = k' ∧ p.leP 0 a ∧ p.ltP 0 b ∧ arithP p k (p.div a b) K
  | .rem, .int k a, .int k' b => k = k' ∧ p.leP 0 a ∧ p.ltP 0 b ∧ K (.int k (p.mod a b))
  | .shl, .int k a, .int _ b => p.leP 0 b ∧ p.ltP b 64 ∧ arithP p k (p.shl a b) K
  | .shr, .int k a, .int _ b => p.leP 0 b ∧ p.ltP b (p.bits k) ∧ K (.int k (p.shr a b))
  | .and, .int k a, .int k' b => k = k' ∧ K (.int k (p.band k a b))
  | .or, .int k a, .int k' b => k = k' ∧ K (.int k (p.bor k a b))
  | .xor, .int k a, .int k' b => k = k' ∧ K (.int k (p.bxor k a b))
  | .lss, .int k a, .int k' b => k = k' ∧ K (.bool (p.lt a b))
  | .leq, .int k a, .int k' b => k = k' ∧ K (.bool (p.le a b))
  | .gtr, .int k a, .int k' b => k = k' ∧ K (.bool (p.lt b a))
  | .geq, .int k a, .int k' b => k = k' ∧ K (.bool (p.le b a))
  | .eql, .int k a, .int k' b => k = k' ∧ K (.bool (p.eq a b))
  | .neq, .int k a, .int k' b => k = k' ∧ K (.bool (p.ne a b))
  | .add, .str a, .str b => p.i64 (p.add (p.slen a) (p.slen b)) ∧ K (.str (p.sapp a b))
  | .eql, .str a, .str b => K (.bool (p.seq a b))
  | .neq, .str a, .str b => K (.bool (p.sne a b))
  | _, _, _ => False
def rowsP (p : Prim) (h : Hp) (sz : Nat) (v : V) (K : List (List V) → Prop) : Prop :=
  match v with
  | .sl _ sz' rows => sz' = sz ∧ K rows
  | .nilsl => K []
  | .own k b sz' n => match h k with
    | some o => o.b = b ∧ o.sz = sz ∧ sz' = sz ∧ p.neP o.rows n ∧ K o.rows
    | none => False
  | _ => False
def lenP (p : Prim) (str : Bool) (x : V) (K : V → Prop) : Prop :=
  match str, x with
  | true, .str l => K (.int .i64 (p.slen l))
  | false, .sl _ _ rows => K (.int .i64 (p.rlen rows))
  | false, .nilsl => K (.int .i64 0)
  | false, .own _ _ _ n => K (.int .i64 (p.int n))
  | false, .win _ _ _ lo hi => K (.int .i64 (p.sub hi lo))
  | _, _ => False
def eqnP (p : Prim) (neg : Bool) (x : V) (K : V → Prop) : Prop := match x with
  | .nilsl => K (.bool (if neg then false else true))
  | .sl _ _ rows => K (.bool (if neg then true else false)) ∧ (p.rlen rows = 0 → K (.bool (if neg then false else true)))
  | _ => False
def hiP (p : Prim) (hi : Option V) (n : Int) (K : Int → Prop) : Prop :=
  match hi with
  | some (.int _ n) => K n
  | none => K n
  | _ => False
/-- names from here on are of arrays; below, of variables -/
def arr : Nat := 1000000
def rowP (p : Prim) (h : Hp) (k : Nat) (b : Option Nat) (sz i : Nat) (K : Ob → List V → Prop) : Prop :=
  match h k with
  | some o => o.b = b ∧ o.sz = sz ∧ (match decide (k < 1000000) with
    | true => match o.rows, i with
      | [r], 0 => K o r
      | _, _ => False
    | false => ∃ r, p.row o.rows i r ∧ K o r)
  | none => False
def setR (p : Prim) (k : Nat) (rows : List (List V)) (i : Nat) (r : List V) : List (List V) := match decide (k < 1000000) with
  | true => [r]
  | false => p.rset rows i r
def load1P (p : Prim) (h : Hp) (x : V) (K : V → Prop) : Prop :=
  match x with
  | .ptr j b sz i off => rowP p h j b sz i fun _ r => nthC r off K
  | .rp _ cs => nthC cs 0 K
  | _ => False
def loadnP (p : Prim) (h : Hp) (n : Nat) (x : V) (K : V → Prop) : Prop :=
  match x with
  | .ptr j b sz i off => rowP p h j b sz i fun _ r => off + n ≤ r.length ∧ K (.agg ((r.drop off).take n))
  | .rp _ cs => n ≤ cs.length ∧ K (.agg (cs.take n))
  | _ => False
def storeP (p : Prim) (h : Hp) (n : Nat) (x v : V) (K : Hp → Prop) : Prop :=
  match x with
  | .ptr j b sz i off => rowP p h j b sz i fun o r => off + n ≤ r.length ∧ v.fits n ∧ K (h.put j ⟨o.b, o.ty, o.sz, setR p j o.rows i (splice r off v.cells)⟩)
  | _ => False
def appendP (p : Prim) (h : Hp) (k ty sz bytes : Nat) (x y : V) (K : V → Hp → Prop) : Prop :=
  rowsP p h sz y fun news => match x with
    | .nilsl => h k = none ∧ p.bytes (p.rlen news) bytes ∧ ∀ β : Option Nat, K (.own k β sz (p.rlenN news)) (h.put k ⟨β, ty, sz, news⟩)
    | .own j b sz' n => match h j with
      | some o => o.b = b ∧ o.sz = sz ∧ sz' = sz ∧ o.ty = ty ∧ p.neP o.rows n ∧ p.bytes (p.add (p.int n) (p.rlen news)) bytes ∧ ∀ β : Option Nat, K (.own j β sz (p.nadd n (p.rlenN news))) (h.put j ⟨β, ty, sz, p.rapp o.rows news⟩)
      | none => False
    | _ => False

def eqC1 (p : Prim) (t : Nat) (x y : V) (K : Bool → Prop) : Prop :=
  match t, x, y with
  | 0, .bool a, .bool b => K (p.beq a b)
  | 1, .int k a, .int k' b => k = k' ∧ K (p.eq a b)
  | 2, .str a, .str b => K (p.seq a b)
  | _, _, _ => False
def eqCs (p : Prim) : List Nat → List V → List V → (Bool → Prop) → Prop
  | [], [], [], K => K true
  | [t], [a], [b], K => eqC1 p t a b K
  | t :: ts, a :: l, b :: m, K => eqC1 p t a b fun x => eqCs p ts l m fun y => K (p.and x y)
  | _, _, _, _ => False
def eqsP (p : Prim) (neg : Bool) (ts : List Nat) (x y : V) (K : V → Prop) : Prop :=
  match x, y with
  | .agg cs, .agg ds => eqCs p ts cs ds fun b => match neg with
    | true => br b (fun _ => K (.bool false)) (fun _ => K (.bool true))
    | false => K (.bool b)
  | _, _ => False
theorem eqC1_std {t : Nat} {x y : V} {K : Bool → Prop} (h : eqC1 std t x y K) : ∃ b, eqCell t x y = some b ∧ K b := by
  unfold eqC1 at h
  split at h
  · exact ⟨_, rfl, h⟩
  · obtain ⟨rfl, h⟩ := h
    exact ⟨_, by simp [eqCell]; rfl, h⟩
  · exact ⟨_, rfl, h⟩
  · exact h.elim
theorem eqCs_std : ∀ {ts : List Nat} {cs ds : List V} {K : Bool → Prop}, eqCs std ts cs ds K → ∃ b, eqCells ts cs ds = some b ∧ K b
  | [], [], [], K, h => ⟨true, rfl, h⟩
  | [t], [a], [b], K, h => by
    simp only [eqCs] at h
    obtain ⟨x, h1, h2⟩ := eqC1_std h
    exact ⟨x, by simp [eqCells, h1], h2⟩
  | t :: t2 :: ts, a :: l, b :: m, K, h => by
    simp only [eqCs] at h
    obtain ⟨x, h1, h2⟩ := eqC1_std h
    obtain ⟨y, h3, h4⟩ := eqCs_std h2
    exact ⟨x && y, by simp only [eqCells, h1]; rw [h3], h4⟩
  | [t], a :: a2 :: l, b :: m, K, h => by
    simp only [eqCs] at h
    obtain ⟨x, h1, h2⟩ := eqC1_std h
    exact h2.elim
  | [t], [a], b :: b2 :: m, K, h => by
    simp only [eqCs] at h
    obtain ⟨x, h1, h2⟩ := eqC1_std h
    exact h2.elim
  | [], _ :: _, _, _, h => by simp [eqCs] at h
  | [], [], _ :: _, _, h => by simp [eqCs] at h
  | _ :: _, [], _, _, h => by simp [eqCs] at h
  | _ :: _, _ :: _, [], _, h => by simp [eqCs] at h
theorem eqsP_std {neg : Bool} {ts : List Nat} {x y : V} {K : V → Prop} (h : eqsP std neg ts x y K) : eqsK neg ts x y K := by
  unfold eqsP at h
  unfold eqsK
  split at h
  · obtain ⟨b, h1, h2⟩ := eqCs_std h
    simp only [h1]
    cases neg
    · exact h2
    · cases b <;> exact h2
  · exact h.elim
def fitsB (n : Nat) (v : V) : Bool := v.cells.length == n && v.cells.all V.one

def aopP (p : Prim) (C : CallT) (op : AOp) (ev : Opd → V) (h : Hp) (k : Nat) (K : V → Hp → Prop) : Prop :=
  match op with
  | .mov x => K (ev x) h
  | .pick c a b => match ev c with
    | .bool true => K (ev a) h
    | .bool false => K (ev b) h
    | _ => False
  | .alloc ty z => h k = none ∧ z.all (fun u => u.oneCell') = true ∧ ∀ β : Nat, K (.ptr k (some β) z.length 0 0) (h.put k ⟨some β, ty, z.length, [z.map vOf]⟩)
  | .box ty n x => h k = none ∧ (ev x).fits n ∧ ∀ β : Nat, K (.ptr k (some β) n 0 0) (h.put k ⟨some β, ty, n, [(ev x).cells]⟩)
  | .build z parts => (parts.all fun q => fitsB q.2.1 (ev q.2.2)) = true ∧ K (.agg (fillV (z.map vOf) (parts.map fun q => (q.1, (ev q.2.2).cells)))) h
  | .bslice ty sz parts => h (arr + k) = none ∧ (parts.all fun q => fitsB sz (ev q)) = true ∧ ∀ β : Nat, K (.own (arr + k) (some β) sz parts.length) (h.put (arr + k) ⟨some β, ty, sz, parts.map fun q => (ev q).cells⟩)
  | .load1 x => load1P p h (ev x) fun v => K v h
  | .loadn n x => loadnP p h n (ev x) fun v => K v h
  | .store n x v => storeP p h n (ev x) (ev v) fun h => K .junk h
  | .nilchk x => match ev x with
    | .ptr .. | .rp .. => K (ev x) h
    | _ => False
  | .bin op x y => binP p op (ev x) (ev y) fun v => K v h
  | .eqb neg x y => eqbK neg (ev x) (ev y) fun v => K v h
  | .eqp neg x y => eqpK neg (ev x) (ev y) fun v => K v h
  | .eqn neg x => eqnP p neg (ev x) fun v => K v h
  | .eqs neg ts x y => eqsP p neg ts (ev x) (ev y) fun v => K v h
  | .not x => match ev x with
    | .bool b => br b (fun _ => K (.bool false) h) (fun _ => K (.bool true) h)
    | _ => False
  | .conv kd x => match ev x with
    | .int _ n => K (.int kd (p.wrap kd n)) h
    | _ => False
  | .mkslice ty sz bytes z l c => match ev l, ev c with
    | .int _ n, .int _ m => h (arr + k) = none ∧ p.leP 0 n ∧ m = n ∧ z.length = sz ∧ z.all (fun u => u.oneCell') = true ∧ p.bytes n bytes ∧ p.leP n 140737488355328 ∧ ∀ β : Nat, K (.own (arr + k) (some β) sz (p.nat n)) (h.put (arr + k) ⟨some β, ty, sz, p.rrep n (z.map vOf)⟩)
    | _, _ => False
  | .slstr x lo hi => match ev x with
    | .str l => loV (lo.map ev) fun a => hiP p (hi.map ev) (p.slen l) fun b => p.leP 0 a ∧ p.leP a b ∧ p.leP b (p.slen l) ∧ K (.str (p.ssub l a b)) h
    | _ => False
  | .slsl sz x lo hi => match ev x with
    | .sl t sz' rows => sz' = sz ∧ loV (lo.map ev) fun a => hiP p (hi.map ev) (p.rlen rows) fun b => p.leP 0 a ∧ p.leP a b ∧ p.leP b (p.rlen rows) ∧ K (.sl t sz (p.rsub rows a b)) h
    | .own j bk sz' n => sz' = sz ∧ loV (lo.map ev) fun a => hiP p (hi.map ev) (p.int n) fun b => p.leP 0 a ∧ p.leP a b ∧ p.leP b (p.int n) ∧ K (.win j bk sz a b) h
    | _ => False
  | .faddr off x => match ev x with
    | .ptr j b sz i o => K (.ptr j b sz i (o + off)) h
    | .rp t cs => K (.rp t (cs.drop off)) h
    | _ => False
  | .fld1 off x => match ev x with
    | .agg cs => nthC cs off fun v => K v h
    | _ => False
  | .fldn off n x => match ev x with
    | .agg cs => off + n ≤ cs.length ∧ K (.agg ((cs.drop off).take n)) h
    | _ => False
  | .iaddr sz x i => match ev x, ev i with
    | .sl t sz' rows, .int _ i => sz' = sz ∧ p.leP 0 i ∧ ∃ r, p.row rows (p.nat i) r ∧ K (.rp t r) h
    | .own j b sz' n, .int _ i => sz' = sz ∧ p.leP 0 i ∧ p.ltP i (p.int n) ∧ K (.ptr j b sz (p.nat i) 0) h
    | .win j b sz' lo hi, .int _ i => sz' = sz ∧ p.leP 0 i ∧ p.ltP i (p.sub hi lo) ∧ K (.ptr j b sz (p.nat (p.add lo i)) 0) h
    | _, _ => False
  | .iarr len sz x i => match ev x, ev i with
    | .ptr j b sz' r off, .int _ i => p.leP 0 i ∧ p.ltP i len ∧ ∃ n : Nat, p.nat i = n ∧ K (.ptr j b sz' r (off + n * sz)) h
    | .rp t cs, .int _ i => p.leP 0 i ∧ p.ltP i len ∧ ∃ n : Nat, p.nat i = n ∧ K (.rp t (cs.drop (n * sz))) h
    | _, _ => False
  | .ixs x i => match ev x, ev i with
    | .str l, .int _ i => p.leP 0 i ∧ p.ltP i (p.slen l) ∧ K (.int .u8 (p.sat l i)) h
    | _, _ => False
  | .ext i x => match ev x with
    | .tup vs => i < vs.length ∧ K (vs.getD i .junk) h
    | _ => False
  | .len str x => lenP p str (ev x) fun v => K v h
  | .mm mx x y => match mx, ev x, ev y with
    | true, .int k a, .int k' b => k = k' ∧ K (.int k (p.mx a b)) h
    | false, .int k a, .int k' b => k = k' ∧ K (.int k (p.mn a b)) h
    | _, _, _ => False
  | .append ty sz bytes x y => appendP p h (arr + k) ty sz bytes (ev x) (ev y) K
  | .call f args => C f (args.map ev) h K
  | .callv x args => match ev x with
    | .fn f caps => C f (args.map ev ++ caps) h K
    | _ => False
  | .mkfn f caps => K (.fn f (caps.map ev)) h
  | .convbs x => rowsP p h 1 (ev x) fun rows => ∃ l, p.bstr rows l ∧ K (.str l) h
  | .dead => False
  | .ixa g len sz x i => match ev x, ev i with
    | .agg cs, .int _ i => p.leP 0 i ∧ p.ltP i len ∧ Nat.ble (len * sz) cs.length = true ∧ Nat.ble 1 sz = true ∧ ∃ n : Nat, p.nat i = n ∧ (match g with
      | true => K (.agg ((cs.drop (n * sz)).take sz)) h
      | false => K (cs.getD (n * sz) .junk) h)
    | _, _ => False

/-- the name that an operation gives to what it makes -/
def keyOf (op : AOp) (k : Nat) : Nat := match op with
  | .bslice .. | .mkslice .. | .append .. => arr + k
  | _ => k

theorem arithP_std {k : IntKind} {n : Int} {K : V → Prop} : arithP std k n K = arith k n K := by cases k <;> rfl
theorem binP_imp {op : BinOp} {x y : V} {K : V → Prop} (h : binP std op x y K) : binV op x y K := by
  cases x <;> cases y <;> try (cases op <;> exact h.elim)
  case int.int k a k' b =>
    cases op <;> simp only [binP, binV, arithP_std] at h ⊢ <;> exact h
  case str.str a b =>
    cases op <;> simp only [binP, binV] at h ⊢ <;> exact h

theorem row_get {rows : List (List V)} {i : Nat} {r : List V} (h : rows[i]? = some r) : i < rows.length ∧ rows.getD i [] = r := by
  obtain ⟨h1, h2⟩ := List.getElem?_eq_some_iff.1 h
  exact ⟨h1, by rw [List.getD_eq_getElem?_getD, h]; rfl⟩
theorem rowP_imp {h : Hp} {k sz i : Nat} {b : Option Nat} {K : Ob → List V → Prop} (hh : rowP std h k b sz i K) : rowC h k b sz i K := by
  unfold rowP at hh
  unfold rowC
  cases hk : h k with
  | none => rw [hk] at hh; exact hh.elim
  | some o =>
    rw [hk] at hh
    obtain ⟨h1, h2, h3⟩ := hh
    refine ⟨h1, h2, ?_⟩
    split at h3
    · split at h3
      · rename_i r heq
        rw [heq]
        exact ⟨by simp, by simpa using h3⟩
      · exact h3.elim
    · obtain ⟨r, hr, h4⟩ := h3
      obtain ⟨g1, g2⟩ := row_get hr
      exact ⟨g1, by rw [g2]; exact h4⟩
theorem load1P_imp {h : Hp} {x : V} {K : V → Prop} (hh : load1P std h x K) : load1V h x K := by
  cases x <;> first | exact hh | exact rowP_imp hh
theorem loadnP_imp {h : Hp} {n : Nat} {x : V} {K : V → Prop} (hh : loadnP std h n x K) : loadnV h n x K := by
  cases x <;> first | exact hh | exact rowP_imp hh
theorem storeP_imp {h : Hp} {n : Nat} {x v : V} {K : Hp → Prop} (hh : storeP std h n x v K) : storeV h n x v K := by
  cases x <;> try exact hh
  rename_i j b sz i off
  unfold storeP at hh
  unfold storeV
  simp only [] at hh ⊢
  unfold rowP at hh
  unfold rowC
  cases hk : h j with
  | none => rw [hk] at hh; exact hh.elim
  | some o =>
    rw [hk] at hh
    obtain ⟨h1, h2, h3⟩ := hh
    refine ⟨h1, h2, ?_⟩
    split at h3
    · rename_i hb
      split at h3
      · rename_i r heq
        obtain ⟨a1, a2, a3⟩ := h3
        rw [heq]
        refine ⟨by simp, by simpa using a1, a2, ?_⟩
        simp only [setR, hb] at a3
        simpa [heq] using a3
      · exact h3.elim
    · rename_i hb
      obtain ⟨r, hr, a1, a2, a3⟩ := h3
      obtain ⟨g1, g2⟩ := row_get hr
      refine ⟨g1, by rw [g2]; exact a1, a2, ?_⟩
      rw [g2]
      simp only [setR, hb] at a3
      exact a3
theorem rowsP_imp {h : Hp} {sz : Nat} {v : V} {K : List (List V) → Prop} (hh : rowsP std h sz v K) : ∃ rows, rowsOf h sz v = some rows ∧ K rows := by
  cases v <;> try exact hh.elim
  case sl t sz' rows => exact ⟨rows, by simp [rowsOf, hh.1], hh.2⟩
  case nilsl => exact ⟨[], rfl, hh⟩
  case own k b sz' n =>
    unfold rowsP at hh
    simp only [] at hh
    cases hk : h k with
    | none => rw [hk] at hh; exact hh.elim
    | some o =>
      rw [hk] at hh
      obtain ⟨h1, h2, h3, h4, h5⟩ := hh
      have h4 : o.rows.length = n := h4
      refine ⟨o.rows, ?_, h5⟩
      simp only [rowsOf, hk]
      rw [if_pos ⟨h1, h2, h3, by omega⟩, ← h4, List.take_length]
theorem appendP_imp {h : Hp} {k ty sz bytes : Nat} {x y : V} {K : V → Hp → Prop} (hh : appendP std h k ty sz bytes x y K) : appendV h k ty sz bytes x y K := by
  unfold appendP at hh
  obtain ⟨rows, h1, h2⟩ := rowsP_imp hh
  unfold appendV
  rw [h1]
  exact h2
theorem all_fits {sz : Nat} {ev : Opd → V} {l : List Opd} (h : (l.all fun q => fitsB sz (ev q)) = true) : ∀ p ∈ l, (ev p).fits sz := by
  intro p hp
  have := List.all_eq_true.1 h p hp
  simp only [fitsB, Bool.and_eq_true, beq_iff_eq] at this
  exact this

theorem aopP_imp {T : CallT} {op : AOp} {ev : Opd → V} {h : Hp} {k : Nat} {K : V → Hp → Prop} (hh : aopP std T op ev h k K) : aop T op ev h (keyOf op k) K := by
  cases op
  case load1 => exact load1P_imp hh
  case loadn n x => exact loadnP_imp (n := n) (x := ev x) (K := fun v => K v h) hh
  case store => exact storeP_imp hh
  case bin => exact binP_imp hh
  case eqs neg ts x y => exact eqsP_std (K := fun v => K v h) hh
  case append => exact appendP_imp hh
  case convbs x =>
    obtain ⟨rows, h1, l, h2, h3⟩ := rowsP_imp (show rowsP std h 1 (ev x) fun rows => ∃ l, std.bstr rows l ∧ K (.str l) h from hh)
    exact ⟨l, by rw [h1]; exact congrArg some h2, h3⟩
  case not x =>
    simp only [aopP] at hh
    simp only [aop]
    split at hh
    · rename_i b heq
      rw [heq]
      cases b <;> exact hh
    · exact hh.elim
  case pick c a b =>
    simp only [aopP] at hh
    simp only [aop]
    split at hh
    · rename_i heq; rw [heq]; exact hh
    · rename_i heq; rw [heq]; exact hh
    · exact hh.elim
  case build z parts =>
    refine ⟨fun q hq => ?_, hh.2⟩
    have := List.all_eq_true.1 hh.1 q hq
    simp only [fitsB, Bool.and_eq_true, beq_iff_eq] at this
    exact this
  case bslice ty sz parts => exact ⟨hh.1, all_fits hh.2.1, hh.2.2⟩
  case slsl sz x lo hi =>
    simp only [aopP] at hh
    simp only [aop]
    split at hh
    · rename_i heq
      rw [heq]
      obtain ⟨h1, h2⟩ := hh
      refine ⟨h1, ?_⟩
      unfold loV hiP at *
      unfold hiV
      exact h2
    · rename_i heq
      rw [heq]
      obtain ⟨h1, h2⟩ := hh
      refine ⟨h1, ?_⟩
      unfold loV hiP at *
      unfold hiV
      exact h2
    · exact hh.elim
  case slstr x lo hi =>
    simp only [aopP] at hh
    simp only [aop]
    split at hh
    · rename_i heq
      rw [heq]
      unfold loV hiP at *
      unfold hiV
      exact hh
    · exact hh.elim
  case iaddr sz x i =>
    simp only [aopP] at hh
    simp only [aop]
    split at hh
    · rename_i t sz' rows ki ii e1 e2
      rw [e1, e2]
      obtain ⟨h1, h2, r, h3, h4⟩ := hh
      obtain ⟨g1, g2⟩ := row_get h3
      have h2' : 0 ≤ ii := h2
      have g1' : ii.toNat < rows.length := g1
      have g2' : rows.getD ii.toNat [] = r := g2
      exact ⟨h1, h2, by omega, by rw [g2']; exact h4⟩
    · rename_i e1 e2
      rw [e1, e2]
      exact hh
    · rename_i e1 e2
      rw [e1, e2]
      exact hh
    · exact hh.elim
  case iarr len sz x i =>
    simp only [aopP] at hh
    simp only [aop]
    split at hh
    · rename_i e1 e2
      rw [e1, e2]
      obtain ⟨h1, h2, n, rfl, h3⟩ := hh
      exact ⟨h1, h2, h3⟩
    · rename_i e1 e2
      rw [e1, e2]
      obtain ⟨h1, h2, n, rfl, h3⟩ := hh
      exact ⟨h1, h2, h3⟩
    · exact hh.elim
  case ixa g len sz x i =>
    simp only [aopP] at hh
    simp only [aop]
    split at hh
    · rename_i e1 e2
      rw [e1, e2]
      obtain ⟨h1, h2, h3, h4, n, rfl, h5⟩ := hh
      refine ⟨h1, h2, by simpa using h3, Nat.le_of_ble_eq_true h4, ?_⟩
      cases g <;> exact h5
    · exact hh.elim
  case len str x =>
    simp only [aopP, aop] at *
    unfold lenP at hh
    unfold lenV
    exact hh
  case eqn neg x =>
    simp only [aopP, aop] at *
    unfold eqnP at hh
    unfold eqnK
    exact hh
  case mm mx x y =>
    simp only [aopP] at hh
    simp only [aop]
    split at hh
    · rename_i e1 e2; rw [e1, e2]; exact hh
    · rename_i e1 e2; rw [e1, e2]; exact hh
    · exact hh.elim
  all_goals exact hh
end Go.Proofs.Ytobngncjflogcaa.AM

set_option linter.unusedVariables false
set_option linter.unusedSimpArgs false
namespace Go.Proofs.Ytobngncjflogcaa.AM
open Go
open Go.BigFrame

def trD (n : Nat) (d : Option Tmp) : Bool := match d with
  | some d => decide (d < n)
  | none => true
def trO (P : Program) (n : Nat) (ops : Array Oper) (o : Oper) : Option AO :=
  match trOp P o.op with
  | some ao =>
    if trD n o.dst then
      match o.guard with
      | none => some ⟨o.dst, none, ao⟩
      | some (j, want) => match (ops[j]?).bind (·.dst) with
        | some t => if t < n then some ⟨o.dst, some (t, want), ao⟩ else none
        | none => none
    else none
  | none => none
def trOs (P : Program) (n : Nat) (ops : Array Oper) : List Oper → Option (List AO)
  | [] => some []
  | o :: l => match trO P n ops o, trOs P n ops l with
    | some a, some m => some (a :: m)
    | _, _ => none

/-- one operation, guarded or not -/
def aoper (p : Prim) (C : CallT) (o : AO) (s : S) (K : S → Prop) : Prop := aopP p C o.op (Opd.ev s) s.h (o.d.getD 0) fun v h => K ((s.seth h).put o.d v)
def aone (p : Prim) (C : CallT) (o : AO) (s : S) (K : S → Prop) : Prop := match o.g with
  | none => aoper p C o s K
  | some (g, true) => match s.t g with
    | .bool b => br b (fun _ => aoper p C o (s.set g (.bool true)) K) (fun _ => K ((s.set g (.bool false)).put o.d .und))
    | .und => K (s.put o.d .und)
    | _ => False
  | some (g, false) => match s.t g with
    | .bool b => br b (fun _ => K ((s.set g (.bool true)).put o.d .und)) (fun _ => aoper p C o (s.set g (.bool false)) K)
    | .und => K (s.put o.d .und)
    | _ => False
def aops (p : Prim) (C : CallT) : List AO → S → (S → Prop) → Prop
  | [], s, K => K s
  | o :: l, s, K => aone p C o s fun s => aops p C l s K

/-- one state says all that another says -/
def Ent (s s' : S) : Prop := ∀ C n a w, Ctx.Ok C → Sat C n s a w → Sat C n s' a w

def look : List (Nat × V) → Nat → V
  | [], _ => .junk
  | (k, v) :: l, i => if i = k then v else look l i
def lookH : List (Nat × Ob) → Nat → Option Ob
  | [], _ => none
  | (k, o) :: l, i => if i = k then some o else lookH l i
def St (l : List (Nat × V)) (h : List (Nat × Ob)) : S := ⟨look l, lookH h⟩
def agree : List (Nat × V) → S → Prop
  | [], _ => True
  | (k, v) :: l, s => s.t k = v ∧ agree l s
def agreeH : List (Nat × Ob) → S → Prop
  | [], _ => True
  | (k, o) :: l, s => s.h k = some o ∧ agreeH l s

theorem Ent.refl (s : S) : Ent s s := fun _ _ _ _ _ h => h
theorem Ent.trans {a b c : S} (h : Ent a b) (h' : Ent b c) : Ent a c := fun C n x w hC hs => h' C n x w hC (h C n x w hC hs)

theorem HSat.sub {C : Ctx} {F : Nat → Prop} {h h' : Hp} {w : World} (hs : HSat C F h w) (hh : ∀ k o, h' k = some o → h k = some o) : HSat C F h' w :=
  ⟨fun k o hk => hs.ob k o (hh k o hk), fun k k' o o' b hk hk' => hs.inj k k' o o' b (hh k o hk) (hh k' o' hk'), fun k o b hk => hs.live k o b (hh k o hk), hs.old, hs.new, hs.lt, hs.ev⟩

theorem Ent.of {s s' : S} (ht : ∀ i, s'.t i = s.t i ∨ s'.t i = .junk) (hh : ∀ k o, s'.h k = some o → s.h k = some o) : Ent s s' := by
  intro C n a w hC hs
  obtain ⟨F, h1, h2⟩ := hs.ex
  refine ⟨⟨F, h1.sub hh, fun i => ?_⟩, hs.df, hs.sz⟩
  rcases ht i with h | h
  · rw [h]; exact h2 i
  · rw [h]; exact .junk _

theorem look_agree {l : List (Nat × V)} {s : S} (h : agree l s) (i : Nat) : look l i = s.t i ∨ look l i = .junk := by
  induction l with
  | nil => exact .inr rfl
  | cons p l ih =>
    obtain ⟨k, v⟩ := p
    obtain ⟨h1, h2⟩ := h
    simp only [look]
    by_cases hi : i = k
    · rw [if_pos hi, hi]; exact .inl h1.symm
    · rw [if_neg hi]; exact ih h2
theorem lookH_agree {l : List (Nat × Ob)} {s : S} (h : agreeH l s) (k : Nat) (o : Ob) (hk : lookH l k = some o) : s.h k = some o := by
  induction l with
  | nil => cases hk
  | cons p l ih =>
    obtain ⟨k', o'⟩ := p
    obtain ⟨h1, h2⟩ := h
    simp only [lookH] at hk
    by_cases hi : k = k'
    · rw [if_pos hi] at hk; cases hk; rw [hi]; exact h1
    · rw [if_neg hi] at hk; exact ih h2 hk
theorem Ent.st {s : S} {l : List (Nat × V)} {h : List (Nat × Ob)} (h1 : agree l s) (h2 : agreeH h s) : Ent s (St l h) := Ent.of (look_agree h1) (lookH_agree h2)

/-- the next round's head -/
def Next {Y : Type} (L : Y → List (Nat × V)) (H : Y → List (Nat × Ob)) (μ : Y → Nat) (y : Y) (s : S) : Prop := ∃ s1, Ent s s1 ∧ ∃ y', agree (L y') s1 ∧ agreeH (H y') s1 ∧ μ y' < μ y

inductive Both (A B : Prop) : Prop
  | mk (a : A) (b : B) : Both A B
def hasN : List Nat → Nat → Bool
  | [], _ => false
  | x :: l, i => Nat.beq x i || hasN l i
def readyA (done : List Nat) : Nat → List (AO × List Nat) → List (Nat × AO)
  | _, [] => []
  | i, (o, ps) :: l => match !(hasN done i) && ps.all (hasN done) with
    | true => (i, o) :: readyA done (i + 1) l
    | false => readyA done (i + 1) l
def allA : List (Nat × AO) → (Nat → AO → Prop) → Prop
  | [], _ => True
  | [(i, o)], f => f i o
  | (i, o) :: x :: l, f => Both (f i o) (allA (x :: l) f)
def anyA (p : Prim) (T : CallT) (ops : List (AO × List Nat)) : Nat → List Nat → S → (S → Prop) → Prop
  | 0, _, s, K => K s
  | n + 1, done, s, K => allA (readyA done 0 ops) fun i o => aone p T o s fun s => anyA p T ops n (i :: done) s K

def setC (c : Opd) (s : S) (b : Bool) : S := match c with
  | .t i => s.set i (.bool b)
  | _ => s
def awp (p : Prim) (T : CallT) (T1 : CallT) : AC → S → (S → Prop) → (Nat → S → Prop) → (S → Prop) → Prop
  | .skip, s, N, _, _ => N s
  | .region false ops, s, N, _, _ => aops p T ops s N
  | .region true ops, s, N, _, _ => aops p T1 ops s N
  | .seq x y, s, N, X, R => awp p T T1 x s (fun s => awp p T T1 y s N X R) X R
  | .cond c x y, s, N, X, R => match c.ev s with
    | .bool t => br t (fun _ => awp p T T1 x (setC c s true) N X R) (fun _ => awp p T T1 y (setC c s false) N X R)
    | _ => False
  | .block id x, s, N, X, R => awp p T T1 x s N (fun j s => if j = id then N s else X j s) R
  | .loop x, s, _, X, R => ∃ (Y : Type) (L : Y → List (Nat × V)) (H : Y → List (Nat × Ob)) (μ : Y → Nat), (∃ s1, Ent s s1 ∧ ∃ y, agree (L y) s1 ∧ agreeH (H y) s1) ∧ ∀ y, awp p T T1 x (St (L y) (H y)) (Next L H μ y) X R
  | .exit id, s, _, X, _ => X id s
  | .ret, s, _, _, R => R s
  | .dregion ops, s, N, _, _ => anyA p T ops ops.length [] s N

section
variable {P : Program} {C : Ctx} {n : Nat} {w : World} {a : Act} {s : S}

theorem getD_put_same {a : Act} {d : Nat} {u : Value} (h : d < a.tmps.size) : (a.put (some d) u).tmps.getD d undef = u := by
  simp [Act.put, h]
theorem getD_put_other {a : Act} {d i : Nat} {u : Value} (h : i ≠ d) : (a.put (some d) u).tmps.getD i undef = a.tmps.getD i undef := by
  simp [Act.put, Array.getElem?_setIfInBounds, Ne.symm h]

theorem Sat.put (hs : Sat C n s a w) {w' : World} {F' : Nat → Prop} {h' : Hp} {v : V} {u : Value} {d : Option Tmp} (hd : trD n d = true) (hh : HSat C F' h' w') (hv : Rel F' C.B w' v u)
    (hk : ∀ i : Nat, Rel F' C.B w' (s.t i) (a.tmps.getD i undef)) : Sat C n ((s.seth h').put d v) (a.put d u) w' := by
  cases d with
  | none => exact ⟨⟨F', hh, hk⟩, hs.df, hs.sz⟩
  | some d =>
    have hd' : d < a.tmps.size := by rw [hs.sz]; simpa [trD] using hd
    refine ⟨⟨F', hh, fun i => ?_⟩, hs.df, by simp [Act.put, hs.sz]⟩
    simp only [S.put, S.set, S.seth, upd]
    by_cases hi : i = d
    · subst hi
      rw [if_pos rfl, getD_put_same hd']
      exact hv
    · rw [if_neg hi, getD_put_other hi]
      exact hk i

theorem Sat.setg (hs : Sat C n s a w) {g : Nat} {b : Bool} (hg : s.t g = .bool b) : Sat C n (s.set g (.bool b)) a w := by
  obtain ⟨F, hh, hr⟩ := hs.ex
  refine ⟨⟨F, hh, fun i => ?_⟩, hs.df, hs.sz⟩
  simp only [S.set, upd]
  by_cases hi : i = g
  · subst hi
    rw [if_pos rfl, ← hg]
    exact hr i
  · rw [if_neg hi]
    exact hr i

theorem yielded_of (hs : Sat C n s a w) {ops : Array Oper} {j t : Nat} {b : Bool} (hj : (ops[j]?).bind (·.dst) = some t) (ht : t < n) (hb : s.t t = .bool b) : yielded ops a.tmps j = some b := by
  obtain ⟨F, hh, hr⟩ := hs.ex
  have := hr t
  rw [hb] at this
  have hlt : t < a.tmps.size := by rw [hs.sz]; exact ht
  have hg : a.tmps.getD t undef = a.tmps[t] := by simp [hlt]
  rw [hg] at this
  generalize hu : a.tmps[t] = u at this
  cases this
  unfold yielded
  rw [hj]
  simp [hlt, hu]

theorem aops_cons {p : Prim} {T : CallT} {o : AO} {l : List AO} {K : S → Prop} : aops p T (o :: l) s K = aone p T o s fun s => aops p T l s K := rfl

theorem aoper_sound {T : CallT} (hT : CallOk P T) (hC : C.Ok) {ops : Array Oper} {o : Oper} {ao : AO} {op : AOp} {K : S → Prop} {Q : Exit → Act → World → Prop} (ht : trOp P o.op = some op) (hao : ao.op = op) (hd : trD n o.dst = true) (hdd : ao.d = o.dst) (hs : Sat C n s a w)
    (hK : aoper std T ao s K) : o.wp P a w (fun a' w' => ∃ s', Sat C n s' a' w' ∧ K s') Q := by
  obtain ⟨F, hh, hr⟩ := hs.ex
  subst hao
  refine Oper.wp_mono (fun a' w' hp => ?_) (aop_sound hT hC ht hh hr (aopP_imp hK))
  obtain ⟨u, v, h', F', rfl, hv, hh', hk, hKv⟩ := hp
  exact ⟨_, by rw [hdd]; exact Sat.put hs hd hh' hv fun i => hk _ _ (hr i), hKv⟩

theorem aone_sound {T : CallT} (hT : CallOk P T) (hC : C.Ok) {ops : Array Oper} {o : Oper} {ao : AO} {K : S → Prop} {Q : Exit → Act → World → Prop} {J : Act → World → Prop} (ht : trO P n ops o = some ao) (hs : Sat C n s a w) (hK : aone std T ao s K)
    (hJ : ∀ s' a' w', Sat C n s' a' w' → K s' → J a' w') : if Region.wanted o (yielded ops a.tmps) then o.wp P a w J Q ∨ (o.asks P a w ∧ LetsOut Q) else J (a.put o.dst undef) w := by
  unfold trO at ht
  split at ht
  · rename_i op hop
    split at ht
    · rename_i hd
      split at ht
      · rename_i hg
        cases ht
        have hw : Region.wanted o (yielded ops a.tmps) = true := by simp [Region.wanted, hg]
        rw [if_pos hw]
        refine .inl (Oper.wp_mono (fun a' w' ⟨s', h1, h2⟩ => hJ s' a' w' h1 h2) (aoper_sound hT hC (ops := ops) (ao := ⟨o.dst, none, op⟩) hop rfl hd rfl hs hK))
      · rename_i j want hg
        split at ht
        · rename_i t hj
          split at ht
          · rename_i htn
            cases ht
            have und : s.t t = .und → (if Region.wanted o (yielded ops a.tmps) then o.wp P a w J Q ∨ (o.asks P a w ∧ LetsOut Q) else J (a.put o.dst undef) w) ∨ ¬ K (s.put o.dst .und) := by
              intro hu
              by_cases hKu : K (s.put o.dst .und)
              · left
                obtain ⟨F, hh, hr⟩ := hs.ex
                have hlt : t < a.tmps.size := by rw [hs.sz]; exact htn
                have hru := hr t
                rw [hu] at hru
                have hgd : a.tmps.getD t undef = a.tmps[t] := by simp [hlt]
                rw [hgd] at hru
                generalize hv : a.tmps[t] = v at hru
                cases hru
                have hy : yielded ops a.tmps j = none := by unfold yielded; rw [hj]; simp [hlt, hv, undef]
                have hw : ¬ Region.wanted o (yielded ops a.tmps) = true := by simp [Region.wanted, hg, hy]
                rw [if_neg hw]
                exact hJ _ _ _ (Sat.put hs hd hh .und hr) hKu
              · exact .inr hKu
            have yes : s.t t = .bool want → aoper std T ⟨o.dst, some (t, want), op⟩ (s.set t (.bool want)) K → (if Region.wanted o (yielded ops a.tmps) then o.wp P a w J Q ∨ (o.asks P a w ∧ LetsOut Q) else J (a.put o.dst undef) w) := by
              intro hb hK
              have hy := yielded_of hs hj htn hb
              have hw : Region.wanted o (yielded ops a.tmps) = true := by simp [Region.wanted, hg, hy]
              rw [if_pos hw]
              exact .inl (Oper.wp_mono (fun a' w' ⟨s', h1, h2⟩ => hJ s' a' w' h1 h2) (aoper_sound hT hC (ops := ops) (ao := ⟨o.dst, some (t, want), op⟩) hop rfl hd rfl (hs.setg hb) hK))
            have no : ∀ b, b ≠ want → s.t t = .bool b → K ((s.set t (.bool b)).put o.dst .und) → (if Region.wanted o (yielded ops a.tmps) then o.wp P a w J Q ∨ (o.asks P a w ∧ LetsOut Q) else J (a.put o.dst undef) w) := by
              intro b hne hb hK
              have hy := yielded_of hs hj htn hb
              have hw : ¬ Region.wanted o (yielded ops a.tmps) = true := by simp [Region.wanted, hg, hy, hne]
              rw [if_neg hw]
              have hs2 := hs.setg hb
              obtain ⟨F, hh, hr⟩ := hs2.ex
              exact hJ _ _ _ (Sat.put hs2 hd hh .und hr) hK
            cases want with
            | true =>
              simp only [aone] at hK
              split at hK
              · rename_i b hb
                cases b with
                | true => exact yes hb hK
                | false => exact no false (by decide) hb hK
              · rename_i hu
                exact (und hu).resolve_right (fun h => h hK)
              · exact hK.elim
            | false =>
              simp only [aone] at hK
              split at hK
              · rename_i b hb
                cases b with
                | true => exact no true (by decide) hb hK
                | false => exact yes hb hK
              · rename_i hu
                exact (und hu).resolve_right (fun h => h hK)
              · exact hK.elim
          · cases ht
        · cases ht
    · cases ht
  · cases ht

theorem aops_sound {T : CallT} (hT : CallOk P T) (hC : C.Ok) {ops : Array Oper} {Q : Exit → Act → World → Prop} : ∀ (l : List Oper) (al : List AO) (s : S) (a : Act) (w : World) (K : S → Prop), trOs P n ops l = some al → Sat C n s a w → aops std T al s K →
    (∀ s' a' w', Sat C n s' a' w' → K s' → Q .normal a' w') → wpList P ops Q l a w := by
  intro l
  induction l with
  | nil =>
    intro al s a w K ht hs hK hQ
    simp only [trOs, Option.some.injEq] at ht
    subst ht
    exact hQ s a w hs hK
  | cons o l ih =>
    intro al s a w K ht hs hK hQ
    simp only [trOs] at ht
    split at ht
    · rename_i ao m ho hm
      cases ht
      rw [aops_cons] at hK
      exact aone_sound hT hC ho hs hK fun s' a' w' h1 h2 => ih m s' a' w' K hm h1 h2 hQ
    · cases ht
end
end Go.Proofs.Ytobngncjflogcaa.AM

set_option linter.unusedVariables false
set_option linter.unusedSimpArgs false
namespace Go.Proofs.Ytobngncjflogcaa.AM
open Go

def predsOf (ops : Array Oper) (i : Nat) : List Nat := match ops[i]? with
  | some o => (o.after.toList.filter (Region.binds .any)).map (·.on)
  | none => []
theorem hasN_iff {l : List Nat} {i : Nat} : hasN l i = true ↔ i ∈ l := by
  induction l with
  | nil => simp [hasN]
  | cons x l ih =>
    rw [hasN, Bool.or_eq_true, ih, List.mem_cons]
    exact ⟨fun h => h.imp (fun e => (Nat.eq_of_beq_eq_true e).symm) id, fun h => h.imp (fun e => by rw [e]; exact Nat.beq_refl x) id⟩
theorem allA_mem {f : Nat → AO → Prop} : ∀ {l : List (Nat × AO)}, allA l f → ∀ {i o}, (i, o) ∈ l → f i o
  | [], _, i, o, h => by cases h
  | [(j, q)], h, i, o, hm => by simp at hm; obtain ⟨rfl, rfl⟩ := hm; exact h
  | (j, q) :: x :: l, h, i, o, hm => by
    obtain ⟨h1, h2⟩ := h
    rcases List.mem_cons.1 hm with hm | hm
    · cases hm; exact h1
    · exact allA_mem h2 hm
theorem mem_readyA {done : List Nat} : ∀ {l : List (AO × List Nat)} {m j : Nat} {o : AO} {ps : List Nat}, l[j]? = some (o, ps) → (m + j) ∉ done → (∀ q ∈ ps, q ∈ done) → (m + j, o) ∈ readyA done m l
  | [], m, j, o, ps, h, _, _ => by simp at h
  | (o', ps') :: l, m, 0, o, ps, h, h1, h2 => by
    simp only [List.getElem?_cons_zero, Option.some.injEq, Prod.mk.injEq] at h
    obtain ⟨rfl, rfl⟩ := h
    have e : (!(hasN done m) && ps'.all (hasN done)) = true := by
      rw [Bool.and_eq_true, List.all_eq_true]
      refine ⟨?_, fun q hq => hasN_iff.2 (h2 q hq)⟩
      cases hh : hasN done m
      · rfl
      · exact absurd (hasN_iff.1 hh) h1
    simp only [readyA, e, Nat.add_zero]
    exact List.mem_cons_self
  | (o', ps') :: l, m, j + 1, o, ps, h, h1, h2 => by
    have := mem_readyA (done := done) (l := l) (m := m + 1) (j := j) (by simpa using h) (by rw [show m + 1 + j = m + (j + 1) by omega]; exact h1) h2
    rw [show m + 1 + j = m + (j + 1) by omega] at this
    simp only [readyA]
    split
    · exact List.mem_cons_of_mem _ this
    · exact this

def predsOk (ops : Array Oper) : Bool := (List.range ops.size).all fun i => (predsOf ops i).all fun j => decide (j < i)
def withPreds (ops : Array Oper) (al : List AO) : List (AO × List Nat) := al.zip ((List.range ops.size).map (predsOf ops))
theorem trOs_get' {P : Program} {n : Nat} {ops : Array Oper} : ∀ {l : List Oper} {al : List AO}, trOs P n ops l = some al → l.length = al.length ∧ ∀ (i : Nat) (o : Oper), l[i]? = some o → ∃ a, al[i]? = some a ∧ trO P n ops o = some a
  | [], al, h => by simp [trOs] at h; subst h; simp
  | o :: l, al, h => by
    simp only [trOs] at h
    split at h
    · rename_i a m ha hm
      cases h
      obtain ⟨h1, h2⟩ := trOs_get' hm
      refine ⟨by simp [h1], fun i o' ho => ?_⟩
      cases i with
      | zero => simp at ho; subst ho; exact ⟨a, rfl, ha⟩
      | succ i => exact h2 i o' (by simpa using ho)
    · cases h
theorem exists_min : ∀ (l : List Nat), l ≠ [] → ∃ i ∈ l, ∀ j ∈ l, i ≤ j
  | [], h => absurd rfl h
  | [x], _ => ⟨x, by simp, by simp⟩
  | x :: y :: l, _ => by
    obtain ⟨i, hi, hm⟩ := exists_min (y :: l) (by simp)
    by_cases hx : x ≤ i
    · exact ⟨x, by simp, fun j hj => by rcases List.mem_cons.1 hj with rfl | hj; exact Nat.le_refl _; have := hm j hj; omega⟩
    · exact ⟨i, List.mem_cons_of_mem _ hi, fun j hj => by rcases List.mem_cons.1 hj with rfl | hj; omega; exact hm j hj⟩

section
variable {P : Program}
theorem anyA_sound {C : Ctx} {n : Nat} {ops : Array Oper} {al : List AO} {Q : Exit → Act → World → Prop} (hC : C.Ok) (hal : trOs P n ops ops.toList = some al) (hD : predsOk ops = true) {K : S → Prop} (hQ : ∀ s' a' w', Sat C n s' a' w' → K s' → Q .normal a' w') :
    ∀ (k : Nat) (R : List Nat) (listed : Array Bool) (done : List Nat) (s : S) (a : Act) (w : World), R.length = k → R.Nodup → listed.size = ops.size → (∀ i, i ∈ R ↔ i < ops.size ∧ listed.getD i true = false) → (∀ i, i < ops.size → (i ∈ done ↔ listed.getD i true = true)) →
      Sat C n s a w → anyA std (CallE P) (withPreds ops al) k done s K → wpAny P .any ops Q k listed a w := by
  have getb : ∀ (listed : Array Bool) (i : Nat), listed.size = ops.size → i < ops.size → listed.getD i true = listed.getD i false := by
    intro listed i hs hi
    have : i < listed.size := by omega
    simp [this]
  have chk : ∀ i, i < ops.size → ∀ j ∈ predsOf ops i, j < i := by
    intro i hi j hj
    unfold predsOk at hD
    have h1 := List.all_eq_true.1 hD i (List.mem_range.2 hi)
    simpa using List.all_eq_true.1 h1 j hj
  obtain ⟨hlen, hget⟩ := trOs_get' hal
  intro k
  induction k with
  | zero =>
    intro R listed done s a w hk _ hsz hmem _ hs hK
    have hR : R = [] := List.eq_nil_of_length_eq_zero hk
    subst hR
    refine ⟨List.eq_nil_iff_forall_not_mem.2 fun j hj => ?_, hQ s a w hs hK⟩
    obtain ⟨h1, o, ho, _⟩ := mem_ready.1 hj
    have := (hmem j).2 ⟨(Array.getElem?_eq_some_iff.1 ho).1, h1⟩
    cases this
  | succ k ih =>
    intro R listed done s a w hk hnd hsz hmem hdone hs hK
    refine ⟨fun hr => ?_, fun i hi => ?_⟩
    · exfalso
      obtain ⟨i0, hi0R, hmin⟩ := exists_min R (by intro h; subst h; cases hk)
      obtain ⟨hi0, hl0⟩ := (hmem i0).1 hi0R
      have : i0 ∈ Region.ready .any ops listed := by
        refine mem_ready.2 ⟨hl0, ops[i0], Array.getElem?_eq_getElem hi0, fun e he hb => ?_⟩
        have hp : e.on ∈ predsOf ops i0 := by
          unfold predsOf
          rw [Array.getElem?_eq_getElem hi0]
          exact List.mem_map.2 ⟨e, List.mem_filter.2 ⟨by simpa using he, hb⟩, rfl⟩
        have hlt := chk i0 hi0 _ hp
        by_cases hl : listed.getD e.on false = true
        · exact hl
        · exfalso
          have h3 : listed.getD e.on true = false := by rw [getb listed e.on hsz (by omega)]; simpa using hl
          have := hmin e.on ((hmem e.on).2 ⟨by omega, h3⟩)
          omega
      rw [hr] at this
      cases this
    · obtain ⟨hl, o, ho, hall⟩ := mem_ready.1 hi
      have hio : i < ops.size := (Array.getElem?_eq_some_iff.1 ho).1
      have hiR : i ∈ R := (hmem i).2 ⟨hio, hl⟩
      obtain ⟨ai, hai, htr⟩ := hget i o (by simpa using ho)
      have hnd' : i ∉ done := fun h => by have := (hdone i hio).1 h; rw [hl] at this; cases this
      have hz : (withPreds ops al)[i]? = some (ai, predsOf ops i) := by
        unfold withPreds
        rw [List.getElem?_zip_eq_some]
        exact ⟨hai, by simp [hio]⟩
      have hr := mem_readyA (done := done) (m := 0) (j := i) hz (by simpa using hnd') (fun q hq => by
        have hq' := hq
        unfold predsOf at hq
        rw [ho] at hq
        obtain ⟨e, he, rfl⟩ := List.mem_map.1 hq
        obtain ⟨he1, he2⟩ := List.mem_filter.1 he
        have h4 := hall e (by simpa using he1) he2
        have hlt : e.on < ops.size := by have := chk i hio _ hq'; omega
        exact (hdone e.on hlt).2 (by rw [getb listed e.on hsz hlt]; exact h4))
      rw [Nat.zero_add] at hr
      have hone := allA_mem (show allA (readyA done 0 (withPreds ops al)) (fun i o => aone std (CallE P) o s fun s => anyA std (CallE P) (withPreds ops al) k (i :: done) s K) from hK) hr
      unfold wpOp
      rw [ho]
      refine aone_sound callE_ok hC htr hs hone fun s' a' w' hs' hK' => ih (R.erase i) (listed.setIfInBounds i true) (i :: done) s' a' w' ?_ (hnd.erase i) (by simp [hsz]) (fun j => ?_) (fun j hj => ?_) hs' hK'
      · rw [List.length_erase_of_mem hiR]; omega
      · rw [hnd.mem_erase_iff, hmem j]
        by_cases hij : i = j
        · subst hij
          have h1 : (listed.setIfInBounds i true).getD i true = true := by
            have : i < listed.size := by omega
            simp [this]
          rw [h1]
          simp
        · rw [getD_set_ne true hij]
          exact ⟨fun h => h.2, fun h => ⟨fun e => hij e.symm, h⟩⟩
      · by_cases hij : i = j
        · subst hij
          have h1 : (listed.setIfInBounds i true).getD i true = true := by
            have : i < listed.size := by omega
            simp [this]
          rw [h1]
          simp
        · rw [getD_set_ne true hij, ← hdone j hj, List.mem_cons]
          exact ⟨fun h => h.resolve_left fun e => hij e.symm, .inr⟩
end
end Go.Proofs.Ytobngncjflogcaa.AM

set_option linter.unusedVariables false
set_option linter.unusedSimpArgs false
namespace Go.Proofs.Ytobngncjflogcaa.AM
open Go
open Go.BigFrame

inductive Anc (ops : Array Oper) : Nat → Nat → Prop
  | base {j i} (h : j ∈ predsOf ops i) : Anc ops j i
  | step {j k i} (h : k ∈ predsOf ops i) (h' : Anc ops j k) : Anc ops j i
def ancTbl (ops : Array Oper) : Nat → List (List Nat)
  | 0 => []
  | n + 1 =>
    let t := ancTbl ops n
    t ++ [(predsOf ops n ++ (predsOf ops n).flatMap fun k => t.getD k []).eraseDups]
theorem ancTbl_len (ops : Array Oper) (n : Nat) : (ancTbl ops n).length = n := by
  induction n with
  | zero => rfl
  | succ n ih => simp [ancTbl, ih]
theorem ancTbl_sound (ops : Array Oper) : ∀ (n i j : Nat), j ∈ (ancTbl ops n).getD i [] → Anc ops j i := by
  intro n
  induction n with
  | zero => intro i j h; simp [ancTbl] at h
  | succ n ih =>
    intro i j h
    simp only [ancTbl] at h
    rw [List.getD_eq_getElem?_getD] at h
    by_cases hi : i < n
    · rw [List.getElem?_append_left (by rw [ancTbl_len]; exact hi), ← List.getD_eq_getElem?_getD] at h
      exact ih i j h
    · by_cases hin : i = n
      · subst hin
        rw [List.getElem?_append_right (by rw [ancTbl_len]; exact Nat.le_refl _), ancTbl_len] at h
        simp only [Nat.sub_self, List.getElem?_cons_zero, Option.getD_some, List.mem_eraseDups, List.mem_append, List.mem_flatMap] at h
        rcases h with h | ⟨k, hk, h⟩
        · exact .base h
        · exact .step hk (ih k j h)
      · rw [List.getElem?_eq_none (by simp [ancTbl_len]; omega)] at h
        simp at h

/-- is the last operation of a region a call, behind all the others? -/
def AOp.isCall : AOp → Bool
  | .call .. => true
  | _ => false
def lastC (ops : Array Oper) (al : List AO) : Bool := match al.getLast? with
  | some o => o.op.isCall && (List.range (ops.size - 1)).all fun j => ((ancTbl ops ops.size).getD (ops.size - 1) []).contains j
  | none => false

def trC (P : Program) (n : Nat) (D : Array Oper → List AO → Bool) : Code → Option AC
  | .skip => some .skip
  | .region _ ops dr => match trOs P n ops ops.toList with
    | some al => if dr then (if D ops al then (if lastC ops al then some (.seq (.region true al.dropLast) (.region false (al.drop (al.length - 1)))) else some (.region true al)) else if predsOk ops then some (.dregion (withPreds ops al)) else none) else some (.region false al)
    | none => none
  | .seq x y => match trC P n D x, trC P n D y with
    | some x, some y => some (.seq x y)
    | _, _ => none
  | .cond c x y => match trX c, trC P n D x, trC P n D y with
    | some c, some x, some y => some (.cond c x y)
    | _, _, _ => none
  | .block id x => (trC P n D x).map (.block id)
  | .loop x => (trC P n D x).map .loop
  | .exit id => some (.exit id)
  | .ret => some .ret
  | .scope x => trC P n D x
  | _ => none

/-- how the text's ways out are stated -/
def QOf (C : Ctx) (n : Nat) (N : S → Prop) (X : Nat → S → Prop) (R : S → Prop) : Exit → Act → World → Prop
  | .normal, a, w => ∃ s, Sat C n s a w ∧ N s
  | .exit j, a, w => ∃ s, Sat C n s a w ∧ X j s
  | .ret, a, w => ∃ s, Sat C n s a w ∧ R s
  | _, _, _ => False

/-- a region that draws its order may be read in the text's order -/
def DrawOk (P : Program) (D : Array Oper → List AO → Bool) : Prop := P.follows .mixedOrders = true ∧
  (∀ (C : Ctx) (n id : Nat) (ops : Array Oper) (al : List AO) (s : S) (a : Act) (w : World) (K : S → Prop) (Q : Exit → Act → World → Prop), C.Ok → trOs P n ops ops.toList = some al → D ops al = true → Sat C n s a w → aops std (CallP P) al s K →
    (∀ s' a' w', Sat C n s' a' w' → K s' → Q .normal a' w') → (Code.region id ops true).wp P Q a w) ∧
  (∀ (C : Ctx) (n id : Nat) (ops : Array Oper) (al : List AO) (s : S) (a : Act) (w : World) (K : S → Prop) (Q : Exit → Act → World → Prop), C.Ok → trOs P n ops ops.toList = some al → D ops al = true → lastC ops al = true → Sat C n s a w → aops std (CallP P) al.dropLast s (fun s' => aops std (CallE P) (al.drop (al.length - 1)) s' K) →
    (∀ s' a' w', Sat C n s' a' w' → K s' → Q .normal a' w') → (Code.region id ops true).wp P Q a w)

theorem awp_sound {P : Program} {C : Ctx} {n : Nat} {D : Array Oper → List AO → Bool} (hD : DrawOk P D) (hC : C.Ok) : ∀ (c : Code) (ac : AC) (s : S) (a : Act) (w : World) (N : S → Prop) (X : Nat → S → Prop) (R : S → Prop), trC P n D c = some ac → Sat C n s a w → awp std (CallE P) (CallP P) ac s N X R →
    c.wp P (QOf C n N X R) a w := by
  intro c
  induction c with
  | skip =>
    intro ac s a w N X R ht hs hK
    simp only [trC, Option.some.injEq] at ht
    subst ht
    exact wp_skip ⟨s, hs, hK⟩
  | region id ops dr =>
    intro ac s a w N X R ht hs hK
    simp only [trC] at ht
    split at ht
    · rename_i al hal
      cases dr with
      | false =>
        simp only [Bool.false_eq_true, ↓reduceIte, Option.some.injEq] at ht
        subst ht
        exact wp_region_list (aops_sound callE_ok hC _ _ _ _ _ _ hal hs hK fun s' a' w' h1 h2 => ⟨s', h1, h2⟩)
      | true =>
        simp only [↓reduceIte] at ht
        split at ht
        · rename_i hd
          split at ht
          · rename_i hl
            cases ht
            exact hD.2.2 C n id ops al s a w N _ hC hal hd hl hs hK fun s' a' w' h1 h2 => ⟨s', h1, h2⟩
          · cases ht
            exact hD.2.1 C n id ops al s a w N _ hC hal hd hs hK fun s' a' w' h1 h2 => ⟨s', h1, h2⟩
        · split at ht
          · rename_i hp
            cases ht
            refine wp_region_any hD.1 ?_
            have hs2 : Sat C n s a { w with drawn := w.drawn + 1 } := by
              obtain ⟨F, hh, hr⟩ := hs.ex
              have hev : Ev (fun _ => False) w { w with drawn := w.drawn + 1 } := Ev.drew _ w
              refine ⟨⟨F, ⟨fun k o hk => ObSat.keep hC hh hev (fun _ _ h => h.elim) (hh.ob k o hk) (fun _ _ h => h.elim), hh.inj, hh.live, hh.old, hh.new, hh.lt, Ev.weak hh.ev hev fun _ _ h => h.elim⟩, fun i => hh.keep hC hev (fun _ _ h => h.elim) (hr i)⟩, hs.df, hs.sz⟩
            have hlen := (trOs_get' hal).1
            have hal2 : (withPreds ops al).length = ops.size := by simp [withPreds, ← hlen]
            have hK2 : anyA std (CallE P) (withPreds ops al) ops.size [] s N := by
              have hK3 : anyA std (CallE P) (withPreds ops al) (withPreds ops al).length [] s N := hK
              rw [hal2] at hK3
              exact hK3
            refine anyA_sound (Q := QOf C n N X R) hC hal hp (fun s' a' w' h1 h2 => ⟨s', h1, h2⟩) ops.size (List.range ops.size) (Array.replicate ops.size false) [] s a _ (by simp) List.nodup_range (by simp) (fun i => ?_) (fun i hi => by simp [hi]) hs2 hK2
            rw [List.mem_range]
            exact ⟨fun h => ⟨h, by simp [h]⟩, fun h => h.1⟩
          · cases ht
    · cases ht
  | seq x y ihx ihy =>
    intro ac s a w N X R ht hs hK
    simp only [trC] at ht
    split at ht
    · rename_i x' y' hx hy
      cases ht
      refine wp_seq (wp_mono (ihx _ _ _ _ _ _ _ hx hs hK) fun e a' w' hq => ?_)
      cases e with
      | normal => obtain ⟨s', h1, h2⟩ := hq; exact ihy _ _ _ _ _ _ _ hy h1 h2
      | exit j => exact hq
      | ret => exact hq
      | _ => exact hq.elim
    · cases ht
  | cond c x y ihx ihy =>
    intro ac s a w N X R ht hs hK
    simp only [trC] at ht
    split at ht
    · rename_i c' x' y' hc hx hy
      cases ht
      obtain ⟨F, hh, hr⟩ := hs.ex
      have hrel := ev_rel hr hc
      simp only [awp] at hK
      split at hK
      · rename_i t heq
        rw [heq] at hrel
        generalize hec : a.eval c = uc at hrel
        cases hrel
        have hset : ∀ b, t = b → Sat C n (setC c' s b) a w := by
          rintro b rfl
          cases c' with
          | t i => exact hs.setg heq
          | c v => exact hs
        exact wp_cond_split hec (fun ht => ihx _ _ _ _ _ _ _ hx (hset _ ht) (by rw [ht] at hK; exact hK)) (fun ht => ihy _ _ _ _ _ _ _ hy (hset _ ht) (by rw [ht] at hK; exact hK))
      · exact hK.elim
    · cases ht
  | block id x ih =>
    intro ac s a w N X R ht hs hK
    simp only [trC, Option.map_eq_some_iff] at ht
    obtain ⟨x', hx, rfl⟩ := ht
    refine wp_block (wp_mono (ih _ _ _ _ _ _ _ hx hs hK) fun e a' w' hq => ?_)
    cases e with
    | normal => exact hq
    | exit j =>
      obtain ⟨s', h1, h2⟩ := hq
      simp only [Exit.inBlock]
      by_cases hj : j = id
      · rw [if_pos hj] at h2 ⊢
        exact ⟨s', h1, h2⟩
      · rw [if_neg hj] at h2 ⊢
        exact ⟨s', h1, h2⟩
    | ret => exact hq
    | _ => exact hq.elim
  | loop x ih =>
    intro ac s a w N X R ht hs hK
    simp only [trC, Option.map_eq_some_iff] at ht
    obtain ⟨x', hx, rfl⟩ := ht
    obtain ⟨Y, L, H, μ, ⟨s1, h0, y0, h1, h2⟩, hround⟩ := hK
    refine wp_loop_ghost (fun k a w => ∃ y, μ y = k ∧ Sat C n (St (L y) (H y)) a w) (μ y0) ⟨y0, rfl, Ent.st h1 h2 C n a w hC (h0 C n a w hC hs)⟩ ?_
    rintro k a1 w1 ⟨y, rfl, hsat⟩
    refine wp_mono (ih _ _ _ _ _ _ _ hx hsat (hround y)) fun e a' w' hq => ?_
    cases e with
    | normal =>
      obtain ⟨s', h1, s2, h2, y', h3, h4, h5⟩ := hq
      exact ⟨μ y', h5, y', rfl, Ent.st h3 h4 C n a' w' hC (h2 C n a' w' hC h1)⟩
    | exit j => exact hq
    | ret => exact hq
    | _ => exact hq.elim
  | exit id =>
    intro ac s a w N X R ht hs hK
    simp only [trC, Option.some.injEq] at ht
    subst ht
    exact wp_exit ⟨s, hs, hK⟩
  | ret =>
    intro ac s a w N X R ht hs hK
    simp only [trC, Option.some.injEq] at ht
    subst ht
    exact wp_ret ⟨s, hs, hK⟩
  | scope x ih =>
    intro ac s a w N X R ht hs hK
    simp only [trC] at ht
    refine wp_scope_straight (wp_mono (ih _ _ _ _ _ _ _ ht hs hK) fun e a' w' hq => ?_)
    cases e with
    | normal => exact hq
    | exit j => exact hq
    | ret => exact hq
    | _ => exact hq.elim
  | _ => intro ac s a w N X R ht; simp [trC] at ht

inductive RV where
  | t (i : Nat)
  | c1 (i : Nat)
  | cn (i n : Nat)
def trR (P : Program) : ResultVar → Option RV
  | .tmp t => some (.t t)
  | .cell a T => match isAggT P T, szT P T with
    | some true, some n => some (.cn a n)
    | some false, _ => some (.c1 a)
    | _, _ => none
def trRs (P : Program) : List ResultVar → Option (List RV)
  | [] => some []
  | r :: l => match trR P r, trRs P l with
    | some a, some m => some (a :: m)
    | _, _ => none
def resV (s : S) : List RV → (List V → Prop) → Prop
  | [], K => K []
  | .t i :: l, K => resV s l fun vs => K (s.t i :: vs)
  | .c1 i :: l, K => load1V s.h (s.t i) fun v => resV s l fun vs => K (v :: vs)
  | .cn i n :: l, K => loadnV s.h n (s.t i) fun v => resV s l fun vs => K (v :: vs)
def oneV : List V → V
  | [v] => v
  | vs => .tup vs
/-- what a function's end asks: the results, and which objects are handed back -/
def fin (rv : List RV) (post : V → Hp → Prop) (s : S) : Prop :=
  ∃ s', Ent s s' ∧ resV s' rv fun vs => Fz (oneV vs) ∧ ∃ h', (∀ k o, h' k = some o → s'.h k = some o ∧ o.Fz) ∧ post (oneV vs) h'

section
variable {P : Program} {C : Ctx} {F : Nat → Prop} {n : Nat} {w : World} {a : Act} {s : S}

def resRun (tmps : Array Value) (r : ResultVar) : Sem Value := match r with
  | .tmp t => pure (tmps.getD t undef)
  | .cell a t => do loadVar t (← asAddr (tmps.getD a undef))

theorem res_run (hh : HSat C F s.h w) (hr : ∀ i : Nat, Rel F C.B w (s.t i) (a.tmps.getD i undef)) : ∀ (rs : List ResultVar) (rv : List RV) (K : List V → Prop), trRs P rs = some rv → resV s rv K →
    ∃ vs us, (rs.mapM (resRun a.tmps)).run P w = .ok us w ∧ us.length = vs.length ∧ (∀ (i : Nat) (v : V) (u : Value), vs[i]? = some v → us[i]? = some u → Rel F C.B w v u) ∧ K vs := by
  intro rs
  induction rs with
  | nil =>
    intro rv K ht hK
    simp only [trRs, Option.some.injEq] at ht
    subst ht
    exact ⟨[], [], by simp [Sem.run_pure], rfl, by simp, hK⟩
  | cons r rs ih =>
    intro rv K ht hK
    simp only [trRs] at ht
    split at ht
    · rename_i x m hx hm
      cases ht
      have cons : ∀ (v : V) (u : Value), (resRun a.tmps r).run P w = .ok u w → Rel F C.B w v u → resV s m (fun vs => K (v :: vs)) →
          ∃ vs us, ((r :: rs).mapM (resRun a.tmps)).run P w = .ok us w ∧ us.length = vs.length ∧ (∀ (i : Nat) (v : V) (u : Value), vs[i]? = some v → us[i]? = some u → Rel F C.B w v u) ∧ K vs := by
        intro v u hu hv hk
        obtain ⟨vs, us, h1, h2, h3, h4⟩ := ih m _ hm hk
        refine ⟨v :: vs, u :: us, ?_, by simp [h2], fun i v' u' hv' hu' => ?_, h4⟩
        · rw [List.mapM_cons]
          simp only [Sem.run_bind, hu, Result.andThen_ok, h1, Sem.run_pure]
        · cases i with
          | zero => simp at hv' hu'; subst hv' hu'; exact hv
          | succ i => exact h3 i v' u' (by simpa using hv') (by simpa using hu')
      cases r with
      | tmp t =>
        simp only [trR, Option.some.injEq] at hx
        subst hx
        exact cons (s.t t) (a.tmps.getD t undef) (by simp only [resRun, Sem.run_pure]) (hr t) hK
      | cell ad T =>
        simp only [trR] at hx
        split at hx
        · rename_i n hg hn
          cases hx
          obtain ⟨ad', v, u, hu, hrun, hv, hk⟩ := loadn_core (T := T) hg hn hh (hr ad) hK
          exact cons v u (by simp only [resRun, hu, asAddr, Sem.run_bind, Sem.run_pure, Result.andThen_ok, hrun]) hv hk
        · rename_i hg
          cases hx
          obtain ⟨ad', v, u, hu, hrun, hv, hk⟩ := load1_core (T := T) hg hh (hr ad) hK
          exact cons v u (by simp only [resRun, hu, asAddr, Sem.run_bind, Sem.run_pure, Result.andThen_ok, hrun]) hv hk
        · cases hx
    · cases ht

theorem results_eq (fn : Func) (tmps : Array Value) : results fn tmps = (do let vs ← fn.results.mapM (resRun tmps); pure (if h : vs.size = 1 then vs[0] else .tuple vs)) := rfl
theorem results_run {fn : Func} {us : List Value} (h : (fn.results.toList.mapM (resRun a.tmps)).run P w = .ok us w) : (results fn a.tmps).run P w = .ok (if h : us.toArray.size = 1 then us.toArray[0] else .tuple us.toArray) w := by
  rw [results_eq, Array.mapM_eq_mapM_toList]
  simp only [Sem.run_bind, Sem.run_map, h, Result.andThen_ok, Sem.run_pure]

/-- the slots at a call's begin -/
def sl0 : List V → Nat → V
  | [], _ => .junk
  | v :: _, 0 => v
  | _ :: l, i + 1 => sl0 l i
theorem sl0_eq : ∀ (l : List V) (i : Nat), sl0 l i = l.getD i .junk
  | [], _ => by simp [sl0]
  | v :: l, 0 => by simp [sl0]
  | v :: l, i + 1 => by rw [sl0, sl0_eq l i]; simp
def S0 (args : List V) (hp : Hp) : S := ⟨sl0 args, hp⟩

theorem spec_of {f : Nat} {fn : Func} {c : Code} {ac : AC} {rv : List RV} {args : List V} {hp : Hp} {post : V → Hp → Prop} {D : Array Oper → List AO → Bool} (hD : DrawOk P D) (hf : P.funcs[f]? = some fn) (hname : fn.name ≠ "runtime.NumGoroutine") (hb : fn.body = some c) (hc : trC P fn.ntmps D c = some ac) (hrv : trRs P fn.results.toList = some rv)
    (hn : args.length ≤ fn.ntmps) (hK : awp std (CallE P) (CallP P) ac (S0 args hp) (fin rv post) (fun _ _ => False) (fin rv post)) : Spec P f args hp post := by
  refine ⟨⟨fn, hf, hname, c, hb⟩, fun C us hC hl hargs hhp => ?_⟩
  refine calls_of_wp hf hb ?_
  have hs0 : HSat C C.F0 hp C.w0 := ⟨fun k o hk => (hhp.ob k o hk).mono (fun _ h => h) (fun _ h => h.elim), hhp.inj, hhp.live, hhp.old, hhp.new, hhp.lt, hhp.ev⟩
  have hsat : Sat C fn.ntmps (S0 args hp) { tmps := us ++ Array.replicate (fn.ntmps - us.size) undef, defers := [] } C.w0 := by
    refine ⟨⟨C.F0, hs0, fun i => ?_⟩, rfl, by simp; omega⟩
    simp only [S0, sl0_eq]
    by_cases hi : i < args.length
    · have hi' : i < us.size := by omega
      have h1 : args[i]? = some (args.getD i .junk) := by rw [List.getD_eq_getElem?_getD, List.getElem?_eq_getElem hi]; rfl
      have h2 : us[i]? = some ((us ++ Array.replicate (fn.ntmps - us.size) undef).getD i undef) := by
        simp [hi', Array.getElem?_append_left]
      exact hargs i _ _ h1 h2
    · have h1 : args.getD i .junk = .junk := by rw [List.getD_eq_getElem?_getD, List.getElem?_eq_none (by omega)]; rfl
      rw [h1]
      exact .junk _
  refine wp_mono (awp_sound hD hC c ac _ _ _ _ _ _ hc hsat hK) fun e a' w' hq => ?_
  have last : (∃ s, Sat C fn.ntmps s a' w' ∧ fin rv post s) → a'.defers = [] ∧ ∃ v, (results fn a'.tmps).run P w' = .ok v w' ∧ ∃ u v_1 h' F', Ending.returned v = .returned u ∧ Rel F' (fun _ => False) w' v_1 u ∧ HSat C.nb F' h' w' ∧ post v_1 h' := by
    rintro ⟨s1, hs1, s2, hent, hres⟩
    have hs2 := hent C _ a' w' hC hs1
    obtain ⟨F, hh, hr⟩ := hs2.ex
    obtain ⟨vs, us', h1, h2, h3, h4, h', h5, h6⟩ := res_run hh hr _ _ _ hrv hres
    refine ⟨hs2.df, _, results_run h1, _, oneV vs, h', F, rfl, ?_, ⟨fun k o hk => ?_, fun k k' o o' b hk hk' => hh.inj k k' o o' b (h5 k o hk).1 (h5 k' o' hk').1, fun k o b hk => hh.live k o b (h5 k o hk).1, hh.old, hh.new, hh.lt, hh.ev⟩, h6⟩
    · refine Rel.fz (B := C.B) ?_ h4
      match vs, us', h2, h3 with
      | [], [], _, _ => exact .tup _ _ rfl (by simp)
      | [v], [u], _, h3 => exact h3 0 v u rfl rfl
      | v1 :: v2 :: vs, u1 :: u2 :: us', h2, h3 =>
        have hne : ¬ ((u1 :: u2 :: us').toArray.size = 1) := by simp
        rw [dif_neg hne]
        exact .tup _ _ (by simpa using h2) fun i v u hv hu => h3 i v u hv (by simpa using hu)
    · exact (hh.ob k o (h5 k o hk).1).fz (h5 k o hk).2
  cases e with
  | normal => exact last hq
  | ret => exact last hq
  | exit j => obtain ⟨_, _, h⟩ := hq; exact h.elim
  | _ => exact hq.elim
end
end Go.Proofs.Ytobngncjflogcaa.AM

set_option linter.unusedVariables false
set_option linter.unusedSimpArgs false
namespace Go.Proofs.Ytobngncjflogcaa.AM
open Go

/-- a slice that is nil becomes an object of the call's own -/
def S.nil (s : S) (i k ty sz : Nat) : S := ⟨upd s.t i (.own k none sz 0), s.h.put k ⟨none, ty, sz, []⟩⟩
theorem Ent.nil {s : S} {i k ty sz : Nat} (hi : s.t i = .nilsl) (hk : s.h k = none) : Ent s (s.nil i k ty sz) := by
  intro C n a w hC hs
  obtain ⟨F, h1, h2⟩ := hs.ex
  refine ⟨⟨F, h1.step hC (L := fun _ => False) (Ev.refl _ _) (fun _ _ h => h.elim) (show ObSat F C.B w ⟨none, ty, sz, []⟩ from rfl) (fun b hb => by cases hb), fun j => ?_⟩, hs.df, hs.sz⟩
  simp only [S.nil, upd]
  by_cases hj : j = i
  · rw [if_pos hj]
    have := h2 i
    rw [hi] at this
    rw [hj]
    generalize a.tmps.getD i undef = u at this
    cases this
    exact .ownnil _ _
  · rw [if_neg hj]; exact h2 j


theorem Next.intro {Y : Type} {L : Y → List (Nat × V)} {H : Y → List (Nat × Ob)} {μ : Y → Nat} {y : Y} {s : S} (y' : Y) (hl : agree (L y') s) (hh : agreeH (H y') s) (hm : μ y' < μ y) : Next L H μ y s := ⟨s, Ent.refl s, y', hl, hh, hm⟩

structure FnOk (P : Program) (f : Nat) (fn : Func) (ac : AC) (rv : List RV) (n : Nat) (D : Array Oper → List AO → Bool) : Prop where
  func : P.funcs[f]? = some fn
  name : fn.name ≠ "runtime.NumGoroutine"
  body : fn.body.bind (trC P fn.ntmps D) = some ac
  res : trRs P fn.results.toList = some rv
  args : n ≤ fn.ntmps
/-- the results are these -/
def Ret (rv : List RV) (vs : List V) (s : S) : Prop := resV s rv fun x => x = vs
/-- what is answered, and no object is handed back -/
def Is (v : V) : V → Hp → Prop := fun x h => x = v ∧ h = Hp.emp

theorem spec_pure {P : Program} {f : Nat} {fn : Func} {ac : AC} {rv : List RV} {args : List V} {D : Array Oper → List AO → Bool} (hD : DrawOk P D) (ok : FnOk P f fn ac rv args.length D) (vs : List V) (hz : Fz (oneV vs))
    (h : ∀ R, (∀ s s', Ent s s' → Ret rv vs s' → R s) → awp std (CallE P) (CallP P) ac (S0 args Hp.emp) R (fun _ _ => False) R) : Spec P f args Hp.emp (Is (oneV vs)) := by
  obtain ⟨c, hc, hac⟩ := Option.bind_eq_some_iff.1 ok.body
  refine spec_of hD ok.func ok.name hc hac ok.res ok.args (h _ fun s s' he hr => ⟨s', he, ?_⟩)
  unfold Ret at hr
  have mono : ∀ (rv : List RV) (K K' : List V → Prop), (∀ x, K x → K' x) → resV s' rv K → resV s' rv K' := by
    intro rv
    induction rv with
    | nil => intro K K' hK h; exact hK _ h
    | cons r rv ih =>
      intro K K' hK h
      cases r with
      | t i => exact ih _ _ (fun x hx => hK _ hx) h
      | c1 i =>
        simp only [resV] at h ⊢
        unfold load1V at h ⊢
        split at h
        · unfold rowC at h ⊢
          split at h
          · obtain ⟨a1, a2, a3, a4, a5⟩ := h
            exact ⟨a1, a2, a3, a4, ih _ _ (fun x hx => hK _ hx) a5⟩
          · exact h.elim
        · exact ⟨h.1, ih _ _ (fun x hx => hK _ hx) h.2⟩
        · exact h.elim
      | cn i n =>
        simp only [resV] at h ⊢
        unfold loadnV at h ⊢
        split at h
        · unfold rowC at h ⊢
          split at h
          · obtain ⟨a1, a2, a3, a4, a5⟩ := h
            exact ⟨a1, a2, a3, a4, ih _ _ (fun x hx => hK _ hx) a5⟩
          · exact h.elim
        · exact ⟨h.1, ih _ _ (fun x hx => hK _ hx) h.2⟩
        · exact h.elim
  exact mono rv _ _ (fun x hx => by subst hx; exact ⟨hz, Hp.emp, by simp [Hp.emp], rfl, rfl⟩) hr

/-- a call that only answers -/
theorem call_pure {P : Program} {f : Nat} {args args' : List V} {v : V} {h : Hp} {K : V → Hp → Prop} (hs : Spec P f args' Hp.emp (Is v)) (ha : Args h [] args args') (hK : K (v.ren (lab [])) h) : CallW P f args h K :=
  ⟨[], args', Hp.emp, Is v, hs, ha, by simp [Hp.emp], by simp, by rintro v' h' ⟨rfl, rfl⟩; exact hK⟩
theorem call_pureP {P : Program} {f : Nat} {args args' : List V} {v : V} {h : Hp} {K : V → Hp → Prop} (hs : Spec P f args' Hp.emp (Is v)) (ha : Args h [] args args') (hK : K (v.ren (lab [])) h) : CallP P f args h K :=
  ⟨[], args', Hp.emp, v, ⟨hs.fn, fun C us a b c d => (hs.run C us a b c d).mono (by rintro e w' ⟨u, v', h', F', e1, e2, e3, rfl, rfl⟩; exact ⟨u, v', _, F', e1, e2, e3, rfl, rfl⟩)⟩, ha, by simp [Hp.emp], by simp, hK⟩
/-- a call of either kind that only answers -/
def Ans (T : CallT) (f : Nat) (args : List V) (v : V) : Prop := ∀ (h : Hp) (K : V → Hp → Prop), K v h → T f args h K
theorem ansW {P : Program} {f : Nat} {args args' : List V} {v : V} (hs : Spec P f args' Hp.emp (Is v)) (ha : ∀ h, Args h [] args args') (hv : v.ren (lab []) = v) : Ans (CallE P) f args v := fun h K hK => ⟨h, fun _ F _ _ hs => ⟨F, fun _ h => h, hs⟩, call_pure hs (ha h) (by rw [hv]; exact hK)⟩
theorem ansP {P : Program} {f : Nat} {args args' : List V} {v : V} (hs : Spec P f args' Hp.emp (Is v)) (ha : ∀ h, Args h [] args args') (hv : v.ren (lab []) = v) : Ans (CallP P) f args v := fun h K hK => call_pureP hs (ha h) (by rw [hv]; exact hK)
end Go.Proofs.Ytobngncjflogcaa.AM

set_option linter.unusedVariables false
set_option linter.unusedSimpArgs false
namespace Go.Proofs.Ytobngncjflogcaa.AM
open Go

/-- the operands of an operation -/
def AOp.opds : AOp → List Opd
  | .mov x => [x]
  | .pick c a b => [c, a, b]
  | .alloc _ _ => []
  | .box _ _ x => [x]
  | .build _ ps => ps.map (·.2.2)
  | .bslice _ _ ps => ps
  | .load1 x => [x]
  | .loadn _ x => [x]
  | .store _ x v => [x, v]
  | .nilchk x => [x]
  | .bin _ x y => [x, y]
  | .eqb _ x y => [x, y]
  | .eqp _ x y => [x, y]
  | .eqn _ x => [x]
  | .eqs _ _ x y => [x, y]
  | .not x => [x]
  | .conv _ x => [x]
  | .mkslice _ _ _ _ l c => [l, c]
  | .slstr x lo hi => x :: (lo.toList ++ hi.toList)
  | .slsl _ x lo hi => x :: (lo.toList ++ hi.toList)
  | .faddr _ x => [x]
  | .fld1 _ x => [x]
  | .fldn _ _ x => [x]
  | .iaddr _ x i => [x, i]
  | .iarr _ _ x i => [x, i]
  | .ixs x i => [x, i]
  | .ext _ x => [x]
  | .len _ x => [x]
  | .mm _ x y => [x, y]
  | .append _ _ _ x y => [x, y]
  | .call _ xs => xs
  | .callv x xs => x :: xs
  | .mkfn _ xs => xs
  | .convbs x => [x]
  | .dead => []
  | .ixa _ _ _ x i => [x, i]

theorem aopP_congr {p : Prim} {T : CallT} {op : AOp} {ev ev' : Opd → V} {h : Hp} {k : Nat} {K : V → Hp → Prop} (he : ∀ x ∈ op.opds, ev x = ev' x) : aopP p T op ev h k K = aopP p T op ev' h k K := by
  cases op <;> simp only [AOp.opds] at he <;> simp only [aopP]
  case build z ps =>
    have e : ∀ q ∈ ps, ev q.2.2 = ev' q.2.2 := fun q hq => he _ (List.mem_map.2 ⟨q, hq, rfl⟩)
    have e1 : (ps.all fun q => fitsB q.2.1 (ev q.2.2)) = ps.all fun q => fitsB q.2.1 (ev' q.2.2) := by
      rw [Bool.eq_iff_iff, List.all_eq_true, List.all_eq_true]
      exact ⟨fun h q hq => by rw [← e q hq]; exact h q hq, fun h q hq => by rw [e q hq]; exact h q hq⟩
    have e2 : (ps.map fun q => (q.1, (ev q.2.2).cells)) = ps.map fun q => (q.1, (ev' q.2.2).cells) := List.map_congr_left fun q hq => by rw [e q hq]
    rw [e1, e2]
  case bslice ty sz ps =>
    have e1 : (ps.all fun q => fitsB sz (ev q)) = ps.all fun q => fitsB sz (ev' q) := by
      rw [Bool.eq_iff_iff, List.all_eq_true, List.all_eq_true]
      exact ⟨fun h q hq => by rw [← he q hq]; exact h q hq, fun h q hq => by rw [he q hq]; exact h q hq⟩
    have e2 : (ps.map fun q => (ev q).cells) = ps.map fun q => (ev' q).cells := List.map_congr_left fun q hq => by rw [he q hq]
    rw [e1, e2]
  case call f xs => rw [List.map_congr_left he]
  case mkfn f xs => rw [List.map_congr_left he]
  case callv x xs => rw [he x (by simp), List.map_congr_left fun q hq => he q (by simp [hq])]
  case slstr x lo hi =>
    rw [he x (by simp)]
    cases lo <;> cases hi <;> simp_all
  case slsl sz x lo hi =>
    rw [he x (by simp)]
    cases lo <;> cases hi <;> simp_all
  all_goals (simp_all)

def AOp.isPure : AOp → Bool
  | .mov _ | .pick .. | .build .. | .nilchk _ | .bin .. | .eqb .. | .eqp .. | .not _ | .conv .. | .slstr .. | .slsl .. | .faddr .. | .fld1 .. | .fldn .. | .iaddr .. | .iarr .. | .ixs .. | .ext .. | .mm .. => true
  | .len .. => true
  | .eqs .. => true
  | .mkfn .. => true
  | _ => false
def AOp.isRead : AOp → Bool
  | .load1 _ | .loadn .. => true
  | _ => false

/-- a question that has one answer -/
def Det (Φ : (V → Prop) → Prop) : Prop := ∀ K, Φ K → ∃ v, K v ∧ ∀ K2, (Φ K2 ↔ K2 v)
theorem Det.unit (v : V) : Det fun K => K v := fun K h => ⟨v, h, fun _ => Iff.rfl⟩
theorem Det.no : Det fun _ => False := fun K h => h.elim
theorem Det.and {A : Prop} {Φ : (V → Prop) → Prop} (h : Det Φ) : Det fun K => A ∧ Φ K := fun K ⟨a, hk⟩ => by
  obtain ⟨v, h1, h2⟩ := h K hk
  exact ⟨v, h1, fun K2 => ⟨fun hh => (h2 K2).1 hh.2, fun hh => ⟨a, (h2 K2).2 hh⟩⟩⟩
theorem Det.ex {α : Type} {A : α → Prop} {Φ : α → (V → Prop) → Prop} (hu : ∀ x y, A x → A y → x = y) (h : ∀ x, Det (Φ x)) : Det fun K => ∃ x, A x ∧ Φ x K := fun K ⟨x, a, hk⟩ => by
  obtain ⟨v, h1, h2⟩ := h x K hk
  exact ⟨v, h1, fun K2 => ⟨fun ⟨y, b, hh⟩ => by rw [hu y x b a] at hh; exact (h2 K2).1 hh, fun hh => ⟨x, a, (h2 K2).2 hh⟩⟩⟩
theorem Det.arith (k : IntKind) (n : Int) : Det (arithP std k n) := by
  cases k <;> first | exact Det.unit _ | exact Det.and (Det.unit _)
theorem Det.bin (op : BinOp) (x y : V) : Det (binP std op x y) := by
  cases x <;> cases y <;> try (cases op <;> exact Det.no)
  case int.int k a k' b =>
    cases op <;> first | exact Det.no | exact Det.and (Det.arith _ _) | exact Det.and (Det.and (Det.and (Det.arith _ _))) | exact Det.and (Det.and (Det.and (Det.unit _))) | exact Det.and (Det.and (Det.arith _ _)) | exact Det.and (Det.and (Det.unit _)) | exact Det.and (Det.unit _)
  case str.str a b =>
    cases op <;> first | exact Det.no | exact Det.and (Det.unit _) | exact Det.unit _
theorem Det.len (s : Bool) (x : V) : Det (lenP std s x) := by
  cases s <;> cases x <;> first | exact Det.no | exact Det.unit _
theorem Det.eqb (n : Bool) (x y : V) : Det (eqbK n x y) := by
  cases x <;> cases y <;> first | exact Det.no | exact Det.unit _
theorem Det.eqp (n : Bool) (x y : V) : Det (eqpK n x y) := by
  unfold eqpK
  cases eqP x y with
  | none => exact Det.no
  | some b => exact Det.unit _
theorem Det.c1 {t : Nat} {x y : V} {Φ : Bool → (V → Prop) → Prop} (h : ∀ b, Det (Φ b)) : Det fun K => eqC1 std t x y fun b => Φ b K := by
  unfold eqC1
  split
  · exact h _
  · exact Det.and (h _)
  · exact h _
  · exact Det.no
theorem Det.cs : ∀ {ts : List Nat} {cs ds : List V} {Φ : Bool → (V → Prop) → Prop}, (∀ b, Det (Φ b)) → Det fun K => eqCs std ts cs ds fun b => Φ b K
  | [], [], [], Φ, h => h true
  | [t], [a], [b], Φ, h => Det.c1 h
  | t :: t2 :: ts, a :: l, b :: m, Φ, h => Det.c1 fun x => Det.cs fun y => h _
  | [t], a :: a2 :: l, b :: m, Φ, h => Det.c1 fun x => Det.no
  | [t], [a], b :: b2 :: m, Φ, h => Det.c1 fun x => Det.no
  | [], _ :: _, _, Φ, h => by simp only [eqCs]; exact Det.no
  | [], [], _ :: _, Φ, h => by simp only [eqCs]; exact Det.no
  | _ :: _, [], _, Φ, h => by simp only [eqCs]; exact Det.no
  | _ :: _, _ :: _, [], Φ, h => by simp only [eqCs]; exact Det.no
theorem Det.eqs (n : Bool) (ts : List Nat) (x y : V) : Det (eqsP std n ts x y) := by
  cases x <;> cases y <;> try exact Det.no
  cases n
  · exact Det.cs (Φ := fun b K => K (.bool b)) fun b => Det.unit _
  · refine Det.cs (Φ := fun b K => br b (fun _ => K (.bool false)) (fun _ => K (.bool true))) fun b => ?_
    cases b
    · exact Det.unit (.bool true)
    · exact Det.unit (.bool false)
theorem Det.nth (cs : List V) (i : Nat) : Det (nthC cs i) := Det.and (Det.unit _)
theorem Det.lo {lo : Option V} {Φ : Int → (V → Prop) → Prop} (h : ∀ a, Det (Φ a)) : Det fun K => loV lo fun a => Φ a K := by
  cases lo with
  | none => exact h 0
  | some v => cases v <;> first | exact h _ | exact Det.no
theorem Det.hi {hi : Option V} {n : Int} {Φ : Int → (V → Prop) → Prop} (h : ∀ a, Det (Φ a)) : Det fun K => hiP std hi n fun a => Φ a K := by
  cases hi with
  | none => exact h n
  | some v => cases v <;> first | exact h _ | exact Det.no

theorem of_det {T : CallT} {op : AOp} {ev : Opd → V} {h : Hp} {k : Nat} {K : V → Hp → Prop} {Φ : (V → Prop) → Prop} (hd : Det Φ) (he : ∀ h2 k2 (K2 : V → Hp → Prop), aopP std T op ev h2 k2 K2 = Φ fun v => K2 v h2) (hh : aopP std T op ev h k K) :
    ∃ v, K v h ∧ ∀ h2 k2 (K2 : V → Hp → Prop), (aopP std T op ev h2 k2 K2 ↔ K2 v h2) := by
  rw [he] at hh
  obtain ⟨v, h1, h2⟩ := hd _ hh
  exact ⟨v, h1, fun g k2 K2 => by rw [he]; exact h2 _⟩

/-- a pure operation: one value, whatever lies in memory -/
theorem pure_det {T : CallT} {op : AOp} {ev : Opd → V} {h : Hp} {k : Nat} {K : V → Hp → Prop} (hp : op.isPure = true) (hh : aopP std T op ev h k K) :
    ∃ v, K v h ∧ ∀ h2 k2 (K2 : V → Hp → Prop), (aopP std T op ev h2 k2 K2 ↔ K2 v h2) := by
  cases op <;> try (cases hp; done)
  case mov x => exact of_det (Det.unit (ev x)) (fun _ _ _ => rfl) hh
  case pick c a b =>
    cases hc : ev c <;> try (simp only [aopP, hc] at hh; done)
    case bool t =>
      cases t
      · exact of_det (Det.unit (ev b)) (fun _ _ _ => by simp only [aopP, hc]) hh
      · exact of_det (Det.unit (ev a)) (fun _ _ _ => by simp only [aopP, hc]) hh
  case build z ps => exact of_det (Det.and (Det.unit _)) (fun _ _ _ => rfl) hh
  case nilchk x =>
    cases hc : ev x <;> try (simp only [aopP, hc] at hh; done)
    all_goals exact of_det (Det.unit (ev x)) (fun _ _ _ => by simp only [aopP, hc]) hh
  case bin op x y => exact of_det (Det.bin op (ev x) (ev y)) (fun _ _ _ => rfl) hh
  case eqb n x y => exact of_det (Det.eqb n (ev x) (ev y)) (fun _ _ _ => rfl) hh
  case eqp n x y => exact of_det (Det.eqp n (ev x) (ev y)) (fun _ _ _ => rfl) hh
  case eqs n ts x y => exact of_det (Det.eqs n ts (ev x) (ev y)) (fun _ _ _ => rfl) hh
  case mkfn f xs => exact of_det (Det.unit (.fn f (xs.map ev))) (fun _ _ _ => rfl) hh
  case not x =>
    cases hc : ev x <;> try (simp only [aopP, hc] at hh; done)
    case bool t =>
      cases t
      · exact of_det (Det.unit (.bool true)) (fun _ _ _ => by simp only [aopP, hc, br]) hh
      · exact of_det (Det.unit (.bool false)) (fun _ _ _ => by simp only [aopP, hc, br]) hh
  case conv kd x =>
    cases hc : ev x <;> try (simp only [aopP, hc] at hh; done)
    case int k n => exact of_det (Det.unit (.int kd (std.wrap kd n))) (fun _ _ _ => by simp only [aopP, hc]) hh
  case slstr x lo hi =>
    cases hc : ev x <;> try (simp only [aopP, hc] at hh; done)
    case str l => exact of_det (Det.lo (lo := lo.map ev) fun a => Det.hi (hi := hi.map ev) (n := std.slen l) fun b => Det.and (A := std.leP 0 a) (Det.and (A := std.leP a b) (Det.and (A := std.leP b (std.slen l)) (Det.unit (.str (std.ssub l a b)))))) (fun _ _ _ => by simp only [aopP, hc]) hh
  case slsl sz x lo hi =>
    cases hc : ev x <;> try (simp only [aopP, hc] at hh; done)
    case sl t sz' rows => exact of_det (Det.and (A := sz' = sz) (Det.lo (lo := lo.map ev) fun a => Det.hi (hi := hi.map ev) (n := std.rlen rows) fun b => Det.and (A := std.leP 0 a) (Det.and (A := std.leP a b) (Det.and (A := std.leP b (std.rlen rows)) (Det.unit (.sl t sz (std.rsub rows a b))))))) (fun _ _ _ => by simp only [aopP, hc]) hh
    case own j bk sz' n => exact of_det (Det.and (A := sz' = sz) (Det.lo (lo := lo.map ev) fun a => Det.hi (hi := hi.map ev) (n := std.int n) fun b => Det.and (A := std.leP 0 a) (Det.and (A := std.leP a b) (Det.and (A := std.leP b (std.int n)) (Det.unit (.win j bk sz a b)))))) (fun _ _ _ => by simp only [aopP, hc]) hh
  case faddr off x =>
    cases hc : ev x <;> try (simp only [aopP, hc] at hh; done)
    case ptr j b sz i o => exact of_det (Det.unit (.ptr j b sz i (o + off))) (fun _ _ _ => by simp only [aopP, hc]) hh
    case rp t cs => exact of_det (Det.unit (.rp t (cs.drop off))) (fun _ _ _ => by simp only [aopP, hc]) hh
  case fld1 off x =>
    cases hc : ev x <;> try (simp only [aopP, hc] at hh; done)
    case agg cs => exact of_det (Det.nth cs off) (fun _ _ _ => by simp only [aopP, hc]) hh
  case fldn off n x =>
    cases hc : ev x <;> try (simp only [aopP, hc] at hh; done)
    case agg cs => exact of_det (Det.and (A := off + n ≤ cs.length) (Det.unit (.agg ((cs.drop off).take n)))) (fun _ _ _ => by simp only [aopP, hc]) hh
  case iaddr sz x i =>
    cases hi : ev i <;> try (cases hc : ev x <;> simp only [aopP, hc, hi] at hh; done)
    case int ki ii =>
      cases hc : ev x <;> try (simp only [aopP, hc, hi] at hh; done)
      case sl t sz' rows =>
        refine of_det (Det.and (A := sz' = sz) (Det.and (A := std.leP 0 ii) (Det.ex (A := fun r => std.row rows (std.nat ii) r) (Φ := fun r K => K (.rp t r)) (fun x y h1 h2 => ?_) fun r => Det.unit _))) (fun _ _ _ => by simp only [aopP, hc, hi]) hh
        exact Option.some.inj ((Eq.symm h1).trans h2)
      case own j b sz' n => exact of_det (Det.and (A := sz' = sz) (Det.and (A := std.leP 0 ii) (Det.and (A := std.ltP ii (std.int n)) (Det.unit (.ptr j b sz (std.nat ii) 0))))) (fun _ _ _ => by simp only [aopP, hc, hi]) hh
      case win j b sz' lo hi2 => exact of_det (Det.and (A := sz' = sz) (Det.and (A := std.leP 0 ii) (Det.and (A := std.ltP ii (std.sub hi2 lo)) (Det.unit (.ptr j b sz (std.nat (std.add lo ii)) 0))))) (fun _ _ _ => by simp only [aopP, hc, hi]) hh
  case iarr len sz x i =>
    cases hi : ev i <;> try (cases hc : ev x <;> simp only [aopP, hc, hi] at hh; done)
    case int ki ii =>
      cases hc : ev x <;> try (simp only [aopP, hc, hi] at hh; done)
      case ptr j b sz' r off => exact of_det (Det.and (A := std.leP 0 ii) (Det.and (A := std.ltP ii len) (Det.ex (A := fun n => std.nat ii = n) (Φ := fun n K => K (.ptr j b sz' r (off + n * sz))) (fun x y h1 h2 => h1.symm.trans h2) fun n => Det.unit _))) (fun _ _ _ => by simp only [aopP, hc, hi]) hh
      case rp t cs => exact of_det (Det.and (A := std.leP 0 ii) (Det.and (A := std.ltP ii len) (Det.ex (A := fun n => std.nat ii = n) (Φ := fun n K => K (.rp t (cs.drop (n * sz)))) (fun x y h1 h2 => h1.symm.trans h2) fun n => Det.unit _))) (fun _ _ _ => by simp only [aopP, hc, hi]) hh
  case ixs x i =>
    cases hi : ev i <;> try (cases hc : ev x <;> simp only [aopP, hc, hi] at hh; done)
    case int ki ii =>
      cases hc : ev x <;> try (simp only [aopP, hc, hi] at hh; done)
      case str l => exact of_det (Det.and (A := std.leP 0 ii) (Det.and (A := std.ltP ii (std.slen l)) (Det.unit (.int .u8 (std.sat l ii))))) (fun _ _ _ => by simp only [aopP, hc, hi]) hh
  case ext i x =>
    cases hc : ev x <;> try (simp only [aopP, hc] at hh; done)
    case tup vs => exact of_det (Det.and (A := i < vs.length) (Det.unit (vs.getD i .junk))) (fun _ _ _ => by simp only [aopP, hc]) hh
  case len s x => exact of_det (Det.len s (ev x)) (fun _ _ _ => rfl) hh
  case mm mx x y =>
    cases mx <;> cases hi : ev y <;> try (cases hc : ev x <;> simp only [aopP, hc, hi] at hh; done)
    all_goals
      rename_i k' b
      cases hc : ev x <;> try (simp only [aopP, hc, hi] at hh; done)
    all_goals rename_i k a
    · exact of_det (Det.and (A := k = k') (Det.unit (.int k (std.mn a b)))) (fun _ _ _ => by simp only [aopP, hc, hi]) hh
    · exact of_det (Det.and (A := k = k') (Det.unit (.int k (std.mx a b)))) (fun _ _ _ => by simp only [aopP, hc, hi]) hh

def Hp.le (h h2 : Hp) : Prop := ∀ k o, h k = some o → h2 k = some o
theorem Hp.le_refl (h : Hp) : h.le h := fun _ _ h => h

theorem rowsOf_le {h h2 : Hp} (hl : h.le h2) {sz : Nat} {v : V} {rows : List (List V)} (hr : rowsOf h sz v = some rows) : rowsOf h2 sz v = some rows := by
  cases v <;> try exact hr
  rename_i k b sz' n
  simp only [rowsOf] at hr ⊢
  cases hk : h k with
  | none => rw [hk] at hr; cases hr
  | some o => rw [hk] at hr; rw [hl k o hk]; exact hr
theorem Arg.le {h h2 : Hp} (hl : h.le h2) {m : List (Nat × Nat)} {v v' : V} (ha : Arg h m v v') : Arg h2 m v v' := by
  induction ha with
  | same v => exact .same v
  | own k b sz n rows hr hm => exact .own k b sz n rows (rowsOf_le hl hr) hm
  | weak sz rows => exact .weak sz rows
  | nil t sz => exact .nil t sz
  | agg cs cs' hl' ha ih => exact .agg cs cs' hl' ih
theorem Args.le {h h2 : Hp} (hl : h.le h2) {m : List (Nat × Nat)} {l l' : List V} (ha : Args h m l l') : Args h2 m l l' := by
  induction ha with
  | nil => exact .nil
  | cons a b ih => exact .cons (a.le hl) ih

/-- an operation with one answer that does not hang on what is new in memory -/
def Fun (T : CallT) (op : AOp) : Prop := ∀ (ev : Opd → V) (h : Hp) (k : Nat) (K : V → Hp → Prop), aopP std T op ev h k K →
  ∃ v, K v h ∧ ∀ (h2 : Hp) (k2 : Nat) (K2 : V → Hp → Prop), h.le h2 → K2 v h2 → aopP std T op ev h2 k2 K2

theorem rowP_le {h h2 : Hp} (hl : h.le h2) {k sz i : Nat} {b : Option Nat} {K K2 : Ob → List V → Prop} (hh : rowP std h k b sz i K) (hK : ∀ o r, K o r → K2 o r) : rowP std h2 k b sz i K2 := by
  unfold rowP at *
  cases hk : h k with
  | none => rw [hk] at hh; exact hh.elim
  | some o =>
    rw [hk] at hh
    rw [hl k o hk]
    obtain ⟨h1, h2, h3⟩ := hh
    refine ⟨h1, h2, ?_⟩
    split at h3
    · split at h3
      · exact hK _ _ h3
      · exact h3.elim
    · obtain ⟨r, hr, h4⟩ := h3
      exact ⟨r, hr, hK _ _ h4⟩
theorem rowP_one {h : Hp} {k sz i : Nat} {b : Option Nat} {Φ : List V → (V → Prop) → Prop} (hΦ : ∀ r, Det (Φ r)) {K : V → Prop} (hh : rowP std h k b sz i fun _ r => Φ r K) :
    ∃ v, K v ∧ ∀ (h2 : Hp) (K2 : V → Prop), h.le h2 → K2 v → rowP std h2 k b sz i fun _ r => Φ r K2 := by
  unfold rowP at hh
  cases hk : h k with
  | none => rw [hk] at hh; exact hh.elim
  | some o =>
    rw [hk] at hh
    obtain ⟨h1, h2, h3⟩ := hh
    split at h3
    · rename_i hb
      split at h3
      · rename_i r hro
        obtain ⟨v, g1, g2⟩ := hΦ r K h3
        refine ⟨v, g1, fun h4 K2 hl hk2 => ?_⟩
        unfold rowP
        rw [hl k o hk]
        refine ⟨h1, h2, ?_⟩
        rw [hb, hro]
        exact (g2 K2).2 hk2
      · exact h3.elim
    · rename_i hb
      obtain ⟨r, hr, h4⟩ := h3
      obtain ⟨v, g1, g2⟩ := hΦ r K h4
      refine ⟨v, g1, fun h5 K2 hl hk2 => ?_⟩
      unfold rowP
      rw [hl k o hk]
      refine ⟨h1, h2, ?_⟩
      rw [hb]
      exact ⟨r, hr, (g2 K2).2 hk2⟩

theorem fun_of {P : Program} {op : AOp} (hc : op.isPure = true ∨ op.isRead = true ∨ (∃ f xs, op = .call f xs) ∨ ∃ x xs, op = .callv x xs) : Fun (CallP P) op := by
  intro ev h k K hh
  have call : ∀ f xs, CallP P f xs h K → ∃ v, K v h ∧ ∀ (h2 : Hp) (K2 : V → Hp → Prop), h.le h2 → K2 v h2 → CallP P f xs h2 K2 := by
    rintro f xs ⟨m, args', hp, v, h1, h2, h3, h4, h5⟩
    refine ⟨_, h5, fun g K2 hl hk => ⟨m, args', hp, v, h1, h2.le hl, h3, fun p hp' => ?_, hk⟩⟩
    obtain ⟨a1, a2, o, a3, a4, a5⟩ := h4 p hp'
    refine ⟨a1, a2, o, a3, ?_, a5⟩
    simp only [Option.map_eq_some_iff] at a4 ⊢
    obtain ⟨ob, hob, he⟩ := a4
    exact ⟨ob, hl _ _ hob, he⟩
  rcases hc with hc | hc | ⟨f, xs, rfl⟩ | ⟨x, xs, rfl⟩
  · obtain ⟨v, h1, h2⟩ := pure_det hc hh
    exact ⟨v, h1, fun g k2 K2 _ hk => (h2 g k2 K2).2 hk⟩
  · cases op <;> try (cases hc; done)
    case load1 x =>
      cases hx : ev x <;> try (simp only [aopP, hx, load1P] at hh; done)
      case ptr j b sz i off =>
        simp only [aopP, hx, load1P] at hh
        obtain ⟨v, h1, h2⟩ := rowP_one (Φ := fun r => nthC r off) (fun r => Det.nth r off) hh
        exact ⟨v, h1, fun g k2 K2 hl hk => by simp only [aopP, hx, load1P]; exact h2 g (fun v => K2 v g) hl hk⟩
      case rp t cs =>
        simp only [aopP, hx, load1P] at hh
        obtain ⟨v, h1, h2⟩ := Det.nth cs 0 _ hh
        exact ⟨v, h1, fun g k2 K2 hl hk => by simp only [aopP, hx, load1P]; exact (h2 _).2 hk⟩
    case loadn n x =>
      cases hx : ev x <;> try (simp only [aopP, hx, loadnP] at hh; done)
      case ptr j b sz i off =>
        simp only [aopP, hx, loadnP] at hh
        obtain ⟨v, h1, h2⟩ := rowP_one (K := fun v => K v h) (Φ := fun r K => off + n ≤ r.length ∧ K (.agg ((r.drop off).take n))) (fun r => Det.and (Det.unit _)) hh
        exact ⟨v, h1, fun g k2 K2 hl hk => by simp only [aopP, hx, loadnP]; exact h2 g (fun v => K2 v g) hl hk⟩
      case rp t cs =>
        simp only [aopP, hx, loadnP] at hh
        exact ⟨_, hh.2, fun g k2 K2 hl hk => by simp only [aopP, hx, loadnP]; exact ⟨hh.1, hk⟩⟩
  · obtain ⟨v, h1, h2⟩ := call f _ hh
    exact ⟨v, h1, fun g k2 K2 hl hk => h2 g K2 hl hk⟩
  · cases hx : ev x <;> try (simp only [aopP, hx] at hh; done)
    simp only [aopP, hx] at hh
    obtain ⟨v, h1, h2⟩ := call _ _ hh
    exact ⟨v, h1, fun g k2 K2 hl hk => by simp only [aopP, hx]; exact h2 g K2 hl hk⟩
end Go.Proofs.Ytobngncjflogcaa.AM
