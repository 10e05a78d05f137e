/-
  The plain machine once more, its arithmetic behind names, so that a text can be carried out with values that are not known.
-/
import Derived.Test.YtdmpbdmgaepndaaAm14
set_option linter.unusedVariables false
set_option linter.unusedSimpArgs false
namespace Go.Proofs.Ytdmpbdmgaepndaa.AM
open Go

structure Prim where
  add : Int → Int → Int
  sub : Int → Int → Int
  mul : Int → Int → Int
  div : Int → Int → Int
  mod : Int → Int → Int
  shl : Int → Int → Int
  shr : Int → Int → Int
  band : IntKind → Int → Int → Int
  bor : IntKind → Int → Int → Int
  bxor : IntKind → Int → Int → Int
  wrap : IntKind → Int → Int
  mx : Int → Int → Int
  mn : Int → Int → Int
  lt : Int → Int → Bool
  le : Int → Int → Bool
  eq : Int → Int → Bool
  ne : Int → Int → Bool
  sne : List UInt8 → List UInt8 → Bool
  i64 : Int → Prop
  leP : Int → Int → Prop
  ltP : Int → Int → Prop
  bits : IntKind → Int
  nat : Int → Nat
  int : Nat → Int
  slen : List UInt8 → Int
  seq : List UInt8 → List UInt8 → Bool
  sapp : List UInt8 → List UInt8 → List UInt8
  ssub : List UInt8 → Int → Int → List UInt8
  sat : List UInt8 → Int → Int
  rlen : List (List V) → Int
  rsub : List (List V) → Int → Int → List (List V)
  rapp : List (List V) → List (List V) → List (List V)
  rtake : List (List V) → Nat → List (List V)
  rset : List (List V) → Nat → List V → List (List V)
  rrep : Int → List V → List (List V)
  rlenN : List (List V) → Nat
  nadd : Nat → Nat → Nat
  cond : Bool → V → V → V
  and : Bool → Bool → Bool
  beq : Bool → Bool → Bool
  bytes : Int → Int → Prop
  neP : List (List V) → Nat → Prop
  row : List (List V) → Nat → List V → Prop
  bstr : List (List V) → List UInt8 → Prop

def std : Prim where
  add a b := a + b
  sub a b := a - b
  mul a b := a * b
  div a b := a / b
  mod a b := a % b
  shl a b := a * 2 ^ b.toNat
  shr a b := a / 2 ^ b.toNat
  band k a b := k.wrap (BitVec.ofInt k.bits a &&& BitVec.ofInt k.bits b).toNat
  bor k a b := k.wrap (BitVec.ofInt k.bits a ||| BitVec.ofInt k.bits b).toNat
  bxor k a b := k.wrap (BitVec.ofInt k.bits a ^^^ BitVec.ofInt k.bits b).toNat
  wrap k a := k.wrap a
  mx a b := max a b
  mn a b := min a b
  lt a b := decide (a < b)
  le a b := decide (a ≤ b)
  eq a b := decide (a = b)
  ne a b := decide (a ≠ b)
  sne a b := decide (a ≠ b)
  i64 a := I64 a
  leP a b := a ≤ b
  ltP a b := a < b
  bits k := k.bits
  nat a := a.toNat
  int a := a
  slen l := l.length
  seq a b := decide (a = b)
  sapp a b := a ++ b
  ssub l a b := (l.take b.toNat).drop a.toNat
  sat l i := (l.getD i.toNat 0).toNat
  rlen l := l.length
  rsub l a b := (l.take b.toNat).drop a.toNat
  rapp a b := a ++ b
  rtake l n := l.take n
  rset l i r := l.set i r
  rrep n r := List.replicate n.toNat r
  rlenN l := l.length
  nadd a b := a + b
  cond t a b := if t then a else b
  and a b := a && b
  beq a b := a == b
  bytes n b := n * b ≤ 140737488355328
  neP l n := l.length = n
  row l i r := l[i]? = some r
  bstr rows l := rows = l.map fun b => [V.int .u8 b.toNat]

def arithP (p : Prim) (k : IntKind) (n : Int) (K : V → Prop) : Prop :=
  match k with
  | .i64 => p.i64 n ∧ K (.int .i64 n)
  | k => K (.int k (p.wrap k n))
def binP (p : Prim) (op : BinOp) (x y : V) (K : V → Prop) : Prop :=
  match op, x, y with
  | .add, .int k a, .int k' b => k = k' ∧ arithP p k (p.add a b) K
  | .sub, .int k a, .int k' b => k = k' ∧ arithP p k (p.sub a b) K
  | .mul, .int k a, .int k' b => k = k' ∧ arithP p k (p.mul a b) K
  | .quo, .int k a, .int k' b => k = k' ∧ p.leP 0 a ∧ p.ltP 0 b ∧ arithP p k (p.div a b) K
  | .rem, .int k a, .int k' b => k = k' ∧ p.leP 0 a ∧ p.ltP 0 b ∧ K (.int k (p.mod a b))
  | .shl, .int k a, .int _ b => p.leP 0 b ∧ p.ltP b 64 ∧ arithP p k (p.shl a b) K
  | .shr, .int k a, .int _ b => p.leP 0 b ∧ p.ltP b (p.bits k) ∧ K (.int k (p.shr a b))
  | .and, .int k a, .int k' b => k = k' ∧ K (.int k (p.band k a b))
  | .or, .int k a, .int k' b => k = k' ∧ K (.int k (p.bor k a b))
  | .xor, .int k a, .int k' b => k = k' ∧ K (.int k (p.bxor k a b))
  | .lss, .int k a, .int k' b => k = k' ∧ K (.bool (p.lt a b))
  | .leq, .int k a, .int k' b => k = k' ∧ K (.bool (p.le a b))
  | .gtr, .int k a, .int k' b => k = k' ∧ K (.bool (p.lt b a))
  | .geq, .int k a, .int k' b => k = k' ∧ K (.bool (p.le b a))
  | .eql, .int k a, .int k' b => k = k' ∧ K (.bool (p.eq a b))
  | .neq, .int k a, .int k' b => k = k' ∧ K (.bool (p.ne a b))
  | .add, .str a, .str b => p.i64 (p.add (p.slen a) (p.slen b)) ∧ K (.str (p.sapp a b))
  | .eql, .str a, .str b => K (.bool (p.seq a b))
  | .neq, .str a, .str b => K (.bool (p.sne a b))
  | _, _, _ => False
def rowsP (p : Prim) (h : Hp) (sz : Nat) (v : V) (K : List (List V) → Prop) : Prop :=
  match v with
  | .sl _ sz' rows => sz' = sz ∧ K rows
  | .nilsl => K []
  | .own k b sz' n => match h k with
    | some o => o.b = b ∧ o.sz = sz ∧ sz' = sz ∧ p.neP o.rows n ∧ K o.rows
    | none => False
  | _ => False
def lenP (p : Prim) (str : Bool) (x : V) (K : V → Prop) : Prop :=
  match str, x with
  | true, .str l => K (.int .i64 (p.slen l))
  | false, .sl _ _ rows => K (.int .i64 (p.rlen rows))
  | false, .nilsl => K (.int .i64 0)
  | false, .own _ _ _ n => K (.int .i64 (p.int n))
  | _, _ => False
def hiP (p : Prim) (hi : Option V) (n : Int) (K : Int → Prop) : Prop :=
  match hi with
  | some (.int _ n) => K n
  | none => K n
  | _ => False
/-- names from here on are of arrays; below, of variables -/
def arr : Nat := 1000000
def rowP (p : Prim) (h : Hp) (k : Nat) (b : Option Nat) (sz i : Nat) (K : Ob → List V → Prop) : Prop :=
  match h k with
  | some o => o.b = b ∧ o.sz = sz ∧ (match decide (k < 1000000) with
    | true => match o.rows, i with
      | [r], 0 => K o r
      | _, _ => False
    | false => ∃ r, p.row o.rows i r ∧ K o r)
  | none => False
def setR (p : Prim) (k : Nat) (rows : List (List V)) (i : Nat) (r : List V) : List (List V) := match decide (k < 1000000) with
  | true => [r]
  | false => p.rset rows i r
def load1P (p : Prim) (h : Hp) (x : V) (K : V → Prop) : Prop :=
  match x with
  | .ptr j b sz i off => rowP p h j b sz i fun _ r => nthC r off K
  | .rp _ cs => nthC cs 0 K
  | _ => False
def loadnP (p : Prim) (h : Hp) (n : Nat) (x : V) (K : V → Prop) : Prop :=
  match x with
  | .ptr j b sz i off => rowP p h j b sz i fun _ r => off + n ≤ r.length ∧ K (.agg ((r.drop off).take n))
  | .rp _ cs => n ≤ cs.length ∧ K (.agg (cs.take n))
  | _ => False
def storeP (p : Prim) (h : Hp) (n : Nat) (x v : V) (K : Hp → Prop) : Prop :=
  match x with
  | .ptr j b sz i off => rowP p h j b sz i fun o r => off + n ≤ r.length ∧ v.fits n ∧ K (h.put j ⟨o.b, o.ty, o.sz, setR p j o.rows i (splice r off v.cells)⟩)
  | _ => False
def appendP (p : Prim) (h : Hp) (k ty sz bytes : Nat) (x y : V) (K : V → Hp → Prop) : Prop :=
  rowsP p h sz y fun news => match x with
    | .nilsl => h k = none ∧ p.bytes (p.rlen news) bytes ∧ ∀ β : Option Nat, K (.own k β sz (p.rlenN news)) (h.put k ⟨β, ty, sz, news⟩)
    | .own j b sz' n => match h j with
      | some o => o.b = b ∧ o.sz = sz ∧ sz' = sz ∧ o.ty = ty ∧ p.neP o.rows n ∧ p.bytes (p.add (p.int n) (p.rlen news)) bytes ∧ ∀ β : Option Nat, K (.own j β sz (p.nadd n (p.rlenN news))) (h.put j ⟨β, ty, sz, p.rapp o.rows news⟩)
      | none => False
    | _ => False

def eqC1 (p : Prim) (t : Nat) (x y : V) (K : Bool → Prop) : Prop :=
  match t, x, y with
  | 0, .bool a, .bool b => K (p.beq a b)
  | 1, .int k a, .int k' b => k = k' ∧ K (p.eq a b)
  | 2, .str a, .str b => K (p.seq a b)
  | _, _, _ => False
def eqCs (p : Prim) : List Nat → List V → List V → (Bool → Prop) → Prop
  | [], [], [], K => K true
  | [t], [a], [b], K => eqC1 p t a b K
  | t :: ts, a :: l, b :: m, K => eqC1 p t a b fun x => eqCs p ts l m fun y => K (p.and x y)
  | _, _, _, _ => False
def eqsP (p : Prim) (neg : Bool) (ts : List Nat) (x y : V) (K : V → Prop) : Prop :=
  match x, y with
  | .agg cs, .agg ds => eqCs p ts cs ds fun b => match neg with
    | true => br b (fun _ => K (.bool false)) (fun _ => K (.bool true))
    | false => K (.bool b)
  | _, _ => False
theorem eqC1_std {t : Nat} {x y : V} {K : Bool → Prop} (h : eqC1 std t x y K) : ∃ b, eqCell t x y = some b ∧ K b := by
  unfold eqC1 at h
  split at h
  · exact ⟨_, rfl, h⟩
  · obtain ⟨rfl, h⟩ := h
    exact ⟨_, by simp [eqCell]; rfl, h⟩
  · exact ⟨_, rfl, h⟩
  · exact h.elim
theorem eqCs_std : ∀ {ts : List Nat} {cs ds : List V} {K : Bool → Prop}, eqCs std ts cs ds K → ∃ b, eqCells ts cs ds = some b ∧ K b
  | [], [], [], K, h => ⟨true, rfl, h⟩
  | [t], [a], [b], K, h => by
    simp only [eqCs] at h
    obtain ⟨x, h1, h2⟩ := eqC1_std h
    exact ⟨x, by simp [eqCells, h1], h2⟩
  | t :: t2 :: ts, a :: l, b :: m, K, h => by
    simp only [eqCs] at h
    obtain ⟨x, h1, h2⟩ := eqC1_std h
    obtain ⟨y, h3, h4⟩ := eqCs_std h2
    exact ⟨x && y, by simp only [eqCells, h1]; rw [h3], h4⟩
  | [t], a :: a2 :: l, b :: m, K, h => by
    simp only [eqCs] at h
    obtain ⟨x, h1, h2⟩ := eqC1_std h
    exact h2.elim
  | [t], [a], b :: b2 :: m, K, h => by
    simp only [eqCs] at h
    obtain ⟨x, h1, h2⟩ := eqC1_std h
    exact h2.elim
  | [], _ :: _, _, _, h => by simp [eqCs] at h
  | [], [], _ :: _, _, h => by simp [eqCs] at h
  | _ :: _, [], _, _, h => by simp [eqCs] at h
  | _ :: _, _ :: _, [], _, h => by simp [eqCs] at h
theorem eqsP_std {neg : Bool} {ts : List Nat} {x y : V} {K : V → Prop} (h : eqsP std neg ts x y K) : eqsK neg ts x y K := by
  unfold eqsP at h
  unfold eqsK
  split at h
  · obtain ⟨b, h1, h2⟩ := eqCs_std h
    simp only [h1]
    cases neg
    · exact h2
    · cases b <;> exact h2
  · exact h.elim
def fitsB (n : Nat) (v : V) : Bool := v.cells.length == n && v.cells.all V.one

def aopP (p : Prim) (C : CallT) (op : AOp) (ev : Opd → V) (h : Hp) (k : Nat) (K : V → Hp → Prop) : Prop :=
  match op with
  | .mov x => K (ev x) h
  | .pick c a b => match ev c with
    | .bool true => K (ev a) h
    | .bool false => K (ev b) h
    | _ => False
  | .alloc ty z => h k = none ∧ z.all (fun u => u.oneCell') = true ∧ ∀ β : Nat, K (.ptr k (some β) z.length 0 0) (h.put k ⟨some β, ty, z.length, [z.map vOf]⟩)
  | .box ty n x => h k = none ∧ (ev x).fits n ∧ ∀ β : Nat, K (.ptr k (some β) n 0 0) (h.put k ⟨some β, ty, n, [(ev x).cells]⟩)
  | .build z parts => (parts.all fun q => fitsB q.2.1 (ev q.2.2)) = true ∧ K (.agg (fillV (z.map vOf) (parts.map fun q => (q.1, (ev q.2.2).cells)))) h
  | .bslice ty sz parts => h (arr + k) = none ∧ (parts.all fun q => fitsB sz (ev q)) = true ∧ ∀ β : Nat, K (.own (arr + k) (some β) sz parts.length) (h.put (arr + k) ⟨some β, ty, sz, parts.map fun q => (ev q).cells⟩)
  | .load1 x => load1P p h (ev x) fun v => K v h
  | .loadn n x => loadnP p h n (ev x) fun v => K v h
  | .store n x v => storeP p h n (ev x) (ev v) fun h => K .junk h
  | .nilchk x => match ev x with
    | .ptr .. | .rp .. => K (ev x) h
    | _ => False
  | .bin op x y => binP p op (ev x) (ev y) fun v => K v h
  | .eqb neg x y => eqbK neg (ev x) (ev y) fun v => K v h
  | .eqp neg x y => eqpK neg (ev x) (ev y) fun v => K v h
  | .eqs neg ts x y => eqsP p neg ts (ev x) (ev y) fun v => K v h
  | .not x => match ev x with
    | .bool b => br b (fun _ => K (.bool false) h) (fun _ => K (.bool true) h)
    | _ => False
  | .conv kd x => match ev x with
    | .int _ n => K (.int kd (p.wrap kd n)) h
    | _ => False
  | .mkslice ty sz bytes z l c => match ev l, ev c with
    | .int _ n, .int _ m => h (arr + k) = none ∧ p.leP 0 n ∧ m = n ∧ z.length = sz ∧ z.all (fun u => u.oneCell') = true ∧ p.bytes n bytes ∧ p.leP n 140737488355328 ∧ ∀ β : Nat, K (.own (arr + k) (some β) sz (p.nat n)) (h.put (arr + k) ⟨some β, ty, sz, p.rrep n (z.map vOf)⟩)
    | _, _ => False
  | .slstr x lo hi => match ev x with
    | .str l => loV (lo.map ev) fun a => hiP p (hi.map ev) (p.slen l) fun b => p.leP 0 a ∧ p.leP a b ∧ p.leP b (p.slen l) ∧ K (.str (p.ssub l a b)) h
    | _ => False
  | .slsl sz x lo hi => match ev x with
    | .sl t sz' rows => sz' = sz ∧ loV (lo.map ev) fun a => hiP p (hi.map ev) (p.rlen rows) fun b => p.leP 0 a ∧ p.leP a b ∧ p.leP b (p.rlen rows) ∧ K (.sl t sz (p.rsub rows a b)) h
    | _ => False
  | .faddr off x => match ev x with
    | .ptr j b sz i o => K (.ptr j b sz i (o + off)) h
    | .rp t cs => K (.rp t (cs.drop off)) h
    | _ => False
  | .fld1 off x => match ev x with
    | .agg cs => nthC cs off fun v => K v h
    | _ => False
  | .fldn off n x => match ev x with
    | .agg cs => off + n ≤ cs.length ∧ K (.agg ((cs.drop off).take n)) h
    | _ => False
  | .iaddr sz x i => match ev x, ev i with
    | .sl t sz' rows, .int _ i => sz' = sz ∧ p.leP 0 i ∧ ∃ r, p.row rows (p.nat i) r ∧ K (.rp t r) h
    | .own j b sz' n, .int _ i => sz' = sz ∧ p.leP 0 i ∧ p.ltP i (p.int n) ∧ K (.ptr j b sz (p.nat i) 0) h
    | _, _ => False
  | .iarr len sz x i => match ev x, ev i with
    | .ptr j b sz' r off, .int _ i => p.leP 0 i ∧ p.ltP i len ∧ ∃ n : Nat, p.nat i = n ∧ K (.ptr j b sz' r (off + n * sz)) h
    | .rp t cs, .int _ i => p.leP 0 i ∧ p.ltP i len ∧ ∃ n : Nat, p.nat i = n ∧ K (.rp t (cs.drop (n * sz))) h
    | _, _ => False
  | .ixs x i => match ev x, ev i with
    | .str l, .int _ i => p.leP 0 i ∧ p.ltP i (p.slen l) ∧ K (.int .u8 (p.sat l i)) h
    | _, _ => False
  | .ext i x => match ev x with
    | .tup vs => i < vs.length ∧ K (vs.getD i .junk) h
    | _ => False
  | .len str x => lenP p str (ev x) fun v => K v h
  | .mm mx x y => match mx, ev x, ev y with
    | true, .int k a, .int k' b => k = k' ∧ K (.int k (p.mx a b)) h
    | false, .int k a, .int k' b => k = k' ∧ K (.int k (p.mn a b)) h
    | _, _, _ => False
  | .append ty sz bytes x y => appendP p h (arr + k) ty sz bytes (ev x) (ev y) K
  | .call f args => C f (args.map ev) h K
  | .callv x args => match ev x with
    | .fn f caps => C f (args.map ev ++ caps) h K
    | _ => False
  | .mkfn f caps => K (.fn f (caps.map ev)) h
  | .convbs x => rowsP p h 1 (ev x) fun rows => ∃ l, p.bstr rows l ∧ K (.str l) h
  | .dead => False
  | .ixa g len sz x i => match ev x, ev i with
    | .agg cs, .int _ i => p.leP 0 i ∧ p.ltP i len ∧ Nat.ble (len * sz) cs.length = true ∧ Nat.ble 1 sz = true ∧ ∃ n : Nat, p.nat i = n ∧ (match g with
      | true => K (.agg ((cs.drop (n * sz)).take sz)) h
      | false => K (cs.getD (n * sz) .junk) h)
    | _, _ => False

/-- the name that an operation gives to what it makes -/
def keyOf (op : AOp) (k : Nat) : Nat := match op with
  | .bslice .. | .mkslice .. | .append .. => arr + k
  | _ => k

theorem arithP_std {k : IntKind} {n : Int} {K : V → Prop} : arithP std k n K = arith k n K := by cases k <;> rfl
theorem bool_not_eq {a b : Int} : (!decide (a = b)) = decide (a ≠ b) := by by_cases h : a = b <;> simp [h]
theorem bool_not_seq {a b : List UInt8} : (!decide (a = b)) = decide (a ≠ b) := by by_cases h : a = b <;> simp [h]
theorem binP_imp {op : BinOp} {x y : V} {K : V → Prop} (h : binP std op x y K) : binV op x y K := by
  cases x <;> cases y <;> try (cases op <;> exact h.elim)
  case int.int k a k' b =>
    cases op <;> simp only [binP, binV, arithP_std] at h ⊢ <;> exact h
  case str.str a b =>
    cases op <;> simp only [binP, binV] at h ⊢ <;> exact h

theorem row_get {rows : List (List V)} {i : Nat} {r : List V} (h : rows[i]? = some r) : i < rows.length ∧ rows.getD i [] = r := by
  obtain ⟨h1, h2⟩ := List.getElem?_eq_some_iff.1 h
  exact ⟨h1, by rw [List.getD_eq_getElem?_getD, h]; rfl⟩
theorem rowP_imp {h : Hp} {k sz i : Nat} {b : Option Nat} {K : Ob → List V → Prop} (hh : rowP std h k b sz i K) : rowC h k b sz i K := by
  unfold rowP at hh
  unfold rowC
  cases hk : h k with
  | none => rw [hk] at hh; exact hh.elim
  | some o =>
    rw [hk] at hh
    obtain ⟨h1, h2, h3⟩ := hh
    refine ⟨h1, h2, ?_⟩
    split at h3
    · split at h3
      · rename_i r heq
        rw [heq]
        exact ⟨by simp, by simpa using h3⟩
      · exact h3.elim
    · obtain ⟨r, hr, h4⟩ := h3
      obtain ⟨g1, g2⟩ := row_get hr
      exact ⟨g1, by rw [g2]; exact h4⟩
theorem load1P_imp {h : Hp} {x : V} {K : V → Prop} (hh : load1P std h x K) : load1V h x K := by
  cases x <;> first | exact hh | exact rowP_imp hh
theorem loadnP_imp {h : Hp} {n : Nat} {x : V} {K : V → Prop} (hh : loadnP std h n x K) : loadnV h n x K := by
  cases x <;> first | exact hh | exact rowP_imp hh
theorem storeP_imp {h : Hp} {n : Nat} {x v : V} {K : Hp → Prop} (hh : storeP std h n x v K) : storeV h n x v K := by
  cases x <;> try exact hh
  rename_i j b sz i off
  unfold storeP at hh
  unfold storeV
  simp only [] at hh ⊢
  unfold rowP at hh
  unfold rowC
  cases hk : h j with
  | none => rw [hk] at hh; exact hh.elim
  | some o =>
    rw [hk] at hh
    obtain ⟨h1, h2, h3⟩ := hh
    refine ⟨h1, h2, ?_⟩
    split at h3
    · rename_i hb
      split at h3
      · rename_i r heq
        obtain ⟨a1, a2, a3⟩ := h3
        rw [heq]
        refine ⟨by simp, by simpa using a1, a2, ?_⟩
        simp only [setR, hb] at a3
        simpa [heq] using a3
      · exact h3.elim
    · rename_i hb
      obtain ⟨r, hr, a1, a2, a3⟩ := h3
      obtain ⟨g1, g2⟩ := row_get hr
      refine ⟨g1, by rw [g2]; exact a1, a2, ?_⟩
      rw [g2]
      simp only [setR, hb] at a3
      exact a3
theorem rowsP_imp {h : Hp} {sz : Nat} {v : V} {K : List (List V) → Prop} (hh : rowsP std h sz v K) : ∃ rows, rowsOf h sz v = some rows ∧ K rows := by
  cases v <;> try exact hh.elim
  case sl t sz' rows => exact ⟨rows, by simp [rowsOf, hh.1], hh.2⟩
  case nilsl => exact ⟨[], rfl, hh⟩
  case own k b sz' n =>
    unfold rowsP at hh
    simp only [] at hh
    cases hk : h k with
    | none => rw [hk] at hh; exact hh.elim
    | some o =>
      rw [hk] at hh
      obtain ⟨h1, h2, h3, h4, h5⟩ := hh
      have h4 : o.rows.length = n := h4
      refine ⟨o.rows, ?_, h5⟩
      simp only [rowsOf, hk]
      rw [if_pos ⟨h1, h2, h3, by omega⟩, ← h4, List.take_length]
theorem appendP_imp {h : Hp} {k ty sz bytes : Nat} {x y : V} {K : V → Hp → Prop} (hh : appendP std h k ty sz bytes x y K) : appendV h k ty sz bytes x y K := by
  unfold appendP at hh
  obtain ⟨rows, h1, h2⟩ := rowsP_imp hh
  unfold appendV
  rw [h1]
  exact h2
theorem all_fits {sz : Nat} {ev : Opd → V} {l : List Opd} (h : (l.all fun q => fitsB sz (ev q)) = true) : ∀ p ∈ l, (ev p).fits sz := by
  intro p hp
  have := List.all_eq_true.1 h p hp
  simp only [fitsB, Bool.and_eq_true, beq_iff_eq] at this
  exact this

theorem aopP_imp {T : CallT} {op : AOp} {ev : Opd → V} {h : Hp} {k : Nat} {K : V → Hp → Prop} (hh : aopP std T op ev h k K) : aop T op ev h (keyOf op k) K := by
  cases op
  case load1 => exact load1P_imp hh
  case loadn n x => exact loadnP_imp (n := n) (x := ev x) (K := fun v => K v h) hh
  case store => exact storeP_imp hh
  case bin => exact binP_imp hh
  case eqs neg ts x y => exact eqsP_std (K := fun v => K v h) hh
  case append => exact appendP_imp hh
  case convbs x =>
    obtain ⟨rows, h1, l, h2, h3⟩ := rowsP_imp (show rowsP std h 1 (ev x) fun rows => ∃ l, std.bstr rows l ∧ K (.str l) h from hh)
    exact ⟨l, by rw [h1]; exact congrArg some h2, h3⟩
  case not x =>
    simp only [aopP] at hh
    simp only [aop]
    split at hh
    · rename_i b heq
      rw [heq]
      cases b <;> exact hh
    · exact hh.elim
  case pick c a b =>
    simp only [aopP] at hh
    simp only [aop]
    split at hh
    · rename_i heq; rw [heq]; exact hh
    · rename_i heq; rw [heq]; exact hh
    · exact hh.elim
  case build z parts =>
    refine ⟨fun q hq => ?_, hh.2⟩
    have := List.all_eq_true.1 hh.1 q hq
    simp only [fitsB, Bool.and_eq_true, beq_iff_eq] at this
    exact this
  case bslice ty sz parts => exact ⟨hh.1, all_fits hh.2.1, hh.2.2⟩
  case slsl sz x lo hi =>
    simp only [aopP] at hh
    simp only [aop]
    split at hh
    · rename_i heq
      rw [heq]
      obtain ⟨h1, h2⟩ := hh
      refine ⟨h1, ?_⟩
      unfold loV hiP at *
      unfold hiV
      exact h2
    · exact hh.elim
  case slstr x lo hi =>
    simp only [aopP] at hh
    simp only [aop]
    split at hh
    · rename_i heq
      rw [heq]
      unfold loV hiP at *
      unfold hiV
      exact hh
    · exact hh.elim
  case iaddr sz x i =>
    simp only [aopP] at hh
    simp only [aop]
    split at hh
    · rename_i t sz' rows ki ii e1 e2
      rw [e1, e2]
      obtain ⟨h1, h2, r, h3, h4⟩ := hh
      obtain ⟨g1, g2⟩ := row_get h3
      have h2' : 0 ≤ ii := h2
      have g1' : ii.toNat < rows.length := g1
      have g2' : rows.getD ii.toNat [] = r := g2
      exact ⟨h1, h2, by omega, by rw [g2']; exact h4⟩
    · rename_i e1 e2
      rw [e1, e2]
      exact hh
    · exact hh.elim
  case iarr len sz x i =>
    simp only [aopP] at hh
    simp only [aop]
    split at hh
    · rename_i e1 e2
      rw [e1, e2]
      obtain ⟨h1, h2, n, rfl, h3⟩ := hh
      exact ⟨h1, h2, h3⟩
    · rename_i e1 e2
      rw [e1, e2]
      obtain ⟨h1, h2, n, rfl, h3⟩ := hh
      exact ⟨h1, h2, h3⟩
    · exact hh.elim
  case ixa g len sz x i =>
    simp only [aopP] at hh
    simp only [aop]
    split at hh
    · rename_i e1 e2
      rw [e1, e2]
      obtain ⟨h1, h2, h3, h4, n, rfl, h5⟩ := hh
      refine ⟨h1, h2, by simpa using h3, Nat.le_of_ble_eq_true h4, ?_⟩
      cases g <;> exact h5
    · exact hh.elim
  case len str x =>
    simp only [aopP, aop] at *
    unfold lenP at hh
    unfold lenV
    exact hh
  case mm mx x y =>
    simp only [aopP] at hh
    simp only [aop]
    split at hh
    · rename_i e1 e2; rw [e1, e2]; exact hh
    · rename_i e1 e2; rw [e1, e2]; exact hh
    · exact hh.elim
  all_goals exact hh
end Go.Proofs.Ytdmpbdmgaepndaa.AM
