/-
  The plain machine against the model: operations that touch no memory, and loads.
-/
import Derived.Test.YtdmpbdmgaepndaaAm1
import Derived.BigFrame
set_option linter.unusedVariables false
set_option linter.unusedSimpArgs false
namespace Go.Proofs.Ytdmpbdmgaepndaa.AM
open Go

def trX : Operand → Option Opd
  | .tmp t => some (.t t)
  | .const v => some (.c v)
  | .func f => some (.c (.func (.func f) #[] #[]))
  | .global _ => none
def trXo : Option Operand → Option (Option Opd)
  | none => some none
  | some x => (trX x).map some
def trXs : List Operand → Option (List Opd)
  | [] => some []
  | x :: l => match trX x, trXs l with
    | some y, some m => some (y :: m)
    | _, _ => none
def isAggT (P : Program) (T : TypeId) : Option Bool :=
  match P.underlying T with
  | some (.struct _) => some true
  | some (.array _ _) => some true
  | some _ => some false
  | none => none
def szT (P : Program) (T : TypeId) : Option Nat := (P.info? T).map (·.size)
def zeroT (P : Program) (T : TypeId) : Option (List Value) := ((P.info? T).bind (·.zero)).map (·.cells.toList)
def trParts (off : Nat → Option (Nat × Nat)) (n : Nat) : List (Nat × Operand) → Option (List (Nat × Nat × Opd))
  | [] => some []
  | (j, x) :: l => match off j, trX x, trParts off n l with
    | some (o, sz), some y, some m => if o + sz ≤ n then some ((o, sz, y) :: m) else none
    | _, _, _ => none
def trSeq (i : Nat) : List (Nat × Operand) → Option (List Opd)
  | [] => some []
  | (j, x) :: l => match trX x, trSeq (i + 1) l with
    | some y, some m => if j = i then some (y :: m) else none
    | _, _ => none
/-- the marks of a type's cells, where its values can be held against each other cell by cell -/
def flatF (P : Program) (g : TypeId → Option (List Nat)) : List Field → Nat → Option (List Nat)
  | [], _ => some []
  | f :: fs, off => match g f.type with
    | some c => if f.name ≠ "_" ∧ f.offset = off ∧ P.cellsOf f.type = c.length then (flatF P g fs (off + c.length)).map (c ++ ·) else none
    | none => none
def flatK (P : Program) : Nat → TypeId → Option (List Nat)
  | 0, _ => none
  | m + 1, t => match P.underlying t with
    | some .bool => some [0]
    | some (.int _) => some [1]
    | some .string => some [2]
    | some (.array n e) => match flatK P m e with
      | some c => if P.cellsOf e = c.length then some (List.replicate n c).flatten else none
      | none => none
    | some (.struct fs) => if P.stoodInHeld t then none else flatF P (flatK P m) fs.toList 0
    | _ => none
def trOp (P : Program) (o : Op) : Option AOp :=
  match o with
  | .move x | .assign x => (trX x).map .mov
  | .pick c a b => match trX c, trX a, trX b with
    | some c, some a, some b => some (.pick c a b)
    | _, _, _ => none
  | .alloc T => (zeroT P T).map (.alloc T)
  | .box T x => match szT P T, trX x with
    | some n, some x => some (.box T n x)
    | _, _ => none
  | .build T parts => match zeroT P T, P.underlying T with
    | some z, some (.struct fs) => match fs.toList.mapM (fun f => (P.info? f.type).map fun i => (f.offset, i.size)) with
      | some places => (trParts (fun j => places.toArray[j]?) z.length parts.toList).map (.build z)
      | none => none
    | some z, some (.array _ e) => match szT P e with
      | some n => (trParts (fun j => some (j * n, n)) z.length parts.toList).map (.build z)
      | none => none
    | _, _ => none
  | .buildSlice T len parts => match P.underlying T with
    | some (.slice e) => match szT P e, zeroT P e, trSeq 0 parts.toList with
      | some n, some z, some ps => if z.length = n ∧ 0 < n ∧ len * n ≤ 16777216 ∧ ps.length = len then some (.bslice e n ps) else none
      | _, _, _ => none
    | _ => none
  | .load T x => match isAggT P T, szT P T, trX x with
    | some true, some n, some x => some (.loadn n x)
    | some false, _, some x => some (.load1 x)
    | _, _, _ => none
  | .store T x v => match szT P T, trX x, trX v with
    | some n, some x, some v => some (.store n x v)
    | _, _, _ => none
  | .nilCheck x => (trX x).map .nilchk
  | .binOp op T x y _ => match P.underlying T, trX x, trX y with
    | some (.int _), some x, some y => some (.bin op x y)
    | some .string, some x, some y => some (.bin op x y)
    | some .bool, some x, some y => match op with
      | .eql => some (.eqb false x y)
      | .neq => some (.eqb true x y)
      | _ => none
    | some (.pointer _), some x, some y => match op with
      | .eql => some (.eqp false x y)
      | .neq => some (.eqp true x y)
      | _ => none
    | some (.struct _), some x, some y | some (.array _ _), some x, some y => match flatK P 8 T with
      | some ts => if P.eqGuardType P.depth T then none else match op with
        | .eql => some (.eqs false ts x y)
        | .neq => some (.eqs true ts x y)
        | _ => none
      | none => none
    | _, _, _ => none
  | .unOp .not _ x => (trX x).map .not
  | .convert src dst x => match P.underlying src, P.underlying dst, trX x with
    | some (.int _), some (.int k), some x => some (.conv k x)
    | some (.slice e), some .string, some x => (match P.underlying e with
      | some (.int .u8) => some (.convbs x)
      | _ => none)
    | _, _, _ => none
  | .panic _ => some .dead
  | .makeInterface .. => some .dead
  | .makeSlice T l c => match P.underlying T with
    | some (.slice e) => match P.info? e, zeroT P e, trX l, trX c with
      | some i, some z, some l, some c => if i.size = z.length ∧ 0 < z.length ∧ 0 < i.bytes then some (.mkslice e i.size i.bytes z l c) else none
      | _, _, _, _ => none
    | _ => none
  | .slice T x lo hi none => match P.underlying T, trX x, trXo lo, trXo hi with
    | some .string, some x, some lo, some hi => some (.slstr x lo hi)
    | some (.slice e), some x, some lo, some hi => (szT P e).map fun n => .slsl n x lo hi
    | _, _, _, _ => none
  | .fieldAddr T x f => match P.underlying T, trX x with
    | some (.struct fs), some x => match fs[f]? with
      | some f => match szT P f.type with
        | some n => if n = 0 then none else some (.faddr f.offset x)
        | none => none
      | none => none
    | _, _ => none
  | .field T x f => match P.underlying T, trX x with
    | some (.struct fs), some x => match fs[f]? with
      | some f => match isAggT P f.type, szT P f.type with
        | some true, some n => some (.fldn f.offset n x)
        | some false, _ => some (.fld1 f.offset x)
        | _, _ => none
      | none => none
    | _, _ => none
  | .indexAddr T x i => match P.underlying T, trX x, trX i with
    | some (.slice e), some x, some i => (szT P e).map fun n => .iaddr n x i
    | some (.array len e), some x, some i => (szT P e).map fun n => .iarr len n x i
    | _, _, _ => none
  | .index T x i => match P.underlying T, trX x, trX i with
    | some .string, some x, some i => some (.ixs x i)
    | some (.array len e), some x, some i => match isAggT P e, szT P e with
      | some g, some n => some (.ixa g len n x i)
      | _, _ => none
    | _, _, _ => none
  | .extract x i => (trX x).map (.ext i)
  | .makeFunc (.func f) first caps => if first.size = 0 then (trXs caps.toList).map (.mkfn f) else none
  | .call c => match c.callee with
    | .value (.func f) => (trXs c.args.toList).map (.call f)
    | .value (.tmp t) => (trXs c.args.toList).map (.callv (.t t))
    | .builtin .len => match c.args.toList, c.argTypes.toList with
      | [x], [T] => match P.underlying T with
        | some .string => (trX x).map (.len true)
        | some (.slice _) => (trX x).map (.len false)
        | _ => none
      | _, _ => none
    | .builtin .max => match trXs c.args.toList with
      | some [x, y] => some (.mm true x y)
      | _ => none
    | .builtin .min => match trXs c.args.toList with
      | some [x, y] => some (.mm false x y)
      | _ => none
    | .builtin .append => match trXs c.args.toList, c.argTypes.toList with
      | some [x, y], [T, T'] => match P.underlying T, P.underlying T' with
        | some (.slice e), some (.slice _) => match P.info? e, zeroT P e with
          | some i, some z => if i.size = z.length ∧ 0 < z.length ∧ 0 < i.bytes ∧ T' = T then some (.append e i.size i.bytes x y) else none
          | _, _ => none
        | _, _ => none
      | _, _ => none
    | _ => none
  | _ => none

theorem rel_vOf (F B : Nat → Prop) (w : World) (v : Value) : Rel F B w (vOf v) v := by
  unfold vOf
  split
  · exact .int _ _
  · exact .bool _
  · exact .str _
  · exact .nilsl
  · exact .nil
  · exact .raw _
theorem rel_vOfC (F B : Nat → Prop) (w : World) (v : Value) : Rel F B w (vOfC v) v := by
  unfold vOfC
  split
  · refine .agg _ _ (by simp) fun i v u hv hu => ?_
    simp only [List.getElem?_map, Option.map_eq_some_iff] at hv
    obtain ⟨x, hx, rfl⟩ := hv
    rw [Array.getElem?_toList, hu] at hx
    cases hx
    exact rel_vOf F B w _
  · rename_i f p q
    split
    · rename_i h
      have e1 : p = #[] := Array.eq_empty_of_size_eq_zero h.1
      have e2 : q = #[] := Array.eq_empty_of_size_eq_zero h.2
      subst e1 e2
      exact .fn _ _ _ (by simp) (by simp)
    · exact .junk _
  · exact rel_vOf F B w _

section
variable {P : Program} {C : Ctx} {F : Nat → Prop} {w : World} {a : Act} {s : S}

theorem ev_rel (hr : ∀ i : Nat, Rel F C.B w (s.t i) (a.tmps.getD i undef)) {x : Operand} {y : Opd} (h : trX x = some y) : Rel F C.B w (y.ev s) (a.eval x) := by
  cases x with
  | tmp t => simp only [trX, Option.some.injEq] at h; subst h; exact hr t
  | const v => simp only [trX, Option.some.injEq] at h; subst h; exact rel_vOfC _ _ _ _
  | func f => simp only [trX, Option.some.injEq] at h; subst h; exact rel_vOfC F C.B w (.func (.func f) #[] #[])
  | global g => simp [trX] at h

/-- how an operation leaves the state -/
def OpPost (C : Ctx) (F : Nat → Prop) (w : World) (a : Act) (dst : Option Tmp) (K : V → Hp → Prop) : Act → World → Prop := fun a' w' =>
  ∃ u v h' F', a' = a.put dst u ∧ Rel F' C.B w' v u ∧ HSat C F' h' w' ∧ (∀ x y, Rel F C.B w x y → Rel F' C.B w' x y) ∧ K v h'

theorem wp_val {o : Oper} {u : Value} {w' : World} {K : Act → World → Prop} {Q : Exit → Act → World → Prop} (hrun : (execOp a.eval o).run P w = .ok (.value u) w') (h : K (a.put o.dst u) w') : o.wp P a w K Q := by
  unfold Oper.wp
  rw [hrun]
  exact h
theorem wp_pure {o : Oper} {u : Value} {v : V} {h : Hp} {K : V → Hp → Prop} {Q : Exit → Act → World → Prop} (hs : HSat C F h w) (hrun : (execOp a.eval o).run P w = .ok (.value u) w) (hv : Rel F C.B w v u) (hK : K v h) :
    o.wp P a w (OpPost C F w a o.dst K) Q :=
  wp_val hrun ⟨u, v, h, F, rfl, hv, hs, fun _ _ h => h, hK⟩
end
end Go.Proofs.Ytdmpbdmgaepndaa.AM
