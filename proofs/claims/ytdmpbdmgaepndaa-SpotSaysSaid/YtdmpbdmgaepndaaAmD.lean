/-
  Regions that draw their order: operations that do not meddle with each other may be carried out in the text's order.
-/
import Derived.Test.YtdmpbdmgaepndaaAm15
set_option linter.unusedVariables false
set_option linter.unusedSimpArgs false
namespace Go.Proofs.Ytdmpbdmgaepndaa.AM
open Go

/-- the operands of an operation -/
def AOp.opds : AOp → List Opd
  | .mov x => [x]
  | .pick c a b => [c, a, b]
  | .alloc _ _ => []
  | .box _ _ x => [x]
  | .build _ ps => ps.map (·.2.2)
  | .bslice _ _ ps => ps
  | .load1 x => [x]
  | .loadn _ x => [x]
  | .store _ x v => [x, v]
  | .nilchk x => [x]
  | .bin _ x y => [x, y]
  | .eqb _ x y => [x, y]
  | .eqp _ x y => [x, y]
  | .eqs _ _ x y => [x, y]
  | .not x => [x]
  | .conv _ x => [x]
  | .mkslice _ _ _ _ l c => [l, c]
  | .slstr x lo hi => x :: (lo.toList ++ hi.toList)
  | .slsl _ x lo hi => x :: (lo.toList ++ hi.toList)
  | .faddr _ x => [x]
  | .fld1 _ x => [x]
  | .fldn _ _ x => [x]
  | .iaddr _ x i => [x, i]
  | .iarr _ _ x i => [x, i]
  | .ixs x i => [x, i]
  | .ext _ x => [x]
  | .len _ x => [x]
  | .mm _ x y => [x, y]
  | .append _ _ _ x y => [x, y]
  | .call _ xs => xs
  | .callv x xs => x :: xs
  | .mkfn _ xs => xs
  | .convbs x => [x]
  | .dead => []
  | .ixa _ _ _ x i => [x, i]

theorem aopP_congr {p : Prim} {T : CallT} {op : AOp} {ev ev' : Opd → V} {h : Hp} {k : Nat} {K : V → Hp → Prop} (he : ∀ x ∈ op.opds, ev x = ev' x) : aopP p T op ev h k K = aopP p T op ev' h k K := by
  cases op <;> simp only [AOp.opds] at he <;> simp only [aopP]
  case build z ps =>
    have e : ∀ q ∈ ps, ev q.2.2 = ev' q.2.2 := fun q hq => he _ (List.mem_map.2 ⟨q, hq, rfl⟩)
    have e1 : (ps.all fun q => fitsB q.2.1 (ev q.2.2)) = ps.all fun q => fitsB q.2.1 (ev' q.2.2) := by
      rw [Bool.eq_iff_iff, List.all_eq_true, List.all_eq_true]
      exact ⟨fun h q hq => by rw [← e q hq]; exact h q hq, fun h q hq => by rw [e q hq]; exact h q hq⟩
    have e2 : (ps.map fun q => (q.1, (ev q.2.2).cells)) = ps.map fun q => (q.1, (ev' q.2.2).cells) := List.map_congr_left fun q hq => by rw [e q hq]
    rw [e1, e2]
  case bslice ty sz ps =>
    have e1 : (ps.all fun q => fitsB sz (ev q)) = ps.all fun q => fitsB sz (ev' q) := by
      rw [Bool.eq_iff_iff, List.all_eq_true, List.all_eq_true]
      exact ⟨fun h q hq => by rw [← he q hq]; exact h q hq, fun h q hq => by rw [he q hq]; exact h q hq⟩
    have e2 : (ps.map fun q => (ev q).cells) = ps.map fun q => (ev' q).cells := List.map_congr_left fun q hq => by rw [he q hq]
    rw [e1, e2]
  case call f xs => rw [List.map_congr_left he]
  case mkfn f xs => rw [List.map_congr_left he]
  case callv x xs => rw [he x (by simp), List.map_congr_left fun q hq => he q (by simp [hq])]
  case slstr x lo hi =>
    rw [he x (by simp)]
    cases lo <;> cases hi <;> simp_all
  case slsl sz x lo hi =>
    rw [he x (by simp)]
    cases lo <;> cases hi <;> simp_all
  all_goals (simp_all)

def AOp.isPure : AOp → Bool
  | .mov _ | .pick .. | .build .. | .nilchk _ | .bin .. | .eqb .. | .eqp .. | .not _ | .conv .. | .slstr .. | .slsl .. | .faddr .. | .fld1 .. | .fldn .. | .iaddr .. | .iarr .. | .ixs .. | .ext .. | .mm .. => true
  | .len .. => true
  | .eqs .. => true
  | .mkfn .. => true
  | _ => false
def AOp.isRead : AOp → Bool
  | .load1 _ | .loadn .. => true
  | _ => false

/-- a question that has one answer -/
def Det (Φ : (V → Prop) → Prop) : Prop := ∀ K, Φ K → ∃ v, K v ∧ ∀ K2, (Φ K2 ↔ K2 v)
theorem Det.unit (v : V) : Det fun K => K v := fun K h => ⟨v, h, fun _ => Iff.rfl⟩
theorem Det.no : Det fun _ => False := fun K h => h.elim
theorem Det.and {A : Prop} {Φ : (V → Prop) → Prop} (h : Det Φ) : Det fun K => A ∧ Φ K := fun K ⟨a, hk⟩ => by
  obtain ⟨v, h1, h2⟩ := h K hk
  exact ⟨v, h1, fun K2 => ⟨fun hh => (h2 K2).1 hh.2, fun hh => ⟨a, (h2 K2).2 hh⟩⟩⟩
theorem Det.ex {α : Type} {A : α → Prop} {Φ : α → (V → Prop) → Prop} (hu : ∀ x y, A x → A y → x = y) (h : ∀ x, Det (Φ x)) : Det fun K => ∃ x, A x ∧ Φ x K := fun K ⟨x, a, hk⟩ => by
  obtain ⟨v, h1, h2⟩ := h x K hk
  exact ⟨v, h1, fun K2 => ⟨fun ⟨y, b, hh⟩ => by rw [hu y x b a] at hh; exact (h2 K2).1 hh, fun hh => ⟨x, a, (h2 K2).2 hh⟩⟩⟩
theorem Det.arith (k : IntKind) (n : Int) : Det (arithP std k n) := by
  cases k <;> first | exact Det.unit _ | exact Det.and (Det.unit _)
theorem Det.bin (op : BinOp) (x y : V) : Det (binP std op x y) := by
  cases x <;> cases y <;> try (cases op <;> exact Det.no)
  case int.int k a k' b =>
    cases op <;> first | exact Det.no | exact Det.and (Det.arith _ _) | exact Det.and (Det.and (Det.and (Det.arith _ _))) | exact Det.and (Det.and (Det.and (Det.unit _))) | exact Det.and (Det.and (Det.arith _ _)) | exact Det.and (Det.and (Det.unit _)) | exact Det.and (Det.unit _)
  case str.str a b =>
    cases op <;> first | exact Det.no | exact Det.and (Det.unit _) | exact Det.unit _
theorem Det.len (s : Bool) (x : V) : Det (lenP std s x) := by
  cases s <;> cases x <;> first | exact Det.no | exact Det.unit _
theorem Det.eqb (n : Bool) (x y : V) : Det (eqbK n x y) := by
  cases x <;> cases y <;> first | exact Det.no | exact Det.unit _
theorem Det.eqp (n : Bool) (x y : V) : Det (eqpK n x y) := by
  unfold eqpK
  cases eqP x y with
  | none => exact Det.no
  | some b => exact Det.unit _
theorem Det.c1 {t : Nat} {x y : V} {Φ : Bool → (V → Prop) → Prop} (h : ∀ b, Det (Φ b)) : Det fun K => eqC1 std t x y fun b => Φ b K := by
  unfold eqC1
  split
  · exact h _
  · exact Det.and (h _)
  · exact h _
  · exact Det.no
theorem Det.cs : ∀ {ts : List Nat} {cs ds : List V} {Φ : Bool → (V → Prop) → Prop}, (∀ b, Det (Φ b)) → Det fun K => eqCs std ts cs ds fun b => Φ b K
  | [], [], [], Φ, h => h true
  | [t], [a], [b], Φ, h => Det.c1 h
  | t :: t2 :: ts, a :: l, b :: m, Φ, h => Det.c1 fun x => Det.cs fun y => h _
  | [t], a :: a2 :: l, b :: m, Φ, h => Det.c1 fun x => Det.no
  | [t], [a], b :: b2 :: m, Φ, h => Det.c1 fun x => Det.no
  | [], _ :: _, _, Φ, h => by simp only [eqCs]; exact Det.no
  | [], [], _ :: _, Φ, h => by simp only [eqCs]; exact Det.no
  | _ :: _, [], _, Φ, h => by simp only [eqCs]; exact Det.no
  | _ :: _, _ :: _, [], Φ, h => by simp only [eqCs]; exact Det.no
theorem Det.eqs (n : Bool) (ts : List Nat) (x y : V) : Det (eqsP std n ts x y) := by
  cases x <;> cases y <;> try exact Det.no
  cases n
  · exact Det.cs (Φ := fun b K => K (.bool b)) fun b => Det.unit _
  · refine Det.cs (Φ := fun b K => br b (fun _ => K (.bool false)) (fun _ => K (.bool true))) fun b => ?_
    cases b
    · exact Det.unit (.bool true)
    · exact Det.unit (.bool false)
theorem Det.nth (cs : List V) (i : Nat) : Det (nthC cs i) := Det.and (Det.unit _)
theorem Det.lo {lo : Option V} {Φ : Int → (V → Prop) → Prop} (h : ∀ a, Det (Φ a)) : Det fun K => loV lo fun a => Φ a K := by
  cases lo with
  | none => exact h 0
  | some v => cases v <;> first | exact h _ | exact Det.no
theorem Det.hi {hi : Option V} {n : Int} {Φ : Int → (V → Prop) → Prop} (h : ∀ a, Det (Φ a)) : Det fun K => hiP std hi n fun a => Φ a K := by
  cases hi with
  | none => exact h n
  | some v => cases v <;> first | exact h _ | exact Det.no

theorem of_det {T : CallT} {op : AOp} {ev : Opd → V} {h : Hp} {k : Nat} {K : V → Hp → Prop} {Φ : (V → Prop) → Prop} (hd : Det Φ) (he : ∀ h2 k2 (K2 : V → Hp → Prop), aopP std T op ev h2 k2 K2 = Φ fun v => K2 v h2) (hh : aopP std T op ev h k K) :
    ∃ v, K v h ∧ ∀ h2 k2 (K2 : V → Hp → Prop), (aopP std T op ev h2 k2 K2 ↔ K2 v h2) := by
  rw [he] at hh
  obtain ⟨v, h1, h2⟩ := hd _ hh
  exact ⟨v, h1, fun g k2 K2 => by rw [he]; exact h2 _⟩

/-- a pure operation: one value, whatever lies in memory -/
theorem pure_det {T : CallT} {op : AOp} {ev : Opd → V} {h : Hp} {k : Nat} {K : V → Hp → Prop} (hp : op.isPure = true) (hh : aopP std T op ev h k K) :
    ∃ v, K v h ∧ ∀ h2 k2 (K2 : V → Hp → Prop), (aopP std T op ev h2 k2 K2 ↔ K2 v h2) := by
  cases op <;> try (cases hp; done)
  case mov x => exact of_det (Det.unit (ev x)) (fun _ _ _ => rfl) hh
  case pick c a b =>
    cases hc : ev c <;> try (simp only [aopP, hc] at hh; done)
    case bool t =>
      cases t
      · exact of_det (Det.unit (ev b)) (fun _ _ _ => by simp only [aopP, hc]) hh
      · exact of_det (Det.unit (ev a)) (fun _ _ _ => by simp only [aopP, hc]) hh
  case build z ps => exact of_det (Det.and (Det.unit _)) (fun _ _ _ => rfl) hh
  case nilchk x =>
    cases hc : ev x <;> try (simp only [aopP, hc] at hh; done)
    all_goals exact of_det (Det.unit (ev x)) (fun _ _ _ => by simp only [aopP, hc]) hh
  case bin op x y => exact of_det (Det.bin op (ev x) (ev y)) (fun _ _ _ => rfl) hh
  case eqb n x y => exact of_det (Det.eqb n (ev x) (ev y)) (fun _ _ _ => rfl) hh
  case eqp n x y => exact of_det (Det.eqp n (ev x) (ev y)) (fun _ _ _ => rfl) hh
  case eqs n ts x y => exact of_det (Det.eqs n ts (ev x) (ev y)) (fun _ _ _ => rfl) hh
  case mkfn f xs => exact of_det (Det.unit (.fn f (xs.map ev))) (fun _ _ _ => rfl) hh
  case not x =>
    cases hc : ev x <;> try (simp only [aopP, hc] at hh; done)
    case bool t =>
      cases t
      · exact of_det (Det.unit (.bool true)) (fun _ _ _ => by simp only [aopP, hc, br]) hh
      · exact of_det (Det.unit (.bool false)) (fun _ _ _ => by simp only [aopP, hc, br]) hh
  case conv kd x =>
    cases hc : ev x <;> try (simp only [aopP, hc] at hh; done)
    case int k n => exact of_det (Det.unit (.int kd (std.wrap kd n))) (fun _ _ _ => by simp only [aopP, hc]) hh
  case slstr x lo hi =>
    cases hc : ev x <;> try (simp only [aopP, hc] at hh; done)
    case str l => exact of_det (Det.lo (lo := lo.map ev) fun a => Det.hi (hi := hi.map ev) (n := std.slen l) fun b => Det.and (A := std.leP 0 a) (Det.and (A := std.leP a b) (Det.and (A := std.leP b (std.slen l)) (Det.unit (.str (std.ssub l a b)))))) (fun _ _ _ => by simp only [aopP, hc]) hh
  case slsl sz x lo hi =>
    cases hc : ev x <;> try (simp only [aopP, hc] at hh; done)
    case sl t sz' rows => exact of_det (Det.and (A := sz' = sz) (Det.lo (lo := lo.map ev) fun a => Det.hi (hi := hi.map ev) (n := std.rlen rows) fun b => Det.and (A := std.leP 0 a) (Det.and (A := std.leP a b) (Det.and (A := std.leP b (std.rlen rows)) (Det.unit (.sl t sz (std.rsub rows a b))))))) (fun _ _ _ => by simp only [aopP, hc]) hh
  case faddr off x =>
    cases hc : ev x <;> try (simp only [aopP, hc] at hh; done)
    case ptr j b sz i o => exact of_det (Det.unit (.ptr j b sz i (o + off))) (fun _ _ _ => by simp only [aopP, hc]) hh
    case rp t cs => exact of_det (Det.unit (.rp t (cs.drop off))) (fun _ _ _ => by simp only [aopP, hc]) hh
  case fld1 off x =>
    cases hc : ev x <;> try (simp only [aopP, hc] at hh; done)
    case agg cs => exact of_det (Det.nth cs off) (fun _ _ _ => by simp only [aopP, hc]) hh
  case fldn off n x =>
    cases hc : ev x <;> try (simp only [aopP, hc] at hh; done)
    case agg cs => exact of_det (Det.and (A := off + n ≤ cs.length) (Det.unit (.agg ((cs.drop off).take n)))) (fun _ _ _ => by simp only [aopP, hc]) hh
  case iaddr sz x i =>
    cases hi : ev i <;> try (cases hc : ev x <;> simp only [aopP, hc, hi] at hh; done)
    case int ki ii =>
      cases hc : ev x <;> try (simp only [aopP, hc, hi] at hh; done)
      case sl t sz' rows =>
        refine of_det (Det.and (A := sz' = sz) (Det.and (A := std.leP 0 ii) (Det.ex (A := fun r => std.row rows (std.nat ii) r) (Φ := fun r K => K (.rp t r)) (fun x y h1 h2 => ?_) fun r => Det.unit _))) (fun _ _ _ => by simp only [aopP, hc, hi]) hh
        exact Option.some.inj ((Eq.symm h1).trans h2)
      case own j b sz' n => exact of_det (Det.and (A := sz' = sz) (Det.and (A := std.leP 0 ii) (Det.and (A := std.ltP ii (std.int n)) (Det.unit (.ptr j b sz (std.nat ii) 0))))) (fun _ _ _ => by simp only [aopP, hc, hi]) hh
  case iarr len sz x i =>
    cases hi : ev i <;> try (cases hc : ev x <;> simp only [aopP, hc, hi] at hh; done)
    case int ki ii =>
      cases hc : ev x <;> try (simp only [aopP, hc, hi] at hh; done)
      case ptr j b sz' r off => exact of_det (Det.and (A := std.leP 0 ii) (Det.and (A := std.ltP ii len) (Det.ex (A := fun n => std.nat ii = n) (Φ := fun n K => K (.ptr j b sz' r (off + n * sz))) (fun x y h1 h2 => h1.symm.trans h2) fun n => Det.unit _))) (fun _ _ _ => by simp only [aopP, hc, hi]) hh
      case rp t cs => exact of_det (Det.and (A := std.leP 0 ii) (Det.and (A := std.ltP ii len) (Det.ex (A := fun n => std.nat ii = n) (Φ := fun n K => K (.rp t (cs.drop (n * sz)))) (fun x y h1 h2 => h1.symm.trans h2) fun n => Det.unit _))) (fun _ _ _ => by simp only [aopP, hc, hi]) hh
  case ixs x i =>
    cases hi : ev i <;> try (cases hc : ev x <;> simp only [aopP, hc, hi] at hh; done)
    case int ki ii =>
      cases hc : ev x <;> try (simp only [aopP, hc, hi] at hh; done)
      case str l => exact of_det (Det.and (A := std.leP 0 ii) (Det.and (A := std.ltP ii (std.slen l)) (Det.unit (.int .u8 (std.sat l ii))))) (fun _ _ _ => by simp only [aopP, hc, hi]) hh
  case ext i x =>
    cases hc : ev x <;> try (simp only [aopP, hc] at hh; done)
    case tup vs => exact of_det (Det.and (A := i < vs.length) (Det.unit (vs.getD i .junk))) (fun _ _ _ => by simp only [aopP, hc]) hh
  case len s x => exact of_det (Det.len s (ev x)) (fun _ _ _ => rfl) hh
  case mm mx x y =>
    cases mx <;> cases hi : ev y <;> try (cases hc : ev x <;> simp only [aopP, hc, hi] at hh; done)
    all_goals
      rename_i k' b
      cases hc : ev x <;> try (simp only [aopP, hc, hi] at hh; done)
    all_goals rename_i k a
    · exact of_det (Det.and (A := k = k') (Det.unit (.int k (std.mn a b)))) (fun _ _ _ => by simp only [aopP, hc, hi]) hh
    · exact of_det (Det.and (A := k = k') (Det.unit (.int k (std.mx a b)))) (fun _ _ _ => by simp only [aopP, hc, hi]) hh

def Hp.le (h h2 : Hp) : Prop := ∀ k o, h k = some o → h2 k = some o
theorem Hp.le_refl (h : Hp) : h.le h := fun _ _ h => h

theorem rowsOf_le {h h2 : Hp} (hl : h.le h2) {sz : Nat} {v : V} {rows : List (List V)} (hr : rowsOf h sz v = some rows) : rowsOf h2 sz v = some rows := by
  cases v <;> try exact hr
  rename_i k b sz' n
  simp only [rowsOf] at hr ⊢
  cases hk : h k with
  | none => rw [hk] at hr; cases hr
  | some o => rw [hk] at hr; rw [hl k o hk]; exact hr
theorem Arg.le {h h2 : Hp} (hl : h.le h2) {m : List (Nat × Nat)} {v v' : V} (ha : Arg h m v v') : Arg h2 m v v' := by
  induction ha with
  | same v => exact .same v
  | own k b sz n rows hr hm => exact .own k b sz n rows (rowsOf_le hl hr) hm
  | weak sz rows => exact .weak sz rows
  | nil t sz => exact .nil t sz
  | agg cs cs' hl' ha ih => exact .agg cs cs' hl' ih
theorem Args.le {h h2 : Hp} (hl : h.le h2) {m : List (Nat × Nat)} {l l' : List V} (ha : Args h m l l') : Args h2 m l l' := by
  induction ha with
  | nil => exact .nil
  | cons a b ih => exact .cons (a.le hl) ih

/-- an operation with one answer that does not hang on what is new in memory -/
def Fun (T : CallT) (op : AOp) : Prop := ∀ (ev : Opd → V) (h : Hp) (k : Nat) (K : V → Hp → Prop), aopP std T op ev h k K →
  ∃ v, K v h ∧ ∀ (h2 : Hp) (k2 : Nat) (K2 : V → Hp → Prop), h.le h2 → K2 v h2 → aopP std T op ev h2 k2 K2

theorem rowP_le {h h2 : Hp} (hl : h.le h2) {k sz i : Nat} {b : Option Nat} {K K2 : Ob → List V → Prop} (hh : rowP std h k b sz i K) (hK : ∀ o r, K o r → K2 o r) : rowP std h2 k b sz i K2 := by
  unfold rowP at *
  cases hk : h k with
  | none => rw [hk] at hh; exact hh.elim
  | some o =>
    rw [hk] at hh
    rw [hl k o hk]
    obtain ⟨h1, h2, h3⟩ := hh
    refine ⟨h1, h2, ?_⟩
    split at h3
    · split at h3
      · exact hK _ _ h3
      · exact h3.elim
    · obtain ⟨r, hr, h4⟩ := h3
      exact ⟨r, hr, hK _ _ h4⟩
theorem rowP_one {h : Hp} {k sz i : Nat} {b : Option Nat} {Φ : List V → (V → Prop) → Prop} (hΦ : ∀ r, Det (Φ r)) {K : V → Prop} (hh : rowP std h k b sz i fun _ r => Φ r K) :
    ∃ v, K v ∧ ∀ (h2 : Hp) (K2 : V → Prop), h.le h2 → K2 v → rowP std h2 k b sz i fun _ r => Φ r K2 := by
  unfold rowP at hh
  cases hk : h k with
  | none => rw [hk] at hh; exact hh.elim
  | some o =>
    rw [hk] at hh
    obtain ⟨h1, h2, h3⟩ := hh
    split at h3
    · rename_i hb
      split at h3
      · rename_i r hro
        obtain ⟨v, g1, g2⟩ := hΦ r K h3
        refine ⟨v, g1, fun h4 K2 hl hk2 => ?_⟩
        unfold rowP
        rw [hl k o hk]
        refine ⟨h1, h2, ?_⟩
        rw [hb, hro]
        exact (g2 K2).2 hk2
      · exact h3.elim
    · rename_i hb
      obtain ⟨r, hr, h4⟩ := h3
      obtain ⟨v, g1, g2⟩ := hΦ r K h4
      refine ⟨v, g1, fun h5 K2 hl hk2 => ?_⟩
      unfold rowP
      rw [hl k o hk]
      refine ⟨h1, h2, ?_⟩
      rw [hb]
      exact ⟨r, hr, (g2 K2).2 hk2⟩

theorem fun_of {P : Program} {op : AOp} (hc : op.isPure = true ∨ op.isRead = true ∨ (∃ f xs, op = .call f xs) ∨ ∃ x xs, op = .callv x xs) : Fun (CallP P) op := by
  intro ev h k K hh
  have call : ∀ f xs, CallP P f xs h K → ∃ v, K v h ∧ ∀ (h2 : Hp) (K2 : V → Hp → Prop), h.le h2 → K2 v h2 → CallP P f xs h2 K2 := by
    rintro f xs ⟨m, args', hp, v, h1, h2, h3, h4, h5⟩
    refine ⟨_, h5, fun g K2 hl hk => ⟨m, args', hp, v, h1, h2.le hl, h3, fun p hp' => ?_, hk⟩⟩
    obtain ⟨a1, a2, o, a3, a4, a5⟩ := h4 p hp'
    refine ⟨a1, a2, o, a3, ?_, a5⟩
    simp only [Option.map_eq_some_iff] at a4 ⊢
    obtain ⟨ob, hob, he⟩ := a4
    exact ⟨ob, hl _ _ hob, he⟩
  rcases hc with hc | hc | ⟨f, xs, rfl⟩ | ⟨x, xs, rfl⟩
  · obtain ⟨v, h1, h2⟩ := pure_det hc hh
    exact ⟨v, h1, fun g k2 K2 _ hk => (h2 g k2 K2).2 hk⟩
  · cases op <;> try (cases hc; done)
    case load1 x =>
      cases hx : ev x <;> try (simp only [aopP, hx, load1P] at hh; done)
      case ptr j b sz i off =>
        simp only [aopP, hx, load1P] at hh
        obtain ⟨v, h1, h2⟩ := rowP_one (Φ := fun r => nthC r off) (fun r => Det.nth r off) hh
        exact ⟨v, h1, fun g k2 K2 hl hk => by simp only [aopP, hx, load1P]; exact h2 g (fun v => K2 v g) hl hk⟩
      case rp t cs =>
        simp only [aopP, hx, load1P] at hh
        obtain ⟨v, h1, h2⟩ := Det.nth cs 0 _ hh
        exact ⟨v, h1, fun g k2 K2 hl hk => by simp only [aopP, hx, load1P]; exact (h2 _).2 hk⟩
    case loadn n x =>
      cases hx : ev x <;> try (simp only [aopP, hx, loadnP] at hh; done)
      case ptr j b sz i off =>
        simp only [aopP, hx, loadnP] at hh
        obtain ⟨v, h1, h2⟩ := rowP_one (K := fun v => K v h) (Φ := fun r K => off + n ≤ r.length ∧ K (.agg ((r.drop off).take n))) (fun r => Det.and (Det.unit _)) hh
        exact ⟨v, h1, fun g k2 K2 hl hk => by simp only [aopP, hx, loadnP]; exact h2 g (fun v => K2 v g) hl hk⟩
      case rp t cs =>
        simp only [aopP, hx, loadnP] at hh
        exact ⟨_, hh.2, fun g k2 K2 hl hk => by simp only [aopP, hx, loadnP]; exact ⟨hh.1, hk⟩⟩
  · obtain ⟨v, h1, h2⟩ := call f _ hh
    exact ⟨v, h1, fun g k2 K2 hl hk => h2 g K2 hl hk⟩
  · cases hx : ev x <;> try (simp only [aopP, hx] at hh; done)
    simp only [aopP, hx] at hh
    obtain ⟨v, h1, h2⟩ := call _ _ hh
    exact ⟨v, h1, fun g k2 K2 hl hk => by simp only [aopP, hx]; exact h2 g K2 hl hk⟩
end Go.Proofs.Ytdmpbdmgaepndaa.AM
