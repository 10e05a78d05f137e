/-
  Words for memory that the whole seat shares: the row of an element type; append of one element that was just built; what is kept below a block number.
-/
import Derived.Test.YtcdldpjmdelebaaRows
import Derived.WalkKit
import Derived.WalkSpells
import Derived.WalkLawsBesides
import Derived.Lib.Hide
import Derived.BigQuiet
namespace Go
def World.ob (w : World) (g : Nat) (T : TypeId) (cs : Array Value) : World := { w with heap := w.heap.setIfInBounds g (.cells cs T (0, 0)) }
end Go
set_option linter.unusedVariables false
set_option linter.unusedSimpArgs false
namespace Go.Proofs.Ytcdldpjmdelebaa
open Go.RowKit

/-- what the program's tables say of a slice type T and its element type e -/
structure ElemRow (P : Program) (T e : TypeId) (z : Value) (size bytes : Nat) : Prop where
  under : P.underlying T = some (.slice e)
  info : (P.info? e).map (fun i => (i.zero, i.size, i.bytes)) = some (some z, size, bytes)
  cells : z.cells.size = size
  pos : 0 < size
  bpos : 0 < bytes

section
variable {P : Program} {T e : TypeId} {z : Value} {size bytes : Nat}

theorem grown_below {w w' : World} {base n : Nat} {v : Value} {xs : List Value} (hown : w.ownsRow base e size v n xs) (hg : w.grownBy w' v.ownBlock) (hb : base ≤ w.heap.size) : Below base w w' :=
  (Below.refl base w).grown hg hb (fun k hk => (hown.lt k hk).1)

/-- append of what lies at an address -/
theorem wpList_app (E : ElemRow P T e z size bytes) {w : World} {ops : Array Oper} {rest : List Oper} {o : Oper} {a : Act} {Q : Exit → Act → World → Prop} (hgd : o.guard = none) (s x : Operand)
    (ho : o.op = .call { callee := .builtin .append, args := #[s, x], argTypes := #[T, T] })
    {base n : Nat} {v : Value} {xs : List Value} (hs : a.eval s = v) (hown : w.ownsRow base e size v n xs)
    {ad : Addr} {m c : Nat} {news : List Value} (hx : a.eval x = .slice (some ad) m c) (hl : news.length = m * size) (hnews : ∀ j u, news[j]? = some u → w.cell? (ad.add j) = some u) (h1 : ∀ u ∈ news, u.oneCell' = true)
    (hbytes : (n + m) * bytes ≤ 140737488355328) (hbase : base ≤ w.heap.size)
    (h : ∀ v' w', w'.ownsRow base e size v' (n + m) (xs ++ news) → Below base w w' → w.grownBy w' v.ownBlock → wpList P ops Q rest (a.put o.dst v') w') : wpList P ops Q (o :: rest) a w := by
  obtain ⟨i, hi, hz, hsz, hby⟩ := info_parts E.info
  have h63 : n + m ≤ maxLen := by
    have := Nat.le_trans (Nat.le_mul_of_pos_right (n + m) E.bpos) hbytes
    simp only [maxLen]; omega
  exact wpList_append_own w hgd s x T ho base e i z size bytes E.under hi hz hsz hby E.cells E.pos v n xs hs hown ad m c news hx hl hnews h1 h63 hbytes hbase
    (fun v' w' h2 h3 _ => h v' w' h2 (grown_below hown h3 hbase) h3)

/-- append of one element that was just built -/
theorem wpList_app1 (E : ElemRow P T e z size bytes) {w : World} {cs : Array Value} {ops : Array Oper} {rest : List Oper} {o : Oper} {a : Act} {Q : Exit → Act → World → Prop} (hgd : o.guard = none) (s x : Operand)
    (ho : o.op = .call { callee := .builtin .append, args := #[s, x], argTypes := #[T, T] })
    {base n : Nat} {v : Value} {xs : List Value} (hs : a.eval s = v) (hown : w.ownsRow base e size v n xs)
    (hx : a.eval x = .slice (some ⟨w.heap.size, 0, none⟩) 1 1) (hl : cs.size = size) (h1 : cs.toList.all (·.oneCell') = true)
    (hbytes : (n + 1) * bytes ≤ 140737488355328) (hbase : base ≤ w.heap.size)
    (h : ∀ v' w', w'.ownsRow base e size v' (n + 1) (xs ++ cs.toList) → Below base w w' → w.grownBy w' v.ownBlock → wpList P ops Q rest (a.put o.dst v') w') : wpList P ops Q (o :: rest) a (w.alloc (.cells cs e)) := by
  refine wpList_app E hgd s x ho hs (hown.alloc _) hx (news := cs.toList) (by simp [hl]) (fun j u hj => ?_) (fun u hu => ?_) hbytes (by simp; omega) (fun v' w' h2 h3 h4 => ?_)
  · rw [Addr.add_lit, Nat.zero_add, World.cell?_alloc_new]
    simpa using hj
  · exact (List.all_eq_true.1 h1) u hu
  · exact h v' w' h2 (((Below.refl base w).alloc hbase _).trans h3) ⟨h4.os, h4.tape, h4.output, Nat.le_trans (by simp) h4.size, fun k hk hne => (h4.block k (by simp; omega) hne).trans (Below.heap_alloc w _ k hk)⟩
end

theorem bcell {W w1 : World} (hb : Below W.heap.size W w1) : (∀ b o, b < W.heap.size → w1.cell? ⟨b, o, none⟩ = W.cell? ⟨b, o, none⟩) ∧ (∀ b o, b < W.heap.size → w1.frozen? ⟨b, o, none⟩ = W.frozen? ⟨b, o, none⟩) :=
  ⟨fun b o h => hb.cell (p := ⟨b, o, none⟩) h, fun b o h => hb.frozen (p := ⟨b, o, none⟩) h⟩

/-! slices that are nil or empty, and single values -/
theorem own_keep {w w' : World} {base n B : Nat} {e : TypeId} {size : Nat} {v : Value} {xs : List Value} (h : w.ownsRow base e size v n xs) (hb : Below B w w') (hB : w.heap.size ≤ B) : w'.ownsRow base e size v n xs := by
  refine ⟨h.1, ?_⟩
  rcases h.2 with hn | ⟨g, cap, cur, rfl, hbg, hh, rest⟩
  · exact .inl hn
  · exact .inr ⟨g, cap, cur, rfl, hbg, (hb.block g (Nat.lt_of_lt_of_le (Array.getElem?_eq_some_iff.1 hh).1 hB)).trans hh, rest⟩

/-! A region that draws its order and whose calls make memory, but hand back plain values: one walk, in the class of all worlds that are as w was below B. -/
def BW (B : Nat) (w : World) : Type := { x : World // Below B w x }
def BW.val {B : Nat} {w : World} (x : BW B w) : World := Subtype.val x
theorem BW.below {B : Nat} {w : World} (x : BW B w) : Below B w x.val := Subtype.property x
theorem BW.ne (B : Nat) (w : World) : Nonempty (BW B w) := ⟨⟨w, Below.refl _ _⟩⟩

theorem wp_region_below_lit {P : Program} {id : Nat} {Q : Exit → Act → World → Prop} {a : Act} {w : World} {l : List Oper} (B : Nat) (hm : P.follows .mixedOrders = true) (hB : Region.lexB .any l.toArray = true)
    (h : wpQuiet P l.toArray (fun w' => ∃ x : BW B w, w' = x.val) (fun a' => ∀ w', (∃ x : BW B w, w' = x.val) → Q .normal a' w') l a) : (Code.region id l.toArray true).wp P Q a w :=
  wp_region_quiet (C := fun w' => ∃ x : BW B w, w' = x.val) hm hB ⟨⟨w.drew, (Below.refl B w).drew⟩, rfl⟩ (by simpa using h)

theorem BW.call {P : Program} {f : FuncId} {args : Array Value} {B : Nat} {w : World} {x : BW B w} {v : Value} (hB : B ≤ w.heap.size)
    (h : Calls P f args x.val fun e w' => e = .returned v ∧ Below x.val.heap.size x.val w') : Calls P f args x.val fun e w'' => e = .returned v ∧ ∃ y : BW B w, w'' = y.val :=
  h.mono fun _ w' ⟨he, hb⟩ => ⟨he, ⟨w', x.below.trans (hb.mono (Nat.le_trans hB x.below.size))⟩, rfl⟩
theorem BW.call_same {P : Program} {f : FuncId} {args : Array Value} {B : Nat} {w : World} {x : BW B w} {v : Value}
    (h : Calls P f args x.val fun e w' => e = .returned v ∧ x.val = w') : Calls P f args x.val fun e w'' => e = .returned v ∧ ∃ y : BW B w, w'' = y.val :=
  h.mono fun _ w' ⟨he, hb⟩ => ⟨he, x, hb.symm⟩

/-! A struct of the call's own in a world that is a variable: 'w.ob g T cs': w, but block g holds just the cells cs. Loads and stores reckon on it without conditions on memory. -/
section
variable {w : World} {g b o : Nat} {T : TypeId} {cs : Array Value} {s : Option Nat} {v : Value}
@[go_sem, simp] theorem size_ob : (w.ob g T cs).heap.size = w.heap.size := by simp [World.ob]
theorem heap_ob_same (h : g < w.heap.size) : (w.ob g T cs).heap[g]? = some (.cells cs T (0, 0)) := by simp [World.ob, h]
theorem heap_ob_other (h : b ≠ g) : (w.ob g T cs).heap[b]? = w.heap[b]? := by
  simp only [World.ob, Array.getElem?_setIfInBounds]
  rw [if_neg (fun e => h e.symm)]
@[go_sem] theorem cell?_ob_same (h : g < w.heap.size) : (w.ob g T cs).cell? ⟨g, o, none⟩ = cs[o]? := by
  simp [World.cell?, heap_ob_same h]
@[go_sem] theorem cell?_ob_other {sp} (h : b ≠ g) : (w.ob g T cs).cell? ⟨b, o, sp⟩ = w.cell? ⟨b, o, sp⟩ := by
  simp [World.cell?, heap_ob_other h]
@[go_sem] theorem frozen?_ob_same {sp} : (w.ob g T cs).frozen? ⟨g, o, sp⟩ = false := by
  by_cases h : g < w.heap.size
  · simp [World.frozen?, heap_ob_same h]
  · have : (w.ob g T cs).heap[g]? = none := by rw [Array.getElem?_eq_none]; simp; omega
    simp [World.frozen?, this]
@[go_sem] theorem frozen?_ob_other {sp} (h : b ≠ g) : (w.ob g T cs).frozen? ⟨b, o, sp⟩ = w.frozen? ⟨b, o, sp⟩ := by
  simp [World.frozen?, heap_ob_other h]
@[go_sem] theorem setCell_ob_same : (w.ob g T cs).setCell ⟨g, o, none⟩ v = w.ob g T (cs.setIfInBounds o v) := by
  simp only [World.ob, World.setCell]
  congr 1
  apply Array.ext_getElem?
  intro i
  simp only [Array.getElem?_modify, Array.getElem?_setIfInBounds, Array.size_setIfInBounds]
  by_cases h : g = i
  · subst h
    by_cases hs : g < w.heap.size <;> simp [hs]
  · simp [h]
@[go_sem] theorem setCell_ob_other {sp} (h : b ≠ g) : (w.ob g T cs).setCell ⟨b, o, sp⟩ v = (w.setCell ⟨b, o, sp⟩ v).ob g T cs := by
  simp only [World.ob, World.setCell]
  congr 1
  apply Array.ext_getElem?
  intro i
  simp only [Array.getElem?_modify, Array.getElem?_setIfInBounds, Array.size_modify]
  by_cases h1 : g = i
  · subst h1; simp [h]
  · simp [h1]
@[go_sem] theorem ob_drew : w.drew.ob g T cs = (w.ob g T cs).drew := rfl
@[go_sem] theorem ob_drewN {n : Nat} : (w.drewN n).ob g T cs = (w.ob g T cs).drewN n := rfl
@[go_sem] theorem setCell_drewN {n : Nat} {a : Addr} : (w.drewN n).setCell a v = (w.setCell a v).drewN n := rfl
@[go_sem] theorem alloc_drewN {n : Nat} {x : Obj} : (w.drewN n).alloc x = (w.alloc x).drewN n := rfl
theorem ob_self (h : w.heap[g]? = some (.cells cs T (0, 0))) : w.ob g T cs = w := by
  obtain ⟨hlt, he⟩ := Array.getElem?_eq_some_iff.1 h
  have : w.heap.setIfInBounds g (.cells cs T (0, 0)) = w.heap := by
    apply Array.ext_getElem?
    intro i
    rw [Array.getElem?_setIfInBounds]
    by_cases e : g = i
    · subst e; simp [hlt, he]
    · rw [if_neg e]
  simp [World.ob, this]
end
theorem below_ob {B : Nat} {a w : World} (h : Below B a w) {g : Nat} (hg : B ≤ g) (T : TypeId) (cs : Array Value) : Below B a (w.ob g T cs) :=
  h.trans ⟨rfl, rfl, rfl, by simp, fun k hk => heap_ob_other (by omega)⟩
@[go_sem] theorem heap_alloc_at {w : World} {x : Obj} {n : Nat} (h : n = w.heap.size) : (w.alloc x).heap[n]? = some x := by subst h; exact heap_alloc_new w x
@[go_sem] theorem heap_alloc_past {w : World} {x : Obj} {n : Nat} (h : n < w.heap.size) : (w.alloc x).heap[n]? = w.heap[n]? := Below.heap_alloc w x n h
/-- behind a call: the own structs are as they were -/
theorem reob1 {B : Nat} {W w1 : World} (hb : Below B W w1) {g0 : Nat} {T0 : TypeId} {c0 : Array Value} (h0 : g0 < B) (e0 : W.heap[g0]? = some (.cells c0 T0 (0, 0))) :
    ∃ w2, w1 = w2.ob g0 T0 c0 ∧ Below B W w2 :=
  ⟨w1, (ob_self ((hb.block _ h0).trans e0)).symm, hb⟩
theorem reob2 {B : Nat} {W w1 : World} (hb : Below B W w1) {g0 g1 : Nat} {T0 T1 : TypeId} {c0 c1 : Array Value} (h0 : g0 < B) (e0 : W.heap[g0]? = some (.cells c0 T0 (0, 0))) (h1 : g1 < B) (e1 : W.heap[g1]? = some (.cells c1 T1 (0, 0))) :
    ∃ w2, w1 = (w2.ob g0 T0 c0).ob g1 T1 c1 ∧ Below B W w2 :=
  ⟨w1, by rw [ob_self ((hb.block _ h0).trans e0), ob_self ((hb.block _ h1).trans e1)], hb⟩
theorem reob3 {B : Nat} {W w1 : World} (hb : Below B W w1) {g0 g1 g2 : Nat} {T0 T1 T2 : TypeId} {c0 c1 c2 : Array Value} (h0 : g0 < B) (e0 : W.heap[g0]? = some (.cells c0 T0 (0, 0))) (h1 : g1 < B) (e1 : W.heap[g1]? = some (.cells c1 T1 (0, 0))) (h2 : g2 < B) (e2 : W.heap[g2]? = some (.cells c2 T2 (0, 0))) :
    ∃ w2, w1 = ((w2.ob g0 T0 c0).ob g1 T1 c1).ob g2 T2 c2 ∧ Below B W w2 :=
  ⟨w1, by rw [ob_self ((hb.block _ h0).trans e0), ob_self ((hb.block _ h1).trans e1), ob_self ((hb.block _ h2).trans e2)], hb⟩
theorem reob4 {B : Nat} {W w1 : World} (hb : Below B W w1) {g0 g1 g2 g3 : Nat} {T0 T1 T2 T3 : TypeId} {c0 c1 c2 c3 : Array Value} (h0 : g0 < B) (e0 : W.heap[g0]? = some (.cells c0 T0 (0, 0))) (h1 : g1 < B) (e1 : W.heap[g1]? = some (.cells c1 T1 (0, 0))) (h2 : g2 < B) (e2 : W.heap[g2]? = some (.cells c2 T2 (0, 0))) (h3 : g3 < B) (e3 : W.heap[g3]? = some (.cells c3 T3 (0, 0))) :
    ∃ w2, w1 = (((w2.ob g0 T0 c0).ob g1 T1 c1).ob g2 T2 c2).ob g3 T3 c3 ∧ Below B W w2 :=
  ⟨w1, by rw [ob_self ((hb.block _ h0).trans e0), ob_self ((hb.block _ h1).trans e1), ob_self ((hb.block _ h2).trans e2), ob_self ((hb.block _ h3).trans e3)], hb⟩
end Go.Proofs.Ytcdldpjmdelebaa
