/-
  Texts of the plain machine, put together: what the law TopArchive reaches.
-/
import Derived.Test.YtobngncjflogcaaTopArchive8
import Derived.Test.YtobngncjflogcaaTopArchive6
import Derived.Test.YtobngncjflogcaaTopArchive5
set_option linter.unusedVariables false
set_option linter.unusedSimpArgs false
namespace Go.Proofs.Ytobngncjflogcaa.AM
open Go Go.RowKit
set_option maxRecDepth 100000
set_option maxHeartbeats 2000000
structure LogD where
  gen : Int
  base : Int
  text : List UInt8
  first : Nat → Int
  table : Nat → Int
  revs : List Rev
  whole : Bool
  good : Int
def zeroL : LogD := ⟨0, 0, [], fun _ => 0, fun _ => 0, [], false, 0⟩
def stepL (l : LogD) (now : List UInt8) (f : Frame) : Option (LogD × List UInt8) :=
  if f.kind = 3 then (if l.whole = true ∨ f.body ≠ [] then none else some (⟨l.gen, l.base, l.text, l.first, l.table, l.revs, true, l.good + ((f.body.length : Int) + 7)⟩, now))
  else if f.kind = 2 then
    (if revOk f.body = true ∧ nextF l.base l.table l.revs.length now.length (revB f.body) = 0 then
      some (⟨l.gen, l.base, l.text, l.first, addTb l.table (revB f.body).who.toNat (revB f.body).seq (l.base + (l.revs.length : Int) + 1), l.revs ++ [revB f.body], l.whole, l.good + ((f.body.length : Int) + 7)⟩, (doF (revB f.body).delta now).1) else none)
  else none
def allL : List Frame → LogD → List UInt8 → LogD
  | [], l, _ => l
  | f :: fs, l, now => match stepL l now f with
    | none => l
    | some (l2, n2) => allL fs l2 n2
def headG (g b : Int) (tx : List UInt8) (f : Nat → Int) (n : Int) : LogD := ⟨g, b, tx, f, f, [], false, n⟩
def readG (hg hb : List UInt8 → Int) (ht : List UInt8 → List UInt8) (hf : List UInt8 → Nat → Int) (ho : List UInt8 → Bool) (fs : List Frame) : LogD × Int := match fs with
  | [] => (zeroL, 7)
  | f :: fs => if f.kind ≠ 1 ∨ ho f.body = false then (zeroL, 3) else (allL fs (headG (hg f.body) (hb f.body) (ht f.body) (hf f.body) ((f.body.length : Int) + 7)) (ht f.body), 0)
def readL (fs : List Frame) : LogD × Int := readG (fun x => tkN x 0) (fun x => tkN x 1) (fun x => (tkS x 18).1) (fun x j => tkN x (j + 2)) headOk fs
def SlR (kk : Nat) (h : Hp) (rows : List (List V)) (v : V) (x : Int) : Prop := (v = .nilsl ∧ rows = [] ∧ x ≠ 0) ∨ ∃ β n, v = .own kk β 3 n ∧ h kk = some ⟨β, 45, 3, rows⟩ ∧ n = rows.length
theorem SlR.fr {kk : Nat} {h : Hp} {l : List Rev} {v : V} {x : Int} (hv : SlR kk h (l.map encRev) v x) : Fr h v (.sl false 3 (l.map encRev)) := by
  rcases hv with ⟨rfl, h0, _⟩ | ⟨β, n, rfl, h1, h2⟩
  · rw [h0]; exact .nilsl 3
  · exact .rows h1 rfl rfl h2.symm (encRevs_sz _) (encRevs_fz _)
def RetLog (rv : List RV) (kk : Nat) (l : LogD) (e : Int) (R : S → Prop) : Prop :=
  ∀ (s s' : S) (gn b gd : Int) (tx : List UInt8) (fs tb : Nat → Int) (wh : Bool) (v : V) (rows : List (List V)) (x : Int), Ent s s' → Ret rv [.agg [.int .i64 gn, .int .i64 b, .str tx, .int .i64 (fs 0), .int .i64 (fs 1), .int .i64 (fs 2), .int .i64 (fs 3), .int .i64 (fs 4), .int .i64 (fs 5), .int .i64 (fs 6), .int .i64 (fs 7), .int .i64 (fs 8), .int .i64 (fs 9), .int .i64 (fs 10), .int .i64 (fs 11), .int .i64 (fs 12), .int .i64 (fs 13), .int .i64 (fs 14), .int .i64 (fs 15), .int .i64 (tb 0), .int .i64 (tb 1), .int .i64 (tb 2), .int .i64 (tb 3), .int .i64 (tb 4), .int .i64 (tb 5), .int .i64 (tb 6), .int .i64 (tb 7), .int .i64 (tb 8), .int .i64 (tb 9), .int .i64 (tb 10), .int .i64 (tb 11), .int .i64 (tb 12), .int .i64 (tb 13), .int .i64 (tb 14), .int .i64 (tb 15), v, .bool wh, .int .i64 gd], .int .i64 x] s' → SlR kk s'.h rows v x →
    gn = l.gen ∧ b = l.base ∧ gd = l.good ∧ tx = l.text ∧ (∀ j, j < 16 → fs j = l.first j) ∧ (∀ j, j < 16 → tb j = l.table j) ∧ wh = l.whole ∧ rows = l.revs.map encRev ∧ x = e → R s
theorem arg_agg {h : Hp} {m : List (Nat × Nat)} : ∀ {l l' : List V}, Args h m l l' → l.length = l'.length ∧ ∀ (i : Nat) (v v' : V), l[i]? = some v → l'[i]? = some v' → Arg h m v v'
  | _, _, .nil => ⟨rfl, fun i v v' h1 => by cases h1⟩
  | _, _, .cons a b => by
    obtain ⟨h1, h2⟩ := arg_agg b
    refine ⟨by simp [h1], fun i v v' g1 g2 => ?_⟩
    cases i with
    | zero =>
      simp only [List.getElem?_cons_zero, Option.some.injEq] at g1 g2
      subst g1 g2; exact a
    | succ i => simp only [List.getElem?_cons_succ] at g1 g2; exact h2 i v v' g1 g2
def NxC (T : CallT) (f : Nat) (nx : Int → (Nat → Int) → Nat → Int → Rev → Int) : Prop := ∀ (k : Nat) (ba : Option Nat) (n : Nat) (rows : List (List V)) (gn b gd sz w q : Int) (tx : List UInt8) (fs tb : Nat → Int) (wh : Bool) (l : List Rev) (dr : List (List V)) (r : Rev) (h : Hp) (K : V → Hp → Prop),
  rows = l.map encRev → n = l.length → (w = r.who ∧ q = r.seq ∧ dr = r.delta.map encPart) → PartsOk r.delta → 0 ≤ b ∧ b ≤ 2147483647 → h k = some ⟨ba, 45, 3, rows⟩ →
  K (.int .i64 (nx b tb l.length sz r)) h → T f [.agg [.int .i64 gn, .int .i64 b, .str tx, .int .i64 (fs 0), .int .i64 (fs 1), .int .i64 (fs 2), .int .i64 (fs 3), .int .i64 (fs 4), .int .i64 (fs 5), .int .i64 (fs 6), .int .i64 (fs 7), .int .i64 (fs 8), .int .i64 (fs 9), .int .i64 (fs 10), .int .i64 (fs 11), .int .i64 (fs 12), .int .i64 (fs 13), .int .i64 (fs 14), .int .i64 (fs 15), .int .i64 (tb 0), .int .i64 (tb 1), .int .i64 (tb 2), .int .i64 (tb 3), .int .i64 (tb 4), .int .i64 (tb 5), .int .i64 (tb 6), .int .i64 (tb 7), .int .i64 (tb 8), .int .i64 (tb 9), .int .i64 (tb 10), .int .i64 (tb 11), .int .i64 (tb 12), .int .i64 (tb 13), .int .i64 (tb 14), .int .i64 (tb 15), .own k ba 3 n, .bool wh, .int .i64 gd], .int .i64 sz, .agg [.int .i64 w, .int .i64 q, .sl false 3 dr]] h K
theorem nxC_of {f : Nat} (hs : ∀ (gn b : Int) (tx : List UInt8) (fs tb : Nat → Int) (l : List Rev) (wh : Bool) (gd size : Int) (r : Rev), 0 ≤ b ∧ b ≤ 2147483647 → PartsOk r.delta → Spec Try.prog f [logT gn b tx fs tb (l.map encRev) wh gd, .int .i64 size, .agg (encRev r)] Hp.emp (Is (.int .i64 (nextF b tb l.length size r)))) : NxC (CallE Try.prog) f nextF := by
  rintro k ba n rows gn b gd sz w q tx fs tb wh l dr r h K rfl rfl ⟨rfl, rfl, rfl⟩ hp hb hk hK
  have hown : Arg h [] (.own k ba 3 l.length) (.sl true 3 (l.map encRev)) := .own k ba 3 l.length _ (rowsOf_own (by simp) hk) (by simp)
  obtain ⟨a1, a2⟩ := arg_agg (h := h) (m := []) (l := [.int .i64 gn, .int .i64 b, .str tx, .int .i64 (fs 0), .int .i64 (fs 1), .int .i64 (fs 2), .int .i64 (fs 3), .int .i64 (fs 4), .int .i64 (fs 5), .int .i64 (fs 6), .int .i64 (fs 7), .int .i64 (fs 8), .int .i64 (fs 9), .int .i64 (fs 10), .int .i64 (fs 11), .int .i64 (fs 12), .int .i64 (fs 13), .int .i64 (fs 14), .int .i64 (fs 15), .int .i64 (tb 0), .int .i64 (tb 1), .int .i64 (tb 2), .int .i64 (tb 3), .int .i64 (tb 4), .int .i64 (tb 5), .int .i64 (tb 6), .int .i64 (tb 7), .int .i64 (tb 8), .int .i64 (tb 9), .int .i64 (tb 10), .int .i64 (tb 11), .int .i64 (tb 12), .int .i64 (tb 13), .int .i64 (tb 14), .int .i64 (tb 15), .own k ba 3 l.length, .bool wh, .int .i64 gd]) (l' := [.int .i64 gn, .int .i64 b, .str tx, .int .i64 (fs 0), .int .i64 (fs 1), .int .i64 (fs 2), .int .i64 (fs 3), .int .i64 (fs 4), .int .i64 (fs 5), .int .i64 (fs 6), .int .i64 (fs 7), .int .i64 (fs 8), .int .i64 (fs 9), .int .i64 (fs 10), .int .i64 (fs 11), .int .i64 (fs 12), .int .i64 (fs 13), .int .i64 (fs 14), .int .i64 (fs 15), .int .i64 (tb 0), .int .i64 (tb 1), .int .i64 (tb 2), .int .i64 (tb 3), .int .i64 (tb 4), .int .i64 (tb 5), .int .i64 (tb 6), .int .i64 (tb 7), .int .i64 (tb 8), .int .i64 (tb 9), .int .i64 (tb 10), .int .i64 (tb 11), .int .i64 (tb 12), .int .i64 (tb 13), .int .i64 (tb 14), .int .i64 (tb 15), .sl true 3 (l.map encRev), .bool wh, .int .i64 gd]) (.cons (.same _) (.cons (.same _) (.cons (.same _) (.cons (.same _) (.cons (.same _) (.cons (.same _) (.cons (.same _) (.cons (.same _) (.cons (.same _) (.cons (.same _) (.cons (.same _) (.cons (.same _) (.cons (.same _) (.cons (.same _) (.cons (.same _) (.cons (.same _) (.cons (.same _) (.cons (.same _) (.cons (.same _) (.cons (.same _) (.cons (.same _) (.cons (.same _) (.cons (.same _) (.cons (.same _) (.cons (.same _) (.cons (.same _) (.cons (.same _) (.cons (.same _) (.cons (.same _) (.cons (.same _) (.cons (.same _) (.cons (.same _) (.cons (.same _) (.cons (.same _) (.cons (.same _) (.cons hown (.cons (.same _) (.cons (.same _) .nil))))))))))))))))))))))))))))))))))))))
  exact ⟨h, HEnt.refl h, call_pure (hs gn b tx fs tb l wh gd sz r hb hp) (.cons (.agg _ _ a1 a2) (.cons (.same _) (.cons (.same _) .nil))) hK⟩
def ac_hread : AC := .seq (.region false [
    ⟨some 2, none, .alloc 81 [(.int .i64 0), (.int .i64 0), (.string ⟨#[]⟩), (.int .i64 0), (.int .i64 0), (.int .i64 0), (.int .i64 0), (.int .i64 0), (.int .i64 0), (.int .i64 0), (.int .i64 0), (.int .i64 0), (.int .i64 0), (.int .i64 0), (.int .i64 0), (.int .i64 0), (.int .i64 0), (.int .i64 0), (.int .i64 0), (.int .i64 0), (.int .i64 0), (.int .i64 0), (.int .i64 0), (.int .i64 0), (.int .i64 0), (.int .i64 0), (.int .i64 0), (.int .i64 0), (.int .i64 0), (.int .i64 0), (.int .i64 0), (.int .i64 0), (.int .i64 0), (.int .i64 0), (.int .i64 0), (.slice none 0 0), (.bool false), (.int .i64 0)]⟩,
    ⟨some 3, none, .mov (.c (.int .i64 0))⟩])
  (.seq (.region false [
    ⟨some 14, none, .mov (.t 0)⟩,
    ⟨some 15, none, .call 68 [(.t 14)]⟩,
    ⟨some 13, none, .mov (.t 15)⟩,
    ⟨some 16, none, .ext 0 (.t 13)⟩,
    ⟨some 17, none, .ext 1 (.t 13)⟩,
    ⟨some 4, none, .mov (.t 16)⟩,
    ⟨some 5, none, .mov (.t 17)⟩])
  (.seq (.seq (.region false [
    ⟨some 18, none, .mov (.t 4)⟩,
    ⟨some 19, none, .len false (.t 18)⟩,
    ⟨some 20, none, .bin .eql (.t 19) (.c (.int .i64 0))⟩])
  (.cond (.t 20)
    (.seq (.region false [
      ⟨some 21, none, .build [(.int .i64 0), (.int .i64 0), (.string ⟨#[]⟩), (.int .i64 0), (.int .i64 0), (.int .i64 0), (.int .i64 0), (.int .i64 0), (.int .i64 0), (.int .i64 0), (.int .i64 0), (.int .i64 0), (.int .i64 0), (.int .i64 0), (.int .i64 0), (.int .i64 0), (.int .i64 0), (.int .i64 0), (.int .i64 0), (.int .i64 0), (.int .i64 0), (.int .i64 0), (.int .i64 0), (.int .i64 0), (.int .i64 0), (.int .i64 0), (.int .i64 0), (.int .i64 0), (.int .i64 0), (.int .i64 0), (.int .i64 0), (.int .i64 0), (.int .i64 0), (.int .i64 0), (.int .i64 0), (.slice none 0 0), (.bool false), (.int .i64 0)] []⟩,
      ⟨none, none, .store 38 (.t 2) (.t 21)⟩,
      ⟨some 3, none, .mov (.c (.int .i64 7))⟩])
    (.ret))
    (.skip)))
  (.seq (.region false [
    ⟨some 23, none, .mov (.t 4)⟩,
    ⟨some 24, none, .iaddr 2 (.t 23) (.c (.int .i64 0))⟩,
    ⟨some 25, none, .faddr 1 (.t 24)⟩,
    ⟨some 26, none, .load1 (.t 25)⟩,
    ⟨some 27, none, .call 69 [(.t 26)]⟩,
    ⟨some 22, none, .mov (.t 27)⟩,
    ⟨some 28, none, .ext 0 (.t 22)⟩,
    ⟨some 29, none, .ext 1 (.t 22)⟩,
    ⟨some 6, none, .alloc 81 [(.int .i64 0), (.int .i64 0), (.string ⟨#[]⟩), (.int .i64 0), (.int .i64 0), (.int .i64 0), (.int .i64 0), (.int .i64 0), (.int .i64 0), (.int .i64 0), (.int .i64 0), (.int .i64 0), (.int .i64 0), (.int .i64 0), (.int .i64 0), (.int .i64 0), (.int .i64 0), (.int .i64 0), (.int .i64 0), (.int .i64 0), (.int .i64 0), (.int .i64 0), (.int .i64 0), (.int .i64 0), (.int .i64 0), (.int .i64 0), (.int .i64 0), (.int .i64 0), (.int .i64 0), (.int .i64 0), (.int .i64 0), (.int .i64 0), (.int .i64 0), (.int .i64 0), (.int .i64 0), (.slice none 0 0), (.bool false), (.int .i64 0)]⟩,
    ⟨none, none, .store 38 (.t 6) (.t 28)⟩,
    ⟨some 7, none, .mov (.t 29)⟩])
  (.seq (.seq (.region false [
    ⟨some 30, none, .mov (.t 4)⟩,
    ⟨some 31, none, .iaddr 2 (.t 30) (.c (.int .i64 0))⟩,
    ⟨some 32, none, .faddr 0 (.t 31)⟩,
    ⟨some 33, none, .load1 (.t 32)⟩,
    ⟨some 34, none, .bin .neq (.t 33) (.c (.int .i64 1))⟩,
    ⟨some 35, none, .mov (.t 34)⟩,
    ⟨some 36, some (35, false), .mov (.t 7)⟩,
    ⟨some 37, some (35, false), .not (.t 36)⟩,
    ⟨some 38, none, .pick (.t 35) (.c (.bool true)) (.t 37)⟩])
  (.cond (.t 38)
    (.seq (.region false [
      ⟨some 39, none, .build [(.int .i64 0), (.int .i64 0), (.string ⟨#[]⟩), (.int .i64 0), (.int .i64 0), (.int .i64 0), (.int .i64 0), (.int .i64 0), (.int .i64 0), (.int .i64 0), (.int .i64 0), (.int .i64 0), (.int .i64 0), (.int .i64 0), (.int .i64 0), (.int .i64 0), (.int .i64 0), (.int .i64 0), (.int .i64 0), (.int .i64 0), (.int .i64 0), (.int .i64 0), (.int .i64 0), (.int .i64 0), (.int .i64 0), (.int .i64 0), (.int .i64 0), (.int .i64 0), (.int .i64 0), (.int .i64 0), (.int .i64 0), (.int .i64 0), (.int .i64 0), (.int .i64 0), (.int .i64 0), (.slice none 0 0), (.bool false), (.int .i64 0)] []⟩,
      ⟨none, none, .store 38 (.t 2) (.t 39)⟩,
      ⟨some 3, none, .mov (.c (.int .i64 3))⟩])
    (.ret))
    (.skip)))
  (.seq (.region false [
    ⟨some 40, none, .faddr 2 (.t 6)⟩,
    ⟨some 41, none, .load1 (.t 40)⟩,
    ⟨some 8, none, .mov (.t 41)⟩])
  (.seq (.region false [
    ⟨some 42, none, .mov (.t 4)⟩,
    ⟨some 43, none, .iaddr 2 (.t 42) (.c (.int .i64 0))⟩,
    ⟨some 44, none, .faddr 1 (.t 43)⟩,
    ⟨some 45, none, .load1 (.t 44)⟩,
    ⟨some 46, none, .len true (.t 45)⟩,
    ⟨some 47, none, .bin .add (.t 46) (.c (.int .i64 7))⟩,
    ⟨some 48, none, .faddr 37 (.t 6)⟩,
    ⟨none, none, .store 1 (.t 48) (.t 47)⟩])
  (.seq (.seq (.region false [
    ⟨some 49, none, .mov (.t 4)⟩,
    ⟨some 50, none, .slsl 2 (.t 49) (some (.c (.int .i64 1))) none⟩,
    ⟨some 51, none, .len false (.t 50)⟩,
    ⟨some 52, none, .mov (.c (.int .i64 0))⟩])
  (.block 0 (.loop (.seq (.region false [
      ⟨some 53, none, .bin .lss (.t 52) (.t 51)⟩])
    (.seq (.cond (.t 53)
      (.skip)
      (.exit 0))
    (.seq (.block 1 (.seq (.region false [
      ⟨some 54, none, .iaddr 2 (.t 50) (.t 52)⟩,
      ⟨some 55, none, .loadn 2 (.t 54)⟩,
      ⟨some 10, none, .alloc 139 [(.int .i64 0), (.string ⟨#[]⟩)]⟩,
      ⟨none, none, .store 2 (.t 10) (.t 55)⟩])
    (.seq (.seq (.region false [
      ⟨some 56, none, .faddr 0 (.t 10)⟩,
      ⟨some 57, none, .load1 (.t 56)⟩])
    (.block 2 (.seq (.region false [
      ⟨some 60, none, .bin .eql (.t 57) (.c (.int .i64 3))⟩,
      ⟨some 59, none, .mov (.t 60)⟩])
    (.cond (.t 59)
      (.seq (.seq (.region false [
        ⟨some 61, none, .faddr 36 (.t 6)⟩,
        ⟨some 62, none, .load1 (.t 61)⟩,
        ⟨some 63, none, .mov (.t 62)⟩,
        ⟨some 64, some (63, false), .faddr 1 (.t 10)⟩,
        ⟨some 65, some (63, false), .load1 (.t 64)⟩,
        ⟨some 66, some (63, false), .bin .neq (.t 65) (.c (.string ⟨#[]⟩))⟩,
        ⟨some 67, none, .pick (.t 63) (.c (.bool true)) (.t 66)⟩])
      (.cond (.t 67)
        (.seq (.region false [
          ⟨some 68, none, .loadn 38 (.t 6)⟩,
          ⟨none, none, .store 38 (.t 2) (.t 68)⟩,
          ⟨some 3, none, .mov (.c (.int .i64 0))⟩])
        (.ret))
        (.skip)))
      (.region false [
        ⟨some 69, none, .faddr 36 (.t 6)⟩,
        ⟨none, none, .store 1 (.t 69) (.c (.bool true))⟩]))
      (.seq (.region false [
        ⟨some 71, none, .bin .eql (.t 57) (.c (.int .i64 2))⟩,
        ⟨some 70, none, .mov (.t 71)⟩])
      (.cond (.t 70)
        (.seq (.region false [
          ⟨some 73, none, .faddr 1 (.t 10)⟩,
          ⟨some 74, none, .load1 (.t 73)⟩,
          ⟨some 75, none, .call 70 [(.t 74)]⟩,
          ⟨some 72, none, .mov (.t 75)⟩,
          ⟨some 76, none, .ext 0 (.t 72)⟩,
          ⟨some 77, none, .ext 1 (.t 72)⟩,
          ⟨some 11, none, .alloc 45 [(.int .i64 0), (.int .i64 0), (.slice none 0 0)]⟩,
          ⟨none, none, .store 3 (.t 11) (.t 76)⟩,
          ⟨some 12, none, .mov (.t 77)⟩])
        (.seq (.seq (.region false [
          ⟨some 78, none, .mov (.t 12)⟩,
          ⟨some 79, none, .not (.t 78)⟩,
          ⟨some 80, none, .mov (.t 79)⟩,
          ⟨some 81, some (80, false), .loadn 38 (.t 6)⟩,
          ⟨some 82, some (80, false), .mov (.t 8)⟩,
          ⟨some 83, some (80, false), .len true (.t 82)⟩,
          ⟨some 84, some (80, false), .loadn 3 (.t 11)⟩,
          ⟨some 85, some (80, false), .call 60 [(.t 81), (.t 83), (.t 84)]⟩,
          ⟨some 86, some (80, false), .bin .neq (.t 85) (.c (.int .i64 0))⟩,
          ⟨some 87, none, .pick (.t 80) (.c (.bool true)) (.t 86)⟩])
        (.cond (.t 87)
          (.seq (.region false [
            ⟨some 88, none, .loadn 38 (.t 6)⟩,
            ⟨none, none, .store 38 (.t 2) (.t 88)⟩,
            ⟨some 3, none, .mov (.c (.int .i64 0))⟩])
          (.ret))
          (.skip)))
        (.seq (.region false [
          ⟨some 90, none, .faddr 2 (.t 11)⟩,
          ⟨some 91, none, .load1 (.t 90)⟩,
          ⟨some 92, none, .mov (.t 8)⟩,
          ⟨some 93, none, .call 16 [(.t 91), (.t 92)]⟩,
          ⟨some 89, none, .mov (.t 93)⟩,
          ⟨some 94, none, .ext 0 (.t 89)⟩,
          ⟨some 95, none, .ext 1 (.t 89)⟩,
          ⟨some 8, none, .mov (.t 94)⟩])
        (.region false [
          ⟨some 96, none, .loadn 3 (.t 11)⟩,
          ⟨some 97, none, .call 62 [(.t 6), (.t 96)]⟩]))))
        (.seq (.region false [
          ⟨some 58, none, .loadn 38 (.t 6)⟩,
          ⟨none, none, .store 38 (.t 2) (.t 58)⟩,
          ⟨some 3, none, .mov (.c (.int .i64 0))⟩])
        (.ret))))))))
    (.region false [
      ⟨some 98, none, .faddr 37 (.t 6)⟩,
      ⟨some 99, none, .load1 (.t 98)⟩,
      ⟨some 100, none, .faddr 1 (.t 10)⟩,
      ⟨some 101, none, .load1 (.t 100)⟩,
      ⟨some 102, none, .len true (.t 101)⟩,
      ⟨some 103, none, .bin .add (.t 102) (.c (.int .i64 7))⟩,
      ⟨some 104, none, .bin .add (.t 99) (.t 103)⟩,
      ⟨some 105, none, .faddr 37 (.t 6)⟩,
      ⟨none, none, .store 1 (.t 105) (.t 104)⟩]))))
    (.region false [
      ⟨some 106, none, .bin .add (.t 52) (.c (.int .i64 1))⟩,
      ⟨some 52, none, .mov (.t 106)⟩])))))))
  (.seq (.region false [
    ⟨some 107, none, .loadn 38 (.t 6)⟩,
    ⟨none, none, .store 38 (.t 2) (.t 107)⟩,
    ⟨some 3, none, .mov (.c (.int .i64 0))⟩])
  (.ret)))))))))
theorem ok_hread : FnOk Try.prog 34 Try.f34 ac_hread [.cn 2 38, .t 3] 1 drawD := ⟨Try.func34, by decide +kernel, by kernel_rfl, by kernel_rfl, by decide +kernel⟩
theorem nextF_ok {b : Int} {tb : Nat → Int} {n : Nat} {sz : Int} {r : Rev} (h : nextF b tb n sz r = 0) : oneF r = 0 ∧ n < 64 := by
  unfold nextF at h
  by_cases h1 : oneF r ≠ 0
  · rw [if_pos h1] at h; exact absurd h h1
  · rw [if_neg h1] at h
    refine ⟨Decidable.of_not_not h1, ?_⟩
    split at h
    · exact absurd h (by decide)
    · split at h
      · exact absurd h (by decide)
      · omega
structure YRd (fs : List Frame) (L0 : LogD) (now0 : List UInt8) where
  k : Int
  pre : List Frame
  rest : List Frame
  L : LogD
  now : List UInt8
  ba : Option Nat
  n : Nat
  rows : List (List V)
  gn : Int
  b : Int
  gd : Int
  tx : List UInt8
  fs' : Nat → Int
  tb : Nat → Int
  wh : Bool
  hd : fs = pre ++ rest
  hk : k = (pre.length : Int)
  hall : allL fs L0 now0 = allL rest L now
  hn : n = L.revs.length
  hrows : rows = L.revs.map encRev
  hb0 : L.base = L0.base
  hl : L.revs.length ≤ 64
  hg : 0 ≤ L.good ∧ L.good ≤ 4007 * ((pre.length : Int) + 1)
  he : gn = L.gen ∧ b = L.base ∧ gd = L.good ∧ tx = L.text ∧ (∀ j, j < 16 → fs' j = L.first j) ∧ tb = L.table ∧ wh = L.whole
theorem vc_hread (P : Prim) (hP : P = std) (T T1 : CallT) (s : List UInt8) (Fs : List Frame) (hfs : ∀ f ∈ Fs, f.body.length ≤ 4000) (hfl : Fs.length ≤ 1048576) (frs : List (List V)) (hfrs : frs = frRows Fs) (fn : Int)
    (h1 : Ans T 68 [.str s] (.tup [.sl false 2 frs, .int .i64 fn])) (hg hb : List UInt8 → Int) (ht : List UInt8 → List UInt8) (hf : List UInt8 → Nat → Int) (ho : List UInt8 → Bool)
    (h2 : ∀ x, x.length ≤ 4000 → Ans T 69 [.str x] (.tup [.agg [.int .i64 (hg x), .int .i64 (hb x), .str (ht x), .int .i64 (hf x 0), .int .i64 (hf x 1), .int .i64 (hf x 2), .int .i64 (hf x 3), .int .i64 (hf x 4), .int .i64 (hf x 5), .int .i64 (hf x 6), .int .i64 (hf x 7), .int .i64 (hf x 8), .int .i64 (hf x 9), .int .i64 (hf x 10), .int .i64 (hf x 11), .int .i64 (hf x 12), .int .i64 (hf x 13), .int .i64 (hf x 14), .int .i64 (hf x 15), .int .i64 (hf x 0), .int .i64 (hf x 1), .int .i64 (hf x 2), .int .i64 (hf x 3), .int .i64 (hf x 4), .int .i64 (hf x 5), .int .i64 (hf x 6), .int .i64 (hf x 7), .int .i64 (hf x 8), .int .i64 (hf x 9), .int .i64 (hf x 10), .int .i64 (hf x 11), .int .i64 (hf x 12), .int .i64 (hf x 13), .int .i64 (hf x 14), .int .i64 (hf x 15), .nilsl, .bool false, .int .i64 0], .bool (ho x)])) (hbb : ∀ x, 0 ≤ hb x ∧ hb x ≤ 2147483647)
    (rw rq : List UInt8 → Int) (rd : List UInt8 → List (List V)) (ro : List UInt8 → Bool) (h3 : ∀ x, x.length ≤ 4000 → Ans T 70 [.str x] (.tup [.agg [.int .i64 (rw x), .int .i64 (rq x), .sl false 3 (rd x)], .bool (ro x)]))
    (hrv : ∀ x, rw x = (revB x).who ∧ rq x = (revB x).seq ∧ rd x = (revB x).delta.map encPart ∧ ro x = revOk x)
    (nx : Int → (Nat → Int) → Nat → Int → Rev → Int) (h4 : NxC T 60 nx) (hnx : ∀ b tb n sz r, nx b tb n sz r = nextF b tb n sz r)
    (dt : List UInt8 → List UInt8 → List UInt8) (de : List UInt8 → List UInt8 → Int) (h5 : ∀ x now, Ans T 16 [.sl false 3 (rd x), .str now] (.tup [.str (dt x now), .int .i64 (de x now)])) (hdt : ∀ x now, dt x now = (doF (revB x).delta now).1)
    (h6 : AddC T) (rl : LogD) (re : Int) (hr : readG hg hb ht hf ho Fs = (rl, re))
    (R : S → Prop) (hR : RetLog [.cn 2 38, .t 3] 1000999 rl re R) : awp P T T1 ac_hread (S0 [.str s] Hp.emp) R (fun _ _ => False) R := by
  have hl1 : P.rlen frs = (Fs.length : Int) := by rw [rlen_eq hP, hfrs]; simp [frRows]
  have z0 : P.leP 0 0 := le0 hP (by decide)
  cbv
  intro β2
  cbv
  refine h1 _ _ ?_
  cbv
  rcases Fs with _ | ⟨⟨k0, b0⟩, fs⟩
  · have e0 : P.rlen frs = 0 := by rw [hl1]; rfl
    simp only [readG, Prod.mk.injEq] at hr
    refine br_tt (eq_T hP e0) ?_
    cbv
    repeat' (first
      | (refine And.intro (by first | assumption | decide) ?_; try cbv)
      | (intro β9; try cbv))
    exact hR _ _ _ _ _ _ (fun _ => 0) (fun _ => 0) _ _ [] _ (Ent.refl _) ⟨rfl, rfl, Nat.zero_lt_succ 0, Nat.le_refl 38, rfl⟩ (.inl ⟨rfl, rfl, by decide⟩) ⟨by rw [← hr.1]; rfl, by rw [← hr.1]; rfl, by rw [← hr.1]; rfl, by rw [← hr.1]; rfl, fun _ _ => by rw [← hr.1]; rfl, fun _ _ => by rw [← hr.1]; rfl, by rw [← hr.1]; rfl, by rw [← hr.1]; rfl, hr.2⟩
  have e0 : ¬ P.rlen frs = 0 := by rw [hl1]; simp only [List.length_cons]; ((try simp only [nc] at *); omega)
  have row0 : P.row frs (P.nat 0) [.int .i64 k0, .str b0] := row_of hP (i := 0) rfl (by rw [hfrs]; rfl)
  have c2 := h2 b0 (hfs ⟨k0, b0⟩ (by simp))
  simp only [readG] at hr
  obtain ⟨L0, hL0⟩ : ∃ L, L = headG (hg b0) (hb b0) (ht b0) (hf b0) ((b0.length : Int) + 7) := ⟨_, rfl⟩
  have l01 : hg b0 = L0.gen := by rw [hL0]; rfl
  have l02 : hb b0 = L0.base := by rw [hL0]; rfl
  have l03 : ht b0 = L0.text := by rw [hL0]; rfl
  have l04 : ∀ j, hf b0 j = L0.first j := fun j => by rw [hL0]; rfl
  have l05 : hf b0 = L0.table := by rw [hL0]; rfl
  have l06 : L0.revs = [] := by rw [hL0]; rfl
  have l07 : false = L0.whole := by rw [hL0]; rfl
  have l08 : L0.good = (b0.length : Int) + 7 := by rw [hL0]; rfl
  have l09 : 0 ≤ L0.base ∧ L0.base ≤ 2147483647 := by rw [hL0]; exact hbb b0
  rw [← hL0] at hr
  clear hL0
  refine br_ff (eq_F hP e0) ?_
  cbv
  repeat' (first
    | (refine And.intro (by first | assumption | decide) ?_; try cbv)
    | (intro β9; try cbv))
  refine ⟨_, row0, ?_⟩
  cbv
  repeat' (first
    | (refine And.intro (by first | assumption | decide) ?_; try cbv)
    | (intro β9; try cbv))
  refine c2 _ _ ?_
  cbv
  intro β6
  cbv
  repeat' (first
    | (refine And.intro (by first | assumption | decide) ?_; try cbv)
    | (intro β9; try cbv))
  refine ⟨_, row0, ?_⟩
  cbv
  clear c2 h2
  have bad : (k0 ≠ 1 ∨ ho b0 = false) → zeroL = rl ∧ 3 = re := fun h => by
    rw [if_pos h] at hr; simpa using hr
  refine br_cases (fun g => ?_) (fun g => ?_)
  · obtain ⟨r1, r2⟩ := bad (.inl (ne_t hP g))
    cbv
    repeat' (first
      | (refine And.intro (by first | assumption | decide) ?_; try cbv)
      | (intro β9; try cbv))
    exact hR _ _ _ _ _ _ (fun _ => 0) (fun _ => 0) _ _ [] _ (Ent.refl _) ⟨rfl, rfl, Nat.zero_lt_succ 0, Nat.le_refl 38, rfl⟩ (.inl ⟨rfl, rfl, by decide⟩) ⟨by rw [← r1]; rfl, by rw [← r1]; rfl, by rw [← r1]; rfl, by rw [← r1]; rfl, fun _ _ => by rw [← r1]; rfl, fun _ _ => by rw [← r1]; rfl, by rw [← r1]; rfl, by rw [← r1]; rfl, r2⟩
  have hk1 : k0 = 1 := ne_f hP g
  cbv
  refine br_cases (fun g => ?_) (fun g => ?_)
  rotate_left
  · obtain ⟨r1, r2⟩ := bad (.inr g)
    cbv
    repeat' (first
      | (refine And.intro (by first | assumption | decide) ?_; try cbv)
      | (intro β9; try cbv))
    exact hR _ _ _ _ _ _ (fun _ => 0) (fun _ => 0) _ _ [] _ (Ent.refl _) ⟨rfl, rfl, Nat.zero_lt_succ 0, Nat.le_refl 38, rfl⟩ (.inl ⟨rfl, rfl, by decide⟩) ⟨by rw [← r1]; rfl, by rw [← r1]; rfl, by rw [← r1]; rfl, by rw [← r1]; rfl, fun _ _ => by rw [← r1]; rfl, fun _ _ => by rw [← r1]; rfl, by rw [← r1]; rfl, by rw [← r1]; rfl, r2⟩
  rw [if_neg (by rw [g]; simp [hk1])] at hr
  simp only [Prod.mk.injEq] at hr
  obtain ⟨hrl, hre⟩ := hr
  have hb4 : b0.length ≤ 4000 := hfs ⟨k0, b0⟩ (by simp)
  have g1 : P.add (P.slen b0) 7 = (b0.length : Int) + 7 := by rw [add_eq hP, slen_eq hP]
  have g2 : P.i64 (P.add (P.slen b0) 7) := by rw [g1]; exact i64I hP (by ((try simp only [nc] at *); omega))
  have z1 : P.leP 0 1 := le0 hP (by decide)
  have z2 : P.leP 1 (P.rlen frs) := leI hP (by rw [hl1]; simp only [List.length_cons]; ((try simp only [nc] at *); omega))
  have z3 : P.leP (P.rlen frs) (P.rlen frs) := leI hP (Int.le_refl _)
  have esub : P.rsub frs 1 (P.rlen frs) = frRows fs := by
    rw [hl1, hfrs]; subst hP
    show ((frRows (⟨k0, b0⟩ :: fs)).take ((((⟨k0, b0⟩ : Frame) :: fs).length : Int)).toNat).drop 1 = _
    rw [Int.toNat_natCast, List.take_of_length_le (by simp [frRows])]; rfl
  obtain ⟨fr2, hfr2⟩ : ∃ fr2, fr2 = P.rsub frs 1 (P.rlen frs) := ⟨_, rfl⟩
  have hl2 : P.rlen fr2 = (fs.length : Int) := by rw [rlen_eq hP, hfr2, esub]; simp [frRows]
  clear bad g
  cbv
  repeat' (first
    | (refine And.intro (by first | assumption | decide) ?_; try cbv)
    | (intro β9; try cbv))
  refine ⟨_, row0, ?_⟩
  cbv
  repeat' (first
    | (refine And.intro (by first | assumption | decide) ?_; try cbv)
    | (intro β9; try cbv))
  clear row0 e0 hl1 z2 z3 g2 z1
  rw [← hfr2]
  refine ⟨YRd fs L0 (ht b0), fun y => [(2, .ptr 2 (some β2) 38 0 0), (6, .ptr 6 (some β6) 38 0 0), (8, .str y.now), (50, .sl false 2 fr2), (51, .int .i64 (P.rlen fr2)), (52, .int .i64 y.k)],
    fun y => [(2, ⟨some β2, 81, 38, [[.int .i64 0, .int .i64 0, .str [], .int .i64 0, .int .i64 0, .int .i64 0, .int .i64 0, .int .i64 0, .int .i64 0, .int .i64 0, .int .i64 0, .int .i64 0, .int .i64 0, .int .i64 0, .int .i64 0, .int .i64 0, .int .i64 0, .int .i64 0, .int .i64 0, .int .i64 0, .int .i64 0, .int .i64 0, .int .i64 0, .int .i64 0, .int .i64 0, .int .i64 0, .int .i64 0, .int .i64 0, .int .i64 0, .int .i64 0, .int .i64 0, .int .i64 0, .int .i64 0, .int .i64 0, .int .i64 0, .nilsl, .bool false, .int .i64 0]]⟩), (6, ⟨some β6, 81, 38, [[.int .i64 y.gn, .int .i64 y.b, .str y.tx, .int .i64 (y.fs' 0), .int .i64 (y.fs' 1), .int .i64 (y.fs' 2), .int .i64 (y.fs' 3), .int .i64 (y.fs' 4), .int .i64 (y.fs' 5), .int .i64 (y.fs' 6), .int .i64 (y.fs' 7), .int .i64 (y.fs' 8), .int .i64 (y.fs' 9), .int .i64 (y.fs' 10), .int .i64 (y.fs' 11), .int .i64 (y.fs' 12), .int .i64 (y.fs' 13), .int .i64 (y.fs' 14), .int .i64 (y.fs' 15), .int .i64 (y.tb 0), .int .i64 (y.tb 1), .int .i64 (y.tb 2), .int .i64 (y.tb 3), .int .i64 (y.tb 4), .int .i64 (y.tb 5), .int .i64 (y.tb 6), .int .i64 (y.tb 7), .int .i64 (y.tb 8), .int .i64 (y.tb 9), .int .i64 (y.tb 10), .int .i64 (y.tb 11), .int .i64 (y.tb 12), .int .i64 (y.tb 13), .int .i64 (y.tb 14), .int .i64 (y.tb 15), .own 1000999 y.ba 3 y.n, .bool y.wh, .int .i64 y.gd]]⟩), (1000999, ⟨y.ba, 45, 3, y.rows⟩)], fun y => y.rest.length,
    ⟨_, Ent.nilcell (k := 6) (k' := 1000999) (ty := 45) (sz := 3) (r := 0) (c := 35) rfl rfl rfl rfl, ⟨0, [], fs, L0, ht b0, none, 0, [], hg b0, hb b0, P.add (P.slen b0) 7, ht b0, hf b0, hf b0, false, rfl, rfl, rfl, by rw [l06]; rfl, by rw [l06]; rfl, rfl, by rw [l06]; exact Nat.zero_le _, ⟨by rw [l08]; exact Int.add_nonneg (Int.natCast_nonneg _) (by decide), by rw [l08]; show (b0.length : Int) + 7 ≤ 4007 * (0 + 1); ((try simp only [nc] at *); omega)⟩, ⟨l01, l02, by rw [g1, l08], l03, fun j _ => l04 j, l05, l07⟩⟩, ⟨rfl, rfl, rfl, rfl, rfl, rfl, trivial⟩, ⟨rfl, rfl, rfl, trivial⟩⟩, ?_⟩
  rintro ⟨k, pre, rest, L, now, ba, n, rows, gn, b, gd, tx, fs', tb, wh, hd, hk, hall, hn, hrows, hb0, hlen, hgd, he⟩
  rw [hrl] at hall
  replace hk : k = (pre.length : Int) := hk
  have hlp : pre.length + rest.length = fs.length := by rw [hd]; simp
  simp only [List.length_cons] at hfl
  obtain ⟨he1, he2, he3, he4, he5, he6, he7⟩ := he
  have hnl : n = rows.length := by rw [hn, hrows]; simp
  have hbase : 0 ≤ b ∧ b ≤ 2147483647 := by rw [he2, hb0]; exact l09
  have fin : rl = L → gn = rl.gen ∧ b = rl.base ∧ gd = rl.good ∧ tx = rl.text ∧ (∀ j, j < 16 → fs' j = rl.first j) ∧ (∀ j, j < 16 → tb j = rl.table j) ∧ wh = rl.whole ∧ rows = rl.revs.map encRev ∧ (0 : Int) = re := fun h => by
    rw [h]; exact ⟨he1, he2, he3, he4, he5, fun j _ => by rw [he6], he7, hrows, hre⟩
  cbv
  refine br_cases (fun g => ?_) (fun g => ?_)
  rotate_left
  · have h6' : ¬ k < P.rlen fr2 := lt_f hP g
    rw [hl2] at h6'
    rcases rest with _ | ⟨y, rest⟩
    rotate_left
    · exfalso; simp at hlp; ((try simp only [nc] at *); omega)
    cbv
    repeat' (first
      | (refine And.intro (by first | assumption | decide) ?_; try cbv)
      | (intro β9; try cbv))
    exact hR _ _ _ _ _ _ _ _ _ _ _ _ (Ent.refl _) ⟨rfl, rfl, Nat.zero_lt_succ 0, Nat.le_refl 38, rfl⟩ (.inr ⟨ba, n, rfl, rfl, hnl⟩) (fin hall)
  have h6' : k < P.rlen fr2 := lt_t hP g
  rw [hl2] at h6'
  rcases rest with _ | ⟨⟨kd, bd⟩, rest⟩
  · exfalso; simp at hlp; ((try simp only [nc] at *); omega)
  have hbd : bd.length ≤ 4000 := hfs ⟨kd, bd⟩ (by rw [hd]; simp)
  have row1 : P.row fr2 (P.nat k) [.int .i64 kd, .str bd] := row_of hP hk (by rw [hfr2, esub, frRows, List.getElem?_map, hd]; simp [encFrame])
  have q1 : P.leP 0 k := le0 hP (by ((try simp only [nc] at *); omega))
  have q2 : P.i64 (P.add k 1) := by rw [add_eq hP]; exact i64I hP (by ((try simp only [nc] at *); omega))
  have q3 : P.add k 1 = (((pre ++ [(⟨kd, bd⟩ : Frame)]).length : Nat) : Int) := by rw [add_eq hP, hk]; simp
  have d1 : P.add (P.slen bd) 7 = (bd.length : Int) + 7 := by rw [add_eq hP, slen_eq hP]
  have d2 : P.i64 (P.add (P.slen bd) 7) := by rw [d1]; exact i64I hP (by ((try simp only [nc] at *); omega))
  have d3 : P.add gd (P.add (P.slen bd) 7) = L.good + ((bd.length : Int) + 7) := by rw [add_eq hP gd, d1, he3]
  have d4 : P.i64 (P.add gd (P.add (P.slen bd) 7)) := by rw [d3]; exact i64I hP (by ((try simp only [nc] at *); omega))
  have d5 : 0 ≤ L.good + ((bd.length : Int) + 7) ∧ L.good + ((bd.length : Int) + 7) ≤ 4007 * (((pre ++ [(⟨kd, bd⟩ : Frame)]).length : Int) + 1) := by rw [List.length_append]; simp only [List.length_cons, List.length_nil]; ((try simp only [nc] at *); omega)
  rw [allL] at hall
  unfold stepL at hall
  simp only [] at hall
  clear g
  cbv
  repeat' (first
    | (refine And.intro (by first | assumption | decide) ?_; try cbv)
    | (intro β9; try cbv))
  refine ⟨_, row1, ?_⟩
  cbv
  intro β10
  cbv
  repeat' (first
    | (refine And.intro (by first | assumption | decide) ?_; try cbv)
    | (intro β9; try cbv))
  clear row1
  refine br_cases (fun g => ?_) (fun g => ?_)
  · have hk3 : kd = 3 := eq_t hP g
    rw [if_pos hk3] at hall
    cbv
    rcases wh with _ | _
    rotate_left
    · rw [if_pos (.inl he7.symm)] at hall
      cbv
      repeat' (first
        | (refine And.intro (by first | assumption | decide) ?_; try cbv)
        | (intro β9; try cbv))
      exact hR _ _ _ _ _ _ _ _ _ _ _ _ (Ent.refl _) ⟨rfl, rfl, Nat.zero_lt_succ 0, Nat.le_refl 38, rfl⟩ (.inr ⟨ba, n, rfl, rfl, hnl⟩) (fin hall)
    · cbv
      repeat' (first
        | (refine And.intro (by first | assumption | decide) ?_; try cbv)
        | (intro β9; try cbv))
      refine br_cases (fun g => ?_) (fun g => ?_)
      · rw [if_pos (.inr (sne_t hP g))] at hall
        cbv
        repeat' (first
          | (refine And.intro (by first | assumption | decide) ?_; try cbv)
          | (intro β9; try cbv))
        exact hR _ _ _ _ _ _ _ _ _ _ _ _ (Ent.refl _) ⟨rfl, rfl, Nat.zero_lt_succ 0, Nat.le_refl 38, rfl⟩ (.inr ⟨ba, n, rfl, rfl, hnl⟩) (fin hall)
      · rw [if_neg (by rintro (h | h); rw [← he7] at h; cases h; exact h (sne_f hP g))] at hall
        cbv
        repeat' (first
          | (refine And.intro (by first | assumption | decide) ?_; try cbv)
          | (intro β9; try cbv))
        exact ⟨_, Ent.refl _, ⟨_, pre ++ [⟨kd, bd⟩], rest, ⟨L.gen, L.base, L.text, L.first, L.table, L.revs, true, L.good + ((bd.length : Int) + 7)⟩, now, ba, n, rows, gn, b, P.add gd (P.add (P.slen bd) 7), tx, fs', tb, true, by simp [hd], q3, hrl.trans hall, hn, hrows, hb0, hlen, d5, ⟨he1, he2, d3, he4, he5, he6, rfl⟩⟩, ⟨rfl, rfl, rfl, rfl, rfl, rfl, trivial⟩, ⟨rfl, rfl, rfl, trivial⟩, by simp⟩
  have hk3 : ¬ kd = 3 := eq_f hP g
  rw [if_neg hk3] at hall
  cbv
  refine br_cases (fun g => ?_) (fun g => ?_)
  rotate_left
  · have hk2 : ¬ kd = 2 := eq_f hP g
    rw [if_neg hk2] at hall
    cbv
    repeat' (first
      | (refine And.intro (by first | assumption | decide) ?_; try cbv)
      | (intro β9; try cbv))
    exact hR _ _ _ _ _ _ _ _ _ _ _ _ (Ent.refl _) ⟨rfl, rfl, Nat.zero_lt_succ 0, Nat.le_refl 38, rfl⟩ (.inr ⟨ba, n, rfl, rfl, hnl⟩) (fin hall)
  have hk2 : kd = 2 := eq_t hP g
  rw [if_pos hk2] at hall
  obtain ⟨rv, hrvd⟩ : ∃ rv, rv = revB bd := ⟨_, rfl⟩
  have c3 := h3 bd hbd
  obtain ⟨w1, w2, w3, w4⟩ := hrv bd
  have w5 := hdt bd now
  have w6 := h5 bd now
  rw [← hrvd] at w1 w2 w3 w5 hall
  rw [← w4] at hall
  rw [← w5] at hall
  have hpo : PartsOk rv.delta := by rw [hrvd]; exact readF_ok _
  have hwho : oneF rv = 0 → 0 ≤ rv.who ∧ rv.who ≤ 7 := fun h => ⟨(one_who h).1, (one_who h).2.1⟩
  clear h3 hrv hdt h5 g
  generalize ro bd = okb at c3 hall w4
  generalize rd bd = dr at c3 w3 w6
  generalize rw bd = wd at c3 w1
  generalize rq bd = qd at c3 w2
  generalize dt bd now = now2 at w6 hall
  generalize de bd now = e6 at w6
  cbv
  refine c3 _ _ ?_
  cbv
  intro β11
  cbv
  repeat' (first
    | (refine And.intro (by first | assumption | decide) ?_; try cbv)
    | (intro β9; try cbv))
  rcases okb with _ | _
  · rw [if_neg (by rintro ⟨h, _⟩; cases h)] at hall
    cbv
    repeat' (first
      | (refine And.intro (by first | assumption | decide) ?_; try cbv)
      | (intro β9; try cbv))
    exact hR _ _ _ _ _ _ _ _ _ _ _ _ (Ent.refl _) ⟨rfl, rfl, Nat.zero_lt_succ 0, Nat.le_refl 38, rfl⟩ (.inr ⟨ba, n, rfl, rfl, hnl⟩) (fin hall)
  have hnxe : nx b tb L.revs.length (P.slen now) rv = nextF L.base L.table L.revs.length now.length rv := by rw [hnx, he2, he6, slen_eq hP]
  have d6 : (bd.length : Int) + 7 = (bd.length : Int) + 7 := rfl
  cbv
  repeat' (first
    | (refine And.intro (by first | assumption | decide) ?_; try cbv)
    | (intro β9; try cbv))
  refine h4 1000999 ba n rows gn b gd (P.slen now) wd qd tx fs' tb wh L.revs dr rv _ _ hrows hn ⟨w1, w2, w3⟩ hpo hbase rfl ?_
  generalize nx b tb L.revs.length (P.slen now) rv = e0 at hnxe ⊢
  cbv
  repeat' (first
    | (refine And.intro (by first | assumption | decide) ?_; try cbv)
    | (intro β9; try cbv))
  refine br_cases (fun g => ?_) (fun g => ?_)
  · have hx := ne_t hP g
    rw [hnxe] at hx
    rw [if_neg (by rintro ⟨_, h⟩; exact hx h)] at hall
    cbv
    repeat' (first
      | (refine And.intro (by first | assumption | decide) ?_; try cbv)
      | (intro β9; try cbv))
    exact hR _ _ _ _ _ _ _ _ _ _ _ _ (Ent.refl _) ⟨rfl, rfl, Nat.zero_lt_succ 0, Nat.le_refl 38, rfl⟩ (.inr ⟨ba, n, rfl, rfl, hnl⟩) (fin hall)
  have hx := ne_f hP g
  rw [hnxe] at hx
  rw [if_pos ⟨rfl, hx⟩] at hall
  obtain ⟨x1, x2⟩ := nextF_ok hx
  cbv
  repeat' (first
    | (refine And.intro (by first | assumption | decide) ?_; try cbv)
    | (intro β9; try cbv))
  refine w6 _ _ ?_
  cbv
  repeat' (first
    | (refine And.intro (by first | assumption | decide) ?_; try cbv)
    | (intro β9; try cbv))
  refine h6 6 1000999 β6 ba gn b gd tx fs' tb wh n rows L.revs wd qd dr rv _ _ hrows hn (by omega) ⟨w1, w2, w3⟩ (hwho x1) hbase rfl rfl rfl fun ba' tb' n' rows' t1 t2 t3 => ?_
  cbv
  repeat' (first
    | (refine And.intro (by first | assumption | decide) ?_; try cbv)
    | (intro β9; try cbv))
  exact ⟨_, Ent.refl _, ⟨_, pre ++ [⟨kd, bd⟩], rest, ⟨L.gen, L.base, L.text, L.first, addTb L.table rv.who.toNat rv.seq (L.base + (L.revs.length : Int) + 1), L.revs ++ [rv], L.whole, L.good + ((bd.length : Int) + 7)⟩, now2, ba', n', rows', gn, b, P.add gd (P.add (P.slen bd) 7), tx, fs', tb', wh, by simp [hd], q3, hrl.trans hall, by rw [t2]; simp, t3, hb0, by show (L.revs ++ [rv]).length ≤ 64; simp; omega, d5, ⟨he1, he2, d3, he4, he5, by rw [t1, he6, he2], he7⟩⟩, ⟨rfl, rfl, rfl, rfl, rfl, rfl, trivial⟩, ⟨rfl, rfl, rfl, trivial⟩, by simp⟩
end Go.Proofs.Ytobngncjflogcaa.AM

set_option linter.unusedVariables false
set_option linter.unusedSimpArgs false
namespace Go.Proofs.Ytobngncjflogcaa.AM
open Go Go.RowKit
set_option maxRecDepth 100000
set_option maxHeartbeats 2000000
structure SC where
  x1 : List UInt8
  x2 : Int
  x3 : List UInt8
  x4 : Int
  at' : Int
  gn : Int
  b : Int
  tx : List UInt8
  fs : Nat → Int
  tb : Nat → Int
  wh : Bool
  gd : Int
  now : List UInt8
  sf : Int
  old : Bool
def rowS (d : SC) (rv mv : V) : List V := [.str d.x1, .int .i64 d.x2, .str d.x3, .int .i64 d.x4, .int .i64 d.at', .int .i64 d.gn, .int .i64 d.b, .str d.tx, .int .i64 (d.fs 0), .int .i64 (d.fs 1), .int .i64 (d.fs 2), .int .i64 (d.fs 3), .int .i64 (d.fs 4), .int .i64 (d.fs 5), .int .i64 (d.fs 6), .int .i64 (d.fs 7), .int .i64 (d.fs 8), .int .i64 (d.fs 9), .int .i64 (d.fs 10), .int .i64 (d.fs 11), .int .i64 (d.fs 12), .int .i64 (d.fs 13), .int .i64 (d.fs 14), .int .i64 (d.fs 15), .int .i64 (d.tb 0), .int .i64 (d.tb 1), .int .i64 (d.tb 2), .int .i64 (d.tb 3), .int .i64 (d.tb 4), .int .i64 (d.tb 5), .int .i64 (d.tb 6), .int .i64 (d.tb 7), .int .i64 (d.tb 8), .int .i64 (d.tb 9), .int .i64 (d.tb 10), .int .i64 (d.tb 11), .int .i64 (d.tb 12), .int .i64 (d.tb 13), .int .i64 (d.tb 14), .int .i64 (d.tb 15), rv, .bool d.wh, .int .i64 d.gd, .str d.now, .int .i64 d.sf, mv, .bool d.old]
def obSh (bl : Nat) (r : List V) : Ob := ⟨some bl, 87, 47, [r]⟩
theorem obSh_ren (bl : Nat) (d : SC) (rv mv : V) (f : Nat → Nat) : (obSh bl (rowS d rv mv)).ren f = obSh bl (rowS d (rv.rl f) (mv.rl f)) := rfl
theorem Fz.rl {v : V} (h : Fz v) (f : Nat → Nat) : Fz (v.rl f) := by
  cases v <;> first | exact h | exact .own _ _ _ _ | exact .ptr _ _ _ _ _ | exact .win _ _ _ _ _
theorem rowS_fz {d : SC} {rv mv : V} (h1 : Fz rv) (h2 : Fz mv) (bl : Nat) : (obSh bl (rowS d rv mv)).Fz := by
  intro r hr v hv
  simp only [obSh, List.mem_singleton] at hr
  subst hr
  simp only [rowS, List.mem_cons, List.not_mem_nil, or_false] at hv
  rcases hv with rfl | rfl | rfl | rfl | rfl | rfl | rfl | rfl | rfl | rfl | rfl | rfl | rfl | rfl | rfl | rfl | rfl | rfl | rfl | rfl | rfl | rfl | rfl | rfl | rfl | rfl | rfl | rfl | rfl | rfl | rfl | rfl | rfl | rfl | rfl | rfl | rfl | rfl | rfl | rfl | rfl | rfl | rfl | rfl | rfl | rfl | rfl
  all_goals first | exact .int _ _ | exact .str _ | exact .bool _ | exact h1 | exact h2
/-- a cell's name comes back from a call -/
def rtB (k : Nat) : V → Bool
  | .own j _ _ _ => !(Nat.beq j 0) || Nat.beq k 0
  | .ptr j _ _ _ _ => !(Nat.beq j 0) || Nat.beq k 0
  | .win .. => false
  | _ => true
theorem lab_bal1 {k j : Nat} (h : (!(Nat.beq j 0) || Nat.beq k 0) = true) : lab [(0, k)] (bal [(0, k)] j) = j := by
  simp only [Bool.or_eq_true, Bool.not_eq_true'] at h
  unfold bal bal
  by_cases hj : j = k
  · rw [if_pos hj]; simp [lab, hj]
  · rw [if_neg hj]
    unfold lab lab
    rcases h with h | h
    · have : ¬ j = 0 := fun e => by subst e; cases h
      rw [if_neg this]
    · have : k = 0 := Nat.eq_of_beq_eq_true h
      by_cases h0 : j = 0
      · rw [if_pos h0]; omega
      · rw [if_neg h0]
theorem rt_ok {k : Nat} {v : V} (h : rtB k v = true) : (v.rl (bal [(0, k)])).rl (lab [(0, k)]) = v := by
  cases v <;> first | rfl | (simp only [V.rl]; rw [lab_bal1 h]) | cases h
def WQ (rv mv : V) : Prop := (Fz rv ∧ V.one rv = true) ∧ Fz mv ∧ V.one mv = true
def OQ (ba : Option Nat) (n : Nat) (rv mv : V) : Prop := (∃ j, rv = .own j ba 3 n) ∧ Fz mv ∧ V.one mv = true
theorem one_rl {v : V} (h : V.one v = true) (f : Nat → Nat) : V.one (v.rl f) = true := by cases v <;> first | exact h | rfl
theorem WQ.rl {rv mv : V} (h : WQ rv mv) (g : Nat → Nat) : WQ (rv.rl g) (mv.rl g) := ⟨⟨h.1.1.rl g, one_rl h.1.2 g⟩, h.2.1.rl g, one_rl h.2.2 g⟩
theorem OQ.rl {ba : Option Nat} {n : Nat} {rv mv : V} (h : OQ ba n rv mv) (g : Nat → Nat) : OQ ba n (rv.rl g) (mv.rl g) := by
  obtain ⟨⟨j, rfl⟩, h⟩ := h
  exact ⟨⟨g j, rfl⟩, h.1.rl g, one_rl h.2 g⟩
theorem OQ.wq {ba : Option Nat} {n : Nat} {rv mv : V} (h : OQ ba n rv mv) : WQ rv mv := by
  obtain ⟨⟨j, rfl⟩, h⟩ := h
  exact ⟨⟨.own _ _ _ _, rfl⟩, h⟩
/-- a method that is handed the shop alone -/
theorem callS {P : Program} {Q : V → V → Prop} {f k bl : Nat} {rest : List V} {d : SC} {rv mv v : V} {d' : SC} (hQ : ∀ g, Q (rv.rl g) (mv.rl g)) (hs : ∀ rv mv, Q rv mv → Spec P f (.ptr 0 (some bl) 47 0 0 :: rest) (lookH [(0, obSh bl (rowS d rv mv))]) fun x h' => ∃ L', (x = v ∧ L' = [(0, obSh bl (rowS d' rv mv))]) ∧ h' = lookH L')
    (hrest : rest.all V.pl = true) (hv : ∀ g, v.ren g = v) (h1 : Fz rv) (h2 : Fz mv) (r1 : rtB k rv = true) (r2 : rtB k mv = true) {h : Hp} {K : V → Hp → Prop} (hk : h k = some (obSh bl (rowS d rv mv))) (hK : K v (Hp.put h k (obSh bl (rowS d' rv mv)))) : CallE P f (.ptr k (some bl) 47 0 0 :: rest) h K := by
  refine callG (m := [(0, k)]) (hs (rv.rl (bal [(0, k)])) (mv.rl (bal [(0, k)])) (hQ _)) (.cons ?_ (args_plain hrest)) (fun j q hj => ?_) (fun p hp => ?_) ?_
  · have := Arg.same (h := h) (m := [(0, k)]) (.ptr k (some bl) 47 0 0)
    simpa [V.ren, V.rl, bal] using this
  · simp only [lookH] at hj
    split at hj
    · rename_i h0; exact ⟨(0, k), by simp, h0.symm⟩
    · cases hj
  · simp only [List.mem_singleton] at hp
    subst hp
    refine ⟨by simp [lab], by simp [bal], fun q hq => ?_⟩
    simp only [lookH, ↓reduceIte, Option.some.injEq] at hq
    subst hq
    refine ⟨?_, rowS_fz (h1.rl _) (h2.rl _) bl⟩
    rw [hk, Option.map_some]
    exact congrArg some (obSh_ren bl d rv mv _)
  · rintro x L' ⟨rfl, rfl⟩
    have e : h.upd [(0, k)] (lookH [(0, obSh bl (rowS d' (rv.rl (bal [(0, k)])) (mv.rl (bal [(0, k)]))))]) = Hp.put h k (obSh bl (rowS d' rv mv)) := by
      funext i
      simp only [Hp.upd, Hp.put, List.any_cons, List.any_nil, Bool.or_false, decide_eq_true_eq]
      by_cases hi : k = i
      · subst hi
        have hb0 : bal [(0, k)] k = 0 := by simp [bal]
        rw [if_pos rfl, if_pos rfl, hb0]
        show (some (obSh bl (rowS d' (rv.rl (bal [(0, k)])) (mv.rl (bal [(0, k)]))))).map (Ob.ren (lab [(0, k)])) = _
        rw [Option.map_some, obSh_ren, rt_ok r1, rt_ok r2]
      · rw [if_neg hi, if_neg fun e => hi e.symm]
    rw [e, hv]
    exact hK
/-- the same, only read -/
theorem callSP {P : Program} {Q : V → V → Prop} {f k bl : Nat} {rest : List V} {d : SC} {rv mv v : V} (hQ : ∀ g, Q (rv.rl g) (mv.rl g)) (hs : ∀ rv mv, Q rv mv → Spec P f (.ptr 0 (some bl) 47 0 0 :: rest) (lookH [(0, obSh bl (rowS d rv mv))]) fun x h' => ∃ L', (x = v ∧ L' = [(0, obSh bl (rowS d rv mv))]) ∧ h' = lookH L')
    (hrest : rest.all V.pl = true) (hv : ∀ g, v.ren g = v) (h1 : Fz rv) (h2 : Fz mv) {h : Hp} {K : V → Hp → Prop} (hk : h k = some (obSh bl (rowS d rv mv))) (hK : K v h) : CallP P f (.ptr k (some bl) 47 0 0 :: rest) h K := by
  have hs0 := hs (rv.rl (bal [(0, k)])) (mv.rl (bal [(0, k)])) (hQ _)
  refine ⟨[(0, k)], _, lookH [(0, obSh bl (rowS d (rv.rl (bal [(0, k)])) (mv.rl (bal [(0, k)]))))], v, ⟨hs0.fn, fun C us a1 a2 a3 a4 => (hs0.run C us a1 a2 a3 a4).mono ?_⟩, .cons ?_ (args_plain hrest), fun j q hj => ?_, fun p hp => ?_, by rw [hv]; exact hK⟩
  · rintro e w' ⟨u, x, h', F', e1, e2, e3, L', ⟨rfl, rfl⟩, rfl⟩
    exact ⟨u, _, _, F', e1, e2, e3, rfl, rfl⟩
  · have := Arg.same (h := h) (m := [(0, k)]) (.ptr k (some bl) 47 0 0)
    simpa [V.ren, V.rl, bal] using this
  · simp only [lookH] at hj
    split at hj
    · rename_i h0; exact ⟨(0, k), by simp, h0.symm⟩
    · cases hj
  · simp only [List.mem_singleton] at hp
    subst hp
    refine ⟨by simp [lab], by simp [bal], _, by simp [lookH]; rfl, ?_, rowS_fz (h1.rl _) (h2.rl _) bl⟩
    rw [hk, Option.map_some]
    exact congrArg some (obSh_ren bl d rv mv _)
def putS (d : SC) (i : Int) (t : List UInt8) : SC := { d with x1 := (appT d.x1 d.x2 d.x3 d.x4 i t).x1, x2 := (appT d.x1 d.x2 d.x3 d.x4 i t).x2, x3 := (appT d.x1 d.x2 d.x3 d.x4 i t).x3, x4 := (appT d.x1 d.x2 d.x3 d.x4 i t).x4 }
def ac_sput : AC := .region false [
    ⟨some 7, none, .mov (.t 0)⟩,
    ⟨some 8, none, .mov (.t 0)⟩,
    ⟨some 9, none, .nilchk (.t 8)⟩,
    ⟨some 10, none, .faddr 0 (.t 9)⟩,
    ⟨some 11, none, .loadn 4 (.t 10)⟩,
    ⟨some 12, none, .mov (.t 1)⟩,
    ⟨some 13, none, .mov (.t 2)⟩,
    ⟨some 14, none, .call 95 [(.t 11), (.t 12), (.t 13)]⟩,
    ⟨some 6, none, .mov (.t 14)⟩,
    ⟨some 15, none, .ext 0 (.t 6)⟩,
    ⟨some 16, none, .ext 1 (.t 6)⟩,
    ⟨some 17, none, .nilchk (.t 7)⟩,
    ⟨some 18, none, .faddr 0 (.t 17)⟩,
    ⟨none, none, .store 4 (.t 18) (.t 15)⟩]
theorem ok_sput : FnOk Try.prog 58 Try.f58 ac_sput [] 3 drawD := ⟨Try.func58, by decide +kernel, by kernel_rfl, by kernel_rfl, by decide +kernel⟩
theorem vc_sput (P : Prim) (hP : P = std) (T T1 : CallT) (bl : Nat) (d : SC) (rv mv : V) (hv1 : V.one rv = true) (hv2 : V.one mv = true) (i : Int) (t : List UInt8) (y1 : List UInt8) (y2 : Int) (y3 : List UInt8) (y4 e : Int) (h1 : Ans T 95 [.agg [.str d.x1, .int .i64 d.x2, .str d.x3, .int .i64 d.x4], .int .i64 i, .str t] (.tup [.agg [.str y1, .int .i64 y2, .str y3, .int .i64 y4], .int .i64 e]))
    (R : S → Prop) (hR : ∀ s s', Ent s s' → agreeH [(0, obSh bl (rowS { d with x1 := y1, x2 := y2, x3 := y3, x4 := y4 } rv mv))] s' → R s) : awp P T T1 ac_sput (S0 [.ptr 0 (some bl) 47 0 0, .int .i64 i, .str t] (lookH [(0, obSh bl (rowS d rv mv))])) R (fun _ _ => False) R := by
  cbv
  repeat' (first
    | (refine And.intro (by first | assumption | decide) ?_; try cbv)
    | (intro β2; try cbv))
  refine h1 _ _ ?_
  cbv
  repeat' (first
    | (refine And.intro (by first | assumption | decide) ?_; try cbv)
    | (intro β2; try cbv))
  exact hR _ _ (Ent.refl _) ⟨rfl, trivial⟩
theorem sp_sput (bl : Nat) (d : SC) (i : Int) (t : List UInt8) (ht : t.length ≤ 140737488355328) (rv mv : V) (hq : WQ rv mv) : Spec Try.prog 58 [.ptr 0 (some bl) 47 0 0, .int .i64 i, .str t] (lookH [(0, obSh bl (rowS d rv mv))]) fun x h' => ∃ L', (x = .tup [] ∧ L' = [(0, obSh bl (rowS (putS d i t) rv mv))]) ∧ h' = lookH L' :=
  spec_meth dOk ok_sput (L := [(0, obSh bl (rowS d rv mv))]) (fun x L' => x = .tup [] ∧ L' = [(0, obSh bl (rowS (putS d i t) rv mv))]) fun R hR =>
    vc_sput std rfl _ _ bl d rv mv hq.1.2 hq.2.2 i t _ _ _ _ _ (ansW (sp_dap d.x1 d.x2 d.x3 d.x4 i t ht) (fun _ => (.cons (.same _) (.cons (.same _) (.cons (.same _) .nil)))) rfl) R fun s s' he ha => hR s s' (.tup []) [(0, obSh bl (rowS (putS d i t) rv mv))] he (by rfl) ha (.tup _ (fun v hv => by cases hv)) (fun p hp => by rw [List.mem_singleton.1 hp]; exact rowS_fz hq.1.1 hq.2.1 bl) ⟨rfl, rfl⟩
def synS (d : SC) (i : Int) : SC := { d with x1 := (synT d.x1 d.x2 d.x3 d.x4 i).x1, x2 := (synT d.x1 d.x2 d.x3 d.x4 i).x2, x3 := (synT d.x1 d.x2 d.x3 d.x4 i).x3, x4 := (synT d.x1 d.x2 d.x3 d.x4 i).x4 }
def ac_ssyn : AC := .region false [
    ⟨some 5, none, .mov (.t 0)⟩,
    ⟨some 6, none, .mov (.t 0)⟩,
    ⟨some 7, none, .nilchk (.t 6)⟩,
    ⟨some 8, none, .faddr 0 (.t 7)⟩,
    ⟨some 9, none, .loadn 4 (.t 8)⟩,
    ⟨some 10, none, .mov (.t 1)⟩,
    ⟨some 11, none, .call 72 [(.t 9), (.t 10)]⟩,
    ⟨some 4, none, .mov (.t 11)⟩,
    ⟨some 12, none, .ext 0 (.t 4)⟩,
    ⟨some 13, none, .ext 1 (.t 4)⟩,
    ⟨some 14, none, .nilchk (.t 5)⟩,
    ⟨some 15, none, .faddr 0 (.t 14)⟩,
    ⟨none, none, .store 4 (.t 15) (.t 12)⟩]
theorem ok_ssyn : FnOk Try.prog 36 Try.f36 ac_ssyn [] 2 drawD := ⟨Try.func36, by decide +kernel, by kernel_rfl, by kernel_rfl, by decide +kernel⟩
theorem vc_ssyn (P : Prim) (hP : P = std) (T T1 : CallT) (bl : Nat) (d : SC) (rv mv : V) (hv1 : V.one rv = true) (hv2 : V.one mv = true) (i : Int) (y1 : List UInt8) (y2 : Int) (y3 : List UInt8) (y4 e : Int) (h1 : Ans T 72 [.agg [.str d.x1, .int .i64 d.x2, .str d.x3, .int .i64 d.x4], .int .i64 i] (.tup [.agg [.str y1, .int .i64 y2, .str y3, .int .i64 y4], .int .i64 e]))
    (R : S → Prop) (hR : ∀ s s', Ent s s' → agreeH [(0, obSh bl (rowS { d with x1 := y1, x2 := y2, x3 := y3, x4 := y4 } rv mv))] s' → R s) : awp P T T1 ac_ssyn (S0 [.ptr 0 (some bl) 47 0 0, .int .i64 i] (lookH [(0, obSh bl (rowS d rv mv))])) R (fun _ _ => False) R := by
  cbv
  repeat' (first
    | (refine And.intro (by first | assumption | decide) ?_; try cbv)
    | (intro β2; try cbv))
  refine h1 _ _ ?_
  cbv
  repeat' (first
    | (refine And.intro (by first | assumption | decide) ?_; try cbv)
    | (intro β2; try cbv))
  exact hR _ _ (Ent.refl _) ⟨rfl, trivial⟩
theorem sp_ssyn (bl : Nat) (d : SC) (i : Int) (rv mv : V) (hq : WQ rv mv) : Spec Try.prog 36 [.ptr 0 (some bl) 47 0 0, .int .i64 i] (lookH [(0, obSh bl (rowS d rv mv))]) fun x h' => ∃ L', (x = .tup [] ∧ L' = [(0, obSh bl (rowS (synS d i) rv mv))]) ∧ h' = lookH L' :=
  spec_meth dOk ok_ssyn (L := [(0, obSh bl (rowS d rv mv))]) (fun x L' => x = .tup [] ∧ L' = [(0, obSh bl (rowS (synS d i) rv mv))]) fun R hR =>
    vc_ssyn std rfl _ _ bl d rv mv hq.1.2 hq.2.2 i _ _ _ _ _ (ansW (sp_dsy d.x1 d.x2 d.x3 d.x4 i) (fun _ => (.cons (.same _) (.cons (.same _) .nil))) rfl) R fun s s' he ha => hR s s' (.tup []) [(0, obSh bl (rowS (synS d i) rv mv))] he (by rfl) ha (.tup _ (fun v hv => by cases hv)) (fun p hp => by rw [List.mem_singleton.1 hp]; exact rowS_fz hq.1.1 hq.2.1 bl) ⟨rfl, rfl⟩
def trmS (d : SC) (i n : Int) : SC := { d with x1 := (trmT d.x1 d.x2 d.x3 d.x4 i n).x1, x2 := (trmT d.x1 d.x2 d.x3 d.x4 i n).x2, x3 := (trmT d.x1 d.x2 d.x3 d.x4 i n).x3, x4 := (trmT d.x1 d.x2 d.x3 d.x4 i n).x4 }
def ac_strm : AC := .region false [
    ⟨some 7, none, .mov (.t 0)⟩,
    ⟨some 8, none, .mov (.t 0)⟩,
    ⟨some 9, none, .nilchk (.t 8)⟩,
    ⟨some 10, none, .faddr 0 (.t 9)⟩,
    ⟨some 11, none, .loadn 4 (.t 10)⟩,
    ⟨some 12, none, .mov (.t 1)⟩,
    ⟨some 13, none, .mov (.t 2)⟩,
    ⟨some 14, none, .call 71 [(.t 11), (.t 12), (.t 13)]⟩,
    ⟨some 6, none, .mov (.t 14)⟩,
    ⟨some 15, none, .ext 0 (.t 6)⟩,
    ⟨some 16, none, .ext 1 (.t 6)⟩,
    ⟨some 17, none, .nilchk (.t 7)⟩,
    ⟨some 18, none, .faddr 0 (.t 17)⟩,
    ⟨none, none, .store 4 (.t 18) (.t 15)⟩]
theorem ok_strm : FnOk Try.prog 35 Try.f35 ac_strm [] 3 drawD := ⟨Try.func35, by decide +kernel, by kernel_rfl, by kernel_rfl, by decide +kernel⟩
theorem vc_strm (P : Prim) (hP : P = std) (T T1 : CallT) (bl : Nat) (d : SC) (rv mv : V) (hv1 : V.one rv = true) (hv2 : V.one mv = true) (i n : Int) (y1 : List UInt8) (y2 : Int) (y3 : List UInt8) (y4 e : Int) (h1 : Ans T 71 [.agg [.str d.x1, .int .i64 d.x2, .str d.x3, .int .i64 d.x4], .int .i64 i, .int .i64 n] (.tup [.agg [.str y1, .int .i64 y2, .str y3, .int .i64 y4], .int .i64 e]))
    (R : S → Prop) (hR : ∀ s s', Ent s s' → agreeH [(0, obSh bl (rowS { d with x1 := y1, x2 := y2, x3 := y3, x4 := y4 } rv mv))] s' → R s) : awp P T T1 ac_strm (S0 [.ptr 0 (some bl) 47 0 0, .int .i64 i, .int .i64 n] (lookH [(0, obSh bl (rowS d rv mv))])) R (fun _ _ => False) R := by
  cbv
  repeat' (first
    | (refine And.intro (by first | assumption | decide) ?_; try cbv)
    | (intro β2; try cbv))
  refine h1 _ _ ?_
  cbv
  repeat' (first
    | (refine And.intro (by first | assumption | decide) ?_; try cbv)
    | (intro β2; try cbv))
  exact hR _ _ (Ent.refl _) ⟨rfl, trivial⟩
theorem sp_strm (bl : Nat) (d : SC) (i n : Int) (rv mv : V) (hq : WQ rv mv) : Spec Try.prog 35 [.ptr 0 (some bl) 47 0 0, .int .i64 i, .int .i64 n] (lookH [(0, obSh bl (rowS d rv mv))]) fun x h' => ∃ L', (x = .tup [] ∧ L' = [(0, obSh bl (rowS (trmS d i n) rv mv))]) ∧ h' = lookH L' :=
  spec_meth dOk ok_strm (L := [(0, obSh bl (rowS d rv mv))]) (fun x L' => x = .tup [] ∧ L' = [(0, obSh bl (rowS (trmS d i n) rv mv))]) fun R hR =>
    vc_strm std rfl _ _ bl d rv mv hq.1.2 hq.2.2 i n _ _ _ _ _ (ansW (sp_dtr d.x1 d.x2 d.x3 d.x4 i n) (fun _ => (.cons (.same _) (.cons (.same _) (.cons (.same _) .nil)))) rfl) R fun s s' he ha => hR s s' (.tup []) [(0, obSh bl (rowS (trmS d i n) rv mv))] he (by rfl) ha (.tup _ (fun v hv => by cases hv)) (fun p hp => by rw [List.mem_singleton.1 hp]; exact rowS_fz hq.1.1 hq.2.1 bl) ⟨rfl, rfl⟩
def SPutC (T : CallT) : Prop := ∀ (k bl : Nat) (d : SC) (rv mv : V) (i : Int) (t : List UInt8) (h : Hp) (K : V → Hp → Prop), t.length ≤ 140737488355328 → WQ rv mv → rtB k rv = true → rtB k mv = true → h k = some (obSh bl (rowS d rv mv)) → (∀ d', d' = putS d i t → K (.tup []) (Hp.put h k (obSh bl (rowS d' rv mv)))) → T 58 [.ptr k (some bl) 47 0 0, .int .i64 i, .str t] h K
theorem sputC : SPutC (CallE Try.prog) := fun k bl d rv mv i t h K ht hq r1 r2 hk hK => callS (v := .tup []) (Q := WQ) (fun g => hq.rl g) (fun rv mv hq => sp_sput bl d i t ht rv mv hq) rfl (fun _ => rfl) hq.1.1 hq.2.1 r1 r2 hk (hK _ rfl)
def SSynC (T : CallT) : Prop := ∀ (k bl : Nat) (d : SC) (rv mv : V) (i : Int) (h : Hp) (K : V → Hp → Prop), WQ rv mv → rtB k rv = true → rtB k mv = true → h k = some (obSh bl (rowS d rv mv)) → (∀ d', d' = synS d i → K (.tup []) (Hp.put h k (obSh bl (rowS d' rv mv)))) → T 36 [.ptr k (some bl) 47 0 0, .int .i64 i] h K
theorem ssynC : SSynC (CallE Try.prog) := fun k bl d rv mv i h K hq r1 r2 hk hK => callS (v := .tup []) (Q := WQ) (fun g => hq.rl g) (fun rv mv hq => sp_ssyn bl d i rv mv hq) rfl (fun _ => rfl) hq.1.1 hq.2.1 r1 r2 hk (hK _ rfl)
def STrmC (T : CallT) : Prop := ∀ (k bl : Nat) (d : SC) (rv mv : V) (i n : Int) (h : Hp) (K : V → Hp → Prop), WQ rv mv → rtB k rv = true → rtB k mv = true → h k = some (obSh bl (rowS d rv mv)) → (∀ d', d' = trmS d i n → K (.tup []) (Hp.put h k (obSh bl (rowS d' rv mv)))) → T 35 [.ptr k (some bl) 47 0 0, .int .i64 i, .int .i64 n] h K
theorem strmC : STrmC (CallE Try.prog) := fun k bl d rv mv i n h K hq r1 r2 hk hK => callS (v := .tup []) (Q := WQ) (fun g => hq.rl g) (fun rv mv hq => sp_strm bl d i n rv mv hq) rfl (fun _ => rfl) hq.1.1 hq.2.1 r1 r2 hk (hK _ rfl)
end Go.Proofs.Ytobngncjflogcaa.AM

set_option linter.unusedVariables false
set_option linter.unusedSimpArgs false
namespace Go.Proofs.Ytobngncjflogcaa.AM
open Go Go.RowKit
set_option maxRecDepth 100000
set_option maxHeartbeats 2000000
theorem put_same {h : Hp} {k : Nat} {o : Ob} (hk : h k = some o) : Hp.put h k o = h := by
  funext i
  unfold Hp.put
  by_cases hi : i = k
  · rw [if_pos hi, hi, hk]
  · rw [if_neg hi]
def S1 (bl : Nat) (d : SC) (rv mv : V) : List (Nat × Ob) := [(0, obSh bl (rowS d rv mv))]
/-- a method that only reads the shop -/
theorem spec_rd {f : Nat} {fn : Func} {ac : AC} {rv : List RV} {rest : List V} (ok : FnOk Try.prog f fn ac rv (rest.length + 1) drawD) (vs : List V) (v : V) (hvs : oneV vs = v) (hv : Fz v) (bl : Nat) (d : SC) (r m : V) (hq : WQ r m)
    (h : ∀ R : S → Prop, (∀ (s s' : S), Ent s s' → Ret rv vs s' → agreeH (S1 bl d r m) s' → R s) → awp std (CallE Try.prog) (CallP Try.prog) ac (S0 (.ptr 0 (some bl) 47 0 0 :: rest) (lookH (S1 bl d r m))) R (fun _ _ => False) R) :
    Spec Try.prog f (.ptr 0 (some bl) 47 0 0 :: rest) (lookH (S1 bl d r m)) fun x h' => ∃ L', (x = v ∧ L' = S1 bl d r m) ∧ h' = lookH L' :=
  spec_meth dOk ok (L := S1 bl d r m) (fun x L' => x = v ∧ L' = S1 bl d r m) fun R hR => h R fun s s' he hr ha => hR s s' v _ he (resV_mono rv _ _ (fun x hx => by rw [hx]; exact hvs) hr) ha hv (fun p hp => by rw [List.mem_singleton.1 hp]; exact rowS_fz hq.1.1 hq.2.1 bl) ⟨rfl, rfl⟩
theorem rdE {f k bl : Nat} {rest : List V} {d : SC} {rv mv v : V} {Q : V → V → Prop} (hQ : ∀ g, Q (rv.rl g) (mv.rl g)) (hs : ∀ rv mv, Q rv mv → Spec Try.prog f (.ptr 0 (some bl) 47 0 0 :: rest) (lookH (S1 bl d rv mv)) fun x h' => ∃ L', (x = v ∧ L' = S1 bl d rv mv) ∧ h' = lookH L')
    (hrest : rest.all V.pl = true) (hv : ∀ g, v.ren g = v) (h1 : Fz rv) (h2 : Fz mv) (r1 : rtB k rv = true) (r2 : rtB k mv = true) {h : Hp} {K : V → Hp → Prop} (hk : h k = some (obSh bl (rowS d rv mv))) (hK : K v h) : CallE Try.prog f (.ptr k (some bl) 47 0 0 :: rest) h K :=
  callS hQ hs hrest hv h1 h2 r1 r2 hk (by rw [put_same hk]; exact hK)
def ac_shead : AC := .seq (.region false [
    ⟨some 2, none, .mov (.c (.int .i64 0))⟩])
  (.seq (.region true [
    ⟨some 3, none, .mov (.t 0)⟩,
    ⟨some 4, none, .nilchk (.t 3)⟩,
    ⟨some 5, none, .faddr 5 (.t 4)⟩,
    ⟨some 6, none, .faddr 1 (.t 5)⟩,
    ⟨some 7, none, .load1 (.t 6)⟩,
    ⟨some 8, none, .mov (.t 0)⟩,
    ⟨some 9, none, .nilchk (.t 8)⟩,
    ⟨some 10, none, .faddr 5 (.t 9)⟩,
    ⟨some 11, none, .faddr 35 (.t 10)⟩,
    ⟨some 12, none, .load1 (.t 11)⟩,
    ⟨some 13, none, .len false (.t 12)⟩,
    ⟨some 14, none, .bin .add (.t 7) (.t 13)⟩,
    ⟨some 2, none, .mov (.t 14)⟩])
  (.ret))
theorem ok_shead : FnOk Try.prog 20 Try.f20 ac_shead [.t 2] 1 drawD := ⟨Try.func20, by decide +kernel, by kernel_rfl, by kernel_rfl, by decide +kernel⟩
theorem vc_shead (P : Prim) (hP : P = std) (T T1 : CallT) (bl : Nat) (d : SC) (ka : Nat) (ba : Option Nat) (n : Nat) (mv : V) (hv2 : V.one mv = true) (hb : P.i64 (P.add d.b (P.int n))) (r : Int) (hr : P.add d.b (P.int n) = r)
    (R : S → Prop) (hR : ∀ s s' q, q = r → Ent s s' → Ret [.t 2] [.int .i64 q] s' → agreeH (S1 bl d (.own ka ba 3 n) mv) s' → R s) : awp P T T1 ac_shead (S0 [.ptr 0 (some bl) 47 0 0] (lookH (S1 bl d (.own ka ba 3 n) mv))) R (fun _ _ => False) R := by
  cbv
  repeat' (first
    | (refine And.intro (by first | assumption | decide) ?_; try cbv)
    | (intro β2; try cbv))
  exact hR _ _ _ hr (Ent.refl _) rfl ⟨rfl, trivial⟩
theorem sp_shead (bl : Nat) (d : SC) (ba : Option Nat) (n : Nat) (hb : 0 ≤ d.b ∧ d.b ≤ 4294967295) (hn : n ≤ 1000) (rv mv : V) (hq : OQ ba n rv mv) : Spec Try.prog 20 [.ptr 0 (some bl) 47 0 0] (lookH (S1 bl d rv mv)) fun x h' => ∃ L', (x = .int .i64 (d.b + (n : Int)) ∧ L' = S1 bl d rv mv) ∧ h' = lookH L' := by
  have hw := hq.wq
  obtain ⟨⟨ka, rfl⟩, hm⟩ := hq
  exact spec_rd ok_shead [.int .i64 (d.b + (n : Int))] _ rfl (.int _ _) bl d _ mv hw fun R hR => vc_shead std rfl _ _ bl d ka ba n mv hm.2 (i64I rfl (by rw [add_eq rfl, int_eq rfl]; omega)) (d.b + (n : Int)) (by rw [add_eq rfl, int_eq rfl]) R fun s s' q hq he hr ha => hR s s' he (by rw [← hq]; exact hr) ha
def SHeadC (T : CallT) : Prop := ∀ (k bl : Nat) (d : SC) (ka : Nat) (ba : Option Nat) (n : Nat) (mv : V) (h : Hp) (K : V → Hp → Prop), (0 ≤ d.b ∧ d.b ≤ 4294967295) → n ≤ 1000 → (Fz mv ∧ V.one mv = true) → rtB k (.own ka ba 3 n) = true → rtB k mv = true → h k = some (obSh bl (rowS d (.own ka ba 3 n) mv)) → (∀ q, q = d.b + (n : Int) → K (.int .i64 q) h) → T 20 [.ptr k (some bl) 47 0 0] h K
theorem sheadE : SHeadC (CallE Try.prog) := fun k bl d ka ba n mv h K hb hn hm r1 r2 hk hK => rdE (Q := OQ ba n) (fun g => OQ.rl ⟨⟨ka, rfl⟩, hm⟩ g) (fun rv mv hq => sp_shead bl d ba n hb hn rv mv hq) rfl (fun _ => rfl) (.own _ _ _ _) hm.1 r1 r2 hk (hK _ rfl)
theorem sheadP : SHeadC (CallP Try.prog) := fun k bl d ka ba n mv h K hb hn hm r1 r2 hk hK => callSP (Q := OQ ba n) (fun g => OQ.rl ⟨⟨ka, rfl⟩, hm⟩ g) (fun rv mv hq => sp_shead bl d ba n hb hn rv mv hq) rfl (fun _ => rfl) (.own _ _ _ _) hm.1 hk (hK _ rfl)
def ac_sbase : AC := .seq (.region false [
    ⟨some 2, none, .mov (.c (.int .i64 0))⟩])
  (.seq (.region false [
    ⟨some 3, none, .mov (.t 0)⟩,
    ⟨some 4, none, .nilchk (.t 3)⟩,
    ⟨some 5, none, .faddr 5 (.t 4)⟩,
    ⟨some 6, none, .faddr 1 (.t 5)⟩,
    ⟨some 7, none, .load1 (.t 6)⟩,
    ⟨some 2, none, .mov (.t 7)⟩])
  (.ret))
theorem ok_sbase : FnOk Try.prog 25 Try.f25 ac_sbase [.t 2] 1 drawD := ⟨Try.func25, by decide +kernel, by kernel_rfl, by kernel_rfl, by decide +kernel⟩
theorem vc_sbase (P : Prim) (hP : P = std) (T T1 : CallT) (bl : Nat) (d : SC) (rv mv : V) (hv1 : V.one rv = true) (hv2 : V.one mv = true)
    (R : S → Prop) (hR : ∀ s s', Ent s s' → Ret [.t 2] [.int .i64 d.b] s' → agreeH (S1 bl d rv mv) s' → R s) : awp P T T1 ac_sbase (S0 [.ptr 0 (some bl) 47 0 0] (lookH (S1 bl d rv mv))) R (fun _ _ => False) R := by
  cbv
  repeat' (first
    | (refine And.intro (by first | assumption | decide) ?_; try cbv)
    | (intro β2; try cbv))
  exact hR _ _ (Ent.refl _) rfl ⟨rfl, trivial⟩
theorem sp_sbase (bl : Nat) (d : SC) (rv mv : V) (hq : WQ rv mv) : Spec Try.prog 25 [.ptr 0 (some bl) 47 0 0] (lookH (S1 bl d rv mv)) fun x h' => ∃ L', (x = .int .i64 d.b ∧ L' = S1 bl d rv mv) ∧ h' = lookH L' :=
  spec_rd ok_sbase [.int .i64 d.b] _ rfl (.int _ _) bl d rv mv hq fun R hR => vc_sbase std rfl _ _ bl d rv mv hq.1.2 hq.2.2 R hR
def SBaseC (T : CallT) : Prop := ∀ (k bl : Nat) (d : SC) (rv mv : V) (h : Hp) (K : V → Hp → Prop), WQ rv mv → rtB k rv = true → rtB k mv = true → h k = some (obSh bl (rowS d rv mv)) → K (.int .i64 d.b) h → T 25 [.ptr k (some bl) 47 0 0] h K
theorem sbaseE : SBaseC (CallE Try.prog) := fun k bl d rv mv h K hq r1 r2 hk hK => rdE (Q := WQ) (fun g => hq.rl g) (fun rv mv hq => sp_sbase bl d rv mv hq) rfl (fun _ => rfl) hq.1.1 hq.2.1 r1 r2 hk hK
def ac_ssafe : AC := .seq (.region false [
    ⟨some 2, none, .mov (.c (.int .i64 0))⟩])
  (.seq (.region false [
    ⟨some 3, none, .mov (.t 0)⟩,
    ⟨some 4, none, .nilchk (.t 3)⟩,
    ⟨some 5, none, .faddr 44 (.t 4)⟩,
    ⟨some 6, none, .load1 (.t 5)⟩,
    ⟨some 2, none, .mov (.t 6)⟩])
  (.ret))
theorem ok_ssafe : FnOk Try.prog 32 Try.f32 ac_ssafe [.t 2] 1 drawD := ⟨Try.func32, by decide +kernel, by kernel_rfl, by kernel_rfl, by decide +kernel⟩
theorem vc_ssafe (P : Prim) (hP : P = std) (T T1 : CallT) (bl : Nat) (d : SC) (rv mv : V) (hv1 : V.one rv = true) (hv2 : V.one mv = true)
    (R : S → Prop) (hR : ∀ s s', Ent s s' → Ret [.t 2] [.int .i64 d.sf] s' → agreeH (S1 bl d rv mv) s' → R s) : awp P T T1 ac_ssafe (S0 [.ptr 0 (some bl) 47 0 0] (lookH (S1 bl d rv mv))) R (fun _ _ => False) R := by
  cbv
  repeat' (first
    | (refine And.intro (by first | assumption | decide) ?_; try cbv)
    | (intro β2; try cbv))
  exact hR _ _ (Ent.refl _) rfl ⟨rfl, trivial⟩
theorem sp_ssafe (bl : Nat) (d : SC) (rv mv : V) (hq : WQ rv mv) : Spec Try.prog 32 [.ptr 0 (some bl) 47 0 0] (lookH (S1 bl d rv mv)) fun x h' => ∃ L', (x = .int .i64 d.sf ∧ L' = S1 bl d rv mv) ∧ h' = lookH L' :=
  spec_rd ok_ssafe [.int .i64 d.sf] _ rfl (.int _ _) bl d rv mv hq fun R hR => vc_ssafe std rfl _ _ bl d rv mv hq.1.2 hq.2.2 R hR
def SSafeC (T : CallT) : Prop := ∀ (k bl : Nat) (d : SC) (rv mv : V) (h : Hp) (K : V → Hp → Prop), WQ rv mv → rtB k rv = true → rtB k mv = true → h k = some (obSh bl (rowS d rv mv)) → K (.int .i64 d.sf) h → T 32 [.ptr k (some bl) 47 0 0] h K
theorem ssafeE : SSafeC (CallE Try.prog) := fun k bl d rv mv h K hq r1 r2 hk hK => rdE (Q := WQ) (fun g => hq.rl g) (fun rv mv hq => sp_ssafe bl d rv mv hq) rfl (fun _ => rfl) hq.1.1 hq.2.1 r1 r2 hk hK
def thereT (b : Int) (n : Nat) (r : Int) : Int := if r < b then 9 else if b + (n : Int) < r then 8 else 0
def ac_sther : AC := .seq (.region false [
    ⟨some 4, none, .mov (.c (.int .i64 0))⟩])
  (.seq (.seq (.region false [
    ⟨some 5, none, .mov (.t 1)⟩,
    ⟨some 6, none, .mov (.t 0)⟩,
    ⟨some 7, none, .nilchk (.t 6)⟩,
    ⟨some 8, none, .faddr 5 (.t 7)⟩,
    ⟨some 9, none, .faddr 1 (.t 8)⟩,
    ⟨some 10, none, .load1 (.t 9)⟩,
    ⟨some 11, none, .bin .lss (.t 5) (.t 10)⟩])
  (.cond (.t 11)
    (.seq (.region false [
      ⟨some 4, none, .mov (.c (.int .i64 9))⟩])
    (.ret))
    (.skip)))
  (.seq (.seq (.region false [
    ⟨some 12, none, .mov (.t 1)⟩,
    ⟨some 13, none, .mov (.t 0)⟩,
    ⟨some 14, none, .call 20 [(.t 13)]⟩,
    ⟨some 15, none, .bin .gtr (.t 12) (.t 14)⟩])
  (.cond (.t 15)
    (.seq (.region false [
      ⟨some 4, none, .mov (.c (.int .i64 8))⟩])
    (.ret))
    (.skip)))
  (.seq (.region false [
    ⟨some 4, none, .mov (.c (.int .i64 0))⟩])
  (.ret))))
theorem ok_sther : FnOk Try.prog 65 Try.f65 ac_sther [.t 4] 2 drawD := ⟨Try.func65, by decide +kernel, by kernel_rfl, by kernel_rfl, by decide +kernel⟩
theorem vc_sther (P : Prim) (hP : P = std) (T T1 : CallT) (hhd : SHeadC T) (bl : Nat) (d : SC) (ka : Nat) (ba : Option Nat) (n : Nat) (mv : V) (hrt : rtB 0 (.own ka ba 3 n) = true) (hrm : rtB 0 mv = true) (hm : Fz mv ∧ V.one mv = true) (hb : 0 ≤ d.b ∧ d.b ≤ 4294967295) (hn : n ≤ 1000) (j r : Int) (hr : thereT d.b n j = r)
    (R : S → Prop) (hR : ∀ s s', Ent s s' → Ret [.t 4] [.int .i64 r] s' → agreeH (S1 bl d (.own ka ba 3 n) mv) s' → R s) : awp P T T1 ac_sther (S0 [.ptr 0 (some bl) 47 0 0, .int .i64 j] (lookH (S1 bl d (.own ka ba 3 n) mv))) R (fun _ _ => False) R := by
  have hv2 := hm.2
  unfold thereT at hr
  cbv
  repeat' (first
    | (refine And.intro (by first | assumption | decide) ?_; try cbv)
    | (intro β2; try cbv))
  refine br_cases (fun g => ?_) (fun g => ?_)
  · rw [if_pos (lt_t hP g)] at hr
    cbv
    repeat' (first
    | (refine And.intro (by first | assumption | decide) ?_; try cbv)
    | (intro β2; try cbv))
    subst hr
    exact hR _ _ (Ent.refl _) rfl ⟨rfl, trivial⟩
  rw [if_neg (lt_f hP g)] at hr
  cbv
  repeat' (first
    | (refine And.intro (by first | assumption | decide) ?_; try cbv)
    | (intro β2; try cbv))
  refine hhd 0 bl d ka ba n mv _ _ hb hn hm hrt hrm rfl fun q hq => ?_
  cbv
  repeat' (first
    | (refine And.intro (by first | assumption | decide) ?_; try cbv)
    | (intro β2; try cbv))
  refine br_cases (fun g => ?_) (fun g => ?_)
  · have g1 : q < j := lt_t hP g
    rw [hq] at g1
    rw [if_pos g1] at hr
    cbv
    repeat' (first
    | (refine And.intro (by first | assumption | decide) ?_; try cbv)
    | (intro β2; try cbv))
    subst hr
    exact hR _ _ (Ent.refl _) rfl ⟨rfl, trivial⟩
  · have g1 : ¬ q < j := lt_f hP g
    rw [hq] at g1
    rw [if_neg g1] at hr
    cbv
    repeat' (first
    | (refine And.intro (by first | assumption | decide) ?_; try cbv)
    | (intro β2; try cbv))
    subst hr
    exact hR _ _ (Ent.refl _) rfl ⟨rfl, trivial⟩
def noW : V → Bool
  | .win .. => false
  | _ => true
theorem rt0 {v : V} (h : noW v = true) : rtB 0 v = true := by
  cases v <;> first | rfl | (simp [rtB]; done) | cases h
theorem noW_rl {v : V} (h : noW v = true) (f : Nat → Nat) : noW (v.rl f) = true := by cases v <;> first | rfl | cases h
def TQ (ba : Option Nat) (n : Nat) (rv mv : V) : Prop := OQ ba n rv mv ∧ noW mv = true
theorem TQ.rl {ba : Option Nat} {n : Nat} {rv mv : V} (h : TQ ba n rv mv) (g : Nat → Nat) : TQ ba n (rv.rl g) (mv.rl g) := ⟨h.1.rl g, noW_rl h.2 g⟩
theorem sp_sther (bl : Nat) (d : SC) (ba : Option Nat) (n : Nat) (hb : 0 ≤ d.b ∧ d.b ≤ 4294967295) (hn : n ≤ 1000) (j : Int) (rv mv : V) (hq : TQ ba n rv mv) : Spec Try.prog 65 [.ptr 0 (some bl) 47 0 0, .int .i64 j] (lookH (S1 bl d rv mv)) fun x h' => ∃ L', (x = .int .i64 (thereT d.b n j) ∧ L' = S1 bl d rv mv) ∧ h' = lookH L' := by
  have hw := hq.1.wq
  obtain ⟨⟨⟨ka, rfl⟩, hm⟩, hnw⟩ := hq
  exact spec_rd ok_sther [.int .i64 (thereT d.b n j)] _ rfl (.int _ _) bl d _ mv hw fun R hR => vc_sther std rfl _ _ sheadE bl d ka ba n mv (rt0 rfl) (rt0 hnw) hm hb hn j _ rfl R hR
def SThereC (T : CallT) : Prop := ∀ (k bl : Nat) (d : SC) (ka : Nat) (ba : Option Nat) (n : Nat) (mv : V) (j : Int) (h : Hp) (K : V → Hp → Prop), (0 ≤ d.b ∧ d.b ≤ 4294967295) → n ≤ 1000 → (Fz mv ∧ V.one mv = true) → noW mv = true → rtB k (.own ka ba 3 n) = true → rtB k mv = true → h k = some (obSh bl (rowS d (.own ka ba 3 n) mv)) → (∀ q, q = thereT d.b n j → K (.int .i64 q) h) → T 65 [.ptr k (some bl) 47 0 0, .int .i64 j] h K
theorem stherE : SThereC (CallE Try.prog) := fun k bl d ka ba n mv j h K hb hn hm hw r1 r2 hk hK => rdE (Q := TQ ba n) (fun g => TQ.rl ⟨⟨⟨ka, rfl⟩, hm⟩, hw⟩ g) (fun rv mv hq => sp_sther bl d ba n hb hn j rv mv hq) rfl (fun _ => rfl) (.own _ _ _ _) hm.1 r1 r2 hk (hK _ rfl)
end Go.Proofs.Ytobngncjflogcaa.AM

set_option linter.unusedVariables false
set_option linter.unusedSimpArgs false
namespace Go.Proofs.Ytobngncjflogcaa.AM
open Go Go.RowKit
set_option maxRecDepth 100000
set_option maxHeartbeats 2000000
def S2 (bl : Nat) (d : SC) (ba : Option Nat) (n : Nat) (rows : List (List V)) (mv : V) : List (Nat × Ob) := [(0, obSh bl (rowS d (.own 1000001 ba 3 n) mv)), (1000001, obV ba rows)]
theorem S2_fz {bl : Nat} {d : SC} {ba : Option Nat} {n : Nat} {l : List Rev} {mv : V} (hm : Fz mv) : ∀ p ∈ S2 bl d ba n (l.map encRev) mv, p.2.Fz := by
  intro p hp
  rcases List.mem_cons.1 hp with rfl | hp
  · exact rowS_fz (.own _ _ _ _) hm bl
  · rw [List.mem_singleton.1 hp]; exact encRevs_fz _
/-- names come back from a call that is handed two objects -/
def rt2B (k ka : Nat) : V → Bool
  | .own j _ _ _ => (!(Nat.beq j 0) && !(Nat.beq j 1000001)) || (Nat.beq k 0 && Nat.beq ka 1000001)
  | .ptr j _ _ _ _ => (!(Nat.beq j 0) && !(Nat.beq j 1000001)) || (Nat.beq k 0 && Nat.beq ka 1000001)
  | .win .. => false
  | _ => true
theorem lab_bal2 {k ka j : Nat} (hne : k ≠ ka) (h : ((!(Nat.beq j 0) && !(Nat.beq j 1000001)) || (Nat.beq k 0 && Nat.beq ka 1000001)) = true) : lab [(0, k), (1000001, ka)] (bal [(0, k), (1000001, ka)] j) = j := by
  simp only [Bool.or_eq_true, Bool.and_eq_true] at h
  by_cases h1 : j = k
  · subst h1; simp [bal, lab]
  · by_cases h2 : j = ka
    · subst h2; simp [bal, lab, h1]
    · have e : bal [(0, k), (1000001, ka)] j = j := by simp [bal, h1, h2]
      rw [e]
      rcases h with h | ⟨h, h'⟩
      · have a : ¬ j = 0 := fun e => by subst e; exact absurd h.1 (by simp)
        have b : ¬ j = 1000001 := fun e => by subst e; exact absurd h.2 (by simp)
        simp [lab, a, b]
      · have a := Nat.eq_of_beq_eq_true h
        have b := Nat.eq_of_beq_eq_true h'
        have c : ¬ j = 0 := by omega
        have d : ¬ j = 1000001 := by omega
        simp [lab, c, d]
theorem rt2_ok {k ka : Nat} {v : V} (hne : k ≠ ka) (h : rt2B k ka v = true) : (v.rl (bal [(0, k), (1000001, ka)])).rl (lab [(0, k), (1000001, ka)]) = v := by
  cases v <;> first | rfl | (simp only [V.rl]; rw [lab_bal2 hne h]) | cases h
theorem S2_dom {k ka bl : Nat} {d : SC} {ba : Option Nat} {n : Nat} {rows : List (List V)} {mv : V} : ∀ j q, lookH (S2 bl d ba n rows mv) j = some q → ∃ p ∈ [(0, k), (1000001, ka)], p.1 = j := by
  intro j q hj
  simp only [S2, lookH] at hj
  split at hj
  · rename_i h0; exact ⟨(0, k), by simp, h0.symm⟩
  · split at hj
    · rename_i h0; exact ⟨(1000001, ka), by simp, h0.symm⟩
    · cases hj
theorem S2_obj {k ka bl : Nat} {d : SC} {ba : Option Nat} {n : Nat} {l : List Rev} {mv : V} {h : Hp} (hne : k ≠ ka) (hm : Fz mv) (hk : h k = some (obSh bl (rowS d (.own ka ba 3 n) mv))) (hka : h ka = some (obV ba (l.map encRev))) : ∀ p ∈ [(0, k), (1000001, ka)], lab [(0, k), (1000001, ka)] p.1 = p.2 ∧ bal [(0, k), (1000001, ka)] p.2 = p.1 ∧
    ∃ o, lookH (S2 bl d ba n (l.map encRev) (mv.rl (bal [(0, k), (1000001, ka)]))) p.1 = some o ∧ (h p.2).map (Ob.ren (bal [(0, k), (1000001, ka)])) = some o ∧ o.Fz := by
  have hne2 : ¬ ka = k := fun e => hne e.symm
  have hbk : bal [(0, k), (1000001, ka)] ka = 1000001 := by simp [bal, hne2]
  have hbk0 : bal [(0, k), (1000001, ka)] k = 0 := by simp [bal]
  intro p hp
  simp only [List.mem_cons, List.not_mem_nil, or_false] at hp
  rcases hp with rfl | rfl
  · refine ⟨by simp [lab], hbk0, _, rfl, ?_, rowS_fz (.own _ _ _ _) (hm.rl _) bl⟩
    rw [hk, Option.map_some, obSh_ren]
    show some (obSh bl (rowS d (.own (bal [(0, k), (1000001, ka)] ka) ba 3 n) _)) = _
    rw [hbk]
  · refine ⟨by simp [lab], hbk, _, rfl, ?_, encRevs_fz _⟩
    rw [hka, Option.map_some]
    exact congrArg some (obV_ren ba l _)
/-- a method that is handed the shop and its revisions -/
theorem callS2 {f k ka bl off : Nat} {rest : List V} {d d' : SC} {ba : Option Nat} {n n' : Nat} {l l' : List Rev} {mv v : V} {Q : V → Prop} (hQ : ∀ g, Q (mv.rl g)) (hs : ∀ mv, Q mv → Spec Try.prog f (.ptr 0 (some bl) 47 0 off :: rest) (lookH (S2 bl d ba n (l.map encRev) mv)) fun x h' => ∃ L', (x = v ∧ ∃ ba', L' = S2 bl d' ba' n' (l'.map encRev) mv) ∧ h' = lookH L')
    (hrest : ∀ h, Args h [(0, k), (1000001, ka)] rest rest) (hv : ∀ g, v.ren g = v) (hm : Fz mv) (hne : Nat.beq k ka = false) (r2 : rt2B k ka mv = true) {h : Hp} {K : V → Hp → Prop} (hk : h k = some (obSh bl (rowS d (.own ka ba 3 n) mv))) (hka : h ka = some (obV ba (l.map encRev)))
    (hK : ∀ ba', K v (Hp.put (Hp.put h k (obSh bl (rowS d' (.own ka ba' 3 n') mv))) ka (obV ba' (l'.map encRev)))) : CallE Try.prog f (.ptr k (some bl) 47 0 off :: rest) h K := by
  have hne' : k ≠ ka := by intro e; subst e; rw [Nat.beq_refl] at hne; cases hne
  have hne2 : ¬ ka = k := fun e => hne' e.symm
  have hbk : bal [(0, k), (1000001, ka)] ka = 1000001 := by simp [bal, hne2]
  have hbk0 : bal [(0, k), (1000001, ka)] k = 0 := by simp [bal]
  have hlk : lab [(0, k), (1000001, ka)] 1000001 = ka := by simp [lab]
  refine callG (m := [(0, k), (1000001, ka)]) (hs (mv.rl (bal [(0, k), (1000001, ka)])) (hQ _)) (.cons ?_ (hrest h)) S2_dom (fun p hp => ?_) ?_
  · have := Arg.same (h := h) (m := [(0, k), (1000001, ka)]) (.ptr k (some bl) 47 0 off)
    simpa [V.ren, V.rl, bal] using this
  · obtain ⟨a1, a2, o, a3, a4, a5⟩ := S2_obj hne' hm hk hka p hp
    refine ⟨a1, a2, fun o' ho' => ?_⟩
    rw [a3] at ho'
    cases ho'
    exact ⟨a4, a5⟩
  · rintro x L' ⟨rfl, ba', rfl⟩
    have e : h.upd [(0, k), (1000001, ka)] (lookH (S2 bl d' ba' n' (l'.map encRev) (mv.rl (bal [(0, k), (1000001, ka)])))) = Hp.put (Hp.put h k (obSh bl (rowS d' (.own ka ba' 3 n') mv))) ka (obV ba' (l'.map encRev)) := by
      funext i
      simp only [Hp.upd, Hp.put, List.any_cons, List.any_nil, Bool.or_false, Bool.or_eq_true, decide_eq_true_eq]
      by_cases h1 : ka = i
      · subst h1
        rw [if_pos (.inr rfl), if_pos rfl, hbk]
        show (some (obV ba' (l'.map encRev))).map (Ob.ren (lab [(0, k), (1000001, ka)])) = _
        rw [Option.map_some, obV_ren]
      · by_cases h2 : k = i
        · subst h2
          rw [if_pos (.inl rfl), if_neg (fun e => h1 e.symm), if_pos rfl, hbk0]
          show (some (obSh bl (rowS d' (.own 1000001 ba' 3 n') (mv.rl (bal [(0, k), (1000001, ka)]))))).map (Ob.ren (lab [(0, k), (1000001, ka)])) = _
          rw [Option.map_some, obSh_ren, rt2_ok hne' r2]
          show some (obSh bl (rowS d' (.own (lab [(0, k), (1000001, ka)] 1000001) ba' 3 n') mv)) = _
          rw [hlk]
        · rw [if_neg (by rintro (h | h); exact h2 h; exact h1 h), if_neg (fun e => h1 e.symm), if_neg (fun e => h2 e.symm)]
    rw [e, hv]
    exact hK ba'
/-- the same, only read -/
theorem rdS2E {f k ka bl : Nat} {rest : List V} {d : SC} {ba : Option Nat} {n : Nat} {l : List Rev} {mv v : V} {Q : V → Prop} (hQ : ∀ g, Q (mv.rl g)) (hs : ∀ mv, Q mv → Spec Try.prog f (.ptr 0 (some bl) 47 0 0 :: rest) (lookH (S2 bl d ba n (l.map encRev) mv)) fun x h' => ∃ L', (x = v ∧ L' = S2 bl d ba n (l.map encRev) mv) ∧ h' = lookH L')
    (hrest : rest.all V.pl = true) (hv : ∀ g, v.ren g = v) (hm : Fz mv) (hne : Nat.beq k ka = false) (r2 : rt2B k ka mv = true) {h : Hp} {K : V → Hp → Prop} (hk : h k = some (obSh bl (rowS d (.own ka ba 3 n) mv))) (hka : h ka = some (obV ba (l.map encRev)))
    (hK : K v h) : CallE Try.prog f (.ptr k (some bl) 47 0 0 :: rest) h K := by
  have hne' : k ≠ ka := by intro e; subst e; rw [Nat.beq_refl] at hne; cases hne
  have hne2 : ¬ ka = k := fun e => hne' e.symm
  have hbk : bal [(0, k), (1000001, ka)] ka = 1000001 := by simp [bal, hne2]
  have hbk0 : bal [(0, k), (1000001, ka)] k = 0 := by simp [bal]
  have hlk : lab [(0, k), (1000001, ka)] 1000001 = ka := by simp [lab]
  refine callG (m := [(0, k), (1000001, ka)]) (hs (mv.rl (bal [(0, k), (1000001, ka)])) (hQ _)) (.cons ?_ (args_plain hrest)) S2_dom (fun p hp => ?_) ?_
  · have := Arg.same (h := h) (m := [(0, k), (1000001, ka)]) (.ptr k (some bl) 47 0 0)
    simpa [V.ren, V.rl, bal] using this
  · obtain ⟨a1, a2, o, a3, a4, a5⟩ := S2_obj hne' hm hk hka p hp
    refine ⟨a1, a2, fun o' ho' => ?_⟩
    rw [a3] at ho'
    cases ho'
    exact ⟨a4, a5⟩
  · rintro x L' ⟨rfl, rfl⟩
    have e : h.upd [(0, k), (1000001, ka)] (lookH (S2 bl d ba n (l.map encRev) (mv.rl (bal [(0, k), (1000001, ka)])))) = h := by
      funext i
      simp only [Hp.upd, List.any_cons, List.any_nil, Bool.or_false, Bool.or_eq_true, decide_eq_true_eq]
      by_cases h1 : ka = i
      · subst h1
        rw [if_pos (.inr rfl), hbk, hka]
        show (some (obV ba (l.map encRev))).map (Ob.ren (lab [(0, k), (1000001, ka)])) = _
        rw [Option.map_some, obV_ren]
      · by_cases h2 : k = i
        · subst h2
          rw [if_pos (.inl rfl), hbk0, hk]
          show (some (obSh bl (rowS d (.own 1000001 ba 3 n) (mv.rl (bal [(0, k), (1000001, ka)]))))).map (Ob.ren (lab [(0, k), (1000001, ka)])) = _
          rw [Option.map_some, obSh_ren, rt2_ok hne' r2]
          show some (obSh bl (rowS d (.own (lab [(0, k), (1000001, ka)] 1000001) ba 3 n) mv)) = _
          rw [hlk]
        · rw [if_neg (by rintro (h | h); exact h2 h; exact h1 h)]
    rw [e, hv]
    exact hK
theorem rdS2P {f k ka bl : Nat} {rest : List V} {d : SC} {ba : Option Nat} {n : Nat} {l : List Rev} {mv v : V} {Q : V → Prop} (hQ : ∀ g, Q (mv.rl g)) (hs : ∀ mv, Q mv → Spec Try.prog f (.ptr 0 (some bl) 47 0 0 :: rest) (lookH (S2 bl d ba n (l.map encRev) mv)) fun x h' => ∃ L', (x = v ∧ L' = S2 bl d ba n (l.map encRev) mv) ∧ h' = lookH L')
    (hrest : rest.all V.pl = true) (hv : ∀ g, v.ren g = v) (hm : Fz mv) (hne : Nat.beq k ka = false) {h : Hp} {K : V → Hp → Prop} (hk : h k = some (obSh bl (rowS d (.own ka ba 3 n) mv))) (hka : h ka = some (obV ba (l.map encRev)))
    (hK : K v h) : CallP Try.prog f (.ptr k (some bl) 47 0 0 :: rest) h K := by
  have hne' : k ≠ ka := by intro e; subst e; rw [Nat.beq_refl] at hne; cases hne
  have hs0 := hs (mv.rl (bal [(0, k), (1000001, ka)])) (hQ _)
  refine ⟨[(0, k), (1000001, ka)], _, lookH (S2 bl d ba n (l.map encRev) (mv.rl (bal [(0, k), (1000001, ka)]))), v, ⟨hs0.fn, fun C us a1 a2 a3 a4 => (hs0.run C us a1 a2 a3 a4).mono ?_⟩, .cons ?_ (args_plain hrest), S2_dom, S2_obj hne' hm hk hka, by rw [hv]; exact hK⟩
  · rintro e w' ⟨u, x, h', F', e1, e2, e3, L', ⟨rfl, rfl⟩, rfl⟩
    exact ⟨u, _, _, F', e1, e2, e3, rfl, rfl⟩
  · have := Arg.same (h := h) (m := [(0, k), (1000001, ka)]) (.ptr k (some bl) 47 0 0)
    simpa [V.ren, V.rl, bal] using this
def RTextC (T : CallT) : Prop := ∀ (ka : Nat) (ba : Option Nat) (n : Nat) (rows : List (List V)) (l : List Rev) (base : List UInt8) (j : Int) (h : Hp) (K : V → Hp → Prop), rows = l.map encRev → n = l.length → RevsOk l → h ka = some ⟨ba, 45, 3, rows⟩ → (∀ x y, x = (textF base l j).1 → y = (textF base l j).2 → K (.tup [.str x, .int .i64 y]) h) → T 12 [.str base, .own ka ba 3 n, .int .i64 j] h K
theorem rtextP : RTextC (CallP Try.prog) := by
  rintro ka ba n rows l base j h K rfl rfl hl hk hK
  exact call_pureP (sp_text base l j hl) (.cons (.same _) (.cons (.own ka ba 3 _ _ (rowsOf_own (by simp) hk) (by simp)) (.cons (.same _) .nil))) (hK _ _ rfl rfl)
def stextT (d : SC) (l : List Rev) (j : Int) : List UInt8 × Int := if thereT d.b l.length j ≠ 0 then ([], thereT d.b l.length j) else textF d.tx l (j - d.b)
def ac_stext : AC := .seq (.region false [
    ⟨some 4, none, .mov (.c (.string ⟨#[]⟩))⟩,
    ⟨some 5, none, .mov (.c (.int .i64 0))⟩])
  (.seq (.seq (.region false [
    ⟨some 7, none, .mov (.t 0)⟩,
    ⟨some 8, none, .mov (.t 1)⟩,
    ⟨some 9, none, .call 65 [(.t 7), (.t 8)]⟩,
    ⟨some 6, none, .mov (.t 9)⟩])
  (.seq (.region false [
    ⟨some 10, none, .mov (.t 6)⟩,
    ⟨some 11, none, .bin .neq (.t 10) (.c (.int .i64 0))⟩])
  (.cond (.t 11)
    (.seq (.region false [
      ⟨some 12, none, .mov (.t 6)⟩,
      ⟨some 4, none, .mov (.c (.string ⟨#[]⟩))⟩,
      ⟨some 5, none, .mov (.t 12)⟩])
    (.ret))
    (.skip))))
  (.seq (.region true [
    ⟨some 13, none, .mov (.t 0)⟩,
    ⟨some 14, none, .nilchk (.t 13)⟩,
    ⟨some 15, none, .faddr 5 (.t 14)⟩,
    ⟨some 16, none, .faddr 2 (.t 15)⟩,
    ⟨some 17, none, .load1 (.t 16)⟩,
    ⟨some 18, none, .mov (.t 0)⟩,
    ⟨some 19, none, .nilchk (.t 18)⟩,
    ⟨some 20, none, .faddr 5 (.t 19)⟩,
    ⟨some 21, none, .faddr 35 (.t 20)⟩,
    ⟨some 22, none, .load1 (.t 21)⟩,
    ⟨some 23, none, .mov (.t 1)⟩,
    ⟨some 24, none, .mov (.t 0)⟩,
    ⟨some 25, none, .nilchk (.t 24)⟩,
    ⟨some 26, none, .faddr 5 (.t 25)⟩,
    ⟨some 27, none, .faddr 1 (.t 26)⟩,
    ⟨some 28, none, .load1 (.t 27)⟩,
    ⟨some 29, none, .bin .sub (.t 23) (.t 28)⟩,
    ⟨some 30, none, .call 12 [(.t 17), (.t 22), (.t 29)]⟩,
    ⟨some 31, none, .ext 0 (.t 30)⟩,
    ⟨some 32, none, .ext 1 (.t 30)⟩,
    ⟨some 4, none, .mov (.t 31)⟩,
    ⟨some 5, none, .mov (.t 32)⟩])
  (.ret)))
theorem ok_stext : FnOk Try.prog 22 Try.f22 ac_stext [.t 4, .t 5] 2 drawD := ⟨Try.func22, by decide +kernel, by kernel_rfl, by kernel_rfl, by decide +kernel⟩
theorem vc_stext (P : Prim) (hP : P = std) (T T1 : CallT) (hth : SThereC T) (htx : RTextC T1) (bl : Nat) (d : SC) (ba : Option Nat) (l : List Rev) (n : Nat) (hn : n = l.length) (rows : List (List V)) (hrows : rows = l.map encRev) (hl : RevsOk l) (mv : V) (hrm : rtB 0 mv = true) (hm : Fz mv ∧ V.one mv = true) (hw : noW mv = true) (hb : 0 ≤ d.b ∧ d.b ≤ 4294967295) (hn2 : n ≤ 1000) (j : Int) (x : List UInt8) (y : Int) (hr : stextT d l j = (x, y))
    (R : S → Prop) (hR : ∀ s s', Ent s s' → Ret [.t 4, .t 5] [.str x, .int .i64 y] s' → agreeH (S2 bl d ba n rows mv) s' → R s) : awp P T T1 ac_stext (S0 [.ptr 0 (some bl) 47 0 0, .int .i64 j] (lookH (S2 bl d ba n rows mv))) R (fun _ _ => False) R := by
  have hv2 := hm.2
  unfold stextT at hr
  rw [← hn] at hr
  cbv
  repeat' (first
    | (refine And.intro (by first | assumption | decide) ?_; try cbv)
    | (intro β2; try cbv))
  refine hth 0 bl d 1000001 ba n mv j _ _ hb hn2 hm hw rfl hrm rfl fun q hq => ?_
  rw [← hq] at hr
  cbv
  repeat' (first
    | (refine And.intro (by first | assumption | decide) ?_; try cbv)
    | (intro β2; try cbv))
  refine br_cases (fun g => ?_) (fun g => ?_)
  · have g1 : q ≠ 0 := ne_t hP g
    rw [if_pos g1] at hr
    cases hr
    cbv
    repeat' (first
    | (refine And.intro (by first | assumption | decide) ?_; try cbv)
    | (intro β2; try cbv))
    exact hR _ _ (Ent.refl _) rfl ⟨rfl, rfl, trivial⟩
  have g1 : q = 0 := ne_f hP g
  rw [if_neg (fun hh => hh g1)] at hr
  have hj : d.b ≤ j ∧ j ≤ d.b + (n : Int) := by
    rw [g1] at hq
    unfold thereT at hq
    split at hq
    · cases hq
    · split at hq
      · cases hq
      · omega
  have m1 : P.i64 (P.sub j d.b) := by rw [sub_eq hP]; exact i64I hP (by omega)
  cbv
  repeat' (first
    | (refine And.intro (by first | assumption | decide) ?_; try cbv)
    | (intro β2; try cbv))
  refine htx 1000001 ba n rows l _ _ _ _ hrows hn hl rfl fun x' y' hx hy => ?_
  rw [sub_eq hP, hr] at hx hy
  cbv
  repeat' (first
    | (refine And.intro (by first | assumption | decide) ?_; try cbv)
    | (intro β2; try cbv))
  subst hx hy
  exact hR _ _ (Ent.refl _) rfl ⟨rfl, rfl, trivial⟩
def MQ (mv : V) : Prop := (Fz mv ∧ V.one mv = true) ∧ noW mv = true
theorem MQ.rl {mv : V} (h : MQ mv) (g : Nat → Nat) : MQ (mv.rl g) := ⟨⟨h.1.1.rl g, one_rl h.1.2 g⟩, noW_rl h.2 g⟩
theorem sp_stext (bl : Nat) (d : SC) (ba : Option Nat) (l : List Rev) (hl : RevsOk l) (hb : 0 ≤ d.b ∧ d.b ≤ 4294967295) (hn2 : l.length ≤ 1000) (j : Int) (mv : V) (hq : MQ mv) : Spec Try.prog 22 [.ptr 0 (some bl) 47 0 0, .int .i64 j] (lookH (S2 bl d ba l.length (l.map encRev) mv)) fun x h' => ∃ L', (x = .tup [.str (stextT d l j).1, .int .i64 (stextT d l j).2] ∧ L' = S2 bl d ba l.length (l.map encRev) mv) ∧ h' = lookH L' :=
  spec_meth dOk ok_stext (L := S2 bl d ba l.length (l.map encRev) mv) (fun x L' => x = .tup [.str (stextT d l j).1, .int .i64 (stextT d l j).2] ∧ L' = S2 bl d ba l.length (l.map encRev) mv) fun R hR =>
    vc_stext std rfl _ _ stherE rtextP bl d ba l _ rfl _ rfl hl mv (rt0 hq.2) hq.1 hq.2 hb hn2 j _ _ rfl R fun s s' he hr ha => hR s s' _ _ he (resV_mono _ _ _ (fun x hx => by rw [hx]; rfl) hr) ha (.tup _ (by simp; exact ⟨.str _, .int _ _⟩)) (S2_fz hq.1.1) ⟨rfl, rfl⟩
def STextC (T : CallT) : Prop := ∀ (k ka bl : Nat) (d : SC) (ba : Option Nat) (n : Nat) (rows : List (List V)) (l : List Rev) (mv : V) (j : Int) (h : Hp) (K : V → Hp → Prop), rows = l.map encRev → n = l.length → RevsOk l → (0 ≤ d.b ∧ d.b ≤ 4294967295) → l.length ≤ 1000 → MQ mv → Nat.beq k ka = false → rt2B k ka mv = true → h k = some (obSh bl (rowS d (.own ka ba 3 n) mv)) → h ka = some (obV ba rows) → (∀ x y, x = (stextT d l j).1 → y = (stextT d l j).2 → K (.tup [.str x, .int .i64 y]) h) → T 22 [.ptr k (some bl) 47 0 0, .int .i64 j] h K
theorem stextE : STextC (CallE Try.prog) := by
  rintro k ka bl d ba n rows l mv j h K rfl rfl hl hb hn hq hne hr hk hka hK
  exact rdS2E (Q := MQ) (fun g => hq.rl g) (fun mv hq => sp_stext bl d ba l hl hb hn j mv hq) rfl (fun _ => rfl) hq.1.1 hne hr hk hka (hK _ _ rfl rfl)
end Go.Proofs.Ytobngncjflogcaa.AM
