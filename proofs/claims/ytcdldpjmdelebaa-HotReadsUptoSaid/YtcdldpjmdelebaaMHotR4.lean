/-
  What a slot says, read: hot.Read. (Printed by gen_hotr4.py.)
-/
import Derived.Test.YtcdldpjmdelebaaMHotR3
import Derived.Test.YtcdldpjmdelebaaMDo2
set_option linter.unusedVariables false
set_option linter.unusedSimpArgs false
namespace Go.Proofs.Ytcdldpjmdelebaa.AM
open Go Go.RowKit
set_option maxRecDepth 100000
set_option maxHeartbeats 2000000
/-! the plain law -/
structure LogD where
  gen : Int
  base : Int
  text : List UInt8
  first : Nat → Int
  table : Nat → Int
  revs : List Rev
  whole : Bool
  good : Int
def logE (l : LogD) : V := logV l.gen l.base l.text l.first l.table (l.revs.map encRev) l.whole l.good
def zeroL : LogD := ⟨0, 0, [], fun _ => 0, fun _ => 0, [], false, 0⟩
def stepL (l : LogD) (now : List UInt8) (f : Frame) : Option (LogD × List UInt8) :=
  if f.kind = 3 then (if l.whole = true ∨ f.body ≠ [] then none else some (⟨l.gen, l.base, l.text, l.first, l.table, l.revs, true, l.good + ((f.body.length : Int) + 7)⟩, now))
  else if f.kind = 2 then
    (if revOk f.body = true ∧ nextF l.base l.table l.revs.length now.length (revB f.body) = 0 then
      some (⟨l.gen, l.base, l.text, l.first, addTb l.table (revB f.body).who.toNat (revB f.body).seq (l.base + (l.revs.length : Int) + 1), l.revs ++ [revB f.body], l.whole, l.good + ((f.body.length : Int) + 7)⟩, (doF (revB f.body).delta now).1) else none)
  else none
def allL : List Frame → LogD → List UInt8 → LogD
  | [], l, _ => l
  | f :: fs, l, now => match stepL l now f with
    | none => l
    | some (l2, n2) => allL fs l2 n2
def headG (g b : Int) (tx : List UInt8) (f : Nat → Int) (n : Int) : LogD := ⟨g, b, tx, f, f, [], false, n⟩
def readG (hg hb : List UInt8 → Int) (ht : List UInt8 → List UInt8) (hf : List UInt8 → Nat → Int) (ho : List UInt8 → Bool) (fs : List Frame) : LogD × Int := match fs with
  | [] => (zeroL, 7)
  | f :: fs => if f.kind ≠ 1 ∨ ho f.body = false then (zeroL, 3) else (allL fs (headG (hg f.body) (hb f.body) (ht f.body) (hf f.body) ((f.body.length : Int) + 7)) (ht f.body), 0)
def readL (fs : List Frame) : LogD × Int := readG (fun x => tkN x 0) (fun x => tkN x 1) (fun x => (tkS x 18).1) (fun x j => tkN x (j + 2)) headOk fs
/-! what is handed back -/
def SlR (h : Hp) (rows : List (List V)) (v : V) : Prop := (v = .nilsl ∧ rows = []) ∨ ∃ k β t n, v = .own k β 3 n ∧ h k = some ⟨β, t, 3, rows⟩ ∧ n = rows.length
theorem SlR.fr {h : Hp} {l : List Rev} {v : V} (hv : SlR h (l.map encRev) v) : Fr h v (.sl false 3 (l.map encRev)) := by
  rcases hv with ⟨rfl, h0⟩ | ⟨k, β, t, n, rfl, h1, h2⟩
  · rw [h0]; exact .nilsl 3
  · exact .rows h1 rfl rfl h2.symm (encRevs_sz _) (encRevs_fz _)
def RetLog (rv : List RV) (l : LogD) (e : Int) (R : S → Prop) : Prop :=
  ∀ (s s' : S) (gn b gd : Int) (tx : List UInt8) (fs tb : Nat → Int) (wh : Bool) (v : V) (rows : List (List V)) (x : Int), Ent s s' → Ret rv [.agg [.int .i64 gn, .int .i64 b, .str tx, .int .i64 (fs 0), .int .i64 (fs 1), .int .i64 (fs 2), .int .i64 (fs 3), .int .i64 (fs 4), .int .i64 (fs 5), .int .i64 (fs 6), .int .i64 (fs 7), .int .i64 (fs 8), .int .i64 (fs 9), .int .i64 (fs 10), .int .i64 (fs 11), .int .i64 (fs 12), .int .i64 (fs 13), .int .i64 (fs 14), .int .i64 (fs 15), .int .i64 (tb 0), .int .i64 (tb 1), .int .i64 (tb 2), .int .i64 (tb 3), .int .i64 (tb 4), .int .i64 (tb 5), .int .i64 (tb 6), .int .i64 (tb 7), .int .i64 (tb 8), .int .i64 (tb 9), .int .i64 (tb 10), .int .i64 (tb 11), .int .i64 (tb 12), .int .i64 (tb 13), .int .i64 (tb 14), .int .i64 (tb 15), v, .bool wh, .int .i64 gd], .int .i64 x] s' → SlR s'.h rows v →
    gn = l.gen ∧ b = l.base ∧ gd = l.good ∧ tx = l.text ∧ (∀ j, j < 16 → fs j = l.first j) ∧ (∀ j, j < 16 → tb j = l.table j) ∧ wh = l.whole ∧ rows = l.revs.map encRev ∧ x = e → R s
theorem retLog_of {rv : List RV} {l : LogD} {e : Int} {R : S → Prop} (hR : ∀ s s', Ent s s' → RetF rv (.tup [logE l, .int .i64 e]) s' → R s) : RetLog rv l e R := by
  intro s s' gn b gd tx fs tb wh v rows x he hret hv h
  obtain ⟨rfl, rfl, rfl, rfl, h5, h6, rfl, rfl, rfl⟩ := h
  refine hR s s' he (resV_mono _ _ _ (fun y hy => ?_) hret)
  subst hy
  rw [h5 0 (by decide), h5 1 (by decide), h5 2 (by decide), h5 3 (by decide), h5 4 (by decide), h5 5 (by decide), h5 6 (by decide), h5 7 (by decide), h5 8 (by decide), h5 9 (by decide), h5 10 (by decide), h5 11 (by decide), h5 12 (by decide), h5 13 (by decide), h5 14 (by decide), h5 15 (by decide), h6 0 (by decide), h6 1 (by decide), h6 2 (by decide), h6 3 (by decide), h6 4 (by decide), h6 5 (by decide), h6 6 (by decide), h6 7 (by decide), h6 8 (by decide), h6 9 (by decide), h6 10 (by decide), h6 11 (by decide), h6 12 (by decide), h6 13 (by decide), h6 14 (by decide), h6 15 (by decide)]
  exact .tup_cons (.agg_cons (.same _ (.int _ _)) (.agg_cons (.same _ (.int _ _)) (.agg_cons (.same _ (.str _)) (.agg_cons (.same _ (.int _ _)) (.agg_cons (.same _ (.int _ _)) (.agg_cons (.same _ (.int _ _)) (.agg_cons (.same _ (.int _ _)) (.agg_cons (.same _ (.int _ _)) (.agg_cons (.same _ (.int _ _)) (.agg_cons (.same _ (.int _ _)) (.agg_cons (.same _ (.int _ _)) (.agg_cons (.same _ (.int _ _)) (.agg_cons (.same _ (.int _ _)) (.agg_cons (.same _ (.int _ _)) (.agg_cons (.same _ (.int _ _)) (.agg_cons (.same _ (.int _ _)) (.agg_cons (.same _ (.int _ _)) (.agg_cons (.same _ (.int _ _)) (.agg_cons (.same _ (.int _ _)) (.agg_cons (.same _ (.int _ _)) (.agg_cons (.same _ (.int _ _)) (.agg_cons (.same _ (.int _ _)) (.agg_cons (.same _ (.int _ _)) (.agg_cons (.same _ (.int _ _)) (.agg_cons (.same _ (.int _ _)) (.agg_cons (.same _ (.int _ _)) (.agg_cons (.same _ (.int _ _)) (.agg_cons (.same _ (.int _ _)) (.agg_cons (.same _ (.int _ _)) (.agg_cons (.same _ (.int _ _)) (.agg_cons (.same _ (.int _ _)) (.agg_cons (.same _ (.int _ _)) (.agg_cons (.same _ (.int _ _)) (.agg_cons (.same _ (.int _ _)) (.agg_cons (.same _ (.int _ _)) (.agg_cons hv.fr (.agg_cons (.same _ (.bool _)) (.agg_cons (.same _ (.int _ _)) .agg_nil)))))))))))))))))))))))))))))))))))))) (.tup_cons (.same _ (.int _ _)) .tup_nil)
/-! a call that is handed a log -/
theorem arg_agg {h : Hp} {m : List (Nat × Nat)} : ∀ {l l' : List V}, Args h m l l' → l.length = l'.length ∧ ∀ (i : Nat) (v v' : V), l[i]? = some v → l'[i]? = some v' → Arg h m v v'
  | _, _, .nil => ⟨rfl, fun i v v' h1 => by cases h1⟩
  | _, _, .cons a b => by
    obtain ⟨h1, h2⟩ := arg_agg b
    refine ⟨by simp [h1], fun i v v' g1 g2 => ?_⟩
    cases i with
    | zero =>
      simp only [List.getElem?_cons_zero, Option.some.injEq] at g1 g2
      subst g1 g2; exact a
    | succ i => simp only [List.getElem?_cons_succ] at g1 g2; exact h2 i v v' g1 g2
def NxC (T : CallT) (f : Nat) (nx : Int → (Nat → Int) → Nat → Int → Rev → Int) : Prop := ∀ (k : Nat) (ba : Option Nat) (n : Nat) (rows : List (List V)) (gn b gd sz w q : Int) (tx : List UInt8) (fs tb : Nat → Int) (wh : Bool) (l : List Rev) (dr : List (List V)) (r : Rev) (h : Hp) (K : V → Hp → Prop),
  rows = l.map encRev → n = l.length → (w = r.who ∧ q = r.seq ∧ dr = r.delta.map encPart) → PartsOk r.delta → 0 ≤ b ∧ b ≤ 2147483647 → h k = some ⟨ba, 98, 3, rows⟩ →
  K (.int .i64 (nx b tb l.length sz r)) h → T f [.agg [.int .i64 gn, .int .i64 b, .str tx, .int .i64 (fs 0), .int .i64 (fs 1), .int .i64 (fs 2), .int .i64 (fs 3), .int .i64 (fs 4), .int .i64 (fs 5), .int .i64 (fs 6), .int .i64 (fs 7), .int .i64 (fs 8), .int .i64 (fs 9), .int .i64 (fs 10), .int .i64 (fs 11), .int .i64 (fs 12), .int .i64 (fs 13), .int .i64 (fs 14), .int .i64 (fs 15), .int .i64 (tb 0), .int .i64 (tb 1), .int .i64 (tb 2), .int .i64 (tb 3), .int .i64 (tb 4), .int .i64 (tb 5), .int .i64 (tb 6), .int .i64 (tb 7), .int .i64 (tb 8), .int .i64 (tb 9), .int .i64 (tb 10), .int .i64 (tb 11), .int .i64 (tb 12), .int .i64 (tb 13), .int .i64 (tb 14), .int .i64 (tb 15), .own k ba 3 n, .bool wh, .int .i64 gd], .int .i64 sz, .agg [.int .i64 w, .int .i64 q, .sl false 3 dr]] h K
theorem nxC_of {f : Nat} (hs : ∀ (gn b : Int) (tx : List UInt8) (fs tb : Nat → Int) (l : List Rev) (wh : Bool) (gd size : Int) (r : Rev), 0 ≤ b ∧ b ≤ 2147483647 → PartsOk r.delta → Spec Try.prog f [logT gn b tx fs tb (l.map encRev) wh gd, .int .i64 size, .agg (encRev r)] Hp.emp (Is (.int .i64 (nextF b tb l.length size r)))) : NxC (CallE Try.prog) f nextF := by
  rintro k ba n rows gn b gd sz w q tx fs tb wh l dr r h K rfl rfl ⟨rfl, rfl, rfl⟩ hp hb hk hK
  have hown : Arg h [] (.own k ba 3 l.length) (.sl true 3 (l.map encRev)) := .own k ba 3 l.length _ (rowsOf_own (by simp) hk) (by simp)
  obtain ⟨a1, a2⟩ := arg_agg (h := h) (m := []) (l := [.int .i64 gn, .int .i64 b, .str tx, .int .i64 (fs 0), .int .i64 (fs 1), .int .i64 (fs 2), .int .i64 (fs 3), .int .i64 (fs 4), .int .i64 (fs 5), .int .i64 (fs 6), .int .i64 (fs 7), .int .i64 (fs 8), .int .i64 (fs 9), .int .i64 (fs 10), .int .i64 (fs 11), .int .i64 (fs 12), .int .i64 (fs 13), .int .i64 (fs 14), .int .i64 (fs 15), .int .i64 (tb 0), .int .i64 (tb 1), .int .i64 (tb 2), .int .i64 (tb 3), .int .i64 (tb 4), .int .i64 (tb 5), .int .i64 (tb 6), .int .i64 (tb 7), .int .i64 (tb 8), .int .i64 (tb 9), .int .i64 (tb 10), .int .i64 (tb 11), .int .i64 (tb 12), .int .i64 (tb 13), .int .i64 (tb 14), .int .i64 (tb 15), .own k ba 3 l.length, .bool wh, .int .i64 gd]) (l' := [.int .i64 gn, .int .i64 b, .str tx, .int .i64 (fs 0), .int .i64 (fs 1), .int .i64 (fs 2), .int .i64 (fs 3), .int .i64 (fs 4), .int .i64 (fs 5), .int .i64 (fs 6), .int .i64 (fs 7), .int .i64 (fs 8), .int .i64 (fs 9), .int .i64 (fs 10), .int .i64 (fs 11), .int .i64 (fs 12), .int .i64 (fs 13), .int .i64 (fs 14), .int .i64 (fs 15), .int .i64 (tb 0), .int .i64 (tb 1), .int .i64 (tb 2), .int .i64 (tb 3), .int .i64 (tb 4), .int .i64 (tb 5), .int .i64 (tb 6), .int .i64 (tb 7), .int .i64 (tb 8), .int .i64 (tb 9), .int .i64 (tb 10), .int .i64 (tb 11), .int .i64 (tb 12), .int .i64 (tb 13), .int .i64 (tb 14), .int .i64 (tb 15), .sl true 3 (l.map encRev), .bool wh, .int .i64 gd]) (.cons (.same _) (.cons (.same _) (.cons (.same _) (.cons (.same _) (.cons (.same _) (.cons (.same _) (.cons (.same _) (.cons (.same _) (.cons (.same _) (.cons (.same _) (.cons (.same _) (.cons (.same _) (.cons (.same _) (.cons (.same _) (.cons (.same _) (.cons (.same _) (.cons (.same _) (.cons (.same _) (.cons (.same _) (.cons (.same _) (.cons (.same _) (.cons (.same _) (.cons (.same _) (.cons (.same _) (.cons (.same _) (.cons (.same _) (.cons (.same _) (.cons (.same _) (.cons (.same _) (.cons (.same _) (.cons (.same _) (.cons (.same _) (.cons (.same _) (.cons (.same _) (.cons (.same _) (.cons hown (.cons (.same _) (.cons (.same _) .nil))))))))))))))))))))))))))))))))))))))
  exact ⟨h, HEnt.refl h, call_pure (hs gn b tx fs tb l wh gd sz r hb hp) (.cons (.agg _ _ a1 a2) (.cons (.same _) (.cons (.same _) .nil))) hK⟩
/-! Read -/
def ac_hread : AC := .seq (.region false [
    ⟨some 2, none, .alloc 37 [(.int .i64 0), (.int .i64 0), (.string ⟨#[]⟩), (.int .i64 0), (.int .i64 0), (.int .i64 0), (.int .i64 0), (.int .i64 0), (.int .i64 0), (.int .i64 0), (.int .i64 0), (.int .i64 0), (.int .i64 0), (.int .i64 0), (.int .i64 0), (.int .i64 0), (.int .i64 0), (.int .i64 0), (.int .i64 0), (.int .i64 0), (.int .i64 0), (.int .i64 0), (.int .i64 0), (.int .i64 0), (.int .i64 0), (.int .i64 0), (.int .i64 0), (.int .i64 0), (.int .i64 0), (.int .i64 0), (.int .i64 0), (.int .i64 0), (.int .i64 0), (.int .i64 0), (.int .i64 0), (.slice none 0 0), (.bool false), (.int .i64 0)]⟩,
    ⟨some 3, none, .mov (.c (.int .i64 0))⟩])
  (.seq (.region false [
    ⟨some 14, none, .mov (.t 0)⟩,
    ⟨some 15, none, .call 43 [(.t 14)]⟩,
    ⟨some 13, none, .mov (.t 15)⟩,
    ⟨some 16, none, .ext 0 (.t 13)⟩,
    ⟨some 17, none, .ext 1 (.t 13)⟩,
    ⟨some 4, none, .mov (.t 16)⟩,
    ⟨some 5, none, .mov (.t 17)⟩])
  (.seq (.seq (.region false [
    ⟨some 18, none, .mov (.t 4)⟩,
    ⟨some 19, none, .len false (.t 18)⟩,
    ⟨some 20, none, .bin .eql (.t 19) (.c (.int .i64 0))⟩])
  (.cond (.t 20)
    (.seq (.region false [
      ⟨some 21, none, .build [(.int .i64 0), (.int .i64 0), (.string ⟨#[]⟩), (.int .i64 0), (.int .i64 0), (.int .i64 0), (.int .i64 0), (.int .i64 0), (.int .i64 0), (.int .i64 0), (.int .i64 0), (.int .i64 0), (.int .i64 0), (.int .i64 0), (.int .i64 0), (.int .i64 0), (.int .i64 0), (.int .i64 0), (.int .i64 0), (.int .i64 0), (.int .i64 0), (.int .i64 0), (.int .i64 0), (.int .i64 0), (.int .i64 0), (.int .i64 0), (.int .i64 0), (.int .i64 0), (.int .i64 0), (.int .i64 0), (.int .i64 0), (.int .i64 0), (.int .i64 0), (.int .i64 0), (.int .i64 0), (.slice none 0 0), (.bool false), (.int .i64 0)] []⟩,
      ⟨none, none, .store 38 (.t 2) (.t 21)⟩,
      ⟨some 3, none, .mov (.c (.int .i64 7))⟩])
    (.ret))
    (.skip)))
  (.seq (.region false [
    ⟨some 23, none, .mov (.t 4)⟩,
    ⟨some 24, none, .iaddr 2 (.t 23) (.c (.int .i64 0))⟩,
    ⟨some 25, none, .faddr 1 (.t 24)⟩,
    ⟨some 26, none, .load1 (.t 25)⟩,
    ⟨some 27, none, .call 44 [(.t 26)]⟩,
    ⟨some 22, none, .mov (.t 27)⟩,
    ⟨some 28, none, .ext 0 (.t 22)⟩,
    ⟨some 29, none, .ext 1 (.t 22)⟩,
    ⟨some 6, none, .alloc 37 [(.int .i64 0), (.int .i64 0), (.string ⟨#[]⟩), (.int .i64 0), (.int .i64 0), (.int .i64 0), (.int .i64 0), (.int .i64 0), (.int .i64 0), (.int .i64 0), (.int .i64 0), (.int .i64 0), (.int .i64 0), (.int .i64 0), (.int .i64 0), (.int .i64 0), (.int .i64 0), (.int .i64 0), (.int .i64 0), (.int .i64 0), (.int .i64 0), (.int .i64 0), (.int .i64 0), (.int .i64 0), (.int .i64 0), (.int .i64 0), (.int .i64 0), (.int .i64 0), (.int .i64 0), (.int .i64 0), (.int .i64 0), (.int .i64 0), (.int .i64 0), (.int .i64 0), (.int .i64 0), (.slice none 0 0), (.bool false), (.int .i64 0)]⟩,
    ⟨none, none, .store 38 (.t 6) (.t 28)⟩,
    ⟨some 7, none, .mov (.t 29)⟩])
  (.seq (.seq (.region false [
    ⟨some 30, none, .mov (.t 4)⟩,
    ⟨some 31, none, .iaddr 2 (.t 30) (.c (.int .i64 0))⟩,
    ⟨some 32, none, .faddr 0 (.t 31)⟩,
    ⟨some 33, none, .load1 (.t 32)⟩,
    ⟨some 34, none, .bin .neq (.t 33) (.c (.int .i64 1))⟩,
    ⟨some 35, none, .mov (.t 34)⟩,
    ⟨some 36, some (35, false), .mov (.t 7)⟩,
    ⟨some 37, some (35, false), .not (.t 36)⟩,
    ⟨some 38, none, .pick (.t 35) (.c (.bool true)) (.t 37)⟩])
  (.cond (.t 38)
    (.seq (.region false [
      ⟨some 39, none, .build [(.int .i64 0), (.int .i64 0), (.string ⟨#[]⟩), (.int .i64 0), (.int .i64 0), (.int .i64 0), (.int .i64 0), (.int .i64 0), (.int .i64 0), (.int .i64 0), (.int .i64 0), (.int .i64 0), (.int .i64 0), (.int .i64 0), (.int .i64 0), (.int .i64 0), (.int .i64 0), (.int .i64 0), (.int .i64 0), (.int .i64 0), (.int .i64 0), (.int .i64 0), (.int .i64 0), (.int .i64 0), (.int .i64 0), (.int .i64 0), (.int .i64 0), (.int .i64 0), (.int .i64 0), (.int .i64 0), (.int .i64 0), (.int .i64 0), (.int .i64 0), (.int .i64 0), (.int .i64 0), (.slice none 0 0), (.bool false), (.int .i64 0)] []⟩,
      ⟨none, none, .store 38 (.t 2) (.t 39)⟩,
      ⟨some 3, none, .mov (.c (.int .i64 3))⟩])
    (.ret))
    (.skip)))
  (.seq (.region false [
    ⟨some 40, none, .faddr 2 (.t 6)⟩,
    ⟨some 41, none, .load1 (.t 40)⟩,
    ⟨some 8, none, .mov (.t 41)⟩])
  (.seq (.region false [
    ⟨some 42, none, .mov (.t 4)⟩,
    ⟨some 43, none, .iaddr 2 (.t 42) (.c (.int .i64 0))⟩,
    ⟨some 44, none, .faddr 1 (.t 43)⟩,
    ⟨some 45, none, .load1 (.t 44)⟩,
    ⟨some 46, none, .len true (.t 45)⟩,
    ⟨some 47, none, .bin .add (.t 46) (.c (.int .i64 7))⟩,
    ⟨some 48, none, .faddr 37 (.t 6)⟩,
    ⟨none, none, .store 1 (.t 48) (.t 47)⟩])
  (.seq (.seq (.region false [
    ⟨some 49, none, .mov (.t 4)⟩,
    ⟨some 50, none, .slsl 2 (.t 49) (some (.c (.int .i64 1))) none⟩,
    ⟨some 51, none, .len false (.t 50)⟩,
    ⟨some 52, none, .mov (.c (.int .i64 0))⟩])
  (.block 0 (.loop (.seq (.region false [
      ⟨some 53, none, .bin .lss (.t 52) (.t 51)⟩])
    (.seq (.cond (.t 53)
      (.skip)
      (.exit 0))
    (.seq (.block 1 (.seq (.region false [
      ⟨some 54, none, .iaddr 2 (.t 50) (.t 52)⟩,
      ⟨some 55, none, .loadn 2 (.t 54)⟩,
      ⟨some 10, none, .alloc 96 [(.int .i64 0), (.string ⟨#[]⟩)]⟩,
      ⟨none, none, .store 2 (.t 10) (.t 55)⟩])
    (.seq (.seq (.region false [
      ⟨some 56, none, .faddr 0 (.t 10)⟩,
      ⟨some 57, none, .load1 (.t 56)⟩])
    (.block 2 (.seq (.region false [
      ⟨some 60, none, .bin .eql (.t 57) (.c (.int .i64 3))⟩,
      ⟨some 59, none, .mov (.t 60)⟩])
    (.cond (.t 59)
      (.seq (.seq (.region false [
        ⟨some 61, none, .faddr 36 (.t 6)⟩,
        ⟨some 62, none, .load1 (.t 61)⟩,
        ⟨some 63, none, .mov (.t 62)⟩,
        ⟨some 64, some (63, false), .faddr 1 (.t 10)⟩,
        ⟨some 65, some (63, false), .load1 (.t 64)⟩,
        ⟨some 66, some (63, false), .bin .neq (.t 65) (.c (.string ⟨#[]⟩))⟩,
        ⟨some 67, none, .pick (.t 63) (.c (.bool true)) (.t 66)⟩])
      (.cond (.t 67)
        (.seq (.region false [
          ⟨some 68, none, .loadn 38 (.t 6)⟩,
          ⟨none, none, .store 38 (.t 2) (.t 68)⟩,
          ⟨some 3, none, .mov (.c (.int .i64 0))⟩])
        (.ret))
        (.skip)))
      (.region false [
        ⟨some 69, none, .faddr 36 (.t 6)⟩,
        ⟨none, none, .store 1 (.t 69) (.c (.bool true))⟩]))
      (.seq (.region false [
        ⟨some 71, none, .bin .eql (.t 57) (.c (.int .i64 2))⟩,
        ⟨some 70, none, .mov (.t 71)⟩])
      (.cond (.t 70)
        (.seq (.region false [
          ⟨some 73, none, .faddr 1 (.t 10)⟩,
          ⟨some 74, none, .load1 (.t 73)⟩,
          ⟨some 75, none, .call 45 [(.t 74)]⟩,
          ⟨some 72, none, .mov (.t 75)⟩,
          ⟨some 76, none, .ext 0 (.t 72)⟩,
          ⟨some 77, none, .ext 1 (.t 72)⟩,
          ⟨some 11, none, .alloc 98 [(.int .i64 0), (.int .i64 0), (.slice none 0 0)]⟩,
          ⟨none, none, .store 3 (.t 11) (.t 76)⟩,
          ⟨some 12, none, .mov (.t 77)⟩])
        (.seq (.seq (.region false [
          ⟨some 78, none, .mov (.t 12)⟩,
          ⟨some 79, none, .not (.t 78)⟩,
          ⟨some 80, none, .mov (.t 79)⟩,
          ⟨some 81, some (80, false), .loadn 38 (.t 6)⟩,
          ⟨some 82, some (80, false), .mov (.t 8)⟩,
          ⟨some 83, some (80, false), .len true (.t 82)⟩,
          ⟨some 84, some (80, false), .loadn 3 (.t 11)⟩,
          ⟨some 85, some (80, false), .call 46 [(.t 81), (.t 83), (.t 84)]⟩,
          ⟨some 86, some (80, false), .bin .neq (.t 85) (.c (.int .i64 0))⟩,
          ⟨some 87, none, .pick (.t 80) (.c (.bool true)) (.t 86)⟩])
        (.cond (.t 87)
          (.seq (.region false [
            ⟨some 88, none, .loadn 38 (.t 6)⟩,
            ⟨none, none, .store 38 (.t 2) (.t 88)⟩,
            ⟨some 3, none, .mov (.c (.int .i64 0))⟩])
          (.ret))
          (.skip)))
        (.seq (.region false [
          ⟨some 90, none, .faddr 2 (.t 11)⟩,
          ⟨some 91, none, .load1 (.t 90)⟩,
          ⟨some 92, none, .mov (.t 8)⟩,
          ⟨some 93, none, .call 40 [(.t 91), (.t 92)]⟩,
          ⟨some 89, none, .mov (.t 93)⟩,
          ⟨some 94, none, .ext 0 (.t 89)⟩,
          ⟨some 95, none, .ext 1 (.t 89)⟩,
          ⟨some 8, none, .mov (.t 94)⟩])
        (.region false [
          ⟨some 96, none, .loadn 3 (.t 11)⟩,
          ⟨some 97, none, .call 47 [(.t 6), (.t 96)]⟩]))))
        (.seq (.region false [
          ⟨some 58, none, .loadn 38 (.t 6)⟩,
          ⟨none, none, .store 38 (.t 2) (.t 58)⟩,
          ⟨some 3, none, .mov (.c (.int .i64 0))⟩])
        (.ret))))))))
    (.region false [
      ⟨some 98, none, .faddr 37 (.t 6)⟩,
      ⟨some 99, none, .load1 (.t 98)⟩,
      ⟨some 100, none, .faddr 1 (.t 10)⟩,
      ⟨some 101, none, .load1 (.t 100)⟩,
      ⟨some 102, none, .len true (.t 101)⟩,
      ⟨some 103, none, .bin .add (.t 102) (.c (.int .i64 7))⟩,
      ⟨some 104, none, .bin .add (.t 99) (.t 103)⟩,
      ⟨some 105, none, .faddr 37 (.t 6)⟩,
      ⟨none, none, .store 1 (.t 105) (.t 104)⟩]))))
    (.region false [
      ⟨some 106, none, .bin .add (.t 52) (.c (.int .i64 1))⟩,
      ⟨some 52, none, .mov (.t 106)⟩])))))))
  (.seq (.region false [
    ⟨some 107, none, .loadn 38 (.t 6)⟩,
    ⟨none, none, .store 38 (.t 2) (.t 107)⟩,
    ⟨some 3, none, .mov (.c (.int .i64 0))⟩])
  (.ret)))))))))
theorem ok_hread : FnOk Try.prog 14 Try.f14 ac_hread [.cn 2 38, .t 3] 1 drawD := ⟨Try.func14, by decide +kernel, by kernel_rfl, by kernel_rfl, by decide +kernel⟩
theorem nextF_ok {b : Int} {tb : Nat → Int} {n : Nat} {sz : Int} {r : Rev} (h : nextF b tb n sz r = 0) : oneF r = 0 ∧ n < 64 := by
  unfold nextF at h
  by_cases h1 : oneF r ≠ 0
  · rw [if_pos h1] at h; exact absurd h h1
  · rw [if_neg h1] at h
    refine ⟨Decidable.of_not_not h1, ?_⟩
    split at h
    · exact absurd h (by decide)
    · split at h
      · exact absurd h (by decide)
      · omega
structure YRd (fs : List Frame) (L0 : LogD) (now0 : List UInt8) where
  k : Int
  pre : List Frame
  rest : List Frame
  L : LogD
  now : List UInt8
  ba : Option Nat
  n : Nat
  rows : List (List V)
  gn : Int
  b : Int
  gd : Int
  tx : List UInt8
  fs' : Nat → Int
  tb : Nat → Int
  wh : Bool
  hd : fs = pre ++ rest
  hk : k = (pre.length : Int)
  hall : allL fs L0 now0 = allL rest L now
  hn : n = L.revs.length
  hrows : rows = L.revs.map encRev
  hb0 : L.base = L0.base
  hl : L.revs.length ≤ 64
  hg : 0 ≤ L.good ∧ L.good ≤ 4007 * ((pre.length : Int) + 1)
  he : gn = L.gen ∧ b = L.base ∧ gd = L.good ∧ tx = L.text ∧ (∀ j, j < 16 → fs' j = L.first j) ∧ tb = L.table ∧ wh = L.whole
theorem vc_hread (P : Prim) (hP : P = std) (T T1 : CallT) (s : List UInt8) (Fs : List Frame) (hfs : ∀ f ∈ Fs, f.body.length ≤ 4000) (hfl : Fs.length ≤ 1048576) (frs : List (List V)) (hfrs : frs = frRows Fs) (fn : Int)
    (h1 : Ans T 43 [.str s] (.tup [.sl false 2 frs, .int .i64 fn])) (hg hb : List UInt8 → Int) (ht : List UInt8 → List UInt8) (hf : List UInt8 → Nat → Int) (ho : List UInt8 → Bool)
    (h2 : ∀ x, x.length ≤ 4000 → Ans T 44 [.str x] (.tup [.agg [.int .i64 (hg x), .int .i64 (hb x), .str (ht x), .int .i64 (hf x 0), .int .i64 (hf x 1), .int .i64 (hf x 2), .int .i64 (hf x 3), .int .i64 (hf x 4), .int .i64 (hf x 5), .int .i64 (hf x 6), .int .i64 (hf x 7), .int .i64 (hf x 8), .int .i64 (hf x 9), .int .i64 (hf x 10), .int .i64 (hf x 11), .int .i64 (hf x 12), .int .i64 (hf x 13), .int .i64 (hf x 14), .int .i64 (hf x 15), .int .i64 (hf x 0), .int .i64 (hf x 1), .int .i64 (hf x 2), .int .i64 (hf x 3), .int .i64 (hf x 4), .int .i64 (hf x 5), .int .i64 (hf x 6), .int .i64 (hf x 7), .int .i64 (hf x 8), .int .i64 (hf x 9), .int .i64 (hf x 10), .int .i64 (hf x 11), .int .i64 (hf x 12), .int .i64 (hf x 13), .int .i64 (hf x 14), .int .i64 (hf x 15), .nilsl, .bool false, .int .i64 0], .bool (ho x)])) (hbb : ∀ x, 0 ≤ hb x ∧ hb x ≤ 2147483647)
    (rw rq : List UInt8 → Int) (rd : List UInt8 → List (List V)) (ro : List UInt8 → Bool) (h3 : ∀ x, x.length ≤ 4000 → Ans T 45 [.str x] (.tup [.agg [.int .i64 (rw x), .int .i64 (rq x), .sl false 3 (rd x)], .bool (ro x)]))
    (hrv : ∀ x, rw x = (revB x).who ∧ rq x = (revB x).seq ∧ rd x = (revB x).delta.map encPart ∧ ro x = revOk x)
    (nx : Int → (Nat → Int) → Nat → Int → Rev → Int) (h4 : NxC T 46 nx) (hnx : ∀ b tb n sz r, nx b tb n sz r = nextF b tb n sz r)
    (dt : List UInt8 → List UInt8 → List UInt8) (de : List UInt8 → List UInt8 → Int) (h5 : ∀ x now, Ans T 40 [.sl false 3 (rd x), .str now] (.tup [.str (dt x now), .int .i64 (de x now)])) (hdt : ∀ x now, dt x now = (doF (revB x).delta now).1)
    (h6 : AddC T) (rl : LogD) (re : Int) (hr : readG hg hb ht hf ho Fs = (rl, re))
    (R : S → Prop) (hR : RetLog [.cn 2 38, .t 3] rl re R) : awp P T T1 ac_hread (S0 [.str s] Hp.emp) R (fun _ _ => False) R := by
  have hl1 : P.rlen frs = (Fs.length : Int) := by rw [rlen_eq hP, hfrs]; simp [frRows]
  have z0 : P.leP 0 0 := le0 hP (by decide)
  cbv
  intro β2
  cbv
  refine h1 _ _ ?_
  cbv
  rcases Fs with _ | ⟨⟨k0, b0⟩, fs⟩
  · have e0 : P.rlen frs = 0 := by rw [hl1]; rfl
    simp only [readG, Prod.mk.injEq] at hr
    refine br_tt (eq_T hP e0) ?_
    cbv
    repeat' (first
      | (refine And.intro (by first | assumption | decide) ?_; try cbv)
      | (intro β9; try cbv))
    exact hR _ _ _ _ _ _ (fun _ => 0) (fun _ => 0) _ _ [] _ (Ent.refl _) ⟨rfl, rfl, Nat.zero_lt_succ 0, Nat.le_refl 38, rfl⟩ (.inl ⟨rfl, rfl⟩) ⟨by rw [← hr.1]; rfl, by rw [← hr.1]; rfl, by rw [← hr.1]; rfl, by rw [← hr.1]; rfl, fun _ _ => by rw [← hr.1]; rfl, fun _ _ => by rw [← hr.1]; rfl, by rw [← hr.1]; rfl, by rw [← hr.1]; rfl, hr.2⟩
  have e0 : ¬ P.rlen frs = 0 := by rw [hl1]; simp only [List.length_cons]; ((try simp only [nc] at *); omega)
  have row0 : P.row frs (P.nat 0) [.int .i64 k0, .str b0] := row_of hP (i := 0) rfl (by rw [hfrs]; rfl)
  have c2 := h2 b0 (hfs ⟨k0, b0⟩ (by simp))
  simp only [readG] at hr
  obtain ⟨L0, hL0⟩ : ∃ L, L = headG (hg b0) (hb b0) (ht b0) (hf b0) ((b0.length : Int) + 7) := ⟨_, rfl⟩
  have l01 : hg b0 = L0.gen := by rw [hL0]; rfl
  have l02 : hb b0 = L0.base := by rw [hL0]; rfl
  have l03 : ht b0 = L0.text := by rw [hL0]; rfl
  have l04 : ∀ j, hf b0 j = L0.first j := fun j => by rw [hL0]; rfl
  have l05 : hf b0 = L0.table := by rw [hL0]; rfl
  have l06 : L0.revs = [] := by rw [hL0]; rfl
  have l07 : false = L0.whole := by rw [hL0]; rfl
  have l08 : L0.good = (b0.length : Int) + 7 := by rw [hL0]; rfl
  have l09 : 0 ≤ L0.base ∧ L0.base ≤ 2147483647 := by rw [hL0]; exact hbb b0
  rw [← hL0] at hr
  clear hL0
  refine br_ff (eq_F hP e0) ?_
  cbv
  repeat' (first
    | (refine And.intro (by first | assumption | decide) ?_; try cbv)
    | (intro β9; try cbv))
  refine ⟨_, row0, ?_⟩
  cbv
  repeat' (first
    | (refine And.intro (by first | assumption | decide) ?_; try cbv)
    | (intro β9; try cbv))
  refine c2 _ _ ?_
  cbv
  intro β6
  cbv
  repeat' (first
    | (refine And.intro (by first | assumption | decide) ?_; try cbv)
    | (intro β9; try cbv))
  refine ⟨_, row0, ?_⟩
  cbv
  clear c2 h2
  have bad : (k0 ≠ 1 ∨ ho b0 = false) → zeroL = rl ∧ 3 = re := fun h => by
    rw [if_pos h] at hr; simpa using hr
  refine br_cases (fun g => ?_) (fun g => ?_)
  · obtain ⟨r1, r2⟩ := bad (.inl (ne_t hP g))
    cbv
    repeat' (first
      | (refine And.intro (by first | assumption | decide) ?_; try cbv)
      | (intro β9; try cbv))
    exact hR _ _ _ _ _ _ (fun _ => 0) (fun _ => 0) _ _ [] _ (Ent.refl _) ⟨rfl, rfl, Nat.zero_lt_succ 0, Nat.le_refl 38, rfl⟩ (.inl ⟨rfl, rfl⟩) ⟨by rw [← r1]; rfl, by rw [← r1]; rfl, by rw [← r1]; rfl, by rw [← r1]; rfl, fun _ _ => by rw [← r1]; rfl, fun _ _ => by rw [← r1]; rfl, by rw [← r1]; rfl, by rw [← r1]; rfl, r2⟩
  have hk1 : k0 = 1 := ne_f hP g
  cbv
  refine br_cases (fun g => ?_) (fun g => ?_)
  rotate_left
  · obtain ⟨r1, r2⟩ := bad (.inr g)
    cbv
    repeat' (first
      | (refine And.intro (by first | assumption | decide) ?_; try cbv)
      | (intro β9; try cbv))
    exact hR _ _ _ _ _ _ (fun _ => 0) (fun _ => 0) _ _ [] _ (Ent.refl _) ⟨rfl, rfl, Nat.zero_lt_succ 0, Nat.le_refl 38, rfl⟩ (.inl ⟨rfl, rfl⟩) ⟨by rw [← r1]; rfl, by rw [← r1]; rfl, by rw [← r1]; rfl, by rw [← r1]; rfl, fun _ _ => by rw [← r1]; rfl, fun _ _ => by rw [← r1]; rfl, by rw [← r1]; rfl, by rw [← r1]; rfl, r2⟩
  rw [if_neg (by rw [g]; simp [hk1])] at hr
  simp only [Prod.mk.injEq] at hr
  obtain ⟨hrl, hre⟩ := hr
  have hb4 : b0.length ≤ 4000 := hfs ⟨k0, b0⟩ (by simp)
  have g1 : P.add (P.slen b0) 7 = (b0.length : Int) + 7 := by rw [add_eq hP, slen_eq hP]
  have g2 : P.i64 (P.add (P.slen b0) 7) := by rw [g1]; exact i64I hP (by ((try simp only [nc] at *); omega))
  have z1 : P.leP 0 1 := le0 hP (by decide)
  have z2 : P.leP 1 (P.rlen frs) := leI hP (by rw [hl1]; simp only [List.length_cons]; ((try simp only [nc] at *); omega))
  have z3 : P.leP (P.rlen frs) (P.rlen frs) := leI hP (Int.le_refl _)
  have esub : P.rsub frs 1 (P.rlen frs) = frRows fs := by
    rw [hl1, hfrs]; subst hP
    show ((frRows (⟨k0, b0⟩ :: fs)).take ((((⟨k0, b0⟩ : Frame) :: fs).length : Int)).toNat).drop 1 = _
    rw [Int.toNat_natCast, List.take_of_length_le (by simp [frRows])]; rfl
  obtain ⟨fr2, hfr2⟩ : ∃ fr2, fr2 = P.rsub frs 1 (P.rlen frs) := ⟨_, rfl⟩
  have hl2 : P.rlen fr2 = (fs.length : Int) := by rw [rlen_eq hP, hfr2, esub]; simp [frRows]
  clear bad g
  cbv
  repeat' (first
    | (refine And.intro (by first | assumption | decide) ?_; try cbv)
    | (intro β9; try cbv))
  refine ⟨_, row0, ?_⟩
  cbv
  repeat' (first
    | (refine And.intro (by first | assumption | decide) ?_; try cbv)
    | (intro β9; try cbv))
  clear row0 e0 hl1 z2 z3 g2 z1
  rw [← hfr2]
  refine ⟨YRd fs L0 (ht b0), fun y => [(2, .ptr 2 (some β2) 38 0 0), (6, .ptr 6 (some β6) 38 0 0), (8, .str y.now), (50, .sl false 2 fr2), (51, .int .i64 (P.rlen fr2)), (52, .int .i64 y.k)],
    fun y => [(2, ⟨some β2, 37, 38, [[.int .i64 0, .int .i64 0, .str [], .int .i64 0, .int .i64 0, .int .i64 0, .int .i64 0, .int .i64 0, .int .i64 0, .int .i64 0, .int .i64 0, .int .i64 0, .int .i64 0, .int .i64 0, .int .i64 0, .int .i64 0, .int .i64 0, .int .i64 0, .int .i64 0, .int .i64 0, .int .i64 0, .int .i64 0, .int .i64 0, .int .i64 0, .int .i64 0, .int .i64 0, .int .i64 0, .int .i64 0, .int .i64 0, .int .i64 0, .int .i64 0, .int .i64 0, .int .i64 0, .int .i64 0, .int .i64 0, .nilsl, .bool false, .int .i64 0]]⟩), (6, ⟨some β6, 37, 38, [[.int .i64 y.gn, .int .i64 y.b, .str y.tx, .int .i64 (y.fs' 0), .int .i64 (y.fs' 1), .int .i64 (y.fs' 2), .int .i64 (y.fs' 3), .int .i64 (y.fs' 4), .int .i64 (y.fs' 5), .int .i64 (y.fs' 6), .int .i64 (y.fs' 7), .int .i64 (y.fs' 8), .int .i64 (y.fs' 9), .int .i64 (y.fs' 10), .int .i64 (y.fs' 11), .int .i64 (y.fs' 12), .int .i64 (y.fs' 13), .int .i64 (y.fs' 14), .int .i64 (y.fs' 15), .int .i64 (y.tb 0), .int .i64 (y.tb 1), .int .i64 (y.tb 2), .int .i64 (y.tb 3), .int .i64 (y.tb 4), .int .i64 (y.tb 5), .int .i64 (y.tb 6), .int .i64 (y.tb 7), .int .i64 (y.tb 8), .int .i64 (y.tb 9), .int .i64 (y.tb 10), .int .i64 (y.tb 11), .int .i64 (y.tb 12), .int .i64 (y.tb 13), .int .i64 (y.tb 14), .int .i64 (y.tb 15), .own 1000999 y.ba 3 y.n, .bool y.wh, .int .i64 y.gd]]⟩), (1000999, ⟨y.ba, 98, 3, y.rows⟩)], fun y => y.rest.length,
    ⟨_, Ent.nilcell (k := 6) (k' := 1000999) (ty := 98) (sz := 3) (r := 0) (c := 35) rfl rfl rfl rfl, ⟨0, [], fs, L0, ht b0, none, 0, [], hg b0, hb b0, P.add (P.slen b0) 7, ht b0, hf b0, hf b0, false, rfl, rfl, rfl, by rw [l06]; rfl, by rw [l06]; rfl, rfl, by rw [l06]; exact Nat.zero_le _, ⟨by rw [l08]; exact Int.add_nonneg (Int.natCast_nonneg _) (by decide), by rw [l08]; show (b0.length : Int) + 7 ≤ 4007 * (0 + 1); ((try simp only [nc] at *); omega)⟩, ⟨l01, l02, by rw [g1, l08], l03, fun j _ => l04 j, l05, l07⟩⟩, ⟨rfl, rfl, rfl, rfl, rfl, rfl, trivial⟩, ⟨rfl, rfl, rfl, trivial⟩⟩, ?_⟩
  rintro ⟨k, pre, rest, L, now, ba, n, rows, gn, b, gd, tx, fs', tb, wh, hd, hk, hall, hn, hrows, hb0, hlen, hgd, he⟩
  rw [hrl] at hall
  replace hk : k = (pre.length : Int) := hk
  have hlp : pre.length + rest.length = fs.length := by rw [hd]; simp
  simp only [List.length_cons] at hfl
  obtain ⟨he1, he2, he3, he4, he5, he6, he7⟩ := he
  have hnl : n = rows.length := by rw [hn, hrows]; simp
  have hbase : 0 ≤ b ∧ b ≤ 2147483647 := by rw [he2, hb0]; exact l09
  have fin : rl = L → gn = rl.gen ∧ b = rl.base ∧ gd = rl.good ∧ tx = rl.text ∧ (∀ j, j < 16 → fs' j = rl.first j) ∧ (∀ j, j < 16 → tb j = rl.table j) ∧ wh = rl.whole ∧ rows = rl.revs.map encRev ∧ (0 : Int) = re := fun h => by
    rw [h]; exact ⟨he1, he2, he3, he4, he5, fun j _ => by rw [he6], he7, hrows, hre⟩
  cbv
  refine br_cases (fun g => ?_) (fun g => ?_)
  rotate_left
  · have h6' : ¬ k < P.rlen fr2 := lt_f hP g
    rw [hl2] at h6'
    rcases rest with _ | ⟨y, rest⟩
    rotate_left
    · exfalso; simp at hlp; ((try simp only [nc] at *); omega)
    cbv
    repeat' (first
      | (refine And.intro (by first | assumption | decide) ?_; try cbv)
      | (intro β9; try cbv))
    exact hR _ _ _ _ _ _ _ _ _ _ _ _ (Ent.refl _) ⟨rfl, rfl, Nat.zero_lt_succ 0, Nat.le_refl 38, rfl⟩ (.inr ⟨1000999, ba, _, n, rfl, rfl, hnl⟩) (fin hall)
  have h6' : k < P.rlen fr2 := lt_t hP g
  rw [hl2] at h6'
  rcases rest with _ | ⟨⟨kd, bd⟩, rest⟩
  · exfalso; simp at hlp; ((try simp only [nc] at *); omega)
  have hbd : bd.length ≤ 4000 := hfs ⟨kd, bd⟩ (by rw [hd]; simp)
  have row1 : P.row fr2 (P.nat k) [.int .i64 kd, .str bd] := row_of hP hk (by rw [hfr2, esub, frRows, List.getElem?_map, hd]; simp [encFrame])
  have q1 : P.leP 0 k := le0 hP (by ((try simp only [nc] at *); omega))
  have q2 : P.i64 (P.add k 1) := by rw [add_eq hP]; exact i64I hP (by ((try simp only [nc] at *); omega))
  have q3 : P.add k 1 = (((pre ++ [(⟨kd, bd⟩ : Frame)]).length : Nat) : Int) := by rw [add_eq hP, hk]; simp
  have d1 : P.add (P.slen bd) 7 = (bd.length : Int) + 7 := by rw [add_eq hP, slen_eq hP]
  have d2 : P.i64 (P.add (P.slen bd) 7) := by rw [d1]; exact i64I hP (by ((try simp only [nc] at *); omega))
  have d3 : P.add gd (P.add (P.slen bd) 7) = L.good + ((bd.length : Int) + 7) := by rw [add_eq hP gd, d1, he3]
  have d4 : P.i64 (P.add gd (P.add (P.slen bd) 7)) := by rw [d3]; exact i64I hP (by ((try simp only [nc] at *); omega))
  have d5 : 0 ≤ L.good + ((bd.length : Int) + 7) ∧ L.good + ((bd.length : Int) + 7) ≤ 4007 * (((pre ++ [(⟨kd, bd⟩ : Frame)]).length : Int) + 1) := by rw [List.length_append]; simp only [List.length_cons, List.length_nil]; ((try simp only [nc] at *); omega)
  rw [allL] at hall
  unfold stepL at hall
  simp only [] at hall
  clear g
  cbv
  repeat' (first
    | (refine And.intro (by first | assumption | decide) ?_; try cbv)
    | (intro β9; try cbv))
  refine ⟨_, row1, ?_⟩
  cbv
  intro β10
  cbv
  repeat' (first
    | (refine And.intro (by first | assumption | decide) ?_; try cbv)
    | (intro β9; try cbv))
  clear row1
  refine br_cases (fun g => ?_) (fun g => ?_)
  · have hk3 : kd = 3 := eq_t hP g
    rw [if_pos hk3] at hall
    cbv
    rcases wh with _ | _
    rotate_left
    · rw [if_pos (.inl he7.symm)] at hall
      cbv
      repeat' (first
        | (refine And.intro (by first | assumption | decide) ?_; try cbv)
        | (intro β9; try cbv))
      exact hR _ _ _ _ _ _ _ _ _ _ _ _ (Ent.refl _) ⟨rfl, rfl, Nat.zero_lt_succ 0, Nat.le_refl 38, rfl⟩ (.inr ⟨1000999, ba, _, n, rfl, rfl, hnl⟩) (fin hall)
    · cbv
      repeat' (first
        | (refine And.intro (by first | assumption | decide) ?_; try cbv)
        | (intro β9; try cbv))
      refine br_cases (fun g => ?_) (fun g => ?_)
      · rw [if_pos (.inr (sne_t hP g))] at hall
        cbv
        repeat' (first
          | (refine And.intro (by first | assumption | decide) ?_; try cbv)
          | (intro β9; try cbv))
        exact hR _ _ _ _ _ _ _ _ _ _ _ _ (Ent.refl _) ⟨rfl, rfl, Nat.zero_lt_succ 0, Nat.le_refl 38, rfl⟩ (.inr ⟨1000999, ba, _, n, rfl, rfl, hnl⟩) (fin hall)
      · rw [if_neg (by rintro (h | h); rw [← he7] at h; cases h; exact h (sne_f hP g))] at hall
        cbv
        repeat' (first
          | (refine And.intro (by first | assumption | decide) ?_; try cbv)
          | (intro β9; try cbv))
        exact ⟨_, Ent.refl _, ⟨_, pre ++ [⟨kd, bd⟩], rest, ⟨L.gen, L.base, L.text, L.first, L.table, L.revs, true, L.good + ((bd.length : Int) + 7)⟩, now, ba, n, rows, gn, b, P.add gd (P.add (P.slen bd) 7), tx, fs', tb, true, by simp [hd], q3, hrl.trans hall, hn, hrows, hb0, hlen, d5, ⟨he1, he2, d3, he4, he5, he6, rfl⟩⟩, ⟨rfl, rfl, rfl, rfl, rfl, rfl, trivial⟩, ⟨rfl, rfl, rfl, trivial⟩, by simp⟩
  have hk3 : ¬ kd = 3 := eq_f hP g
  rw [if_neg hk3] at hall
  cbv
  refine br_cases (fun g => ?_) (fun g => ?_)
  rotate_left
  · have hk2 : ¬ kd = 2 := eq_f hP g
    rw [if_neg hk2] at hall
    cbv
    repeat' (first
      | (refine And.intro (by first | assumption | decide) ?_; try cbv)
      | (intro β9; try cbv))
    exact hR _ _ _ _ _ _ _ _ _ _ _ _ (Ent.refl _) ⟨rfl, rfl, Nat.zero_lt_succ 0, Nat.le_refl 38, rfl⟩ (.inr ⟨1000999, ba, _, n, rfl, rfl, hnl⟩) (fin hall)
  have hk2 : kd = 2 := eq_t hP g
  rw [if_pos hk2] at hall
  obtain ⟨rv, hrvd⟩ : ∃ rv, rv = revB bd := ⟨_, rfl⟩
  have c3 := h3 bd hbd
  obtain ⟨w1, w2, w3, w4⟩ := hrv bd
  have w5 := hdt bd now
  have w6 := h5 bd now
  rw [← hrvd] at w1 w2 w3 w5 hall
  rw [← w4] at hall
  rw [← w5] at hall
  have hpo : PartsOk rv.delta := by rw [hrvd]; exact readF_ok _
  have hwho : oneF rv = 0 → 0 ≤ rv.who ∧ rv.who ≤ 7 := fun h => ⟨(one_who h).1, (one_who h).2.1⟩
  clear h3 hrv hdt h5 g
  generalize ro bd = okb at c3 hall w4
  generalize rd bd = dr at c3 w3 w6
  generalize rw bd = wd at c3 w1
  generalize rq bd = qd at c3 w2
  generalize dt bd now = now2 at w6 hall
  generalize de bd now = e6 at w6
  cbv
  refine c3 _ _ ?_
  cbv
  intro β11
  cbv
  repeat' (first
    | (refine And.intro (by first | assumption | decide) ?_; try cbv)
    | (intro β9; try cbv))
  rcases okb with _ | _
  · rw [if_neg (by rintro ⟨h, _⟩; cases h)] at hall
    cbv
    repeat' (first
      | (refine And.intro (by first | assumption | decide) ?_; try cbv)
      | (intro β9; try cbv))
    exact hR _ _ _ _ _ _ _ _ _ _ _ _ (Ent.refl _) ⟨rfl, rfl, Nat.zero_lt_succ 0, Nat.le_refl 38, rfl⟩ (.inr ⟨1000999, ba, _, n, rfl, rfl, hnl⟩) (fin hall)
  have hnxe : nx b tb L.revs.length (P.slen now) rv = nextF L.base L.table L.revs.length now.length rv := by rw [hnx, he2, he6, slen_eq hP]
  have d6 : (bd.length : Int) + 7 = (bd.length : Int) + 7 := rfl
  cbv
  repeat' (first
    | (refine And.intro (by first | assumption | decide) ?_; try cbv)
    | (intro β9; try cbv))
  refine h4 1000999 ba n rows gn b gd (P.slen now) wd qd tx fs' tb wh L.revs dr rv _ _ hrows hn ⟨w1, w2, w3⟩ hpo hbase rfl ?_
  generalize nx b tb L.revs.length (P.slen now) rv = e0 at hnxe ⊢
  cbv
  repeat' (first
    | (refine And.intro (by first | assumption | decide) ?_; try cbv)
    | (intro β9; try cbv))
  refine br_cases (fun g => ?_) (fun g => ?_)
  · have hx := ne_t hP g
    rw [hnxe] at hx
    rw [if_neg (by rintro ⟨_, h⟩; exact hx h)] at hall
    cbv
    repeat' (first
      | (refine And.intro (by first | assumption | decide) ?_; try cbv)
      | (intro β9; try cbv))
    exact hR _ _ _ _ _ _ _ _ _ _ _ _ (Ent.refl _) ⟨rfl, rfl, Nat.zero_lt_succ 0, Nat.le_refl 38, rfl⟩ (.inr ⟨1000999, ba, _, n, rfl, rfl, hnl⟩) (fin hall)
  have hx := ne_f hP g
  rw [hnxe] at hx
  rw [if_pos ⟨rfl, hx⟩] at hall
  obtain ⟨x1, x2⟩ := nextF_ok hx
  cbv
  repeat' (first
    | (refine And.intro (by first | assumption | decide) ?_; try cbv)
    | (intro β9; try cbv))
  refine w6 _ _ ?_
  cbv
  repeat' (first
    | (refine And.intro (by first | assumption | decide) ?_; try cbv)
    | (intro β9; try cbv))
  refine h6 6 1000999 β6 ba gn b gd tx fs' tb wh n rows L.revs wd qd dr rv _ _ hrows hn (by omega) ⟨w1, w2, w3⟩ (hwho x1) hbase rfl rfl rfl fun ba' tb' n' rows' t1 t2 t3 => ?_
  cbv
  repeat' (first
    | (refine And.intro (by first | assumption | decide) ?_; try cbv)
    | (intro β9; try cbv))
  exact ⟨_, Ent.refl _, ⟨_, pre ++ [⟨kd, bd⟩], rest, ⟨L.gen, L.base, L.text, L.first, addTb L.table rv.who.toNat rv.seq (L.base + (L.revs.length : Int) + 1), L.revs ++ [rv], L.whole, L.good + ((bd.length : Int) + 7)⟩, now2, ba', n', rows', gn, b, P.add gd (P.add (P.slen bd) 7), tx, fs', tb', wh, by simp [hd], q3, hrl.trans hall, by rw [t2]; simp, t3, hb0, by show (L.revs ++ [rv]).length ≤ 64; simp; omega, d5, ⟨he1, he2, d3, he4, he5, by rw [t1, he6, he2], he7⟩⟩, ⟨rfl, rfl, rfl, rfl, rfl, rfl, trivial⟩, ⟨rfl, rfl, rfl, trivial⟩, by simp⟩
end Go.Proofs.Ytcdldpjmdelebaa.AM
