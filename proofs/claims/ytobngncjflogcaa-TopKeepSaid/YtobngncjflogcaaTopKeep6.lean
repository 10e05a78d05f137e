/-
  Texts of the plain machine, put together: what the law TopKeep reaches.
-/
import Derived.Test.YtobngncjflogcaaTopKeep5
import Derived.WalkKit
import Derived.Lib.Strings
import Derived.Laws.Bits128
import Derived.Laws.BitsAllLaws
import Derived.Test.YtobngncjflogcaaRows
import Derived.WalkSpells
import Derived.WalkLawsBesides
import Derived.Lib.Hide
import Derived.Laws.IdiomStrings
import Derived.Deep.RegionWith
import Derived.BigQuiet
import Derived.Test.YtobngncjflogcaaTopKeep4
namespace Go
def World.ob (w : World) (g : Nat) (T : TypeId) (cs : Array Value) : World := { w with heap := w.heap.setIfInBounds g (.cells cs T (0, 0)) }
end Go
set_option linter.unusedVariables false
set_option linter.unusedSimpArgs false
namespace Go.Proofs.Ytobngncjflogcaa.AM
open Go
set_option maxRecDepth 100000
set_option maxHeartbeats 2000000
def oneF (r : Rev) : Int := if r.who < 0 ∨ 7 < r.who ∨ r.seq < 0 ∨ 2147483647 < r.seq then 1 else checkF r.delta
def goT (cur : List UInt8) : List Rev → List (List UInt8) × Int
  | [] => ([], 0)
  | r :: l => if oneF r ≠ 0 then ([], oneF r) else if (doF r.delta cur).2 ≠ 0 then ([], (doF r.delta cur).2) else ((doF r.delta cur).1 :: (goT (doF r.delta cur).1 l).1, (goT (doF r.delta cur).1 l).2)
def textsF (base : List UInt8) (l : List Rev) : List (List UInt8) × Int := if 500 < base.length ∨ 64 < l.length then ([], 2) else if (goT base l).2 ≠ 0 then ([], (goT base l).2) else (base :: (goT base l).1, 0)
theorem goT_len : ∀ (l : List Rev) (cur : List UInt8), (goT cur l).2 = 0 → (goT cur l).1.length = l.length
  | [], _, _ => rfl
  | r :: l, cur, h => by
    unfold goT at h ⊢
    split at h
    · contradiction
    · rename_i h1
      rw [if_neg h1]
      split at h
      · contradiction
      · rename_i h2
        rw [if_neg h2]
        simp only [List.length_cons]
        rw [goT_len l _ h]
theorem textsF_ok {base : List UInt8} {l : List Rev} (h : (textsF base l).2 = 0) : base.length ≤ 500 ∧ l.length ≤ 64 ∧ (goT base l).2 = 0 ∧ (textsF base l).1 = base :: (goT base l).1 ∧ (textsF base l).1.length = l.length + 1 := by
  unfold textsF at h ⊢
  split at h
  · contradiction
  · rename_i h1
    rw [if_neg h1]
    split at h
    · contradiction
    · rename_i h2
      rw [if_neg h2]
      have h3 : (goT base l).2 = 0 := Decidable.of_not_not h2
      exact ⟨by omega, by omega, h3, rfl, by simp [goT_len l base h3]⟩

def ac_one : AC := .seq (.region false [
    ⟨some 1, none, .box 45 3 (.t 0)⟩,
    ⟨some 2, none, .mov (.c (.int .i64 0))⟩])
  (.seq (.seq (.region false [
    ⟨some 3, none, .faddr 0 (.t 1)⟩,
    ⟨some 4, none, .load1 (.t 3)⟩,
    ⟨some 5, none, .bin .lss (.t 4) (.c (.int .i64 0))⟩,
    ⟨some 6, none, .mov (.t 5)⟩,
    ⟨some 7, some (6, false), .faddr 0 (.t 1)⟩,
    ⟨some 8, some (6, false), .load1 (.t 7)⟩,
    ⟨some 9, some (6, false), .bin .gtr (.t 8) (.c (.int .i64 7))⟩,
    ⟨some 10, none, .pick (.t 6) (.c (.bool true)) (.t 9)⟩,
    ⟨some 11, none, .mov (.t 10)⟩,
    ⟨some 12, some (11, false), .faddr 1 (.t 1)⟩,
    ⟨some 13, some (11, false), .load1 (.t 12)⟩,
    ⟨some 14, some (11, false), .bin .lss (.t 13) (.c (.int .i64 0))⟩,
    ⟨some 15, none, .pick (.t 11) (.c (.bool true)) (.t 14)⟩,
    ⟨some 16, none, .mov (.t 15)⟩,
    ⟨some 17, some (16, false), .faddr 1 (.t 1)⟩,
    ⟨some 18, some (16, false), .load1 (.t 17)⟩,
    ⟨some 19, some (16, false), .bin .gtr (.t 18) (.c (.int .i64 2147483647))⟩,
    ⟨some 20, none, .pick (.t 16) (.c (.bool true)) (.t 19)⟩])
  (.cond (.t 20)
    (.seq (.region false [
      ⟨some 2, none, .mov (.c (.int .i64 1))⟩])
    (.ret))
    (.skip)))
  (.seq (.region false [
    ⟨some 21, none, .faddr 2 (.t 1)⟩,
    ⟨some 22, none, .load1 (.t 21)⟩,
    ⟨some 23, none, .call 89 [(.t 22)]⟩,
    ⟨some 2, none, .mov (.t 23)⟩])
  (.ret)))
theorem ok_one : FnOk Try.prog 90 Try.f90 ac_one [.t 2] 1 drawD := ⟨Try.func90, by decide +kernel, by kernel_rfl, by kernel_rfl, by decide +kernel⟩
theorem vc_one (P : Prim) (hP : P = std) (T T1 : CallT) (tf : Bool) (w q : Int) (dr : List (List V)) (c r : Int) (hc1 : Ans T 89 [.sl tf 3 dr] (.int .i64 c)) (hr : (if w < 0 ∨ 7 < w ∨ q < 0 ∨ 2147483647 < q then 1 else c) = r)
    (R : S → Prop) (hR : ∀ s s' x, x = r → Ent s s' → Ret [.t 2] [.int .i64 x] s' → R s) : awp P T T1 ac_one (S0 [.agg [.int .i64 w, .int .i64 q, .sl tf 3 dr]] Hp.emp) R (fun _ _ => False) R := by
  cbv
  repeat' (first | (intro β; try cbv) | (refine And.intro (by assumption) ?_; try cbv) | (refine br_cases (fun h => ?_) (fun h => ?_) <;> try cbv) | (refine Exists.intro _ (And.intro (by assumption) ?_); try cbv) | (refine hc1 _ _ ?_; try cbv) | (refine hc2 _ _ ?_; try cbv) | (refine hc3 _ _ ?_; try cbv) | (refine hc4 _ _ ?_; try cbv) | (refine hc5 _ _ ?_; try cbv) | (refine hc6 _ _ ?_; try cbv) | (refine And.intro (by (clear hR; subst hP; simp [std, I64, nc] at * <;> first | omega | grind)) ?_; try cbv))
  all_goals
    refine hR _ _ _ ?_ (Ent.refl _) rfl
    clear hR hc1; subst hP; simp [std] at *; first | omega | grind
theorem sp_one (r : Rev) (hr : PartsOk r.delta) : Spec Try.prog 90 [.agg (encRev r)] Hp.emp (Is (.int .i64 (oneF r))) :=
  spec_pure dOk ok_one [.int .i64 (oneF r)] (.int _ _) fun R hR => vc_one std rfl _ _ false r.who r.seq (r.delta.map encPart) (checkF r.delta) (oneF r) (ansL (sp_check r.delta hr.1) rfl) rfl R fun s s' x h he hq => by subst h; exact hR s s' he hq
def encRevT (r : Rev) : List V := [.int .i64 r.who, .int .i64 r.seq, .sl true 3 (r.delta.map encPart)]
theorem sp_oneT (r : Rev) (hr : PartsOk r.delta) : Spec Try.prog 90 [.agg (encRevT r)] Hp.emp (Is (.int .i64 (oneF r))) :=
  spec_pure dOk ok_one [.int .i64 (oneF r)] (.int _ _) fun R hR => vc_one std rfl _ _ true r.who r.seq (r.delta.map encPart) (checkF r.delta) (oneF r) (ansW (sp_check r.delta hr.1) (fun _ => .cons (.same _) .nil) rfl) rfl R fun s s' x h he hq => by subst h; exact hR s s' he hq

structure YTx (base : List UInt8) (l : List Rev) where
  k : Int
  pre : List Rev
  rest : List Rev
  acc : List (List UInt8)
  cur : List UInt8
  n : Nat
  b : Option Nat
  rows : List (List V)
  hd : l = pre ++ rest
  hk : k = (pre.length : Int)
  hrows : rows = strRows (acc ++ [cur])
  hacc : acc.length = pre.length
  hn : n = pre.length + 1
  h1 : (acc ++ [cur]) ++ (goT cur rest).1 = base :: (goT base l).1
  h2 : (goT cur rest).2 = (goT base l).2
def revRows (eP : List Part → List (List V)) (l : List Rev) : List (List V) := l.map fun r => [.int .i64 r.who, .int .i64 r.seq, .sl false 3 (eP r.delta)]
def ac_texts : AC := .seq (.region false [
    ⟨some 4, none, .mov (.c (.slice none 0 0))⟩,
    ⟨some 5, none, .mov (.c (.int .i64 0))⟩])
  (.seq (.seq (.region false [
    ⟨some 12, none, .mov (.t 0)⟩,
    ⟨some 13, none, .len true (.t 12)⟩,
    ⟨some 14, none, .bin .gtr (.t 13) (.c (.int .i64 500))⟩,
    ⟨some 15, none, .mov (.t 14)⟩,
    ⟨some 16, some (15, false), .mov (.t 1)⟩,
    ⟨some 17, some (15, false), .len false (.t 16)⟩,
    ⟨some 18, some (15, false), .bin .gtr (.t 17) (.c (.int .i64 64))⟩,
    ⟨some 19, none, .pick (.t 15) (.c (.bool true)) (.t 18)⟩])
  (.cond (.t 19)
    (.seq (.region false [
      ⟨some 4, none, .mov (.c (.slice none 0 0))⟩,
      ⟨some 5, none, .mov (.c (.int .i64 2))⟩])
    (.ret))
    (.skip)))
  (.seq (.region false [
    ⟨some 20, none, .mov (.t 0)⟩,
    ⟨some 21, none, .bslice 9 1 [(.t 20)]⟩,
    ⟨some 6, none, .mov (.t 21)⟩])
  (.seq (.seq (.region false [
    ⟨some 22, none, .mov (.t 1)⟩,
    ⟨some 23, none, .len false (.t 22)⟩,
    ⟨some 24, none, .mov (.c (.int .i64 0))⟩])
  (.block 0 (.loop (.seq (.region false [
      ⟨some 25, none, .bin .lss (.t 24) (.t 23)⟩])
    (.seq (.cond (.t 25)
      (.skip)
      (.exit 0))
    (.seq (.block 1 (.seq (.region false [
      ⟨some 26, none, .iaddr 3 (.t 22) (.t 24)⟩,
      ⟨some 27, none, .loadn 3 (.t 26)⟩,
      ⟨some 8, none, .alloc 45 [(.int .i64 0), (.int .i64 0), (.slice none 0 0)]⟩,
      ⟨none, none, .store 3 (.t 8) (.t 27)⟩])
    (.seq (.seq (.region false [
      ⟨some 28, none, .loadn 3 (.t 8)⟩,
      ⟨some 29, none, .call 90 [(.t 28)]⟩,
      ⟨some 9, none, .mov (.t 29)⟩])
    (.seq (.region false [
      ⟨some 30, none, .mov (.t 9)⟩,
      ⟨some 31, none, .bin .neq (.t 30) (.c (.int .i64 0))⟩])
    (.cond (.t 31)
      (.seq (.region false [
        ⟨some 32, none, .mov (.t 9)⟩,
        ⟨some 4, none, .mov (.c (.slice none 0 0))⟩,
        ⟨some 5, none, .mov (.t 32)⟩])
      (.ret))
      (.skip))))
    (.seq (.region true [
      ⟨some 34, none, .faddr 2 (.t 8)⟩,
      ⟨some 35, none, .load1 (.t 34)⟩,
      ⟨some 36, none, .mov (.t 6)⟩,
      ⟨some 37, none, .mov (.t 6)⟩,
      ⟨some 38, none, .len false (.t 37)⟩,
      ⟨some 39, none, .bin .sub (.t 38) (.c (.int .i64 1))⟩,
      ⟨some 40, none, .iaddr 1 (.t 36) (.t 39)⟩,
      ⟨some 41, none, .load1 (.t 40)⟩,
      ⟨some 42, none, .call 16 [(.t 35), (.t 41)]⟩,
      ⟨some 33, none, .mov (.t 42)⟩,
      ⟨some 43, none, .ext 0 (.t 33)⟩,
      ⟨some 44, none, .ext 1 (.t 33)⟩,
      ⟨some 10, none, .mov (.t 43)⟩,
      ⟨some 11, none, .mov (.t 44)⟩])
    (.seq (.seq (.region false [
      ⟨some 45, none, .mov (.t 11)⟩,
      ⟨some 46, none, .bin .neq (.t 45) (.c (.int .i64 0))⟩])
    (.cond (.t 46)
      (.seq (.region false [
        ⟨some 47, none, .mov (.t 11)⟩,
        ⟨some 4, none, .mov (.c (.slice none 0 0))⟩,
        ⟨some 5, none, .mov (.t 47)⟩])
      (.ret))
      (.skip)))
    (.region false [
      ⟨some 48, none, .mov (.t 6)⟩,
      ⟨some 49, none, .mov (.t 10)⟩,
      ⟨some 50, none, .bslice 9 1 [(.t 49)]⟩,
      ⟨some 51, none, .append 9 1 16 (.t 48) (.t 50)⟩,
      ⟨some 6, none, .mov (.t 51)⟩]))))))
    (.region false [
      ⟨some 52, none, .bin .add (.t 24) (.c (.int .i64 1))⟩,
      ⟨some 24, none, .mov (.t 52)⟩])))))))
  (.seq (.region false [
    ⟨some 53, none, .mov (.t 6)⟩,
    ⟨some 4, none, .mov (.t 53)⟩,
    ⟨some 5, none, .mov (.c (.int .i64 0))⟩])
  (.ret)))))
theorem ok_texts : FnOk Try.prog 52 Try.f52 ac_texts [.t 4, .t 5] 2 drawD := ⟨Try.func52, by decide +kernel, by kernel_rfl, by kernel_rfl, by decide +kernel⟩
theorem vc_texts (P : Prim) (hP : P = std) (T T1 : CallT) (base : List UInt8) (l : List Rev) (eP : List Part → List (List V)) (rows : List (List V)) (hrows : rows = revRows eP l)
    (oF : Int → Int → List Part → Int) (hoF : ∀ w q d, oF w q d = oneF ⟨w, q, d⟩) (dS : List Part → List UInt8 → List UInt8) (dE : List Part → List UInt8 → Int) (hdS : ∀ d s, dS d s = (doF d s).1) (hdE : ∀ d s, dE d s = (doF d s).2)
    (hone : ∀ w q d, ⟨w, q, d⟩ ∈ l → Ans T 90 [.agg [.int .i64 w, .int .i64 q, .sl false 3 (eP d)]] (.int .i64 (oF w q d)))
    (hdo : ∀ w q d s, ⟨w, q, d⟩ ∈ l → Ans T1 16 [.sl false 3 (eP d), .str s] (.tup [.str (dS d s), .int .i64 (dE d s)]))
    (t : List (List UInt8)) (e : Int) (ht : textsF base l = (t, e))
    (R : S → Prop) (hR : ∀ x, x = e → RetSl [.t 4, .t 5] 1 (strRows t) [.int .i64 x] R) : awp P T T1 ac_texts (S0 [.str base, .sl true 3 rows] Hp.emp) R (fun _ _ => False) R := by
  have hl1 : P.rlen rows = (l.length : Int) := by rw [rlen_eq hP, hrows]; simp [revRows]
  have hb1 : P.slen base = (base.length : Int) := slen_eq hP base
  have hlong : 500 < base.length ∨ 64 < l.length → t = [] ∧ e = 2 := by
    intro h; unfold textsF at ht; rw [if_pos h] at ht; simp only [Prod.mk.injEq] at ht; exact ⟨ht.1.symm, ht.2.symm⟩
  cbv
  refine br_cases (fun h => ?_) (fun h => ?_)
  · have h3 : 500 < P.slen base := lt_t hP h
    rw [hb1] at h3
    obtain ⟨g1, g2⟩ := hlong (.inl (by ((try simp only [nc] at *); omega)))
    cbv
    exact (hR _ g2.symm).1 _ _ (Ent.refl _) rfl (by rw [g1]; rfl)
  have h3 : ¬ 500 < P.slen base := lt_f hP h
  rw [hb1] at h3
  cbv
  refine br_cases (fun h => ?_) (fun h => ?_)
  · have h4 : 64 < P.rlen rows := lt_t hP h
    rw [hl1] at h4
    obtain ⟨g1, g2⟩ := hlong (.inr (by ((try simp only [nc] at *); omega)))
    cbv
    exact (hR _ g2.symm).1 _ _ (Ent.refl _) rfl (by rw [g1]; rfl)
  have h4 : ¬ 64 < P.rlen rows := lt_f hP h
  rw [hl1] at h4
  have hl64 : l.length ≤ 64 := by ((try simp only [nc] at *); omega)
  have ht2 : t = (if (goT base l).2 ≠ 0 then [] else base :: (goT base l).1) ∧ e = (goT base l).2 := by
    unfold textsF at ht
    rw [if_neg (by ((try simp only [nc] at *); omega))] at ht
    split at ht
    · rename_i h; simp only [Prod.mk.injEq] at ht; rw [if_pos h]; exact ⟨ht.1.symm, ht.2.symm⟩
    · rename_i h; simp only [Prod.mk.injEq] at ht; rw [if_neg h]; exact ⟨ht.1.symm, by omega⟩
  obtain ⟨ht3, ht4⟩ := ht2
  clear hlong ht h
  cbv
  intro β21
  cbv
  refine ⟨YTx base l, fun y => [(6, .own 1000021 y.b 1 y.n), (22, .sl true 3 rows), (23, .int .i64 (P.rlen rows)), (24, .int .i64 y.k)],
    fun y => [(1000021, ⟨y.b, 9, 1, y.rows⟩)], fun y => y.rest.length,
    ⟨_, Ent.refl _, ⟨0, [], l, [], base, _, _, _, rfl, rfl, rfl, rfl, rfl, rfl, rfl⟩, ⟨rfl, rfl, rfl, rfl, trivial⟩, ⟨rfl, trivial⟩⟩, ?_⟩
  rintro ⟨k, pre, rest, acc, cur, n, b, rows2, hd, hk, hrows2, hacc, hn, h1, h2⟩
  have hlp : pre.length + rest.length = l.length := by rw [hd]; simp
  cbv
  refine br_cases (fun h => ?_) (fun h => ?_)
  · have h5 : k < P.rlen rows := lt_t hP h
    rw [hl1] at h5
    rcases rest with _ | ⟨⟨w, q, d⟩, rest⟩
    · exfalso; simp at hlp; ((try simp only [nc] at *); omega)
    have hmem : (⟨w, q, d⟩ : Rev) ∈ l := by rw [hd]; simp
    have c1 := hone w q d hmem
    have c2 := hdo w q d cur hmem
    have hrow : P.row rows (P.nat k) [.int .i64 w, .int .i64 q, .sl false 3 (eP d)] := row_of hP hk (by rw [hrows, revRows, List.getElem?_map, hd]; simp)
    have ho1 : P.leP 0 k := le0 hP (by ((try simp only [nc] at *); omega))
    have ho2 : P.i64 (P.add k 1) := by rw [add_eq hP]; exact i64I hP (by ((try simp only [nc] at *); omega))
    have hin : P.sub (P.int n) 1 = ((pre.length : Nat) : Int) := by rw [sub_eq hP, int_eq hP, hn]; ((try simp only [nc] at *); omega)
    have ho3 : P.i64 (P.sub (P.int n) 1) := by rw [hin]; exact i64I hP (by ((try simp only [nc] at *); omega))
    have ho4 : P.leP 0 (P.sub (P.int n) 1) := le0 hP (by rw [hin]; ((try simp only [nc] at *); omega))
    have ho5 : P.ltP (P.sub (P.int n) 1) (P.int n) := ltI hP (by rw [hin, int_eq hP, hn]; ((try simp only [nc] at *); omega))
    have hrow2 : P.row rows2 (P.nat (P.sub (P.int n) 1)) [.str cur] := row_of hP hin (by rw [hrows2, strRows, List.getElem?_map, ← hacc]; simp)
    have ho6 : P.neP rows2 n := by subst hP; show rows2.length = n; rw [hrows2, hn]; simp [strRows, hacc]
    have ho7 : ∀ r, P.bytes (P.add (P.int n) (P.rlen [r])) 16 := by intro r; subst hP; show ((n : Int) + 1) * 16 ≤ _; ((try simp only [nc] at *); omega)
    have ho8 : ∀ r, P.neP [r] 1 := by intro r; subst hP; rfl
    have hstep : goT cur (⟨w, q, d⟩ :: rest) = if oF w q d ≠ 0 then ([], oF w q d) else if dE d cur ≠ 0 then ([], dE d cur) else (dS d cur :: (goT (dS d cur) rest).1, (goT (dS d cur) rest).2) := by rw [hoF, hdE, hdS]; rfl
    rw [hstep] at h1 h2
    clear hone hdo hstep
    cbv
    refine ⟨ho1, _, hrow, ?_⟩
    cbv
    intro β8
    cbv
    refine c1 _ _ ?_
    cbv
    refine br_cases (fun h => ?_) (fun h => ?_)
    · have hz : oF w q d ≠ 0 := ne_t hP h
      rw [if_pos hz] at h2
      simp only [] at h2
      rw [← h2] at ht3 ht4
      rw [if_pos hz] at ht3
      cbv
      exact (hR _ ht4.symm).1 _ _ (Ent.refl _) rfl (by rw [ht3]; rfl)
    have hz : oF w q d = 0 := ne_f hP h
    rw [if_neg (fun h => h hz)] at h1 h2
    cbv
    refine ⟨ho3, ho4, ho5, _, hrow2, ?_⟩
    cbv
    refine c2 _ _ ?_
    cbv
    refine br_cases (fun h => ?_) (fun h => ?_)
    · have hy : dE d cur ≠ 0 := ne_t hP h
      rw [if_pos hy] at h2
      simp only [] at h2
      rw [← h2] at ht3 ht4
      rw [if_pos hy] at ht3
      cbv
      exact (hR _ ht4.symm).1 _ _ (Ent.refl _) rfl (by rw [ht3]; rfl)
    have hy : dE d cur = 0 := ne_f hP h
    rw [if_neg (fun h => h hy)] at h1 h2
    cbv
    repeat' (first
      | (refine And.intro (by assumption) ?_; try cbv)
      | (refine And.intro (ho8 _) ?_; try cbv)
      | (refine And.intro (ho7 _) ?_; try cbv)
      | (intro β; try cbv))
    refine ⟨_, Ent.refl _, ⟨_, pre ++ [⟨w, q, d⟩], rest, acc ++ [cur], dS d cur, _, _, _, by simp [hd], ?_, ?_, by simp [hacc], ?_, by rw [← h1]; simp, h2⟩, ⟨rfl, rfl, rfl, rfl, trivial⟩, ⟨rfl, trivial⟩, by simp⟩
    · show P.add k 1 = _; rw [add_eq hP, hk]; simp
    · show P.rapp rows2 [[.str (dS d cur)]] = _
      rw [hrows2]; subst hP; simp [std, strRows]
    · show P.nadd n (P.rlenN [_]) = _
      subst hP; simp [std, hn]
  · have h5 : ¬ k < P.rlen rows := lt_f hP h
    rw [hl1] at h5
    rcases rest with _ | ⟨r, rest⟩
    rotate_left
    · exfalso; simp at hlp; ((try simp only [nc] at *); omega)
    have h2' : (goT base l).2 = 0 := by rw [← h2]; rfl
    rw [h2', if_neg (by decide)] at ht3
    rw [h2'] at ht4
    have h1' : acc ++ [cur] = t := by rw [ht3, ← h1]; simp [goT]
    cbv
    exact (hR _ ht4.symm).2.1 _ _ _ _ _ _ _ (Ent.refl _) rfl rfl ⟨by rw [← h1', hn]; simp [strRows, hacc], by rw [← h1', hrows2]⟩
theorem rtx_of {rv : List RV} {t : List (List UInt8)} {e : Int} {R : S → Prop} (hR : ∀ s s', Ent s s' → RetF rv (.tup [.sl false 1 (strRows t), .int .i64 e]) s' → R s) : ∀ x, x = e → RetSl rv 1 (strRows t) [.int .i64 x] R := fun x hx => by
  subst hx
  exact retSl_of (strRows_sz _) (strRows_fz _) (int_fz _) fun s s' he hr => hR s s' he hr
theorem ansPs {f : Nat} {d : List Part} {vs : List V} {v : V} (h : Spec Try.prog f (.sl true 3 (d.map encPart) :: vs) Hp.emp (Is v)) (hv : v.ren (lab []) = v) (hvs : vs.all V.pl = true) : Ans (CallP Try.prog) f (encParts d :: vs) v := ansP h (fun _ => .cons (.weak _ _) (args_plain hvs)) hv
theorem sp_texts (base : List UInt8) (l : List Rev) (hl : RevsOk l) : Spec Try.prog 52 [.str base, .sl true 3 (l.map encRev)] Hp.emp (Is (.tup [.sl false 1 (strRows (textsF base l).1), .int .i64 (textsF base l).2])) :=
  spec_frz dOk ok_texts fun R hR => vc_texts std rfl _ _ base l (fun d => d.map encPart) _ rfl (fun w q d => oneF ⟨w, q, d⟩) (fun _ _ _ => rfl) (fun d s => (doF d s).1) (fun d s => (doF d s).2) (fun _ _ => rfl) (fun _ _ => rfl)
    (fun w q d hm => ansW (sp_one ⟨w, q, d⟩ (hl.2 _ hm).2.2) (fun h => .cons (.same _) .nil) rfl)
    (fun w q d s hm => ansPs (sp_do d (hl.2 _ hm).2.2.1 s) rfl rfl) _ _ rfl R (rtx_of hR)


def textF (base : List UInt8) (l : List Rev) (k : Int) : List UInt8 × Int := if (textsF base l).2 ≠ 0 then ([], (textsF base l).2) else if k < 0 ∨ (l.length : Int) < k then ([], 1) else ((textsF base l).1.getD k.toNat [], 0)
def ac_text : AC := .seq (.region false [
    ⟨some 6, none, .mov (.c (.string ⟨#[]⟩))⟩,
    ⟨some 7, none, .mov (.c (.int .i64 0))⟩])
  (.seq (.region false [
    ⟨some 11, none, .mov (.t 0)⟩,
    ⟨some 12, none, .mov (.t 1)⟩,
    ⟨some 13, none, .call 52 [(.t 11), (.t 12)]⟩,
    ⟨some 10, none, .mov (.t 13)⟩,
    ⟨some 14, none, .ext 0 (.t 10)⟩,
    ⟨some 15, none, .ext 1 (.t 10)⟩,
    ⟨some 8, none, .mov (.t 14)⟩,
    ⟨some 9, none, .mov (.t 15)⟩])
  (.seq (.seq (.region false [
    ⟨some 16, none, .mov (.t 9)⟩,
    ⟨some 17, none, .bin .neq (.t 16) (.c (.int .i64 0))⟩])
  (.cond (.t 17)
    (.seq (.region false [
      ⟨some 18, none, .mov (.t 9)⟩,
      ⟨some 6, none, .mov (.c (.string ⟨#[]⟩))⟩,
      ⟨some 7, none, .mov (.t 18)⟩])
    (.ret))
    (.skip)))
  (.seq (.seq (.region false [
    ⟨some 19, none, .mov (.t 2)⟩,
    ⟨some 20, none, .bin .lss (.t 19) (.c (.int .i64 0))⟩,
    ⟨some 21, none, .mov (.t 20)⟩,
    ⟨some 22, some (21, false), .mov (.t 2)⟩,
    ⟨some 23, some (21, false), .mov (.t 1)⟩,
    ⟨some 24, some (21, false), .len false (.t 23)⟩,
    ⟨some 25, some (21, false), .bin .gtr (.t 22) (.t 24)⟩,
    ⟨some 26, none, .pick (.t 21) (.c (.bool true)) (.t 25)⟩])
  (.cond (.t 26)
    (.seq (.region false [
      ⟨some 6, none, .mov (.c (.string ⟨#[]⟩))⟩,
      ⟨some 7, none, .mov (.c (.int .i64 1))⟩])
    (.ret))
    (.skip)))
  (.seq (.region false [
    ⟨some 27, none, .mov (.t 8)⟩,
    ⟨some 28, none, .mov (.t 2)⟩,
    ⟨some 29, none, .iaddr 1 (.t 27) (.t 28)⟩,
    ⟨some 30, none, .load1 (.t 29)⟩,
    ⟨some 6, none, .mov (.t 30)⟩,
    ⟨some 7, none, .mov (.c (.int .i64 0))⟩])
  (.ret)))))
theorem ok_text : FnOk Try.prog 12 Try.f12 ac_text [.t 6, .t 7] 3 drawD := ⟨Try.func12, by decide +kernel, by kernel_rfl, by kernel_rfl, by decide +kernel⟩
theorem vc_text (P : Prim) (hP : P = std) (T T1 : CallT) (base : List UInt8) (rows tr : List (List V)) (e k n : Int) (s : List UInt8) (hn : P.rlen rows = n) (hc1 : Ans T 52 [.str base, .sl true 3 rows] (.tup [.sl false 1 tr, .int .i64 e]))
    (r : List UInt8) (f : Int) (h1 : e ≠ 0 → r = [] ∧ e = f) (h2 : e = 0 → k < 0 ∨ n < k → r = [] ∧ 1 = f) (h3 : e = 0 → 0 ≤ k → k ≤ n → P.row tr (P.nat k) [.str s] ∧ s = r ∧ 0 = f)
    (R : S → Prop) (hR : ∀ s s' x y, x = r ∧ y = f → Ent s s' → Ret [.t 6, .t 7] [.str x, .int .i64 y] s' → R s) : awp P T T1 ac_text (S0 [.str base, .sl true 3 rows, .int .i64 k] Hp.emp) R (fun _ _ => False) R := by
  cbv
  refine hc1 _ _ ?_
  cbv
  refine br_cases (fun h => ?_) (fun h => ?_)
  · have hz := ne_t hP h
    cbv
    exact hR _ _ _ _ ⟨(h1 hz).1.symm, (h1 hz).2⟩ (Ent.refl _) rfl
  have hz := ne_f hP h
  cbv
  refine br_cases (fun h => ?_) (fun h => ?_)
  · have hk := lt_t hP h
    cbv
    exact hR _ _ _ _ ⟨(h2 hz (.inl hk)).1.symm, (h2 hz (.inl hk)).2⟩ (Ent.refl _) rfl
  have hk := lt_f hP h
  cbv
  refine br_cases (fun h => ?_) (fun h => ?_)
  · have hk2 : P.rlen rows < k := lt_t hP h
    rw [hn] at hk2
    cbv
    exact hR _ _ _ _ ⟨(h2 hz (.inr hk2)).1.symm, (h2 hz (.inr hk2)).2⟩ (Ent.refl _) rfl
  have hk2 : ¬ P.rlen rows < k := lt_f hP h
  rw [hn] at hk2
  obtain ⟨g1, g2, g3⟩ := h3 hz (by omega) (by omega)
  have ho1 : P.leP 0 k := le0 hP (by omega)
  cbv
  refine ⟨ho1, _, g1, ?_⟩
  cbv
  exact hR _ _ _ _ ⟨g2, g3⟩ (Ent.refl _) rfl
theorem textsF_row {base : List UInt8} {l : List Rev} {k : Int} (he : (textsF base l).2 = 0) (h0 : 0 ≤ k) (h1 : k ≤ l.length) : (textsF base l).1[k.toNat]? = some ((textsF base l).1.getD k.toNat []) := by
  obtain ⟨_, _, _, _, h⟩ := textsF_ok he
  rw [List.getD_eq_getElem?_getD, List.getElem?_eq_getElem (by omega)]; rfl
theorem sp_text (base : List UInt8) (l : List Rev) (k : Int) (hl : RevsOk l) : Spec Try.prog 12 [.str base, .sl true 3 (l.map encRev), .int .i64 k] Hp.emp (Is (.tup [.str (textF base l k).1, .int .i64 (textF base l k).2])) :=
  spec_pure dOk ok_text [.str (textF base l k).1, .int .i64 (textF base l k).2] (.tup _ (by simp; exact ⟨.str _, .int _ _⟩)) fun R hR => vc_text std rfl _ _ base _ (strRows (textsF base l).1) (textsF base l).2 k l.length ((textsF base l).1.getD k.toNat []) (by show ((l.map encRev).length : Int) = _; simp)
    (ansW (sp_texts base l hl) (fun h => .cons (.same _) (.cons (.same _) .nil)) rfl) (textF base l k).1 (textF base l k).2 (fun h => by unfold textF; rw [if_pos h]; exact ⟨rfl, rfl⟩) (fun h h' => by unfold textF; rw [if_neg (fun g => g h), if_pos h']; exact ⟨rfl, rfl⟩)
    (fun h h0 h1 => by
      refine ⟨row_of rfl (i := k.toNat) (by omega) (by rw [strRows, List.getElem?_map, textsF_row h h0 h1]; rfl), ?_⟩
      unfold textF; rw [if_neg (fun g => g h), if_neg (by omega)]; exact ⟨rfl, rfl⟩)
    R fun s s' x y h he hr => by obtain ⟨rfl, rfl⟩ := h; exact hR s s' he hr

end Go.Proofs.Ytobngncjflogcaa.AM

set_option linter.unusedVariables false
set_option linter.unusedSimpArgs false
namespace Go.Proofs.Ytobngncjflogcaa.AM
open Go
set_option maxRecDepth 100000
set_option maxHeartbeats 2000000
def iRows (l : List Int) : List (List V) := l.map fun n => [.int .i64 n]
theorem iRows_sz (l : List Int) : ∀ r ∈ iRows l, r.length = 1 := by
  intro r hr; simp only [iRows, List.mem_map] at hr; obtain ⟨a, _, rfl⟩ := hr; rfl
theorem iRows_fz (l : List Int) : ∀ r ∈ iRows l, ∀ v ∈ r, Fz v := by
  intro r hr; simp only [iRows, List.mem_map] at hr; obtain ⟨a, _, rfl⟩ := hr
  intro v hv; simp only [List.mem_singleton] at hv; subst hv; exact .int _ _
def idxF (x : Int) : List Int → Int → Int
  | [], _ => -1
  | a :: l, i => if x = a then i else idxF x l (i + 1)
theorem idxF_mem (x : Int) : ∀ (l : List Int) (i : Int), 0 ≤ i → (0 ≤ idxF x l i ↔ x ∈ l)
  | [], i, _ => by simp [idxF]
  | a :: l, i, h => by
    unfold idxF
    split
    · rename_i e; subst e; simp [h]
    · rename_i e; rw [idxF_mem x l (i + 1) (by omega)]; simp [e]
structure YIx (α : Type) (l : List α) where
  k : Int
  pre : List α
  rest : List α
  hd : l = pre ++ rest
  hk : k = (pre.length : Int)
def ac_index : AC := .seq (.region false [
    ⟨some 4, none, .mov (.c (.int .i64 0))⟩])
  (.seq (.seq (.region false [
    ⟨some 6, none, .mov (.t 0)⟩,
    ⟨some 7, none, .len false (.t 6)⟩,
    ⟨some 8, none, .mov (.c (.int .i64 0))⟩])
  (.block 0 (.loop (.seq (.region false [
      ⟨some 9, none, .bin .lss (.t 8) (.t 7)⟩])
    (.seq (.cond (.t 9)
      (.skip)
      (.exit 0))
    (.seq (.block 1 (.seq (.region false [
      ⟨some 10, none, .mov (.t 8)⟩,
      ⟨some 5, none, .mov (.t 10)⟩])
    (.seq (.region false [
      ⟨some 11, none, .mov (.t 1)⟩,
      ⟨some 12, none, .mov (.t 0)⟩,
      ⟨some 13, none, .mov (.t 5)⟩,
      ⟨some 14, none, .iaddr 1 (.t 12) (.t 13)⟩,
      ⟨some 15, none, .load1 (.t 14)⟩,
      ⟨some 16, none, .bin .eql (.t 11) (.t 15)⟩])
    (.cond (.t 16)
      (.seq (.region false [
        ⟨some 17, none, .mov (.t 5)⟩,
        ⟨some 4, none, .mov (.t 17)⟩])
      (.ret))
      (.skip)))))
    (.region false [
      ⟨some 18, none, .bin .add (.t 8) (.c (.int .i64 1))⟩,
      ⟨some 8, none, .mov (.t 18)⟩])))))))
  (.seq (.region false [
    ⟨some 4, none, .mov (.c (.int .i64 (-1)))⟩])
  (.ret)))
theorem ok_index : FnOk Try.prog 53 Try.f53 ac_index [.t 4] 2 drawD := ⟨Try.func53, by decide +kernel, by kernel_rfl, by kernel_rfl, by decide +kernel⟩
theorem vc_index (P : Prim) (hP : P = std) (T T1 : CallT) (l : List Int) (hll : l.length ≤ 9000000000000000000) (x : Int) (rows : List (List V)) (hrows : rows = iRows l) (r : Int) (hr : idxF x l 0 = r)
    (R : S → Prop) (hR : ∀ s s' q, q = r → Ent s s' → Ret [.t 4] [.int .i64 q] s' → R s) : awp P T T1 ac_index (S0 [.sl true 1 rows, .int .i64 x] Hp.emp) R (fun _ _ => False) R := by
  have hl1 : P.rlen rows = (l.length : Int) := by rw [rlen_eq hP, hrows]; simp [iRows]
  cbv
  refine ⟨{ y : YIx Int l // idxF x y.rest y.k = r }, fun y => [(0, .sl true 1 rows), (1, .int .i64 x), (6, .sl true 1 rows), (7, .int .i64 (P.rlen rows)), (8, .int .i64 y.1.k)], fun y => [], fun y => y.1.rest.length,
    ⟨_, Ent.refl _, ⟨⟨0, [], l, rfl, rfl⟩, hr⟩, ⟨rfl, rfl, rfl, rfl, rfl, trivial⟩, trivial⟩, ?_⟩
  rintro ⟨⟨k, pre, rest, hd, hk⟩, hr⟩
  simp only [] at hr
  have hlp : pre.length + rest.length = l.length := by rw [hd]; simp
  cbv
  refine br_cases (fun h => ?_) (fun h => ?_)
  · have h5 : k < P.rlen rows := lt_t hP h
    rw [hl1] at h5
    rcases rest with _ | ⟨a, rest⟩
    · exfalso; simp at hlp; ((try simp only [nc] at *); omega)
    have hrow : P.row rows (P.nat k) [.int .i64 a] := row_of hP hk (by rw [hrows, iRows, List.getElem?_map, hd]; simp)
    have q1 : P.leP 0 k := le0 hP (by ((try simp only [nc] at *); omega))
    have q2 : P.i64 (P.add k 1) := by rw [add_eq hP]; exact i64I hP (by ((try simp only [nc] at *); omega))
    have q3 : P.add k 1 = k + 1 := add_eq hP _ _
    cbv
    refine ⟨q1, _, hrow, ?_⟩
    cbv
    refine br_cases (fun h => ?_) (fun h => ?_)
    · have e := eq_t hP h
      have hr' := hr
      unfold idxF at hr'
      rw [if_pos e] at hr'
      cbv
      exact hR _ _ _ hr' (Ent.refl _) rfl
    · have e := eq_f hP h
      have hr' := hr
      unfold idxF at hr'
      rw [if_neg e, ← q3] at hr'
      cbv
      refine ⟨q2, ?_⟩
      refine ⟨_, Ent.refl _, ⟨⟨_, pre ++ [a], rest, by simp [hd], ?_⟩, hr'⟩, ⟨rfl, rfl, rfl, rfl, rfl, trivial⟩, trivial, by simp⟩
      show P.add k 1 = _; rw [q3, hk]; simp
  · have h5 : ¬ k < P.rlen rows := lt_f hP h
    rw [hl1] at h5
    rcases rest with _ | ⟨a, rest⟩
    rotate_left
    · exfalso; simp at hlp; ((try simp only [nc] at *); omega)
    cbv
    exact hR _ _ _ hr (Ent.refl _) rfl
theorem sp_index (l : List Int) (hll : l.length ≤ 9000000000000000000) (x : Int) : Spec Try.prog 53 [.sl true 1 (iRows l), .int .i64 x] Hp.emp (Is (.int .i64 (idxF x l 0))) :=
  spec_pure dOk ok_index [.int .i64 (idxF x l 0)] (.int _ _) fun R hR => vc_index std rfl _ _ l hll x _ rfl _ rfl R fun s s' q h he hr => by subst h; exact hR s s' he hr
def ac_contains : AC := .seq (.region false [
    ⟨some 4, none, .mov (.c (.bool false))⟩])
  (.seq (.region false [
    ⟨some 5, none, .mov (.t 0)⟩,
    ⟨some 6, none, .mov (.t 1)⟩,
    ⟨some 7, none, .call 53 [(.t 5), (.t 6)]⟩,
    ⟨some 8, none, .bin .geq (.t 7) (.c (.int .i64 0))⟩,
    ⟨some 4, none, .mov (.t 8)⟩])
  (.ret))
theorem ok_contains : FnOk Try.prog 15 Try.f15 ac_contains [.t 4] 2 drawD := ⟨Try.func15, by decide +kernel, by kernel_rfl, by kernel_rfl, by decide +kernel⟩
theorem vc_contains (P : Prim) (hP : P = std) (T T1 : CallT) (rows : List (List V)) (x i : Int) (hc1 : Ans T 53 [.sl true 1 rows, .int .i64 x] (.int .i64 i)) (r : Bool) (hr : decide (0 ≤ i) = r)
    (R : S → Prop) (hR : ∀ s s' q, q = r → Ent s s' → Ret [.t 4] [.bool q] s' → R s) : awp P T T1 ac_contains (S0 [.sl true 1 rows, .int .i64 x] Hp.emp) R (fun _ _ => False) R := by
  cbv
  refine hc1 _ _ ?_
  cbv
  exact hR _ _ _ (by subst hP; exact hr) (Ent.refl _) rfl
theorem sp_contains (l : List Int) (hll : l.length ≤ 9000000000000000000) (x : Int) : Spec Try.prog 15 [.sl true 1 (iRows l), .int .i64 x] Hp.emp (Is (.bool (decide (x ∈ l)))) :=
  spec_pure dOk ok_contains [.bool (decide (x ∈ l))] (.bool _) fun R hR => vc_contains std rfl _ _ _ x _ (ansW (sp_index l hll x) (fun h => .cons (.same _) (.cons (.same _) .nil)) rfl) (decide (x ∈ l)) (by have := idxF_mem x l 0 (Int.le_refl _); simp [this]) R fun s s' q h he hr => by subst h; exact hR s s' he hr
theorem ints_ret {rv : List RV} {r : List Int} {tl : List V} {R : S → Prop} (htl : ∀ v ∈ tl, Fz v) (hR : ∀ s s', Ent s s' → RetF rv (oneV (.sl false 1 (iRows r) :: tl)) s' → R s) : RetSl rv 1 (iRows r) tl R := retSl_of (iRows_sz _) (iRows_fz _) htl hR
theorem ansIn {f : Nat} {l : List Int} {vs : List V} {v : V} (h : Spec Try.prog f (.sl true 1 (iRows l) :: vs) Hp.emp (Is v)) (hv : v.ren (lab []) = v) (hvs : vs.all V.pl = true) : Ans (CallE Try.prog) f (.sl false 1 (iRows l) :: vs) v := ansW h (fun _ => .cons (.weak _ _) (args_plain hvs)) hv
end Go.Proofs.Ytobngncjflogcaa.AM

set_option linter.unusedVariables false
set_option linter.unusedSimpArgs false
namespace Go.Proofs.Ytobngncjflogcaa.AM
open Go
set_option maxRecDepth 100000
set_option maxHeartbeats 2000000
def ac_hnext : AC := .seq (.region false [
    ⟨some 3, none, .box 81 38 (.t 0)⟩,
    ⟨some 5, none, .box 45 3 (.t 2)⟩,
    ⟨some 6, none, .mov (.c (.int .i64 0))⟩])
  (.seq (.seq (.region false [
    ⟨some 8, none, .loadn 3 (.t 5)⟩,
    ⟨some 9, none, .call 90 [(.t 8)]⟩,
    ⟨some 7, none, .mov (.t 9)⟩])
  (.seq (.region false [
    ⟨some 10, none, .mov (.t 7)⟩,
    ⟨some 11, none, .bin .neq (.t 10) (.c (.int .i64 0))⟩])
  (.cond (.t 11)
    (.seq (.region false [
      ⟨some 12, none, .mov (.t 7)⟩,
      ⟨some 6, none, .mov (.t 12)⟩])
    (.ret))
    (.skip))))
  (.seq (.seq (.region true [
    ⟨some 13, none, .faddr 1 (.t 5)⟩,
    ⟨some 14, none, .load1 (.t 13)⟩,
    ⟨some 15, none, .faddr 0 (.t 5)⟩,
    ⟨some 16, none, .load1 (.t 15)⟩,
    ⟨some 17, none, .faddr 19 (.t 3)⟩,
    ⟨some 18, none, .iarr 8 2 (.t 17) (.t 16)⟩,
    ⟨some 19, none, .faddr 0 (.t 18)⟩,
    ⟨some 20, none, .load1 (.t 19)⟩,
    ⟨some 21, none, .bin .leq (.t 14) (.t 20)⟩])
  (.cond (.t 21)
    (.seq (.region false [
      ⟨some 6, none, .mov (.c (.int .i64 10))⟩])
    (.ret))
    (.skip)))
  (.seq (.seq (.region false [
    ⟨some 22, none, .faddr 35 (.t 3)⟩,
    ⟨some 23, none, .load1 (.t 22)⟩,
    ⟨some 24, none, .len false (.t 23)⟩,
    ⟨some 25, none, .bin .geq (.t 24) (.c (.int .i64 64))⟩,
    ⟨some 26, none, .mov (.t 25)⟩,
    ⟨some 27, some (26, false), .faddr 1 (.t 3)⟩,
    ⟨some 28, some (26, false), .load1 (.t 27)⟩,
    ⟨some 29, some (26, false), .faddr 35 (.t 3)⟩,
    ⟨some 30, some (26, false), .load1 (.t 29)⟩,
    ⟨some 31, some (26, false), .len false (.t 30)⟩,
    ⟨some 32, some (26, false), .bin .add (.t 28) (.t 31)⟩,
    ⟨some 33, some (26, false), .bin .geq (.t 32) (.c (.int .i64 2147483647))⟩,
    ⟨some 34, none, .pick (.t 26) (.c (.bool true)) (.t 33)⟩])
  (.cond (.t 34)
    (.seq (.region false [
      ⟨some 6, none, .mov (.c (.int .i64 11))⟩])
    (.ret))
    (.skip)))
  (.seq (.region false [
    ⟨some 35, none, .faddr 2 (.t 5)⟩,
    ⟨some 36, none, .load1 (.t 35)⟩,
    ⟨some 37, none, .mov (.t 1)⟩,
    ⟨some 38, none, .call 54 [(.t 36), (.t 37)]⟩,
    ⟨some 6, none, .mov (.t 38)⟩])
  (.ret)))))
theorem ok_hnext : FnOk Try.prog 60 Try.f60 ac_hnext [.t 6] 3 drawD := ⟨Try.func60, by decide +kernel, by kernel_rfl, by kernel_rfl, by decide +kernel⟩
theorem vc_hnext (P : Prim) (hP : P = std) (T T1 : CallT) (gn b gd w q sz o f n : Int) (tx : List UInt8) (fs tb : Nat → Int) (rv dr : List (List V)) (wh tt : Bool) (hn : P.rlen rv = n) (hb : 0 ≤ b ∧ b ≤ 2147483647)
    (hc1 : Ans T 90 [.agg [.int .i64 w, .int .i64 q, .sl false 3 dr]] (.int .i64 o)) (hw : o = 0 → w = 0 ∨ w = 1 ∨ w = 2 ∨ w = 3 ∨ w = 4 ∨ w = 5 ∨ w = 6 ∨ w = 7) (hc2 : o = 0 → Ans T 54 [.sl false 3 dr, .int .i64 sz] (.int .i64 f))
    (res : Int) (g1 : o ≠ 0 → o = res) (g2 : o = 0 → q ≤ tb (2 * w.toNat) → 10 = res) (g3 : o = 0 → ¬ q ≤ tb (2 * w.toNat) → 64 ≤ n ∨ 2147483647 ≤ b + n → 11 = res) (g4 : o = 0 → ¬ q ≤ tb (2 * w.toNat) → ¬ (64 ≤ n ∨ 2147483647 ≤ b + n) → f = res) (hn0 : 0 ≤ n)
    (R : S → Prop) (hR : ∀ s s' x, x = res → Ent s s' → Ret [.t 6] [.int .i64 x] s' → R s) : awp P T T1 ac_hnext (S0 [.agg [.int .i64 gn, .int .i64 b, .str tx, .int .i64 (fs 0), .int .i64 (fs 1), .int .i64 (fs 2), .int .i64 (fs 3), .int .i64 (fs 4), .int .i64 (fs 5), .int .i64 (fs 6), .int .i64 (fs 7), .int .i64 (fs 8), .int .i64 (fs 9), .int .i64 (fs 10), .int .i64 (fs 11), .int .i64 (fs 12), .int .i64 (fs 13), .int .i64 (fs 14), .int .i64 (fs 15), .int .i64 (tb 0), .int .i64 (tb 1), .int .i64 (tb 2), .int .i64 (tb 3), .int .i64 (tb 4), .int .i64 (tb 5), .int .i64 (tb 6), .int .i64 (tb 7), .int .i64 (tb 8), .int .i64 (tb 9), .int .i64 (tb 10), .int .i64 (tb 11), .int .i64 (tb 12), .int .i64 (tb 13), .int .i64 (tb 14), .int .i64 (tb 15), .sl tt 3 rv, .bool wh, .int .i64 gd], .int .i64 sz, .agg [.int .i64 w, .int .i64 q, .sl false 3 dr]] Hp.emp) R (fun _ _ => False) R := by
  have hN0 : P.nat 0 = 0 := by subst hP; rfl
  have hN1 : P.nat 1 = 1 := by subst hP; rfl
  have hN2 : P.nat 2 = 2 := by subst hP; rfl
  have hN3 : P.nat 3 = 3 := by subst hP; rfl
  have hN4 : P.nat 4 = 4 := by subst hP; rfl
  have hN5 : P.nat 5 = 5 := by subst hP; rfl
  have hN6 : P.nat 6 = 6 := by subst hP; rfl
  have hN7 : P.nat 7 = 7 := by subst hP; rfl
  have hnl : ∀ i : Nat, i < 8 → P.leP 0 (i : Int) ∧ P.ltP (i : Int) 8 := fun i hi => ⟨le0 hP (by omega), ltI hP (by omega)⟩
  cbv
  intro β3
  cbv
  intro β5
  cbv
  refine hc1 _ _ ?_
  clear hc1
  cbv
  refine br_cases (fun h => ?_) (fun h => ?_)
  · have hz := ne_t hP h
    cbv
    exact hR _ _ _ (g1 hz) (Ent.refl _) rfl
  have hz := ne_f hP h
  have hw := hw hz
  have c2 := hc2 hz
  replace g2 := g2 hz
  replace g3 := g3 hz
  replace g4 := g4 hz
  clear g1 hc2 h
  cbv
  rcases hw with rfl | rfl | rfl | rfl | rfl | rfl | rfl | rfl
  · have q1 : P.leP 0 0 := (hnl 0 (by decide)).1
    have q2 : P.ltP 0 8 := (hnl 0 (by decide)).2
    refine ⟨q1, q2, 0, hN0, ?_⟩
    cbv
    refine br_cases (fun h => ?_) (fun h => ?_)
    · have hq := le_t hP h
      cbv
      exact hR _ _ _ (g2 hq) (Ent.refl _) rfl
    have hq := le_f hP h
    replace g3 := g3 hq
    replace g4 := g4 hq
    cbv
    refine br_cases (fun h => ?_) (fun h => ?_)
    · have h64 : 64 ≤ P.rlen rv := le_t hP h
      rw [hn] at h64
      cbv
      exact hR _ _ _ (g3 (.inl (by omega))) (Ent.refl _) rfl
    have h64 : ¬ 64 ≤ P.rlen rv := le_f hP h
    rw [hn] at h64
    have o1 : P.i64 (P.add b (P.rlen rv)) := by rw [add_eq hP, hn]; exact i64I hP (by omega)
    cbv
    refine ⟨o1, ?_⟩
    refine br_cases (fun h => ?_) (fun h => ?_)
    · have h31 : 2147483647 ≤ P.add b (P.rlen rv) := le_t hP h
      rw [add_eq hP, hn] at h31
      cbv
      exact hR _ _ _ (g3 (.inr (by omega))) (Ent.refl _) rfl
    have h31 : ¬ 2147483647 ≤ P.add b (P.rlen rv) := le_f hP h
    rw [add_eq hP, hn] at h31
    cbv
    refine c2 _ _ ?_
    cbv
    exact hR _ _ _ (g4 (by omega)) (Ent.refl _) rfl
  · have q1 : P.leP 0 1 := (hnl 1 (by decide)).1
    have q2 : P.ltP 1 8 := (hnl 1 (by decide)).2
    refine ⟨q1, q2, 1, hN1, ?_⟩
    cbv
    refine br_cases (fun h => ?_) (fun h => ?_)
    · have hq := le_t hP h
      cbv
      exact hR _ _ _ (g2 hq) (Ent.refl _) rfl
    have hq := le_f hP h
    replace g3 := g3 hq
    replace g4 := g4 hq
    cbv
    refine br_cases (fun h => ?_) (fun h => ?_)
    · have h64 : 64 ≤ P.rlen rv := le_t hP h
      rw [hn] at h64
      cbv
      exact hR _ _ _ (g3 (.inl (by omega))) (Ent.refl _) rfl
    have h64 : ¬ 64 ≤ P.rlen rv := le_f hP h
    rw [hn] at h64
    have o1 : P.i64 (P.add b (P.rlen rv)) := by rw [add_eq hP, hn]; exact i64I hP (by omega)
    cbv
    refine ⟨o1, ?_⟩
    refine br_cases (fun h => ?_) (fun h => ?_)
    · have h31 : 2147483647 ≤ P.add b (P.rlen rv) := le_t hP h
      rw [add_eq hP, hn] at h31
      cbv
      exact hR _ _ _ (g3 (.inr (by omega))) (Ent.refl _) rfl
    have h31 : ¬ 2147483647 ≤ P.add b (P.rlen rv) := le_f hP h
    rw [add_eq hP, hn] at h31
    cbv
    refine c2 _ _ ?_
    cbv
    exact hR _ _ _ (g4 (by omega)) (Ent.refl _) rfl
  · have q1 : P.leP 0 2 := (hnl 2 (by decide)).1
    have q2 : P.ltP 2 8 := (hnl 2 (by decide)).2
    refine ⟨q1, q2, 2, hN2, ?_⟩
    cbv
    refine br_cases (fun h => ?_) (fun h => ?_)
    · have hq := le_t hP h
      cbv
      exact hR _ _ _ (g2 hq) (Ent.refl _) rfl
    have hq := le_f hP h
    replace g3 := g3 hq
    replace g4 := g4 hq
    cbv
    refine br_cases (fun h => ?_) (fun h => ?_)
    · have h64 : 64 ≤ P.rlen rv := le_t hP h
      rw [hn] at h64
      cbv
      exact hR _ _ _ (g3 (.inl (by omega))) (Ent.refl _) rfl
    have h64 : ¬ 64 ≤ P.rlen rv := le_f hP h
    rw [hn] at h64
    have o1 : P.i64 (P.add b (P.rlen rv)) := by rw [add_eq hP, hn]; exact i64I hP (by omega)
    cbv
    refine ⟨o1, ?_⟩
    refine br_cases (fun h => ?_) (fun h => ?_)
    · have h31 : 2147483647 ≤ P.add b (P.rlen rv) := le_t hP h
      rw [add_eq hP, hn] at h31
      cbv
      exact hR _ _ _ (g3 (.inr (by omega))) (Ent.refl _) rfl
    have h31 : ¬ 2147483647 ≤ P.add b (P.rlen rv) := le_f hP h
    rw [add_eq hP, hn] at h31
    cbv
    refine c2 _ _ ?_
    cbv
    exact hR _ _ _ (g4 (by omega)) (Ent.refl _) rfl
  · have q1 : P.leP 0 3 := (hnl 3 (by decide)).1
    have q2 : P.ltP 3 8 := (hnl 3 (by decide)).2
    refine ⟨q1, q2, 3, hN3, ?_⟩
    cbv
    refine br_cases (fun h => ?_) (fun h => ?_)
    · have hq := le_t hP h
      cbv
      exact hR _ _ _ (g2 hq) (Ent.refl _) rfl
    have hq := le_f hP h
    replace g3 := g3 hq
    replace g4 := g4 hq
    cbv
    refine br_cases (fun h => ?_) (fun h => ?_)
    · have h64 : 64 ≤ P.rlen rv := le_t hP h
      rw [hn] at h64
      cbv
      exact hR _ _ _ (g3 (.inl (by omega))) (Ent.refl _) rfl
    have h64 : ¬ 64 ≤ P.rlen rv := le_f hP h
    rw [hn] at h64
    have o1 : P.i64 (P.add b (P.rlen rv)) := by rw [add_eq hP, hn]; exact i64I hP (by omega)
    cbv
    refine ⟨o1, ?_⟩
    refine br_cases (fun h => ?_) (fun h => ?_)
    · have h31 : 2147483647 ≤ P.add b (P.rlen rv) := le_t hP h
      rw [add_eq hP, hn] at h31
      cbv
      exact hR _ _ _ (g3 (.inr (by omega))) (Ent.refl _) rfl
    have h31 : ¬ 2147483647 ≤ P.add b (P.rlen rv) := le_f hP h
    rw [add_eq hP, hn] at h31
    cbv
    refine c2 _ _ ?_
    cbv
    exact hR _ _ _ (g4 (by omega)) (Ent.refl _) rfl
  · have q1 : P.leP 0 4 := (hnl 4 (by decide)).1
    have q2 : P.ltP 4 8 := (hnl 4 (by decide)).2
    refine ⟨q1, q2, 4, hN4, ?_⟩
    cbv
    refine br_cases (fun h => ?_) (fun h => ?_)
    · have hq := le_t hP h
      cbv
      exact hR _ _ _ (g2 hq) (Ent.refl _) rfl
    have hq := le_f hP h
    replace g3 := g3 hq
    replace g4 := g4 hq
    cbv
    refine br_cases (fun h => ?_) (fun h => ?_)
    · have h64 : 64 ≤ P.rlen rv := le_t hP h
      rw [hn] at h64
      cbv
      exact hR _ _ _ (g3 (.inl (by omega))) (Ent.refl _) rfl
    have h64 : ¬ 64 ≤ P.rlen rv := le_f hP h
    rw [hn] at h64
    have o1 : P.i64 (P.add b (P.rlen rv)) := by rw [add_eq hP, hn]; exact i64I hP (by omega)
    cbv
    refine ⟨o1, ?_⟩
    refine br_cases (fun h => ?_) (fun h => ?_)
    · have h31 : 2147483647 ≤ P.add b (P.rlen rv) := le_t hP h
      rw [add_eq hP, hn] at h31
      cbv
      exact hR _ _ _ (g3 (.inr (by omega))) (Ent.refl _) rfl
    have h31 : ¬ 2147483647 ≤ P.add b (P.rlen rv) := le_f hP h
    rw [add_eq hP, hn] at h31
    cbv
    refine c2 _ _ ?_
    cbv
    exact hR _ _ _ (g4 (by omega)) (Ent.refl _) rfl
  · have q1 : P.leP 0 5 := (hnl 5 (by decide)).1
    have q2 : P.ltP 5 8 := (hnl 5 (by decide)).2
    refine ⟨q1, q2, 5, hN5, ?_⟩
    cbv
    refine br_cases (fun h => ?_) (fun h => ?_)
    · have hq := le_t hP h
      cbv
      exact hR _ _ _ (g2 hq) (Ent.refl _) rfl
    have hq := le_f hP h
    replace g3 := g3 hq
    replace g4 := g4 hq
    cbv
    refine br_cases (fun h => ?_) (fun h => ?_)
    · have h64 : 64 ≤ P.rlen rv := le_t hP h
      rw [hn] at h64
      cbv
      exact hR _ _ _ (g3 (.inl (by omega))) (Ent.refl _) rfl
    have h64 : ¬ 64 ≤ P.rlen rv := le_f hP h
    rw [hn] at h64
    have o1 : P.i64 (P.add b (P.rlen rv)) := by rw [add_eq hP, hn]; exact i64I hP (by omega)
    cbv
    refine ⟨o1, ?_⟩
    refine br_cases (fun h => ?_) (fun h => ?_)
    · have h31 : 2147483647 ≤ P.add b (P.rlen rv) := le_t hP h
      rw [add_eq hP, hn] at h31
      cbv
      exact hR _ _ _ (g3 (.inr (by omega))) (Ent.refl _) rfl
    have h31 : ¬ 2147483647 ≤ P.add b (P.rlen rv) := le_f hP h
    rw [add_eq hP, hn] at h31
    cbv
    refine c2 _ _ ?_
    cbv
    exact hR _ _ _ (g4 (by omega)) (Ent.refl _) rfl
  · have q1 : P.leP 0 6 := (hnl 6 (by decide)).1
    have q2 : P.ltP 6 8 := (hnl 6 (by decide)).2
    refine ⟨q1, q2, 6, hN6, ?_⟩
    cbv
    refine br_cases (fun h => ?_) (fun h => ?_)
    · have hq := le_t hP h
      cbv
      exact hR _ _ _ (g2 hq) (Ent.refl _) rfl
    have hq := le_f hP h
    replace g3 := g3 hq
    replace g4 := g4 hq
    cbv
    refine br_cases (fun h => ?_) (fun h => ?_)
    · have h64 : 64 ≤ P.rlen rv := le_t hP h
      rw [hn] at h64
      cbv
      exact hR _ _ _ (g3 (.inl (by omega))) (Ent.refl _) rfl
    have h64 : ¬ 64 ≤ P.rlen rv := le_f hP h
    rw [hn] at h64
    have o1 : P.i64 (P.add b (P.rlen rv)) := by rw [add_eq hP, hn]; exact i64I hP (by omega)
    cbv
    refine ⟨o1, ?_⟩
    refine br_cases (fun h => ?_) (fun h => ?_)
    · have h31 : 2147483647 ≤ P.add b (P.rlen rv) := le_t hP h
      rw [add_eq hP, hn] at h31
      cbv
      exact hR _ _ _ (g3 (.inr (by omega))) (Ent.refl _) rfl
    have h31 : ¬ 2147483647 ≤ P.add b (P.rlen rv) := le_f hP h
    rw [add_eq hP, hn] at h31
    cbv
    refine c2 _ _ ?_
    cbv
    exact hR _ _ _ (g4 (by omega)) (Ent.refl _) rfl
  · have q1 : P.leP 0 7 := (hnl 7 (by decide)).1
    have q2 : P.ltP 7 8 := (hnl 7 (by decide)).2
    refine ⟨q1, q2, 7, hN7, ?_⟩
    cbv
    refine br_cases (fun h => ?_) (fun h => ?_)
    · have hq := le_t hP h
      cbv
      exact hR _ _ _ (g2 hq) (Ent.refl _) rfl
    have hq := le_f hP h
    replace g3 := g3 hq
    replace g4 := g4 hq
    cbv
    refine br_cases (fun h => ?_) (fun h => ?_)
    · have h64 : 64 ≤ P.rlen rv := le_t hP h
      rw [hn] at h64
      cbv
      exact hR _ _ _ (g3 (.inl (by omega))) (Ent.refl _) rfl
    have h64 : ¬ 64 ≤ P.rlen rv := le_f hP h
    rw [hn] at h64
    have o1 : P.i64 (P.add b (P.rlen rv)) := by rw [add_eq hP, hn]; exact i64I hP (by omega)
    cbv
    refine ⟨o1, ?_⟩
    refine br_cases (fun h => ?_) (fun h => ?_)
    · have h31 : 2147483647 ≤ P.add b (P.rlen rv) := le_t hP h
      rw [add_eq hP, hn] at h31
      cbv
      exact hR _ _ _ (g3 (.inr (by omega))) (Ent.refl _) rfl
    have h31 : ¬ 2147483647 ≤ P.add b (P.rlen rv) := le_f hP h
    rw [add_eq hP, hn] at h31
    cbv
    refine c2 _ _ ?_
    cbv
    exact hR _ _ _ (g4 (by omega)) (Ent.refl _) rfl
def logT (gn b : Int) (tx : List UInt8) (fs tb : Nat → Int) (rv : List (List V)) (wh : Bool) (gd : Int) : V := .agg [.int .i64 gn, .int .i64 b, .str tx, .int .i64 (fs 0), .int .i64 (fs 1), .int .i64 (fs 2), .int .i64 (fs 3), .int .i64 (fs 4), .int .i64 (fs 5), .int .i64 (fs 6), .int .i64 (fs 7), .int .i64 (fs 8), .int .i64 (fs 9), .int .i64 (fs 10), .int .i64 (fs 11), .int .i64 (fs 12), .int .i64 (fs 13), .int .i64 (fs 14), .int .i64 (fs 15), .int .i64 (tb 0), .int .i64 (tb 1), .int .i64 (tb 2), .int .i64 (tb 3), .int .i64 (tb 4), .int .i64 (tb 5), .int .i64 (tb 6), .int .i64 (tb 7), .int .i64 (tb 8), .int .i64 (tb 9), .int .i64 (tb 10), .int .i64 (tb 11), .int .i64 (tb 12), .int .i64 (tb 13), .int .i64 (tb 14), .int .i64 (tb 15), .sl true 3 rv, .bool wh, .int .i64 gd]
def nextF (b : Int) (tb : Nat → Int) (n : Nat) (size : Int) (r : Rev) : Int := if oneF r ≠ 0 then oneF r else if r.seq ≤ tb (2 * r.who.toNat) then 10 else if 64 ≤ (n : Int) ∨ 2147483647 ≤ b + n then 11 else fitsF r.delta size
theorem one_who {r : Rev} (h : oneF r = 0) : 0 ≤ r.who ∧ r.who ≤ 7 ∧ 0 ≤ r.seq ∧ r.seq ≤ 2147483647 ∧ checkF r.delta = 0 := by
  unfold oneF at h
  split at h
  · contradiction
  · omega
theorem sp_hnextT (gn b : Int) (tx : List UInt8) (fs tb : Nat → Int) (l : List Rev) (wh : Bool) (gd size : Int) (r : Rev) (hb : 0 ≤ b ∧ b ≤ 2147483647) (hr : PartsOk r.delta) : Spec Try.prog 60 [logT gn b tx fs tb (l.map encRev) wh gd, .int .i64 size, .agg (encRev r)] Hp.emp (Is (.int .i64 (nextF b tb l.length size r))) :=
  spec_pure dOk ok_hnext [.int .i64 (nextF b tb l.length size r)] (.int _ _) fun R hR => vc_hnext std rfl _ _ gn b gd r.who r.seq size (oneF r) (fitsF r.delta size) l.length tx fs tb (l.map encRev) (r.delta.map encPart) wh true (by show ((l.map encRev).length : Int) = _; simp) hb
    (ansW (sp_one r hr) (fun h => .cons (.same _) .nil) rfl) (fun h => by have := one_who h; omega) (fun _ => ansLs (sp_fits r.delta hr.1 size) rfl rfl) (nextF b tb l.length size r)
    (fun h => by unfold nextF; rw [if_pos h]) (fun h h2 => by unfold nextF; rw [if_neg (fun g => g h), if_pos h2]) (fun h h2 h3 => by unfold nextF; rw [if_neg (fun g => g h), if_neg h2, if_pos h3]) (fun h h2 h3 => by unfold nextF; rw [if_neg (fun g => g h), if_neg h2, if_neg h3]) (by omega)
    R fun s s' x h he hq => by subst h; exact hR s s' he hq
def tabV (f : Nat → Int) : V := .agg [.int .i64 (f 0), .int .i64 (f 1), .int .i64 (f 2), .int .i64 (f 3), .int .i64 (f 4), .int .i64 (f 5), .int .i64 (f 6), .int .i64 (f 7), .int .i64 (f 8), .int .i64 (f 9), .int .i64 (f 10), .int .i64 (f 11), .int .i64 (f 12), .int .i64 (f 13), .int .i64 (f 14), .int .i64 (f 15)]
end Go.Proofs.Ytobngncjflogcaa.AM

set_option linter.unusedVariables false
set_option linter.unusedSimpArgs false
namespace Go.Proofs.Ytobngncjflogcaa.AM
open Go

/-- an own slice and what it becomes -/
def Frk (k : Nat) (b : Option Nat) (sz n : Nat) (rows : List (List V)) (v v' : V) : Prop := v' = v ∨ (v = .own k b sz n ∧ v' = .sl false sz rows)
theorem Frk.rel {C : Ctx} {F : Nat → Prop} {h : Hp} {w : World} (hs : HSat C F h w) {k sz n : Nat} {b : Option Nat} {o : Ob} (hk : h k = some o) (hb : o.b = b) (hsz : o.sz = sz) (hn : o.rows.length = n) (hz : ∀ r ∈ o.rows, ∀ v ∈ r, Fz v)
    {v v' : V} (hv : Frk k b sz n o.rows v v') {u : Value} (hr : Rel F C.B w v u) : Rel (fun x => F x ∨ o.b = some x) C.B w v' u := by
  rcases hv with rfl | ⟨rfl, rfl⟩
  · exact hr.mono (fun _ h => .inl h) (fun _ h => .inr h)
  · cases hr with
    | ownnil =>
      have : o.rows = [] := List.eq_nil_of_length_eq_zero hn
      rw [this]; exact .slnil _ _
    | own _ b' _ n' cap c e fr hheap hcs hm hnc =>
      have ho := hs.ob k o hk
      unfold ObSat at ho
      rw [hb] at ho
      obtain ⟨c', cap', hc', h1, h2, h3, h4, h5⟩ := ho
      rw [hheap] at hc'
      cases hc'
      subst hn
      have hw : ∀ r ∈ o.rows, r.length = sz := fun r hr => by rw [← hsz]; exact h4 r hr
      refine .sl false sz o.rows b' 0 cap (fun i j => (c[i * sz + j]?).getD undef) (.inl (.inr hb)) hnc hw (fun i j r v hi hj => ?_) (fun i j r v hi hj => ?_)
      · obtain ⟨u, hu, h1u, hru⟩ := h5 i j r v hi hj
        rw [hsz] at hu
        rw [hu, cell_of_row w b' _ c o.ty (0, 0) hheap]
        have : i * sz + j < c.size := (Array.getElem?_eq_some_iff.1 hu).1
        refine ⟨?_, h1u⟩
        rw [Nat.zero_add]
        exact hu
      · obtain ⟨u, hu, h1u, hru⟩ := h5 i j r v hi hj
        rw [hsz] at hu
        rw [hu]
        exact hru.mono (fun _ h => .inl h) (fun _ h => .inr h)
theorem Ent.freeze {s s' : S} {k sz n : Nat} {b : Option Nat} {o : Ob} (hk : s.h k = some o) (hb : o.b = b) (hsz : o.sz = sz) (hn : o.rows.length = n) (hz : ∀ r ∈ o.rows, ∀ v ∈ r, Fz v)
    (ht : ∀ i, Frk k b sz n o.rows (s.t i) (s'.t i))
    (hh : ∀ j q', s'.h j = some q' → j ≠ k ∧ ∃ q, s.h j = some q ∧ q'.b = q.b ∧ q'.ty = q.ty ∧ q'.sz = q.sz ∧ q'.rows.length = q.rows.length ∧
      ∀ (i : Nat) (r r' : List V), q.rows[i]? = some r → q'.rows[i]? = some r' → r'.length = r.length ∧ ∀ (l : Nat) (v v' : V), r[l]? = some v → r'[l]? = some v' → Frk k b sz n o.rows v v') : Ent s s' := by
  intro C n0 a w hC hs0
  obtain ⟨F, hs, h2⟩ := hs0.ex
  refine ⟨⟨fun x => F x ∨ o.b = some x, ⟨fun j q' hj => ?_, fun j j' q q' b1 hj hj' hb1 hb2 => ?_, fun j q' b1 hj hb1 => ?_, fun b1 hb1 => ?_, fun b1 hb1 => .inl (hs.new b1 hb1), fun b1 hb1 => ?_, hs.ev⟩, fun i => ?_⟩, hs0.df, hs0.sz⟩
  · obtain ⟨_, q, hq, e1, e2, e3, e4, e5⟩ := hh j q' hj
    have hq2 := hs.ob j q hq
    unfold ObSat at hq2 ⊢
    rw [e1]
    cases hqb : q.b with
    | none =>
      rw [hqb] at hq2
      simp only at hq2 ⊢
      rw [hq2] at e4
      exact List.eq_nil_of_length_eq_zero e4
    | some b1 =>
      rw [hqb] at hq2
      obtain ⟨c, cap, g1, g2, g3, g4, g5, g6⟩ := hq2
      refine ⟨c, cap, by rw [e2]; exact g1, by rw [e3]; exact g2, g3, by omega, fun r' hr' => ?_, fun i l r' v' hi hl => ?_⟩
      · obtain ⟨i, hi⟩ := List.mem_iff_getElem?.1 hr'
        have hil := (List.getElem?_eq_some_iff.1 hi).1
        have hir : q.rows[i]? = some (q.rows[i]'(by omega)) := List.getElem?_eq_getElem (by omega)
        rw [e3, (e5 i _ r' hir hi).1]
        exact g5 _ (List.mem_of_getElem? hir)
      · have hil := (List.getElem?_eq_some_iff.1 hi).1
        have hir : q.rows[i]? = some (q.rows[i]'(by omega)) := List.getElem?_eq_getElem (by omega)
        obtain ⟨f1, f2⟩ := e5 i _ r' hir hi
        have hll := (List.getElem?_eq_some_iff.1 hl).1
        have hlr : (q.rows[i]'(by omega))[l]? = some ((q.rows[i]'(by omega))[l]'(by omega)) := List.getElem?_eq_getElem (by omega)
        obtain ⟨u, k1, k2, k3⟩ := g6 i l _ _ hir hlr
        rw [e3]
        exact ⟨u, k1, k2, Frk.rel hs hk hb hsz hn hz (f2 l _ v' hlr hl) k3⟩
  · obtain ⟨_, q1, hq1, e1, _⟩ := hh j q hj
    obtain ⟨_, q2, hq2, e2, _⟩ := hh j' q' hj'
    exact hs.inj j j' q1 q2 b1 hq1 hq2 (by rw [← e1]; exact hb1) (by rw [← e2]; exact hb2)
  · obtain ⟨hne, q1, hq1, e1, _⟩ := hh j q' hj
    obtain ⟨g1, g2⟩ := hs.live j q1 b1 hq1 (by rw [← e1]; exact hb1)
    refine ⟨?_, g2⟩
    rintro (g | g)
    · exact g1 g
    · exact hne (hs.inj j k q1 o b1 hq1 hk (by rw [← e1]; exact hb1) g)
  · rcases hb1 with g | g
    · exact hs.old b1 g
    · exact .inr (hs.live k o b1 hk g).2
  · rcases hb1 with g | g
    · exact hs.lt b1 g
    · exact (hs.ob k o hk).lt g
  · exact Frk.rel hs hk hb hsz hn hz (ht i) (h2 i)

theorem HEnt.freeze {h h' : Hp} {k sz n : Nat} {b : Option Nat} {o : Ob} (hk : h k = some o) (hb : o.b = b) (hsz : o.sz = sz) (hn : o.rows.length = n) (hz : ∀ r ∈ o.rows, ∀ v ∈ r, Fz v)
    (hh : ∀ j q', h' j = some q' → j ≠ k ∧ ∃ q, h j = some q ∧ q'.b = q.b ∧ q'.ty = q.ty ∧ q'.sz = q.sz ∧ q'.rows.length = q.rows.length ∧
      ∀ (i : Nat) (r r' : List V), q.rows[i]? = some r → q'.rows[i]? = some r' → r'.length = r.length ∧ ∀ (l : Nat) (v v' : V), r[l]? = some v → r'[l]? = some v' → Frk k b sz n o.rows v v') : HEnt h h' := by
  intro C F w hC hs
  refine ⟨fun x => F x ∨ o.b = some x, fun _ h => .inl h, ⟨fun j q' hj => ?_, fun j j' q q' b1 hj hj' hb1 hb2 => ?_, fun j q' b1 hj hb1 => ?_, fun b1 hb1 => ?_, fun b1 hb1 => .inl (hs.new b1 hb1), fun b1 hb1 => ?_, hs.ev⟩⟩
  · obtain ⟨_, q, hq, e1, e2, e3, e4, e5⟩ := hh j q' hj
    have hq2 := hs.ob j q hq
    unfold ObSat at hq2 ⊢
    rw [e1]
    cases hqb : q.b with
    | none =>
      rw [hqb] at hq2
      simp only at hq2 ⊢
      rw [hq2] at e4
      exact List.eq_nil_of_length_eq_zero e4
    | some b1 =>
      rw [hqb] at hq2
      obtain ⟨c, cap, g1, g2, g3, g4, g5, g6⟩ := hq2
      refine ⟨c, cap, by rw [e2]; exact g1, by rw [e3]; exact g2, g3, by omega, fun r' hr' => ?_, fun i l r' v' hi hl => ?_⟩
      · obtain ⟨i, hi⟩ := List.mem_iff_getElem?.1 hr'
        have hil := (List.getElem?_eq_some_iff.1 hi).1
        have hir : q.rows[i]? = some (q.rows[i]'(by omega)) := List.getElem?_eq_getElem (by omega)
        rw [e3, (e5 i _ r' hir hi).1]
        exact g5 _ (List.mem_of_getElem? hir)
      · have hil := (List.getElem?_eq_some_iff.1 hi).1
        have hir : q.rows[i]? = some (q.rows[i]'(by omega)) := List.getElem?_eq_getElem (by omega)
        obtain ⟨f1, f2⟩ := e5 i _ r' hir hi
        have hll := (List.getElem?_eq_some_iff.1 hl).1
        have hlr : (q.rows[i]'(by omega))[l]? = some ((q.rows[i]'(by omega))[l]'(by omega)) := List.getElem?_eq_getElem (by omega)
        obtain ⟨u, k1, k2, k3⟩ := g6 i l _ _ hir hlr
        rw [e3]
        exact ⟨u, k1, k2, Frk.rel hs hk hb hsz hn hz (f2 l _ v' hlr hl) k3⟩
  · obtain ⟨_, q1, hq1, e1, _⟩ := hh j q hj
    obtain ⟨_, q2, hq2, e2, _⟩ := hh j' q' hj'
    exact hs.inj j j' q1 q2 b1 hq1 hq2 (by rw [← e1]; exact hb1) (by rw [← e2]; exact hb2)
  · obtain ⟨hne, q1, hq1, e1, _⟩ := hh j q' hj
    obtain ⟨g1, g2⟩ := hs.live j q1 b1 hq1 (by rw [← e1]; exact hb1)
    refine ⟨?_, g2⟩
    rintro (g | g)
    · exact g1 g
    · exact hne (hs.inj j k q1 o b1 hq1 hk (by rw [← e1]; exact hb1) g)
  · rcases hb1 with g | g
    · exact hs.old b1 g
    · exact .inr (hs.live k o b1 hk g).2
  · rcases hb1 with g | g
    · exact hs.lt b1 g
    · exact (hs.ob k o hk).lt g

/-- an own slice that stands in a cell of another object is frozen, ahead of a call -/
theorem HEnt.frzC {h : Hp} {k q sz n c : Nat} {b : Option Nat} {o O : Ob} {row : List V} (hk : h k = some o) (hq : h q = some O) (hO : O.rows = [row]) (hc : row[c]? = some (.own k b sz n)) (hb : o.b = b) (hsz : o.sz = sz) (hn : o.rows.length = n) (hz : ∀ r ∈ o.rows, ∀ v ∈ r, Fz v) :
    HEnt h (Hp.del (Hp.put h q ⟨O.b, O.ty, O.sz, [row.set c (.sl false sz o.rows)]⟩) k) := by
  refine HEnt.freeze hk hb hsz hn hz (fun j q' hj => ?_)
  simp only [Hp.del] at hj
  by_cases h1 : j = k
  · rw [if_pos h1] at hj; cases hj
  · rw [if_neg h1] at hj
    refine ⟨h1, ?_⟩
    simp only [Hp.put] at hj
    by_cases h2 : j = q
    · rw [if_pos h2] at hj
      cases hj
      refine ⟨O, by rw [h2]; exact hq, rfl, rfl, rfl, by rw [hO]; simp, fun i r r' e1 e3 => ?_⟩
      rw [hO] at e1
      cases i with
      | zero =>
        simp only [List.getElem?_cons_zero, Option.some.injEq] at e1 e3
        subst e1 e3
        refine ⟨by simp, fun l v v' e4 e5 => ?_⟩
        rw [List.getElem?_set] at e5
        by_cases hl : c = l
        · subst hl
          rw [if_pos rfl] at e5
          rw [hc] at e4
          cases e4
          split at e5
          · cases e5; exact .inr ⟨rfl, rfl⟩
          · cases e5
        · rw [if_neg hl, e4] at e5
          cases e5; exact .inl rfl
      | succ i => simp at e1
    · rw [if_neg h2] at hj
      exact ⟨q', hj, rfl, rfl, rfl, rfl, fun i r r' h1 h2 => by rw [h1] at h2; cases h2; exact ⟨rfl, fun l v v' h3 h4 => by rw [h3] at h4; cases h4; exact .inl rfl⟩⟩

end Go.Proofs.Ytobngncjflogcaa.AM

set_option linter.unusedSimpArgs false
set_option linter.unusedVariables false
namespace Go.Proofs.Ytobngncjflogcaa
open Go.RowKit

def bt (n : Nat) : UInt8 := UInt8.ofNat n
theorem bt_toNat (n : Nat) (h : n < 256) : (bt n).toNat = n := by
  unfold bt; rw [UInt8.toNat_ofNat']; omega

/-- a number as bytes (fuel: five bytes hold what may be) -/
def numF : Nat → Nat → List UInt8
  | 0, _ => []
  | f + 1, n => if n < 128 then [bt n] else bt (128 + n % 128) :: numF f (n / 128)
def numL (n : Nat) : List UInt8 := numF 5 n

theorem numF_small (f n : Nat) (h : n < 128) : numF (f + 1) n = [bt n] := by simp [numF, h]
theorem numF_large (f n : Nat) (h : ¬ n < 128) : numF (f + 1) n = bt (128 + n % 128) :: numF f (n / 128) := by simp [numF, h]

theorem numF_len (f n : Nat) : (numF f n).length ≤ f := by
  induction f generalizing n with
  | zero => simp [numF]
  | succ f ih =>
    unfold numF
    split
    · simp
    · have := ih (n / 128); simp; omega

/-- what bytes say -/
def val : List UInt8 → Nat
  | [] => 0
  | b :: r => b.toNat % 128 + 128 * val r
def hi (b : UInt8) : Bool := 128 ≤ b.toNat
/-- how many bytes go on -/
def lead (l : List UInt8) : Nat := (l.takeWhile hi).length

theorem lead_le (l : List UInt8) : lead l ≤ l.length := (List.takeWhile_sublist _).length_le
theorem lead_cons_hi (b : UInt8) (r : List UInt8) (h : 128 ≤ b.toNat) : lead (b :: r) = lead r + 1 := by
  have : hi b = true := by simp [hi, h]
  simp [lead, List.takeWhile_cons, this]
theorem lead_cons_lo (b : UInt8) (r : List UInt8) (h : b.toNat < 128) : lead (b :: r) = 0 := by
  have : hi b = false := by simp [hi]; omega
  simp [lead, List.takeWhile_cons, this]

/-- P17: what is read: the number, how many bytes, the error -/
def getS (l : List UInt8) : Int × Int × Int :=
  if 5 ≤ lead l then (0, 0, 3)
  else if lead l = l.length then (0, 0, 5)
  else if 2147483647 < val (l.take (lead l + 1)) ∨ (0 < lead l ∧ l[lead l]? = some 0) then (0, 0, 3)
  else (val (l.take (lead l + 1)), lead l + 1, 0)

/-- all bytes go on, but the last -/
inductive Word : List UInt8 → Prop
  | one (b : UInt8) : b.toNat < 128 → Word [b]
  | more (b : UInt8) (r : List UInt8) : 128 ≤ b.toNat → Word r → Word (b :: r)

theorem word_take : ∀ (l : List UInt8), lead l < l.length → Word (l.take (lead l + 1))
  | [], h => by simp at h
  | b :: r, h => by
    by_cases hb : 128 ≤ b.toNat
    · rw [lead_cons_hi b r hb] at h ⊢
      exact .more b _ hb (word_take r (by simp at h; omega))
    · rw [lead_cons_lo b r (by omega)]
      simpa using Word.one b (by omega)

theorem val_pos_of_word {l : List UInt8} (h : Word l) (hl : l.getLast? ≠ some 0) : 0 < val l := by
  induction h with
  | one b hb =>
    have : b ≠ 0 := fun e => hl (by simp [e])
    have : b.toNat ≠ 0 := fun e => this (UInt8.toNat_inj.1 (by simpa using e))
    simp [val]; omega
  | more b r hb hr ih =>
    have hr' : r ≠ [] := by cases hr <;> simp
    have := ih (by rwa [List.getLast?_cons_of_ne_nil hr'] at hl)
    simp [val]; omega

/-- a word is the number's own bytes just if its last byte is not 0, or it is alone -/
theorem num_of_word (f : Nat) : ∀ {l : List UInt8}, Word l → l.length ≤ f → (numF f (val l) = l ↔ (l.length = 1 ∨ l.getLast? ≠ some 0)) := by
  induction f with
  | zero => intro l h hl; cases h <;> simp at hl
  | succ f ih =>
    intro l h hl
    cases h with
    | one b hb =>
      have : val [b] = b.toNat := by simp [val]; omega
      rw [this, numF_small f _ hb]
      simp [bt, UInt8.ofNat_toNat]
    | more b r hb hr =>
      have hr' : r ≠ [] := by cases hr <;> simp
      have hlen : 1 ≤ r.length := by cases hr <;> simp
      have hb2 := b.toNat_lt
      rw [List.getLast?_cons_of_ne_nil hr']
      simp at hl
      have h1 : val (b :: r) / 128 = val r := by simp [val]; omega
      have h2 : 128 + val (b :: r) % 128 = b.toNat := by simp [val]; omega
      have hbt : bt (128 + val (b :: r) % 128) = b := by rw [h2]; simp [bt, UInt8.ofNat_toNat]
      constructor
      · intro e
        right
        intro hz
        by_cases hs : val (b :: r) < 128
        · rw [numF_small f _ hs] at e
          injection e with e1 e2
          exact hr' e2.symm
        · rw [numF_large f _ hs, h1] at e
          injection e with e1 e2
          rcases (ih hr hl).1 e2 with h3 | h3
          · match r, h3, hz with
            | [c], _, hz =>
              simp at hz
              subst hz
              simp [val] at hs
              omega
          · exact h3 hz
      · rintro (h3 | h3)
        · simp at h3; exact absurd h3 hr'
        · have hp := val_pos_of_word hr h3
          have hs : ¬ val (b :: r) < 128 := by have e : val (b :: r) = b.toNat % 128 + 128 * val r := rfl; omega
          rw [numF_large f _ hs, h1, hbt, (ih hr hl).2 (.inr h3)]

theorem val_snoc (l : List UInt8) (b : UInt8) : val (l ++ [b]) = val l + b.toNat % 128 * 128 ^ l.length := by
  induction l with
  | nil => simp [val]
  | cons c r ih =>
    simp only [List.cons_append, val, ih, List.length_cons, Nat.pow_succ]
    rw [Nat.mul_add, Nat.mul_comm (128 ^ r.length) 128, ← Nat.mul_assoc, ← Nat.mul_assoc, Nat.mul_comm 128 (b.toNat % 128)]
    omega

theorem val_lt (l : List UInt8) : val l < 128 ^ l.length := by
  induction l with
  | nil => simp [val]
  | cons c r ih => simp only [val, List.length_cons, Nat.pow_succ]; omega

/-- the bit word of a round of Get -/
theorem or_join (n x : Int) (i : Nat) (hi : i ≤ 4) (hn0 : 0 ≤ n) (hn1 : n < 128 ^ i) (hx0 : 0 ≤ x) (hx1 : x < 128) : bits .or .i64 n (x * 128 ^ i) = n + x * 128 ^ i := by
  have hc : bits .or .i64 n (x * 128 ^ i) = bits .or .i64 (x * 128 ^ i) n := by simp only [bits, BitVec.or_comm]
  have e : (128 : Int) ^ i = 2 ^ (7 * i) := by rw [Int.pow_mul]; rfl
  have wraps : ∀ n : Int, 0 ≤ n → n < 2 ^ 62 → IntKind.i64.wrap n = n := fun n h0 h1 => by rw [IntKind.wrap_i64]; omega
  have hp : (128 : Int) ^ i ≤ 268435456 := by
    have h : 128 ^ i ≤ 128 ^ 4 := Nat.pow_le_pow_right (by decide) hi
    have h2 : ((128 ^ i : Nat) : Int) ≤ 268435456 := by omega
    rwa [Int.natCast_pow] at h2
  have hp0 : (0 : Int) < 128 ^ i := Int.pow_pos (by decide)
  have hx : x * 128 ^ i ≤ 127 * 128 ^ i := Int.mul_le_mul_of_nonneg_right (by omega) (by omega)
  have hxn : 0 ≤ x * 128 ^ i := Int.mul_nonneg hx0 (by omega)
  rw [hc, bits_join .i64 62 (by decide) wraps (7 * i) (x * 128 ^ i) n hxn (by rw [e]; exact Int.mul_emod_left _ _) (by omega) hn0 (by rw [← e]; exact hn1) (by omega)]
  omega

theorem or128_nat : ∀ a : Nat, a < 256 → a ||| 128 = 128 + a % 128 := by decide +kernel
theorem or128 (m : Nat) : bits .or .u8 ((m : Int) % 256) 128 = 128 + (m : Int) % 128 := by
  have h1 : ((m : Int) % 256) = ((m % 256 : Nat) : Int) := by omega
  have h2 := u8_or_nat (m % 256) 128 (by omega) (by omega)
  rw [h1]
  refine h2.trans ?_
  rw [or128_nat _ (by omega)]
  omega

/-- the cells of a slice of bytes -/
def byteVals (l : List UInt8) : List Value := l.map (fun b => .int .u8 b.toNat)
theorem byteVals_snoc (l : List UInt8) (b : UInt8) : byteVals (l ++ [b]) = byteVals l ++ [.int .u8 b.toNat] := by simp [byteVals]

theorem lead_ge : ∀ (l : List UInt8) (k : Nat), k ≤ l.length → (∀ j (h : j < l.length), j < k → 128 ≤ l[j].toNat) → k ≤ lead l
  | _, 0, _, _ => Nat.zero_le _
  | [], k + 1, h, _ => by simp at h
  | b :: r, k + 1, h, H => by
    have hb : 128 ≤ b.toNat := H 0 (by simp) (by omega)
    rw [lead_cons_hi b r hb]
    have := lead_ge r k (by simpa using h) (fun j hj hjk => H (j + 1) (by simp; omega) (by omega))
    omega

theorem lead_at_list : ∀ (l : List UInt8) (k : Nat) (h : k < l.length), (∀ j (h : j < l.length), j < k → 128 ≤ l[j].toNat) → l[k].toNat < 128 → lead l = k
  | [], k, h, _, _ => by simp at h
  | b :: r, 0, _, _, hb => lead_cons_lo b r (by simpa using hb)
  | b :: r, k + 1, h, H, hb => by
    have hb0 : 128 ≤ b.toNat := H 0 (by simp) (by omega)
    rw [lead_cons_hi b r hb0, lead_at_list r k (by simpa using h) (fun j hj hjk => H (j + 1) (by simp; omega) (by omega)) (by simpa using hb)]

def HiTo (s : ByteArray) (k : Nat) : Prop := ∀ j (h : j < s.size), j < k → 128 ≤ s[j].toNat
theorem HiTo.list {s : ByteArray} {k : Nat} (H : HiTo s k) : ∀ j (h : j < s.data.toList.length), j < k → 128 ≤ (s.data.toList)[j].toNat := fun j h hj => by
  have := H j (by simpa using h) hj
  rw [Array.getElem_toList]; exact this
theorem HiTo.snoc {s : ByteArray} {k : Nat} (H : HiTo s k) (h : k < s.size) (hb : 128 ≤ s[k].toNat) : HiTo s (k + 1) := fun j hj hjk => by
  by_cases e : j = k
  · subst e; exact hb
  · exact H j hj (by omega)
theorem lead_at (s : ByteArray) (k : Nat) (h : k < s.size) (H : HiTo s k) (hb : s[k].toNat < 128) : lead s.data.toList = k :=
  lead_at_list _ k (by simpa using h) H.list (by rw [Array.getElem_toList]; exact hb)
theorem len_data (s : ByteArray) : s.data.toList.length = s.size := by simp
theorem lead_end (s : ByteArray) (H : HiTo s s.size) : lead s.data.toList = s.size :=
  Nat.le_antisymm (by rw [← len_data]; exact lead_le _) (lead_ge _ _ (by simp) H.list)
theorem lead_five (s : ByteArray) (h : 4 < s.size) (H : HiTo s 5) : 5 ≤ lead s.data.toList := lead_ge _ _ (by simp; omega) H.list
theorem data_at (s : ByteArray) (k : Nat) (h : k < s.size) : s.data.toList[k]? = some s[k] := by
  rw [List.getElem?_eq_getElem (by simpa using h)]; simp; rfl

/-- what Get answers, case by case -/
theorem getS_ok (s : ByteArray) (k : Nat) (h : k < s.size) (hk : k ≤ 4) (H : HiTo s k) (hb : s[k].toNat < 128) (hz : s[k].toNat ≠ 0 ∨ k = 0) (hv : val (s.data.toList.take (k + 1)) ≤ 2147483647) :
    getS s.data.toList = ((val (s.data.toList.take (k + 1)) : Int), (k : Int) + 1, 0) := by
  unfold getS
  rw [lead_at s k h H hb, len_data, if_neg (by omega), if_neg (by omega), if_neg]
  rw [data_at s k h]
  rintro (h1 | ⟨h1, h2⟩)
  · omega
  · have : s[k].toNat = 0 := by injection h2 with h2; rw [h2]; rfl
    omega
theorem getS_zero (s : ByteArray) (k : Nat) (h : k < s.size) (hk : k ≤ 4) (H : HiTo s k) (hb : s[k].toNat = 0) (hz : k ≠ 0) : getS s.data.toList = (0, 0, 3) := by
  unfold getS
  rw [lead_at s k h H (by omega), len_data, if_neg (by omega), if_neg (by omega), if_pos]
  rw [data_at s k h]
  exact .inr ⟨by omega, congrArg some (UInt8.toNat_inj.1 hb)⟩
theorem getS_big (s : ByteArray) (k : Nat) (h : k < s.size) (hk : k ≤ 4) (H : HiTo s k) (hb : s[k].toNat < 128) (hv : 2147483647 < val (s.data.toList.take (k + 1))) : getS s.data.toList = (0, 0, 3) := by
  unfold getS
  rw [lead_at s k h H hb, len_data, if_neg (by omega), if_neg (by omega), if_pos (.inl hv)]
theorem getS_five (s : ByteArray) (h : 4 < s.size) (H : HiTo s 5) : getS s.data.toList = (0, 0, 3) := by
  unfold getS
  rw [if_pos (lead_five s h H)]
theorem getS_short (s : ByteArray) (h : s.size ≤ 4) (H : HiTo s s.size) : getS s.data.toList = (0, 0, 5) := by
  unfold getS
  rw [lead_end s H, len_data, if_neg (by omega), if_pos rfl]

/-- the number after a round -/
theorem get_word (s : ByteArray) (k : Nat) (h : k < s.size) (hk : k ≤ 4) :
    bits .or .i64 (val (s.data.toList.take k) : Int) (wrap64 ((s[k].toNat : Int) % 128 * 2 ^ (7 * k))) = (val (s.data.toList.take (k + 1)) : Int) := by
  have hl : (s.data.toList.take k).length = k := by simp; omega
  have e : s.data.toList.take (k + 1) = s.data.toList.take k ++ [s[k]] := by
    rw [List.take_succ_eq_append_getElem (by simpa using h)]; rfl
  have hv := val_lt (s.data.toList.take k)
  rw [hl] at hv
  rw [e, val_snoc, hl]
  have ep : (2 : Int) ^ (7 * k) = 128 ^ k := by rw [Int.pow_mul]; rfl
  have hp : (128 : Int) ^ k ≤ 268435456 := by
    have h : 128 ^ k ≤ 128 ^ 4 := Nat.pow_le_pow_right (by decide) hk
    have h2 : ((128 ^ k : Nat) : Int) ≤ 268435456 := by omega
    rwa [Int.natCast_pow] at h2
  have hp0 : (0 : Int) < 128 ^ k := Int.pow_pos (by decide)
  have hx : (s[k].toNat : Int) % 128 * 128 ^ k ≤ 127 * 128 ^ k := Int.mul_le_mul_of_nonneg_right (by omega) (by omega)
  have hx0 : 0 ≤ (s[k].toNat : Int) % 128 * 128 ^ k := Int.mul_nonneg (by omega) (by omega)
  have hv2 : (val (s.data.toList.take k) : Int) < 128 ^ k := by
    have : ((val (s.data.toList.take k) : Nat) : Int) < ((128 ^ k : Nat) : Int) := by omega
    rwa [Int.natCast_pow] at this
  rw [ep, IntWalk.wrap64_in _ ⟨by omega, by omega⟩, or_join _ _ k hk (by omega) hv2 (by omega) (by omega)]
  rw [Int.natCast_add, Int.natCast_mul, Int.natCast_pow]
  rfl



end Go.Proofs.Ytobngncjflogcaa

set_option linter.unusedVariables false
set_option linter.unusedSimpArgs false
namespace Go.Proofs.Ytobngncjflogcaa




theorem take_snoc (s : ByteArray) (k : Nat) (h : k < s.size) : s.data.toList.take (k + 1) = s.data.toList.take k ++ [s[k]] := by
  rw [List.take_succ_eq_append_getElem (by simpa using h)]; rfl

theorem ret_int {k : IntKind} {a b : Int} (h : a = b) : Ending.returned (.int k a) = .returned (.int k b) := by rw [h]
end Go.Proofs.Ytobngncjflogcaa

set_option linter.unusedVariables false
set_option linter.unusedSimpArgs false
namespace Go.Proofs.Ytobngncjflogcaa
open Go.RowKit

theorem Try.info_byte : (Try.prog.info? 5).map (fun i => (i.zero, i.size, i.bytes)) = some (some (.int .u8 0), 1, 1) := by kernel_rfl




end Go.Proofs.Ytobngncjflogcaa

set_option linter.unusedVariables false
set_option linter.unusedSimpArgs false
namespace Go.Proofs.Ytobngncjflogcaa
open Go.RowKit

/-- what the program's tables say of a slice type T and its element type e -/
structure ElemRow (P : Program) (T e : TypeId) (z : Value) (size bytes : Nat) : Prop where
  under : P.underlying T = some (.slice e)
  info : (P.info? e).map (fun i => (i.zero, i.size, i.bytes)) = some (some z, size, bytes)
  cells : z.cells.size = size
  pos : 0 < size
  bpos : 0 < bytes

section
variable {P : Program} {T e : TypeId} {z : Value} {size bytes : Nat}

theorem grown_below {w w' : World} {base n : Nat} {v : Value} {xs : List Value} (hown : w.ownsRow base e size v n xs) (hg : w.grownBy w' v.ownBlock) (hb : base ≤ w.heap.size) : Below base w w' :=
  (Below.refl base w).grown hg hb (fun k hk => (hown.lt k hk).1)

/-- append of what lies at an address -/
theorem wpList_app (E : ElemRow P T e z size bytes) {w : World} {ops : Array Oper} {rest : List Oper} {o : Oper} {a : Act} {Q : Exit → Act → World → Prop} (hgd : o.guard = none) (s x : Operand)
    (ho : o.op = .call { callee := .builtin .append, args := #[s, x], argTypes := #[T, T] })
    {base n : Nat} {v : Value} {xs : List Value} (hs : a.eval s = v) (hown : w.ownsRow base e size v n xs)
    {ad : Addr} {m c : Nat} {news : List Value} (hx : a.eval x = .slice (some ad) m c) (hl : news.length = m * size) (hnews : ∀ j u, news[j]? = some u → w.cell? (ad.add j) = some u) (h1 : ∀ u ∈ news, u.oneCell' = true)
    (hbytes : (n + m) * bytes ≤ 140737488355328) (hbase : base ≤ w.heap.size)
    (h : ∀ v' w', w'.ownsRow base e size v' (n + m) (xs ++ news) → Below base w w' → w.grownBy w' v.ownBlock → wpList P ops Q rest (a.put o.dst v') w') : wpList P ops Q (o :: rest) a w := by
  obtain ⟨i, hi, hz, hsz, hby⟩ := info_parts E.info
  have h63 : n + m ≤ maxLen := by
    have := Nat.le_trans (Nat.le_mul_of_pos_right (n + m) E.bpos) hbytes
    simp only [maxLen]; omega
  exact wpList_append_own w hgd s x T ho base e i z size bytes E.under hi hz hsz hby E.cells E.pos v n xs hs hown ad m c news hx hl hnews h1 h63 hbytes hbase
    (fun v' w' h2 h3 _ => h v' w' h2 (grown_below hown h3 hbase) h3)

/-- append of one element that was just built -/
theorem wpList_app1 (E : ElemRow P T e z size bytes) {w : World} {cs : Array Value} {ops : Array Oper} {rest : List Oper} {o : Oper} {a : Act} {Q : Exit → Act → World → Prop} (hgd : o.guard = none) (s x : Operand)
    (ho : o.op = .call { callee := .builtin .append, args := #[s, x], argTypes := #[T, T] })
    {base n : Nat} {v : Value} {xs : List Value} (hs : a.eval s = v) (hown : w.ownsRow base e size v n xs)
    (hx : a.eval x = .slice (some ⟨w.heap.size, 0, none⟩) 1 1) (hl : cs.size = size) (h1 : cs.toList.all (·.oneCell') = true)
    (hbytes : (n + 1) * bytes ≤ 140737488355328) (hbase : base ≤ w.heap.size)
    (h : ∀ v' w', w'.ownsRow base e size v' (n + 1) (xs ++ cs.toList) → Below base w w' → w.grownBy w' v.ownBlock → wpList P ops Q rest (a.put o.dst v') w') : wpList P ops Q (o :: rest) a (w.alloc (.cells cs e)) := by
  refine wpList_app E hgd s x ho hs (hown.alloc _) hx (news := cs.toList) (by simp [hl]) (fun j u hj => ?_) (fun u hu => ?_) hbytes (by simp; omega) (fun v' w' h2 h3 h4 => ?_)
  · rw [Addr.add_lit, Nat.zero_add, World.cell?_alloc_new]
    simpa using hj
  · exact (List.all_eq_true.1 h1) u hu
  · exact h v' w' h2 (((Below.refl base w).alloc hbase _).trans h3) ⟨h4.os, h4.tape, h4.output, Nat.le_trans (by simp) h4.size, fun k hk hne => (h4.block k (by simp; omega) hne).trans (Below.heap_alloc w _ k hk)⟩
end



def BW (B : Nat) (w : World) : Type := { x : World // Below B w x }
def BW.val {B : Nat} {w : World} (x : BW B w) : World := Subtype.val x
theorem BW.below {B : Nat} {w : World} (x : BW B w) : Below B w x.val := Subtype.property x
theorem BW.ne (B : Nat) (w : World) : Nonempty (BW B w) := ⟨⟨w, Below.refl _ _⟩⟩


theorem BW.call {P : Program} {f : FuncId} {args : Array Value} {B : Nat} {w : World} {x : BW B w} {v : Value} (hB : B ≤ w.heap.size)
    (h : Calls P f args x.val fun e w' => e = .returned v ∧ Below x.val.heap.size x.val w') : Calls P f args x.val fun e w'' => e = .returned v ∧ ∃ y : BW B w, w'' = y.val :=
  h.mono fun _ w' ⟨he, hb⟩ => ⟨he, ⟨w', x.below.trans (hb.mono (Nat.le_trans hB x.below.size))⟩, rfl⟩

section
variable {w : World} {g b o : Nat} {T : TypeId} {cs : Array Value} {s : Option Nat} {v : Value}
@[go_sem, simp] theorem size_ob : (w.ob g T cs).heap.size = w.heap.size := by simp [World.ob]
theorem heap_ob_same (h : g < w.heap.size) : (w.ob g T cs).heap[g]? = some (.cells cs T (0, 0)) := by simp [World.ob, h]
theorem heap_ob_other (h : b ≠ g) : (w.ob g T cs).heap[b]? = w.heap[b]? := by
  simp only [World.ob, Array.getElem?_setIfInBounds]
  rw [if_neg (fun e => h e.symm)]
@[go_sem] theorem cell?_ob_same (h : g < w.heap.size) : (w.ob g T cs).cell? ⟨g, o, none⟩ = cs[o]? := by
  simp [World.cell?, heap_ob_same h]
@[go_sem] theorem cell?_ob_other {sp} (h : b ≠ g) : (w.ob g T cs).cell? ⟨b, o, sp⟩ = w.cell? ⟨b, o, sp⟩ := by
  simp [World.cell?, heap_ob_other h]
@[go_sem] theorem frozen?_ob_same {sp} : (w.ob g T cs).frozen? ⟨g, o, sp⟩ = false := by
  by_cases h : g < w.heap.size
  · simp [World.frozen?, heap_ob_same h]
  · have : (w.ob g T cs).heap[g]? = none := by rw [Array.getElem?_eq_none]; simp; omega
    simp [World.frozen?, this]
@[go_sem] theorem frozen?_ob_other {sp} (h : b ≠ g) : (w.ob g T cs).frozen? ⟨b, o, sp⟩ = w.frozen? ⟨b, o, sp⟩ := by
  simp [World.frozen?, heap_ob_other h]
@[go_sem] theorem setCell_ob_same : (w.ob g T cs).setCell ⟨g, o, none⟩ v = w.ob g T (cs.setIfInBounds o v) := by
  simp only [World.ob, World.setCell]
  congr 1
  apply Array.ext_getElem?
  intro i
  simp only [Array.getElem?_modify, Array.getElem?_setIfInBounds, Array.size_setIfInBounds]
  by_cases h : g = i
  · subst h
    by_cases hs : g < w.heap.size <;> simp [hs]
  · simp [h]
@[go_sem] theorem setCell_ob_other {sp} (h : b ≠ g) : (w.ob g T cs).setCell ⟨b, o, sp⟩ v = (w.setCell ⟨b, o, sp⟩ v).ob g T cs := by
  simp only [World.ob, World.setCell]
  congr 1
  apply Array.ext_getElem?
  intro i
  simp only [Array.getElem?_modify, Array.getElem?_setIfInBounds, Array.size_modify]
  by_cases h1 : g = i
  · subst h1; simp [h]
  · simp [h1]
@[go_sem] theorem ob_drew : w.drew.ob g T cs = (w.ob g T cs).drew := rfl
@[go_sem] theorem ob_drewN {n : Nat} : (w.drewN n).ob g T cs = (w.ob g T cs).drewN n := rfl
@[go_sem] theorem setCell_drewN {n : Nat} {a : Addr} : (w.drewN n).setCell a v = (w.setCell a v).drewN n := rfl
@[go_sem] theorem alloc_drewN {n : Nat} {x : Obj} : (w.drewN n).alloc x = (w.alloc x).drewN n := rfl
theorem ob_self (h : w.heap[g]? = some (.cells cs T (0, 0))) : w.ob g T cs = w := by
  obtain ⟨hlt, he⟩ := Array.getElem?_eq_some_iff.1 h
  have : w.heap.setIfInBounds g (.cells cs T (0, 0)) = w.heap := by
    apply Array.ext_getElem?
    intro i
    rw [Array.getElem?_setIfInBounds]
    by_cases e : g = i
    · subst e; simp [hlt, he]
    · rw [if_neg e]
  simp [World.ob, this]
end
theorem below_ob {B : Nat} {a w : World} (h : Below B a w) {g : Nat} (hg : B ≤ g) (T : TypeId) (cs : Array Value) : Below B a (w.ob g T cs) :=
  h.trans ⟨rfl, rfl, rfl, by simp, fun k hk => heap_ob_other (by omega)⟩
@[go_sem] theorem heap_alloc_at {w : World} {x : Obj} {n : Nat} (h : n = w.heap.size) : (w.alloc x).heap[n]? = some x := by subst h; exact heap_alloc_new w x
@[go_sem] theorem heap_alloc_past {w : World} {x : Obj} {n : Nat} (h : n < w.heap.size) : (w.alloc x).heap[n]? = w.heap[n]? := Below.heap_alloc w x n h
/-- behind a call: the own structs are as they were -/
theorem reob1 {B : Nat} {W w1 : World} (hb : Below B W w1) {g0 : Nat} {T0 : TypeId} {c0 : Array Value} (h0 : g0 < B) (e0 : W.heap[g0]? = some (.cells c0 T0 (0, 0))) :
    ∃ w2, w1 = w2.ob g0 T0 c0 ∧ Below B W w2 :=
  ⟨w1, (ob_self ((hb.block _ h0).trans e0)).symm, hb⟩
end Go.Proofs.Ytobngncjflogcaa

set_option linter.unusedVariables false
set_option linter.unusedSimpArgs false
namespace Go.Proofs.Ytobngncjflogcaa
open Go.RowKit

theorem put_bad (n : Int) (w : World) (h : n < 0 ∨ 2147483647 < n) :
    Calls Try.prog 114 #[.int .i64 n] w fun e w' => e = .returned (.tuple #[.string ⟨#[]⟩, .int .i64 1]) ∧ w = w' := by
  rcases (show n < 0 ∨ (0 ≤ n ∧ 2147483647 < n) by omega) with h1 | ⟨h1, h2⟩
  all_goals
    clear h
    go_enter Try.func114, Try.ntmps114
    go_wp2_with fail
    go_ret2
    exact ⟨rfl, rfl⟩

theorem conv_own (w : World) (base : Nat) (v : Value) (l : List UInt8) (h : w.ownsRow base 5 1 v l.length (byteVals l)) (hl : 0 < l.length) :
    (convert 111 9 v).run Try.prog w = .ok (.string ⟨l.toArray⟩) w := by
  obtain ⟨h1, h2⟩ := h
  rcases h2 with ⟨_, h0⟩ | ⟨g, cap, cur, rfl, hg, hh, hn, hcap, hsz, htake⟩
  · omega
  · refine run_convert_bytes_back (P := Try.prog) w 111 9 5 ⟨g, 0, none⟩ cap l Try.underlying111 Try.underlying5 Try.underlying9 (fun j hj => ?_)
    have hc := World.ownsRow.cells (w := w) (base := base) (e := 5) (size := 1) (v := .slice (some ⟨g, 0, none⟩) l.length cap) (n := l.length) (xs := byteVals l) ⟨h1, .inr ⟨g, cap, cur, rfl, hg, hh, hn, hcap, hsz, htake⟩⟩ (g := g) rfl j (.int .u8 (l[j].toNat : Int)) (by simp [byteVals, hj])
    exact hc

theorem Try.row_bytes : ElemRow Try.prog 111 5 (.int .u8 0) 1 1 := ⟨Try.underlying111, Try.info_byte, rfl, by decide, by decide⟩

set_option maxRecDepth 100000 in
set_option maxHeartbeats 1000000 in
theorem put_ok (n : Int) (w : World) (h0 : 0 ≤ n) (h1 : n ≤ 2147483647) :
    Calls Try.prog 114 #[.int .i64 n] w fun e w' => e = .returned (.tuple #[.string ⟨(numL n.toNat).toArray⟩, .int .i64 0]) ∧ Below w.heap.size w w' := by
  go_enter Try.func114, Try.ntmps114
  go_wp2_with fail
  go_loopw [0, 4] (fun m v wr => ∃ (k : Nat) (xs : List UInt8) (g : Nat), (k : Int) ≤ 2147483647 ∧ m = .int .i64 k ∧ wr.ownsRow w.heap.size 5 1 v xs.length (byteVals xs) ∧ Below w.heap.size w wr ∧ xs.length + g = 4 ∧ k < 128 ^ (g + 1) ∧ Hid (numL n.toNat = xs ++ numF (g + 1) k)) (fun m _ _ => (intOf m).toNat)
  case atStart => exact ⟨n.toNat, [], 4, by omega, by rw [Int.toNat_of_nonneg h0], World.ownsRow_nil _ _ _ _, Below.refl _ _, rfl, by omega, rfl⟩
  case round =>
    obtain ⟨k, xs, g, hk, rfl, hown, hb, hg, hkg, HN⟩ := hrel
    have hxl : xs.length ≤ 4 := by omega
    by_cases hlt : k < 128
    · have hs1 : (k : Int) < 128 := by omega
      have HF := Lib.hid (numF_small g k hlt)
      have hcl := hb.size
      clear hkg
      go_wp2_with (at_builtin; go_must (refine wpList_app1 Try.row_bytes rfl (.tmp 21) (.tmp 24) rfl rfl hown rfl rfl rfl (by omega) hb.size ?_); intro v1 w1 hown1 hb1 hg1; have hcv := conv_own w1 w.heap.size v1 (xs ++ [bt k]) (by simpa [byteVals_snoc, bt_toNat k (by omega)] using hown1) (by simp))
      go_ret2
      exact ⟨by rw [HN.out, HF.out]; rfl, hb.trans hb1⟩
    · have hor := or128 k
      have HF := Lib.hid (numF_large g k hlt)
      have hs1 : (128 : Int) ≤ k := by omega
      have hg0 : g ≠ 0 := by
        rintro rfl
        omega
      obtain ⟨g', rfl⟩ : ∃ g', g = g' + 1 := ⟨g - 1, by omega⟩
      have HK : Hid (k / 128 < 128 ^ (g' + 1)) := by
        show _ < _
        rw [Nat.pow_succ] at hkg
        exact Nat.div_lt_of_lt_mul (by omega)
      have HG : Hid (xs.length + (g' + 1) = 4) := hg
      clear hkg hg hg0
      go_wp2_with (at_builtin; refine wpList_app1 Try.row_bytes rfl (.tmp 13) (.tmp 17) rfl rfl hown rfl rfl rfl (by omega) hb.size ?_; intro v1 w1 hown1 hb1 hg1)
      go_roundw
      case rel => exact ⟨k / 128, xs ++ [bt (128 + k % 128)], g', by omega, by go_num, by simpa [byteVals_snoc, bt_toNat (128 + k % 128) (by omega)] using hown1, hb.trans hb1, by have := HG.out; simp; omega, HK.out, by show _ = _; rw [HN.out, HF.out]; simp⟩
      case measure => simp [intOf]; omega
end Go.Proofs.Ytobngncjflogcaa

set_option linter.unusedVariables false
set_option linter.unusedSimpArgs false
namespace Go.Proofs.Ytobngncjflogcaa
open Go.RowKit

set_option maxRecDepth 100000 in
set_option maxHeartbeats 1000000 in
theorem get_any (s : ByteArray) (w : World) (hs : s.size ≤ maxLen) :
    Calls Try.prog 118 #[.string s] w fun e w' => e = .returned (.tuple #[.int .i64 (getS s.data.toList).1, .int .i64 (getS s.data.toList).2.1, .int .i64 (getS s.data.toList).2.2]) ∧ w = w' := by
  unfold maxLen at hs
  go_enter Try.func118, Try.ntmps118
  go_wp2
  go_loop [5, 10] (fun n i => ∃ k : Nat, k ≤ s.size ∧ k ≤ 4 ∧ i = .int .i64 k ∧ n = .int .i64 (val (s.data.toList.take k)) ∧ HiTo s k) (fun _ i => s.size - (intOf i).toNat)
  case atStart => exact ⟨0, Nat.zero_le _, by omega, rfl, rfl, fun j h hj => by omega⟩
  case round =>
    obtain ⟨k, hk, hk4, rfl, rfl, HH⟩ := hrel
    by_cases hlt : k < s.size
    · have hbyte : s[k].toNat < 256 := s[k].toNat_lt
      have h127 := i64_and127 (s[k].toNat : Int)
      have hN := get_word s k hlt hk4
      have hvl : val (s.data.toList.take (k + 1)) < 34359738368 := by
        have h1 := val_lt (s.data.toList.take (k + 1))
        have h2 : (s.data.toList.take (k + 1)).length ≤ 5 := by simp; omega
        have h3 := Nat.pow_le_pow_right (show 0 < 128 by decide) h2
        omega
      by_cases hb : s[k].toNat < 128
      · by_cases hz : s[k].toNat = 0 ∧ k ≠ 0
        · have HF := Lib.hid (getS_zero s k hlt hk4 HH hz.1 hz.2)
          have t1 : ((s[k].toNat : Int) == 0) = true := by rw [beq_iff_eq]; omega
          have t2 : (0 : Int) < k := by omega
          clear hz
          generalize val (s.data.toList.take (k + 1)) = N at hN hvl
          go_wp2
          go_ret3
          exact ⟨by rw [HF.out]; rfl, rfl⟩
        · by_cases hv : val (s.data.toList.take (k + 1)) ≤ 2147483647
          · have HF := Lib.hid (getS_ok s k hlt hk4 HH hb (by omega) hv)
            generalize val (s.data.toList.take (k + 1)) = N at hN hvl HF hv
            by_cases h0 : s[k].toNat = 0
            · have hk0 : k = 0 := by omega
              subst hk0
              have HF2 : Hid (getS s.data.toList = ((N : Int), 1, 0)) := HF.out
              have t1 : ((s[0].toNat : Int) == 0) = true := by rw [beq_iff_eq]; omega
              have hN0 : bits BinOp.or IntKind.i64 (val [] : Int) ((s[0].toNat : Int) % 128) = (N : Int) := by
                rw [← hN]
                have e : ((s[0].toNat : Int) % (128 : Int) * (2 : Int) ^ (7 * 0)) = (s[0].toNat : Int) % (128 : Int) := by simp
                rw [e, IntWalk.wrap64_in _ ⟨by omega, by omega⟩]
                rfl
              clear hz h0 HF hN
              go_wp2
              go_ret3
              exact ⟨by rw [HF2.out]; rfl, rfl⟩
            · have t1 : ((s[k].toNat : Int) == 0) = false := by rw [beq_eq_false_iff_ne]; omega
              clear hz h0
              go_wp2
              go_ret3
              exact ⟨by rw [HF.out]; rfl, rfl⟩
          · have HF := Lib.hid (getS_big s k hlt hk4 HH hb (by omega))
            by_cases h0 : s[k].toNat = 0
            · have hk0 : k = 0 := by omega
              have h1 := val_lt (s.data.toList.take (k + 1))
              have h2 : (s.data.toList.take (k + 1)).length ≤ 1 := by simp; omega
              have h3 := Nat.pow_le_pow_right (show 0 < 128 by decide) h2
              omega
            · have t1 : ((s[k].toNat : Int) == 0) = false := by rw [beq_eq_false_iff_ne]; omega
              generalize val (s.data.toList.take (k + 1)) = N at hN hvl HF hv
              clear hz h0
              go_wp2
              go_ret3
              exact ⟨by rw [HF.out]; rfl, rfl⟩
      · have HS := Lib.hid (HH.snoc hlt (by omega))
        by_cases h4 : k = 4
        · have HF := Lib.hid (getS_five s (by omega) (by have := HS.out; rwa [h4] at this))
          have t1 : ((k : Int) == 4) = true := by rw [beq_iff_eq]; omega
          clear h4
          generalize val (s.data.toList.take (k + 1)) = N at hN hvl
          go_wp2
          go_ret3
          exact ⟨by rw [HF.out]; rfl, rfl⟩
        · have t1 : ((k : Int) == 4) = false := by rw [beq_eq_false_iff_ne]; omega
          have hk3 : k ≤ 3 := by omega
          clear h4
          generalize hV : val (s.data.toList.take (k + 1)) = N at hN hvl
          have HV := Lib.hid hV
          clear hV
          go_wp2
          go_round
          case rel => exact ⟨k + 1, by omega, by omega, by go_num, congrArg _ (congrArg _ HV.out.symm), HS.out⟩
          case measure => simp [intOf]; omega
    · have HF := Lib.hid (getS_short s (by omega) (fun j hj _ => HH j hj (by omega)))
      go_wp2
      go_ret3
      exact ⟨by rw [HF.out]; rfl, rfl⟩
end Go.Proofs.Ytobngncjflogcaa

set_option linter.unusedVariables false
set_option linter.unusedSimpArgs false
namespace Go.Proofs.Ytobngncjflogcaa.AM
open Go Go.RowKit
theorem us_one {f : Value → Prop} {F B : Nat → Prop} {w : World} {us : Array Value} {v : V} {u0 : Value} (hl : us.size = [v].length) (hr : ∀ (i : Nat) (x : V) (u : Value), [v][i]? = some x → us[i]? = some u → Rel F B w x u) (h : ∀ u, Rel F B w v u → u = u0) : us = #[u0] := by
  match us, hl with
  | ⟨[u]⟩, _ =>
    have := h u (hr 0 v u rfl rfl)
    rw [this]
theorem rel_int {F B : Nat → Prop} {w : World} {k : IntKind} {n : Int} {u : Value} (h : Rel F B w (.int k n) u) : u = .int k n := by cases h; rfl
theorem rel_str {F B : Nat → Prop} {w : World} {l : List UInt8} {u : Value} (h : Rel F B w (.str l) u) : u = .string ⟨l.toArray⟩ := by cases h; rfl
def putF (n : Int) : List UInt8 × Int := if n < 0 ∨ 2147483647 < n then ([], 1) else (numL n.toNat, 0)
theorem below_rfl (w : World) : Below w.heap.size w w := by (repeat (first | (with_reducible exact Below.refl _ _) | (with_reducible assumption) | (with_reducible refine Below.drew ?_) | (with_reducible refine below_drewN ?_ _) | ((with_reducible refine Below.alloc ?_ ?_ _); rotate_left; (focus (first | omega | (simp; done) | (simp; omega)))) | ((with_reducible refine Below.setCell ?_ ?_ _); rotate_left; (focus (first | omega | (simp; done) | (simp; omega)))) | ((with_reducible refine below_ob ?_ ?_ _ _); rotate_left; (focus (first | omega | (simp; done) | (simp; omega))))))
theorem sp_nput (n : Int) : Spec Try.prog 114 [.int .i64 n] Hp.emp (Is (.tup [.str (putF n).1, .int .i64 (putF n).2])) :=
  spec_of_calls (us0 := #[.int .i64 n]) ⟨Try.f114, Try.func114, by decide +kernel, Option.isSome_iff_exists.1 (by decide +kernel)⟩
    (fun F B w us hl hr => us_one (f := fun _ => True) hl hr fun u h => rel_int h)
    (u0 := .tuple #[.string ⟨(putF n).1.toArray⟩, .int .i64 (putF n).2])
    (fun F B w => .tup _ _ rfl fun i v u hv hu => by
      match i with
      | 0 => simp at hv hu; subst hv hu; exact .str _
      | 1 => simp at hv hu; subst hv hu; exact .int _ _
      | i + 2 => simp at hv)
    (fun w => by
      unfold putF
      split
      · rename_i h
        refine (put_bad n w h).mono ?_
        rintro e w' ⟨rfl, rfl⟩
        exact ⟨rfl, below_rfl _⟩
      · rename_i h
        exact put_ok n w (by omega) (by omega))
theorem tri_rel {F B : Nat → Prop} {w : World} (a b c : Int) : Rel F B w (.tup [.int .i64 a, .int .i64 b, .int .i64 c]) (.tuple #[.int .i64 a, .int .i64 b, .int .i64 c]) := .tup _ _ rfl fun i v u hv hu => by
  match i with
  | 0 => simp at hv hu; subst hv hu; exact .int _ _
  | 1 => simp at hv hu; subst hv hu; exact .int _ _
  | 2 => simp at hv hu; subst hv hu; exact .int _ _
  | i + 3 => simp at hv
theorem sp_nget (s : List UInt8) (hs : s.length ≤ maxLen) : Spec Try.prog 118 [.str s] Hp.emp (Is (.tup [.int .i64 (getS s).1, .int .i64 (getS s).2.1, .int .i64 (getS s).2.2])) :=
  spec_of_calls (us0 := #[.string ⟨s.toArray⟩]) ⟨Try.f118, Try.func118, by decide +kernel, Option.isSome_iff_exists.1 (by decide +kernel)⟩
    (fun F B w us hl hr => us_one (f := fun _ => True) hl hr fun u h => rel_str h) (fun F B w => tri_rel _ _ _)
    (fun w => by
      refine (get_any ⟨s.toArray⟩ w (by simpa [ByteArray.size] using hs)).mono ?_
      rintro e w' ⟨rfl, rfl⟩
      exact ⟨rfl, below_rfl _⟩)
theorem numL_len (n : Nat) : (numL n).length ≤ 5 := numF_len 5 n
/-- what was read was written so, and no other way -/
theorem getS_num {s : List UInt8} (h : (getS s).2.2 = 0) : ∃ k : Nat, (getS s).2.1 = k ∧ 0 < k ∧ k ≤ s.length ∧ k ≤ 5 ∧ 0 ≤ (getS s).1 ∧ (getS s).1 ≤ 2147483647 ∧ numL (getS s).1.toNat = s.take k := by
  unfold getS at h ⊢
  by_cases h1 : 5 ≤ lead s
  · rw [if_pos h1] at h; exact absurd h (by decide)
  rw [if_neg h1] at h ⊢
  by_cases h2 : lead s = s.length
  · rw [if_pos h2] at h; exact absurd h (by decide)
  rw [if_neg h2] at h ⊢
  by_cases h3 : 2147483647 < val (s.take (lead s + 1)) ∨ (0 < lead s ∧ s[lead s]? = some 0)
  · rw [if_pos h3] at h; exact absurd h (by decide)
  rw [if_neg h3]
  have hle := lead_le s
  have hlt : lead s < s.length := by omega
  refine ⟨lead s + 1, by simp, by omega, by omega, by omega, Int.natCast_nonneg _, by simp only []; omega, ?_⟩
  have hw := word_take s hlt
  have hl : (s.take (lead s + 1)).length = lead s + 1 := by rw [List.length_take]; omega
  have hg : (s.take (lead s + 1)).getLast? = s[lead s]? := by
    rw [List.getLast?_eq_getElem?, hl, List.getElem?_take, if_pos (by omega)]; rfl
  have := (num_of_word 5 hw (by omega)).2 (by
    rw [hl, hg]
    by_cases h0 : lead s = 0
    · left; omega
    · right; intro g; exact h3 (.inr ⟨by omega, g⟩))
  simpa [numL] using this
end Go.Proofs.Ytobngncjflogcaa.AM
