/-
  Tiers: what two neighbours make, tier.Build, the document's Tiers, and the law TierBuilds.
-/
import Derived.Test.YtcdldpjmdelebaaBB
import Derived.Test.YtcdldpjmdelebaaMBtw2
set_option linter.unusedVariables false
set_option linter.unusedSimpArgs false
namespace Go.Proofs.Ytcdldpjmdelebaa.AM
open Go
set_option maxRecDepth 100000
set_option maxHeartbeats 2000000
/-! the plain law -/
theorem rT_app : ∀ {l l2 : List Rev} {a b c : Nat}, chainL a l b → chainL b l2 c → cmp (rT l b) (rT l2 c) = rT (l ++ l2) c
  | [], l2, a, b, c, h, h2 => by
    have := cmp_idl (rT l2 c)
    rw [(rT_sz h2).1] at this
    exact this
  | r :: l, l2, a, b, c, h, h2 => by
    have h3 := (rT_sz h.2.2.2).1
    have h4 := (rT_sz h.2.2.2).2
    show cmp (cmp (toks r.delta) (rT l b)) (rT l2 c) = cmp (toks r.delta) (rT (l ++ l2) c)
    rw [cmp3 _ _ _ h3.symm (by rw [h4, (rT_sz h2).1]), rT_app h.2.2.2 h2]
def dB (base : List UInt8) (l : List Rev) (i k : Nat) : List Part := mkD (rT ((l.take k).drop i) (txt base l k).length)
theorem dB_btw {base : List UInt8} {l : List Rev} {i k : Nat} (h : (textsF base l).2 = 0) (h2 : i ≤ k) (h3 : k ≤ l.length) : (btwF base l i k).1 = dB base l i k := by
  unfold btwF dB; rw [if_neg (fun g => g h), if_neg (by omega)]; simp
theorem seg_app {l : List Rev} {i j k : Nat} (h1 : i ≤ j) (h2 : j ≤ k) : (l.take k).drop i = (l.take j).drop i ++ (l.take k).drop j := by
  apply List.ext_getElem?
  intro n
  rw [List.getElem?_append]
  simp only [List.getElem?_drop, List.getElem?_take, List.length_drop, List.length_take]
  by_cases hn : n < min j l.length - i
  · rw [if_pos hn, if_pos (by omega), if_pos (by omega)]
  · rw [if_neg hn]
    by_cases hl : j ≤ l.length
    · rw [show min j l.length = j by omega]
      by_cases hk : i + n < k
      · rw [if_pos hk, if_pos (by omega)]; congr 1; omega
      · rw [if_neg hk, if_neg (by omega)]
    · rw [List.getElem?_eq_none (show l.length ≤ i + n by omega), List.getElem?_eq_none (show l.length ≤ j + (n - (min j l.length - i)) by omega)]
      split <;> split <;> rfl
theorem dB_comp {base : List UInt8} {l : List Rev} {i j k : Nat} (h : (textsF base l).2 = 0) (h1 : i ≤ j) (h2 : j ≤ k) (h3 : k ≤ l.length) : compF (dB base l i j) (dB base l j k) = (dB base l i k, 0) := by
  have c1 := rT_ck (base := base) (l := l) (i := i) (k := j) h h1 (by omega)
  have c2 := rT_ck (base := base) (l := l) (i := j) (k := k) h h2 h3
  have l1 := chain_le c1
  have l2 := chain_le c2
  obtain ⟨s1, s2⟩ := rT_sz c1
  obtain ⟨s3, s4⟩ := rT_sz c2
  unfold dB
  rw [compF_fit (checkF_mkD _ (by omega) (by omega)) (checkF_mkD _ (by omega) (by omega)) (by rw [outT_mkD, inT_mkD, s2, s3]), mkD_R _ _ (by rw [outT_mkD, s2, s3]), mkD_L _ _ (by rw [s2, s3]), rT_app c1 c2, ← seg_app h1 h2]
theorem dB_one {base : List UInt8} {l : List Rev} {i : Nat} {r : Rev} (h : (textsF base l).2 = 0) (hi : l[i]? = some r) : dB base l i (i + 1) = r.delta := by
  have hl := (List.getElem?_eq_some_iff.1 hi).1
  have c1 := rT_ck (base := base) (l := l) (i := i) (k := i + 1) h (by omega) (by omega)
  have e : (l.take (i + 1)).drop i = [r] := by
    rw [take_drop_cons hi (Nat.lt_succ_self i)]
    simp
  unfold dB
  rw [e] at c1 ⊢
  obtain ⟨h1, h2, h3, h4, _⟩ := c1
  unfold rT rT
  rw [← h4, cmp_idr, mkD_same h1]
theorem dB_len {base : List UInt8} {l : List Rev} {i k : Nat} (h : (textsF base l).2 = 0) (h2 : i ≤ k) (h3 : k ≤ l.length) : (dB base l i k).length ≤ 1600 := by
  have c := rT_ck (base := base) (l := l) (i := i) (k := k) h h2 h3
  have l1 := chain_le c
  obtain ⟨s1, s2⟩ := rT_sz c
  exact (checkF_all (checkF_mkD _ (by omega) (by omega))).1
def rowL (D : Nat → Nat → List Part) (len n : Nat) : List (List Part) := (List.range (len / n)).map fun m => D (m * n) ((m + 1) * n)
def tlF (D : Nat → Nat → List Part) (len : Nat) : Nat → Nat → List (List (List Part))
  | 0, _ => []
  | f + 1, n => if n ≤ len then rowL D len n :: tlF D len f (2 * n) else []
theorem tlF_stop {D : Nat → Nat → List Part} {len f n : Nat} (h : len < n) : tlF D len f n = [] := by
  cases f with
  | zero => rfl
  | succ f => unfold tlF; rw [if_neg (by omega)]
def rE (eP : List Part → List (List V)) (r : List (List Part)) : List (List V) := r.map fun d => [.sl false 3 (eP d)]
def tE (eP : List Part → List (List V)) (t : List (List (List Part))) : List (List V) := t.map fun r => [.sl false 1 (rE eP r)]
/-! Build -/
def ac_tbld : AC := .seq (.region false [
    ⟨some 4, none, .mov (.c (.slice none 0 0))⟩,
    ⟨some 5, none, .mov (.c (.int .i64 0))⟩])
  (.seq (.seq (.region false [
    ⟨some 15, none, .mov (.t 0)⟩,
    ⟨some 16, none, .mov (.t 1)⟩,
    ⟨some 17, none, .call 68 [(.t 15), (.t 16)]⟩,
    ⟨some 6, none, .mov (.t 17)⟩])
  (.seq (.region false [
    ⟨some 18, none, .mov (.t 6)⟩,
    ⟨some 19, none, .bin .neq (.t 18) (.c (.int .i64 0))⟩])
  (.cond (.t 19)
    (.seq (.region false [
      ⟨some 20, none, .mov (.t 6)⟩,
      ⟨some 4, none, .mov (.c (.slice none 0 0))⟩,
      ⟨some 5, none, .mov (.t 20)⟩])
    (.ret))
    (.skip))))
  (.seq (.region false [
    ⟨some 7, none, .mov (.c (.slice none 0 0))⟩])
  (.seq (.seq (.region false [
    ⟨some 21, none, .mov (.t 1)⟩,
    ⟨some 22, none, .len false (.t 21)⟩,
    ⟨some 23, none, .mov (.c (.int .i64 0))⟩])
  (.block 0 (.loop (.seq (.region false [
      ⟨some 24, none, .bin .lss (.t 23) (.t 22)⟩])
    (.seq (.cond (.t 24)
      (.skip)
      (.exit 0))
    (.seq (.block 1 (.seq (.region false [
      ⟨some 25, none, .iaddr 3 (.t 21) (.t 23)⟩,
      ⟨some 26, none, .loadn 3 (.t 25)⟩,
      ⟨some 9, none, .alloc 98 [(.int .i64 0), (.int .i64 0), (.slice none 0 0)]⟩,
      ⟨none, none, .store 3 (.t 9) (.t 26)⟩])
    (.region false [
      ⟨some 27, none, .mov (.t 7)⟩,
      ⟨some 28, none, .faddr 2 (.t 9)⟩,
      ⟨some 29, none, .load1 (.t 28)⟩,
      ⟨some 30, none, .append 112 3 32 (.c (.slice none 0 0)) (.t 29)⟩,
      ⟨some 31, none, .bslice 22 1 [(.t 30)]⟩,
      ⟨some 32, none, .append 22 1 24 (.t 27) (.t 31)⟩,
      ⟨some 7, none, .mov (.t 32)⟩])))
    (.region false [
      ⟨some 33, none, .bin .add (.t 23) (.c (.int .i64 1))⟩,
      ⟨some 23, none, .mov (.t 33)⟩])))))))
  (.seq (.region false [
    ⟨some 10, none, .mov (.c (.slice none 0 0))⟩])
  (.seq (.block 2 (.loop (.seq (.seq (.region false [
      ⟨some 34, none, .mov (.t 7)⟩,
      ⟨some 35, none, .len false (.t 34)⟩,
      ⟨some 36, none, .bin .gtr (.t 35) (.c (.int .i64 0))⟩])
    (.cond (.t 36)
      (.skip)
      (.exit 2)))
    (.block 3 (.seq (.region false [
      ⟨some 37, none, .mov (.t 10)⟩,
      ⟨some 38, none, .mov (.t 7)⟩,
      ⟨some 39, none, .bslice 49 1 [(.t 38)]⟩,
      ⟨some 40, none, .append 49 1 24 (.t 37) (.t 39)⟩,
      ⟨some 10, none, .mov (.t 40)⟩])
    (.seq (.region false [
      ⟨some 11, none, .mov (.c (.slice none 0 0))⟩])
    (.seq (.seq (.region false [
      ⟨some 12, none, .mov (.c (.int .i64 0))⟩])
    (.block 4 (.loop (.seq (.seq (.region false [
        ⟨some 41, none, .mov (.t 12)⟩,
        ⟨some 42, none, .bin .add (.t 41) (.c (.int .i64 1))⟩,
        ⟨some 43, none, .mov (.t 7)⟩,
        ⟨some 44, none, .len false (.t 43)⟩,
        ⟨some 45, none, .bin .lss (.t 42) (.t 44)⟩])
      (.cond (.t 45)
        (.skip)
        (.exit 4)))
      (.seq (.block 5 (.seq (.region true [
        ⟨some 49, none, .mov (.t 7)⟩,
        ⟨some 50, none, .mov (.t 12)⟩,
        ⟨some 51, none, .iaddr 1 (.t 49) (.t 50)⟩,
        ⟨some 52, none, .load1 (.t 51)⟩,
        ⟨some 53, none, .mov (.t 7)⟩,
        ⟨some 54, none, .mov (.t 12)⟩,
        ⟨some 55, none, .bin .add (.t 54) (.c (.int .i64 1))⟩,
        ⟨some 56, none, .iaddr 1 (.t 53) (.t 55)⟩,
        ⟨some 57, none, .load1 (.t 56)⟩,
        ⟨some 58, none, .call 54 [(.t 52), (.t 57)]⟩,
        ⟨some 48, none, .mov (.t 58)⟩,
        ⟨some 59, none, .ext 0 (.t 48)⟩,
        ⟨some 60, none, .ext 1 (.t 48)⟩,
        ⟨some 13, none, .mov (.t 59)⟩,
        ⟨some 14, none, .mov (.t 60)⟩])
      (.seq (.seq (.region false [
        ⟨some 61, none, .mov (.t 14)⟩,
        ⟨some 62, none, .bin .neq (.t 61) (.c (.int .i64 0))⟩])
      (.cond (.t 62)
        (.seq (.region false [
          ⟨some 63, none, .mov (.t 14)⟩,
          ⟨some 4, none, .mov (.c (.slice none 0 0))⟩,
          ⟨some 5, none, .mov (.t 63)⟩])
        (.ret))
        (.skip)))
      (.region false [
        ⟨some 64, none, .mov (.t 11)⟩,
        ⟨some 65, none, .mov (.t 13)⟩,
        ⟨some 66, none, .bslice 22 1 [(.t 65)]⟩,
        ⟨some 67, none, .append 22 1 24 (.t 64) (.t 66)⟩,
        ⟨some 11, none, .mov (.t 67)⟩]))))
      (.region false [
        ⟨some 46, none, .mov (.t 12)⟩,
        ⟨some 47, none, .bin .add (.t 46) (.c (.int .i64 2))⟩,
        ⟨some 12, none, .mov (.t 47)⟩]))))))
    (.region false [
      ⟨some 68, none, .mov (.t 11)⟩,
      ⟨some 7, none, .mov (.t 68)⟩]))))))))
  (.seq (.region false [
    ⟨some 69, none, .mov (.t 10)⟩,
    ⟨some 4, none, .mov (.t 69)⟩,
    ⟨some 5, none, .mov (.c (.int .i64 0))⟩])
  (.ret)))))))
theorem ok_tbld : FnOk Try.prog 27 Try.f27 ac_tbld [.t 4, .t 5] 2 drawD := ⟨Try.func27, by decide +kernel, by kernel_rfl, by kernel_rfl, by decide +kernel⟩
structure YB1 (D : Nat → Nat → List Part) (eP : List Part → List (List V)) (len : Nat) where
  j : Int
  m : Nat
  b : Option Nat
  n : Nat
  rows : List (List V)
  hj : j = (m : Int)
  hm : m ≤ len
  hr : rows = rE eP ((List.range m).map fun a => D a (a + 1))
  hn : n = m
structure YB2 (D : Nat → Nat → List Part) (eP : List Part → List (List V)) (len : Nat) where
  w : Nat
  g : Nat
  pre : List (List (List Part))
  b : Option Nat
  n : Nat
  rows : List (List V)
  rr : List (List V)
  hw : 1 ≤ w
  hg : len < w * 2 ^ g
  hp : tlF D len 8 1 = pre ++ tlF D len g w
  hl : pre.length + g ≤ 8
  hr : rows = tE eP pre
  hn : n = pre.length
  hrr : rr = rE eP (rowL D len w)
structure YB3 (D : Nat → Nat → List Part) (eP : List Part → List (List V)) (len w : Nat) where
  j : Int
  m : Nat
  b : Option Nat
  n : Nat
  rows : List (List V)
  hj : j = 2 * (m : Int)
  hm : m ≤ len / w / 2
  hr : rows = rE eP ((List.range m).map fun a => D (a * (2 * w)) ((a + 1) * (2 * w)))
  hn : n = m
theorem rE_fz {eP : List Part → List (List V)} (hz : ∀ d, ∀ r ∈ eP d, ∀ v ∈ r, Fz v) (r : List (List Part)) : ∀ x ∈ rE eP r, ∀ v ∈ x, Fz v := by
  intro x hx v hv
  obtain ⟨d, _, rfl⟩ := List.mem_map.1 hx
  simp only [List.mem_singleton] at hv
  subst hv
  exact .sl _ _ (hz d)
theorem vc_tbld (P : Prim) (hP : P = std) (T T1 : CallT) (base : List UInt8) (l : List Rev) (eP : List Part → List (List V)) (rows : List (List V)) (hrows : rows = revRows eP l) (c : Int) (D : Nat → Nat → List Part)
    (hc1 : Ans T 68 [.str base, .sl true 3 rows] (.int .i64 c)) (hlen : c = 0 → l.length ≤ 64) (hz : ∀ d, ∀ r ∈ eP d, ∀ v ∈ r, Fz v)
    (hD : c = 0 → ∀ (i : Nat) (r : Rev), l[i]? = some r → r.delta = D i (i + 1) ∧ (eP (D i (i + 1))).length ≤ 10000000)
    (hcomp : c = 0 → ∀ i j k : Nat, i ≤ j → j ≤ k → k ≤ l.length → Ans T1 54 [.sl false 3 (eP (D i j)), .sl false 3 (eP (D j k))] (.tup [.sl false 3 (eP (D i k)), .int .i64 0]))
    (res : List (List V)) (e : Int) (g1 : c ≠ 0 → res = [] ∧ c = e) (g2 : c = 0 → res = tE eP (tlF D l.length 8 1) ∧ 0 = e)
    (R : S → Prop) (hR : ∀ x, x = e → RetSl [.t 4, .t 5] 1 res [.int .i64 x] R) : awp P T T1 ac_tbld (S0 [.str base, .sl true 3 rows] Hp.emp) R (fun _ _ => False) R := by
  have hl1 : P.rlen rows = (l.length : Int) := by rw [rlen_eq hP, hrows]; simp [revRows]
  cbv
  refine hc1 _ _ ?_
  clear hc1
  cbv
  refine br_cases (fun h => ?_) (fun h => ?_)
  · obtain ⟨q1, q2⟩ := g1 (ne_t hP h)
    cbv
    exact (hR _ q2).1 _ _ (Ent.refl _) rfl q1
  have hc := ne_f hP h
  have hl64 := hlen hc
  replace hD := hD hc
  replace hcomp := hcomp hc
  obtain ⟨hres, he⟩ := g2 hc
  clear g1 g2 h hlen
  cbv
  refine ⟨YB1 D eP l.length, fun y => [(7, .own 1000032 y.b 1 y.n), (21, .sl true 3 rows), (22, .int .i64 (P.rlen rows)), (23, .int .i64 y.j)], fun y => [(1000032, ⟨y.b, 22, 1, y.rows⟩)], fun y => l.length - y.m,
    ⟨_, Ent.nil (i := 7) (k := 1000032) (ty := 22) (sz := 1) rfl rfl, ⟨0, 0, _, _, _, rfl, Nat.zero_le _, rfl, rfl⟩, ⟨rfl, rfl, rfl, rfl, trivial⟩, ⟨rfl, trivial⟩⟩, ?_⟩
  rintro ⟨j, m, b, n, orows, hj, hm, hr, hn⟩
  cbv
  refine br_cases (fun h => ?_) (fun h => ?_)
  · have h5 : j < P.rlen rows := lt_t hP h
    rw [hl1] at h5
    have hml : m < l.length := by ((try simp only [nc] at *); omega)
    obtain ⟨⟨w, q, d⟩, hd⟩ : ∃ r, l[m]? = some r := ⟨_, List.getElem?_eq_getElem hml⟩
    obtain ⟨e1, e2⟩ := hD m _ hd
    simp only [] at e1
    subst e1
    have hrow2 : P.row rows (P.nat j) [.int .i64 w, .int .i64 q, .sl false 3 (eP (D m (m + 1)))] := row_of hP hj (by rw [hrows, revRows, List.getElem?_map, hd]; rfl)
    have q1 : P.leP 0 j := le0 hP (by ((try simp only [nc] at *); omega))
    have q2 : P.i64 (P.add j 1) := by rw [add_eq hP]; exact i64I hP (by ((try simp only [nc] at *); omega))
    have q3 : P.add j 1 = ((m + 1 : Nat) : Int) := by rw [add_eq hP, hj]; simp
    generalize hed : eP (D m (m + 1)) = dr at e2 hrow2
    have hzd : ∀ r ∈ dr, ∀ v ∈ r, Fz v := by rw [← hed]; exact hz _
    have o1 : P.bytes (P.rlen dr) 32 := by subst hP; show (dr.length : Int) * 32 ≤ _; ((try simp only [nc] at *); omega)
    have f4 : P.neP orows n := by subst hP; show orows.length = n; rw [hr, hn]; simp [rE]
    have f5 : ∀ r, P.bytes (P.add (P.int n) (P.rlen [r])) 24 := by intro r; subst hP; show ((n : Int) + 1) * 24 ≤ _; rw [hn]; ((try simp only [nc] at *); omega)
    have f6 : ∀ r, P.neP [r] 1 := by intro r; subst hP; rfl
    have f7 : ∀ r, P.nadd n (P.rlenN [r]) = m + 1 := by intro r; rw [hn]; subst hP; rfl
    have f8 : orows ++ [[.sl false 3 dr]] = rE eP ((List.range (m + 1)).map fun a => D a (a + 1)) := by rw [hr, ← hed, List.range_succ]; simp [rE]
    cbv
    refine ⟨q1, _, hrow2, ?_⟩
    cbv
    intro β
    cbv
    repeat' (first
      | (refine And.intro (by assumption) ?_; try cbv)
      | (refine And.intro (f6 _) ?_; try cbv)
      | (refine And.intro (f5 _) ?_; try cbv)
      | (intro β; try cbv))
    refine ⟨_, Ent.frzR (k := 1000030) (q := 1000032) (sz := 3) (pre := orows) rfl rfl (by subst hP; rfl) rfl rfl (by subst hP; rfl) hzd, ⟨_, m + 1, _, _, _, q3, hml, f8, f7 _⟩, ⟨rfl, rfl, rfl, rfl, trivial⟩, ⟨rfl, trivial⟩, ?_⟩
    show l.length - (m + 1) < l.length - m; omega
  · have h5 : ¬ j < P.rlen rows := lt_f hP h
    rw [hl1] at h5
    have hml : m = l.length := by ((try simp only [nc] at *); omega)
    subst hml
    have hr0 : orows = rE eP (rowL D l.length 1) := by rw [hr]; unfold rowL; simp
    have hf0 : ∀ x ∈ orows, ∀ v ∈ x, Fz v := by rw [hr]; exact rE_fz hz _
    have hn0 : orows.length = n := by rw [hr, hn]; simp [rE]
    have hfz : ∀ w, ∀ x ∈ rE eP (rowL D l.length w), ∀ v ∈ x, Fz v := fun w => rE_fz hz _
    cbv
    clear hr hj hm hD h h5
    refine ⟨YB2 D eP l.length, fun y => [(7, .sl false 1 y.rr), (10, .own 1000040 y.b 1 y.n)], fun y => [(1000040, ⟨y.b, 49, 1, y.rows⟩)], fun y => y.g,
      ⟨_, Ent.trans (Ent.frzS (i := 7) (k := 1000032) (sz := 1) rfl rfl rfl rfl hn0 hf0) (Ent.nil (i := 10) (k := 1000040) (ty := 49) (sz := 1) rfl rfl), ⟨1, 8, [], _, _, _, _, Nat.le_refl _, by omega, rfl, by simp, rfl, rfl, hr0⟩, ⟨rfl, rfl, trivial⟩, ⟨rfl, trivial⟩⟩, ?_⟩
    rintro ⟨w, g, pre, b2, n2, rows2, rr, hw, hg, hp, hpl, hr2, hn2, hrr⟩
    have hrl : P.rlen rr = ((l.length / w : Nat) : Int) := by rw [rlen_eq hP, hrr]; simp [rE, rowL]
    cbv
    refine br_cases (fun h => ?_) (fun h => ?_)
    · have h6 : 0 < P.rlen rr := lt_t hP h
      rw [hrl] at h6
      have hwl : w ≤ l.length := by
        rcases Nat.lt_or_ge l.length w with hx | hx
        · rw [Nat.div_eq_of_lt hx] at h6; exact absurd h6 (by decide)
        · exact hx
      obtain ⟨g, rfl⟩ : ∃ g', g = g' + 1 := by
        cases g with
        | zero => exfalso; simp at hg; omega
        | succ g => exact ⟨g, rfl⟩
      have hp2 : tlF D l.length 8 1 = (pre ++ [rowL D l.length w]) ++ tlF D l.length g (2 * w) := by rw [hp, tlF, if_pos hwl]; simp
      have hg2 : l.length < 2 * w * 2 ^ g := by rw [Nat.pow_succ] at hg; rw [Nat.mul_comm 2 w, Nat.mul_assoc, Nat.mul_comm 2 (2 ^ g)]; exact hg
      have f4 : P.neP rows2 n2 := by subst hP; show rows2.length = n2; rw [hr2, hn2]; simp [tE]
      have f5 : ∀ r, P.bytes (P.add (P.int n2) (P.rlen [r])) 24 := by intro r; subst hP; show ((n2 : Int) + 1) * 24 ≤ _; rw [hn2]; ((try simp only [nc] at *); omega)
      have f6 : ∀ r, P.neP [r] 1 := by intro r; subst hP; rfl
      have f7 : ∀ r, P.nadd n2 (P.rlenN [r]) = (pre ++ [rowL D l.length w]).length := by intro r; rw [hn2]; subst hP; simp [std]
      have f8 : P.rapp rows2 [[.sl false 1 rr]] = tE eP (pre ++ [rowL D l.length w]) := by rw [hr2, hrr]; subst hP; simp [std, tE]
      have f9 : (pre ++ [rowL D l.length w]).length + g ≤ 8 := by simp; omega
      cbv
      repeat' (first
        | (refine And.intro (by assumption) ?_; try cbv)
        | (refine And.intro (f6 _) ?_; try cbv)
        | (refine And.intro (f5 _) ?_; try cbv)
        | (intro β; try cbv))
      refine ⟨YB3 D eP l.length w, fun z => [(7, .sl false 1 rr), (10, .own 1000040 β 1 (P.nadd n2 (P.rlenN [[.sl false 1 rr]]))), (11, .own 1000067 z.b 1 z.n), (12, .int .i64 z.j)], fun z => [(1000040, ⟨β, 49, 1, P.rapp rows2 [[.sl false 1 rr]]⟩), (1000067, ⟨z.b, 22, 1, z.rows⟩)], fun z => l.length / w / 2 - z.m,
        ⟨_, Ent.nil (i := 11) (k := 1000067) (ty := 22) (sz := 1) rfl rfl, ⟨0, 0, _, _, _, rfl, Nat.zero_le _, rfl, rfl⟩, ⟨rfl, rfl, rfl, rfl, trivial⟩, ⟨rfl, rfl, trivial⟩⟩, ?_⟩
      rintro ⟨j3, m3, b3, n3, rows3, hj3, hm3, hr3, hn3⟩
      replace hj3 : j3 = 2 * (m3 : Int) := hj3
      have hq64 : l.length / w ≤ 64 := Nat.le_trans (Nat.div_le_self _ _) hl64
      have p1 : P.i64 (P.add j3 1) := by rw [add_eq hP]; exact i64I hP (by omega)
      have p1e : P.add j3 1 = ((2 * m3 + 1 : Nat) : Int) := by rw [add_eq hP, hj3]; ((try simp only [nc] at *); omega)
      cbv
      refine ⟨p1, ?_⟩
      refine br_cases (fun h => ?_) (fun h => ?_)
      · have h7 : P.add j3 1 < P.rlen rr := lt_t hP h
        rw [p1e, hrl] at h7
        have h8 : 2 * m3 + 1 < l.length / w := Int.ofNat_lt.1 h7
        have h9 : (2 * m3 + 2) * w ≤ l.length := Nat.le_trans (Nat.mul_le_mul_right w h8) (Nat.div_mul_le_self _ _)
        have c1 := hcomp (2 * m3 * w) ((2 * m3 + 1) * w) ((2 * m3 + 2) * w) (Nat.mul_le_mul_right w (by omega)) (Nat.mul_le_mul_right w (by omega)) h9
        have e1 : 2 * m3 * w = m3 * (2 * w) := by rw [Nat.mul_comm 2 m3, Nat.mul_assoc]
        have e2 : (2 * m3 + 2) * w = (m3 + 1) * (2 * w) := by rw [show 2 * m3 + 2 = (m3 + 1) * 2 by omega, Nat.mul_assoc]
        have hx1 : rr[2 * m3]? = some [.sl false 3 (eP (D (2 * m3 * w) ((2 * m3 + 1) * w)))] := by
          rw [hrr, rE, rowL, List.map_map, List.getElem?_map, List.getElem?_range (by omega)]; rfl
        have hx2 : rr[2 * m3 + 1]? = some [.sl false 3 (eP (D ((2 * m3 + 1) * w) ((2 * m3 + 2) * w)))] := by
          rw [hrr, rE, rowL, List.map_map, List.getElem?_map, List.getElem?_range (by omega)]; rfl
        have r1 : P.row rr (P.nat j3) [.sl false 3 (eP (D (2 * m3 * w) ((2 * m3 + 1) * w)))] := row_of hP (by rw [hj3]; ((try simp only [nc] at *); omega)) hx1
        have r2 : P.row rr (P.nat (P.add j3 1)) [.sl false 3 (eP (D ((2 * m3 + 1) * w) ((2 * m3 + 2) * w)))] := row_of hP p1e hx2
        have k1 : P.leP 0 j3 := le0 hP (by ((try simp only [nc] at *); omega))
        have k2 : P.leP 0 (P.add j3 1) := le0 hP (by rw [p1e]; exact Int.natCast_nonneg _)
        have k3 : P.i64 (P.add j3 2) := by rw [add_eq hP]; exact i64I hP (by ((try simp only [nc] at *); omega))
        have k4 : P.add j3 2 = 2 * ((m3 + 1 : Nat) : Int) := by rw [add_eq hP, hj3]; ((try simp only [nc] at *); omega)
        have f4' : P.neP rows3 n3 := by subst hP; show rows3.length = n3; rw [hr3, hn3]; simp [rE]
        have f5' : ∀ r, P.bytes (P.add (P.int n3) (P.rlen [r])) 24 := by intro r; subst hP; show ((n3 : Int) + 1) * 24 ≤ _; rw [hn3]; ((try simp only [nc] at *); omega)
        have f7' : ∀ r, P.nadd n3 (P.rlenN [r]) = m3 + 1 := by intro r; rw [hn3]; subst hP; rfl
        have f8' : P.rapp rows3 [[.sl false 3 (eP (D (2 * m3 * w) ((2 * m3 + 2) * w)))]] = rE eP ((List.range (m3 + 1)).map fun a => D (a * (2 * w)) ((a + 1) * (2 * w))) := by rw [hr3, List.range_succ, e1, e2]; subst hP; simp [std, rE]
        have hm4 : m3 + 1 ≤ l.length / w / 2 := by omega
        clear hcomp e1 e2 hx1 hx2
        generalize eP (D (2 * m3 * w) ((2 * m3 + 1) * w)) = A at *
        generalize eP (D ((2 * m3 + 1) * w) ((2 * m3 + 2) * w)) = B at *
        generalize eP (D (2 * m3 * w) ((2 * m3 + 2) * w)) = C at *
        cbv
        refine ⟨k1, _, r1, ?_⟩
        cbv
        refine ⟨p1, k2, _, r2, ?_⟩
        cbv
        refine c1 _ _ ?_
        cbv
        refine br_ff (ne_F hP rfl) ?_
        cbv
        repeat' (first
          | (refine And.intro (by assumption) ?_; try cbv)
          | (refine And.intro (f6 _) ?_; try cbv)
          | (refine And.intro (f5' _) ?_; try cbv)
          | (intro β; try cbv))
        refine ⟨_, Ent.refl _, ⟨_, m3 + 1, _, _, _, k4, hm4, f8', f7' _⟩, ⟨rfl, rfl, rfl, rfl, trivial⟩, ⟨rfl, rfl, trivial⟩, ?_⟩
        show l.length / w / 2 - (m3 + 1) < l.length / w / 2 - m3; omega
      · have h7 : ¬ P.add j3 1 < P.rlen rr := lt_f hP h
        rw [p1e, hrl] at h7
        have h8 : ¬ 2 * m3 + 1 < l.length / w := fun hx => h7 (Int.ofNat_lt.2 hx)
        have hm4 : m3 = l.length / w / 2 := by omega
        have hr4 : rows3 = rE eP (rowL D l.length (2 * w)) := by rw [hr3, rowL, hm4, Nat.div_div_eq_div_mul, Nat.mul_comm w 2]
        have hn4 : rows3.length = n3 := by rw [hr3, hn3]; simp [rE]
        have hf4 : ∀ x ∈ rows3, ∀ v ∈ x, Fz v := by rw [hr4]; exact hfz _
        cbv
        exact ⟨_, Ent.frzS (i := 7) (k := 1000067) (sz := 1) rfl rfl rfl rfl hn4 hf4, ⟨2 * w, g, _, _, _, _, _, by omega, hg2, hp2, f9, f8, f7 _, hr4⟩, ⟨rfl, rfl, trivial⟩, ⟨rfl, trivial⟩, Nat.lt_succ_self g⟩
    · have h6 : ¬ 0 < P.rlen rr := lt_f hP h
      rw [hrl] at h6
      have hwl : l.length < w := by
        rcases Nat.lt_or_ge l.length w with hx | hx
        · exact hx
        · exact absurd (Int.ofNat_lt.2 (Nat.div_pos hx hw)) h6
      rw [tlF_stop hwl, List.append_nil] at hp
      cbv
      exact (hR _ he).2.1 _ _ _ _ _ _ _ (Ent.refl _) rfl rfl ⟨by rw [hn2, hres, hp]; simp [tE], by rw [hr2, hres, hp]⟩
theorem eps_sz1 (eP : List Part → List (List V)) (t : List (List (List Part))) : ∀ r ∈ tE eP t, r.length = 1 := by
  intro r hr; obtain ⟨x, _, rfl⟩ := List.mem_map.1 hr; rfl
theorem tE_fz {eP : List Part → List (List V)} (hz : ∀ d, ∀ r ∈ eP d, ∀ v ∈ r, Fz v) (t : List (List (List Part))) : ∀ x ∈ tE eP t, ∀ v ∈ x, Fz v := by
  intro x hx v hv
  obtain ⟨d, _, rfl⟩ := List.mem_map.1 hx
  simp only [List.mem_singleton] at hv
  subst hv
  exact .sl _ _ (rE_fz hz d)
theorem ansSPc {f : Nat} {vs : List V} {v : V} (h : Spec Try.prog f vs Hp.emp (Is v)) (hv : v.ren (lab []) = v) (hvs : vs.all V.pl = true) : Ans (CallP Try.prog) f vs v := ansP h (fun _ => args_plain hvs) hv
def tierF (base : List UInt8) (l : List Rev) : List (List (List Part)) := if (textsF base l).2 = 0 then tlF (dB base l) l.length 8 1 else []
abbrev eQ : List Part → List (List V) := fun d => d.map encPart
theorem sp_tbld (base : List UInt8) (l : List Rev) (hl : RevsOk l) : Spec Try.prog 27 [.str base, .sl true 3 (l.map encRev)] Hp.emp (Is (.tup [.sl false 1 (tE eQ (tierF base l)), .int .i64 (textsF base l).2])) :=
  spec_frz dOk ok_tbld fun R hR => vc_tbld std rfl _ _ base l eQ _ rfl (textsF base l).2 (dB base l) (ansW (sp_rcheck base l hl) (fun h => .cons (.same _) (.cons (.same _) .nil)) rfl) (fun h => (textsF_ok h).2.1) (fun d => encParts_fz d)
    (fun h i r hr => ⟨(dB_one h hr).symm, by
      have := (List.getElem?_eq_some_iff.1 hr).1
      have := dB_len (base := base) (l := l) (i := i) (k := i + 1) h (by omega) (by omega)
      rw [List.length_map]; omega⟩)
    (fun h i j k h1 h2 h3 => by
      have := ansSPc (sp_comp (dB base l i j) (dB base l j k) (by have := dB_len (base := base) (l := l) (i := i) (k := j) h h1 (by omega); exact len_of (by omega)) (by have := dB_len (base := base) (l := l) (i := j) (k := k) h h2 h3; exact len_of (by omega))) rfl rfl
      rw [dB_comp h h1 h2 h3] at this
      exact this)
    (tE eQ (tierF base l)) (textsF base l).2 (fun h => ⟨by unfold tierF; rw [if_neg h]; rfl, rfl⟩) (fun h => ⟨by unfold tierF; rw [if_pos h], h.symm⟩) R
    (fun x hx => by subst hx; exact retSl_of (eps_sz1 _ _) (tE_fz (fun d => encParts_fz d) _) (int_fz _) hR)
/-! the document's -/
def ac_rtier : AC := .seq (.region false [
    ⟨some 4, none, .mov (.c (.slice none 0 0))⟩])
  (.seq (.region false [
    ⟨some 5, none, .mov (.c (.slice none 0 0))⟩])
  (.seq (.seq (.region false [
    ⟨some 6, none, .mov (.c (.int .i64 1))⟩])
  (.block 0 (.loop (.seq (.seq (.region false [
      ⟨some 9, none, .mov (.t 6)⟩,
      ⟨some 10, none, .mov (.t 1)⟩,
      ⟨some 11, none, .len false (.t 10)⟩,
      ⟨some 12, none, .bin .leq (.t 9) (.t 11)⟩])
    (.cond (.t 12)
      (.skip)
      (.exit 0)))
    (.seq (.block 1 (.seq (.region false [
      ⟨some 7, none, .mov (.c (.slice none 0 0))⟩])
    (.seq (.seq (.region false [
      ⟨some 8, none, .mov (.c (.int .i64 0))⟩])
    (.block 2 (.loop (.seq (.seq (.region false [
        ⟨some 15, none, .mov (.t 8)⟩,
        ⟨some 16, none, .mov (.t 6)⟩,
        ⟨some 17, none, .bin .add (.t 15) (.t 16)⟩,
        ⟨some 18, none, .mov (.t 1)⟩,
        ⟨some 19, none, .len false (.t 18)⟩,
        ⟨some 20, none, .bin .leq (.t 17) (.t 19)⟩])
      (.cond (.t 20)
        (.skip)
        (.exit 2)))
      (.seq (.block 3 (.region false [
        ⟨some 24, none, .mov (.t 7)⟩,
        ⟨some 25, none, .mov (.t 0)⟩,
        ⟨some 26, none, .mov (.t 1)⟩,
        ⟨some 27, none, .mov (.t 8)⟩,
        ⟨some 28, none, .mov (.t 8)⟩,
        ⟨some 29, none, .mov (.t 6)⟩,
        ⟨some 30, none, .bin .add (.t 28) (.t 29)⟩,
        ⟨some 31, none, .call 24 [(.t 25), (.t 26), (.t 27), (.t 30)]⟩,
        ⟨some 32, none, .bslice 22 1 [(.t 31)]⟩,
        ⟨some 33, none, .append 22 1 24 (.t 24) (.t 32)⟩,
        ⟨some 7, none, .mov (.t 33)⟩]))
      (.region false [
        ⟨some 21, none, .mov (.t 8)⟩,
        ⟨some 22, none, .mov (.t 6)⟩,
        ⟨some 23, none, .bin .add (.t 21) (.t 22)⟩,
        ⟨some 8, none, .mov (.t 23)⟩]))))))
    (.region false [
      ⟨some 34, none, .mov (.t 5)⟩,
      ⟨some 35, none, .mov (.t 7)⟩,
      ⟨some 36, none, .bslice 49 1 [(.t 35)]⟩,
      ⟨some 37, none, .append 49 1 24 (.t 34) (.t 36)⟩,
      ⟨some 5, none, .mov (.t 37)⟩]))))
    (.region false [
      ⟨some 13, none, .mov (.t 6)⟩,
      ⟨some 14, none, .bin .mul (.t 13) (.c (.int .i64 2))⟩,
      ⟨some 6, none, .mov (.t 14)⟩]))))))
  (.seq (.region false [
    ⟨some 38, none, .mov (.t 5)⟩,
    ⟨some 4, none, .mov (.t 38)⟩])
  (.ret))))
theorem ok_rtier : FnOk Try.prog 29 Try.f29 ac_rtier [.t 4] 2 drawD := ⟨Try.func29, by decide +kernel, by kernel_rfl, by kernel_rfl, by decide +kernel⟩
structure YT2 (D : Nat → Nat → List Part) (eP : List Part → List (List V)) (len : Nat) where
  w : Nat
  wi : Int
  g : Nat
  pre : List (List (List Part))
  b : Option Nat
  n : Nat
  rows : List (List V)
  hwi : wi = (w : Int)
  hw : 1 ≤ w
  hg : len < w * 2 ^ g
  hp : tlF D len 8 1 = pre ++ tlF D len g w
  hl : pre.length + g ≤ 8
  hr : rows = tE eP pre
  hn : n = pre.length
structure YT3 (D : Nat → Nat → List Part) (eP : List Part → List (List V)) (len w : Nat) where
  i : Int
  m : Nat
  b : Option Nat
  n : Nat
  rows : List (List V)
  hi : i = ((m * w : Nat) : Int)
  hm : m ≤ len / w
  hr : rows = rE eP ((List.range m).map fun a => D (a * w) ((a + 1) * w))
  hn : n = m
theorem vc_rtier (P : Prim) (hP : P = std) (T T1 : CallT) (base : List UInt8) (l : List Rev) (eP : List Part → List (List V)) (rows : List (List V)) (hrows : rows = revRows eP l) (D : Nat → Nat → List Part) (hl64 : l.length ≤ 64) (hz : ∀ d, ∀ r ∈ eP d, ∀ v ∈ r, Fz v)
    (hbt : ∀ i k : Nat, i ≤ k → k ≤ l.length → Ans T 24 [.str base, .sl true 3 rows, .int .i64 (i : Int), .int .i64 (k : Int)] (.sl false 3 (eP (D i k))))
    (R : S → Prop) (hR : RetSl [.t 4] 1 (tE eP (tlF D l.length 8 1)) [] R) : awp P T T1 ac_rtier (S0 [.str base, .sl true 3 rows] Hp.emp) R (fun _ _ => False) R := by
  have hl1 : P.rlen rows = (l.length : Int) := by rw [rlen_eq hP, hrows]; simp [revRows]
  cbv
  refine ⟨YT2 D eP l.length, fun y => [(0, .str base), (1, .sl true 3 rows), (5, .own 1000037 y.b 1 y.n), (6, .int .i64 y.wi)], fun y => [(1000037, ⟨y.b, 49, 1, y.rows⟩)], fun y => y.g,
    ⟨_, Ent.nil (i := 5) (k := 1000037) (ty := 49) (sz := 1) rfl rfl, ⟨1, 1, 8, [], _, _, _, rfl, Nat.le_refl _, by omega, rfl, by simp, rfl, rfl⟩, ⟨rfl, rfl, rfl, rfl, trivial⟩, ⟨rfl, trivial⟩⟩, ?_⟩
  rintro ⟨w, wi, g, pre, b2, n2, rows2, hwi, hw, hg, hp, hpl, hr2, hn2⟩
  replace hwi : wi = (w : Int) := hwi
  cbv
  refine br_cases (fun h => ?_) (fun h => ?_)
  · have h6 : wi ≤ P.rlen rows := le_t hP h
    rw [hl1] at h6
    have hwl : w ≤ l.length := by ((try simp only [nc] at *); omega)
    obtain ⟨g, rfl⟩ : ∃ g', g = g' + 1 := by
      cases g with
      | zero => exfalso; simp at hg; omega
      | succ g => exact ⟨g, rfl⟩
    have hp2 : tlF D l.length 8 1 = (pre ++ [rowL D l.length w]) ++ tlF D l.length g (2 * w) := by rw [hp, tlF, if_pos hwl]; simp
    have hg2 : l.length < 2 * w * 2 ^ g := by rw [Nat.pow_succ] at hg; rw [Nat.mul_comm 2 w, Nat.mul_assoc, Nat.mul_comm 2 (2 ^ g)]; exact hg
    cbv
    refine ⟨YT3 D eP l.length w, fun z => [(0, .str base), (1, .sl true 3 rows), (5, .own 1000037 b2 1 n2), (6, .int .i64 wi), (7, .own 1000033 z.b 1 z.n), (8, .int .i64 z.i)], fun z => [(1000037, ⟨b2, 49, 1, rows2⟩), (1000033, ⟨z.b, 22, 1, z.rows⟩)], fun z => l.length / w - z.m,
      ⟨_, Ent.nil (i := 7) (k := 1000033) (ty := 22) (sz := 1) rfl rfl, ⟨0, 0, _, _, _, by simp, Nat.zero_le _, rfl, rfl⟩, ⟨rfl, rfl, rfl, rfl, rfl, rfl, trivial⟩, ⟨rfl, rfl, trivial⟩⟩, ?_⟩
    rintro ⟨i3, m3, b3, n3, rows3, hi3, hm3, hr3, hn3⟩
    replace hi3 : i3 = ((m3 * w : Nat) : Int) := hi3
    have hq64 : l.length / w ≤ 64 := Nat.le_trans (Nat.div_le_self _ _) hl64
    have hmw : m3 * w ≤ l.length := Nat.le_trans (Nat.mul_le_mul_right w hm3) (Nat.div_mul_le_self _ _)
    have hm1 : (m3 + 1) * w = m3 * w + w := by rw [Nat.add_mul, Nat.one_mul]
    have p1e : P.add i3 wi = (((m3 + 1) * w : Nat) : Int) := by rw [add_eq hP, hi3, hwi, hm1]; simp
    have p1 : P.i64 (P.add i3 wi) := by rw [p1e, hm1]; exact i64I hP (by omega)
    cbv
    refine ⟨p1, ?_⟩
    refine br_cases (fun h => ?_) (fun h => ?_)
    · have h7 : P.add i3 wi ≤ P.rlen rows := le_t hP h
      rw [p1e, hl1] at h7
      have h8 : (m3 + 1) * w ≤ l.length := Int.ofNat_le.1 h7
      have c1 := hbt (m3 * w) ((m3 + 1) * w) (by omega) h8
      rw [← hi3, ← p1e] at c1
      have f4' : P.neP rows3 n3 := by subst hP; show rows3.length = n3; rw [hr3, hn3]; simp [rE]
      have f5' : ∀ r, P.bytes (P.add (P.int n3) (P.rlen [r])) 24 := by intro r; subst hP; show ((n3 : Int) + 1) * 24 ≤ _; rw [hn3]; ((try simp only [nc] at *); omega)
      have f6 : ∀ r, P.neP [r] 1 := by intro r; subst hP; rfl
      have f7' : ∀ r, P.nadd n3 (P.rlenN [r]) = m3 + 1 := by intro r; rw [hn3]; subst hP; rfl
      have f8' : P.rapp rows3 [[.sl false 3 (eP (D (m3 * w) ((m3 + 1) * w)))]] = rE eP ((List.range (m3 + 1)).map fun a => D (a * w) ((a + 1) * w)) := by rw [hr3, List.range_succ]; subst hP; simp [std, rE]
      have hm4 : m3 + 1 ≤ l.length / w := (Nat.le_div_iff_mul_le hw).2 h8
      clear hbt
      generalize eP (D (m3 * w) ((m3 + 1) * w)) = C at *
      cbv
      refine ⟨p1, ?_⟩
      cbv
      refine c1 _ _ ?_
      cbv
      repeat' (first
        | (refine And.intro (by assumption) ?_; try cbv)
        | (refine And.intro (f6 _) ?_; try cbv)
        | (refine And.intro (f5' _) ?_; try cbv)
        | (intro β; try cbv))
      refine ⟨_, Ent.refl _, ⟨_, m3 + 1, _, _, _, p1e, hm4, f8', f7' _⟩, ⟨rfl, rfl, rfl, rfl, rfl, rfl, trivial⟩, ⟨rfl, rfl, trivial⟩, ?_⟩
      show l.length / w - (m3 + 1) < l.length / w - m3; omega
    · have h7 : ¬ P.add i3 wi ≤ P.rlen rows := le_f hP h
      rw [p1e, hl1] at h7
      have h8 : ¬ (m3 + 1) * w ≤ l.length := fun hx => h7 (Int.ofNat_le.2 hx)
      have hm4 : m3 = l.length / w := by
        have : ¬ m3 + 1 ≤ l.length / w := fun hx => h8 ((Nat.le_div_iff_mul_le hw).1 hx)
        omega
      have hr4 : rows3 = rE eP (rowL D l.length w) := by rw [hr3, rowL, hm4]
      have hn4 : rows3.length = n3 := by rw [hr3, hn3]; simp [rE]
      have hf4 : ∀ x ∈ rows3, ∀ v ∈ x, Fz v := by rw [hr4]; exact rE_fz hz _
      have f4 : P.neP rows2 n2 := by subst hP; show rows2.length = n2; rw [hr2, hn2]; simp [tE]
      have f5 : ∀ r, P.bytes (P.add (P.int n2) (P.rlen [r])) 24 := by intro r; subst hP; show ((n2 : Int) + 1) * 24 ≤ _; rw [hn2]; ((try simp only [nc] at *); omega)
      have f6 : ∀ r, P.neP [r] 1 := by intro r; subst hP; rfl
      have f7 : ∀ r, P.nadd n2 (P.rlenN [r]) = (pre ++ [rowL D l.length w]).length := by intro r; rw [hn2]; subst hP; simp [std]
      have f8 : rows2 ++ [[.sl false 1 rows3]] = tE eP (pre ++ [rowL D l.length w]) := by rw [hr2, hr4]; simp [tE]
      have f9 : (pre ++ [rowL D l.length w]).length + g ≤ 8 := by simp; omega
      have k3 : P.i64 (P.mul wi 2) := by subst hP; show I64 (wi * 2); unfold I64; ((try simp only [nc] at *); omega)
      have k4 : P.mul wi 2 = ((2 * w : Nat) : Int) := by subst hP; show wi * 2 = _; ((try simp only [nc] at *); omega)
      cbv
      repeat' (first
        | (refine And.intro (by assumption) ?_; try cbv)
        | (refine And.intro (f6 _) ?_; try cbv)
        | (refine And.intro (f5 _) ?_; try cbv)
        | (intro β; try cbv))
      exact ⟨_, Ent.frzR (k := 1000033) (q := 1000037) (sz := 1) (pre := rows2) rfl rfl (by subst hP; rfl) rfl rfl hn4 hf4, ⟨2 * w, _, g, _, _, _, _, k4, by omega, hg2, hp2, f9, f8, f7 _⟩, ⟨rfl, rfl, rfl, rfl, trivial⟩, ⟨rfl, trivial⟩, Nat.lt_succ_self g⟩
  · have h6 : ¬ wi ≤ P.rlen rows := le_f hP h
    rw [hl1] at h6
    have hwl : l.length < w := by ((try simp only [nc] at *); omega)
    rw [tlF_stop hwl, List.append_nil] at hp
    cbv
    exact hR.2.1 _ _ _ _ _ _ _ (Ent.refl _) rfl rfl ⟨by rw [hn2, hp]; simp [tE], by rw [hr2, hp]⟩
theorem sp_rtier (base : List UInt8) (l : List Rev) (hl : RevsOk l) (he : (textsF base l).2 = 0) : Spec Try.prog 29 [.str base, .sl true 3 (l.map encRev)] Hp.emp (Is (.sl false 1 (tE eQ (tierF base l)))) :=
  spec_frz dOk ok_rtier fun R hR => vc_rtier std rfl _ _ base l eQ _ rfl (dB base l) (textsF_ok he).2.1 (fun d => encParts_fz d)
    (fun i k h1 h2 => by
      have := ansSame (sp_rbtw base l i k hl he h1 h2) rfl rfl
      rw [dB_btw he h1 h2] at this
      exact this) R (by
      have e : tierF base l = tlF (dB base l) l.length 8 1 := by unfold tierF; rw [if_pos he]
      rw [← e]
      exact retSl_of (eps_sz1 _ _) (tE_fz (fun d => encParts_fz d) _) (by simp) hR)
/-! are they the same -/
def ac_eqf1 : AC := .seq (.region false [
    ⟨some 6, none, .mov (.c (.bool false))⟩])
  (.seq (.seq (.region false [
    ⟨some 10, none, .mov (.t 0)⟩,
    ⟨some 11, none, .len false (.t 10)⟩,
    ⟨some 12, none, .mov (.t 1)⟩,
    ⟨some 13, none, .len false (.t 12)⟩,
    ⟨some 14, none, .bin .neq (.t 11) (.t 13)⟩])
  (.cond (.t 14)
    (.seq (.region false [
      ⟨some 6, none, .mov (.c (.bool false))⟩])
    (.ret))
    (.skip)))
  (.seq (.seq (.region false [
    ⟨some 15, none, .mov (.t 0)⟩,
    ⟨some 16, none, .len false (.t 15)⟩,
    ⟨some 17, none, .mov (.c (.int .i64 0))⟩])
  (.block 0 (.loop (.seq (.region false [
      ⟨some 18, none, .bin .lss (.t 17) (.t 16)⟩])
    (.seq (.cond (.t 18)
      (.skip)
      (.exit 0))
    (.seq (.block 1 (.seq (.region false [
      ⟨some 19, none, .mov (.t 17)⟩,
      ⟨some 20, none, .iaddr 1 (.t 15) (.t 17)⟩,
      ⟨some 21, none, .load1 (.t 20)⟩,
      ⟨some 7, none, .mov (.t 19)⟩,
      ⟨some 8, none, .mov (.t 21)⟩])
    (.seq (.region false [
      ⟨some 22, none, .mov (.t 1)⟩,
      ⟨some 23, none, .mov (.t 7)⟩,
      ⟨some 24, none, .iaddr 1 (.t 22) (.t 23)⟩,
      ⟨some 25, none, .load1 (.t 24)⟩,
      ⟨some 9, none, .mov (.t 25)⟩])
    (.seq (.region false [
      ⟨some 26, none, .mov (.t 2)⟩,
      ⟨some 27, none, .mov (.t 8)⟩,
      ⟨some 28, none, .mov (.t 9)⟩,
      ⟨some 29, none, .callv (.t 26) [(.t 27), (.t 28)]⟩,
      ⟨some 30, none, .not (.t 29)⟩])
    (.cond (.t 30)
      (.seq (.region false [
        ⟨some 6, none, .mov (.c (.bool false))⟩])
      (.ret))
      (.skip))))))
    (.region false [
      ⟨some 31, none, .bin .add (.t 17) (.c (.int .i64 1))⟩,
      ⟨some 17, none, .mov (.t 31)⟩])))))))
  (.seq (.region false [
    ⟨some 6, none, .mov (.c (.bool true))⟩])
  (.ret))))
theorem ok_eqf1 : FnOk Try.prog 71 Try.f71 ac_eqf1 [.t 6] 3 drawD := ⟨Try.func71, by decide +kernel, by kernel_rfl, by kernel_rfl, by decide +kernel⟩
theorem ok_eqf2 : FnOk Try.prog 69 Try.f69 ac_eqf1 [.t 6] 3 drawD := ⟨Try.func69, by decide +kernel, by kernel_rfl, by kernel_rfl, by decide +kernel⟩
structure YEf (rows : List (List V)) where
  k : Int
  m : Nat
  hk : k = (m : Int)
  hm : m ≤ rows.length
theorem vc_eqf1 (P : Prim) (hP : P = std) (T T1 : CallT) (f : Nat) (rows : List (List V)) (hl : rows.length ≤ 10000000) (hf : ∀ r ∈ rows, ∃ x, r = [x] ∧ Ans T f [x, x] (.bool true))
    (R : S → Prop) (hR : ∀ s s', Ent s s' → Ret [.t 6] [.bool true] s' → R s) : awp P T T1 ac_eqf1 (S0 [.sl true 1 rows, .sl true 1 rows, .fn f []] Hp.emp) R (fun _ _ => False) R := by
  have h1 : P.rlen rows = (rows.length : Int) := rlen_eq hP rows
  cbv
  refine br_ff (ne_F hP rfl) ?_
  cbv
  refine ⟨YEf rows, fun y => [(1, .sl true 1 rows), (2, .fn f []), (15, .sl true 1 rows), (16, .int .i64 (P.rlen rows)), (17, .int .i64 y.k)], fun _ => [], fun y => rows.length - y.m,
    ⟨_, Ent.refl _, ⟨0, 0, rfl, Nat.zero_le _⟩, ⟨rfl, rfl, rfl, rfl, rfl, trivial⟩, trivial⟩, ?_⟩
  rintro ⟨k, m, hk, hm⟩
  cbv
  refine br_cases (fun h => ?_) (fun h => ?_)
  · have h5 : k < P.rlen rows := lt_t hP h
    rw [h1] at h5
    have hml : m < rows.length := by ((try simp only [nc] at *); omega)
    obtain ⟨r, hr⟩ : ∃ r, rows[m]? = some r := ⟨_, List.getElem?_eq_getElem hml⟩
    obtain ⟨x, rfl, hx⟩ := hf r (List.mem_of_getElem? hr)
    have hrow : P.row rows (P.nat k) [x] := row_of hP hk hr
    have q1 : P.leP 0 k := le0 hP (by ((try simp only [nc] at *); omega))
    have q2 : P.i64 (P.add k 1) := by rw [add_eq hP]; exact i64I hP (by ((try simp only [nc] at *); omega))
    have q3 : P.add k 1 = ((m + 1 : Nat) : Int) := by rw [add_eq hP, hk]; simp
    cbv
    refine ⟨q1, _, hrow, ?_⟩
    cbv
    refine ⟨q1, _, hrow, ?_⟩
    cbv
    refine hx _ _ ?_
    cbv
    refine ⟨q2, _, Ent.refl _, ⟨_, m + 1, q3, hml⟩, ⟨rfl, rfl, rfl, rfl, rfl, trivial⟩, trivial, ?_⟩
    show rows.length - (m + 1) < rows.length - m; omega
  · cbv
    exact hR _ _ (Ent.refl _) rfl
theorem sp_eqf1 (r : List (List Part)) (hl : r.length ≤ 10000000) (hd : ∀ d ∈ r, d.length ≤ 10000000) : Spec Try.prog 71 [.sl true 1 (rE eQ r), .sl true 1 (rE eQ r), .fn 21 []] Hp.emp (Is (.bool true)) :=
  spec_pure dOk ok_eqf1 [.bool true] (.bool _) fun R hR => vc_eqf1 std rfl _ _ 21 (rE eQ r) (by simpa [rE] using hl) (fun x hx => by
    obtain ⟨d, h1, rfl⟩ := List.mem_map.1 hx
    exact ⟨_, rfl, same_self d (hd d h1)⟩) R hR
def ac_st1 : AC := .seq (.region false [
    ⟨some 4, none, .mov (.c (.bool false))⟩])
  (.seq (.region false [
    ⟨some 5, none, .mov (.t 0)⟩,
    ⟨some 6, none, .mov (.t 1)⟩,
    ⟨some 7, none, .call 71 [(.t 5), (.t 6), (.c (.func (.func 21) #[] #[]))]⟩,
    ⟨some 4, none, .mov (.t 7)⟩])
  (.ret))
theorem ok_st1 : FnOk Try.prog 70 Try.f70 ac_st1 [.t 4] 2 drawD := ⟨Try.func70, by decide +kernel, by kernel_rfl, by kernel_rfl, by decide +kernel⟩
theorem vc_st1 (P : Prim) (hP : P = std) (T T1 : CallT) (rows : List (List V)) (h1 : Ans T 71 [.sl true 1 rows, .sl true 1 rows, .fn 21 []] (.bool true))
    (R : S → Prop) (hR : ∀ s s', Ent s s' → Ret [.t 4] [.bool true] s' → R s) : awp P T T1 ac_st1 (S0 [.sl true 1 rows, .sl true 1 rows] Hp.emp) R (fun _ _ => False) R := by
  cbv
  refine h1 _ _ ?_
  cbv
  exact hR _ _ (Ent.refl _) rfl
theorem fn_same {h : Hp} (f : Nat) : Arg h [] (.fn f []) (.fn f []) := .same (.fn f [])
theorem sp_st1 (r : List (List Part)) (hl : r.length ≤ 10000000) (hd : ∀ d ∈ r, d.length ≤ 10000000) : Spec Try.prog 70 [.sl true 1 (rE eQ r), .sl true 1 (rE eQ r)] Hp.emp (Is (.bool true)) :=
  spec_pure dOk ok_st1 [.bool true] (.bool _) fun R hR => vc_st1 std rfl _ _ (rE eQ r) (ansW (sp_eqf1 r hl hd) (fun _ => .cons (.same _) (.cons (.same _) (.cons (fn_same _) .nil))) rfl) R hR
theorem sp_eqf2 (t : List (List (List Part))) (hl : t.length ≤ 10000000) (hd : ∀ r ∈ t, r.length ≤ 10000000 ∧ ∀ d ∈ r, d.length ≤ 10000000) : Spec Try.prog 69 [.sl true 1 (tE eQ t), .sl true 1 (tE eQ t), .fn 70 []] Hp.emp (Is (.bool true)) :=
  spec_pure dOk ok_eqf2 [.bool true] (.bool _) fun R hR => vc_eqf1 std rfl _ _ 70 (tE eQ t) (by simpa [tE] using hl) (fun x hx => by
    obtain ⟨r, h1, rfl⟩ := List.mem_map.1 hx
    exact ⟨_, rfl, ansW (sp_st1 r (hd r h1).1 (hd r h1).2) (fun _ => .cons (.weak _ _) (.cons (.weak _ _) .nil)) rfl⟩) R hR
def ac_st : AC := .seq (.region false [
    ⟨some 4, none, .mov (.c (.bool false))⟩])
  (.seq (.region false [
    ⟨some 5, none, .mov (.t 0)⟩,
    ⟨some 6, none, .mov (.t 1)⟩,
    ⟨some 7, none, .call 69 [(.t 5), (.t 6), (.c (.func (.func 70) #[] #[]))]⟩,
    ⟨some 4, none, .mov (.t 7)⟩])
  (.ret))
theorem ok_st : FnOk Try.prog 28 Try.f28 ac_st [.t 4] 2 drawD := ⟨Try.func28, by decide +kernel, by kernel_rfl, by kernel_rfl, by decide +kernel⟩
theorem vc_st (P : Prim) (hP : P = std) (T T1 : CallT) (rows : List (List V)) (h1 : Ans T 69 [.sl true 1 rows, .sl true 1 rows, .fn 70 []] (.bool true))
    (R : S → Prop) (hR : ∀ s s', Ent s s' → Ret [.t 4] [.bool true] s' → R s) : awp P T T1 ac_st (S0 [.sl true 1 rows, .sl true 1 rows] Hp.emp) R (fun _ _ => False) R := by
  cbv
  refine h1 _ _ ?_
  cbv
  exact hR _ _ (Ent.refl _) rfl
theorem sp_st (t : List (List (List Part))) (hl : t.length ≤ 10000000) (hd : ∀ r ∈ t, r.length ≤ 10000000 ∧ ∀ d ∈ r, d.length ≤ 10000000) : Spec Try.prog 28 [.sl true 1 (tE eQ t), .sl true 1 (tE eQ t)] Hp.emp (Is (.bool true)) :=
  spec_pure dOk ok_st [.bool true] (.bool _) fun R hR => vc_st std rfl _ _ (tE eQ t) (ansW (sp_eqf2 t hl hd) (fun _ => .cons (.same _) (.cons (.same _) (.cons (fn_same _) .nil))) rfl) R hR
/-! the law -/
def ac_ltbd : AC := .seq (.region false [
    ⟨some 4, none, .mov (.c (.bool false))⟩])
  (.seq (.region false [
    ⟨some 10, none, .mov (.t 0)⟩,
    ⟨some 11, none, .mov (.t 1)⟩,
    ⟨some 12, none, .call 27 [(.t 10), (.t 11)]⟩,
    ⟨some 9, none, .mov (.t 12)⟩,
    ⟨some 13, none, .ext 0 (.t 9)⟩,
    ⟨some 14, none, .ext 1 (.t 9)⟩,
    ⟨some 5, none, .mov (.t 13)⟩,
    ⟨some 6, none, .mov (.t 14)⟩])
  (.seq (.seq (.region false [
    ⟨some 16, none, .mov (.t 0)⟩,
    ⟨some 17, none, .mov (.t 1)⟩,
    ⟨some 18, none, .call 23 [(.t 16), (.t 17)]⟩,
    ⟨some 15, none, .mov (.t 18)⟩,
    ⟨some 19, none, .ext 0 (.t 15)⟩,
    ⟨some 20, none, .ext 1 (.t 15)⟩,
    ⟨some 7, none, .mov (.t 19)⟩,
    ⟨some 8, none, .mov (.t 20)⟩])
  (.seq (.region false [
    ⟨some 21, none, .mov (.t 8)⟩,
    ⟨some 22, none, .bin .neq (.t 21) (.c (.int .i64 0))⟩])
  (.cond (.t 22)
    (.seq (.region false [
      ⟨some 23, none, .mov (.t 6)⟩,
      ⟨some 24, none, .mov (.t 8)⟩,
      ⟨some 25, none, .bin .eql (.t 23) (.t 24)⟩,
      ⟨some 26, none, .mov (.t 25)⟩,
      ⟨some 27, some (26, true), .mov (.t 5)⟩,
      ⟨some 28, some (26, true), .len false (.t 27)⟩,
      ⟨some 29, some (26, true), .bin .eql (.t 28) (.c (.int .i64 0))⟩,
      ⟨some 30, none, .pick (.t 26) (.t 29) (.c (.bool false))⟩,
      ⟨some 4, none, .mov (.t 30)⟩])
    (.ret))
    (.skip))))
  (.seq (.region false [
    ⟨some 31, none, .mov (.t 6)⟩,
    ⟨some 32, none, .bin .eql (.t 31) (.c (.int .i64 0))⟩,
    ⟨some 33, none, .mov (.t 32)⟩,
    ⟨some 34, some (33, true), .mov (.t 5)⟩,
    ⟨some 35, some (33, true), .mov (.t 0)⟩,
    ⟨some 36, some (33, true), .mov (.t 1)⟩,
    ⟨some 37, some (33, true), .call 29 [(.t 35), (.t 36)]⟩,
    ⟨some 38, some (33, true), .call 28 [(.t 34), (.t 37)]⟩,
    ⟨some 39, none, .pick (.t 33) (.t 38) (.c (.bool false))⟩,
    ⟨some 4, none, .mov (.t 39)⟩])
  (.ret))))
theorem ok_ltbd : FnOk Try.prog 8 Try.f8 ac_ltbd [.t 4] 2 drawD := ⟨Try.func8, by decide +kernel, by kernel_rfl, by kernel_rfl, by decide +kernel⟩
theorem vc_ltbd (P : Prim) (hP : P = std) (T T1 : CallT) (base : List UInt8) (c : Int) (rows tr dr : List (List V))
    (h1 : Ans T 27 [.str base, .sl false 3 rows] (.tup [.sl false 1 dr, .int .i64 c])) (h2 : Ans T 23 [.str base, .sl false 3 rows] (.tup [.sl false 1 tr, .int .i64 c]))
    (h3 : c = 0 → Ans T 29 [.str base, .sl false 3 rows] (.sl false 1 dr)) (h4 : Ans T 28 [.sl false 1 dr, .sl false 1 dr] (.bool true)) (g1 : c ≠ 0 → dr = [])
    (R : S → Prop) (hR : ∀ s s' b, b = true → Ent s s' → Ret [.t 4] [.bool b] s' → R s) : awp P T T1 ac_ltbd (S0 [.str base, .sl false 3 rows] Hp.emp) R (fun _ _ => False) R := by
  cbv
  refine h1 _ _ ?_
  cbv
  refine h2 _ _ ?_
  cbv
  by_cases hc : c = 0
  · have f3 := h3 hc
    refine br_ff (ne_F hP hc) ?_
    cbv
    refine br_tt (eq_T hP hc) ?_
    cbv
    refine f3 _ _ ?_
    cbv
    refine h4 _ _ ?_
    cbv
    exact hR _ _ _ rfl (Ent.refl _) rfl
  · have q := eq_T hP (show P.rlen dr = 0 by rw [rlen_eq hP, g1 hc]; rfl)
    refine br_tt (ne_T hP hc) ?_
    cbv
    refine br_tt (eq_T hP rfl) ?_
    cbv
    exact hR _ _ _ q (Ent.refl _) rfl
theorem tlF_len (D : Nat → Nat → List Part) (len : Nat) : ∀ (f n : Nat), (tlF D len f n).length ≤ f
  | 0, _ => by simp [tlF]
  | f + 1, n => by
    unfold tlF
    split
    · have := tlF_len D len f (2 * n)
      simp only [List.length_cons]; omega
    · simp
theorem tlF_mem {D : Nat → Nat → List Part} {len : Nat} : ∀ {f n : Nat} {r : List (List Part)}, r ∈ tlF D len f n → ∃ w, r = rowL D len w
  | 0, _, _, h => by simp [tlF] at h
  | f + 1, n, r, h => by
    unfold tlF at h
    split at h
    · rcases List.mem_cons.1 h with rfl | h
      · exact ⟨n, rfl⟩
      · exact tlF_mem h
    · simp at h
theorem sp_law_tierBuilds (base : List UInt8) (l : List Rev) (_ : base.length ≤ maxLen) (hl : RevsOk l) : Spec Try.prog 8 [.str base, encRevs l] Hp.emp (Is (.bool true)) := by
  have hok : (tierF base l).length ≤ 10000000 ∧ ∀ r ∈ tierF base l, r.length ≤ 10000000 ∧ ∀ d ∈ r, d.length ≤ 10000000 := by
    unfold tierF
    split
    · rename_i he
      have h64 := (textsF_ok he).2.1
      refine ⟨by have := tlF_len (dB base l) l.length 8 1; omega, fun r hr => ?_⟩
      obtain ⟨w, rfl⟩ := tlF_mem hr
      refine ⟨by unfold rowL; rw [List.length_map, List.length_range]; have := Nat.div_le_self l.length w; omega, fun d hd => ?_⟩
      obtain ⟨m, h1, rfl⟩ := List.mem_map.1 hd
      have h2 := List.mem_range.1 h1
      have h3 : (m + 1) * w ≤ l.length := Nat.le_trans (Nat.mul_le_mul_right w h2) (Nat.div_mul_le_self _ _)
      have := dB_len (base := base) (l := l) he (show m * w ≤ (m + 1) * w from Nat.mul_le_mul_right w (Nat.le_succ m)) h3
      omega
    · simp
  exact spec_pure dOk ok_ltbd [.bool true] (.bool _) fun R hR => vc_ltbd std rfl _ _ base (textsF base l).2 (l.map encRev) (strRows (textsF base l).1) (tE eQ (tierF base l))
    (ansStr (sp_tbld base l hl) rfl rfl) (ansStr (sp_rtexts base l hl) rfl rfl) (fun h => ansStr (sp_rtier base l hl h) rfl rfl)
    (ansW (sp_st _ hok.1 hok.2) (fun _ => .cons (.weak _ _) (.cons (.weak _ _) .nil)) rfl) (fun h => by unfold tierF; rw [if_neg h]; rfl)
    R fun s s' b h he hr => by subst h; exact hR s s' he hr
end Go.Proofs.Ytcdldpjmdelebaa.AM
