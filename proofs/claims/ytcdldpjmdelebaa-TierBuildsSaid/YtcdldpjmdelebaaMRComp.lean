/-
  Two deltas as one: the document's way, and the law CompSays.
-/
import Derived.Test.YtcdldpjmdelebaaMComp
import Derived.Test.YtcdldpjmdelebaaMMade
import Derived.Test.YtcdldpjmdelebaaMPdo
import Derived.Test.YtcdldpjmdelebaaMShelf
set_option linter.unusedVariables false
set_option linter.unusedSimpArgs false
namespace Go.Proofs.Ytcdldpjmdelebaa.AM
open Go
set_option maxRecDepth 100000
set_option maxHeartbeats 2000000
/-! Comp -/
def ac_rcomp : AC := .seq (.region false [
    ⟨some 4, none, .mov (.c (.slice none 0 0))⟩,
    ⟨some 5, none, .mov (.c (.int .i64 0))⟩])
  (.seq (.seq (.region false [
    ⟨some 15, none, .mov (.t 0)⟩,
    ⟨some 16, none, .mov (.t 1)⟩,
    ⟨some 17, none, .bslice 22 1 [(.t 15), (.t 16)]⟩,
    ⟨some 18, none, .len false (.t 17)⟩,
    ⟨some 19, none, .mov (.c (.int .i64 0))⟩])
  (.block 0 (.loop (.seq (.region false [
      ⟨some 20, none, .bin .lss (.t 19) (.t 18)⟩])
    (.seq (.cond (.t 20)
      (.skip)
      (.exit 0))
    (.seq (.block 1 (.seq (.region false [
      ⟨some 21, none, .iaddr 1 (.t 17) (.t 19)⟩,
      ⟨some 22, none, .load1 (.t 21)⟩,
      ⟨some 7, none, .mov (.t 22)⟩])
    (.seq (.region false [
      ⟨some 23, none, .mov (.t 7)⟩,
      ⟨some 24, none, .call 19 [(.t 23)]⟩,
      ⟨some 8, none, .mov (.t 24)⟩])
    (.seq (.region false [
      ⟨some 25, none, .mov (.t 8)⟩,
      ⟨some 26, none, .bin .neq (.t 25) (.c (.int .i64 0))⟩])
    (.cond (.t 26)
      (.seq (.region false [
        ⟨some 27, none, .mov (.t 8)⟩,
        ⟨some 4, none, .mov (.c (.slice none 0 0))⟩,
        ⟨some 5, none, .mov (.t 27)⟩])
      (.ret))
      (.skip))))))
    (.region false [
      ⟨some 28, none, .bin .add (.t 19) (.c (.int .i64 1))⟩,
      ⟨some 19, none, .mov (.t 28)⟩])))))))
  (.seq (.seq (.region false [
    ⟨some 29, none, .mov (.t 0)⟩,
    ⟨some 30, none, .call 57 [(.t 29)]⟩,
    ⟨some 31, none, .mov (.t 1)⟩,
    ⟨some 32, none, .call 56 [(.t 31)]⟩,
    ⟨some 33, none, .bin .neq (.t 30) (.t 32)⟩])
  (.cond (.t 33)
    (.seq (.region false [
      ⟨some 4, none, .mov (.c (.slice none 0 0))⟩,
      ⟨some 5, none, .mov (.c (.int .i64 4))⟩])
    (.ret))
    (.skip)))
  (.seq (.region false [
    ⟨some 34, none, .mov (.t 0)⟩,
    ⟨some 35, none, .call 56 [(.t 34)]⟩,
    ⟨some 36, none, .call 58 [(.c (.string ⟨#[63]⟩)), (.t 35)]⟩,
    ⟨some 9, none, .mov (.t 36)⟩])
  (.seq (.region false [
    ⟨some 10, none, .mov (.c (.slice none 0 0))⟩])
  (.seq (.seq (.region false [
    ⟨some 37, none, .mov (.t 0)⟩,
    ⟨some 38, none, .call 59 [(.t 37)]⟩,
    ⟨some 39, none, .call 60 [(.t 38)]⟩,
    ⟨some 40, none, .len false (.t 39)⟩,
    ⟨some 41, none, .mov (.c (.int .i64 0))⟩])
  (.block 2 (.loop (.seq (.region false [
      ⟨some 42, none, .bin .lss (.t 41) (.t 40)⟩])
    (.seq (.cond (.t 42)
      (.skip)
      (.exit 2))
    (.seq (.block 3 (.seq (.region false [
      ⟨some 43, none, .iaddr 2 (.t 39) (.t 41)⟩,
      ⟨some 44, none, .loadn 2 (.t 43)⟩,
      ⟨some 12, none, .alloc 122 [(.int .i64 0), (.int .i64 0)]⟩,
      ⟨none, none, .store 2 (.t 12) (.t 44)⟩])
    (.seq (.region false [
      ⟨some 45, none, .mov (.t 1)⟩,
      ⟨some 46, none, .call 59 [(.t 45)]⟩,
      ⟨some 47, none, .call 60 [(.t 46)]⟩,
      ⟨some 48, none, .len false (.t 47)⟩,
      ⟨some 49, none, .mov (.c (.int .i64 0))⟩])
    (.block 4 (.loop (.seq (.region false [
        ⟨some 50, none, .bin .lss (.t 49) (.t 48)⟩])
      (.seq (.cond (.t 50)
        (.skip)
        (.exit 4))
      (.seq (.block 5 (.seq (.region false [
        ⟨some 51, none, .iaddr 2 (.t 47) (.t 49)⟩,
        ⟨some 52, none, .loadn 2 (.t 51)⟩,
        ⟨some 14, none, .alloc 122 [(.int .i64 0), (.int .i64 0)]⟩,
        ⟨none, none, .store 2 (.t 14) (.t 52)⟩])
      (.seq (.region false [
        ⟨some 53, none, .iarr 2 1 (.t 12) (.c (.int .i64 1))⟩,
        ⟨some 54, none, .load1 (.t 53)⟩,
        ⟨some 55, none, .iarr 2 1 (.t 14) (.c (.int .i64 0))⟩,
        ⟨some 56, none, .load1 (.t 55)⟩,
        ⟨some 57, none, .bin .eql (.t 54) (.t 56)⟩])
      (.cond (.t 57)
        (.region false [
          ⟨some 58, none, .mov (.t 10)⟩,
          ⟨some 59, none, .iarr 2 1 (.t 12) (.c (.int .i64 0))⟩,
          ⟨some 60, none, .load1 (.t 59)⟩,
          ⟨some 61, none, .iarr 2 1 (.t 14) (.c (.int .i64 1))⟩,
          ⟨some 62, none, .load1 (.t 61)⟩,
          ⟨some 63, none, .build [(.int .i64 0), (.int .i64 0)] [(0, 1, (.t 60)), (1, 1, (.t 62))]⟩,
          ⟨some 64, none, .bslice 122 2 [(.t 63)]⟩,
          ⟨some 65, none, .append 122 2 16 (.t 58) (.t 64)⟩,
          ⟨some 10, none, .mov (.t 65)⟩])
        (.skip)))))
      (.region false [
        ⟨some 66, none, .bin .add (.t 49) (.c (.int .i64 1))⟩,
        ⟨some 49, none, .mov (.t 66)⟩])))))))))
    (.region false [
      ⟨some 67, none, .bin .add (.t 41) (.c (.int .i64 1))⟩,
      ⟨some 41, none, .mov (.t 67)⟩])))))))
  (.seq (.region false [
    ⟨some 68, none, .mov (.t 0)⟩,
    ⟨some 69, none, .call 56 [(.t 68)]⟩,
    ⟨some 70, none, .mov (.t 10)⟩,
    ⟨some 71, none, .mov (.t 1)⟩,
    ⟨some 72, none, .call 59 [(.t 71)]⟩,
    ⟨some 73, none, .mov (.t 0)⟩,
    ⟨some 74, none, .call 59 [(.t 73)]⟩,
    ⟨some 75, none, .mov (.t 9)⟩,
    ⟨some 76, none, .call 62 [(.t 74), (.t 75)]⟩,
    ⟨some 77, none, .call 62 [(.t 72), (.t 76)]⟩,
    ⟨some 78, none, .call 61 [(.t 69), (.t 70), (.t 77)]⟩,
    ⟨some 4, none, .mov (.t 78)⟩,
    ⟨some 5, none, .mov (.c (.int .i64 0))⟩])
  (.ret)))))))
theorem ok_rcomp : FnOk Try.prog 20 Try.f20 ac_rcomp [.t 4, .t 5] 2 drawD := ⟨Try.func20, by decide +kernel, by kernel_rfl, by kernel_rfl, by decide +kernel⟩
def fst1 (p : Nat × Nat) (l : List (Nat × Nat)) : List (Nat × Nat) := l.filterMap fun q => if p.2 = q.1 then some (p.1, q.2) else none
theorem comps_app (a b l : List (Nat × Nat)) : comps (a ++ b) l = comps a l ++ comps b l := by simp [comps]
theorem comps_one (p : Nat × Nat) (l : List (Nat × Nat)) : comps [p] l = fst1 p l := by simp [comps, fst1]
structure YR1 (la lb : List (Nat × Nat)) where
  k : Int
  pre : List (Nat × Nat)
  rest : List (Nat × Nat)
  n : Nat
  b : Option Nat
  rows : List (List V)
  hd : la = pre ++ rest
  hk : k = (pre.length : Int)
  hrows : rows = pairRows (comps pre lb)
  hn : n = rows.length
  hb : rows.length ≤ pre.length * lb.length
structure YR2 (base : List (Nat × Nat)) (p : Nat × Nat) (lb : List (Nat × Nat)) where
  k : Int
  pre : List (Nat × Nat)
  rest : List (Nat × Nat)
  n : Nat
  b : Option Nat
  rows : List (List V)
  hd : lb = pre ++ rest
  hk : k = (pre.length : Int)
  hrows : rows = pairRows (base ++ fst1 p pre)
  hn : n = rows.length
  hb : rows.length ≤ base.length + pre.length
structure YH where
  k : Int
  h0 : k = 0 ∨ k = 1 ∨ k = 2
theorem vc_rcomp (P : Prim) (hP : P = std) (T T1 : CallT) (ra rb : List (List V)) (c1 c2 o i ia : Int) (la lb : List (Nat × Nat)) (hla : la.length ≤ 1000) (hlb : lb.length ≤ 1000) (pa pb : V) (mr pra prb : List (List V)) (hpra : pra = pairRows la) (hprb : prb = pairRows lb) (s s1 s2 : List UInt8)
    (hd1 : Ans T 19 [.sl false 3 ra] (.int .i64 c1)) (hd2 : Ans T 19 [.sl false 3 rb] (.int .i64 c2))
    (ho : c1 = 0 → Ans T 57 [.sl false 3 ra] (.int .i64 o)) (hi : c2 = 0 → Ans T 56 [.sl false 3 rb] (.int .i64 i)) (hia : c1 = 0 → Ans T 56 [.sl false 3 ra] (.int .i64 ia))
    (hrep : c1 = 0 → Ans T 58 [.str [63], .int .i64 ia] (.str s)) (hofa : c1 = 0 → Ans T 59 [.sl false 3 ra] pa) (hofb : c2 = 0 → Ans T 59 [.sl false 3 rb] pb)
    (hpa : c1 = 0 → Ans T 60 [pa] (.sl false 2 pra)) (hpb : c2 = 0 → Ans T 60 [pb] (.sl false 2 prb))
    (hdoa : c1 = 0 → Ans T 62 [pa, .str s] (.str s1)) (hdob : c1 = 0 → c2 = 0 → o = i → Ans T 62 [pb, .str s1] (.str s2))
    (hmade : c1 = 0 → c2 = 0 → o = i → ∀ (h : Hp) (K : V → Hp → Prop) (k : Nat) (b : Option Nat) (n : Nat) (rs : List (List V)), rs = pairRows (comps la lb) → n = rs.length → h k = some ⟨b, 122, 2, rs⟩ → K (.sl false 3 mr) h → T 61 [.int .i64 ia, .own k b 2 n, .str s2] h K)
    (rr : List (List V)) (e : Int) (hr : rr = (if c1 ≠ 0 then [] else if c2 ≠ 0 then [] else if o ≠ i then [] else mr) ∧ e = if c1 ≠ 0 then c1 else if c2 ≠ 0 then c2 else if o ≠ i then 4 else 0)
    (R : S → Prop) (hR : ∀ e2, e2 = e → RetSl [.t 4, .t 5] 3 rr [.int .i64 e2] R) : awp P T T1 ac_rcomp (S0 [.sl false 3 ra, .sl false 3 rb] Hp.emp) R (fun _ _ => False) R := by
  have hl1 : P.rlen pra = (la.length : Int) := by rw [rlen_eq hP, hpra]; simp [pairRows]
  have hl2 : P.rlen prb = (lb.length : Int) := by rw [rlen_eq hP, hprb]; simp [pairRows]
  obtain ⟨hr1, hr2⟩ := hr
  cbv
  intro β17
  cbv
  refine ⟨{ y : YH // (y.k ≠ 0 → c1 = 0) ∧ (y.k = 2 → c2 = 0) }, fun y => [(0, .sl false 3 ra), (1, .sl false 3 rb), (17, .own 1000017 (some β17) 1 2), (18, .int .i64 (P.int 2)), (19, .int .i64 y.1.k)],
    fun y => [(1000017, ⟨some β17, 22, 1, [[.sl false 3 ra], [.sl false 3 rb]]⟩)], fun y => (2 - y.1.k).toNat,
    ⟨_, Ent.refl _, ⟨⟨0, .inl rfl⟩, fun h => absurd rfl h, fun h => by cases h⟩, ⟨rfl, rfl, rfl, rfl, rfl, trivial⟩, ⟨rfl, trivial⟩⟩, ?_⟩
  rintro ⟨⟨k, hk⟩, hk1, hk2⟩
  simp only [] at hk1 hk2
  have hi2 : P.int 2 = 2 := by rw [int_eq hP]; rfl
  have ho1 : P.leP 0 k := le0 hP (by omega)
  cbv
  refine br_cases (fun h => ?_) (fun h => ?_)
  · have h2 : k < P.int 2 := lt_t hP h
    rw [hi2] at h2
    have ho2 : P.ltP k (P.int 2) := ltI hP (by rw [hi2]; exact h2)
    have ho3 : P.i64 (P.add k 1) := by rw [add_eq hP]; exact i64I hP (by omega)
    clear ho hi hia hrep hofa hofb hpa hpb hdoa hdob hmade
    by_cases hk0 : k = 0
    · have hrow : P.row [[.sl false 3 ra], [.sl false 3 rb]] (P.nat k) [.sl false 3 ra] := row_of hP (i := 0) hk0 rfl
      cbv
      refine ⟨ho1, ho2, _, hrow, ?_⟩
      cbv
      refine hd1 _ _ ?_
      cbv
      refine br_cases (fun h => ?_) (fun h => ?_)
      · have hc : c1 ≠ 0 := ne_t hP h
        rw [if_pos hc] at hr1 hr2
        cbv
        exact (hR _ hr2.symm).1 _ _ (Ent.refl _) rfl hr1
      · have hc : c1 = 0 := ne_f hP h
        cbv
        refine ⟨ho3, ?_⟩
        have e1 : P.add k 1 = 1 := by rw [add_eq hP, hk0]; rfl
        refine ⟨_, Ent.refl _, ⟨⟨_, .inr (.inl e1)⟩, fun _ => hc, fun h => ?_⟩, ⟨rfl, rfl, rfl, rfl, rfl, trivial⟩, ⟨rfl, trivial⟩, ?_⟩
        · have h : P.add k 1 = 2 := h
          omega
        · show (2 - P.add k 1).toNat < (2 - k).toNat
          omega
    · have hk1' : k = 1 := by omega
      have hc1 := hk1 hk0
      rw [if_neg (fun h => h hc1)] at hr1 hr2
      have hrow : P.row [[.sl false 3 ra], [.sl false 3 rb]] (P.nat k) [.sl false 3 rb] := row_of hP (i := 1) hk1' rfl
      cbv
      refine ⟨ho1, ho2, _, hrow, ?_⟩
      cbv
      refine hd2 _ _ ?_
      cbv
      refine br_cases (fun h => ?_) (fun h => ?_)
      · have hc : c2 ≠ 0 := ne_t hP h
        rw [if_pos hc] at hr1 hr2
        cbv
        exact (hR _ hr2.symm).1 _ _ (Ent.refl _) rfl hr1
      · have hc : c2 = 0 := ne_f hP h
        cbv
        refine ⟨ho3, ?_⟩
        have e1 : P.add k 1 = 2 := by rw [add_eq hP, hk1']; rfl
        refine ⟨_, Ent.refl _, ⟨⟨_, .inr (.inr e1)⟩, fun _ => hc1, fun _ => hc⟩, ⟨rfl, rfl, rfl, rfl, rfl, trivial⟩, ⟨rfl, trivial⟩, ?_⟩
        show (2 - P.add k 1).toNat < (2 - k).toNat
        omega
  have h2 : ¬ k < P.int 2 := lt_f hP h
  rw [hi2] at h2
  have hk2' : k = 2 := by omega
  have hc1 := hk1 (by omega)
  have hc2 := hk2 hk2'
  rw [if_neg (fun h => h hc1), if_neg (fun h => h hc2)] at hr1 hr2
  have f1 := ho hc1
  have f2 := hi hc2
  have f3 := hia hc1
  have f4 := hrep hc1
  have f5 := hofa hc1
  have f6 := hofb hc2
  have f7 := hpa hc1
  have f8 := hpb hc2
  have f9 := hdoa hc1
  have f10 := hdob hc1 hc2
  have f11 := hmade hc1 hc2
  clear ho hi hia hrep hofa hofb hpa hpb hdoa hdob hmade hd1 hd2 ho1
  cbv
  refine f1 _ _ ?_
  cbv
  refine f2 _ _ ?_
  cbv
  refine br_cases (fun h => ?_) (fun h => ?_)
  · have hc : o ≠ i := ne_t hP h
    rw [if_pos hc] at hr1 hr2
    cbv
    exact (hR _ hr2.symm).1 _ _ (Ent.refl _) rfl hr1
  have hoi : o = i := ne_f hP h
  rw [if_neg (fun h => h hoi)] at hr1 hr2
  replace f10 := f10 hoi
  replace f11 := f11 hoi
  cbv
  refine f3 _ _ ?_
  cbv
  refine f4 _ _ ?_
  cbv
  refine f5 _ _ ?_
  cbv
  refine f7 _ _ ?_
  cbv
  refine ⟨YR1 la lb, fun y => [(0, .sl false 3 ra), (1, .sl false 3 rb), (9, .str s), (10, .own 1000065 y.b 2 y.n), (39, .sl false 2 pra), (40, .int .i64 (P.rlen pra)), (41, .int .i64 y.k)],
    fun y => [(1000065, ⟨y.b, 122, 2, y.rows⟩)], fun y => y.rest.length,
    ⟨_, Ent.nil (i := 10) (k := 1000065) (ty := 122) (sz := 2) rfl rfl, ⟨0, [], la, _, _, _, rfl, rfl, by simp [comps, pairRows], rfl, by simp⟩, ⟨rfl, rfl, rfl, rfl, rfl, rfl, rfl, trivial⟩, ⟨rfl, trivial⟩⟩, ?_⟩
  rintro ⟨k, pre, rest, n, b, rows, hd, hk, hrows, hn, hb⟩
  have hlp : pre.length + rest.length = la.length := by rw [hd]; simp
  cbv
  refine br_cases (fun h => ?_) (fun h => ?_)
  · have h2 : k < P.rlen pra := lt_t hP h
    rw [hl1] at h2
    rcases rest with _ | ⟨⟨x, y⟩, rest⟩
    · exfalso; simp at hlp; ((try simp only [nc] at *); omega)
    have hrow : P.row pra (P.nat k) [.int .i64 x, .int .i64 y] := row_of hP hk (by rw [hpra, pairRows, List.getElem?_map, hd]; simp)
    have ho1 : P.leP 0 k := le0 hP (by ((try simp only [nc] at *); omega))
    have ho2 : P.i64 (P.add k 1) := by rw [add_eq hP]; exact i64I hP (by ((try simp only [nc] at *); omega))
    cbv
    refine ⟨ho1, _, hrow, ?_⟩
    cbv
    intro β12
    cbv
    refine f6 _ _ ?_
    cbv
    refine f8 _ _ ?_
    cbv
    have hb0 : (comps pre lb).length ≤ pre.length * lb.length := by rw [hrows] at hb; simpa [pairRows] using hb
    have hpl : pre.length * lb.length ≤ 1000000 := Nat.le_trans (Nat.mul_le_mul (by omega : pre.length ≤ 1000) hlb) (by decide)
    refine ⟨YR2 (comps pre lb) (x, y) lb, fun z => [(0, .sl false 3 ra), (1, .sl false 3 rb), (9, .str s), (10, .own 1000065 z.b 2 z.n), (12, .ptr 12 (some β12) 2 0 0), (39, .sl false 2 pra), (40, .int .i64 (P.rlen pra)), (41, .int .i64 k), (47, .sl false 2 prb), (48, .int .i64 (P.rlen prb)), (49, .int .i64 z.k)],
      fun z => [(12, ⟨some β12, 122, 2, [[.int .i64 x, .int .i64 y]]⟩), (1000065, ⟨z.b, 122, 2, z.rows⟩)], fun z => z.rest.length,
      ⟨_, Ent.refl _, ⟨0, [], lb, n, b, rows, rfl, rfl, by rw [hrows]; simp [fst1], hn, by rw [hrows]; simp [pairRows]⟩, ⟨rfl, rfl, rfl, rfl, rfl, rfl, rfl, rfl, rfl, rfl, rfl, trivial⟩, ⟨rfl, rfl, trivial⟩⟩, ?_⟩
    rintro ⟨k2, pre2, rest2, n2, b2, rows2, hd2, hk2, hrows2, hn2, hb2⟩
    have hlp2 : pre2.length + rest2.length = lb.length := by rw [hd2]; simp
    cbv
    refine br_cases (fun h => ?_) (fun h => ?_)
    · have h3 : k2 < P.rlen prb := lt_t hP h
      rw [hl2] at h3
      rcases rest2 with _ | ⟨⟨x2, y2⟩, rest2⟩
      · exfalso; simp at hlp2; ((try simp only [nc] at *); omega)
      have hrow2 : P.row prb (P.nat k2) [.int .i64 x2, .int .i64 y2] := row_of hP hk2 (by rw [hprb, pairRows, List.getElem?_map, hd2]; simp)
      have ho3 : P.leP 0 k2 := le0 hP (by ((try simp only [nc] at *); omega))
      have ho4 : P.i64 (P.add k2 1) := by rw [add_eq hP]; exact i64I hP (by ((try simp only [nc] at *); omega))
      have r8 : P.leP 0 1 := le0 hP (by omega)
      have r9 : P.ltP 1 2 := ltI hP (by omega)
      have r10 : P.nat 1 = 1 := by subst hP; rfl
      have r11 : P.leP 0 0 := le0 hP (by omega)
      have r12 : P.ltP 0 2 := ltI hP (by omega)
      have r13 : P.nat 0 = 0 := by subst hP; rfl
      have ho5 : P.neP rows2 n2 := by subst hP; show rows2.length = n2; rw [hn2]
      have ho6 : ∀ r, P.bytes (P.add (P.int n2) (P.rlen [r])) 16 := by intro r; subst hP; show ((n2 : Int) + 1) * 16 ≤ _; ((try simp only [nc] at *); omega)
      have ho7 : ∀ r, P.neP [r] 1 := by intro r; subst hP; rfl
      cbv
      refine ⟨ho3, _, hrow2, ?_⟩
      cbv
      intro β14
      cbv
      refine ⟨r8, r9, _, r10, ?_⟩
      cbv
      refine ⟨r11, r12, _, r13, ?_⟩
      cbv
      by_cases hxy : y = x2
      · refine br_tt (eq_T hP (by rw [hxy])) ?_
        cbv
        repeat' (first
          | (refine And.intro (by assumption) ?_; try cbv)
          | (refine And.intro (ho7 _) ?_; try cbv)
          | (refine And.intro (ho6 _) ?_; try cbv)
          | (intro β; try cbv)
          | (refine Exists.intro _ (And.intro (by assumption) ?_); try cbv))
        refine ⟨_, Ent.refl _, ⟨_, pre2 ++ [(x2, y2)], rest2, _, _, _, by simp [hd2], ?_, ?_, ?_, ?_⟩, ⟨rfl, rfl, rfl, rfl, rfl, rfl, rfl, rfl, rfl, rfl, rfl, trivial⟩, ⟨rfl, rfl, trivial⟩, by simp⟩
        · show P.add k2 1 = _; rw [add_eq hP, hk2]; simp
        · show P.rapp rows2 [[.int .i64 x, .int .i64 y2]] = _
          rw [hrows2]; subst hP; simp [std, pairRows, nc, fst1, hxy]
        · show P.nadd n2 (P.rlenN [_]) = (P.rapp rows2 [_]).length
          subst hP; simp [std, hn2]
        · show (P.rapp rows2 [_]).length ≤ _
          subst hP; simp [std]; omega
      · refine br_ff (eq_F hP (fun e => hxy (Int.ofNat.inj e))) ?_
        cbv
        refine ⟨ho4, ?_⟩
        refine ⟨_, Ent.refl _, ⟨_, pre2 ++ [(x2, y2)], rest2, _, _, _, by simp [hd2], ?_, ?_, hn2, by simp; omega⟩, ⟨rfl, rfl, rfl, rfl, rfl, rfl, rfl, rfl, rfl, rfl, rfl, trivial⟩, ⟨rfl, rfl, trivial⟩, by simp⟩
        · show P.add k2 1 = _; rw [add_eq hP, hk2]; simp
        · rw [hrows2]; simp [fst1, hxy]
    · have h3 : ¬ k2 < P.rlen prb := lt_f hP h
      rw [hl2] at h3
      rcases rest2 with _ | ⟨⟨x2, y2⟩, rest2⟩
      rotate_left
      · exfalso; simp at hlp2; ((try simp only [nc] at *); omega)
      rw [List.append_nil] at hd2
      subst hd2
      cbv
      refine ⟨ho2, ?_⟩
      refine ⟨_, Ent.refl _, ⟨_, pre ++ [(x, y)], rest, _, _, _, by simp [hd], ?_, ?_, hn2, ?_⟩, ⟨rfl, rfl, rfl, rfl, rfl, rfl, rfl, trivial⟩, ⟨rfl, trivial⟩, by simp⟩
      · show P.add k 1 = _; rw [add_eq hP, hk]; simp
      · rw [hrows2, comps_app, comps_one]
      · rw [List.length_append, Nat.add_mul]; simp; omega
  · have h2 : ¬ k < P.rlen pra := lt_f hP h
    rw [hl1] at h2
    rcases rest with _ | ⟨⟨x, y⟩, rest⟩
    rotate_left
    · exfalso; simp at hlp; ((try simp only [nc] at *); omega)
    rw [List.append_nil] at hd
    subst hd
    cbv
    refine f3 _ _ ?_
    cbv
    refine f6 _ _ ?_
    cbv
    refine f5 _ _ ?_
    cbv
    refine f9 _ _ ?_
    cbv
    refine f10 _ _ ?_
    cbv
    refine f11 _ _ _ _ _ _ hrows hn rfl ?_
    cbv
    exact (hR _ hr2.symm).2.2 _ _ _ (Ent.refl _) rfl hr1.symm
theorem sp_repeat (n : Nat) (hn : n ≤ 1000000) : Spec Try.prog 58 [.str [63], .int .i64 n] Hp.emp (Is (.str (Lib.repeatL [63] n))) :=
  spec_of_calls (us0 := #[.string ⟨#[63]⟩, .int .i64 n]) ⟨Try.f58, Try.func58, by decide +kernel, Option.isSome_iff_exists.1 (by decide +kernel)⟩
    (fun F B w us hl h => by
      match us, hl, h with
      | ⟨[x, y]⟩, _, h =>
        have a0 := h 0 _ x rfl rfl
        have a1 := h 1 _ y rfl rfl
        cases a0
        cases a1
        rfl)
    (fun F B w => .str _) fun w => by
      have := Try.strings_Repeat ⟨#[63]⟩ n w (by omega) (by show 1 * n ≤ _; omega)
      simpa using this
theorem comps_nil (ts ys : List Tok) : True := trivial
theorem mkD_comp (xs ys : List Tok) (s : List UInt8) (h : outT xs = inT ys) (hs : s.length = inT xs) : mkD (cmp xs ys) = mkD (madeT (inT xs) (doT ys (doT xs s)) 0 0 (comps (pairsT xs 0 0) (pairsT ys 0 0))) := by
  obtain ⟨h1, h2, h3, _⟩ := compT_spec (xs.length + ys.length) xs ys s 0 0 0 (Nat.le_refl _) h hs
  have := mkD_made (cmp xs ys) s (by unfold cmp; rw [h1, hs])
  unfold cmp at this ⊢
  rw [this, h1, h2, h3]
theorem pairs_in (ts : List Tok) : ∀ i j, (pairsT ts i j).length ≤ inT ts := by
  induction ts with
  | nil => intro i j; simp [pairsT]
  | cons t ts ih =>
    intro i j
    cases t
    · have := ih (i + 1) (j + 1); simp [pairsT, inT, kepts] at *; omega
    · have := ih i (j + 1); simp [pairsT, inT, kepts] at *; omega
    · have := ih (i + 1) j; simp [pairsT, inT, kepts] at *; omega
theorem rep_len (n : Nat) : (Lib.repeatL [63] n).length = n := by rw [Lib.repeatL_length]; simp
theorem sp_rcomp (a b : List Part) (ha : a.length ≤ maxLen) (hb : b.length ≤ maxLen) : Spec Try.prog 20 [encParts a, encParts b] Hp.emp (Is (.tup [encParts (compF a b).1, .int .i64 (compF a b).2])) := by
  have big : maxLen = 9223372036854775807 := by decide
  by_cases hok : checkF a = 0 ∧ checkF b = 0 ∧ outF a = inF b
  · obtain ⟨za, zb, hoi⟩ := hok
    obtain ⟨hla, hoka, ha1, ha2, _, _⟩ := checkF_all za
    obtain ⟨hlb, hokb, hb1, hb2, _, _⟩ := checkF_all zb
    have e1 := outT_toks a hoka
    have e2 := inT_toks a hoka
    have e3 := inT_toks b hokb
    have e4 := outT_toks b hokb
    have hio : outT (toks a) = inT (toks b) := by omega
    have hs : (Lib.repeatL [63] (inT (toks a))).length = inT (toks a) := rep_len _
    have hd1 := doT_len (toks a) _ hs
    have hd2 := doT_len (toks b) (doT (toks a) (Lib.repeatL [63] (inT (toks a)))) (by rw [hd1, hio])
    obtain ⟨c1, c2, c3, c4⟩ := compT_spec ((toks a).length + (toks b).length) (toks a) (toks b) _ 0 0 0 (Nat.le_refl _) hio hs
    have hmk : madeOk (inT (toks a)) (doT (toks b) (doT (toks a) (Lib.repeatL [63] (inT (toks a))))) 0 0 (comps (pairsT (toks a) 0 0) (pairsT (toks b) 0 0)) := by
      rw [← c3]
      refine madeOk_pairs _ _ _ _ _ (by omega) ?_
      rw [c4, hd2]; omega
    have hml := madeT_len _ _ _ _ _ hmk
    have hcl : (comps (pairsT (toks a) 0 0) (pairsT (toks b) 0 0)).length ≤ inT (toks a) := by
      rw [← c3]
      have := pairs_in (compT ((toks a).length + (toks b).length) (toks a) (toks b)) 0 0
      omega
    have p1 := pairs_in (toks a) 0 0
    have p2 := pairs_in (toks b) 0 0
    have hres : compF a b = (mkD (madeT (inT (toks a)) (doT (toks b) (doT (toks a) (Lib.repeatL [63] (inT (toks a))))) 0 0 (comps (pairsT (toks a) 0 0) (pairsT (toks b) 0 0))), 0) := by
      unfold compF
      rw [if_neg (fun h => h za), if_neg (fun h => h zb), if_neg (fun h => h hoi), mkD_comp _ _ _ hio hs]
    rw [hres]
    exact spec_frz dOk ok_rcomp fun R hR => vc_rcomp std rfl _ _ (a.map encPart) (b.map encPart) (checkF a) (checkF b) (outF a) (inF b) (inT (toks a)) (pairsT (toks a) 0 0) (pairsT (toks b) 0 0) (by omega) (by omega) (encPl (puts (toks a)) (kepts (toks a))) (encPl (puts (toks b)) (kepts (toks b))) _ _ _ rfl rfl (Lib.repeatL [63] (inT (toks a))) _ _
      (ansL (sp_rdelta a ha) rfl) (ansL (sp_rdelta b hb) rfl) (fun _ => ansL (sp_rout a hla hoka) rfl) (fun _ => ansL (sp_rin b hlb hokb) rfl) (fun _ => by rw [e2]; exact ansL (sp_rin a hla hoka) rfl)
      (fun _ => ansW (sp_repeat _ (by omega)) (fun h => .cons (.same _) (.cons (.same _) .nil)) rfl) (fun _ => ansL (sp_rof a hla (ok_bd hoka)) rfl) (fun _ => ansL (sp_rof b hlb (ok_bd hokb)) rfl)
      (fun _ => ansW (sp_pairs (toks a) (fits_len za)) (fun h => .cons (arg_pl h _ _) .nil) rfl) (fun _ => ansW (sp_pairs (toks b) (fits_len zb)) (fun h => .cons (arg_pl h _ _) .nil) rfl)
      (fun _ => ansW (sp_pdo (toks a) (fits_len za) _ hs) (fun h => .cons (arg_pl h _ _) (.cons (.same _) .nil)) rfl) (fun _ _ _ => ansW (sp_pdo (toks b) (fits_len zb) _ (by rw [hd1, hio])) (fun h => .cons (arg_pl h _ _) (.cons (.same _) .nil)) rfl)
      (fun _ _ _ h K k b n rs hrs hn hk hK => ⟨h, HEnt.refl h, call_pure (sp_made (inT (toks a)) (by omega) _ (by omega) _ (by rw [hd2]; omega) hmk (by rw [hd2] at hml; omega)) (.cons (.same _) (.cons (.own k b 2 n _ (by rw [rowsOf_own hn hk, hrs]) (by simp)) (.cons (.same _) .nil))) hK⟩)
      ((mkD (madeT (inT (toks a)) (doT (toks b) (doT (toks a) (Lib.repeatL [63] (inT (toks a))))) 0 0 (comps (pairsT (toks a) 0 0) (pairsT (toks b) 0 0)))).map encPart) 0 ⟨by rw [if_neg (fun h => h za), if_neg (fun h => h zb), if_neg (fun h => h hoi)], by rw [if_neg (fun h => h za), if_neg (fun h => h zb), if_neg (fun h => h hoi)]⟩ R fun e2 he => by
        subst he
        exact retSl_of (parts_sz _) (encParts_fz _) (int_fz _) fun s s' he hr => hR s s' he hr
  · have ob : ∀ {x : List Part} {f : Nat} {w : V}, ¬ (checkF a = 0 ∧ checkF b = 0 ∧ outF a = inF b) → True := fun _ => trivial
    exact spec_frz dOk ok_rcomp fun R hR => vc_rcomp std rfl _ _ (a.map encPart) (b.map encPart) (checkF a) (checkF b) (outF a) (inF b) (if checkF a = 0 then inT (toks a) else 0) (if checkF a = 0 then pairsT (toks a) 0 0 else []) (if checkF b = 0 then pairsT (toks b) 0 0 else [])
      (by
        split
        · rename_i za
          obtain ⟨_, hoka, ha1, _⟩ := checkF_all za
          have e2 := inT_toks a hoka
          have := pairs_in (toks a) 0 0
          omega
        · simp) (by
        split
        · rename_i zb
          obtain ⟨_, hokb, hb1, _⟩ := checkF_all zb
          have e2 := inT_toks b hokb
          have := pairs_in (toks b) 0 0
          omega
        · simp) (encPl (puts (toks a)) (kepts (toks a))) (encPl (puts (toks b)) (kepts (toks b))) [] _ _ rfl rfl (Lib.repeatL [63] (inT (toks a))) (doT (toks a) (Lib.repeatL [63] (inT (toks a)))) []
      (ansL (sp_rdelta a ha) rfl) (ansL (sp_rdelta b hb) rfl) (fun za => ansL (sp_rout a (checkF_all za).1 (checkF_all za).2.1) rfl) (fun zb => ansL (sp_rin b (checkF_all zb).1 (checkF_all zb).2.1) rfl) (fun za => by rw [if_pos za, inT_toks a (checkF_all za).2.1]; exact ansL (sp_rin a (checkF_all za).1 (checkF_all za).2.1) rfl)
      (fun za => by
        rw [if_pos za]
        obtain ⟨_, hoka, ha1, _⟩ := checkF_all za
        have e2 := inT_toks a hoka
        exact ansW (sp_repeat _ (by omega)) (fun h => .cons (.same _) (.cons (.same _) .nil)) rfl) (fun za => ansL (sp_rof a (checkF_all za).1 (ok_bd (checkF_all za).2.1)) rfl) (fun zb => ansL (sp_rof b (checkF_all zb).1 (ok_bd (checkF_all zb).2.1)) rfl)
      (fun za => by rw [if_pos za]; exact ansW (sp_pairs (toks a) (fits_len za)) (fun h => .cons (arg_pl h _ _) .nil) rfl) (fun zb => by rw [if_pos zb]; exact ansW (sp_pairs (toks b) (fits_len zb)) (fun h => .cons (arg_pl h _ _) .nil) rfl)
      (fun za => ansW (sp_pdo (toks a) (fits_len za) _ (rep_len _)) (fun h => .cons (arg_pl h _ _) (.cons (.same _) .nil)) rfl) (fun za zb hoi => absurd ⟨za, zb, hoi⟩ hok) (fun za zb hoi => absurd ⟨za, zb, hoi⟩ hok)
      ((compF a b).1.map encPart) (compF a b).2 ⟨by unfold compF; split; rfl; split; rfl; split; rfl; exact absurd ⟨Decidable.of_not_not (by assumption), Decidable.of_not_not (by assumption), Decidable.of_not_not (by assumption)⟩ hok, by unfold compF; split; rfl; split; rfl; split; rfl; rfl⟩ R fun e2 he => by
        subst he
        exact retSl_of (parts_sz _) (encParts_fz _) (int_fz _) fun s s' he hr => hR s s' he hr

end Go.Proofs.Ytcdldpjmdelebaa.AM
