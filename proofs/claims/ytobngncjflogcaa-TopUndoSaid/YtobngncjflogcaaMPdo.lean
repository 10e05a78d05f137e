/-
  What comes of a text by a delta of places: the document's way.
-/
import Derived.Test.YtobngncjflogcaaMMade
set_option linter.unusedVariables false
set_option linter.unusedSimpArgs false
namespace Go.Proofs.Ytobngncjflogcaa.AM
open Go
set_option maxRecDepth 100000
set_option maxHeartbeats 2000000
/-! what comes of a text -/
def ac_pdo : AC := .seq (.region false [
    ⟨some 2, none, .box 176 2 (.t 0)⟩,
    ⟨some 4, none, .mov (.c (.string ⟨#[]⟩))⟩])
  (.seq (.region false [
    ⟨some 5, none, .mov (.c (.string ⟨#[]⟩))⟩])
  (.seq (.seq (.region false [
    ⟨some 8, none, .faddr 1 (.t 2)⟩,
    ⟨some 9, none, .load1 (.t 8)⟩,
    ⟨some 10, none, .len false (.t 9)⟩,
    ⟨some 11, none, .mov (.c (.int .i64 0))⟩])
  (.block 0 (.loop (.seq (.region false [
      ⟨some 12, none, .bin .lss (.t 11) (.t 10)⟩])
    (.seq (.cond (.t 12)
      (.skip)
      (.exit 0))
    (.seq (.block 1 (.seq (.region false [
      ⟨some 13, none, .mov (.t 11)⟩,
      ⟨some 14, none, .iaddr 1 (.t 9) (.t 11)⟩,
      ⟨some 15, none, .load1 (.t 14)⟩,
      ⟨some 6, none, .mov (.t 13)⟩,
      ⟨some 7, none, .mov (.t 15)⟩])
    (.seq (.region false [
      ⟨some 16, none, .mov (.t 5)⟩,
      ⟨some 17, none, .faddr 0 (.t 2)⟩,
      ⟨some 18, none, .load1 (.t 17)⟩,
      ⟨some 19, none, .mov (.t 6)⟩,
      ⟨some 20, none, .iaddr 1 (.t 18) (.t 19)⟩,
      ⟨some 21, none, .load1 (.t 20)⟩,
      ⟨some 22, none, .bin .add (.t 16) (.t 21)⟩,
      ⟨some 5, none, .mov (.t 22)⟩])
    (.seq (.region false [
      ⟨some 23, none, .mov (.t 7)⟩])
    (.cond (.t 23)
      (.region false [
        ⟨some 24, none, .mov (.t 5)⟩,
        ⟨some 25, none, .mov (.t 1)⟩,
        ⟨some 26, none, .mov (.t 6)⟩,
        ⟨some 27, none, .mov (.t 6)⟩,
        ⟨some 28, none, .bin .add (.t 27) (.c (.int .i64 1))⟩,
        ⟨some 29, none, .slstr (.t 25) (some (.t 26)) (some (.t 28))⟩,
        ⟨some 30, none, .bin .add (.t 24) (.t 29)⟩,
        ⟨some 5, none, .mov (.t 30)⟩])
      (.skip))))))
    (.region false [
      ⟨some 31, none, .bin .add (.t 11) (.c (.int .i64 1))⟩,
      ⟨some 11, none, .mov (.t 31)⟩])))))))
  (.seq (.region false [
    ⟨some 32, none, .mov (.t 5)⟩,
    ⟨some 33, none, .faddr 0 (.t 2)⟩,
    ⟨some 34, none, .load1 (.t 33)⟩,
    ⟨some 35, none, .faddr 1 (.t 2)⟩,
    ⟨some 36, none, .load1 (.t 35)⟩,
    ⟨some 37, none, .len false (.t 36)⟩,
    ⟨some 38, none, .iaddr 1 (.t 34) (.t 37)⟩,
    ⟨some 39, none, .load1 (.t 38)⟩,
    ⟨some 40, none, .bin .add (.t 32) (.t 39)⟩,
    ⟨some 4, none, .mov (.t 40)⟩])
  (.ret))))
theorem ok_pdo : FnOk Try.prog 108 Try.f108 ac_pdo [.t 4] 2 drawD := ⟨Try.func108, by decide +kernel, by kernel_rfl, by kernel_rfl, by decide +kernel⟩
structure YDo (ps : List (List UInt8)) (ks : List Bool) (s : List UInt8) where
  i : Nat
  k : Int
  out : List UInt8
  p1 : List (List UInt8)
  r1 : List (List UInt8)
  p2 : List Bool
  r2 : List Bool
  h1 : ps = p1 ++ r1
  h2 : ks = p2 ++ r2
  hl : p1.length = i ∧ p2.length = i
  hk : k = (i : Int)
  ho : out.length ≤ p1.flatten.length + i
  hd : doP ps ks s = out ++ doP r1 r2 (s.drop i)
theorem vc_pdo (P : Prim) (hP : P = std) (T T1 : CallT) (ps : List (List UInt8)) (ks : List Bool) (s : List UInt8) (hlen : ps.length = ks.length + 1) (hs : s.length = ks.length) (hb1 : ks.length ≤ 1000000) (hb2 : ps.flatten.length ≤ 1000000000) (pr kr : List (List V)) (hpr : pr = strRows ps) (hkr : kr = boolRows ks) (r : List UInt8) (hr : doP ps ks s = r)
    (R : S → Prop) (hR : ∀ s s' q, q = r → Ent s s' → Ret [.t 4] [.str q] s' → R s) : awp P T T1 ac_pdo (S0 [.agg [.sl true 1 pr, .sl true 1 kr], .str s] Hp.emp) R (fun _ _ => False) R := by
  have hklen : P.rlen kr = (ks.length : Int) := by rw [rlen_eq hP, hkr]; simp [boolRows]
  cbv
  intro β2
  cbv
  refine ⟨YDo ps ks s, fun y => [(1, .str s), (2, .ptr 2 (some β2) 2 0 0), (5, .str y.out), (9, .sl true 1 kr), (10, .int .i64 (P.rlen kr)), (11, .int .i64 y.k)],
    fun y => [(2, ⟨some β2, 176, 2, [[.sl true 1 pr, .sl true 1 kr]]⟩)], fun y => y.r2.length,
    ⟨_, Ent.refl _, ⟨0, 0, [], [], ps, [], ks, rfl, rfl, ⟨rfl, rfl⟩, rfl, by simp, by simp⟩, ⟨rfl, rfl, rfl, rfl, rfl, rfl, trivial⟩, ⟨rfl, trivial⟩⟩, ?_⟩
  rintro ⟨i, k, out, p1, r1, p2, r2, h1, h2, ⟨hl1, hl2⟩, hk, ho, hd⟩
  have hlp : r1.length = r2.length + 1 := by rw [h1, h2] at hlen; simp at hlen; omega
  have hkl : i + r2.length = ks.length := by rw [h2]; simp; omega
  rcases r1 with _ | ⟨p, r1⟩
  · simp at hlp
  have hpf : p1.flatten.length + p.length ≤ 1000000000 := by rw [h1] at hb2; simp at hb2 ⊢; omega
  have hrow1 : P.row pr (P.nat k) [.str p] := row_of hP hk (by rw [hpr, strRows, List.getElem?_map, h1, ← hl1]; simp)
  have ho1 : P.leP 0 k := le0 hP (by omega)
  have ho2 : P.i64 (P.add k 1) := by rw [add_eq hP]; exact i64I hP (by omega)
  have ho3 : P.i64 (P.add (P.slen out) (P.slen p)) := by rw [add_eq hP, slen_eq hP, slen_eq hP]; exact i64I hP (by omega)
  cbv
  refine br_cases (fun h => ?_) (fun h => ?_)
  · have h3 : k < P.rlen kr := lt_t hP h
    rw [hklen] at h3
    rcases r2 with _ | ⟨q, r2⟩
    · exfalso; simp at hkl; ((try simp only [nc] at *); omega)
    have hrow2 : P.row kr (P.nat k) [.bool q] := row_of hP hk (by rw [hkr, boolRows, List.getElem?_map, h2, ← hl2]; simp)
    cbv
    refine ⟨ho1, _, hrow2, ?_⟩
    cbv
    refine ⟨ho1, _, hrow1, ?_⟩
    cbv
    refine ⟨ho3, ?_⟩
    cases q
    · cbv
      refine ⟨ho2, ?_⟩
      refine ⟨_, Ent.refl _, ⟨i + 1, _, _, p1 ++ [p], r1, p2 ++ [false], r2, by simp [h1], by simp [h2], by simp [hl1, hl2], ?_, ?_, ?_⟩, ⟨rfl, rfl, rfl, rfl, rfl, rfl, trivial⟩, ⟨rfl, trivial⟩, by simp⟩
      · show P.add k 1 = _; rw [add_eq hP, hk]; ((try simp only [nc] at *); omega)
      · show (P.sapp out p).length ≤ _
        subst hP; simp only [std, List.length_append, List.flatten_append, List.flatten_cons, List.flatten_nil, List.append_nil]; omega
      · show _ = P.sapp out p ++ _
        rw [hd]; subst hP; simp [doP, std, List.drop_drop]
    · have hx : (P.ssub s k (P.add k 1)) = (s.drop i).take 1 := by
        rw [add_eq hP, hk]; subst hP
        show (s.take ((i : Int) + 1).toNat).drop ((i : Int)).toNat = _
        rw [List.drop_take, Int.toNat_natCast, show ((i : Int) + 1).toNat - i = 1 by omega]
      have ho4 : P.leP k (P.add k 1) := leI hP (by rw [add_eq hP]; omega)
      have ho5 : P.leP (P.add k 1) (P.slen s) := leI hP (by rw [add_eq hP, slen_eq hP]; simp at hkl; ((try simp only [nc] at *); omega))
      have ho6 : P.i64 (P.add (P.slen (P.sapp out p)) (P.slen (P.ssub s k (P.add k 1)))) := by
        rw [hx, add_eq hP, slen_eq hP, slen_eq hP]; refine i64I hP ?_; subst hP; simp only [std, List.length_append, List.length_take]; omega
      cbv
      refine ⟨ho2, ho1, ho4, ho5, ho6, ho2, ?_⟩
      refine ⟨_, Ent.refl _, ⟨i + 1, _, _, p1 ++ [p], r1, p2 ++ [true], r2, by simp [h1], by simp [h2], by simp [hl1, hl2], ?_, ?_, ?_⟩, ⟨rfl, rfl, rfl, rfl, rfl, rfl, trivial⟩, ⟨rfl, trivial⟩, by simp⟩
      · show P.add k 1 = _; rw [add_eq hP, hk]; ((try simp only [nc] at *); omega)
      · show (P.sapp (P.sapp out p) (P.ssub s k (P.add k 1))).length ≤ _
        rw [hx]; subst hP; simp only [std, List.length_append, List.length_take, List.flatten_append, List.flatten_cons, List.flatten_nil, List.append_nil]; omega
      · show _ = P.sapp (P.sapp out p) (P.ssub s k (P.add k 1)) ++ _
        rw [hd, hx]; subst hP; simp [doP, std, List.drop_drop]
  · have h3 : ¬ k < P.rlen kr := lt_f hP h
    rw [hklen] at h3
    rcases r2 with _ | ⟨q, r2⟩
    rotate_left
    · exfalso; simp at hkl; ((try simp only [nc] at *); omega)
    have hk2 : k = P.rlen kr := by rw [hklen]; simp at hkl; ((try simp only [nc] at *); omega)
    subst hk2
    cbv
    refine ⟨ho1, _, hrow1, ?_⟩
    cbv
    refine ⟨ho3, ?_⟩
    refine hR _ _ _ ?_ (Ent.refl _) rfl
    show P.sapp out p = r
    rw [← hr, hd]; subst hP
    cases r1 <;> simp [doP, std]
theorem sp_pdo (ts : List Tok) (h : ts.length ≤ 1000000) (s : List UInt8) (hs : s.length = inT ts) : Spec Try.prog 108 [.agg [.sl true 1 (strRows (puts ts)), .sl true 1 (boolRows (kepts ts))], .str s] Hp.emp (Is (.str (doT ts s))) :=
  spec_pure dOk ok_pdo [.str (doT ts s)] (.str _) fun R hR => vc_pdo std rfl _ _ (puts ts) (kepts ts) s (puts_len ts) hs (by have := kepts_le ts; omega) (by have := puts_flat ts; omega) _ _ rfl rfl _ (doP_eq ts s) R fun s s' q h he hr => by subst h; exact hR s s' he hr

end Go.Proofs.Ytobngncjflogcaa.AM
