/-
  Deltas byte by byte, the references' way: places; a delta of places.
-/
import Derived.Test.YtdmpbdmgaepndaaMMk2
import Derived.Test.YtdmpbdmgaepndaaMTok5
set_option linter.unusedVariables false
set_option linter.unusedSimpArgs false
namespace Go.Proofs.Ytdmpbdmgaepndaa.AM
open Go
set_option maxRecDepth 100000
set_option maxHeartbeats 2000000
/-! plain -/
def plRun (m : Mk) : List (List UInt8) → List Bool → Mk
  | p :: ps, k :: ks => plRun (if k then (m.doPut p).doKeep 1 else (m.doPut p).doCut 1) ps ks
  | p :: _, [] => m.doPut p
  | [], _ => m
theorem plRun_consHead (m : Mk) (b : UInt8) (l : List (List UInt8)) (ks : List Bool) (h : l ≠ []) : plRun m (consHead b l) ks = plRun (m.doPut [b]) l ks := by
  cases l with
  | nil => exact absurd rfl h
  | cons p r => cases ks <;> simp [consHead, plRun, Mk.doPut]
theorem plRun_eq (m : Mk) (ts : List Tok) : plRun m (puts ts) (kepts ts) = m.run ts := by
  induction ts generalizing m with
  | nil => simp [puts, kepts, plRun, Mk.run, Mk.doPut]
  | cons t ts ih =>
    have hs : m.run (t :: ts) = (m.tok t).run ts := rfl
    rw [hs, ← ih]
    cases t
    · simp [puts, kepts, plRun, Mk.tok, Mk.doPut]
    · simp only [puts, kepts, Mk.tok]
      exact plRun_consHead _ _ _ _ (puts_nn ts)
    · simp [puts, kepts, plRun, Mk.tok, Mk.doPut]
/-- one place -/
def plStep (m : Mk) (p : List UInt8) (k : Bool) : Mk := if k then (m.doPut p).doKeep 1 else (m.doPut p).doCut 1
def strRows (l : List (List UInt8)) : List (List V) := l.map fun s => [.str s]
def boolRows (l : List Bool) : List (List V) := l.map fun b => [.bool b]
theorem puts_app_n (ts : List Tok) (x : Tok) (hx : x = .keep ∨ x = .cut) (n : Nat) : puts (ts ++ List.replicate n x) = puts ts ++ List.replicate n [] := by
  induction n generalizing ts with
  | zero => simp
  | succ n ih => rw [List.replicate_succ, show ts ++ x :: List.replicate n x = (ts ++ [x]) ++ List.replicate n x by simp, ih, puts_app_step _ _ hx]; simp [List.replicate_succ]

theorem kepts_app_n (ts : List Tok) (x : Tok) (hx : x = .keep ∨ x = .cut) (n : Nat) : kepts (ts ++ List.replicate n x) = kepts ts ++ List.replicate n (decide (x = .keep)) := by
  rw [kepts_app]
  congr 1
  induction n with
  | zero => rfl
  | succ n ih => rcases hx with rfl | rfl <;> simp [List.replicate_succ, kepts, ih]
theorem kepts_le (ts : List Tok) : (kepts ts).length ≤ ts.length := by
  induction ts with
  | nil => simp [kepts]
  | cons t ts ih => cases t <;> simp [kepts] <;> omega
theorem toks1_len (p : Part) (h : 0 ≤ p.n ∧ p.n ≤ 500 ∧ p.text.length ≤ 500) : (toks1 p).length ≤ 500 := by
  unfold toks1
  split
  · simp; omega
  · split <;> simp <;> omega
theorem toks_len (l : List Part) (h : ∀ p ∈ l, 0 ≤ p.n ∧ p.n ≤ 500 ∧ p.text.length ≤ 500) : (toks l).length ≤ 500 * l.length := by
  induction l with
  | nil => simp [toks]
  | cons p l ih =>
    have h1 := toks1_len p (h p (by simp))
    have h2 := ih fun q hq => h q (by simp [hq])
    simp only [toks, List.length_append, List.length_cons]
    omega
theorem puts_bd (ts : List Tok) : ∀ s ∈ puts ts, s.length ≤ ts.length := by
  induction ts with
  | nil => simp [puts]
  | cons t ts ih =>
    intro s hs
    cases t
    · simp only [puts, List.mem_cons] at hs
      rcases hs with rfl | hs
      · simp
      · have := ih s hs; simp; omega
    · simp only [puts] at hs
      obtain ⟨p, r, h⟩ := puts_ne ts
      rw [h] at hs ih
      simp only [consHead, List.mem_cons] at hs
      rcases hs with rfl | hs
      · have := ih p (by simp); simp; omega
      · have := ih s (by simp [hs]); simp; omega
    · simp only [puts, List.mem_cons] at hs
      rcases hs with rfl | hs
      · simp
      · have := ih s hs; simp; omega
theorem puts_last (ts : List Tok) (t : List UInt8) : ∃ q, (puts ts)[(kepts ts).length]? = some q ∧ q.length ≤ ts.length ∧ puts (ts ++ t.map .put) = (puts ts).set (kepts ts).length (q ++ t) := by
  have hl := puts_len ts
  rw [puts_app_put]
  obtain ⟨init, q, h⟩ : ∃ init q, puts ts = init ++ [q] := ⟨(puts ts).dropLast, (puts ts).getLast (puts_nn ts), (List.dropLast_concat_getLast (puts_nn ts)).symm⟩
  have hi : (kepts ts).length = init.length := by rw [h] at hl; simp at hl; omega
  refine ⟨q, by rw [h, hi]; simp, puts_bd ts q (by rw [h]; simp), ?_⟩
  rw [h, hi]
  simp [appLast]

/-! Of -/
def ac_rof : AC := .seq (.region false [
    ⟨some 2, none, .alloc 142 [(.slice none 0 0), (.slice none 0 0)]⟩])
  (.seq (.region false [
    ⟨some 6, none, .bslice 9 1 [(.c (.string ⟨#[]⟩))]⟩,
    ⟨some 7, none, .build [(.slice none 0 0), (.slice none 0 0)] [(0, 1, (.t 6))]⟩,
    ⟨some 3, none, .alloc 142 [(.slice none 0 0), (.slice none 0 0)]⟩,
    ⟨none, none, .store 2 (.t 3) (.t 7)⟩])
  (.seq (.seq (.region false [
    ⟨some 8, none, .mov (.t 0)⟩,
    ⟨some 9, none, .len false (.t 8)⟩,
    ⟨some 10, none, .mov (.c (.int .i64 0))⟩])
  (.block 0 (.loop (.seq (.region false [
      ⟨some 11, none, .bin .lss (.t 10) (.t 9)⟩])
    (.seq (.cond (.t 11)
      (.skip)
      (.exit 0))
    (.seq (.block 1 (.seq (.region false [
      ⟨some 12, none, .iaddr 3 (.t 8) (.t 10)⟩,
      ⟨some 13, none, .loadn 3 (.t 12)⟩,
      ⟨some 5, none, .alloc 132 [(.int .i64 0), (.int .i64 0), (.string ⟨#[]⟩)]⟩,
      ⟨none, none, .store 3 (.t 5) (.t 13)⟩])
    (.seq (.seq (.region false [
      ⟨some 14, none, .faddr 0 (.t 5)⟩,
      ⟨some 15, none, .load1 (.t 14)⟩,
      ⟨some 16, none, .bin .eql (.t 15) (.c (.int .i64 2))⟩])
    (.cond (.t 16)
      (.seq (.region true [
        ⟨some 17, none, .faddr 0 (.t 3)⟩,
        ⟨some 18, none, .load1 (.t 17)⟩,
        ⟨some 19, none, .faddr 0 (.t 3)⟩,
        ⟨some 20, none, .load1 (.t 19)⟩,
        ⟨some 21, none, .len false (.t 20)⟩,
        ⟨some 22, none, .bin .sub (.t 21) (.c (.int .i64 1))⟩,
        ⟨some 23, none, .iaddr 1 (.t 18) (.t 22)⟩,
        ⟨some 24, none, .load1 (.t 23)⟩,
        ⟨some 25, none, .faddr 2 (.t 5)⟩,
        ⟨some 26, none, .load1 (.t 25)⟩,
        ⟨some 27, none, .bin .add (.t 24) (.t 26)⟩,
        ⟨some 28, none, .iaddr 1 (.t 18) (.t 22)⟩,
        ⟨none, none, .store 1 (.t 28) (.t 27)⟩])
      (.exit 1))
      (.skip)))
    (.seq (.region false [
      ⟨some 29, none, .faddr 1 (.t 5)⟩,
      ⟨some 30, none, .load1 (.t 29)⟩,
      ⟨some 31, none, .mov (.c (.int .i64 0))⟩])
    (.block 2 (.loop (.seq (.region false [
        ⟨some 32, none, .bin .lss (.t 31) (.t 30)⟩])
      (.seq (.cond (.t 32)
        (.skip)
        (.exit 2))
      (.seq (.block 3 (.seq (.region false [
        ⟨some 33, none, .faddr 1 (.t 3)⟩,
        ⟨some 34, none, .load1 (.t 33)⟩,
        ⟨some 35, none, .faddr 0 (.t 5)⟩,
        ⟨some 36, none, .load1 (.t 35)⟩,
        ⟨some 37, none, .bin .eql (.t 36) (.c (.int .i64 1))⟩,
        ⟨some 38, none, .bslice 4 1 [(.t 37)]⟩,
        ⟨some 39, none, .append 4 1 1 (.t 34) (.t 38)⟩,
        ⟨some 40, none, .faddr 1 (.t 3)⟩,
        ⟨none, none, .store 1 (.t 40) (.t 39)⟩])
      (.region false [
        ⟨some 41, none, .faddr 0 (.t 3)⟩,
        ⟨some 42, none, .load1 (.t 41)⟩,
        ⟨some 43, none, .bslice 9 1 [(.c (.string ⟨#[]⟩))]⟩,
        ⟨some 44, none, .append 9 1 16 (.t 42) (.t 43)⟩,
        ⟨some 45, none, .faddr 0 (.t 3)⟩,
        ⟨none, none, .store 1 (.t 45) (.t 44)⟩])))
      (.region false [
        ⟨some 46, none, .bin .add (.t 31) (.c (.int .i64 1))⟩,
        ⟨some 31, none, .mov (.t 46)⟩]))))))))))
    (.region false [
      ⟨some 47, none, .bin .add (.t 10) (.c (.int .i64 1))⟩,
      ⟨some 10, none, .mov (.t 47)⟩])))))))
  (.seq (.region false [
    ⟨some 48, none, .loadn 2 (.t 3)⟩,
    ⟨none, none, .store 2 (.t 2) (.t 48)⟩])
  (.ret))))
theorem ok_rof : FnOk Try.prog 97 Try.f97 ac_rof [.cn 2 2] 1 drawD := ⟨Try.func97, by decide +kernel, by kernel_rfl, by kernel_rfl, by decide +kernel⟩
structure YOf (d : List Part) where
  k : Int
  pre : List Part
  rest : List Part
  pr : List (List V)
  kr : List (List V)
  np : Nat
  nk : Nat
  bp : Option Nat
  bk : Option Nat
  hd : d = pre ++ rest
  hk : k = pre.length
  hpr : pr = strRows (puts (toks pre))
  hkr : kr = boolRows (kepts (toks pre))
  hnp : np = pr.length
  hnk : nk = kr.length
structure YOf2 (ts : List Tok) (x : Tok) (n : Int) where
  r : Int
  pr : List (List V)
  kr : List (List V)
  np : Nat
  nk : Nat
  bp : Option Nat
  bk : Option Nat
  h0 : 0 ≤ r ∧ r ≤ n
  hpr : pr = strRows (puts (ts ++ List.replicate r.toNat x))
  hkr : kr = boolRows (kepts (ts ++ List.replicate r.toNat x))
  hnp : np = pr.length
  hnk : nk = kr.length
/-- a loop begins: a cell that is nil is an object of the call's own -/
theorem Ent.nilcell {s : S} {k k' ty sz r c : Nat} {o : Ob} {row : List V} (hk : s.h k = some o) (hr : o.rows[r]? = some row) (hc : row[c]? = some .nilsl) (hk' : s.h k' = none) :
    Ent s ⟨s.t, Hp.put (Hp.put s.h k ⟨o.b, o.ty, o.sz, o.rows.set r (row.set c (.own k' none sz 0))⟩) k' ⟨none, ty, sz, []⟩⟩ := by
  intro C n a w hC hs
  obtain ⟨F, h1, h2⟩ := hs.ex
  exact ⟨⟨F, HEnt.nilcell hk hr hc hk' C F w hC h1, h2⟩, hs.df, hs.sz⟩
theorem vc_rof (P : Prim) (hP : P = std) (T T1 : CallT) (d : List Part) (hd1 : d.length ≤ 1600) (hd2 : ∀ p ∈ d, 0 ≤ p.n ∧ p.n ≤ 500 ∧ p.text.length ≤ 500) (rows : List (List V)) (hrows : rows = d.map encPart)
    (pr kr : List (List V)) (hpr : pr = strRows (puts (toks d))) (hkr : kr = boolRows (kepts (toks d))) (R : S → Prop)
    (hR : ∀ (s s' : S) (np nk : Nat) (bp bk : Option Nat) (pr2 kr2 : List (List V)), Ent s s' → Ret [.cn 2 2] [.agg [.own 1000006 bp 1 np, .own 1000039 bk 1 nk]] s' → s'.h 1000006 = some ⟨bp, 9, 1, pr2⟩ → s'.h 1000039 = some ⟨bk, 4, 1, kr2⟩ →
      pr2 = pr ∧ kr2 = kr ∧ np = pr.length ∧ nk = kr.length → R s) : awp P T T1 ac_rof (S0 [.sl true 3 rows] Hp.emp) R (fun _ _ => False) R := by
  cbv
  intro β2
  cbv
  intro β6
  cbv
  intro β3
  cbv
  have hl : P.rlen rows = d.length := by subst hP; simp [std, hrows]
  refine ⟨YOf d, fun y => [(0, .sl true 3 rows), (2, .ptr 2 (some β2) 2 0 0), (3, .ptr 3 (some β3) 2 0 0), (8, .sl true 3 rows), (9, .int .i64 (P.rlen rows)), (10, .int .i64 y.k)],
    fun y => [(2, ⟨some β2, 142, 2, [[.nilsl, .nilsl]]⟩), (3, ⟨some β3, 142, 2, [[.own 1000006 y.bp 1 y.np, .own 1000039 y.bk 1 y.nk]]⟩), (1000006, ⟨y.bp, 9, 1, y.pr⟩), (1000039, ⟨y.bk, 4, 1, y.kr⟩)], fun y => y.rest.length,
    ⟨_, Ent.nilcell (k := 3) (k' := 1000039) (ty := 4) (sz := 1) (r := 0) (c := 1) rfl rfl rfl rfl, ⟨0, [], d, _, _, _, _, _, _, ?_, ?_, ?_, ?_, ?_, ?_⟩, ⟨rfl, rfl, rfl, rfl, rfl, rfl, trivial⟩, ⟨rfl, rfl, rfl, rfl, trivial⟩⟩, ?_⟩
  · rfl
  · rfl
  · rfl
  · rfl
  · rfl
  · rfl
  rintro ⟨k, pre, rest, pr1, kr1, np, nk, bp, bk, hd, hk, hpr1, hkr1, hnp, hnk⟩
  cbv
  have hl2 : P.rlen rows = pre.length + rest.length := by subst hP; simp [std, hrows, hd]
  have hl3 : pre.length + rest.length ≤ 1600 := by rw [hd] at hd1; simpa using hd1
  have htl := toks_len pre fun p hp => hd2 p (by simp [hd, hp])
  have hkl : (kepts (toks pre)).length ≤ (toks pre).length := kepts_le _
  have hnp2 : np = (kepts (toks pre)).length + 1 := by rw [hnp, hpr1, strRows, List.length_map, puts_len]
  have hnk2 : nk = (kepts (toks pre)).length := by rw [hnk, hkr1, boolRows, List.length_map]
  refine br_cases (fun h => ?_) (fun h => ?_)
  · rcases rest with _ | ⟨⟨kd, n, t⟩, rest⟩
    · (exfalso; clear hR; subst hP; simp [std, nc] at *; first | omega | grind)
    have hb := hd2 ⟨kd, n, t⟩ (by simp [hd])
    simp only at hb
    have hrow := row_at hrows hd hk P hP
    cbv
    refine ⟨by subst hP; simp [std, hk], _, hrow, ?_⟩
    clear hrow
    cbv
    intro β5
    cbv
    refine br_cases (fun h => ?_) (fun h => ?_)
    · -- a text is put
      have hkd : kd = 2 := by clear hR; subst hP; simpa [std] using h
      obtain ⟨q, hq, hql, happ⟩ := puts_last (toks pre) t
      have hrow2 : P.row pr1 (P.nat (P.sub (P.int np) 1)) [.str q] := by
        clear hR; subst hP; rw [hpr1, hnp2]; simp only [std]; rw [show (((kepts (toks pre)).length + 1 : Nat) : Int) - 1 = ((kepts (toks pre)).length : Int) by omega, Int.toNat_natCast]; simp [strRows, hq]
      have ho1 : P.i64 (P.sub (P.int np) 1) := by clear hR; subst hP; simp only [std, I64]; omega
      have ho2 : P.leP 0 (P.sub (P.int np) 1) := by clear hR; subst hP; simp only [std]; omega
      have ho3 : P.ltP (P.sub (P.int np) 1) (P.int np) := by clear hR; subst hP; simp only [std]; omega
      have ho4 : P.i64 (P.add (P.slen q) (P.slen t)) := by clear hR; subst hP; simp only [std, I64]; omega
      have ho5 : P.i64 (P.add k 1) := by clear hR; subst hP; simp only [std, I64]; rw [hk]; simp only [nc]; omega
      cbv
      repeat' (first | (intro β; try cbv) | (refine And.intro (by assumption) ?_; try cbv) | (refine br_cases (fun h => ?_) (fun h => ?_) <;> try cbv) | (refine Exists.intro _ (And.intro (by assumption) ?_); try cbv) | (refine hc1 _ _ ?_; try cbv) | (refine hc2 _ _ ?_; try cbv) | (refine hc3 _ _ ?_; try cbv) | (refine hc4 _ _ ?_; try cbv) | (refine hc5 _ _ ?_; try cbv) | (refine hc6 _ _ ?_; try cbv) | (refine And.intro (by (clear hR; subst hP; simp [std, I64, nc] at * <;> first | omega | grind)) ?_; try cbv))
      all_goals
        refine ⟨_, Ent.refl _, ⟨_, pre ++ [⟨kd, n, t⟩], rest, _, _, _, _, _, _, ?_, ?_, ?_, ?_, ?_, ?_⟩, ⟨rfl, rfl, rfl, rfl, rfl, rfl, trivial⟩, ⟨rfl, rfl, rfl, rfl, trivial⟩, by simp⟩
      all_goals (clear hR hrow2 ho1 ho2 ho3 ho4 ho5; subst hP)
      · simp [hd]
      · simp [std, hk]
      · rw [toks_app, show toks [⟨kd, n, t⟩] = t.map .put by simp [toks, toks1, hkd], happ, hpr1, hnp2]
        simp only [std]
        rw [show (((kepts (toks pre)).length + 1 : Nat) : Int) - 1 = ((kepts (toks pre)).length : Int) by omega, Int.toNat_natCast]
        simp [strRows, List.map_set]
      · rw [toks_app, show toks [⟨kd, n, t⟩] = t.map .put by simp [toks, toks1, hkd], kepts_app, kepts_put, List.append_nil, hkr1]
      · simp [std, hnp]
      · exact hnk
    · -- bytes are kept, or cut
      have hkd : kd ≠ 2 := by clear hR; subst hP; simpa [std] using h
      have hx : (if kd = 1 then Tok.keep else Tok.cut) = .keep ∨ (if kd = 1 then Tok.keep else Tok.cut) = .cut := by split <;> simp
      have ht1 : toks1 ⟨kd, n, t⟩ = List.replicate n.toNat (if kd = 1 then Tok.keep else Tok.cut) := by simp only [toks1, if_neg hkd]; split <;> rfl
      cbv
      refine ⟨YOf2 (toks pre) (if kd = 1 then Tok.keep else Tok.cut) n, fun y => [(0, .sl true 3 rows), (2, .ptr 2 (some β2) 2 0 0), (3, .ptr 3 (some β3) 2 0 0), (5, .ptr 5 (some β5) 3 0 0), (8, .sl true 3 rows), (9, .int .i64 (P.rlen rows)), (10, .int .i64 k), (30, .int .i64 n), (31, .int .i64 y.r)],
        fun y => [(2, ⟨some β2, 142, 2, [[.nilsl, .nilsl]]⟩), (3, ⟨some β3, 142, 2, [[.own 1000006 y.bp 1 y.np, .own 1000039 y.bk 1 y.nk]]⟩), (5, ⟨some β5, 132, 3, [[.int .i64 kd, .int .i64 n, .str t]]⟩), (1000006, ⟨y.bp, 9, 1, y.pr⟩), (1000039, ⟨y.bk, 4, 1, y.kr⟩)], fun y => (n - y.r).toNat,
        ⟨_, Ent.refl _, ⟨0, pr1, kr1, np, nk, bp, bk, ⟨Int.le_refl _, hb.1⟩, by simpa using hpr1, by simpa using hkr1, hnp, hnk⟩, ⟨rfl, rfl, rfl, rfl, rfl, rfl, rfl, rfl, rfl, trivial⟩, ⟨rfl, rfl, rfl, rfl, rfl, trivial⟩⟩, ?_⟩
      clear hnp2 hnk2
      rintro ⟨r, pr2, kr2, np, nk, bp, bk, h0, hpr2, hkr2, hnp, hnk⟩
      have hnk2 : nk = (kepts (toks pre)).length + r.toNat := by rw [hnk, hkr2, boolRows, List.length_map, kepts_app_n _ _ hx]; simp
      have hnp2 : np = (kepts (toks pre)).length + r.toNat + 1 := by rw [hnp, hpr2, strRows, List.length_map, puts_len, kepts_app_n _ _ hx]; simp
      cbv
      refine br_cases (fun h => ?_) (fun h => ?_)
      · have hrn : r < n := by clear hR; subst hP; simpa [std] using h
        have ho1 : P.bytes (P.add (P.int nk) (P.rlen [[.bool (P.eq kd 1)]])) 1 := by clear hR; subst hP; simp [std]; omega
        have ho2 : P.bytes (P.add (P.int np) (P.rlen [[.str []]])) 16 := by clear hR; subst hP; simp [std]; omega
        have ho3 : P.neP kr2 nk := by clear hR; subst hP; simp [std, hnk]
        have ho4 : P.neP pr2 np := by clear hR; subst hP; simp [std, hnp]
        have ho5 : P.i64 (P.add r 1) := by clear hR; subst hP; simp only [std, I64]; omega
        cbv
        repeat' (first | (intro β; try cbv) | (refine And.intro (by assumption) ?_; try cbv) | (refine br_cases (fun h => ?_) (fun h => ?_) <;> try cbv) | (refine Exists.intro _ (And.intro (by assumption) ?_); try cbv) | (refine hc1 _ _ ?_; try cbv) | (refine hc2 _ _ ?_; try cbv) | (refine hc3 _ _ ?_; try cbv) | (refine hc4 _ _ ?_; try cbv) | (refine hc5 _ _ ?_; try cbv) | (refine hc6 _ _ ?_; try cbv) | (refine And.intro (by (clear hR; subst hP; simp [std, I64, nc] at * <;> first | omega | grind)) ?_; try cbv))
        all_goals
          refine ⟨_, Ent.refl _, ⟨_, _, _, _, _, _, _, ?_, ?_, ?_, ?_, ?_⟩, ⟨rfl, rfl, rfl, rfl, rfl, rfl, rfl, rfl, rfl, trivial⟩, ⟨rfl, rfl, rfl, rfl, rfl, trivial⟩, ?_⟩
        all_goals (clear hR ho1 ho2 ho3 ho4 ho5; subst hP)
        · simp only [std]; omega
        · simp only [std]
          rw [show (r + 1).toNat = r.toNat + 1 by omega, puts_app_n _ _ hx, hpr2, puts_app_n _ _ hx]
          simp [strRows, List.replicate_succ']
        · simp only [std]
          rw [show (r + 1).toNat = r.toNat + 1 by omega, kepts_app_n _ _ hx, hkr2, kepts_app_n _ _ hx]
          simp only [boolRows, List.replicate_succ', List.map_append, List.append_assoc]
          congr 2
          by_cases h1 : kd = 1 <;> simp [h1]
        · simp [std, hnp]
        · simp [std, hnk]
        · simp only [std]; omega
      · have hrn : r = n := by clear hR; subst hP; simp [std] at h; omega
        have ho5 : P.i64 (P.add k 1) := by clear hR; subst hP; simp only [std, I64]; rw [hk]; simp only [nc]; omega
        cbv
        repeat' (first | (intro β; try cbv) | (refine And.intro (by assumption) ?_; try cbv) | (refine br_cases (fun h => ?_) (fun h => ?_) <;> try cbv) | (refine Exists.intro _ (And.intro (by assumption) ?_); try cbv) | (refine hc1 _ _ ?_; try cbv) | (refine hc2 _ _ ?_; try cbv) | (refine hc3 _ _ ?_; try cbv) | (refine hc4 _ _ ?_; try cbv) | (refine hc5 _ _ ?_; try cbv) | (refine hc6 _ _ ?_; try cbv) | (refine And.intro (by (clear hR; subst hP; simp [std, I64, nc] at * <;> first | omega | grind)) ?_; try cbv))
        all_goals
          refine ⟨_, Ent.refl _, ⟨_, pre ++ [⟨kd, n, t⟩], rest, _, _, _, _, _, _, ?_, ?_, ?_, ?_, ?_, ?_⟩, ⟨rfl, rfl, rfl, rfl, rfl, rfl, trivial⟩, ⟨rfl, rfl, rfl, rfl, trivial⟩, by simp⟩
        all_goals (clear hR ho5; subst hP)
        · simp [hd]
        · simp [std, hk]
        · rw [hpr2, toks_app, show toks [⟨kd, n, t⟩] = toks1 ⟨kd, n, t⟩ by simp [toks], ht1, hrn]
        · rw [hkr2, toks_app, show toks [⟨kd, n, t⟩] = toks1 ⟨kd, n, t⟩ by simp [toks], ht1, hrn]
        · exact hnp
        · exact hnk
  · have hrest : rest = [] := by
      cases rest with
      | nil => rfl
      | cons p rest => (exfalso; clear hR; subst hP; simp [std, nc] at *; first | omega | grind)
    subst hrest
    rw [List.append_nil] at hd
    subst hd
    cbv
    exact hR _ _ np nk bp bk pr1 kr1 (Ent.refl _) ⟨rfl, rfl, Nat.zero_lt_one, Nat.le_refl _, rfl⟩ rfl rfl ⟨hpr1.trans hpr.symm, hkr1.trans hkr.symm, by rw [hnp, hpr1, hpr], by rw [hnk, hkr1, hkr]⟩
theorem strRows_fz (l : List (List UInt8)) : ∀ r ∈ strRows l, ∀ v ∈ r, Fz v := by
  intro r hr v hv
  obtain ⟨s, _, rfl⟩ := List.mem_map.1 hr
  simp only [List.mem_singleton] at hv
  subst hv; exact .str _
theorem boolRows_fz (l : List Bool) : ∀ r ∈ boolRows l, ∀ v ∈ r, Fz v := by
  intro r hr v hv
  obtain ⟨s, _, rfl⟩ := List.mem_map.1 hr
  simp only [List.mem_singleton] at hv
  subst hv; exact .bool _
theorem strRows_sz (l : List (List UInt8)) : ∀ r ∈ strRows l, r.length = 1 := by
  intro r hr; obtain ⟨s, _, rfl⟩ := List.mem_map.1 hr; rfl
theorem boolRows_sz (l : List Bool) : ∀ r ∈ boolRows l, r.length = 1 := by
  intro r hr; obtain ⟨s, _, rfl⟩ := List.mem_map.1 hr; rfl
/-- places as a value -/
def encPl (ps : List (List UInt8)) (ks : List Bool) : V := .agg [.sl false 1 (strRows ps), .sl false 1 (boolRows ks)]
theorem sp_rof (d : List Part) (hd1 : d.length ≤ 1600) (hd2 : ∀ p ∈ d, 0 ≤ p.n ∧ p.n ≤ 500 ∧ p.text.length ≤ 500) : Spec Try.prog 97 [.sl true 3 (d.map encPart)] Hp.emp (Is (encPl (puts (toks d)) (kepts (toks d)))) :=
  spec_frz dOk ok_rof fun R hR => vc_rof std rfl _ _ d hd1 hd2 _ rfl _ _ rfl rfl R fun s s' np nk bp bk pr2 kr2 he hr h1 h2 h3 => hR s s' he (by
    obtain ⟨rfl, rfl, rfl, rfl⟩ := h3
    refine resV_mono _ _ _ (fun x hx => ?_) hr
    subst hx
    exact .agg_cons (.rows h1 rfl rfl rfl (strRows_sz _) (strRows_fz _)) (.agg_cons (.rows h2 rfl rfl rfl (boolRows_sz _) (boolRows_fz _)) .agg_nil))
end Go.Proofs.Ytdmpbdmgaepndaa.AM
