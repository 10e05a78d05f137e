/-
  The document's pairs of kept bytes, and the delta made of them.
-/
import Derived.Test.YtcdldpjmdelebaaMU
import Derived.Test.YtcdldpjmdelebaaBC
set_option linter.unusedVariables false
set_option linter.unusedSimpArgs false
namespace Go.Proofs.Ytcdldpjmdelebaa.AM
open Go
set_option maxRecDepth 100000
set_option maxHeartbeats 2000000
def pairRows (l : List (Nat × Nat)) : List (List V) := l.map fun p => [.int .i64 p.1, .int .i64 p.2]
theorem pairRows_sz (l : List (Nat × Nat)) : ∀ r ∈ pairRows l, r.length = 2 := by
  intro r hr; obtain ⟨s, _, rfl⟩ := List.mem_map.1 hr; rfl
theorem pairRows_fz (l : List (Nat × Nat)) : ∀ r ∈ pairRows l, ∀ v ∈ r, Fz v := by
  intro r hr v hv
  obtain ⟨s, _, rfl⟩ := List.mem_map.1 hr
  simp at hv
  rcases hv with rfl | rfl <;> exact .int _ _
/-- a slice of the call's own is handed back: it may be nil still -/
theorem retSl_own {rv : List RV} {sz : Nat} {rows' : List (List V)} {tl : List V} {R : S → Prop} (h : RetSl rv sz rows' tl R) : ∀ (s s' : S) (k : Nat) (b : Option Nat) (ty n : Nat) (rows : List (List V)), Ent s s' → Ret rv (.own k b sz n :: tl) s' → s'.h k = some ⟨b, ty, sz, rows⟩ → n = rows'.length ∧ rows = rows' → R s := h.2.1

def ac_pairs : AC := .seq (.region false [
    ⟨some 1, none, .box 119 2 (.t 0)⟩,
    ⟨some 2, none, .mov (.c (.slice none 0 0))⟩])
  (.seq (.region false [
    ⟨some 3, none, .mov (.c (.slice none 0 0))⟩])
  (.seq (.region false [
    ⟨some 4, none, .mov (.c (.int .i64 0))⟩])
  (.seq (.seq (.region false [
    ⟨some 7, none, .faddr 1 (.t 1)⟩,
    ⟨some 8, none, .load1 (.t 7)⟩,
    ⟨some 9, none, .len false (.t 8)⟩,
    ⟨some 10, none, .mov (.c (.int .i64 0))⟩])
  (.block 0 (.loop (.seq (.region false [
      ⟨some 11, none, .bin .lss (.t 10) (.t 9)⟩])
    (.seq (.cond (.t 11)
      (.skip)
      (.exit 0))
    (.seq (.block 1 (.seq (.region false [
      ⟨some 12, none, .mov (.t 10)⟩,
      ⟨some 13, none, .iaddr 1 (.t 8) (.t 10)⟩,
      ⟨some 14, none, .load1 (.t 13)⟩,
      ⟨some 5, none, .mov (.t 12)⟩,
      ⟨some 6, none, .mov (.t 14)⟩])
    (.seq (.region false [
      ⟨some 15, none, .mov (.t 4)⟩,
      ⟨some 16, none, .faddr 0 (.t 1)⟩,
      ⟨some 17, none, .load1 (.t 16)⟩,
      ⟨some 18, none, .mov (.t 5)⟩,
      ⟨some 19, none, .iaddr 1 (.t 17) (.t 18)⟩,
      ⟨some 20, none, .load1 (.t 19)⟩,
      ⟨some 21, none, .len true (.t 20)⟩,
      ⟨some 22, none, .bin .add (.t 15) (.t 21)⟩,
      ⟨some 4, none, .mov (.t 22)⟩])
    (.seq (.region false [
      ⟨some 23, none, .mov (.t 6)⟩])
    (.cond (.t 23)
      (.seq (.region false [
        ⟨some 24, none, .mov (.t 3)⟩,
        ⟨some 25, none, .mov (.t 5)⟩,
        ⟨some 26, none, .mov (.t 4)⟩,
        ⟨some 27, none, .build [(.int .i64 0), (.int .i64 0)] [(0, 1, (.t 25)), (1, 1, (.t 26))]⟩,
        ⟨some 28, none, .bslice 122 2 [(.t 27)]⟩,
        ⟨some 29, none, .append 122 2 16 (.t 24) (.t 28)⟩,
        ⟨some 3, none, .mov (.t 29)⟩])
      (.region false [
        ⟨some 30, none, .mov (.t 4)⟩,
        ⟨some 31, none, .bin .add (.t 30) (.c (.int .i64 1))⟩,
        ⟨some 4, none, .mov (.t 31)⟩]))
      (.skip))))))
    (.region false [
      ⟨some 32, none, .bin .add (.t 10) (.c (.int .i64 1))⟩,
      ⟨some 10, none, .mov (.t 32)⟩])))))))
  (.seq (.region false [
    ⟨some 33, none, .mov (.t 3)⟩,
    ⟨some 2, none, .mov (.t 33)⟩])
  (.ret)))))
theorem ok_pairs : FnOk Try.prog 60 Try.f60 ac_pairs [.t 2] 1 drawD := ⟨Try.func60, by decide +kernel, by kernel_rfl, by kernel_rfl, by decide +kernel⟩
structure YPr (ps : List (List UInt8)) (ks : List Bool) where
  i : Nat
  k : Int
  to : Nat
  tk : Int
  out : List (Nat × Nat)
  rows : List (List V)
  n : Nat
  b : Option Nat
  p1 : List (List UInt8)
  r1 : List (List UInt8)
  p2 : List Bool
  r2 : List Bool
  h1 : ps = p1 ++ r1
  h2 : ks = p2 ++ r2
  hl : p1.length = i ∧ p2.length = i
  hk : k = (i : Int)
  htk : tk = (to : Int)
  hto : to ≤ p1.flatten.length + i
  hrows : rows = pairRows out
  hn : n = out.length
  hno : out.length ≤ i
  hp : pairsP ps ks 0 0 = out ++ pairsP r1 r2 i to
theorem vc_pairs (P : Prim) (hP : P = std) (T T1 : CallT) (ps : List (List UInt8)) (ks : List Bool) (hlen : ps.length = ks.length + 1) (hb1 : ks.length ≤ 1000000) (hb2 : ps.flatten.length ≤ 1000000000) (pr kr : List (List V)) (hpr : pr = strRows ps) (hkr : kr = boolRows ks) (rr : List (List V)) (hrr : rr = pairRows (pairsP ps ks 0 0))
    (R : S → Prop) (hR : RetSl [.t 2] 2 rr [] R) : awp P T T1 ac_pairs (S0 [.agg [.sl true 1 pr, .sl true 1 kr]] Hp.emp) R (fun _ _ => False) R := by
  have hklen : P.rlen kr = (ks.length : Int) := by rw [rlen_eq hP, hkr]; simp [boolRows]
  cbv
  intro β1
  cbv
  refine ⟨YPr ps ks, fun y => [(1, .ptr 1 (some β1) 2 0 0), (3, .own 1000029 y.b 2 y.n), (4, .int .i64 y.tk), (8, .sl true 1 kr), (9, .int .i64 (P.rlen kr)), (10, .int .i64 y.k)],
    fun y => [(1, ⟨some β1, 119, 2, [[.sl true 1 pr, .sl true 1 kr]]⟩), (1000029, ⟨y.b, 122, 2, y.rows⟩)], fun y => y.r2.length,
    ⟨_, Ent.nil (i := 3) (k := 1000029) (ty := 122) (sz := 2) rfl rfl, ⟨0, 0, 0, 0, [], _, _, _, [], ps, [], ks, rfl, rfl, ⟨rfl, rfl⟩, rfl, rfl, by simp, rfl, rfl, by simp, rfl⟩, ⟨rfl, rfl, rfl, rfl, rfl, rfl, trivial⟩, ⟨rfl, rfl, trivial⟩⟩, ?_⟩
  rintro ⟨i, k, to, tk, out, rows, n, b, p1, r1, p2, r2, h1, h2, ⟨hl1, hl2⟩, hk, htk, hto, hrows, hn, hno, hp⟩
  have hlp : r1.length = r2.length + 1 := by rw [h1, h2] at hlen; simp at hlen; omega
  have hkl : i + r2.length = ks.length := by rw [h2]; simp; omega
  cbv
  refine br_cases (fun h => ?_) (fun h => ?_)
  · have h3 : k < P.rlen kr := lt_t hP h
    rw [hklen] at h3
    rcases r2 with _ | ⟨q, r2⟩
    · exfalso; simp at hkl; ((try simp only [nc] at *); omega)
    rcases r1 with _ | ⟨p, r1⟩
    · simp at hlp
    have hpf : p1.flatten.length + p.length ≤ 1000000000 := by rw [h1] at hb2; simp at hb2 ⊢; omega
    have hrow1 : P.row pr (P.nat k) [.str p] := row_of hP hk (by rw [hpr, strRows, List.getElem?_map, h1, ← hl1]; simp)
    have hrow2 : P.row kr (P.nat k) [.bool q] := row_of hP hk (by rw [hkr, boolRows, List.getElem?_map, h2, ← hl2]; simp)
    have ho : P.leP 0 k := le0 hP (by ((try simp only [nc] at *); omega))
    have ho2 : P.i64 (P.add k 1) := by rw [add_eq hP]; exact i64I hP (by ((try simp only [nc] at *); omega))
    have ho3 : P.i64 (P.add tk (P.slen p)) := by rw [add_eq hP, slen_eq hP]; exact i64I hP (by ((try simp only [nc] at *); omega))
    have ho4 : P.i64 (P.add (P.add tk (P.slen p)) 1) := by rw [add_eq hP, add_eq hP, slen_eq hP]; exact i64I hP (by ((try simp only [nc] at *); omega))
    have ho5 : P.neP rows n := by subst hP; show rows.length = n; rw [hrows, hn]; simp [pairRows]
    have ho6 : ∀ r, P.bytes (P.add (P.int n) (P.rlen [r])) 16 := by intro r; subst hP; show ((n : Int) + 1) * 16 ≤ _; ((try simp only [nc] at *); omega)
    have ev : P.add tk (P.slen p) = ((to + p.length : Nat) : Int) := by rw [add_eq hP, slen_eq hP, htk]; ((try simp only [nc] at *); omega)
    cbv
    refine ⟨ho, _, hrow2, ?_⟩
    cbv
    refine ⟨ho, _, hrow1, ?_⟩
    cbv
    refine ⟨ho3, ?_⟩
    cases q
    · cbv
      refine ⟨ho2, ?_⟩
      refine ⟨_, Ent.refl _, ⟨i + 1, _, to + p.length, _, out, _, _, _, p1 ++ [p], r1, p2 ++ [false], r2, by simp [h1], by simp [h2], by simp [hl1, hl2], ?_, ev, (by simp only [List.flatten_append, List.flatten_cons, List.flatten_nil, List.append_nil, List.length_append, List.length_cons, List.length_nil]; ((try simp only [nc] at *); omega)), hrows, hn, by omega, ?_⟩, ⟨rfl, rfl, rfl, rfl, rfl, rfl, trivial⟩, ⟨rfl, rfl, trivial⟩, by simp⟩
      · show P.add k 1 = _; rw [add_eq hP, hk]; ((try simp only [nc] at *); omega)
      · rw [hp]; simp [pairsP]
    · cbv
      intro β
      cbv
      refine ⟨by subst hP; rfl, ho5, ho6 _, ?_⟩
      intro β2
      cbv
      refine ⟨ho4, ho2, ?_⟩
      refine ⟨_, Ent.refl _, ⟨i + 1, _, to + p.length + 1, _, out ++ [(i, to + p.length)], _, _, _, p1 ++ [p], r1, p2 ++ [true], r2, by simp [h1], by simp [h2], by simp [hl1, hl2], ?_, ?_, (by simp only [List.flatten_append, List.flatten_cons, List.flatten_nil, List.append_nil, List.length_append, List.length_cons, List.length_nil]; ((try simp only [nc] at *); omega)), ?_, ?_, by simp; omega, ?_⟩, ⟨rfl, rfl, rfl, rfl, rfl, rfl, trivial⟩, ⟨rfl, rfl, trivial⟩, by simp⟩
      · show P.add k 1 = _; rw [add_eq hP, hk]; ((try simp only [nc] at *); omega)
      · show P.add (P.add tk (P.slen p)) 1 = _; rw [add_eq hP, ev]; ((try simp only [nc] at *); omega)
      · show P.rapp rows [[.int .i64 k, .int .i64 (P.add tk (P.slen p))]] = _
        rw [ev, hk, hrows]; subst hP; simp [std, pairRows, nc]
      · show P.nadd n (P.rlenN [_]) = _
        subst hP; simp [std, hn]
      · rw [hp]; simp [pairsP]
  · have h3 : ¬ k < P.rlen kr := lt_f hP h
    rw [hklen] at h3
    rcases r2 with _ | ⟨q, r2⟩
    rotate_left
    · exfalso; simp at hkl; ((try simp only [nc] at *); omega)
    have hre : pairsP ps ks 0 0 = out := by rw [hp]; cases r1 <;> simp [pairsP]
    cbv
    exact hR.2.1 _ _ _ _ _ _ _ (Ent.refl _) rfl rfl ⟨by rw [hrr, hre, hn]; simp [pairRows], by rw [hrr, hre, hrows]⟩
theorem sp_pairs (ts : List Tok) (h : ts.length ≤ 1000000) : Spec Try.prog 60 [.agg [.sl true 1 (strRows (puts ts)), .sl true 1 (boolRows (kepts ts))]] Hp.emp (Is (.sl false 2 (pairRows (pairsT ts 0 0)))) :=
  spec_frz dOk ok_pairs fun R hR => vc_pairs std rfl _ _ (puts ts) (kepts ts) (puts_len ts) (by have := kepts_le ts; omega) (by have := puts_flat ts; omega) _ _ rfl rfl _ (by rw [pairsP_eq]) R (retSl_of (pairRows_sz _) (pairRows_fz _) (by simp) hR)

/-! the delta of some kept bytes and a text -/
def madeOk (n : Nat) (text : List UInt8) : Nat → Nat → List (Nat × Nat) → Prop
  | i0, j0, [] => i0 ≤ n ∧ j0 ≤ text.length
  | i0, j0, (i, j) :: r => i0 ≤ i ∧ i < n ∧ j0 ≤ j ∧ j < text.length ∧ madeOk n text (i + 1) (j + 1) r
theorem madeOk_le {n : Nat} {text : List UInt8} : ∀ {l : List (Nat × Nat)} {i0 j0 : Nat}, madeOk n text i0 j0 l → i0 ≤ n ∧ j0 ≤ text.length
  | [], _, _, h => h
  | (i, j) :: r, i0, j0, h => by obtain ⟨a, b, c, d, _⟩ := h; omega
theorem puts_put_app (t : List UInt8) (ts : List Tok) (p : List UInt8) (r : List (List UInt8)) (h : puts ts = p :: r) : puts (t.map .put ++ ts) = (t ++ p) :: r := by
  induction t with
  | nil => simpa using h
  | cons b t ih => simp only [List.map_cons, List.cons_append, puts, ih, consHead]
theorem puts_cut_app (n : Nat) (ts : List Tok) : puts (List.replicate n .cut ++ ts) = List.replicate n [] ++ puts ts := by
  induction n with
  | zero => simp
  | succ n ih => simp [List.replicate_succ, puts, ih]
theorem kepts_cut_app (n : Nat) (ts : List Tok) : kepts (List.replicate n .cut ++ ts) = List.replicate n false ++ kepts ts := by
  induction n with
  | zero => simp
  | succ n ih => simp [List.replicate_succ, kepts, ih]
theorem kepts_put_app (t : List UInt8) (ts : List Tok) : kepts (t.map .put ++ ts) = kepts ts := by rw [kepts_app, kepts_put]; rfl
theorem puts_cut_ne (m : Nat) (ts : List Tok) : ∃ r, List.replicate m [] ++ [] :: puts ts = ([] : List UInt8) :: r := by cases m <;> exact ⟨_, rfl⟩
theorem puts_made (n : Nat) (text : List UInt8) (i0 j0 i j : Nat) (r : List (Nat × Nat)) : puts (madeT n text i0 j0 ((i, j) :: r)) = ((text.drop j0).take (j - j0)) :: (List.replicate (i - i0) [] ++ puts (madeT n text (i + 1) (j + 1) r)) := by
  simp only [madeT, List.append_assoc]
  have h1 : puts (List.replicate (i - i0) Tok.cut ++ .keep :: madeT n text (i + 1) (j + 1) r) = List.replicate (i - i0) [] ++ [] :: puts (madeT n text (i + 1) (j + 1) r) := by rw [puts_cut_app]; rfl
  obtain ⟨q, hq⟩ := puts_cut_ne (i - i0) (madeT n text (i + 1) (j + 1) r)
  rw [puts_put_app _ _ [] q (by rw [h1, hq]), List.append_nil]
  congr 1
  have : List.replicate (i - i0) [] ++ ([] : List UInt8) :: puts (madeT n text (i + 1) (j + 1) r) = [] :: (List.replicate (i - i0) [] ++ puts (madeT n text (i + 1) (j + 1) r)) := by
    generalize i - i0 = m
    induction m with
    | zero => rfl
    | succ m ih => rw [List.replicate_succ, List.cons_append, ih]; rfl
  rw [this] at hq
  injection hq with _ hq
  exact hq.symm
theorem puts_made_nil (n : Nat) (text : List UInt8) (i0 j0 : Nat) : puts (madeT n text i0 j0 []) = text.drop j0 :: List.replicate (n - i0) [] := by
  simp only [madeT]
  have h1 : puts (List.replicate (n - i0) Tok.cut) = [] :: List.replicate (n - i0) [] := by
    have := puts_cut_app (n - i0) []
    rw [List.append_nil] at this
    rw [this, puts, ← List.replicate_succ', List.replicate_succ]
  rw [puts_put_app _ _ _ _ h1, List.append_nil]
theorem kepts_made (n : Nat) (text : List UInt8) (i0 j0 i j : Nat) (r : List (Nat × Nat)) : kepts (madeT n text i0 j0 ((i, j) :: r)) = List.replicate (i - i0) false ++ true :: kepts (madeT n text (i + 1) (j + 1) r) := by
  simp only [madeT, List.append_assoc]
  rw [kepts_put_app, kepts_cut_app]; rfl
theorem kepts_made_nil (n : Nat) (text : List UInt8) (i0 j0 : Nat) : kepts (madeT n text i0 j0 []) = List.replicate (n - i0) false := by
  simp only [madeT]
  rw [kepts_put_app]
  have := kepts_cut_app (n - i0) []
  rw [List.append_nil] at this
  rw [this]; simp [kepts]

def ac_made : AC := .seq (.region false [
    ⟨some 6, none, .mov (.c (.slice none 0 0))⟩])
  (.seq (.region true [
    ⟨some 12, none, .mov (.t 0)⟩,
    ⟨some 13, none, .bin .add (.t 12) (.c (.int .i64 1))⟩,
    ⟨some 14, none, .mkslice 9 1 16 [(.string ⟨#[]⟩)] (.t 13) (.t 13)⟩,
    ⟨some 15, none, .mov (.t 0)⟩,
    ⟨some 16, none, .mkslice 4 1 1 [(.bool false)] (.t 15) (.t 15)⟩,
    ⟨some 17, none, .build [(.slice none 0 0), (.slice none 0 0)] [(0, 1, (.t 14)), (1, 1, (.t 16))]⟩,
    ⟨some 7, none, .alloc 119 [(.slice none 0 0), (.slice none 0 0)]⟩,
    ⟨none, none, .store 2 (.t 7) (.t 17)⟩])
  (.seq (.region false [
    ⟨some 8, none, .mov (.c (.int .i64 0))⟩])
  (.seq (.region false [
    ⟨some 9, none, .mov (.c (.int .i64 0))⟩])
  (.seq (.seq (.region false [
    ⟨some 18, none, .mov (.t 1)⟩,
    ⟨some 19, none, .len false (.t 18)⟩,
    ⟨some 20, none, .mov (.c (.int .i64 0))⟩])
  (.block 0 (.loop (.seq (.region false [
      ⟨some 21, none, .bin .lss (.t 20) (.t 19)⟩])
    (.seq (.cond (.t 21)
      (.skip)
      (.exit 0))
    (.seq (.block 1 (.seq (.region false [
      ⟨some 22, none, .iaddr 2 (.t 18) (.t 20)⟩,
      ⟨some 23, none, .loadn 2 (.t 22)⟩,
      ⟨some 11, none, .alloc 122 [(.int .i64 0), (.int .i64 0)]⟩,
      ⟨none, none, .store 2 (.t 11) (.t 23)⟩])
    (.seq (.region true [
      ⟨some 24, none, .faddr 0 (.t 7)⟩,
      ⟨some 25, none, .load1 (.t 24)⟩,
      ⟨some 26, none, .mov (.t 9)⟩,
      ⟨some 27, none, .mov (.t 2)⟩,
      ⟨some 28, none, .mov (.t 8)⟩,
      ⟨some 29, none, .iarr 2 1 (.t 11) (.c (.int .i64 1))⟩,
      ⟨some 30, none, .load1 (.t 29)⟩,
      ⟨some 31, none, .slstr (.t 27) (some (.t 28)) (some (.t 30))⟩,
      ⟨some 32, none, .iaddr 1 (.t 25) (.t 26)⟩,
      ⟨none, none, .store 1 (.t 32) (.t 31)⟩])
    (.seq (.region false [
      ⟨some 33, none, .faddr 1 (.t 7)⟩,
      ⟨some 34, none, .load1 (.t 33)⟩,
      ⟨some 35, none, .iarr 2 1 (.t 11) (.c (.int .i64 0))⟩,
      ⟨some 36, none, .load1 (.t 35)⟩,
      ⟨some 37, none, .iaddr 1 (.t 34) (.t 36)⟩,
      ⟨none, none, .store 1 (.t 37) (.c (.bool true))⟩])
    (.region true [
      ⟨some 38, none, .iarr 2 1 (.t 11) (.c (.int .i64 0))⟩,
      ⟨some 39, none, .load1 (.t 38)⟩,
      ⟨some 40, none, .bin .add (.t 39) (.c (.int .i64 1))⟩,
      ⟨some 41, none, .iarr 2 1 (.t 11) (.c (.int .i64 1))⟩,
      ⟨some 42, none, .load1 (.t 41)⟩,
      ⟨some 43, none, .bin .add (.t 42) (.c (.int .i64 1))⟩,
      ⟨some 9, none, .mov (.t 40)⟩,
      ⟨some 8, none, .mov (.t 43)⟩])))))
    (.region false [
      ⟨some 44, none, .bin .add (.t 20) (.c (.int .i64 1))⟩,
      ⟨some 20, none, .mov (.t 44)⟩])))))))
  (.seq (.region true [
    ⟨some 45, none, .faddr 0 (.t 7)⟩,
    ⟨some 46, none, .load1 (.t 45)⟩,
    ⟨some 47, none, .mov (.t 9)⟩,
    ⟨some 48, none, .iaddr 1 (.t 46) (.t 47)⟩,
    ⟨some 49, none, .load1 (.t 48)⟩,
    ⟨some 50, none, .mov (.t 2)⟩,
    ⟨some 51, none, .mov (.t 8)⟩,
    ⟨some 52, none, .slstr (.t 50) (some (.t 51)) none⟩,
    ⟨some 53, none, .bin .add (.t 49) (.t 52)⟩,
    ⟨some 54, none, .iaddr 1 (.t 46) (.t 47)⟩,
    ⟨none, none, .store 1 (.t 54) (.t 53)⟩])
  (.seq (.region false [
    ⟨some 55, none, .loadn 2 (.t 7)⟩,
    ⟨some 56, none, .call 75 [(.t 55)]⟩,
    ⟨some 6, none, .mov (.t 56)⟩])
  (.ret)))))))
theorem ok_made : FnOk Try.prog 61 Try.f61 ac_made [.t 6] 3 drawD := ⟨Try.func61, by decide +kernel, by kernel_rfl, by kernel_rfl, by decide +kernel⟩
structure YMd (n : Nat) (l : List (Nat × Nat)) (text : List UInt8) where
  idx : Int
  pre : List (Nat × Nat)
  rest : List (Nat × Nat)
  fr : Nat
  at_ : Nat
  fk : Int
  ak : Int
  A : List (List UInt8)
  B : List Bool
  pr : List (List V)
  kr : List (List V)
  hd : l = pre ++ rest
  hi : idx = (pre.length : Int)
  hf : fk = (fr : Int)
  ha : ak = (at_ : Int)
  hA : A.length = fr
  hB : B.length = fr
  hpr : pr = strRows (A ++ List.replicate (n + 1 - fr) [])
  hkr : kr = boolRows (B ++ List.replicate (n - fr) false)
  hps : puts (madeT n text 0 0 l) = A ++ puts (madeT n text fr at_ rest)
  hks : kepts (madeT n text 0 0 l) = B ++ kepts (madeT n text fr at_ rest)
  hok : madeOk n text fr at_ rest
theorem vc_made (P : Prim) (hP : P = std) (T T1 : CallT) (n : Nat) (nk : Int) (hnk : nk = n) (hn : n ≤ 100000) (l : List (Nat × Nat)) (hll : l.length ≤ 100000) (rows : List (List V)) (hrows : rows = pairRows l) (text : List UInt8) (ht : text.length ≤ 100000) (hl : madeOk n text 0 0 l)
    (mr : List (List V)) (hcd : ∀ (k1 k2 n1 n2 : Nat) (b1 b2 : Option Nat) (r1 r2 : List (List V)) (h : Hp) (K : V → Hp → Prop), h k1 = some ⟨b1, 9, 1, r1⟩ → h k2 = some ⟨b2, 4, 1, r2⟩ → r1 = strRows (puts (madeT n text 0 0 l)) → r2 = boolRows (kepts (madeT n text 0 0 l)) → n1 = r1.length → n2 = r2.length →
      K (.sl false 3 mr) h → T 75 [.agg [.own k1 b1 1 n1, .own k2 b2 1 n2]] h K)
    (R : S → Prop) (hR : RetSl [.t 6] 3 mr [] R) : awp P T T1 ac_made (S0 [.int .i64 nk, .sl true 2 rows, .str text] Hp.emp) R (fun _ _ => False) R := by
  have hlen : P.rlen rows = (l.length : Int) := by rw [rlen_eq hP, hrows]; simp [pairRows]
  have ho1 : P.i64 (P.add nk 1) := by rw [add_eq hP]; exact i64I hP (by omega)
  have ho2 : P.leP 0 (P.add nk 1) := le0 hP (by rw [add_eq hP]; omega)
  have ho3 : P.bytes (P.add nk 1) 16 := by subst hP; show (nk + 1) * 16 ≤ _; omega
  have ho4 : P.leP (P.add nk 1) 140737488355328 := leI hP (by rw [add_eq hP]; omega)
  have ho5 : P.leP 0 nk := le0 hP (by omega)
  have ho6 : P.bytes nk 1 := by subst hP; show nk * 1 ≤ _; omega
  have ho7 : P.leP nk 140737488355328 := leI hP (by omega)
  have e1 : P.nat (P.add nk 1) = n + 1 := by rw [add_eq hP]; subst hP; show (nk + 1).toNat = _; omega
  have e2 : P.nat nk = n := by subst hP; show nk.toNat = _; omega
  have e3 : P.rrep (P.add nk 1) [.str []] = strRows (List.replicate (n + 1) []) := by
    rw [add_eq hP]; subst hP; show List.replicate (nk + 1).toNat _ = _; rw [show (nk + 1).toNat = n + 1 by omega]; simp [strRows]
  have e4 : P.rrep nk [.bool false] = boolRows (List.replicate n false) := by
    subst hP; show List.replicate nk.toNat _ = _; rw [show nk.toNat = n by omega]; simp [boolRows]
  cbv
  refine ⟨ho1, ho2, ho3, ho4, ?_⟩
  intro β14
  cbv
  refine ⟨ho5, ho6, ho7, ?_⟩
  intro β16
  cbv
  intro β7
  cbv
  refine ⟨YMd n l text, fun y => [(0, .int .i64 nk), (2, .str text), (7, .ptr 7 (some β7) 2 0 0), (8, .int .i64 y.ak), (9, .int .i64 y.fk), (18, .sl true 2 rows), (19, .int .i64 (P.rlen rows)), (20, .int .i64 y.idx)],
    fun y => [(7, ⟨some β7, 119, 2, [[.own 1000014 (some β14) 1 (P.nat (P.add nk 1)), .own 1000016 (some β16) 1 (P.nat nk)]]⟩), (1000014, ⟨some β14, 9, 1, y.pr⟩), (1000016, ⟨some β16, 4, 1, y.kr⟩)], fun y => y.rest.length,
    ⟨_, Ent.refl _, ⟨0, [], l, 0, 0, 0, 0, [], [], _, _, rfl, rfl, rfl, rfl, rfl, rfl, e3, e4, rfl, rfl, hl⟩, ⟨rfl, rfl, rfl, rfl, rfl, rfl, rfl, rfl, trivial⟩, ⟨rfl, rfl, rfl, trivial⟩⟩, ?_⟩
  clear ho1 ho2 ho3 ho4 ho5 ho6 ho7
  rintro ⟨idx, pre, rest, fr, at_, fk, ak, A, B, pr, kr, hd, hi, hf, ha, hA, hB, hpr, hkr, hps, hks, hok⟩
  have hlp : pre.length + rest.length = l.length := by rw [hd]; simp
  have hle := madeOk_le hok
  have p1 : P.leP 0 idx := le0 hP (by ((try simp only [nc] at *); omega))
  have p2 : P.i64 (P.add idx 1) := by rw [add_eq hP]; exact i64I hP (by ((try simp only [nc] at *); omega))
  have p3 : P.leP 0 fk := le0 hP (by ((try simp only [nc] at *); omega))
  have p4 : P.ltP fk (P.int (P.nat (P.add nk 1))) := ltI hP (by rw [e1, int_eq hP]; ((try simp only [nc] at *); omega))
  have p5 : P.row pr (P.nat fk) [.str []] := row_of hP hf (by rw [hpr, strRows, List.getElem?_map, List.getElem?_append_right (by omega), List.getElem?_replicate, if_pos (by omega)]; rfl)
  have p6 : P.leP 0 ak := le0 hP (by ((try simp only [nc] at *); omega))
  cbv
  refine br_cases (fun h => ?_) (fun h => ?_)
  · have h2 : idx < P.rlen rows := lt_t hP h
    rw [hlen] at h2
    rcases rest with _ | ⟨⟨i, j⟩, rest⟩
    · exfalso; simp at hlp; ((try simp only [nc] at *); omega)
    obtain ⟨q1, q2, q3, q4, q5⟩ := hok
    have hrow : P.row rows (P.nat idx) [.int .i64 i, .int .i64 j] := row_of hP hi (by rw [hrows, pairRows, List.getElem?_map, hd]; simp)
    have r1 : P.leP ak j := leI hP (by ((try simp only [nc] at *); omega))
    have r2 : P.leP j (P.slen text) := leI hP (by rw [slen_eq hP]; ((try simp only [nc] at *); omega))
    have r3 : P.leP 0 i := le0 hP (by ((try simp only [nc] at *); omega))
    have r4 : P.ltP i (P.int (P.nat nk)) := ltI hP (by rw [e2, int_eq hP]; ((try simp only [nc] at *); omega))
    have r5 : P.row kr (P.nat i) [.bool false] := row_of hP rfl (by rw [hkr, boolRows, List.getElem?_map, List.getElem?_append_right (by omega), List.getElem?_replicate, if_pos (by omega)]; rfl)
    have r6 : P.i64 (P.add i 1) := by rw [add_eq hP]; exact i64I hP (by ((try simp only [nc] at *); omega))
    have r7 : P.i64 (P.add j 1) := by rw [add_eq hP]; exact i64I hP (by ((try simp only [nc] at *); omega))
    have r8 : P.leP 0 1 := le0 hP (by omega)
    have r9 : P.ltP 1 2 := ltI hP (by omega)
    have r10 : P.nat 1 = 1 := by subst hP; rfl
    have r11 : P.leP 0 0 := le0 hP (by omega)
    have r12 : P.ltP 0 2 := ltI hP (by omega)
    have r13 : P.nat 0 = 0 := by subst hP; rfl
    cbv
    refine ⟨p1, _, hrow, ?_⟩
    cbv
    intro β11
    cbv
    repeat' (first
      | (refine And.intro (by assumption) ?_; try cbv)
      | (refine Exists.intro _ (And.intro (by assumption) ?_); try cbv))
    refine ⟨_, Ent.refl _, ⟨_, pre ++ [(i, j)], rest, i + 1, j + 1, _, _, A ++ ((text.drop at_).take (j - at_)) :: List.replicate (i - fr) [], B ++ List.replicate (i - fr) false ++ [true], _, _, by simp [hd], ?_, ?_, ?_, ?_, ?_, ?_, ?_, ?_, ?_, q5⟩, ⟨rfl, rfl, rfl, rfl, rfl, rfl, rfl, rfl, trivial⟩, ⟨rfl, rfl, rfl, trivial⟩, by simp⟩
    · show P.add idx 1 = _; rw [add_eq hP, hi]; simp
    · show P.add i 1 = _; rw [add_eq hP]; simp
    · show P.add j 1 = _; rw [add_eq hP]; simp
    · simp; omega
    · simp; omega
    · show P.rset pr (P.nat fk) [.str (P.ssub text ak j)] = _
      rw [hpr, hf, ha]; subst hP
      show (strRows _).set ((fr : Int)).toNat [.str ((text.take ((j : Int)).toNat).drop ((at_ : Int)).toNat)] = _
      simp only [Int.toNat_natCast]
      rw [show n + 1 - fr = (i - fr) + (n - i) + 1 by omega, show n + 1 - (i + 1) = n - i by omega, List.replicate_succ]
      simp only [strRows, List.map_append, List.map_cons, List.set_append]
      rw [if_neg (by simp; omega)]
      simp only [List.length_map, hA, Nat.sub_self, List.set_cons_zero, List.append_assoc, List.cons_append]
      congr 2
      · rw [List.drop_take]
      · rw [← List.replicate_append_replicate]; simp
    · show P.rset kr (P.nat i) [.bool true] = _
      rw [hkr]; subst hP
      show (boolRows _).set ((i : Int)).toNat [.bool true] = _
      simp only [Int.toNat_natCast]
      rw [show n - fr = (i - fr) + ((n - (i + 1)) + 1) by omega, ← List.replicate_append_replicate, List.replicate_succ]
      simp only [boolRows, List.map_append, List.map_cons, List.set_append]
      rw [if_neg (by simp; omega), if_neg (by simp; omega)]
      simp only [List.length_map, List.length_replicate, List.map_replicate, hB, List.append_assoc, List.cons_append, List.nil_append, List.map_nil]
      rw [show i - fr - (i - fr) = 0 by omega, List.set_cons_zero]
    · rw [hps, puts_made]; simp
    · rw [hks, kepts_made]; simp
  · have h2 : ¬ idx < P.rlen rows := lt_f hP h
    rw [hlen] at h2
    rcases rest with _ | ⟨⟨i, j⟩, rest⟩
    rotate_left
    · exfalso; simp at hlp; ((try simp only [nc] at *); omega)
    have r1 : P.leP ak (P.slen text) := leI hP (by rw [slen_eq hP]; ((try simp only [nc] at *); omega))
    have r2 : P.leP (P.slen text) (P.slen text) := leI hP (Int.le_refl _)
    have hs : P.ssub text ak (P.slen text) = text.drop at_ := by
      rw [slen_eq hP, ha]; subst hP; show (text.take ((text.length : Nat) : Int).toNat).drop ((at_ : Nat) : Int).toNat = _
      simp
    have r3 : P.i64 (P.add (P.slen []) (P.slen (P.ssub text ak (P.slen text)))) := by
      rw [hs, add_eq hP, slen_eq hP, slen_eq hP]; exact i64I hP (by simp; ((try simp only [nc] at *); omega))
    cbv
    repeat' (first
      | (refine And.intro (by assumption) ?_; try cbv)
      | (refine Exists.intro _ (And.intro (by assumption) ?_); try cbv))
    refine hcd _ _ _ _ _ _ _ _ _ _ rfl rfl ?_ ?_ ?_ ?_ ?_
    · rw [hps, puts_made_nil]
      show P.rset pr (P.nat fk) [.str (P.sapp [] (P.ssub text ak (P.slen text)))] = _
      rw [hs, hpr, hf]; subst hP
      show (strRows _).set ((fr : Int)).toNat [.str ([] ++ text.drop at_)] = _
      simp only [Int.toNat_natCast, List.nil_append]
      rw [show n + 1 - fr = n - fr + 1 by omega, List.replicate_succ]
      simp only [strRows, List.map_append, List.map_cons, List.set_append]
      rw [if_neg (by simp; omega)]
      simp only [List.length_map, hA, Nat.sub_self, List.set_cons_zero]
    · rw [hks, kepts_made_nil, hkr]
    · show P.nat (P.add nk 1) = (P.rset pr (P.nat fk) _).length
      rw [e1]
      rw [hpr]; subst hP; simp [std, strRows, hA]; omega
    · show P.nat nk = _
      rw [e2, hkr]; simp [boolRows, hB]; omega
    cbv
    exact hR.2.2 _ _ _ (Ent.refl _) rfl rfl
theorem ren_str (l : List (List UInt8)) (f : Nat → Nat) : (strRows l).map (·.map (V.rl f)) = strRows l := by simp [strRows, List.map_map, Function.comp_def, V.rl]
theorem arg_own1 {h : Hp} {k n ty : Nat} {b : Option Nat} {rs : List (List V)} (hn : n = rs.length) (hk : h k = some ⟨b, ty, 1, rs⟩) : Arg h [] (.own k b 1 n) (.sl true 1 rs) := .own k b 1 n rs (rowsOf_own hn hk) (by simp)
theorem sp_made (n : Nat) (hn : n ≤ 100000) (l : List (Nat × Nat)) (hll : l.length ≤ 100000) (text : List UInt8) (ht : text.length ≤ 100000) (hl : madeOk n text 0 0 l) (hm : (madeT n text 0 0 l).length ≤ 1000000) :
    Spec Try.prog 61 [.int .i64 n, .sl true 2 (pairRows l), .str text] Hp.emp (Is (encParts (mkD (madeT n text 0 0 l)))) :=
  spec_frz dOk ok_made fun R hR => vc_made std rfl _ _ n _ rfl hn l hll _ rfl text ht hl _ (fun k1 k2 n1 n2 b1 b2 r1 r2 h K h1 h2 e1 e2 e3 e4 hK => ⟨h, HEnt.refl h, call_pure (sp_pdT (madeT n text 0 0 l) hm) (.cons (.agg _ _ rfl fun i v v' a b => by
    match i with
    | 0 => simp at a b; subst a b; rw [← e1]; exact arg_own1 e3 h1
    | 1 => simp at a b; subst a b; rw [← e2]; exact arg_own1 e4 h2
    | i + 2 => simp at a) .nil) hK⟩) R (retSl_of (parts_sz _) (encParts_fz _) (by simp) hR)
theorem madeT_len (n : Nat) (text : List UInt8) : ∀ (l : List (Nat × Nat)) (i0 j0 : Nat), madeOk n text i0 j0 l → (madeT n text i0 j0 l).length ≤ (text.length - j0) + (n - i0)
  | [], i0, j0, h => by simp [madeT]
  | (i, j) :: r, i0, j0, h => by
    obtain ⟨a, b, c, d, e⟩ := h
    have := madeT_len n text r (i + 1) (j + 1) e
    simp only [madeT, List.length_append, List.length_map, List.length_take, List.length_drop, List.length_replicate, List.length_cons]
    omega
theorem madeOk_pairs (n : Nat) (text : List UInt8) : ∀ (ts : List Tok) (i0 j0 : Nat), i0 + inT ts = n → j0 + outT ts = text.length → madeOk n text i0 j0 (pairsT ts i0 j0)
  | [], i0, j0, h1, h2 => by simp [inT, kepts, outT] at h1 h2; simp [pairsT, madeOk]; omega
  | .put b :: ts, i0, j0, h1, h2 => by
    have := madeOk_pairs n text ts i0 (j0 + 1) h1 (by simp [outT] at h2; omega)
    simp only [pairsT]
    exact madeOk_weak this (Nat.le_refl _) (by omega)
  | .cut :: ts, i0, j0, h1, h2 => by
    have := madeOk_pairs n text ts (i0 + 1) j0 (by simp [inT, kepts] at h1 ⊢; omega) h2
    simp only [pairsT]
    exact madeOk_weak this (by omega) (Nat.le_refl _)
  | .keep :: ts, i0, j0, h1, h2 => by
    have := madeOk_pairs n text ts (i0 + 1) (j0 + 1) (by simp [inT, kepts] at h1 ⊢; omega) (by simp [outT] at h2; omega)
    simp only [inT, kepts, List.length_cons, outT] at h1 h2
    exact ⟨Nat.le_refl _, by omega, Nat.le_refl _, by omega, this⟩
where
  madeOk_weak {n : Nat} {text : List UInt8} : ∀ {l : List (Nat × Nat)} {i0 j0 i1 j1 : Nat}, madeOk n text i1 j1 l → i0 ≤ i1 → j0 ≤ j1 → madeOk n text i0 j0 l
    | [], _, _, _, _, h, a, b => by simp only [madeOk] at *; omega
    | (i, j) :: r, _, _, _, _, h, a, b => by obtain ⟨c, d, e, f, g⟩ := h; exact ⟨by omega, d, by omega, f, g⟩
theorem pairsT_len (ts : List Tok) (i j : Nat) : (pairsT ts i j).length ≤ ts.length := by
  induction ts generalizing i j with
  | nil => simp [pairsT]
  | cons t ts ih =>
    cases t
    · have := ih (i + 1) (j + 1); simp [pairsT]; omega
    · have := ih i (j + 1); simp [pairsT]; omega
    · have := ih (i + 1) j; simp [pairsT]; omega
end Go.Proofs.Ytcdldpjmdelebaa.AM
