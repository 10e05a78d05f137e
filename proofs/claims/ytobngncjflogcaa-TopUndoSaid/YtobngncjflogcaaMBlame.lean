/-
  Whose bytes they are: blame.Of, the document's Blame, and the law BlameSays.
-/
import Derived.Test.YtobngncjflogcaaBB
import Derived.Test.YtobngncjflogcaaMChain
import Derived.Test.YtobngncjflogcaaMInts
set_option linter.unusedVariables false
set_option linter.unusedSimpArgs false
namespace Go.Proofs.Ytobngncjflogcaa.AM
open Go
set_option maxRecDepth 100000
set_option maxHeartbeats 2000000
/-! the plain law -/
def blT (i : Int) : List Tok → List Int → List Int
  | [], _ => []
  | .keep :: ts, w => w.take 1 ++ blT i ts (w.drop 1)
  | .put _ :: ts, w => i :: blT i ts w
  | .cut :: ts, w => blT i ts (w.drop 1)
def blF : Int → List Int → List Rev → List Int
  | _, w, [] => w
  | i, w, r :: l => blF (i + 1) (blT i (toks r.delta) w) l
theorem bl_keep (i : Int) (ts : List Tok) : ∀ (n : Nat) (w : List Int), blT i (List.replicate n .keep ++ ts) w = w.take n ++ blT i ts (w.drop n)
  | 0, w => by simp
  | n + 1, w => by
    rw [List.replicate_succ, List.cons_append, blT, bl_keep i ts n]
    rw [← List.append_assoc, List.drop_drop, Nat.add_comm 1 n]
    congr 1
    cases w <;> simp
theorem bl_cut (i : Int) (ts : List Tok) : ∀ (n : Nat) (w : List Int), blT i (List.replicate n .cut ++ ts) w = blT i ts (w.drop n)
  | 0, w => by simp
  | n + 1, w => by
    rw [List.replicate_succ, List.cons_append, blT, bl_cut i ts n, List.drop_drop, Nat.add_comm 1 n]
theorem bl_put (i : Int) (ts : List Tok) (w : List Int) : ∀ (t : List UInt8), blT i (t.map .put ++ ts) w = List.replicate t.length i ++ blT i ts w
  | [] => by simp
  | b :: t => by
    rw [List.map_cons, List.cons_append, blT, bl_put i ts w t, List.length_cons, List.replicate_succ, List.cons_append]
theorem bl_len (i : Int) : ∀ (ts : List Tok) (w : List Int), w.length = inT ts → (blT i ts w).length = outT ts
  | [], _, _ => rfl
  | .keep :: ts, w, h => by
    rw [in_keep] at h
    cases w with
    | nil => simp at h
    | cons x w =>
      have := bl_len i ts w (by simpa using h)
      simp [blT, this, out_keep]
  | .put b :: ts, w, h => by
    have := bl_len i ts w h
    simp [blT, this, out_put]
  | .cut :: ts, w, h => by
    rw [in_cut] at h
    cases w with
    | nil => simp at h
    | cons x w =>
      have := bl_len i ts w (by simpa using h)
      simp [blT, this, out_cut]
def setP (w : List Int) (nx : List Int) (ps : List (Nat × Nat)) : List Int := ps.foldl (fun nx p => nx.set p.2 (w.getD p.1 0)) nx
theorem setP_eq (i : Int) (W : List Int) : ∀ (ts : List Tok) (W0 w A : List Int), W = W0 ++ w → w.length = inT ts → setP W (A ++ List.replicate (outT ts) i) (pairsT ts W0.length A.length) = A ++ blT i ts w
  | [], W0, w, A, _, _ => by simp [setP, pairsT, blT, outT]
  | .keep :: ts, W0, w, A, hW, h => by
    rw [in_keep] at h
    cases w with
    | nil => simp at h
    | cons x w =>
      have ih := setP_eq i W ts (W0 ++ [x]) w (A ++ [x]) (by simp [hW]) (by simpa using h)
      simp only [List.length_append, List.length_cons, List.length_nil, Nat.zero_add] at ih
      rw [pairsT, setP, List.foldl_cons, out_keep]
      have e1 : W.getD W0.length 0 = x := by rw [hW]; simp [List.getD]
      have e2 : (A ++ List.replicate (outT ts + 1) i).set A.length x = A ++ [x] ++ List.replicate (outT ts) i := by rw [List.replicate_succ]; simp
      simp only [e1, e2]
      rw [setP] at ih
      rw [ih]
      simp [blT]
  | .put b :: ts, W0, w, A, hW, h => by
    have ih := setP_eq i W ts W0 w (A ++ [i]) hW h
    simp only [List.length_append, List.length_cons, List.length_nil, Nat.zero_add] at ih
    rw [pairsT, out_put, List.replicate_succ]
    have e : A ++ i :: List.replicate (outT ts) i = A ++ [i] ++ List.replicate (outT ts) i := by simp
    rw [e, ih]
    simp [blT]
  | .cut :: ts, W0, w, A, hW, h => by
    rw [in_cut] at h
    cases w with
    | nil => simp at h
    | cons x w =>
      have ih := setP_eq i W ts (W0 ++ [x]) w A (by simp [hW]) (by simpa using h)
      simp only [List.length_append, List.length_cons, List.length_nil, Nat.zero_add] at ih
      rw [pairsT, out_cut, ih]
      simp [blT]
theorem pairs_lt : ∀ (ts : List Tok) (i0 j0 : Nat), ∀ p ∈ pairsT ts i0 j0, p.1 < i0 + inT ts ∧ p.2 < j0 + outT ts
  | [], _, _ => by simp [pairsT]
  | .keep :: ts, i0, j0 => by
    intro p hp
    rw [pairsT] at hp
    rw [in_keep, out_keep]
    rcases List.mem_cons.1 hp with rfl | hp
    · simp only []; omega
    · have := pairs_lt ts _ _ p hp; omega
  | .put b :: ts, i0, j0 => by
    intro p hp
    rw [pairsT] at hp
    rw [in_put, out_put]
    have := pairs_lt ts _ _ p hp; omega
  | .cut :: ts, i0, j0 => by
    intro p hp
    rw [pairsT] at hp
    rw [in_cut, out_cut]
    have := pairs_lt ts _ _ p hp; omega
theorem kepts_pairs : ∀ (ts : List Tok) (i j : Nat), (pairsT ts i j).length ≤ inT ts
  | [], _, _ => by simp [pairsT]
  | .keep :: ts, i, j => by rw [pairsT, in_keep, List.length_cons]; have := kepts_pairs ts (i + 1) (j + 1); omega
  | .put b :: ts, i, j => by rw [pairsT, in_put]; exact kepts_pairs ts _ _
  | .cut :: ts, i, j => by rw [pairsT, in_cut]; have := kepts_pairs ts (i + 1) j; omega
theorem chain_goT {base : List UInt8} {l : List Rev} (h : (textsF base l).2 = 0) : ∃ b, chainL base.length l b := by
  obtain ⟨g1, g2, g3, g4, _⟩ := textsF_ok h
  have := goT_chain l base 0 l.length g3 g1 (Nat.zero_le _) (Nat.le_refl _)
  rw [List.take_length, List.drop_zero] at this
  exact ⟨_, this⟩
/-! Of -/
def ac_blame : AC := .seq (.region false [
    ⟨some 4, none, .mov (.c (.slice none 0 0))⟩,
    ⟨some 5, none, .mov (.c (.int .i64 0))⟩])
  (.seq (.seq (.region false [
    ⟨some 13, none, .mov (.t 0)⟩,
    ⟨some 14, none, .mov (.t 1)⟩,
    ⟨some 15, none, .call 48 [(.t 13), (.t 14)]⟩,
    ⟨some 6, none, .mov (.t 15)⟩])
  (.seq (.region false [
    ⟨some 16, none, .mov (.t 6)⟩,
    ⟨some 17, none, .bin .neq (.t 16) (.c (.int .i64 0))⟩])
  (.cond (.t 17)
    (.seq (.region false [
      ⟨some 18, none, .mov (.t 6)⟩,
      ⟨some 4, none, .mov (.c (.slice none 0 0))⟩,
      ⟨some 5, none, .mov (.t 18)⟩])
    (.ret))
    (.skip))))
  (.seq (.region false [
    ⟨some 19, none, .mov (.t 0)⟩,
    ⟨some 20, none, .len true (.t 19)⟩,
    ⟨some 21, none, .mkslice 3 1 8 [(.int .i64 0)] (.t 20) (.t 20)⟩,
    ⟨some 7, none, .mov (.t 21)⟩])
  (.seq (.seq (.region false [
    ⟨some 22, none, .mov (.t 1)⟩,
    ⟨some 23, none, .len false (.t 22)⟩,
    ⟨some 24, none, .mov (.c (.int .i64 0))⟩])
  (.block 0 (.loop (.seq (.region false [
      ⟨some 25, none, .bin .lss (.t 24) (.t 23)⟩])
    (.seq (.cond (.t 25)
      (.skip)
      (.exit 0))
    (.seq (.block 1 (.seq (.region false [
      ⟨some 26, none, .mov (.t 24)⟩,
      ⟨some 27, none, .iaddr 3 (.t 22) (.t 24)⟩,
      ⟨some 28, none, .loadn 3 (.t 27)⟩,
      ⟨some 9, none, .alloc 45 [(.int .i64 0), (.int .i64 0), (.slice none 0 0)]⟩,
      ⟨some 8, none, .mov (.t 26)⟩,
      ⟨none, none, .store 3 (.t 9) (.t 28)⟩])
    (.seq (.region false [
      ⟨some 10, none, .mov (.c (.slice none 0 0))⟩])
    (.seq (.seq (.region false [
      ⟨some 29, none, .faddr 2 (.t 9)⟩,
      ⟨some 30, none, .load1 (.t 29)⟩,
      ⟨some 31, none, .len false (.t 30)⟩,
      ⟨some 32, none, .mov (.c (.int .i64 0))⟩])
    (.block 2 (.loop (.seq (.region false [
        ⟨some 33, none, .bin .lss (.t 32) (.t 31)⟩])
      (.seq (.cond (.t 33)
        (.skip)
        (.exit 2))
      (.seq (.block 3 (.seq (.region false [
        ⟨some 34, none, .iaddr 3 (.t 30) (.t 32)⟩,
        ⟨some 35, none, .loadn 3 (.t 34)⟩,
        ⟨some 12, none, .alloc 108 [(.int .i64 0), (.int .i64 0), (.string ⟨#[]⟩)]⟩,
        ⟨none, none, .store 3 (.t 12) (.t 35)⟩])
      (.seq (.region false [
        ⟨some 36, none, .faddr 0 (.t 12)⟩,
        ⟨some 37, none, .load1 (.t 36)⟩])
      (.block 4 (.seq (.region false [
        ⟨some 50, none, .bin .eql (.t 37) (.c (.int .i64 1))⟩,
        ⟨some 49, none, .mov (.t 50)⟩])
      (.cond (.t 49)
        (.seq (.region false [
          ⟨some 51, none, .mov (.t 10)⟩,
          ⟨some 52, none, .mov (.t 7)⟩,
          ⟨some 53, none, .faddr 1 (.t 12)⟩,
          ⟨some 54, none, .load1 (.t 53)⟩,
          ⟨some 55, none, .slsl 1 (.t 52) none (some (.t 54))⟩,
          ⟨some 56, none, .append 3 1 8 (.t 51) (.t 55)⟩,
          ⟨some 10, none, .mov (.t 56)⟩])
        (.region false [
          ⟨some 57, none, .mov (.t 7)⟩,
          ⟨some 58, none, .faddr 1 (.t 12)⟩,
          ⟨some 59, none, .load1 (.t 58)⟩,
          ⟨some 60, none, .slsl 1 (.t 57) (some (.t 59)) none⟩,
          ⟨some 7, none, .mov (.t 60)⟩]))
        (.seq (.region false [
          ⟨some 62, none, .bin .eql (.t 37) (.c (.int .i64 3))⟩,
          ⟨some 61, none, .mov (.t 62)⟩])
        (.cond (.t 61)
          (.region false [
            ⟨some 63, none, .mov (.t 7)⟩,
            ⟨some 64, none, .faddr 1 (.t 12)⟩,
            ⟨some 65, none, .load1 (.t 64)⟩,
            ⟨some 66, none, .slsl 1 (.t 63) (some (.t 65)) none⟩,
            ⟨some 7, none, .mov (.t 66)⟩])
          (.seq (.region false [
            ⟨some 38, none, .faddr 2 (.t 12)⟩,
            ⟨some 39, none, .load1 (.t 38)⟩,
            ⟨some 40, none, .len true (.t 39)⟩,
            ⟨some 41, none, .mov (.c (.int .i64 0))⟩])
          (.block 5 (.loop (.seq (.region false [
              ⟨some 42, none, .bin .lss (.t 41) (.t 40)⟩])
            (.seq (.cond (.t 42)
              (.skip)
              (.exit 5))
            (.seq (.block 6 (.region false [
              ⟨some 43, none, .mov (.t 10)⟩,
              ⟨some 44, none, .mov (.t 8)⟩,
              ⟨some 45, none, .bin .add (.t 44) (.c (.int .i64 1))⟩,
              ⟨some 46, none, .bslice 3 1 [(.t 45)]⟩,
              ⟨some 47, none, .append 3 1 8 (.t 43) (.t 46)⟩,
              ⟨some 10, none, .mov (.t 47)⟩]))
            (.region false [
              ⟨some 48, none, .bin .add (.t 41) (.c (.int .i64 1))⟩,
              ⟨some 41, none, .mov (.t 48)⟩])))))))))))))))
      (.region false [
        ⟨some 67, none, .bin .add (.t 32) (.c (.int .i64 1))⟩,
        ⟨some 32, none, .mov (.t 67)⟩])))))))
    (.region false [
      ⟨some 68, none, .mov (.t 10)⟩,
      ⟨some 7, none, .mov (.t 68)⟩])))))
    (.region false [
      ⟨some 69, none, .bin .add (.t 24) (.c (.int .i64 1))⟩,
      ⟨some 24, none, .mov (.t 69)⟩])))))))
  (.seq (.region false [
    ⟨some 70, none, .mov (.t 7)⟩,
    ⟨some 4, none, .mov (.t 70)⟩,
    ⟨some 5, none, .mov (.c (.int .i64 0))⟩])
  (.ret)))))
theorem ok_blame : FnOk Try.prog 14 Try.f14 ac_blame [.t 4, .t 5] 2 drawD := ⟨Try.func14, by decide +kernel, by kernel_rfl, by kernel_rfl, by decide +kernel⟩
structure YBl1 (res : List Int) (l : List Rev) where
  j : Int
  pre : List Rev
  rest : List Rev
  w : List Int
  wr : List (List V)
  hd : l = pre ++ rest
  hj : j = (pre.length : Int)
  hwr : wr = iRows w
  hch : ∃ b, chainL w.length rest b
  hr : blF ((pre.length : Int) + 1) w rest = res
structure YBl2 (i : Int) (d : List Part) (w : List Int) where
  k : Int
  pre : List Part
  rest : List Part
  w2 : List Int
  wr : List (List V)
  nx : List Int
  b : Option Nat
  n : Nat
  nr : List (List V)
  hd : d = pre ++ rest
  hk : k = (pre.length : Int)
  hwr : wr = iRows w2
  hnr : nr = iRows nx
  hn : n = nx.length
  hb : blT i (toks d) w = nx ++ blT i (toks rest) w2
  hlw : w2.length = inT (toks rest)
  hnx : nx.length + outT (toks rest) = outT (toks d)
structure YBl3 (i : Int) (nx : List Int) (t : List UInt8) where
  q : Int
  m : Nat
  b : Option Nat
  n : Nat
  nr : List (List V)
  hq : q = (m : Int)
  hm : m ≤ t.length
  hnr : nr = iRows (nx ++ List.replicate m i)
  hn : n = nx.length + m
theorem iRows_len (l : List Int) : (iRows l).length = l.length := by simp [iRows]
theorem out_rep (n : Nat) : outT (List.replicate n .keep) = n := by
  induction n with
  | zero => rfl
  | succ n ih => rw [List.replicate_succ, out_keep, ih]
theorem vc_blame (P : Prim) (hP : P = std) (T T1 : CallT) (base : List UInt8) (l : List Rev) (eP : List Part → List (List V)) (heE : ∀ d, eP d = d.map encPart) (rows : List (List V)) (hrows : rows = revRows eP l) (c : Int)
    (hc1 : Ans T 48 [.str base, .sl true 3 rows] (.int .i64 c)) (hch : c = 0 → l.length ≤ 64 ∧ base.length ≤ 500 ∧ ∃ b, chainL base.length l b)
    (res : List Int) (e : Int) (g1 : c ≠ 0 → res = [] ∧ c = e) (g2 : c = 0 → blF 1 (List.replicate base.length 0) l = res ∧ 0 = e)
    (R : S → Prop) (hR : ∀ x, x = e → RetSl [.t 4, .t 5] 1 (iRows res) [.int .i64 x] R) : awp P T T1 ac_blame (S0 [.str base, .sl true 3 rows] Hp.emp) R (fun _ _ => False) R := by
  have hl1 : P.rlen rows = (l.length : Int) := by rw [rlen_eq hP, hrows]; simp [revRows]
  have hs1 : P.slen base = (base.length : Int) := by subst hP; rfl
  cbv
  refine hc1 _ _ ?_
  clear hc1
  cbv
  refine br_cases (fun h => ?_) (fun h => ?_)
  · obtain ⟨q1, q2⟩ := g1 (ne_t hP h)
    cbv
    exact (hR _ q2).1 _ _ (Ent.refl _) rfl (by rw [q1]; rfl)
  have hc := ne_f hP h
  obtain ⟨hl64, hb500, hch0⟩ := hch hc
  obtain ⟨hres, he⟩ := g2 hc
  clear g1 g2 h hch
  have o1 : P.leP 0 (P.slen base) := le0 hP (by rw [hs1]; exact Int.natCast_nonneg _)
  have o2 : P.bytes (P.slen base) 8 := by rw [hs1]; subst hP; show (base.length : Int) * 8 ≤ _; ((try simp only [nc] at *); omega)
  have o3 : P.leP (P.slen base) 140737488355328 := leI hP (by rw [hs1]; ((try simp only [nc] at *); omega))
  have hw0 : P.rrep (P.slen base) [.int .i64 0] = iRows (List.replicate base.length 0) := by rw [hs1]; subst hP; simp [std, iRows]
  have hn0 : P.nat (P.slen base) = base.length := by rw [hs1]; subst hP; rfl
  cbv
  refine ⟨o1, o2, o3, ?_⟩
  intro β
  cbv
  refine ⟨YBl1 res l, fun y => [(7, .sl false 1 y.wr), (22, .sl true 3 rows), (23, .int .i64 (P.rlen rows)), (24, .int .i64 y.j)], fun y => [], fun y => y.rest.length,
    ⟨_, Ent.frzS (i := 7) (k := 1000021) (sz := 1) rfl rfl rfl rfl (by show (P.rrep (P.slen base) [.int .i64 0]).length = P.nat (P.slen base); rw [hw0, hn0]; simp [iRows]) (by show ∀ x ∈ P.rrep (P.slen base) [.int .i64 0], ∀ v ∈ x, Fz v; rw [hw0]; exact iRows_fz _), ⟨0, [], l, List.replicate base.length 0, _, rfl, rfl, hw0, by simpa using hch0, by simpa using hres⟩, ⟨rfl, rfl, rfl, rfl, trivial⟩, trivial⟩, ?_⟩
  rintro ⟨j, pre, rest, w, wr, hd, hj, hwr, hch, hr⟩
  replace hj : j = (pre.length : Int) := hj
  have hlp : pre.length + rest.length = l.length := by rw [hd]; simp
  cbv
  refine br_cases (fun h => ?_) (fun h => ?_)
  · have h5 : j < P.rlen rows := lt_t hP h
    rw [hl1] at h5
    rcases rest with _ | ⟨⟨w0, q0, d⟩, rest⟩
    · exfalso; simp at hlp; ((try simp only [nc] at *); omega)
    have hrow2 : P.row rows (P.nat j) [.int .i64 w0, .int .i64 q0, .sl false 3 (eP d)] := row_of hP hj (by rw [hrows, revRows, List.getElem?_map, hd]; simp)
    obtain ⟨bb, hck, hin, hin5, hch⟩ := hch
    simp only [] at hck hin hch
    obtain ⟨hd16, hdok, hdi, hdo, _, _⟩ := checkF_all hck
    have hout5 := (chain_le hch).1
    have q1 : P.leP 0 j := le0 hP (by ((try simp only [nc] at *); omega))
    have q2 : P.i64 (P.add j 1) := by rw [add_eq hP]; exact i64I hP (by ((try simp only [nc] at *); omega))
    have q3 : P.add j 1 = (pre.length : Int) + 1 := by rw [add_eq hP, hj]
    have hr' : blF ((pre.length : Int) + 1 + 1) (blT (P.add j 1) (toks d) w) rest = res := by rw [q3]; exact hr
    have hbl := bl_len (P.add j 1) (toks d) w hin.symm
    have hdr := heE d
    generalize eP d = dr at hrow2 hdr
    have hdl : P.rlen dr = (d.length : Int) := by rw [rlen_eq hP, hdr]; simp
    clear heE
    cbv
    refine ⟨q1, _, hrow2, ?_⟩
    cbv
    intro β9
    cbv
    refine ⟨YBl2 (P.add j 1) d w, fun y => [(7, .sl false 1 y.wr), (8, .int .i64 j), (10, .own 1000056 y.b 1 y.n), (22, .sl true 3 rows), (23, .int .i64 (P.rlen rows)), (24, .int .i64 j), (30, .sl false 3 dr), (31, .int .i64 (P.rlen dr)), (32, .int .i64 y.k)], fun y => [(1000056, ⟨y.b, 3, 1, y.nr⟩)], fun y => y.rest.length,
      ⟨_, Ent.nil (i := 10) (k := 1000056) (ty := 3) (sz := 1) rfl rfl, ⟨0, [], d, w, _, [], _, _, _, rfl, rfl, hwr, rfl, rfl, rfl, hin.symm, by simp⟩, ⟨rfl, rfl, rfl, rfl, rfl, rfl, rfl, rfl, rfl, trivial⟩, ⟨rfl, trivial⟩⟩, ?_⟩
    rintro ⟨k, pre2, rest2, w2, wr2, nx, b2, n2, nr, hd2, hk, hwr2, hnr, hn2, hb, hlw, hnx⟩
    replace hk : k = (pre2.length : Int) := hk
    have hlp2 : pre2.length + rest2.length = d.length := by rw [hd2]; simp
    have hwl2 : P.rlen wr2 = (w2.length : Int) := by rw [rlen_eq hP, hwr2, iRows_len]
    cbv
    refine br_cases (fun h => ?_) (fun h => ?_)
    · have h6 : k < P.rlen dr := lt_t hP h
      rw [hdl] at h6
      rcases rest2 with _ | ⟨⟨kd, pn, tx⟩, rest2⟩
      · exfalso; simp at hlp2; ((try simp only [nc] at *); omega)
      have hrow3 : P.row dr (P.nat k) [.int .i64 kd, .int .i64 pn, .str tx] := row_of hP hk (by rw [hdr, List.getElem?_map, hd2]; simp [encPart])
      have hp := okP_bd (hdok ⟨kd, pn, tx⟩ (by rw [hd2]; simp))
      have hpk := hp.2.2.2
      unfold partOk at hpk
      simp only [] at hpk
      have k1 : P.leP 0 k := le0 hP (by ((try simp only [nc] at *); omega))
      have k2 : P.i64 (P.add k 1) := by rw [add_eq hP]; exact i64I hP (by ((try simp only [nc] at *); omega))
      have k3 : P.add k 1 = (((pre2 ++ [(⟨kd, pn, tx⟩ : Part)]).length : Nat) : Int) := by rw [add_eq hP, hk]; simp
      have htk : toks (⟨kd, pn, tx⟩ :: rest2) = toks1 ⟨kd, pn, tx⟩ ++ toks rest2 := rfl
      rw [htk] at hb
      rw [htk, inT_app] at hlw
      rw [htk, outT_app] at hnx
      have f4 : P.neP nr n2 := by subst hP; show nr.length = n2; rw [hnr, hn2, iRows_len]
      have f6 : ∀ r, P.neP [r] 1 := by intro r; subst hP; rfl
      cbv
      refine ⟨k1, _, hrow3, ?_⟩
      cbv
      intro β12
      cbv
      have z0 : P.leP 0 0 := le0 hP (Int.le_refl 0)
      have fin : ∀ (nx' w2' : List Int), blT (P.add j 1) (toks d) w = nx' ++ blT (P.add j 1) (toks rest2) w2' → w2'.length = inT (toks rest2) → nx'.length + outT (toks rest2) = outT (toks d) → ∀ (s : S) (b' : Option Nat) (n' : Nat) (nr' wr' : List (List V)), nr' = iRows nx' → n' = nx'.length → wr' = iRows w2' →
          agree [(7, .sl false 1 wr'), (8, .int .i64 j), (10, .own 1000056 b' 1 n'), (22, .sl true 3 rows), (23, .int .i64 (P.rlen rows)), (24, .int .i64 j), (30, .sl false 3 dr), (31, .int .i64 (P.rlen dr)), (32, .int .i64 (P.add k 1))] s → agreeH [(1000056, ⟨b', 3, 1, nr'⟩)] s →
          Next (fun y : YBl2 (P.add j 1) d w => [(7, .sl false 1 y.wr), (8, .int .i64 j), (10, .own 1000056 y.b 1 y.n), (22, .sl true 3 rows), (23, .int .i64 (P.rlen rows)), (24, .int .i64 j), (30, .sl false 3 dr), (31, .int .i64 (P.rlen dr)), (32, .int .i64 y.k)]) (fun y => [(1000056, ⟨y.b, 3, 1, y.nr⟩)]) (fun y => y.rest.length) ⟨k, pre2, ⟨kd, pn, tx⟩ :: rest2, w2, wr2, nx, b2, n2, nr, hd2, hk, hwr2, hnr, hn2, by rw [htk]; exact hb, by rw [htk, inT_app]; exact hlw, by rw [htk, outT_app]; exact hnx⟩ s := by
        intro nx' w2' g1 g2 g3 s b' n' nr' wr' g4 g5 g6 g7 g8
        exact ⟨s, Ent.refl s, ⟨_, pre2 ++ [⟨kd, pn, tx⟩], rest2, w2', wr', nx', b', n', nr', by simp [hd2], k3, g6, g4, g5, g1, g2, g3⟩, g7, g8, by simp⟩
      have kc : ∀ (x : Tok), x = .keep ∨ x = .cut → inT (List.replicate pn.toNat x) = pn.toNat := by
        intro x hx
        have := kepts_app_n [] x hx pn.toNat
        simp only [List.nil_append, kepts] at this
        simp [inT, this]
      by_cases hk1 : kd = 1
      · have ht1 : toks1 ⟨kd, pn, tx⟩ = List.replicate pn.toNat .keep := by unfold toks1; simp only []; rw [if_neg (by ((try simp only [nc] at *); omega)), if_pos hk1]
        have ho1 : ∀ n, outT (List.replicate n .keep) = n := out_rep
        rw [ht1] at hb hlw hnx
        rw [kc _ (.inl rfl)] at hlw
        rw [ho1] at hnx
        rw [bl_keep, ← List.append_assoc] at hb
        have hpn : pn ≤ (w2.length : Int) := by ((try simp only [nc] at *); omega)
        have s1 : P.rsub wr2 0 pn = iRows (w2.take pn.toNat) := by subst hP; show (wr2.take pn.toNat).drop (0 : Int).toNat = _; rw [hwr2]; simp [iRows]
        have s2 : P.rsub wr2 pn (P.rlen wr2) = iRows (w2.drop pn.toNat) := by rw [hwl2]; subst hP; show (wr2.take ((w2.length : Int)).toNat).drop pn.toNat = _; rw [hwr2, Int.toNat_natCast, List.take_of_length_le (by rw [iRows_len]; exact Nat.le_refl _)]; simp [iRows]
        have l1 : P.leP 0 pn := le0 hP (by ((try simp only [nc] at *); omega))
        have l2 : P.leP pn (P.rlen wr2) := leI hP (by rw [hwl2]; exact hpn)
        have l3 : P.leP (P.rlen wr2) (P.rlen wr2) := leI hP (Int.le_refl _)
        have tk : (w2.take pn.toNat).length = pn.toNat := by rw [List.length_take]; ((try simp only [nc] at *); omega)
        have f5 : P.bytes (P.add (P.int n2) (P.rlen (P.rsub wr2 0 pn))) 8 := by rw [s1]; subst hP; show ((n2 : Int) + ((iRows (w2.take pn.toNat)).length : Int)) * 8 ≤ _; rw [iRows_len, tk, hn2]; ((try simp only [nc] at *); omega)
        have f7 : P.rapp nr (P.rsub wr2 0 pn) = iRows (nx ++ w2.take pn.toNat) := by rw [s1, hnr]; subst hP; simp [std, iRows]
        have f8 : P.nadd n2 (P.rlenN (P.rsub wr2 0 pn)) = (nx ++ w2.take pn.toNat).length := by rw [s1, hn2]; subst hP; simp [std, iRows]
        have f9 := fin _ _ hb (by rw [List.length_drop]; ((try simp only [nc] at *); omega)) (by rw [List.length_append, tk]; omega)
        refine br_tt (eq_T hP hk1) ?_
        cbv
        repeat' (first
          | (refine And.intro (by assumption) ?_; try cbv)
          | (intro β; try cbv))
        exact f9 _ _ _ _ _ f7 f8 s2 ⟨rfl, rfl, rfl, rfl, rfl, rfl, rfl, rfl, rfl, trivial⟩ ⟨rfl, trivial⟩
      refine br_ff (eq_F hP hk1) ?_
      cbv
      by_cases hk3 : kd = 3
      · have ht1 : toks1 ⟨kd, pn, tx⟩ = List.replicate pn.toNat .cut := by unfold toks1; simp only []; rw [if_neg (by ((try simp only [nc] at *); omega)), if_neg hk1]
        have ho1 : ∀ n, outT (List.replicate n .cut) = 0 := by intro n; induction n with | zero => rfl | succ n ih => rw [List.replicate_succ, out_cut, ih]
        rw [ht1] at hb hlw hnx
        rw [kc _ (.inr rfl)] at hlw
        rw [ho1, Nat.zero_add] at hnx
        rw [bl_cut] at hb
        have hpn : pn ≤ (w2.length : Int) := by ((try simp only [nc] at *); omega)
        have s2 : P.rsub wr2 pn (P.rlen wr2) = iRows (w2.drop pn.toNat) := by rw [hwl2]; subst hP; show (wr2.take ((w2.length : Int)).toNat).drop pn.toNat = _; rw [hwr2, Int.toNat_natCast, List.take_of_length_le (by rw [iRows_len]; exact Nat.le_refl _)]; simp [iRows]
        have l1 : P.leP 0 pn := le0 hP (by ((try simp only [nc] at *); omega))
        have l2 : P.leP pn (P.rlen wr2) := leI hP (by rw [hwl2]; exact hpn)
        have l3 : P.leP (P.rlen wr2) (P.rlen wr2) := leI hP (Int.le_refl _)
        have f9 := fin _ _ hb (by rw [List.length_drop]; ((try simp only [nc] at *); omega)) hnx
        refine br_tt (eq_T hP hk3) ?_
        cbv
        repeat' (first
          | (refine And.intro (by assumption) ?_; try cbv)
          | (intro β; try cbv))
        exact f9 _ _ _ _ _ hnr hn2 s2 ⟨rfl, rfl, rfl, rfl, rfl, rfl, rfl, rfl, rfl, trivial⟩ ⟨rfl, trivial⟩
      have ht1 : toks1 ⟨kd, pn, tx⟩ = tx.map .put := by unfold toks1; simp only []; rw [if_pos (by ((try simp only [nc] at *); omega))]
      rw [ht1] at hb hlw hnx
      have hi0 : inT (tx.map .put) = 0 := by simp [inT, kepts_put]
      rw [hi0, Nat.zero_add] at hlw
      rw [outT_map] at hnx
      rw [bl_put, ← List.append_assoc] at hb
      have hst : P.slen tx = (tx.length : Int) := by subst hP; rfl
      have f9 := fin _ _ hb hlw (by rw [List.length_append, List.length_replicate]; omega)
      refine br_ff (eq_F hP hk3) ?_
      cbv
      refine ⟨YBl3 (P.add j 1) nx tx, fun z => [(7, .sl false 1 wr2), (8, .int .i64 j), (10, .own 1000056 z.b 1 z.n), (22, .sl true 3 rows), (23, .int .i64 (P.rlen rows)), (24, .int .i64 j), (30, .sl false 3 dr), (31, .int .i64 (P.rlen dr)), (32, .int .i64 k), (40, .int .i64 (P.slen tx)), (41, .int .i64 z.q)], fun z => [(1000056, ⟨z.b, 3, 1, z.nr⟩)], fun z => tx.length - z.m,
        ⟨_, Ent.refl _, ⟨0, 0, _, _, _, rfl, Nat.zero_le _, by rw [hnr]; simp, hn2⟩, ⟨rfl, rfl, rfl, rfl, rfl, rfl, rfl, rfl, rfl, rfl, rfl, trivial⟩, ⟨rfl, trivial⟩⟩, ?_⟩
      rintro ⟨q, m, b3, n3, nr3, hq, hm, hnr3, hn3⟩
      cbv
      refine br_cases (fun h => ?_) (fun h => ?_)
      · have h7 : q < P.slen tx := lt_t hP h
        rw [hst] at h7
        have u1 : P.i64 (P.add q 1) := by rw [add_eq hP]; exact i64I hP (by ((try simp only [nc] at *); omega))
        have u2 : P.add q 1 = ((m + 1 : Nat) : Int) := by rw [add_eq hP, hq]; simp
        have u3 : m + 1 ≤ tx.length := by ((try simp only [nc] at *); omega)
        have f4' : P.neP nr3 n3 := by subst hP; show nr3.length = n3; rw [hnr3, hn3, iRows_len]; simp
        have f5' : ∀ r, P.bytes (P.add (P.int n3) (P.rlen [r])) 8 := by intro r; subst hP; show ((n3 : Int) + 1) * 8 ≤ _; rw [hn3]; ((try simp only [nc] at *); omega)
        have f7' : P.rapp nr3 [[.int .i64 (P.add j 1)]] = iRows (nx ++ List.replicate (m + 1) (P.add j 1)) := by rw [hnr3, List.replicate_succ', ← List.append_assoc]; generalize P.add j 1 = ii; subst hP; simp [std, iRows]
        have f8' : ∀ r, P.nadd n3 (P.rlenN [r]) = nx.length + (m + 1) := by intro r; rw [hn3]; subst hP; rfl
        cbv
        repeat' (first
          | (refine And.intro (by assumption) ?_; try cbv)
          | (refine And.intro (f6 _) ?_; try cbv)
          | (refine And.intro (f5' _) ?_; try cbv)
          | (intro β; try cbv))
        refine ⟨_, Ent.refl _, ⟨_, m + 1, _, _, _, u2, u3, f7', f8' _⟩, ⟨rfl, rfl, rfl, rfl, rfl, rfl, rfl, rfl, rfl, rfl, rfl, trivial⟩, ⟨rfl, trivial⟩, ?_⟩
        show tx.length - (m + 1) < tx.length - m; omega
      · have h7 : ¬ q < P.slen tx := lt_f hP h
        rw [hst] at h7
        have hmt : m = tx.length := by ((try simp only [nc] at *); omega)
        subst hmt
        cbv
        refine ⟨k2, ?_⟩
        exact f9 _ _ _ _ _ hnr3 (by rw [hn3]; simp) hwr2 ⟨rfl, rfl, rfl, rfl, rfl, rfl, rfl, rfl, rfl, trivial⟩ ⟨rfl, trivial⟩
    · have h6 : ¬ k < P.rlen dr := lt_f hP h
      rw [hdl] at h6
      rcases rest2 with _ | ⟨y, rest2⟩
      rotate_left
      · exfalso; simp at hlp2; ((try simp only [nc] at *); omega)
      have hnx2 : blT (P.add j 1) (toks d) w = nx := by rw [hb]; simp [toks, blT]
      rw [hnx2] at hr' hbl
      have hn3 : nr.length = n2 := by rw [hnr, hn2, iRows_len]
      have hz3 : ∀ x ∈ nr, ∀ v ∈ x, Fz v := by rw [hnr]; exact iRows_fz _
      cbv
      refine ⟨q2, ?_⟩
      refine ⟨_, Ent.frzS (i := 7) (k := 1000056) (sz := 1) rfl rfl rfl rfl hn3 hz3, ⟨_, pre ++ [⟨w0, q0, d⟩], rest, nx, _, by simp [hd], ?_, hnr, ⟨bb, by rw [hbl]; exact hch⟩, ?_⟩, ⟨rfl, rfl, rfl, rfl, trivial⟩, trivial, by simp⟩
      · show P.add j 1 = _; rw [q3]; simp
      · simpa using hr'
  · have h5 : ¬ j < P.rlen rows := lt_f hP h
    rw [hl1] at h5
    rcases rest with _ | ⟨y, rest⟩
    rotate_left
    · exfalso; simp at hlp; ((try simp only [nc] at *); omega)
    have hr1 : w = res := by simpa [blF] using hr
    cbv
    exact (hR _ he).2.2 _ _ _ (Ent.refl _) rfl (by rw [hwr, hr1])
/-! the document's -/
structure YRb2 (i : Int) (o : Nat) where
  k : Int
  m : Nat
  nr : List (List V)
  hk : k = (m : Int)
  hm : m ≤ o
  hnr : nr = iRows (List.replicate m i ++ List.replicate (o - m) 0)
structure YRb4 (w nx0 : List Int) (ps : List (Nat × Nat)) where
  k : Int
  pre : List (Nat × Nat)
  rest : List (Nat × Nat)
  nr : List (List V)
  hd : ps = pre ++ rest
  hk : k = (pre.length : Int)
  hnr : nr = iRows (setP w nx0 pre)
theorem setP_len (w : List Int) : ∀ (ps : List (Nat × Nat)) (nx : List Int), (setP w nx ps).length = nx.length
  | [], _ => rfl
  | p :: ps, nx => by
    show (setP w (nx.set p.2 (w.getD p.1 0)) ps).length = _
    rw [setP_len w ps, List.length_set]
theorem setP_snoc (w nx : List Int) (ps : List (Nat × Nat)) (a b : Nat) : setP w nx (ps ++ [(a, b)]) = (setP w nx ps).set b (w.getD a 0) := by simp [setP, List.foldl_append]
def blameF (base : List UInt8) (l : List Rev) : List Int := if (textsF base l).2 = 0 then blF 1 (List.replicate base.length 0) l else []
theorem sp_blame (base : List UInt8) (l : List Rev) (hl : RevsOk l) : Spec Try.prog 14 [.str base, .sl true 3 (l.map encRev)] Hp.emp (Is (.tup [.sl false 1 (iRows (blameF base l)), .int .i64 (textsF base l).2])) :=
  spec_frz dOk ok_blame fun R hR => vc_blame std rfl _ _ base l (fun d => d.map encPart) (fun _ => rfl) _ rfl (textsF base l).2 (ansW (sp_rcheck base l hl) (fun h => .cons (.same _) (.cons (.same _) .nil)) rfl)
    (fun h => ⟨(textsF_ok h).2.1, (textsF_ok h).1, chain_goT h⟩) (blameF base l) (textsF base l).2 (fun h => ⟨by unfold blameF; rw [if_neg h], rfl⟩) (fun h => ⟨by unfold blameF; rw [if_pos h], h.symm⟩) R
    (fun x hx => by subst hx; exact retSl_of (iRows_sz _) (iRows_fz _) (int_fz _) hR)
theorem ok_bd2 {d : List Part} (h : ∀ p ∈ d, okP p) : ∀ p ∈ d, 0 ≤ p.n ∧ p.n ≤ 500 ∧ p.text.length ≤ 500 := fun p hp => ⟨(okP_bd (h p hp)).1, (okP_bd (h p hp)).2.1, (okP_bd (h p hp)).2.2.1⟩
/-! the law -/
theorem blF_len : ∀ (l : List Rev) (i : Int) (w : List Int) (b : Nat), chainL w.length l b → (blF i w l).length ≤ 500
  | [], _, w, b, h => h.2
  | r :: l, i, w, b, h => by
    unfold blF
    exact blF_len l _ _ b (by rw [bl_len _ _ _ h.2.1.symm]; exact h.2.2.2)
end Go.Proofs.Ytobngncjflogcaa.AM
