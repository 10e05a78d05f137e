/-
  What a slot says, read: hot.rev, the document's some, hot.Add. (Printed by gen_hotr2.py.)
-/
import Derived.Test.YtobngncjflogcaaMHotR
set_option linter.unusedVariables false
set_option linter.unusedSimpArgs false
namespace Go.Proofs.Ytobngncjflogcaa.AM
open Go Go.RowKit
set_option maxRecDepth 100000
set_option maxHeartbeats 2000000
/-! rev -/
def revB (s : List UInt8) : Rev := ⟨tkN s 0, tkN s 1, (readF (tkS s 2).1).1⟩
def revOk (s : List UInt8) : Bool := (tkS s 2).2 && (decide ((readF (tkS s 2).1).2 = 0) && decide (oneF (revB s) = 0))
def ac_hrv : AC := .seq (.region false [
    ⟨some 1, none, .box 9 1 (.t 0)⟩,
    ⟨some 2, none, .alloc 45 [(.int .i64 0), (.int .i64 0), (.slice none 0 0)]⟩,
    ⟨some 3, none, .mov (.c (.bool false))⟩])
  (.seq (.region false [
    ⟨some 4, none, .alloc 4 [(.bool false)]⟩,
    ⟨none, none, .store 1 (.t 4) (.c (.bool true))⟩])
  (.seq (.region false [
    ⟨some 8, none, .call 99 [(.t 1), (.t 4)]⟩,
    ⟨some 9, none, .call 99 [(.t 1), (.t 4)]⟩,
    ⟨some 10, none, .build [(.int .i64 0), (.int .i64 0), (.slice none 0 0)] [(0, 1, (.t 8)), (1, 1, (.t 9))]⟩,
    ⟨some 5, none, .alloc 45 [(.int .i64 0), (.int .i64 0), (.slice none 0 0)]⟩,
    ⟨none, none, .store 3 (.t 5) (.t 10)⟩])
  (.seq (.region false [
    ⟨some 12, none, .load1 (.t 1)⟩,
    ⟨some 13, none, .call 100 [(.t 12)]⟩,
    ⟨some 11, none, .mov (.t 13)⟩,
    ⟨some 14, none, .ext 0 (.t 11)⟩,
    ⟨some 15, none, .ext 1 (.t 11)⟩,
    ⟨some 6, none, .mov (.t 14)⟩,
    ⟨some 7, none, .mov (.t 15)⟩])
  (.seq (.region false [
    ⟨some 16, none, .mov (.t 6)⟩,
    ⟨some 17, none, .faddr 2 (.t 5)⟩,
    ⟨none, none, .store 1 (.t 17) (.t 16)⟩])
  (.seq (.region true [
    ⟨some 18, none, .loadn 3 (.t 5)⟩,
    ⟨some 19, none, .load1 (.t 4)⟩,
    ⟨some 20, none, .mov (.t 19)⟩,
    ⟨some 21, some (20, true), .mov (.t 7)⟩,
    ⟨some 22, some (20, true), .bin .eql (.t 21) (.c (.int .i64 0))⟩,
    ⟨some 23, none, .pick (.t 20) (.t 22) (.c (.bool false))⟩,
    ⟨some 24, none, .mov (.t 23)⟩,
    ⟨some 25, some (24, true), .loadn 3 (.t 5)⟩,
    ⟨some 26, some (24, true), .call 90 [(.t 25)]⟩,
    ⟨some 27, some (24, true), .bin .eql (.t 26) (.c (.int .i64 0))⟩,
    ⟨some 28, none, .pick (.t 24) (.t 27) (.c (.bool false))⟩,
    ⟨none, none, .store 3 (.t 2) (.t 18)⟩,
    ⟨some 3, none, .mov (.t 28)⟩])
  (.ret))))))
theorem ok_hrv : FnOk Try.prog 70 Try.f70 ac_hrv [.cn 2 3, .t 3] 1 drawD := ⟨Try.func70, by decide +kernel, by kernel_rfl, by kernel_rfl, by decide +kernel⟩
theorem vc_hrv (P : Prim) (hP : P = std) (T T1 : CallT) (s : List UInt8) (hs : s.length ≤ maxLen) (htk : TkC T) (dF : List UInt8 → List (List V)) (eF : List UInt8 → Int)
    (hread : ∀ s, s.length ≤ maxLen → Ans T 100 [.str s] (.tup [.sl false 3 (dF s), .int .i64 (eF s)])) (oF : Int → Int → List UInt8 → Int) (hone : ∀ w q s, s.length ≤ maxLen → Ans T1 90 [.agg [.int .i64 w, .int .i64 q, .sl false 3 (dF s)]] (.int .i64 (oF w q s)))
    (rw rq : Int) (rd : List (List V)) (ro : Bool) (hrw : rw = tkN s 0) (hrq : rq = tkN s 1) (hrd : rd = dF (tkS s 2).1) (hro : ro = ((tkS s 2).2 && (decide (eF (tkS s 2).1 = 0) && decide (oF rw rq (tkS s 2).1 = 0))))
    (R : S → Prop) (hR : ∀ s0 s' w q d b, w = rw ∧ q = rq ∧ d = rd ∧ b = ro → Ent s0 s' → Ret [.cn 2 3, .t 3] [.agg [.int .i64 w, .int .i64 q, .sl false 3 d], .bool b] s' → R s0) : awp P T T1 ac_hrv (S0 [.str s] Hp.emp) R (fun _ _ => False) R := by
  cbv
  intro β1
  cbv
  intro β2
  cbv
  intro β4
  cbv
  repeat' (first
    | (refine And.intro (by first | assumption | decide) ?_; try cbv)
    | (intro β2; try cbv))
  refine htk _ _ _ _ s true _ _ hs rfl rfl rfl fun s1 ok1 v1 h1 => ?_
  obtain ⟨h1a, h1b⟩ := h1
  have e1 : (s1, ok1) = tkS s 1 := h1a
  have l1 : s1.length ≤ maxLen := by have := tkS_len s 1; rw [← e1] at this; exact Nat.le_trans this hs
  cbv
  refine htk _ _ _ _ s1 ok1 _ _ l1 rfl rfl rfl fun s2 ok2 v2 h2 => ?_
  obtain ⟨h2a, h2b⟩ := h2
  have e2 : (s2, ok2) = tkS s 2 := by rw [h2a, e1]; rfl
  have v1e : rw = v1 := by rw [h1b, hrw]; rfl
  have v2e : rq = v2 := by rw [h2b, hrq, e1]; rfl
  have l2 : s2.length ≤ maxLen := by have := tkS_len s 2; rw [← e2] at this; exact Nat.le_trans this hs
  rw [← e2] at hrd hro
  subst v1e v2e
  have c1 := hread s2 l2
  have c2 := hone rw rq s2 l2
  rw [← hrd] at c1 c2
  clear h1a h1b h2a h2b hread hone e1 l1 e2
  simp only [] at hro
  generalize eF s2 = e at c1 hro
  generalize oF rw rq s2 = q0 at c2 hro
  cbv
  intro β5
  cbv
  repeat' (first
    | (refine And.intro (by first | assumption | decide) ?_; try cbv)
    | (intro β2; try cbv))
  refine c1 _ _ ?_
  cbv
  repeat' (first
    | (refine And.intro (by first | assumption | decide) ?_; try cbv)
    | (intro β2; try cbv))
  rcases ok2 with _ | _
  · cbv
    exact hR _ _ _ _ _ _ ⟨rfl, rfl, rfl, hro.symm⟩ (Ent.refl _) ⟨rfl, rfl, Nat.zero_lt_succ 0, Nat.le_refl 3, rfl⟩
  · cbv
    repeat' (first
      | (refine And.intro (by first | assumption | decide) ?_; try cbv)
      | (intro β2; try cbv))
    refine br_cases (fun g => ?_) (fun g => ?_)
    · have he := eq_t hP g
      cbv
      repeat' (first
        | (refine And.intro (by first | assumption | decide) ?_; try cbv)
        | (intro β2; try cbv))
      refine c2 _ _ ?_
      cbv
      repeat' (first
        | (refine And.intro (by first | assumption | decide) ?_; try cbv)
        | (intro β2; try cbv))
      exact hR _ _ _ _ _ _ ⟨rfl, rfl, rfl, by rw [hro, he]; subst hP; rfl⟩ (Ent.refl _) ⟨rfl, rfl, Nat.zero_lt_succ 0, Nat.le_refl 3, rfl⟩
    · have he := eq_f hP g
      cbv
      repeat' (first
        | (refine And.intro (by first | assumption | decide) ?_; try cbv)
        | (intro β2; try cbv))
      exact hR _ _ _ _ _ _ ⟨rfl, rfl, rfl, by rw [hro, decide_eq_false he]; rfl⟩ (Ent.refl _) ⟨rfl, rfl, Nat.zero_lt_succ 0, Nat.le_refl 3, rfl⟩
theorem checkF_ok2 {d : List Part} (h : checkF d = 0) : PartsOk d := by
  have hml : maxLen = 9223372036854775807 := by decide
  obtain ⟨h1, h2, _⟩ := checkF_all h
  refine ⟨by omega, fun p hp => ?_⟩
  have := okP_bd (h2 p hp)
  exact ⟨by unfold I64; omega, by unfold I64; omega, by omega⟩
theorem readF_ok (s : List UInt8) : PartsOk (readF s).1 := by
  unfold readF
  split
  · exact ⟨Nat.zero_le _, by simp⟩
  · split
    · rename_i h; exact checkF_ok2 h.2
    · exact ⟨Nat.zero_le _, by simp⟩
theorem sp_hrv (s : List UInt8) (hs : s.length ≤ maxLen) : Spec Try.prog 70 [.str s] Hp.emp (Is (.tup [.agg (encRev (revB s)), .bool (revOk s)])) :=
  spec_pure dOk ok_hrv [.agg (encRev (revB s)), .bool (revOk s)] (.tup _ (fun v hv => by
    rcases List.mem_cons.1 hv with rfl | hv
    · exact .agg _ (by intro v hv; simp [encRev] at hv; rcases hv with rfl | rfl | rfl; exact .int _ _; exact .int _ _; exact .sl _ _ (encParts_fz _))
    · rw [List.mem_singleton.1 hv]; exact .bool _)) fun R hR => vc_hrv std rfl _ _ s hs tkC (fun s => (readF s).1.map encPart) (fun s => (readF s).2) (fun s hs => ansSame (sp_cread s hs) rfl rfl) (fun w q s => oneF ⟨w, q, (readF s).1⟩)
      (fun w q s hs => ansP (sp_one ⟨w, q, (readF s).1⟩ (readF_ok s)) (fun h => .cons (.same _) .nil) rfl) (tkN s 0) (tkN s 1) _ (revOk s) rfl rfl rfl rfl R
    fun s0 s' w q d b h he hr => by
      obtain ⟨h1, h2, h3, h4⟩ := h
      refine hR s0 s' he ?_
      rw [h1, h2, h3, h4] at hr
      exact hr
/-! some -/
def ac_some : AC := .seq (.region false [
    ⟨some 4, none, .mov (.c (.slice none 0 0))⟩,
    ⟨some 5, none, .mov (.c (.string ⟨#[]⟩))⟩,
    ⟨some 6, none, .mov (.c (.bool false))⟩])
  (.seq (.region false [
    ⟨some 7, none, .mov (.c (.slice none 0 0))⟩])
  (.seq (.seq (.region false [
    ⟨some 11, none, .mov (.t 1)⟩,
    ⟨some 12, none, .mov (.c (.int .i64 0))⟩])
  (.block 0 (.loop (.seq (.region false [
      ⟨some 13, none, .bin .lss (.t 12) (.t 11)⟩])
    (.seq (.cond (.t 13)
      (.skip)
      (.exit 0))
    (.seq (.block 1 (.seq (.region false [
      ⟨some 15, none, .mov (.t 0)⟩,
      ⟨some 16, none, .call 103 [(.t 15)]⟩,
      ⟨some 14, none, .mov (.t 16)⟩,
      ⟨some 17, none, .ext 0 (.t 14)⟩,
      ⟨some 18, none, .ext 1 (.t 14)⟩,
      ⟨some 19, none, .ext 2 (.t 14)⟩,
      ⟨some 8, none, .mov (.t 17)⟩,
      ⟨some 9, none, .mov (.t 18)⟩,
      ⟨some 10, none, .mov (.t 19)⟩])
    (.seq (.seq (.region false [
      ⟨some 20, none, .mov (.t 10)⟩,
      ⟨some 21, none, .bin .neq (.t 20) (.c (.int .i64 0))⟩])
    (.cond (.t 21)
      (.seq (.region false [
        ⟨some 4, none, .mov (.c (.slice none 0 0))⟩,
        ⟨some 5, none, .mov (.c (.string ⟨#[]⟩))⟩,
        ⟨some 6, none, .mov (.c (.bool false))⟩])
      (.ret))
      (.skip)))
    (.seq (.region false [
      ⟨some 22, none, .mov (.t 7)⟩,
      ⟨some 23, none, .mov (.t 8)⟩,
      ⟨some 24, none, .bslice 3 1 [(.t 23)]⟩,
      ⟨some 25, none, .append 3 1 8 (.t 22) (.t 24)⟩,
      ⟨some 7, none, .mov (.t 25)⟩])
    (.region false [
      ⟨some 26, none, .mov (.t 0)⟩,
      ⟨some 27, none, .mov (.t 9)⟩,
      ⟨some 28, none, .slstr (.t 26) (some (.t 27)) none⟩,
      ⟨some 0, none, .mov (.t 28)⟩])))))
    (.region false [
      ⟨some 29, none, .bin .add (.t 12) (.c (.int .i64 1))⟩,
      ⟨some 12, none, .mov (.t 29)⟩])))))))
  (.seq (.region false [
    ⟨some 30, none, .mov (.t 7)⟩,
    ⟨some 31, none, .mov (.t 0)⟩,
    ⟨some 4, none, .mov (.t 30)⟩,
    ⟨some 5, none, .mov (.t 31)⟩,
    ⟨some 6, none, .mov (.c (.bool true))⟩])
  (.ret))))
theorem ok_some : FnOk Try.prog 74 Try.f74 ac_some [.t 4, .t 5, .t 6] 2 drawD := ⟨Try.func74, by decide +kernel, by kernel_rfl, by kernel_rfl, by decide +kernel⟩
structure YSm (s : List UInt8) (n : Nat) where
  i : Nat
  k : Int
  cs : List UInt8
  b : Option Nat
  c : Nat
  rows : List (List V)
  hi : i ≤ n
  hk : k = (i : Int)
  hs : (cs, true) = tkS s i
  hrows : rows = iRows ((List.range i).map (tkN s))
  hc : c = i
theorem vc_some (P : Prim) (hP : P = std) (T T1 : CallT) (s : List UInt8) (hs : s.length ≤ maxLen) (n : Nat) (hn : n ≤ 18) (uN uK uE : List UInt8 → Int) (huN : ∀ s, uN s = (getS s).1) (huK : ∀ s, uK s = (getS s).2.1) (huE : ∀ s, uE s = (getS s).2.2)
    (hun : ∀ s, s.length ≤ maxLen → Ans T 103 [.str s] (.tup [.int .i64 (uN s), .int .i64 (uK s), .int .i64 (uE s)]))
    (rr : List (List V)) (rs : List UInt8) (ro : Bool) (hro : ro = (tkS s n).2) (hg : (tkS s n).2 = true → rr = iRows ((List.range n).map (tkN s)) ∧ rs = (tkS s n).1) (hb : (tkS s n).2 = false → rr = [] ∧ rs = [])
    (R : S → Prop) (hR : ∀ x y, x = rs ∧ y = ro → RetSl [.t 4, .t 5, .t 6] 1 rr [.str x, .bool y] R) : awp P T T1 ac_some (S0 [.str s, .int .i64 (n : Int)] Hp.emp) R (fun _ _ => False) R := by
  have hsp : ∀ x : List UInt8, P.slen x = (x.length : Int) := fun x => slen_eq hP x
  cbv
  refine ⟨YSm s n, fun y => [(0, .str y.cs), (7, .own 1000025 y.b 1 y.c), (11, .int .i64 (n : Int)), (12, .int .i64 y.k)], fun y => [(1000025, ⟨y.b, 3, 1, y.rows⟩)], fun y => n - y.i,
    ⟨_, Ent.nil (i := 7) (k := 1000025) (ty := 3) (sz := 1) rfl rfl, ⟨0, 0, s, _, _, _, Nat.zero_le _, rfl, rfl, rfl, rfl⟩, ⟨rfl, rfl, rfl, rfl, trivial⟩, ⟨rfl, trivial⟩⟩, ?_⟩
  rintro ⟨i, k, cs, b, c, rows, hi, hk, hcs, hrows, hc⟩
  have lc : cs.length ≤ maxLen := by have := tkS_len s i; rw [← hcs] at this; exact Nat.le_trans this hs
  cbv
  refine br_cases (fun g => ?_) (fun g => ?_)
  · have h5 : k < (n : Int) := lt_t hP g
    have hin : i < n := by ((try simp only [nc] at *); omega)
    have c1 := hun cs lc
    have m3 : P.i64 (P.add k 1) := by rw [add_eq hP]; exact i64I hP (by ((try simp only [nc] at *); omega))
    have e1 : P.add k 1 = ((i + 1 : Nat) : Int) := by rw [add_eq hP, hk]; ((try simp only [nc] at *); omega)
    cbv
    refine c1 _ _ ?_
    cbv
    refine br_cases (fun g => ?_) (fun g => ?_)
    · have hx := ne_t hP g
      rw [huE] at hx
      have hf := tk_bad (s := s) (n := i) (by rw [← hcs]; exact hx)
      have hff := tkS_false s (i + 1) (n - (i + 1)) hf
      rw [show i + 1 + (n - (i + 1)) = n by omega] at hff
      obtain ⟨b1, b2⟩ := hb hff
      cbv
      exact (hR _ _ ⟨b2.symm, by rw [hro, hff]⟩).1 _ _ (Ent.refl _) rfl b1
    · have hx := ne_f hP g
      rw [huE] at hx
      obtain ⟨t1, t2⟩ := tk_ok (s := s) (n := i) (by rw [← hcs]; exact hx)
      rw [← hcs] at t1 t2
      simp only [] at t1 t2
      have y1 := getS_k hx
      rw [← huK] at y1 t1
      rw [← huN] at t2
      have l1 : P.leP 0 (uK cs) := le0 hP y1.1
      have l2 : P.leP (uK cs) (P.slen cs) := leI hP (by rw [hsp]; exact y1.2)
      have l3 : P.leP (P.slen cs) (P.slen cs) := leI hP (Int.le_refl _)
      have e2 : P.ssub cs (uK cs) (P.slen cs) = cs.drop (uK cs).toNat := by
        rw [hsp]; subst hP
        show (cs.take ((cs.length : Int)).toNat).drop (uK cs).toNat = _
        rw [Int.toNat_natCast, List.take_length]
      have f4 : P.neP rows c := by subst hP; show rows.length = c; rw [hrows, hc]; simp [iRows]
      have f5 : ∀ r, P.bytes (P.add (P.int c) (P.rlen [r])) 8 := by intro r; subst hP; show ((c : Int) + 1) * 8 ≤ _; rw [hc]; ((try simp only [nc] at *); omega)
      have f6 : ∀ r, P.neP [r] 1 := by intro r; subst hP; rfl
      have f7 : P.rapp rows [[.int .i64 (uN cs)]] = iRows ((List.range (i + 1)).map (tkN s)) := by rw [hrows, ← t2, List.range_succ]; subst hP; simp [std, iRows]
      have f8 : ∀ r : List V, P.nadd c (P.rlenN [r]) = i + 1 := by intro r; rw [hc]; subst hP; rfl
      cbv
      repeat' (first
        | (refine And.intro (by first | assumption | exact f6 _ | exact f5 _) ?_; try cbv)
        | (intro β; try cbv))
      exact ⟨_, Ent.refl _, ⟨i + 1, _, _, _, _, _, hin, e1, (congrArg (fun x => (x, true)) e2).trans t1.symm, f7, f8 _⟩, ⟨rfl, rfl, rfl, rfl, trivial⟩, ⟨rfl, trivial⟩, by show n - (i + 1) < n - i; omega⟩
  · have h5 : ¬ k < (n : Int) := lt_f hP g
    have hin : i = n := by ((try simp only [nc] at *); omega)
    subst hin
    have ht : (tkS s i).2 = true := by rw [← hcs]
    obtain ⟨g1, g2⟩ := hg ht
    cbv
    exact (hR cs true ⟨by rw [g2, ← hcs], by rw [hro, ht]⟩).2.1 _ _ _ _ _ _ _ (Ent.refl _) rfl rfl ⟨by rw [hc, g1]; simp [iRows], by rw [hrows, g1]⟩
def someR (s : List UInt8) (n : Nat) : List Int := if (tkS s n).2 = true then (List.range n).map (tkN s) else []
def someS (s : List UInt8) (n : Nat) : List UInt8 := if (tkS s n).2 = true then (tkS s n).1 else []
theorem sp_some (s : List UInt8) (hs : s.length ≤ maxLen) (n : Nat) (hn : n ≤ 18) : Spec Try.prog 74 [.str s, .int .i64 (n : Int)] Hp.emp (Is (.tup [.sl false 1 (iRows (someR s n)), .str (someS s n), .bool (tkS s n).2])) :=
  spec_frz dOk ok_some fun R hR => vc_some std rfl _ _ s hs n hn (fun s => (getS s).1) (fun s => (getS s).2.1) (fun s => (getS s).2.2) (fun _ => rfl) (fun _ => rfl) (fun _ => rfl) (fun s hs => ansSame (sp_runnum s hs) rfl rfl)
    (iRows (someR s n)) (someS s n) (tkS s n).2 rfl (fun h => by unfold someR someS; rw [if_pos h, if_pos h]; exact ⟨rfl, rfl⟩) (fun h => by unfold someR someS; rw [if_neg (by rw [h]; decide), if_neg (by rw [h]; decide)]; exact ⟨rfl, rfl⟩) R
    fun x y h => by
      obtain ⟨h1, h2⟩ := h
      rw [h1, h2]
      exact retSl_of (iRows_sz _) (iRows_fz _) (fun v hv => by
        rcases List.mem_cons.1 hv with rfl | hv
        · exact .str _
        · rw [List.mem_singleton.1 hv]; exact .bool _) hR
/-! Add -/
def addTb (tb : Nat → Int) (w : Nat) (q n : Int) : Nat → Int := fun j => if j = 2 * w then q else if j = 2 * w + 1 then n else tb j
def rowL (gn b : Int) (tx : List UInt8) (fs tb : Nat → Int) (rv : V) (wh : Bool) (gd : Int) : List V := [.int .i64 gn, .int .i64 b, .str tx, .int .i64 (fs 0), .int .i64 (fs 1), .int .i64 (fs 2), .int .i64 (fs 3), .int .i64 (fs 4), .int .i64 (fs 5), .int .i64 (fs 6), .int .i64 (fs 7), .int .i64 (fs 8), .int .i64 (fs 9), .int .i64 (fs 10), .int .i64 (fs 11), .int .i64 (fs 12), .int .i64 (fs 13), .int .i64 (fs 14), .int .i64 (fs 15), .int .i64 (tb 0), .int .i64 (tb 1), .int .i64 (tb 2), .int .i64 (tb 3), .int .i64 (tb 4), .int .i64 (tb 5), .int .i64 (tb 6), .int .i64 (tb 7), .int .i64 (tb 8), .int .i64 (tb 9), .int .i64 (tb 10), .int .i64 (tb 11), .int .i64 (tb 12), .int .i64 (tb 13), .int .i64 (tb 14), .int .i64 (tb 15), rv, .bool wh, .int .i64 gd]
def obL (bl : Nat) (r : List V) : Ob := ⟨some bl, 81, 38, [r]⟩
def obV (ba : Option Nat) (rows : List (List V)) : Ob := ⟨ba, 45, 3, rows⟩
def ac_hadd : AC := .seq (.region false [
    ⟨some 3, none, .box 45 3 (.t 1)⟩])
  (.seq (.region true [
    ⟨some 4, none, .mov (.t 0)⟩,
    ⟨some 5, none, .mov (.t 0)⟩,
    ⟨some 6, none, .nilchk (.t 5)⟩,
    ⟨some 7, none, .faddr 35 (.t 6)⟩,
    ⟨some 8, none, .load1 (.t 7)⟩,
    ⟨some 9, none, .loadn 3 (.t 3)⟩,
    ⟨some 10, none, .bslice 45 3 [(.t 9)]⟩,
    ⟨some 11, none, .append 45 3 40 (.t 8) (.t 10)⟩,
    ⟨some 12, none, .nilchk (.t 4)⟩,
    ⟨some 13, none, .faddr 35 (.t 12)⟩,
    ⟨none, none, .store 1 (.t 13) (.t 11)⟩])
  (.region true [
    ⟨some 14, none, .mov (.t 0)⟩,
    ⟨some 15, none, .faddr 0 (.t 3)⟩,
    ⟨some 16, none, .load1 (.t 15)⟩,
    ⟨some 17, none, .faddr 1 (.t 3)⟩,
    ⟨some 18, none, .load1 (.t 17)⟩,
    ⟨some 19, none, .mov (.t 0)⟩,
    ⟨some 20, none, .nilchk (.t 19)⟩,
    ⟨some 21, none, .faddr 1 (.t 20)⟩,
    ⟨some 22, none, .load1 (.t 21)⟩,
    ⟨some 23, none, .mov (.t 0)⟩,
    ⟨some 24, none, .nilchk (.t 23)⟩,
    ⟨some 25, none, .faddr 35 (.t 24)⟩,
    ⟨some 26, none, .load1 (.t 25)⟩,
    ⟨some 27, none, .len false (.t 26)⟩,
    ⟨some 28, none, .bin .add (.t 22) (.t 27)⟩,
    ⟨some 29, none, .build [(.int .i64 0), (.int .i64 0)] [(0, 1, (.t 18)), (1, 1, (.t 28))]⟩,
    ⟨some 30, none, .nilchk (.t 14)⟩,
    ⟨some 31, none, .faddr 19 (.t 30)⟩,
    ⟨some 32, none, .iarr 8 2 (.t 31) (.t 16)⟩,
    ⟨none, none, .store 2 (.t 32) (.t 29)⟩]))
theorem ok_hadd : FnOk Try.prog 62 Try.f62 ac_hadd [] 2 drawD := ⟨Try.func62, by decide +kernel, by kernel_rfl, by kernel_rfl, by decide +kernel⟩
theorem vc_hadd (P : Prim) (hP : P = std) (T T1 : CallT) (bl : Nat) (ba : Option Nat) (gn b gd : Int) (tx : List UInt8) (fs tb : Nat → Int) (wh : Bool) (n : Nat) (rows : List (List V)) (hn : n = rows.length) (hn2 : n ≤ 100) (w : Nat) (hw : w < 8) (wi q : Int) (hwi : wi = (w : Int)) (dr : List (List V)) (hb : 0 ≤ b ∧ b ≤ 2147483647)
    (rows' : List (List V)) (hrows' : rows' = rows ++ [[.int .i64 wi, .int .i64 q, .sl false 3 dr]]) (n' : Nat) (hn' : n' = n + 1) (v : Int) (hv : v = b + (n : Int) + 1)
    (R : S → Prop) (hR : ∀ (s0 s' : S) (ba' : Option Nat) (tb' : Nat → Int) (r2 : List (List V)) (n2 : Nat), (∀ j, tb' j = addTb tb w q v j) → r2 = rows' → n2 = n' → Ent s0 s' → resV s' [] (fun x => oneV x = .tup []) →
      agreeH [(0, ⟨some bl, 81, 38, [[.int .i64 gn, .int .i64 b, .str tx, .int .i64 (fs 0), .int .i64 (fs 1), .int .i64 (fs 2), .int .i64 (fs 3), .int .i64 (fs 4), .int .i64 (fs 5), .int .i64 (fs 6), .int .i64 (fs 7), .int .i64 (fs 8), .int .i64 (fs 9), .int .i64 (fs 10), .int .i64 (fs 11), .int .i64 (fs 12), .int .i64 (fs 13), .int .i64 (fs 14), .int .i64 (fs 15), .int .i64 (tb' 0), .int .i64 (tb' 1), .int .i64 (tb' 2), .int .i64 (tb' 3), .int .i64 (tb' 4), .int .i64 (tb' 5), .int .i64 (tb' 6), .int .i64 (tb' 7), .int .i64 (tb' 8), .int .i64 (tb' 9), .int .i64 (tb' 10), .int .i64 (tb' 11), .int .i64 (tb' 12), .int .i64 (tb' 13), .int .i64 (tb' 14), .int .i64 (tb' 15), .own 1 ba' 3 n2, .bool wh, .int .i64 gd]]⟩), (1, ⟨ba', 45, 3, r2⟩)] s' → R s0) :
    awp P T T1 ac_hadd (S0 [.ptr 0 (some bl) 38 0 0, .agg [.int .i64 wi, .int .i64 q, .sl false 3 dr]] (lookH [(0, ⟨some bl, 81, 38, [[.int .i64 gn, .int .i64 b, .str tx, .int .i64 (fs 0), .int .i64 (fs 1), .int .i64 (fs 2), .int .i64 (fs 3), .int .i64 (fs 4), .int .i64 (fs 5), .int .i64 (fs 6), .int .i64 (fs 7), .int .i64 (fs 8), .int .i64 (fs 9), .int .i64 (fs 10), .int .i64 (fs 11), .int .i64 (fs 12), .int .i64 (fs 13), .int .i64 (fs 14), .int .i64 (fs 15), .int .i64 (tb 0), .int .i64 (tb 1), .int .i64 (tb 2), .int .i64 (tb 3), .int .i64 (tb 4), .int .i64 (tb 5), .int .i64 (tb 6), .int .i64 (tb 7), .int .i64 (tb 8), .int .i64 (tb 9), .int .i64 (tb 10), .int .i64 (tb 11), .int .i64 (tb 12), .int .i64 (tb 13), .int .i64 (tb 14), .int .i64 (tb 15), .own 1 ba 3 n, .bool wh, .int .i64 gd]]⟩), (1, ⟨ba, 45, 3, rows⟩)])) R (fun _ _ => False) R := by
  have f4 : P.neP rows n := neP_of hP _ _ hn.symm
  have f5 : ∀ r, P.bytes (P.add (P.int n) (P.rlen [r])) 40 := by intro r; subst hP; show ((n : Int) + 1) * 40 ≤ _; ((try simp only [nc] at *); omega)
  have f6 : ∀ r, P.neP [r] 1 := by intro r; subst hP; rfl
  have f7 : P.rapp rows [[.int .i64 wi, .int .i64 q, .sl false 3 dr]] = rows' := by rw [hrows']; subst hP; rfl
  have f8 : ∀ r : List V, P.nadd n (P.rlenN [r]) = n' := by intro r; rw [hn']; subst hP; rfl
  have f9 : ∀ r : List V, P.int (P.nadd n (P.rlenN [r])) = (n : Int) + 1 := by intro r; rw [f8, hn', int_eq hP]; ((try simp only [nc] at *); omega)
  have g1 : ∀ r : List V, P.add b (P.int (P.nadd n (P.rlenN [r]))) = v := by intro r; rw [add_eq hP, f9, hv]; omega
  have g2 : ∀ r : List V, P.i64 (P.add b (P.int (P.nadd n (P.rlenN [r])))) := by intro r; rw [g1, hv]; exact i64I hP (by ((try simp only [nc] at *); omega))
  have q1 : P.leP 0 wi := le0 hP (by omega)
  have q2 : P.ltP wi 8 := ltI hP (by omega)
  have hNk : P.nat wi = w := by rw [hwi]; subst hP; rfl
  cbv
  repeat' (first
    | (refine And.intro (by first | assumption | decide | exact f6 _ | exact f5 _ | exact g2 _) ?_; try cbv)
    | (intro β2; try cbv))
  have hc : w = 0 ∨ w = 1 ∨ w = 2 ∨ w = 3 ∨ w = 4 ∨ w = 5 ∨ w = 6 ∨ w = 7 := by omega
  have g3 := g1 [.int .i64 wi, .int .i64 q, .sl false 3 dr]
  have g4 := f8 [.int .i64 wi, .int .i64 q, .sl false 3 dr]
  rcases hc with rfl | rfl | rfl | rfl | rfl | rfl | rfl | rfl
  · refine ⟨0, hNk, ?_⟩
    cbv
    exact hR _ _ _ (fun j => if j = 0 then q else if j = 1 then P.add b (P.int (P.nadd n (P.rlenN [[.int .i64 wi, .int .i64 q, .sl false 3 dr]]))) else tb j) _ _ (fun j => by rw [g3]; rfl) f7 g4 (Ent.refl _) rfl ⟨rfl, rfl, trivial⟩
  · refine ⟨1, hNk, ?_⟩
    cbv
    exact hR _ _ _ (fun j => if j = 2 then q else if j = 3 then P.add b (P.int (P.nadd n (P.rlenN [[.int .i64 wi, .int .i64 q, .sl false 3 dr]]))) else tb j) _ _ (fun j => by rw [g3]; rfl) f7 g4 (Ent.refl _) rfl ⟨rfl, rfl, trivial⟩
  · refine ⟨2, hNk, ?_⟩
    cbv
    exact hR _ _ _ (fun j => if j = 4 then q else if j = 5 then P.add b (P.int (P.nadd n (P.rlenN [[.int .i64 wi, .int .i64 q, .sl false 3 dr]]))) else tb j) _ _ (fun j => by rw [g3]; rfl) f7 g4 (Ent.refl _) rfl ⟨rfl, rfl, trivial⟩
  · refine ⟨3, hNk, ?_⟩
    cbv
    exact hR _ _ _ (fun j => if j = 6 then q else if j = 7 then P.add b (P.int (P.nadd n (P.rlenN [[.int .i64 wi, .int .i64 q, .sl false 3 dr]]))) else tb j) _ _ (fun j => by rw [g3]; rfl) f7 g4 (Ent.refl _) rfl ⟨rfl, rfl, trivial⟩
  · refine ⟨4, hNk, ?_⟩
    cbv
    exact hR _ _ _ (fun j => if j = 8 then q else if j = 9 then P.add b (P.int (P.nadd n (P.rlenN [[.int .i64 wi, .int .i64 q, .sl false 3 dr]]))) else tb j) _ _ (fun j => by rw [g3]; rfl) f7 g4 (Ent.refl _) rfl ⟨rfl, rfl, trivial⟩
  · refine ⟨5, hNk, ?_⟩
    cbv
    exact hR _ _ _ (fun j => if j = 10 then q else if j = 11 then P.add b (P.int (P.nadd n (P.rlenN [[.int .i64 wi, .int .i64 q, .sl false 3 dr]]))) else tb j) _ _ (fun j => by rw [g3]; rfl) f7 g4 (Ent.refl _) rfl ⟨rfl, rfl, trivial⟩
  · refine ⟨6, hNk, ?_⟩
    cbv
    exact hR _ _ _ (fun j => if j = 12 then q else if j = 13 then P.add b (P.int (P.nadd n (P.rlenN [[.int .i64 wi, .int .i64 q, .sl false 3 dr]]))) else tb j) _ _ (fun j => by rw [g3]; rfl) f7 g4 (Ent.refl _) rfl ⟨rfl, rfl, trivial⟩
  · refine ⟨7, hNk, ?_⟩
    cbv
    exact hR _ _ _ (fun j => if j = 14 then q else if j = 15 then P.add b (P.int (P.nadd n (P.rlenN [[.int .i64 wi, .int .i64 q, .sl false 3 dr]]))) else tb j) _ _ (fun j => by rw [g3]; rfl) f7 g4 (Ent.refl _) rfl ⟨rfl, rfl, trivial⟩
end Go.Proofs.Ytobngncjflogcaa.AM
