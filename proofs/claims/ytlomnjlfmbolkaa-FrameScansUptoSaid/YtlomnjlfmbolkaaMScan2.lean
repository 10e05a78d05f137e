/-
  The document's Frames, and the law FrameScans (of what is not too large).
-/
import Derived.Test.YtlomnjlfmbolkaaMScan
import Derived.Test.YtlomnjlfmbolkaaMWalk
set_option linter.unusedVariables false
set_option linter.unusedSimpArgs false
namespace Go.Proofs.Ytlomnjlfmbolkaa.AM
open Go Go.RowKit
set_option maxRecDepth 100000
set_option maxHeartbeats 2000000
def ac_rfr : AC := .seq (.region false [
    ⟨some 2, none, .mov (.c (.slice none 0 0))⟩,
    ⟨some 3, none, .mov (.c (.int .i64 0))⟩])
  (.seq (.region false [
    ⟨some 10, none, .mov (.t 0)⟩,
    ⟨some 11, none, .call 18 [(.t 10)]⟩,
    ⟨some 9, none, .mov (.t 11)⟩,
    ⟨some 12, none, .ext 0 (.t 9)⟩,
    ⟨some 13, none, .ext 1 (.t 9)⟩,
    ⟨some 14, none, .ext 2 (.t 9)⟩,
    ⟨some 4, none, .alloc 32 [(.int .i64 0), (.string ⟨#[]⟩)]⟩,
    ⟨none, none, .store 2 (.t 4) (.t 12)⟩,
    ⟨some 5, none, .mov (.t 13)⟩,
    ⟨some 6, none, .mov (.t 14)⟩])
  (.seq (.seq (.region false [
    ⟨some 15, none, .mov (.t 6)⟩,
    ⟨some 16, none, .bin .neq (.t 15) (.c (.int .i64 0))⟩])
  (.cond (.t 16)
    (.seq (.region false [
      ⟨some 2, none, .mov (.c (.slice none 0 0))⟩,
      ⟨some 3, none, .mov (.c (.int .i64 0))⟩])
    (.ret))
    (.skip)))
  (.seq (.region false [
    ⟨some 18, none, .mov (.t 0)⟩,
    ⟨some 19, none, .mov (.t 5)⟩,
    ⟨some 20, none, .slstr (.t 18) (some (.t 19)) none⟩,
    ⟨some 21, none, .call 32 [(.t 20)]⟩,
    ⟨some 17, none, .mov (.t 21)⟩,
    ⟨some 22, none, .ext 0 (.t 17)⟩,
    ⟨some 23, none, .ext 1 (.t 17)⟩,
    ⟨some 7, none, .mov (.t 22)⟩,
    ⟨some 8, none, .mov (.t 23)⟩])
  (.seq (.region false [
    ⟨some 24, none, .loadn 2 (.t 4)⟩,
    ⟨some 25, none, .bslice 32 2 [(.t 24)]⟩,
    ⟨some 26, none, .mov (.t 7)⟩,
    ⟨some 27, none, .append 32 2 24 (.t 25) (.t 26)⟩,
    ⟨some 28, none, .mov (.t 5)⟩,
    ⟨some 29, none, .mov (.t 8)⟩,
    ⟨some 30, none, .bin .add (.t 28) (.t 29)⟩,
    ⟨some 2, none, .mov (.t 27)⟩,
    ⟨some 3, none, .mov (.t 30)⟩])
  (.ret)))))
theorem ok_rfr : FnOk Try.prog 32 Try.f32 ac_rfr [.t 2, .t 3] 1 drawD := ⟨Try.func32, by decide +kernel, by kernel_rfl, by kernel_rfl, by decide +kernel⟩
theorem vc_rfr (P : Prim) (hP : P = std) (T T1 : CallT) (s : List UInt8) (hs : s.length ≤ 1048576) (k1 : Int) (b1 : List UInt8) (n1 e1 : Int)
    (h1 : Ans T 18 [.str s] (.tup [.agg [.int .i64 k1, .str b1], .int .i64 n1, .int .i64 e1])) (hn : e1 = 0 → 0 ≤ n1 ∧ n1 ≤ (s.length : Int))
    (lr : List (List V)) (k2 : Int) (hlr : lr.length ≤ 1048576) (hk2 : 0 ≤ k2 ∧ k2 ≤ 1048576)
    (h2 : e1 = 0 → Ans T 32 [.str (s.drop n1.toNat)] (.tup [.sl false 2 lr, .int .i64 k2]))
    (rr : List (List V)) (rg : Int) (hr0 : e1 ≠ 0 → rr = [] ∧ 0 = rg) (hr1 : e1 = 0 → rr = [.int .i64 k1, .str b1] :: lr ∧ n1 + k2 = rg)
    (R : S → Prop) (hR : ∀ x, x = rg → RetSl [.t 2, .t 3] 2 rr [.int .i64 x] R) : awp P T T1 ac_rfr (S0 [.str s] Hp.emp) R (fun _ _ => False) R := by
  have hsp : P.slen s = (s.length : Int) := slen_eq hP s
  cbv
  refine h1 _ _ ?_
  clear h1
  cbv
  repeat' (first
    | (refine And.intro (by first | assumption | decide) ?_; try cbv)
    | (intro β; try cbv))
  refine br_cases (fun h => ?_) (fun h => ?_)
  · have hx := hr0 (ne_t hP h)
    cbv
    exact (hR _ hx.2).1 _ _ (Ent.refl _) rfl hx.1
  have h0 : e1 = 0 := ne_f hP h
  have hx := hr1 h0
  have hn0 := hn h0
  have l1 : P.leP 0 n1 := le0 hP hn0.1
  have l2 : P.leP n1 (P.slen s) := leI hP (by rw [hsp]; exact hn0.2)
  have l3 : P.leP (P.slen s) (P.slen s) := leI hP (Int.le_refl _)
  have e2 : P.ssub s n1 (P.slen s) = s.drop n1.toNat := by
    rw [hsp]; subst hP
    show (s.take ((s.length : Int)).toNat).drop n1.toNat = _
    rw [Int.toNat_natCast, List.take_length]
  have c2 := h2 h0
  rw [← e2] at c2
  have f4 : ∀ r, P.neP [r] 1 := by intro r; subst hP; rfl
  have f5 : P.bytes (P.add (P.int 1) (P.rlen lr)) 24 := by subst hP; show ((1 : Int) + (lr.length : Int)) * 24 ≤ _; ((try simp only [nc] at *); omega)
  have a1 : P.add n1 k2 = n1 + k2 := add_eq hP _ _
  have a2 : P.i64 (P.add n1 k2) := by rw [a1]; exact i64I hP (by ((try simp only [nc] at *); omega))
  have f7 : P.rapp [[.int .i64 k1, .str b1]] lr = rr := by rw [hx.1]; subst hP; rfl
  have f8 : P.nadd 1 (P.rlenN lr) = rr.length := by rw [hx.1]; subst hP; show 1 + lr.length = lr.length + 1; omega
  clear h2 hr0 hr1 hn
  cbv
  refine ⟨l1, l2, l3, ?_⟩
  refine c2 _ _ ?_
  cbv
  repeat' (first
    | (refine And.intro (by first | assumption | decide | exact f4 _) ?_; try cbv)
    | (intro β2; try cbv))
  exact (hR _ (a1.trans hx.2)).2.1 _ _ _ _ _ _ _ (Ent.refl _) rfl rfl ⟨f8, f7⟩
theorem short_max {n : Nat} (h : n ≤ 1048576) : n ≤ maxLen := by
  have : maxLen = 9223372036854775807 := by decide
  omega
theorem sp_rfr : ∀ (m : Nat) (s : List UInt8), s.length < m → s.length ≤ 1048576 → Spec Try.prog 32 [.str s] Hp.emp (Is (.tup [.sl false 2 (frRows (scanF s).1), .int .i64 (scanF s).2]))
  | 0, s, h, _ => absurd h (Nat.not_lt_zero _)
  | m + 1, s, h, hs => by
    have hl := scan_len _ (s.drop (getFr s).2.1.toNat) (Nat.le_refl _)
    have hdl : (s.drop (getFr s).2.1.toNat).length = s.length - (getFr s).2.1.toNat := List.length_drop ..
    refine spec_frz dOk ok_rfr fun R hR => vc_rfr std rfl _ _ s hs (getFr s).1.kind (getFr s).1.body (getFr s).2.1 (getFr s).2.2 (ansSame (sp_unfr s (short_max hs)) rfl rfl)
      (fun he => by have := getFr_ok he; omega) (frRows (scanF (s.drop (getFr s).2.1.toNat)).1) (scanF (s.drop (getFr s).2.1.toNat)).2 (by rw [frRows, List.length_map]; omega) (by omega)
      (fun he => ansSame (sp_rfr m _ (by have := getFr_ok he; omega) (by omega)) rfl rfl) (frRows (scanF s).1) (scanF s).2
      (fun he => by rw [scan_step s, if_pos he]; exact ⟨rfl, rfl⟩) (fun he => by rw [scan_step s, if_neg (fun x => x he)]; exact ⟨rfl, rfl⟩) R
      fun x hx => by subst hx; exact retSl_of (frRows_sz _) (frRows_fz _) (int_fz _) hR
/-! are two rows of frames the same -/
structure YEf (l : List Frame) where
  k : Int
  pre : List Frame
  rest : List Frame
  hd : l = pre ++ rest
  hk : k = (pre.length : Int)
def ac_eqfr : AC := .seq (.region false [
    ⟨some 4, none, .mov (.c (.bool false))⟩])
  (.seq (.seq (.region false [
    ⟨some 6, none, .mov (.t 0)⟩,
    ⟨some 7, none, .len false (.t 6)⟩,
    ⟨some 8, none, .mov (.t 1)⟩,
    ⟨some 9, none, .len false (.t 8)⟩,
    ⟨some 10, none, .bin .neq (.t 7) (.t 9)⟩])
  (.cond (.t 10)
    (.seq (.region false [
      ⟨some 4, none, .mov (.c (.bool false))⟩])
    (.ret))
    (.skip)))
  (.seq (.seq (.region false [
    ⟨some 11, none, .mov (.t 0)⟩,
    ⟨some 12, none, .len false (.t 11)⟩,
    ⟨some 13, none, .mov (.c (.int .i64 0))⟩])
  (.block 0 (.loop (.seq (.region false [
      ⟨some 14, none, .bin .lss (.t 13) (.t 12)⟩])
    (.seq (.cond (.t 14)
      (.skip)
      (.exit 0))
    (.seq (.block 1 (.seq (.region false [
      ⟨some 15, none, .mov (.t 13)⟩,
      ⟨some 5, none, .mov (.t 15)⟩])
    (.seq (.region true [
      ⟨some 16, none, .mov (.t 0)⟩,
      ⟨some 17, none, .mov (.t 5)⟩,
      ⟨some 18, none, .iaddr 2 (.t 16) (.t 17)⟩,
      ⟨some 19, none, .loadn 2 (.t 18)⟩,
      ⟨some 20, none, .mov (.t 1)⟩,
      ⟨some 21, none, .mov (.t 5)⟩,
      ⟨some 22, none, .iaddr 2 (.t 20) (.t 21)⟩,
      ⟨some 23, none, .loadn 2 (.t 22)⟩,
      ⟨some 24, none, .eqs true [1, 2] (.t 19) (.t 23)⟩])
    (.cond (.t 24)
      (.seq (.region false [
        ⟨some 4, none, .mov (.c (.bool false))⟩])
      (.ret))
      (.skip)))))
    (.region false [
      ⟨some 25, none, .bin .add (.t 13) (.c (.int .i64 1))⟩,
      ⟨some 13, none, .mov (.t 25)⟩])))))))
  (.seq (.region false [
    ⟨some 4, none, .mov (.c (.bool true))⟩])
  (.ret))))
theorem ok_eqfr : FnOk Try.prog 33 Try.f33 ac_eqfr [.t 4] 2 drawD := ⟨Try.func33, by decide +kernel, by kernel_rfl, by kernel_rfl, by decide +kernel⟩
theorem vc_eqfr (P : Prim) (hP : P = std) (T T1 : CallT) (l : List Frame) (hll : l.length ≤ 1048576) (rows : List (List V)) (hrows : rows = frRows l)
    (R : S → Prop) (hR : ∀ s s' q, q = true → Ent s s' → Ret [.t 4] [.bool q] s' → R s) : awp P T T1 ac_eqfr (S0 [.sl true 2 rows, .sl true 2 rows] Hp.emp) R (fun _ _ => False) R := by
  have hl1 : P.rlen rows = (l.length : Int) := by rw [rlen_eq hP, hrows]; simp [frRows]
  cbv
  refine br_ff (ne_F hP rfl) ?_
  cbv
  refine ⟨YEf l, fun y => [(0, .sl true 2 rows), (1, .sl true 2 rows), (11, .sl true 2 rows), (12, .int .i64 (P.rlen rows)), (13, .int .i64 y.k)], fun y => [], fun y => y.rest.length,
    ⟨_, Ent.refl _, ⟨0, [], l, rfl, rfl⟩, ⟨rfl, rfl, rfl, rfl, rfl, trivial⟩, trivial⟩, ?_⟩
  rintro ⟨k, pre, rest, hd, hk⟩
  have hlp : pre.length + rest.length = l.length := by rw [hd]; simp
  cbv
  refine br_cases (fun h => ?_) (fun h => ?_)
  · have h5 : k < P.rlen rows := lt_t hP h
    rw [hl1] at h5
    rcases rest with _ | ⟨⟨ak, ab⟩, rest⟩
    · exfalso; simp at hlp; ((try simp only [nc] at *); omega)
    have hrow : P.row rows (P.nat k) [.int .i64 ak, .str ab] := row_of hP hk (by rw [hrows, frRows, List.getElem?_map, hd]; simp [encFrame])
    have q1 : P.leP 0 k := le0 hP (by ((try simp only [nc] at *); omega))
    have q2 : P.i64 (P.add k 1) := by rw [add_eq hP]; exact i64I hP (by ((try simp only [nc] at *); omega))
    have q3 : P.and (P.eq ak ak) (P.seq ab ab) = true := by rw [eq_T hP rfl, seq_T hP rfl]; subst hP; rfl
    cbv
    refine ⟨q1, _, hrow, ?_⟩
    cbv
    repeat' (first
      | (refine And.intro (by first | assumption | decide) ?_; try cbv)
      | (intro β2; try cbv))
    refine ⟨_, hrow, ?_⟩
    cbv
    repeat' (first
      | (refine And.intro (by first | assumption | decide) ?_; try cbv)
      | (intro β2; try cbv))
    refine br_tt q3 ?_
    cbv
    refine ⟨q2, ?_⟩
    refine ⟨_, Ent.refl _, ⟨_, pre ++ [⟨ak, ab⟩], rest, by simp [hd], ?_⟩, ⟨rfl, rfl, rfl, rfl, rfl, trivial⟩, trivial, by simp⟩
    show P.add k 1 = _; rw [add_eq hP, hk]; simp
  · cbv
    exact hR _ _ _ rfl (Ent.refl _) rfl
theorem sp_eqfr (l : List Frame) (hll : l.length ≤ 1048576) : Spec Try.prog 33 [.sl true 2 (frRows l), .sl true 2 (frRows l)] Hp.emp (Is (.bool true)) :=
  spec_pure dOk ok_eqfr [.bool true] (.bool _) fun R hR => vc_eqfr std rfl _ _ l hll _ rfl R fun s s' q h he hr => by subst h; exact hR s s' he hr
/-! the law -/
def ac_lfs : AC := .seq (.region false [
    ⟨some 2, none, .mov (.c (.bool false))⟩])
  (.seq (.region false [
    ⟨some 12, none, .build [(.int .i64 0), (.string ⟨#[]⟩)] [(0, 1, (.c (.int .i64 5))), (1, 1, (.c (.string ⟨#[120]⟩)))]⟩,
    ⟨some 13, none, .call 15 [(.t 12)]⟩,
    ⟨some 11, none, .mov (.t 13)⟩,
    ⟨some 14, none, .ext 0 (.t 11)⟩,
    ⟨some 15, none, .ext 1 (.t 11)⟩,
    ⟨some 3, none, .mov (.t 14)⟩,
    ⟨some 4, none, .mov (.t 15)⟩])
  (.seq (.seq (.region false [
    ⟨some 17, none, .mov (.t 3)⟩,
    ⟨some 18, none, .call 31 [(.t 17)]⟩,
    ⟨some 16, none, .mov (.t 18)⟩,
    ⟨some 19, none, .ext 0 (.t 16)⟩,
    ⟨some 20, none, .ext 1 (.t 16)⟩,
    ⟨some 5, none, .mov (.t 19)⟩,
    ⟨some 6, none, .mov (.t 20)⟩])
  (.seq (.region false [
    ⟨some 21, none, .mov (.t 4)⟩,
    ⟨some 22, none, .bin .neq (.t 21) (.c (.int .i64 0))⟩,
    ⟨some 23, none, .mov (.t 22)⟩,
    ⟨some 24, some (23, false), .mov (.t 6)⟩,
    ⟨some 25, some (23, false), .bin .neq (.t 24) (.c (.int .i64 8))⟩,
    ⟨some 26, none, .pick (.t 23) (.c (.bool true)) (.t 25)⟩,
    ⟨some 27, none, .mov (.t 26)⟩,
    ⟨some 28, some (27, false), .mov (.t 5)⟩,
    ⟨some 29, some (27, false), .len false (.t 28)⟩,
    ⟨some 30, some (27, false), .bin .neq (.t 29) (.c (.int .i64 1))⟩,
    ⟨some 31, none, .pick (.t 27) (.c (.bool true)) (.t 30)⟩])
  (.cond (.t 31)
    (.seq (.region false [
      ⟨some 2, none, .mov (.c (.bool false))⟩])
    (.ret))
    (.skip))))
  (.seq (.region false [
    ⟨some 33, none, .mov (.t 0)⟩,
    ⟨some 34, none, .call 31 [(.t 33)]⟩,
    ⟨some 32, none, .mov (.t 34)⟩,
    ⟨some 35, none, .ext 0 (.t 32)⟩,
    ⟨some 36, none, .ext 1 (.t 32)⟩,
    ⟨some 7, none, .mov (.t 35)⟩,
    ⟨some 8, none, .mov (.t 36)⟩])
  (.seq (.region false [
    ⟨some 38, none, .mov (.t 0)⟩,
    ⟨some 39, none, .call 32 [(.t 38)]⟩,
    ⟨some 37, none, .mov (.t 39)⟩,
    ⟨some 40, none, .ext 0 (.t 37)⟩,
    ⟨some 41, none, .ext 1 (.t 37)⟩,
    ⟨some 9, none, .mov (.t 40)⟩,
    ⟨some 10, none, .mov (.t 41)⟩])
  (.seq (.region false [
    ⟨some 42, none, .mov (.t 7)⟩,
    ⟨some 43, none, .mov (.t 9)⟩,
    ⟨some 44, none, .call 33 [(.t 42), (.t 43)]⟩,
    ⟨some 45, none, .mov (.t 44)⟩,
    ⟨some 46, some (45, true), .mov (.t 8)⟩,
    ⟨some 47, some (45, true), .mov (.t 10)⟩,
    ⟨some 48, some (45, true), .bin .eql (.t 46) (.t 47)⟩,
    ⟨some 49, none, .pick (.t 45) (.t 48) (.c (.bool false))⟩,
    ⟨some 2, none, .mov (.t 49)⟩])
  (.ret))))))
theorem ok_lfs : FnOk Try.prog 8 Try.f8 ac_lfs [.t 2] 1 drawD := ⟨Try.func8, by decide +kernel, by kernel_rfl, by kernel_rfl, by decide +kernel⟩
theorem vc_lfs (P : Prim) (hP : P = std) (T T1 : CallT) (s u : List UInt8) (e : Int) (he : e = 0) (r1 r2 : List (List V)) (n1 n2 : Int) (hn1 : n1 = 8) (hr1 : r1.length = 1)
    (h1 : Ans T 15 [.agg [.int .i64 5, .str [120]]] (.tup [.str u, .int .i64 e]))
    (h2 : Ans T 31 [.str u] (.tup [.sl false 2 r1, .int .i64 n1]))
    (h3 : Ans T 31 [.str s] (.tup [.sl false 2 r2, .int .i64 n2])) (h4 : Ans T 32 [.str s] (.tup [.sl false 2 r2, .int .i64 n2]))
    (h5 : Ans T 33 [.sl false 2 r2, .sl false 2 r2] (.bool true))
    (R : S → Prop) (hR : ∀ s s' b, b = true → Ent s s' → Ret [.t 2] [.bool b] s' → R s) : awp P T T1 ac_lfs (S0 [.str s] Hp.emp) R (fun _ _ => False) R := by
  have hl : P.rlen r1 = 1 := by rw [rlen_eq hP, hr1]; rfl
  cbv
  refine h1 _ _ ?_
  cbv
  refine h2 _ _ ?_
  cbv
  refine br_ff (ne_F hP he) ?_
  cbv
  refine br_ff (ne_F hP hn1) ?_
  cbv
  refine br_ff (ne_F hP hl) ?_
  cbv
  refine h3 _ _ ?_
  cbv
  refine h4 _ _ ?_
  cbv
  refine h5 _ _ ?_
  cbv
  exact hR _ _ _ (eq_T hP rfl) (Ent.refl _) rfl
theorem five_put : (putFr 5 [120]).2 = 0 := by decide +kernel
theorem five_len : (putFr 5 [120]).1.length ≤ 1048576 := by decide +kernel
theorem five_scan : (scanF (putFr 5 [120]).1).2 = 8 ∧ (scanF (putFr 5 [120]).1).1.length = 1 := by decide +kernel
theorem sp_law_frameScans (s : List UInt8) (hs : s.length ≤ 1048576) : Spec Try.prog 8 [.str s] Hp.emp (Is (.bool true)) :=
  spec_pure dOk ok_lfs [.bool true] (.bool _) fun R hR => vc_lfs std rfl _ _ s (putFr 5 [120]).1 (putFr 5 [120]).2 five_put (frRows (scanF (putFr 5 [120]).1).1) (frRows (scanF s).1) (scanF (putFr 5 [120]).1).2 (scanF s).2 five_scan.1 (by rw [frRows, List.length_map]; exact five_scan.2)
    (ansW (sp_fput ⟨5, [120]⟩) (fun h => .cons (.same _) .nil) rfl) (ansSame (sp_scan _ five_len) rfl rfl) (ansSame (sp_scan s hs) rfl rfl) (ansSame (sp_rfr (s.length + 1) s (Nat.lt_succ_self _) hs) rfl rfl)
    (ansW (sp_eqfr (scanF s).1 (by have := scan_len _ s (Nat.le_refl _); omega)) (fun _ => .cons (.weak _ _) (.cons (.weak _ _) .nil)) rfl)
    R fun s s' b h he hr => by subst h; exact hR s s' he hr
end Go.Proofs.Ytlomnjlfmbolkaa.AM
