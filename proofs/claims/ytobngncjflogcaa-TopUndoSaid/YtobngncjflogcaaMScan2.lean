/-
  The document's Frames, and the law FrameScans (of what is not too large).
-/
import Derived.Test.YtobngncjflogcaaMScan
import Derived.Test.YtobngncjflogcaaMWalk
set_option linter.unusedVariables false
set_option linter.unusedSimpArgs false
namespace Go.Proofs.Ytobngncjflogcaa.AM
open Go Go.RowKit
set_option maxRecDepth 100000
set_option maxHeartbeats 2000000
def ac_rfr : AC := .seq (.region false [
    ⟨some 2, none, .mov (.c (.slice none 0 0))⟩,
    ⟨some 3, none, .mov (.c (.int .i64 0))⟩])
  (.seq (.region false [
    ⟨some 10, none, .mov (.t 0)⟩,
    ⟨some 11, none, .call 102 [(.t 10)]⟩,
    ⟨some 9, none, .mov (.t 11)⟩,
    ⟨some 12, none, .ext 0 (.t 9)⟩,
    ⟨some 13, none, .ext 1 (.t 9)⟩,
    ⟨some 14, none, .ext 2 (.t 9)⟩,
    ⟨some 4, none, .alloc 139 [(.int .i64 0), (.string ⟨#[]⟩)]⟩,
    ⟨none, none, .store 2 (.t 4) (.t 12)⟩,
    ⟨some 5, none, .mov (.t 13)⟩,
    ⟨some 6, none, .mov (.t 14)⟩])
  (.seq (.seq (.region false [
    ⟨some 15, none, .mov (.t 6)⟩,
    ⟨some 16, none, .bin .neq (.t 15) (.c (.int .i64 0))⟩])
  (.cond (.t 16)
    (.seq (.region false [
      ⟨some 2, none, .mov (.c (.slice none 0 0))⟩,
      ⟨some 3, none, .mov (.c (.int .i64 0))⟩])
    (.ret))
    (.skip)))
  (.seq (.region false [
    ⟨some 18, none, .mov (.t 0)⟩,
    ⟨some 19, none, .mov (.t 5)⟩,
    ⟨some 20, none, .slstr (.t 18) (some (.t 19)) none⟩,
    ⟨some 21, none, .call 73 [(.t 20)]⟩,
    ⟨some 17, none, .mov (.t 21)⟩,
    ⟨some 22, none, .ext 0 (.t 17)⟩,
    ⟨some 23, none, .ext 1 (.t 17)⟩,
    ⟨some 7, none, .mov (.t 22)⟩,
    ⟨some 8, none, .mov (.t 23)⟩])
  (.seq (.region false [
    ⟨some 24, none, .loadn 2 (.t 4)⟩,
    ⟨some 25, none, .bslice 139 2 [(.t 24)]⟩,
    ⟨some 26, none, .mov (.t 7)⟩,
    ⟨some 27, none, .append 139 2 24 (.t 25) (.t 26)⟩,
    ⟨some 28, none, .mov (.t 5)⟩,
    ⟨some 29, none, .mov (.t 8)⟩,
    ⟨some 30, none, .bin .add (.t 28) (.t 29)⟩,
    ⟨some 2, none, .mov (.t 27)⟩,
    ⟨some 3, none, .mov (.t 30)⟩])
  (.ret)))))
theorem ok_rfr : FnOk Try.prog 73 Try.f73 ac_rfr [.t 2, .t 3] 1 drawD := ⟨Try.func73, by decide +kernel, by kernel_rfl, by kernel_rfl, by decide +kernel⟩
theorem vc_rfr (P : Prim) (hP : P = std) (T T1 : CallT) (s : List UInt8) (hs : s.length ≤ 1048576) (k1 : Int) (b1 : List UInt8) (n1 e1 : Int)
    (h1 : Ans T 102 [.str s] (.tup [.agg [.int .i64 k1, .str b1], .int .i64 n1, .int .i64 e1])) (hn : e1 = 0 → 0 ≤ n1 ∧ n1 ≤ (s.length : Int))
    (lr : List (List V)) (k2 : Int) (hlr : lr.length ≤ 1048576) (hk2 : 0 ≤ k2 ∧ k2 ≤ 1048576)
    (h2 : e1 = 0 → Ans T 73 [.str (s.drop n1.toNat)] (.tup [.sl false 2 lr, .int .i64 k2]))
    (rr : List (List V)) (rg : Int) (hr0 : e1 ≠ 0 → rr = [] ∧ 0 = rg) (hr1 : e1 = 0 → rr = [.int .i64 k1, .str b1] :: lr ∧ n1 + k2 = rg)
    (R : S → Prop) (hR : ∀ x, x = rg → RetSl [.t 2, .t 3] 2 rr [.int .i64 x] R) : awp P T T1 ac_rfr (S0 [.str s] Hp.emp) R (fun _ _ => False) R := by
  have hsp : P.slen s = (s.length : Int) := slen_eq hP s
  cbv
  refine h1 _ _ ?_
  clear h1
  cbv
  repeat' (first
    | (refine And.intro (by first | assumption | decide) ?_; try cbv)
    | (intro β; try cbv))
  refine br_cases (fun h => ?_) (fun h => ?_)
  · have hx := hr0 (ne_t hP h)
    cbv
    exact (hR _ hx.2).1 _ _ (Ent.refl _) rfl hx.1
  have h0 : e1 = 0 := ne_f hP h
  have hx := hr1 h0
  have hn0 := hn h0
  have l1 : P.leP 0 n1 := le0 hP hn0.1
  have l2 : P.leP n1 (P.slen s) := leI hP (by rw [hsp]; exact hn0.2)
  have l3 : P.leP (P.slen s) (P.slen s) := leI hP (Int.le_refl _)
  have e2 : P.ssub s n1 (P.slen s) = s.drop n1.toNat := by
    rw [hsp]; subst hP
    show (s.take ((s.length : Int)).toNat).drop n1.toNat = _
    rw [Int.toNat_natCast, List.take_length]
  have c2 := h2 h0
  rw [← e2] at c2
  have f4 : ∀ r, P.neP [r] 1 := by intro r; subst hP; rfl
  have f5 : P.bytes (P.add (P.int 1) (P.rlen lr)) 24 := by subst hP; show ((1 : Int) + (lr.length : Int)) * 24 ≤ _; ((try simp only [nc] at *); omega)
  have a1 : P.add n1 k2 = n1 + k2 := add_eq hP _ _
  have a2 : P.i64 (P.add n1 k2) := by rw [a1]; exact i64I hP (by ((try simp only [nc] at *); omega))
  have f7 : P.rapp [[.int .i64 k1, .str b1]] lr = rr := by rw [hx.1]; subst hP; rfl
  have f8 : P.nadd 1 (P.rlenN lr) = rr.length := by rw [hx.1]; subst hP; show 1 + lr.length = lr.length + 1; omega
  clear h2 hr0 hr1 hn
  cbv
  refine ⟨l1, l2, l3, ?_⟩
  refine c2 _ _ ?_
  cbv
  repeat' (first
    | (refine And.intro (by first | assumption | decide | exact f4 _) ?_; try cbv)
    | (intro β2; try cbv))
  exact (hR _ (a1.trans hx.2)).2.1 _ _ _ _ _ _ _ (Ent.refl _) rfl rfl ⟨f8, f7⟩
theorem short_max {n : Nat} (h : n ≤ 1048576) : n ≤ maxLen := by
  have : maxLen = 9223372036854775807 := by decide
  omega
theorem sp_rfr : ∀ (m : Nat) (s : List UInt8), s.length < m → s.length ≤ 1048576 → Spec Try.prog 73 [.str s] Hp.emp (Is (.tup [.sl false 2 (frRows (scanF s).1), .int .i64 (scanF s).2]))
  | 0, s, h, _ => absurd h (Nat.not_lt_zero _)
  | m + 1, s, h, hs => by
    have hl := scan_len _ (s.drop (getFr s).2.1.toNat) (Nat.le_refl _)
    have hdl : (s.drop (getFr s).2.1.toNat).length = s.length - (getFr s).2.1.toNat := List.length_drop ..
    refine spec_frz dOk ok_rfr fun R hR => vc_rfr std rfl _ _ s hs (getFr s).1.kind (getFr s).1.body (getFr s).2.1 (getFr s).2.2 (ansSame (sp_unfr s (short_max hs)) rfl rfl)
      (fun he => by have := getFr_ok he; omega) (frRows (scanF (s.drop (getFr s).2.1.toNat)).1) (scanF (s.drop (getFr s).2.1.toNat)).2 (by rw [frRows, List.length_map]; omega) (by omega)
      (fun he => ansSame (sp_rfr m _ (by have := getFr_ok he; omega) (by omega)) rfl rfl) (frRows (scanF s).1) (scanF s).2
      (fun he => by rw [scan_step s, if_pos he]; exact ⟨rfl, rfl⟩) (fun he => by rw [scan_step s, if_neg (fun x => x he)]; exact ⟨rfl, rfl⟩) R
      fun x hx => by subst hx; exact retSl_of (frRows_sz _) (frRows_fz _) (int_fz _) hR
/-! are two rows of frames the same -/
structure YEf (l : List Frame) where
  k : Int
  pre : List Frame
  rest : List Frame
  hd : l = pre ++ rest
  hk : k = (pre.length : Int)
/-! the law -/
theorem five_put : (putFr 5 [120]).2 = 0 := by decide +kernel
theorem five_len : (putFr 5 [120]).1.length ≤ 1048576 := by decide +kernel
theorem five_scan : (scanF (putFr 5 [120]).1).2 = 8 ∧ (scanF (putFr 5 [120]).1).1.length = 1 := by decide +kernel
end Go.Proofs.Ytobngncjflogcaa.AM
