/-
  Frames in a row: frame.Scan, the document's Frames, and the law FrameScans (of what is not too large).
-/
import Derived.Test.YtobngncjflogcaaMFrame
import Derived.Test.YtobngncjflogcaaMNorm
set_option linter.unusedVariables false
set_option linter.unusedSimpArgs false
namespace Go.Proofs.Ytobngncjflogcaa.AM
open Go Go.RowKit
set_option maxRecDepth 100000
set_option maxHeartbeats 2000000
/-! the plain law -/
def encFr (f : Frame) : List V := encFrame f
def frRows (l : List Frame) : List (List V) := l.map encFrame
def scanG : Nat → List UInt8 → List Frame × Int
  | 0, _ => ([], 0)
  | m + 1, s => if (getFr s).2.2 ≠ 0 then ([], 0) else ((getFr s).1 :: (scanG m (s.drop (getFr s).2.1.toNat)).1, (getFr s).2.1 + (scanG m (s.drop (getFr s).2.1.toNat)).2)
def scanF (s : List UInt8) : List Frame × Int := scanG (s.length + 1) s
theorem getFr_ok {s : List UInt8} (h : (getFr s).2.2 = 0) : 7 ≤ (getFr s).2.1 ∧ (getFr s).2.1 ≤ (s.length : Int) ∧ 1 ≤ (getFr s).1.kind ∧ (getFr s).1.kind ≤ 255 ∧ (getFr s).2.1 = ((getFr s).1.body.length : Int) + 7 ∧ (getFr s).1.body.length ≤ 4000 := by
  unfold getFr at h ⊢
  by_cases h1 : s.length < 7
  · rw [if_pos h1] at h; exact absurd h (by decide)
  rw [if_neg h1] at h ⊢
  by_cases h2 : (s.getD 0 0).toNat = 0 ∨ 4000 < frN s
  · rw [if_pos h2] at h; exact absurd h (by decide)
  rw [if_neg h2] at h ⊢
  by_cases h3 : s.length < frN s + 7
  · rw [if_pos h3] at h; exact absurd h (by decide)
  rw [if_neg h3] at h ⊢
  by_cases h4 : (s.take (frN s + 7)).drop (frN s + 3) ≠ fourL (crcNat (s.take (frN s + 3)))
  · rw [if_pos h4] at h; exact absurd h (by decide)
  rw [if_neg h4]
  have := (s.getD 0 0).toNat_lt
  simp only [List.length_drop, List.length_take]
  omega
theorem scanG_eq : ∀ (m : Nat) (s : List UInt8), s.length < m → scanG m s = scanF s
  | 0, s, h => absurd h (Nat.not_lt_zero _)
  | m + 1, s, h => by
    unfold scanF
    rw [scanG, scanG]
    by_cases he : (getFr s).2.2 ≠ 0
    · rw [if_pos he, if_pos he]
    · have hg := getFr_ok (Decidable.of_not_not he)
      have hl : (s.drop (getFr s).2.1.toNat).length < s.length := by rw [List.length_drop]; omega
      rw [if_neg he, if_neg he, scanG_eq m _ (by omega)]
      by_cases hm : m + 1 = s.length + 1
      · have : m = s.length := by omega
        subst this
        rw [scanG_eq s.length _ hl]
      · rw [scanG_eq s.length _ hl]
  termination_by m s => (s.length, m)
  decreasing_by all_goals (simp_wf; rw [Prod.lex_def]; simp only []; omega)
theorem scan_step (s : List UInt8) : scanF s = if (getFr s).2.2 ≠ 0 then ([], 0) else ((getFr s).1 :: (scanF (s.drop (getFr s).2.1.toNat)).1, (getFr s).2.1 + (scanF (s.drop (getFr s).2.1.toNat)).2) := by
  show scanG (s.length + 1) s = _
  rw [scanG]
  by_cases he : (getFr s).2.2 ≠ 0
  · rw [if_pos he, if_pos he]
  · have hg := getFr_ok (Decidable.of_not_not he)
    rw [if_neg he, if_neg he, scanG_eq s.length _ (by rw [List.length_drop]; omega)]
theorem scan_len : ∀ (n : Nat) (s : List UInt8), s.length ≤ n → (scanF s).1.length * 7 ≤ s.length ∧ 0 ≤ (scanF s).2 ∧ (scanF s).2 ≤ (s.length : Int)
  | 0, s, h => by
    rw [scan_step]
    have : (getFr s).2.2 ≠ 0 := by
      intro hg
      have := getFr_ok hg
      omega
    rw [if_pos this]
    simp
  | n + 1, s, h => by
    rw [scan_step]
    by_cases he : (getFr s).2.2 ≠ 0
    · rw [if_pos he]; simp
    · have hg := getFr_ok (Decidable.of_not_not he)
      rw [if_neg he]
      have hd : (s.drop (getFr s).2.1.toNat).length = s.length - (getFr s).2.1.toNat := List.length_drop ..
      have ih := scan_len n (s.drop (getFr s).2.1.toNat) (by omega)
      simp only [List.length_cons]
      omega
theorem frRows_sz (l : List Frame) : ∀ r ∈ frRows l, r.length = 2 := by
  intro r hr
  obtain ⟨f, _, rfl⟩ := List.mem_map.1 hr
  rfl
theorem frRows_fz (l : List Frame) : ∀ r ∈ frRows l, ∀ v ∈ r, Fz v := by
  intro r hr v hv
  obtain ⟨f, _, rfl⟩ := List.mem_map.1 hr
  simp [encFrame] at hv
  rcases hv with rfl | rfl
  · exact .int _ _
  · exact .str _
/-! Scan -/
def ac_scan : AC := .seq (.region false [
    ⟨some 2, none, .mov (.c (.slice none 0 0))⟩,
    ⟨some 3, none, .mov (.c (.int .i64 0))⟩])
  (.seq (.region false [
    ⟨some 4, none, .mov (.c (.slice none 0 0))⟩])
  (.seq (.region false [
    ⟨some 5, none, .mov (.c (.int .i64 0))⟩])
  (.block 0 (.loop (.block 1 (.seq (.region false [
      ⟨some 10, none, .mov (.t 0)⟩,
      ⟨some 11, none, .mov (.t 5)⟩,
      ⟨some 12, none, .slstr (.t 10) (some (.t 11)) none⟩,
      ⟨some 13, none, .call 98 [(.t 12)]⟩,
      ⟨some 9, none, .mov (.t 13)⟩,
      ⟨some 14, none, .ext 0 (.t 9)⟩,
      ⟨some 15, none, .ext 1 (.t 9)⟩,
      ⟨some 16, none, .ext 2 (.t 9)⟩,
      ⟨some 6, none, .alloc 139 [(.int .i64 0), (.string ⟨#[]⟩)]⟩,
      ⟨none, none, .store 2 (.t 6) (.t 14)⟩,
      ⟨some 7, none, .mov (.t 15)⟩,
      ⟨some 8, none, .mov (.t 16)⟩])
    (.seq (.seq (.region false [
      ⟨some 17, none, .mov (.t 8)⟩,
      ⟨some 18, none, .bin .neq (.t 17) (.c (.int .i64 0))⟩])
    (.cond (.t 18)
      (.seq (.region false [
        ⟨some 19, none, .mov (.t 4)⟩,
        ⟨some 20, none, .mov (.t 5)⟩,
        ⟨some 2, none, .mov (.t 19)⟩,
        ⟨some 3, none, .mov (.t 20)⟩])
      (.ret))
      (.skip)))
    (.seq (.region false [
      ⟨some 21, none, .mov (.t 4)⟩,
      ⟨some 22, none, .loadn 2 (.t 6)⟩,
      ⟨some 23, none, .bslice 139 2 [(.t 22)]⟩,
      ⟨some 24, none, .append 139 2 24 (.t 21) (.t 23)⟩,
      ⟨some 4, none, .mov (.t 24)⟩])
    (.region false [
      ⟨some 25, none, .mov (.t 5)⟩,
      ⟨some 26, none, .mov (.t 7)⟩,
      ⟨some 27, none, .bin .add (.t 25) (.t 26)⟩,
      ⟨some 5, none, .mov (.t 27)⟩])))))))))
theorem ok_scan : FnOk Try.prog 68 Try.f68 ac_scan [.t 2, .t 3] 1 drawD := ⟨Try.func68, by decide +kernel, by kernel_rfl, by kernel_rfl, by decide +kernel⟩
structure YSc (s : List UInt8) where
  good : Int
  out : List Frame
  b : Option Nat
  c : Nat
  rows : List (List V)
  hg : 0 ≤ good ∧ good ≤ (s.length : Int)
  hs : scanF s = (out ++ (scanF (s.drop good.toNat)).1, good + (scanF (s.drop good.toNat)).2)
  ho : (out.length : Int) * 7 ≤ good
  hrows : rows = frRows out
  hc : c = out.length
theorem vc_scan (P : Prim) (hP : P = std) (T T1 : CallT) (s : List UInt8) (hs : s.length ≤ 1048576) (fk : List UInt8 → Int) (fb : List UInt8 → List UInt8) (fn fe : List UInt8 → Int)
    (hf : ∀ s, getFr s = (⟨fk s, fb s⟩, fn s, fe s)) (h1 : ∀ s, s.length ≤ 1048576 → Ans T 98 [.str s] (.tup [.agg [.int .i64 (fk s), .str (fb s)], .int .i64 (fn s), .int .i64 (fe s)]))
    (rl : List Frame) (rg : Int) (hr : scanF s = (rl, rg)) (rr : List (List V)) (hrr : rr = frRows rl)
    (R : S → Prop) (hR : ∀ x, x = rg → RetSl [.t 2, .t 3] 2 rr [.int .i64 x] R) : awp P T T1 ac_scan (S0 [.str s] Hp.emp) R (fun _ _ => False) R := by
  have hsp : P.slen s = (s.length : Int) := slen_eq hP s
  cbv
  refine ⟨YSc s, fun y => [(0, .str s), (4, .own 1000024 y.b 2 y.c), (5, .int .i64 y.good)], fun y => [(1000024, ⟨y.b, 139, 2, y.rows⟩)], fun y => s.length - y.good.toNat,
    ⟨_, Ent.nil (i := 4) (k := 1000024) (ty := 139) (sz := 2) rfl rfl, ⟨0, [], _, _, _, by omega, by simp, by simp, rfl, rfl⟩, ⟨rfl, rfl, rfl, trivial⟩, ⟨rfl, trivial⟩⟩, ?_⟩
  rintro ⟨good, out, b, c, rows, hg, hsc, ho, hrows, hc⟩
  replace hg : 0 ≤ good ∧ good ≤ (s.length : Int) := hg
  have l1 : P.leP 0 good := le0 hP hg.1
  have l2 : P.leP good (P.slen s) := leI hP (by rw [hsp]; exact hg.2)
  have l3 : P.leP (P.slen s) (P.slen s) := leI hP (Int.le_refl _)
  have e1 : P.ssub s good (P.slen s) = s.drop good.toNat := by
    rw [hsp]; subst hP
    show (s.take ((s.length : Int)).toNat).drop good.toNat = _
    rw [Int.toNat_natCast, List.take_length]
  have hdl : ((s.drop good.toNat).length : Int) = (s.length : Int) - good := by rw [List.length_drop]; ((try simp only [nc] at *); omega)
  have c1 := h1 (s.drop good.toNat) (by ((try simp only [nc] at *); omega))
  have f1 := hf (s.drop good.toNat)
  have hst := scan_step (s.drop good.toNat)
  have hok := @getFr_ok (s.drop good.toNat)
  rw [f1] at hst hok
  simp only [] at hst hok
  rw [← e1] at c1
  clear h1
  cbv
  refine ⟨l1, l2, l3, ?_⟩
  refine c1 _ _ ?_
  rw [e1]
  clear c1 f1 hf
  generalize fk (s.drop good.toNat) = k1 at hst hok ⊢
  generalize fb (s.drop good.toNat) = b1 at hst hok ⊢
  generalize fn (s.drop good.toNat) = n1 at hst hok ⊢
  generalize fe (s.drop good.toNat) = e1 at hst hok ⊢
  cbv
  repeat' (first
    | (refine And.intro (by first | assumption | decide) ?_; try cbv)
    | (intro β; try cbv))
  refine br_cases (fun h => ?_) (fun h => ?_)
  · have hx := ne_t hP h
    rw [if_pos hx] at hst
    rw [hst] at hsc
    simp only [List.append_nil, Int.add_zero] at hsc
    rw [hr] at hsc
    simp only [Prod.mk.injEq] at hsc
    cbv
    exact (hR _ hsc.2.symm).2.1 _ _ _ _ _ _ _ (Ent.refl _) rfl rfl ⟨by rw [hc, hrr, hsc.1]; simp [frRows], by rw [hrows, hrr, hsc.1]⟩
  have hx := ne_f hP h
  rw [if_neg (fun x => x hx)] at hst
  have hg1 := hok hx
  rw [hdl] at hg1
  have hoL : (out.length : Int) ≤ 1048576 := by ((try simp only [nc] at *); omega)
  have f4 : P.neP rows c := neP_of hP _ _ (by rw [hrows, hc]; simp [frRows])
  have f5 : ∀ r, P.bytes (P.add (P.int c) (P.rlen [r])) 24 := by intro r; subst hP; show ((c : Int) + 1) * 24 ≤ _; rw [hc]; ((try simp only [nc] at *); omega)
  have f6 : ∀ r, P.neP [r] 1 := by intro r; subst hP; rfl
  have f7 : P.rapp rows [[.int .i64 k1, .str b1]] = frRows (out ++ [⟨k1, b1⟩]) := by rw [hrows]; subst hP; simp [std, frRows, encFrame]
  have f8 : ∀ r : List V, P.nadd c (P.rlenN [r]) = (out ++ [(⟨k1, b1⟩ : Frame)]).length := by intro r; rw [hc]; subst hP; simp [std]
  have a1 : P.add good n1 = good + n1 := add_eq hP _ _
  have a2 : P.i64 (P.add good n1) := by rw [a1]; exact i64I hP (by ((try simp only [nc] at *); omega))
  have a3 : (s.drop good.toNat).drop n1.toNat = s.drop (P.add good n1).toNat := by rw [List.drop_drop, a1]; congr 1; ((try simp only [nc] at *); omega)
  have hsc2 : scanF s = ((out ++ [⟨k1, b1⟩]) ++ (scanF (s.drop (P.add good n1).toNat)).1, P.add good n1 + (scanF (s.drop (P.add good n1).toNat)).2) := by
    rw [hsc, hst, a3, a1]
    simp only [List.append_assoc, List.singleton_append, Prod.mk.injEq, true_and]
    ((try simp only [nc] at *); omega)
  have hg2 : 0 ≤ P.add good n1 ∧ P.add good n1 ≤ (s.length : Int) := by rw [a1]; ((try simp only [nc] at *); omega)
  have ho2 : ((out ++ [(⟨k1, b1⟩ : Frame)]).length : Int) * 7 ≤ P.add good n1 := by rw [a1, List.length_append]; simp only [List.length_cons, List.length_nil]; ((try simp only [nc] at *); omega)
  have hm : s.length - (P.add good n1).toNat < s.length - good.toNat := by rw [a1]; ((try simp only [nc] at *); omega)
  cbv
  repeat' (first
    | (refine And.intro (by first | assumption | decide | exact f6 _ | exact f5 _) ?_; try cbv)
    | (intro β2; try cbv))
  exact ⟨_, Ent.refl _, ⟨_, out ++ [⟨k1, b1⟩], _, _, _, hg2, hsc2, ho2, f7, f8 _⟩, ⟨rfl, rfl, rfl, trivial⟩, ⟨rfl, trivial⟩, hm⟩
theorem sp_scan (s : List UInt8) (hs : s.length ≤ 1048576) : Spec Try.prog 68 [.str s] Hp.emp (Is (.tup [.sl false 2 (frRows (scanF s).1), .int .i64 (scanF s).2])) :=
  spec_frz dOk ok_scan fun R hR => vc_scan std rfl _ _ s hs (fun s => (getFr s).1.kind) (fun s => (getFr s).1.body) (fun s => (getFr s).2.1) (fun s => (getFr s).2.2) (fun _ => rfl)
    (fun s hs => ansSame (sp_fget s (by have : maxLen = 9223372036854775807 := by decide
                                        omega)) rfl rfl) (scanF s).1 (scanF s).2 rfl _ rfl R fun x hx => by subst hx; exact retSl_of (frRows_sz _) (frRows_fz _) (int_fz _) hR
end Go.Proofs.Ytobngncjflogcaa.AM
