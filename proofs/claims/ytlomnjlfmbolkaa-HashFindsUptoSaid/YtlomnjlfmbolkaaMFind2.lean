/-
  The document's Finds, and the law HashFinds (of what is not too large).
-/
import Derived.Test.YtlomnjlfmbolkaaMFind
set_option linter.unusedVariables false
set_option linter.unusedSimpArgs false
namespace Go.Proofs.Ytlomnjlfmbolkaa.AM
open Go Go.RowKit
set_option maxRecDepth 100000
set_option maxHeartbeats 2000000
def pfxF (s t : List UInt8) : Bool := decide (s.take t.length = t)
def ac_hp2 : AC := .seq (.region false [
    ⟨some 4, none, .mov (.c (.bool false))⟩])
  (.seq (.region false [
    ⟨some 5, none, .mov (.t 0)⟩,
    ⟨some 6, none, .len true (.t 5)⟩,
    ⟨some 7, none, .mov (.t 1)⟩,
    ⟨some 8, none, .len true (.t 7)⟩,
    ⟨some 9, none, .bin .geq (.t 6) (.t 8)⟩,
    ⟨some 10, none, .mov (.t 9)⟩,
    ⟨some 11, some (10, true), .mov (.t 0)⟩,
    ⟨some 12, some (10, true), .mov (.t 1)⟩,
    ⟨some 13, some (10, true), .len true (.t 12)⟩,
    ⟨some 14, some (10, true), .slstr (.t 11) none (some (.t 13))⟩,
    ⟨some 15, some (10, true), .mov (.t 1)⟩,
    ⟨some 16, some (10, true), .bin .eql (.t 14) (.t 15)⟩,
    ⟨some 17, none, .pick (.t 10) (.t 16) (.c (.bool false))⟩,
    ⟨some 4, none, .mov (.t 17)⟩])
  (.ret))
theorem ok_hp2 : FnOk Try.prog 81 Try.f81 ac_hp2 [.t 4] 2 drawD := ⟨Try.func81, by decide +kernel, by kernel_rfl, by kernel_rfl, by decide +kernel⟩
theorem vc_hp2 (P : Prim) (hP : P = std) (T T1 : CallT) (s t : List UInt8)
    (R : S → Prop) (hR : ∀ s0 s' x, x = pfxF s t → Ent s0 s' → Ret [.t 4] [.bool x] s' → R s0) : awp P T T1 ac_hp2 (S0 [.str s, .str t] Hp.emp) R (fun _ _ => False) R := by
  have hsp : P.slen s = (s.length : Int) := slen_eq hP s
  have htp : P.slen t = (t.length : Int) := slen_eq hP t
  cbv
  refine br_cases (fun g => ?_) (fun g => ?_)
  · have h6 : P.slen t ≤ P.slen s := le_t hP g
    have a0 : P.leP 0 0 := le0 hP (by decide)
    have a1 : P.leP 0 (P.slen t) := le0 hP (by rw [htp]; ((try simp only [nc] at *); omega))
    have a2 : P.leP (P.slen t) (P.slen s) := leI hP h6
    have e0 : P.seq (P.ssub s 0 (P.slen t)) t = pfxF s t := by rw [htp]; subst hP; rfl
    cbv
    repeat' (first
      | (refine And.intro (by assumption) ?_; try cbv)
      | (intro β; try cbv))
    exact hR _ _ _ e0 (Ent.refl _) rfl
  · have h6 : ¬ P.slen t ≤ P.slen s := le_f hP g
    rw [hsp, htp] at h6
    have e0 : false = pfxF s t := (decide_eq_false (fun h => by have := congrArg List.length h; rw [List.length_take] at this; ((try simp only [nc] at *); omega))).symm
    cbv
    exact hR _ _ _ e0 (Ent.refl _) rfl
theorem sp_hp2 (s t : List UInt8) : Spec Try.prog 81 [.str s, .str t] Hp.emp (Is (.bool (pfxF s t))) :=
  spec_pure dOk ok_hp2 [.bool (pfxF s t)] (.bool _) fun R hR => vc_hp2 std rfl _ _ s t R fun s s' b h he hr => by subst h; exact hR s s' he hr
def ac_hp1 : AC := .seq (.region false [
    ⟨some 4, none, .mov (.c (.bool false))⟩])
  (.seq (.region false [
    ⟨some 5, none, .mov (.t 0)⟩,
    ⟨some 6, none, .mov (.t 1)⟩,
    ⟨some 7, none, .call 81 [(.t 5), (.t 6)]⟩,
    ⟨some 4, none, .mov (.t 7)⟩])
  (.ret))
theorem ok_hp1 : FnOk Try.prog 56 Try.f56 ac_hp1 [.t 4] 2 drawD := ⟨Try.func56, by decide +kernel, by kernel_rfl, by kernel_rfl, by decide +kernel⟩
theorem vc_hp1 (P : Prim) (hP : P = std) (T T1 : CallT) (s t : List UInt8) (b : Bool) (h1 : Ans T 81 [.str s, .str t] (.bool b))
    (R : S → Prop) (hR : ∀ s0 s' x, x = b → Ent s0 s' → Ret [.t 4] [.bool x] s' → R s0) : awp P T T1 ac_hp1 (S0 [.str s, .str t] Hp.emp) R (fun _ _ => False) R := by
  cbv
  refine h1 _ _ ?_
  cbv
  exact hR _ _ _ rfl (Ent.refl _) rfl
theorem sp_hp1 (s t : List UInt8) : Spec Try.prog 56 [.str s, .str t] Hp.emp (Is (.bool (pfxF s t))) :=
  spec_pure dOk ok_hp1 [.bool (pfxF s t)] (.bool _) fun R hR => vc_hp1 std rfl _ _ s t _ (ansSame (sp_hp2 s t) rfl rfl) R fun s s' b h he hr => by subst h; exact hR s s' he hr
/-! Finds -/
def ac_finds : AC := .seq (.region false [
    ⟨some 4, none, .mov (.c (.slice none 0 0))⟩])
  (.seq (.region false [
    ⟨some 5, none, .mov (.c (.slice none 0 0))⟩])
  (.seq (.seq (.region false [
    ⟨some 7, none, .mov (.t 0)⟩,
    ⟨some 8, none, .len true (.t 7)⟩,
    ⟨some 9, none, .mov (.c (.int .i64 0))⟩])
  (.block 0 (.loop (.seq (.region false [
      ⟨some 10, none, .bin .lss (.t 9) (.t 8)⟩])
    (.seq (.cond (.t 10)
      (.skip)
      (.exit 0))
    (.seq (.block 1 (.seq (.region false [
      ⟨some 11, none, .mov (.t 9)⟩,
      ⟨some 6, none, .mov (.t 11)⟩])
    (.seq (.region false [
      ⟨some 12, none, .mov (.t 0)⟩,
      ⟨some 13, none, .mov (.t 6)⟩,
      ⟨some 14, none, .slstr (.t 12) (some (.t 13)) none⟩,
      ⟨some 15, none, .mov (.t 1)⟩,
      ⟨some 16, none, .call 56 [(.t 14), (.t 15)]⟩])
    (.cond (.t 16)
      (.region false [
        ⟨some 17, none, .mov (.t 5)⟩,
        ⟨some 18, none, .mov (.t 6)⟩,
        ⟨some 19, none, .bslice 3 1 [(.t 18)]⟩,
        ⟨some 20, none, .append 3 1 8 (.t 17) (.t 19)⟩,
        ⟨some 5, none, .mov (.t 20)⟩])
      (.skip)))))
    (.region false [
      ⟨some 21, none, .bin .add (.t 9) (.c (.int .i64 1))⟩,
      ⟨some 9, none, .mov (.t 21)⟩])))))))
  (.seq (.region false [
    ⟨some 22, none, .mov (.t 5)⟩,
    ⟨some 4, none, .mov (.t 22)⟩])
  (.ret))))
theorem ok_finds : FnOk Try.prog 26 Try.f26 ac_finds [.t 4] 2 drawD := ⟨Try.func26, by decide +kernel, by kernel_rfl, by kernel_rfl, by decide +kernel⟩
structure YFn (s t : List UInt8) where
  i : Nat
  k : Int
  b : Option Nat
  c : Nat
  rows : List (List V)
  hi : i ≤ s.length
  hk : k = (i : Int)
  hrows : rows = iRows (posF s t i)
  hc : c = (posF s t i).length
theorem vc_finds (P : Prim) (hP : P = std) (T T1 : CallT) (s t : List UInt8) (hs : s.length ≤ 1048576) (pF : List UInt8 → Bool) (hpF : ∀ x, pF x = pfxF x t)
    (h1 : ∀ x, Ans T 56 [.str x, .str t] (.bool (pF x))) (rr : List (List V)) (hrr : rr = iRows (posF s t s.length))
    (R : S → Prop) (hR : RetSl [.t 4] 1 rr [] R) : awp P T T1 ac_finds (S0 [.str s, .str t] Hp.emp) R (fun _ _ => False) R := by
  have hsp : P.slen s = (s.length : Int) := slen_eq hP s
  cbv
  refine ⟨YFn s t, fun y => [(0, .str s), (1, .str t), (5, .own 1000020 y.b 1 y.c), (8, .int .i64 (P.slen s)), (9, .int .i64 y.k)], fun y => [(1000020, ⟨y.b, 3, 1, y.rows⟩)], fun y => s.length - y.i,
    ⟨_, Ent.nil (i := 5) (k := 1000020) (ty := 3) (sz := 1) rfl rfl, ⟨0, 0, _, _, _, by omega, rfl, rfl, rfl⟩, ⟨rfl, rfl, rfl, rfl, rfl, trivial⟩, ⟨rfl, trivial⟩⟩, ?_⟩
  rintro ⟨i, k, b, c, rows, hi, hk, hrows, hc⟩
  have hil := posF_len s t i
  cbv
  refine br_cases (fun g => ?_) (fun g => ?_)
  · have h6 : k < P.slen s := lt_t hP g
    rw [hsp] at h6
    have hi2 : i + 1 ≤ s.length := by ((try simp only [nc] at *); omega)
    have k0 : P.leP 0 k := le0 hP (by ((try simp only [nc] at *); omega))
    have k2 : P.leP k (P.slen s) := leI hP (by rw [hsp]; ((try simp only [nc] at *); omega))
    have k3 : P.leP (P.slen s) (P.slen s) := leI hP (Int.le_refl _)
    have k4 : P.i64 (P.add k 1) := by rw [add_eq hP]; exact i64I hP (by ((try simp only [nc] at *); omega))
    have k5 : P.add k 1 = ((i + 1 : Nat) : Int) := by rw [add_eq hP, hk]; ((try simp only [nc] at *); omega)
    have e1 : P.ssub s k (P.slen s) = s.drop i := by
      rw [hsp, hk]; subst hP
      show (s.take ((s.length : Int)).toNat).drop i = _
      rw [Int.toNat_natCast, List.take_length]
    have c1 := h1 (P.ssub s k (P.slen s))
    have hw : pF (P.ssub s k (P.slen s)) = isAt s t i := by rw [hpF, e1]; rfl
    have f4 : P.neP rows c := by subst hP; show rows.length = c; rw [hrows, hc]; simp [iRows]
    have f5 : ∀ r, P.bytes (P.add (P.int c) (P.rlen [r])) 8 := by intro r; subst hP; show ((c : Int) + 1) * 8 ≤ _; rw [hc]; ((try simp only [nc] at *); omega)
    have f6 : ∀ r, P.neP [r] 1 := by intro r; subst hP; rfl
    have f7 : P.rapp rows [[.int .i64 k]] = iRows (posF s t i ++ [(i : Int)]) := by rw [hrows, hk]; subst hP; simp [std, iRows]
    have f8 : ∀ r : List V, P.nadd c (P.rlenN [r]) = (posF s t i ++ [(i : Int)]).length := by intro r; rw [hc]; subst hP; simp [std]
    have hp := posF_succ s t i
    clear h1 g
    cbv
    refine ⟨k0, k2, k3, ?_⟩
    refine c1 _ _ ?_
    clear c1
    generalize pF (P.ssub s k (P.slen s)) = w at hw ⊢
    cbv
    refine br_cases (fun g => ?_) (fun g => ?_)
    · rw [if_pos (hw.symm.trans g)] at hp
      rw [← hp] at f7 f8
      cbv
      repeat' (first
        | (refine And.intro (by first | assumption | exact f6 _ | exact f5 _) ?_; try cbv)
        | (intro β; try cbv))
      exact ⟨_, Ent.refl _, ⟨i + 1, _, _, _, _, hi2, k5, f7, f8 _⟩, ⟨rfl, rfl, rfl, rfl, rfl, trivial⟩, ⟨rfl, trivial⟩, by show s.length - (i + 1) < s.length - i; omega⟩
    · rw [if_neg (by rw [← hw, g]; decide)] at hp
      rw [← hp] at hrows hc
      cbv
      repeat' (first
        | (refine And.intro (by first | assumption | exact f6 _ | exact f5 _) ?_; try cbv)
        | (intro β; try cbv))
      exact ⟨_, Ent.refl _, ⟨i + 1, _, _, _, _, hi2, k5, hrows, hc⟩, ⟨rfl, rfl, rfl, rfl, rfl, trivial⟩, ⟨rfl, trivial⟩, by show s.length - (i + 1) < s.length - i; omega⟩
  · have h6 : ¬ k < P.slen s := lt_f hP g
    rw [hsp] at h6
    have hie : i = s.length := by ((try simp only [nc] at *); omega)
    cbv
    exact hR.2.1 _ _ _ _ _ _ _ (Ent.refl _) rfl rfl ⟨by rw [hc, hrr, hie]; simp [iRows], by rw [hrows, hrr, hie]⟩
theorem sp_finds (s t : List UInt8) (hs : s.length ≤ 1048576) : Spec Try.prog 26 [.str s, .str t] Hp.emp (Is (.sl false 1 (iRows (posF s t s.length)))) :=
  spec_frz dOk ok_finds fun R hR => vc_finds std rfl _ _ s t hs (fun x => pfxF x t) (fun _ => rfl) (fun x => ansSame (sp_hp1 x t) rfl rfl) _ rfl R (retSl_of (iRows_sz _) (iRows_fz _) (by simp) hR)
theorem sp_find (s t : List UInt8) (hs : s.length ≤ 1048576) (ht : t.length ≤ 1048576) : Spec Try.prog 24 [.str s, .str t] Hp.emp (Is (.tup [.sl false 1 (iRows (findF s t).1), .int .i64 (findF s t).2])) :=
  spec_frz dOk ok_find fun R hR => vc_find std rfl _ _ s t hs ht hashL (fun _ => rfl) (fun s hs => ansP (sp_hof s hs) (fun _ => args_plain rfl) rfl) (pwr (t.length - 1)) rfl
    (fun h k hk => by
      have h0 : 0 < t.length := List.length_pos_iff.2 h
      have hk2 : k = ((t.length - 1 : Nat) : Int) := by omega
      rw [hk2]
      exact ansP (sp_pow (t.length - 1) (by omega)) (fun _ => args_plain rfl) rfl) (findF s t).1 (findF s t).2 rfl _ rfl R
    fun x hx => by subst hx; exact retSl_of (iRows_sz _) (iRows_fz _) (int_fz _) hR
/-! the law -/
def ac_lfi : AC := .seq (.region false [
    ⟨some 4, none, .mov (.c (.bool false))⟩])
  (.seq (.region false [
    ⟨some 8, none, .mov (.t 0)⟩,
    ⟨some 9, none, .mov (.t 1)⟩,
    ⟨some 10, none, .call 24 [(.t 8), (.t 9)]⟩,
    ⟨some 7, none, .mov (.t 10)⟩,
    ⟨some 11, none, .ext 0 (.t 7)⟩,
    ⟨some 12, none, .ext 1 (.t 7)⟩,
    ⟨some 5, none, .mov (.t 11)⟩,
    ⟨some 6, none, .mov (.t 12)⟩])
  (.seq (.seq (.region false [
    ⟨some 13, none, .mov (.t 1)⟩,
    ⟨some 14, none, .bin .eql (.t 13) (.c (.string ⟨#[]⟩))⟩])
  (.cond (.t 14)
    (.seq (.region false [
      ⟨some 15, none, .mov (.t 6)⟩,
      ⟨some 16, none, .bin .eql (.t 15) (.c (.int .i64 1))⟩,
      ⟨some 17, none, .mov (.t 16)⟩,
      ⟨some 18, some (17, true), .mov (.t 5)⟩,
      ⟨some 19, some (17, true), .len false (.t 18)⟩,
      ⟨some 20, some (17, true), .bin .eql (.t 19) (.c (.int .i64 0))⟩,
      ⟨some 21, none, .pick (.t 17) (.t 20) (.c (.bool false))⟩,
      ⟨some 4, none, .mov (.t 21)⟩])
    (.ret))
    (.skip)))
  (.seq (.region false [
    ⟨some 22, none, .mov (.t 6)⟩,
    ⟨some 23, none, .bin .eql (.t 22) (.c (.int .i64 0))⟩,
    ⟨some 24, none, .mov (.t 23)⟩,
    ⟨some 25, some (24, true), .mov (.t 5)⟩,
    ⟨some 26, some (24, true), .mov (.t 0)⟩,
    ⟨some 27, some (24, true), .mov (.t 1)⟩,
    ⟨some 28, some (24, true), .call 26 [(.t 26), (.t 27)]⟩,
    ⟨some 29, some (24, true), .call 25 [(.t 25), (.t 28)]⟩,
    ⟨some 30, none, .pick (.t 24) (.t 29) (.c (.bool false))⟩,
    ⟨some 4, none, .mov (.t 30)⟩])
  (.ret))))
theorem ok_lfi : FnOk Try.prog 6 Try.f6 ac_lfi [.t 4] 2 drawD := ⟨Try.func6, by decide +kernel, by kernel_rfl, by kernel_rfl, by decide +kernel⟩
theorem vc_lfi (P : Prim) (hP : P = std) (T T1 : CallT) (s t : List UInt8) (r1 r2 : List (List V)) (e : Int) (h1 : Ans T 24 [.str s, .str t] (.tup [.sl false 1 r1, .int .i64 e])) (hb : t = [] → r1 = [] ∧ e = 1) (hg : t ≠ [] → r1 = r2 ∧ e = 0)
    (h2 : Ans T 26 [.str s, .str t] (.sl false 1 r2)) (h3 : Ans T 25 [.sl false 1 r2, .sl false 1 r2] (.bool true))
    (R : S → Prop) (hR : ∀ s s' b, b = true → Ent s s' → Ret [.t 4] [.bool b] s' → R s) : awp P T T1 ac_lfi (S0 [.str s, .str t] Hp.emp) R (fun _ _ => False) R := by
  cbv
  refine h1 _ _ ?_
  cbv
  by_cases h0 : t = []
  · obtain ⟨g1, g2⟩ := hb h0
    have g3 : P.rlen r1 = 0 := by rw [rlen_eq hP, g1]; rfl
    refine br_tt (seq_T hP h0) ?_
    cbv
    refine br_tt (eq_T hP g2) ?_
    cbv
    exact hR _ _ _ (eq_T hP g3) (Ent.refl _) rfl
  · obtain ⟨g1, g2⟩ := hg h0
    subst g1
    refine br_ff (seq_F hP h0) ?_
    cbv
    refine br_tt (eq_T hP g2) ?_
    cbv
    refine h2 _ _ ?_
    cbv
    refine h3 _ _ ?_
    cbv
    exact hR _ _ _ rfl (Ent.refl _) rfl
theorem sp_law_hashFinds (s t : List UInt8) (hs : s.length ≤ 1048576) (ht : t.length ≤ 1048576) : Spec Try.prog 6 [.str s, .str t] Hp.emp (Is (.bool true)) :=
  spec_pure dOk ok_lfi [.bool true] (.bool _) fun R hR => vc_lfi std rfl _ _ s t (iRows (findF s t).1) (iRows (posF s t s.length)) (findF s t).2 (ansSame (sp_find s t hs ht) rfl rfl)
    (fun h => by unfold findF; rw [if_pos h]; exact ⟨rfl, rfl⟩) (fun h => by unfold findF; rw [if_neg h]; exact ⟨rfl, rfl⟩) (ansSame (sp_finds s t hs) rfl rfl) (ansEqi _ (by have := posF_len s t s.length; omega))
    R fun s s' b h he hr => by subst h; exact hR s s' he hr
end Go.Proofs.Ytlomnjlfmbolkaa.AM
