/-
  The document's delta of places: its inner function.
-/
import Derived.Test.YtdmpbdmgaepndaaMPl
set_option linter.unusedVariables false
set_option linter.unusedSimpArgs false
namespace Go.Proofs.Ytdmpbdmgaepndaa.AM
open Go
set_option maxRecDepth 100000
set_option maxHeartbeats 2000000
/-! how large a delta being made may be -/
structure Mk.Bd (m : Mk) (j w : Nat) : Prop where
  len : m.out.length ≤ 3 * j
  cut : 0 ≤ m.cut ∧ m.cut ≤ j
  ns : ∀ p ∈ m.out, 0 ≤ p.n ∧ p.n ≤ j
  put : m.put.length ≤ w
theorem Mk.bd_new : Mk.new.Bd 0 0 := ⟨by simp [Mk.new], by simp [Mk.new], by simp [Mk.new], by simp [Mk.new]⟩
theorem Mk.Bd.doPut {m : Mk} {j w : Nat} (h : m.Bd j w) (s : List UInt8) : (m.doPut s).Bd j (w + s.length) := ⟨h.len, h.cut, h.ns, by have := h.put; simp [Mk.doPut]; omega⟩
theorem Mk.Bd.doCut {m : Mk} {j w : Nat} (h : m.Bd j w) (n : Int) (hn : 0 ≤ n) : (m.doCut n).Bd (j + n.toNat) w :=
  ⟨by have := h.len; simp only [Mk.doCut]; omega, by have := h.cut; simp only [Mk.doCut]; omega, fun p hp => by have := h.ns p hp; omega, h.put⟩
theorem Mk.Bd.flush {m : Mk} {j w : Nat} (h : m.Bd j w) : m.flush.length ≤ 3 * j + 2 ∧ ∀ p ∈ m.flush, 0 ≤ p.n ∧ p.n ≤ j := by
  have h1 := h.len
  have h2 := h.cut
  refine ⟨?_, fun p hp => ?_⟩
  · unfold Mk.flush
    split <;> split <;> simp <;> omega
  · unfold Mk.flush at hp
    rw [List.mem_append, List.mem_append] at hp
    rcases hp with (hp | hp) | hp
    · exact h.ns p hp
    · split at hp
      · cases hp
      · simp at hp; subst hp; simp
    · split at hp
      · simp at hp; subst hp; exact h2
      · cases hp
theorem Mk.Bd.doKeep {m : Mk} {j w : Nat} (h : m.Bd j w) (n : Int) (hn : 0 ≤ n) : (m.doKeep n).Bd (j + n.toNat) w := by
  unfold Mk.doKeep
  by_cases h0 : n = 0
  · subst h0; simpa using h
  rw [if_neg h0]
  obtain ⟨h1, h2⟩ := h.flush
  refine ⟨?_, by simp; omega, fun p hp => ?_, by simp⟩
  · simp only [addKeep]
    split
    · split
      · simp; omega
      · simp; omega
    · simp; omega
  · simp only [addKeep] at hp
    split at hp
    · rename_i q hq
      split at hp
      · rcases List.mem_append.1 hp with hp | hp
        · have := h2 p ((List.dropLast_sublist _).mem hp); omega
        · simp at hp; subst hp
          have := h2 q (List.mem_of_getLast? hq)
          simp only; omega
      · rcases List.mem_append.1 hp with hp | hp
        · have := h2 p hp; omega
        · simp at hp; subst hp; simp only; omega
    · simp at hp; subst hp; simp only; omega
theorem Mk.Bd.mono {m : Mk} {j w j' w' : Nat} (h : m.Bd j w) (hj : j ≤ j') (hw : w ≤ w') : m.Bd j' w' :=
  ⟨by have := h.len; omega, by have := h.cut; omega, fun p hp => by have := h.ns p hp; omega, by have := h.put; omega⟩

/-! the inner function: what waits is laid down -/
def hGap (b0 b1 b2 : Nat) (ba : Option Nat) (n : Nat) (put : List UInt8) (cut : Int) (rows : List (List V)) : List (Nat × Ob) :=
  [(0, ⟨some b0, 9, 1, [[.str put]]⟩), (1, ⟨some b1, 55, 1, [[.own 1000000 ba 3 n]]⟩), (2, ⟨some b2, 3, 1, [[.int .i64 cut]]⟩), (1000000, ⟨ba, 132, 3, rows⟩)]
def ac_gap : AC := .seq (.seq (.region false [
    ⟨some 3, none, .load1 (.t 0)⟩,
    ⟨some 4, none, .bin .neq (.t 3) (.c (.string ⟨#[]⟩))⟩])
  (.cond (.t 4)
    (.region false [
      ⟨some 5, none, .load1 (.t 1)⟩,
      ⟨some 6, none, .load1 (.t 0)⟩,
      ⟨some 7, none, .build [(.int .i64 0), (.int .i64 0), (.string ⟨#[]⟩)] [(0, 1, (.c (.int .i64 2))), (2, 1, (.t 6))]⟩,
      ⟨some 8, none, .bslice 132 3 [(.t 7)]⟩,
      ⟨some 9, none, .append 132 3 32 (.t 5) (.t 8)⟩,
      ⟨none, none, .store 1 (.t 1) (.t 9)⟩])
    (.skip)))
  (.seq (.seq (.region false [
    ⟨some 10, none, .load1 (.t 2)⟩,
    ⟨some 11, none, .bin .gtr (.t 10) (.c (.int .i64 0))⟩])
  (.cond (.t 11)
    (.region false [
      ⟨some 12, none, .load1 (.t 1)⟩,
      ⟨some 13, none, .load1 (.t 2)⟩,
      ⟨some 14, none, .build [(.int .i64 0), (.int .i64 0), (.string ⟨#[]⟩)] [(0, 1, (.c (.int .i64 3))), (1, 1, (.t 13))]⟩,
      ⟨some 15, none, .bslice 132 3 [(.t 14)]⟩,
      ⟨some 16, none, .append 132 3 32 (.t 12) (.t 15)⟩,
      ⟨none, none, .store 1 (.t 1) (.t 16)⟩])
    (.skip)))
  (.region false [
    ⟨none, none, .store 1 (.t 0) (.c (.string ⟨#[]⟩))⟩,
    ⟨none, none, .store 1 (.t 2) (.c (.int .i64 0))⟩]))
theorem ok_gap : FnOk Try.prog 127 Try.f127 ac_gap [] 3 drawD := ⟨Try.func127, by decide +kernel, by kernel_rfl, by kernel_rfl, by decide +kernel⟩
theorem vc_gap (P : Prim) (hP : P = std) (T T1 : CallT) (b0 b1 b2 : Nat) (ba : Option Nat) (n : Nat) (put : List UInt8) (cut : Int) (rows : List (List V)) (m : Mk) (hn : n = m.out.length) (hrows : rows = m.out.map encPart) (hput : put = m.put) (hcut : cut = m.cut) (hbd : m.out.length ≤ 10000000)
    (R : S → Prop) (hR : ∀ (s s' : S) (ba' : Option Nat) (n2 : Nat) (rows2 : List (List V)), Ent s s' → agreeH (hGap b0 b1 b2 ba' n2 [] 0 rows2) s' → n2 = m.flush.length ∧ rows2 = m.flush.map encPart → R s) :
    awp P T T1 ac_gap (S0 [.ptr 0 (some b0) 1 0 0, .ptr 1 (some b1) 1 0 0, .ptr 2 (some b2) 1 0 0] (lookH (hGap b0 b1 b2 ba n put cut rows))) R (fun _ _ => False) R := by
  cbv
  repeat' (first | (intro β; try cbv) | (refine And.intro (by assumption) ?_; try cbv) | (refine br_cases (fun h => ?_) (fun h => ?_) <;> try cbv) | (refine Exists.intro _ (And.intro (by assumption) ?_); try cbv) | (refine hc1 _ _ ?_; try cbv) | (refine hc2 _ _ ?_; try cbv) | (refine hc3 _ _ ?_; try cbv) | (refine hc4 _ _ ?_; try cbv) | (refine hc5 _ _ ?_; try cbv) | (refine hc6 _ _ ?_; try cbv) | (refine And.intro (by (clear hR; subst hP; simp [std, I64, nc] at * <;> first | omega | grind)) ?_; try cbv))
  all_goals
    refine hR _ _ _ _ _ (Ent.refl _) ⟨rfl, rfl, rfl, rfl, trivial⟩ ?_
    clear hR; subst hP; subst hn hrows hput hcut; simp [std, nc, Mk.flush] at *
    try simp [*]
    try exact ⟨rfl, rfl⟩
    try rfl
theorem hGap_fz {b0 b1 b2 : Nat} {ba : Option Nat} {n : Nat} {put : List UInt8} {cut : Int} {d : List Part} : ∀ p ∈ hGap b0 b1 b2 ba n put cut (d.map encPart), p.2.Fz := by
  intro p hp
  simp only [hGap, List.mem_cons, List.not_mem_nil, or_false] at hp
  rcases hp with rfl | rfl | rfl | rfl
  · intro r hr v hv; simp at hr; subst hr; simp at hv; subst hv; exact .str _
  · intro r hr v hv; simp at hr; subst hr; simp at hv; subst hv; exact .own _ _ _ _
  · intro r hr v hv; simp at hr; subst hr; simp at hv; subst hv; exact .int _ _
  · exact encParts_fz d
theorem sp_gap (b0 b1 b2 : Nat) (ba : Option Nat) (m : Mk) (hbd : m.out.length ≤ 10000000) :
    Spec Try.prog 127 [.ptr 0 (some b0) 1 0 0, .ptr 1 (some b1) 1 0 0, .ptr 2 (some b2) 1 0 0] (lookH (hGap b0 b1 b2 ba m.out.length m.put m.cut (m.out.map encPart)))
      (fun v h' => ∃ L', (v = .tup [] ∧ ∃ ba', L' = hGap b0 b1 b2 ba' m.flush.length [] 0 (m.flush.map encPart)) ∧ h' = lookH L') :=
  spec_meth dOk ok_gap (fun v L' => v = .tup [] ∧ ∃ ba', L' = hGap b0 b1 b2 ba' m.flush.length [] 0 (m.flush.map encPart)) fun R hR => vc_gap std rfl _ _ b0 b1 b2 ba _ _ _ _ m rfl rfl rfl rfl hbd R fun s s' ba' n2 rows2 he ha h2 => by
    obtain ⟨rfl, rfl⟩ := h2
    exact hR s s' (.tup []) _ he rfl ha (.tup _ (by simp)) hGap_fz ⟨rfl, ba', rfl⟩
/-- the inner function is called -/
def GapCall (T : CallT) : Prop := ∀ (b3 b4 b5 : Nat) (ba : Option Nat) (n : Nat) (put : List UInt8) (cut : Int) (rows : List (List V)) (m : Mk) (h : Hp) (K : V → Hp → Prop), n = m.out.length ∧ rows = m.out.map encPart ∧ put = m.put ∧ cut = m.cut → m.out.length ≤ 10000000 →
  h 4 = some ⟨some b4, 9, 1, [[.str put]]⟩ → h 3 = some ⟨some b3, 55, 1, [[.own 1000057 ba 3 n]]⟩ → h 5 = some ⟨some b5, 3, 1, [[.int .i64 cut]]⟩ → h 1000057 = some ⟨ba, 132, 3, rows⟩ →
  (∀ (ba' : Option Nat) (n' : Nat) (rows' : List (List V)), n' = m.flush.length ∧ rows' = m.flush.map encPart → K (.tup []) (Hp.put (Hp.put (Hp.put (Hp.put h 4 ⟨some b4, 9, 1, [[.str []]]⟩) 3 ⟨some b3, 55, 1, [[.own 1000057 ba' 3 n']]⟩) 5 ⟨some b5, 3, 1, [[.int .i64 0]]⟩) 1000057 ⟨ba', 132, 3, rows'⟩)) →
  T 127 [.ptr 4 (some b4) 1 0 0, .ptr 3 (some b3) 1 0 0, .ptr 5 (some b5) 1 0 0] h K
theorem gapCall : GapCall (CallE Try.prog) := by
  rintro b3 b4 b5 ba n put cut rows m h K ⟨rfl, rfl, rfl, rfl⟩ hbd h4 h3 h5 ha hK
  refine callG (sp_gap b4 b3 b5 ba m hbd) (m := [(0, 4), (1, 3), (2, 5), (1000000, 1000057)]) (.cons (.same _) (.cons (.same _) (.cons (.same _) .nil))) (fun j o hj => ?_) (fun q hq => ?_) ?_
  · simp only [hGap, lookH] at hj
    split at hj
    · rename_i h0; exact ⟨(0, 4), by simp, h0.symm⟩
    split at hj
    · rename_i h0; exact ⟨(1, 3), by simp, h0.symm⟩
    split at hj
    · rename_i h0; exact ⟨(2, 5), by simp, h0.symm⟩
    split at hj
    · rename_i h0; exact ⟨(1000000, 1000057), by simp, h0.symm⟩
    · cases hj
  · simp only [List.mem_cons, List.not_mem_nil, or_false] at hq
    rcases hq with rfl | rfl | rfl | rfl
    all_goals refine ⟨by simp [lab], by simp [bal], fun o ho => ⟨?_, hGap_fz (b0 := b4) (b1 := b3) (b2 := b5) (ba := ba) (n := m.out.length) (put := m.put) (cut := m.cut) (d := m.out) (_, o) (mem_of_lookH ho)⟩⟩
    all_goals simp [hGap, lookH] at ho; subst ho
    · rw [h4]; rfl
    · rw [h3]; rfl
    · rw [h5]; rfl
    · rw [ha]; simp only [Option.map_some, Ob.ren, ren_parts]
  · rintro v L' ⟨rfl, ba', rfl⟩
    have e : h.upd [(0, 4), (1, 3), (2, 5), (1000000, 1000057)] (lookH (hGap b4 b3 b5 ba' m.flush.length [] 0 (m.flush.map encPart))) = Hp.put (Hp.put (Hp.put (Hp.put h 4 ⟨some b4, 9, 1, [[.str []]]⟩) 3 ⟨some b3, 55, 1, [[.own 1000057 ba' 3 m.flush.length]]⟩) 5 ⟨some b5, 3, 1, [[.int .i64 0]]⟩) 1000057 ⟨ba', 132, 3, m.flush.map encPart⟩ := by
      funext i
      by_cases h1 : i = 1000057
      · subst h1; simp [Hp.upd, Hp.put, bal, hGap, lookH]; simp only [Ob.ren, ren_parts]
      by_cases h2 : i = 5
      · subst h2; simp [Hp.upd, Hp.put, bal, hGap, lookH, Ob.ren, V.rl]
      by_cases h3 : i = 3
      · subst h3; simp [Hp.upd, Hp.put, bal, hGap, lookH, Ob.ren, V.rl, lab]
      by_cases h4 : i = 4
      · subst h4; simp [Hp.upd, Hp.put, bal, hGap, lookH, Ob.ren, V.rl]
      have g1 : ¬ 1000057 = i := fun e => h1 e.symm
      have g2 : ¬ 5 = i := fun e => h2 e.symm
      have g3 : ¬ 3 = i := fun e => h3 e.symm
      have g4 : ¬ 4 = i := fun e => h4 e.symm
      simp [Hp.upd, Hp.put, h1, h2, h3, h4, g1, g2, g3, g4]
    rw [e]
    exact hK ba' _ _ ⟨rfl, rfl⟩

/-! a delta of places -/
structure YPd (ps : List (List UInt8)) (ks : List Bool) where
  k : Int
  m : Mk
  n : Nat
  put : List UInt8
  cut : Int
  rows : List (List V)
  ba : Option Nat
  pre1 : List (List UInt8)
  rest1 : List (List UInt8)
  pre2 : List Bool
  rest2 : List Bool
  h1 : ps = pre1 ++ rest1
  h2 : ks = pre2 ++ rest2
  hl : pre1.length = pre2.length
  hk : k = pre1.length
  hm : n = m.out.length ∧ rows = m.out.map encPart ∧ put = m.put ∧ cut = m.cut
  hrun : plRun Mk.new ps ks = plRun m rest1 rest2
  hbd : m.Bd pre1.length pre1.flatten.length
def ac_pd : AC := .seq (.region false [
    ⟨some 1, none, .box 142 2 (.t 0)⟩,
    ⟨some 2, none, .mov (.c (.slice none 0 0))⟩])
  (.seq (.region false [
    ⟨some 3, none, .alloc 55 [(.slice none 0 0)]⟩])
  (.seq (.region false [
    ⟨some 4, none, .alloc 9 [(.string ⟨#[]⟩)]⟩,
    ⟨some 5, none, .alloc 3 [(.int .i64 0)]⟩,
    ⟨none, none, .store 1 (.t 4) (.c (.string ⟨#[]⟩))⟩,
    ⟨none, none, .store 1 (.t 5) (.c (.int .i64 0))⟩])
  (.seq (.region false [
    ⟨some 10, none, .mkfn 127 [(.t 4), (.t 3), (.t 5)]⟩,
    ⟨some 6, none, .mov (.t 10)⟩])
  (.seq (.seq (.region false [
    ⟨some 11, none, .faddr 1 (.t 1)⟩,
    ⟨some 12, none, .load1 (.t 11)⟩,
    ⟨some 13, none, .len false (.t 12)⟩,
    ⟨some 14, none, .mov (.c (.int .i64 0))⟩])
  (.block 0 (.loop (.seq (.region false [
      ⟨some 15, none, .bin .lss (.t 14) (.t 13)⟩])
    (.seq (.cond (.t 15)
      (.skip)
      (.exit 0))
    (.seq (.block 1 (.seq (.region false [
      ⟨some 16, none, .mov (.t 14)⟩,
      ⟨some 17, none, .iaddr 1 (.t 12) (.t 14)⟩,
      ⟨some 18, none, .load1 (.t 17)⟩,
      ⟨some 7, none, .mov (.t 16)⟩,
      ⟨some 8, none, .mov (.t 18)⟩])
    (.seq (.region true [
      ⟨some 19, none, .load1 (.t 4)⟩,
      ⟨some 20, none, .faddr 0 (.t 1)⟩,
      ⟨some 21, none, .load1 (.t 20)⟩,
      ⟨some 22, none, .mov (.t 7)⟩,
      ⟨some 23, none, .iaddr 1 (.t 21) (.t 22)⟩,
      ⟨some 24, none, .load1 (.t 23)⟩,
      ⟨some 25, none, .bin .add (.t 19) (.t 24)⟩,
      ⟨none, none, .store 1 (.t 4) (.t 25)⟩])
    (.seq (.seq (.region false [
      ⟨some 26, none, .mov (.t 8)⟩,
      ⟨some 27, none, .not (.t 26)⟩])
    (.cond (.t 27)
      (.seq (.region false [
        ⟨some 28, none, .load1 (.t 5)⟩,
        ⟨some 29, none, .bin .add (.t 28) (.c (.int .i64 1))⟩,
        ⟨none, none, .store 1 (.t 5) (.t 29)⟩])
      (.exit 1))
      (.skip)))
    (.seq (.region false [
      ⟨some 30, none, .mov (.t 6)⟩,
      ⟨some 31, none, .callv (.t 30) []⟩])
    (.seq (.region false [
      ⟨some 32, none, .load1 (.t 3)⟩,
      ⟨some 33, none, .len false (.t 32)⟩,
      ⟨some 9, none, .mov (.t 33)⟩])
    (.seq (.region false [
      ⟨some 34, none, .mov (.t 9)⟩,
      ⟨some 35, none, .bin .gtr (.t 34) (.c (.int .i64 0))⟩,
      ⟨some 36, none, .mov (.t 35)⟩,
      ⟨some 37, some (36, true), .load1 (.t 3)⟩,
      ⟨some 38, some (36, true), .mov (.t 9)⟩,
      ⟨some 39, some (36, true), .bin .sub (.t 38) (.c (.int .i64 1))⟩,
      ⟨some 40, some (36, true), .iaddr 3 (.t 37) (.t 39)⟩,
      ⟨some 41, some (36, true), .faddr 0 (.t 40)⟩,
      ⟨some 42, some (36, true), .load1 (.t 41)⟩,
      ⟨some 43, some (36, true), .bin .eql (.t 42) (.c (.int .i64 1))⟩,
      ⟨some 44, none, .pick (.t 36) (.t 43) (.c (.bool false))⟩])
    (.cond (.t 44)
      (.region false [
        ⟨some 45, none, .load1 (.t 3)⟩,
        ⟨some 46, none, .mov (.t 9)⟩,
        ⟨some 47, none, .bin .sub (.t 46) (.c (.int .i64 1))⟩,
        ⟨some 48, none, .iaddr 3 (.t 45) (.t 47)⟩,
        ⟨some 49, none, .faddr 1 (.t 48)⟩,
        ⟨some 50, none, .load1 (.t 49)⟩,
        ⟨some 51, none, .bin .add (.t 50) (.c (.int .i64 1))⟩,
        ⟨some 52, none, .iaddr 3 (.t 45) (.t 47)⟩,
        ⟨some 53, none, .faddr 1 (.t 52)⟩,
        ⟨none, none, .store 1 (.t 53) (.t 51)⟩])
      (.region false [
        ⟨some 54, none, .load1 (.t 3)⟩,
        ⟨some 55, none, .build [(.int .i64 0), (.int .i64 0), (.string ⟨#[]⟩)] [(0, 1, (.c (.int .i64 1))), (1, 1, (.c (.int .i64 1)))]⟩,
        ⟨some 56, none, .bslice 132 3 [(.t 55)]⟩,
        ⟨some 57, none, .append 132 3 32 (.t 54) (.t 56)⟩,
        ⟨none, none, .store 1 (.t 3) (.t 57)⟩])))))))))
    (.region false [
      ⟨some 58, none, .bin .add (.t 14) (.c (.int .i64 1))⟩,
      ⟨some 14, none, .mov (.t 58)⟩])))))))
  (.seq (.region true [
    ⟨some 59, none, .load1 (.t 4)⟩,
    ⟨some 60, none, .faddr 0 (.t 1)⟩,
    ⟨some 61, none, .load1 (.t 60)⟩,
    ⟨some 62, none, .faddr 1 (.t 1)⟩,
    ⟨some 63, none, .load1 (.t 62)⟩,
    ⟨some 64, none, .len false (.t 63)⟩,
    ⟨some 65, none, .iaddr 1 (.t 61) (.t 64)⟩,
    ⟨some 66, none, .load1 (.t 65)⟩,
    ⟨some 67, none, .bin .add (.t 59) (.t 66)⟩,
    ⟨none, none, .store 1 (.t 4) (.t 67)⟩])
  (.seq (.region false [
    ⟨some 68, none, .mov (.t 6)⟩,
    ⟨some 69, none, .callv (.t 68) []⟩])
  (.seq (.region false [
    ⟨some 70, none, .load1 (.t 3)⟩,
    ⟨some 2, none, .mov (.t 70)⟩])
  (.ret))))))))
theorem ok_pd : FnOk Try.prog 106 Try.f106 ac_pd [.t 2] 1 drawD := ⟨Try.func106, by decide +kernel, by kernel_rfl, by kernel_rfl, by decide +kernel⟩
theorem vc_pd (P : Prim) (hP : P = std) (T T1 : CallT) (ps : List (List UInt8)) (ks : List Bool) (hlen : ps.length = ks.length + 1) (hb1 : ks.length ≤ 1000000) (hb2 : ps.flatten.length ≤ 1000000000) (pr kr : List (List V)) (hpr : pr = strRows ps) (hkr : kr = boolRows ks) (hgap : GapCall T)
    (R : S → Prop) (hR : ∀ (s s' : S) (ba' : Option Nat) (n2 : Nat) (rows2 : List (List V)), Ent s s' → Ret [.t 2] [.own 1000057 ba' 3 n2] s' → s'.h 1000057 = some ⟨ba', 132, 3, rows2⟩ → n2 = (plRun Mk.new ps ks).flush.length ∧ rows2 = (plRun Mk.new ps ks).flush.map encPart → R s) :
    awp P T T1 ac_pd (S0 [.agg [.sl true 1 pr, .sl true 1 kr]] Hp.emp) R (fun _ _ => False) R := by
  have hklen : P.rlen kr = ks.length := by subst hP; simp [std, hkr, boolRows]
  cbv
  intro β1
  cbv
  intro β3
  cbv
  intro β4
  cbv
  intro β5
  cbv
  refine ⟨YPd ps ks, fun y => [(1, .ptr 1 (some β1) 2 0 0), (3, .ptr 3 (some β3) 1 0 0), (4, .ptr 4 (some β4) 1 0 0), (5, .ptr 5 (some β5) 1 0 0), (6, .fn 127 [.ptr 4 (some β4) 1 0 0, .ptr 3 (some β3) 1 0 0, .ptr 5 (some β5) 1 0 0]), (12, .sl true 1 kr), (13, .int .i64 (P.rlen kr)), (14, .int .i64 y.k)],
    fun y => [(1, ⟨some β1, 142, 2, [[.sl true 1 pr, .sl true 1 kr]]⟩), (4, ⟨some β4, 9, 1, [[.str y.put]]⟩), (3, ⟨some β3, 55, 1, [[.own 1000057 y.ba 3 y.n]]⟩), (5, ⟨some β5, 3, 1, [[.int .i64 y.cut]]⟩), (1000057, ⟨y.ba, 132, 3, y.rows⟩)], fun y => y.rest2.length,
    ⟨_, Ent.nilcell (k := 3) (k' := 1000057) (ty := 132) (sz := 3) (r := 0) (c := 0) rfl rfl rfl rfl, ⟨0, Mk.new, _, _, _, _, _, [], ps, [], ks, rfl, rfl, rfl, rfl, ⟨rfl, rfl, rfl, rfl⟩, rfl, Mk.bd_new⟩, ⟨rfl, rfl, rfl, rfl, rfl, rfl, rfl, rfl, trivial⟩, ⟨rfl, rfl, rfl, rfl, rfl, trivial⟩⟩, ?_⟩
  rintro ⟨k, m, n, put, cut, rows, ba, pre1, rest1, pre2, rest2, h1, h2, hl, hk, hm, hrun, hbd⟩
  have hrl : rest1.length = rest2.length + 1 := by rw [h1, h2] at hlen; simp at hlen; omega
  have hpl : pre1.length + rest2.length ≤ 1000000 := by rw [h2] at hb1; simp at hb1; omega
  rcases rest1 with _ | ⟨p, rest1⟩
  · simp at hrl
  have hfl : pre1.flatten.length + p.length ≤ 1000000000 := by rw [h1] at hb2; simp at hb2 ⊢; omega
  have hkr2 : P.rlen kr = pre2.length + rest2.length := by rw [hklen, h2]; simp
  have hrowp : P.row pr (P.nat k) [.str p] := by subst hP; simp [std, hpr, hk, strRows, h1]
  have hbd1 := (hbd.doPut p)
  have hputl := hbd.put
  obtain ⟨hm1, hm2, hm3, hm4⟩ := hm
  have ho1 : P.i64 (P.add (P.slen put) (P.slen p)) := by clear hR hgap; subst hP; simp only [std, I64, hm3]; omega
  have ho2 : P.leP 0 k := by clear hR hgap; subst hP; simp only [std]; omega
  have ho5 : P.i64 (P.add k 1) := by clear hR hgap; subst hP; simp only [std, I64]; omega
  cbv
  refine br_cases (fun h => ?_) (fun h => ?_)
  · rcases rest2 with _ | ⟨kb, rest2⟩
    · clear hgap; (exfalso; clear hR; subst hP; simp [std, nc] at *; first | omega | grind)
    have hrowk : P.row kr (P.nat k) [.bool kb] := by subst hP; simp [std, hkr, hk, boolRows, h2, hl]
    cbv
    refine ⟨ho2, _, hrowk, ?_⟩
    cbv
    refine ⟨ho2, _, hrowp, ?_⟩
    cbv
    refine ⟨ho1, ?_⟩
    cases kb
    · -- a byte is cut
      have hbd2 := hbd1.doCut 1 (by omega)
      have hcc := hbd.cut
      have ho6 : P.i64 (P.add cut 1) := by clear hR hgap; subst hP; simp only [std, I64, hm4]; omega
      cbv
      repeat' (first | (intro β; try cbv) | (refine And.intro (by assumption) ?_; try cbv) | (refine br_cases (fun h => ?_) (fun h => ?_) <;> try cbv) | (refine Exists.intro _ (And.intro (by assumption) ?_); try cbv) | (refine hc1 _ _ ?_; try cbv) | (refine hc2 _ _ ?_; try cbv) | (refine hc3 _ _ ?_; try cbv) | (refine hc4 _ _ ?_; try cbv) | (refine hc5 _ _ ?_; try cbv) | (refine hc6 _ _ ?_; try cbv) | (refine And.intro (by (clear hR; subst hP; simp [std, I64, nc] at * <;> first | omega | grind)) ?_; try cbv))
      all_goals
        refine ⟨_, Ent.refl _, ⟨_, (m.doPut p).doCut 1, _, _, _, _, _, pre1 ++ [p], rest1, pre2 ++ [false], rest2, by simp [h1], by simp [h2], by simp [hl], ?_, ?_, ?_, ?_⟩, ⟨rfl, rfl, rfl, rfl, rfl, rfl, rfl, rfl, trivial⟩, ⟨rfl, rfl, rfl, rfl, rfl, trivial⟩, by simp⟩
      all_goals (clear hR hgap ho1 ho2 ho5 ho6 hrowp hrowk; subst hP)
      · simp [std, hk]
      · exact ⟨hm1, hm2, by simp [std, Mk.doCut, Mk.doPut, hm3], by simp [std, Mk.doCut, Mk.doPut, hm4]⟩
      · rw [hrun]; simp [plRun]
      · simpa using hbd2
    · -- a byte is kept
      have hbd2 := hbd1.doKeep 1 (by omega)
      obtain ⟨hf1, hf2⟩ := hbd1.flush
      have hlen1 := hbd1.len
      cbv
      refine hgap _ _ _ _ _ _ _ _ (m.doPut p) _ _ ⟨hm1, hm2, ?_, hm4⟩ (by omega) rfl rfl rfl rfl fun ba' n' rows' hn' => ?_
      · clear hR hgap ho1 ho2 ho5 hrowp hrowk; subst hP; simp [std, Mk.doPut, hm3]
      obtain ⟨hn', hrows'⟩ := hn'
      cbv
      have ho7 : P.bytes (P.add (P.int n') (P.rlen [[.int .i64 1, .int .i64 1, .str []]])) 32 := by clear hR hgap; subst hP; simp [std]; omega
      have ho8 : P.neP rows' n' := by clear hR hgap; subst hP; simp [std, hn', hrows']
      rcases List.eq_nil_or_concat (m.doPut p).flush with hf | ⟨pre, ⟨qk, qn, qt⟩, hf⟩
      · refine br_cases (fun h => ?_) (fun h => ?_)
        · exfalso; clear hR hgap; subst hP; rw [hf] at hn'; simp [std, hn'] at h
        cbv
        repeat' (first | (intro β; try cbv) | (refine And.intro (by assumption) ?_; try cbv) | (refine br_cases (fun h => ?_) (fun h => ?_) <;> try cbv) | (refine Exists.intro _ (And.intro (by assumption) ?_); try cbv) | (refine hc1 _ _ ?_; try cbv) | (refine hc2 _ _ ?_; try cbv) | (refine hc3 _ _ ?_; try cbv) | (refine hc4 _ _ ?_; try cbv) | (refine hc5 _ _ ?_; try cbv) | (refine hc6 _ _ ?_; try cbv) | (refine And.intro (by (clear hR; subst hP; simp [std, I64, nc] at * <;> first | omega | grind)) ?_; try cbv))
        all_goals
          refine ⟨_, Ent.refl _, ⟨_, (m.doPut p).doKeep 1, _, _, _, _, _, pre1 ++ [p], rest1, pre2 ++ [true], rest2, by simp [h1], by simp [h2], by simp [hl], ?_, ?_, ?_, ?_⟩, ⟨rfl, rfl, rfl, rfl, rfl, rfl, rfl, rfl, trivial⟩, ⟨rfl, rfl, rfl, rfl, rfl, trivial⟩, by simp⟩
        all_goals (clear hR hgap ho1 ho2 ho5 hrowp hrowk ho7 ho8; subst hP)
        · simp [std, hk]
        · simp [std, hn', hrows', Mk.doKeep, hf, addKeep, encPart]
        · rw [hrun]; simp [plRun]
        · simpa using hbd2
      · rw [List.concat_eq_append] at hf
        have hq := hf2 ⟨qk, qn, qt⟩ (by rw [hf]; simp)
        have hq1 : qn ≤ (pre1.length : Int) := hq.2
        have hq0 : 0 ≤ qn := hq.1
        have hnn : n' = pre.length + 1 := by rw [hn', hf]; simp
        have hrow : P.row rows' (P.nat (P.sub (P.int n') 1)) [.int .i64 qk, .int .i64 qn, .str qt] := by clear hR hgap; subst hP; rw [hrows', hnn, hf]; simp [std, encPart]
        have hp1 : P.i64 (P.sub (P.int n') 1) := by clear hR hgap; subst hP; simp only [std, I64]; omega
        have hp2 : P.leP 0 (P.sub (P.int n') 1) := by clear hR hgap; subst hP; simp only [std]; omega
        have hp3 : P.ltP (P.sub (P.int n') 1) (P.int n') := by clear hR hgap; subst hP; simp only [std]; omega
        have hp4 : P.i64 (P.add qn 1) := by clear hR hgap; subst hP; simp only [std, I64]; omega
        refine br_cases (fun h => ?_) (fun h => ?_)
        rotate_left
        · exfalso; clear hR hgap; subst hP; simp [std, hnn] at h
        cbv
        repeat' (first | (intro β; try cbv) | (refine And.intro (by assumption) ?_; try cbv) | (refine br_cases (fun h => ?_) (fun h => ?_) <;> try cbv) | (refine Exists.intro _ (And.intro (by assumption) ?_); try cbv) | (refine hc1 _ _ ?_; try cbv) | (refine hc2 _ _ ?_; try cbv) | (refine hc3 _ _ ?_; try cbv) | (refine hc4 _ _ ?_; try cbv) | (refine hc5 _ _ ?_; try cbv) | (refine hc6 _ _ ?_; try cbv) | (refine And.intro (by (clear hR; subst hP; simp [std, I64, nc] at * <;> first | omega | grind)) ?_; try cbv))
        all_goals
          refine ⟨_, Ent.refl _, ⟨_, (m.doPut p).doKeep 1, _, _, _, _, _, pre1 ++ [p], rest1, pre2 ++ [true], rest2, by simp [h1], by simp [h2], by simp [hl], ?_, ?_, ?_, ?_⟩, ⟨rfl, rfl, rfl, rfl, rfl, rfl, rfl, rfl, trivial⟩, ⟨rfl, rfl, rfl, rfl, rfl, trivial⟩, by simp⟩
        all_goals (clear hR hgap ho1 ho2 ho5 hrowp hrowk ho7 ho8 hp1 hp2 hp3 hp4 hrow; subst hP)
        any_goals (simp [std, hk]; done)
        any_goals (rw [hrun]; simp [plRun]; done)
        any_goals (simpa using hbd2)
        all_goals (simp [std] at *; simp [hn', hrows', hnn, Mk.doKeep, hf, addKeep, encPart, *])
  · rcases rest2 with _ | ⟨kb, rest2⟩
    rotate_left
    · clear hgap; (exfalso; clear hR; subst hP; simp [std, nc] at *; first | omega | grind)
    have hre : rest1 = [] := by simpa using hrl
    subst hre
    have hfin : plRun Mk.new ps ks = m.doPut p := by rw [hrun]; rfl
    have hk2 : k = P.rlen kr := by rw [hkr2, hk, hl]; simp
    subst hk2
    have hlen1 := hbd1.len
    cbv
    refine ⟨ho2, _, hrowp, ?_⟩
    cbv
    refine ⟨ho1, ?_⟩
    refine hgap _ _ _ _ _ _ _ _ (m.doPut p) _ _ ⟨hm1, hm2, ?_, hm4⟩ (by omega) rfl rfl rfl rfl fun ba' n' rows' hn' => ?_
    · clear hR hgap ho1 ho2 ho5 hrowp; subst hP; simp [std, Mk.doPut, hm3]
    cbv
    exact hR _ _ _ _ _ (Ent.refl _) rfl rfl (by rw [hfin]; exact hn')
def plD (ps : List (List UInt8)) (ks : List Bool) : List Part := (plRun Mk.new ps ks).flush
theorem sp_pd (ps : List (List UInt8)) (ks : List Bool) (hlen : ps.length = ks.length + 1) (hb1 : ks.length ≤ 1000000) (hb2 : ps.flatten.length ≤ 1000000000) : Spec Try.prog 106 [.agg [.sl true 1 (strRows ps), .sl true 1 (boolRows ks)]] Hp.emp (Is (encParts (plD ps ks))) :=
  spec_frz dOk ok_pd fun R hR => vc_pd std rfl _ _ ps ks hlen hb1 hb2 _ _ rfl rfl gapCall R fun s s' ba' n2 rows2 he hr h1 h2 => hR s s' he (by
    obtain ⟨rfl, rfl⟩ := h2
    refine resV_mono _ _ _ (fun x hx => ?_) hr
    subst hx
    exact .rows h1 rfl rfl (by simp) (fun r hr => by obtain ⟨p, _, rfl⟩ := List.mem_map.1 hr; rfl) (encParts_fz _))
end Go.Proofs.Ytdmpbdmgaepndaa.AM
