/-
  What a slot says, read: hot.take, hot.head, hot.rev and the document's some. (Printed by gen_hotr.py.)
-/
import Derived.Test.YtobngncjflogcaaMHot
import Derived.Test.YtobngncjflogcaaMCode
import Derived.Test.YtobngncjflogcaaMScan2
set_option linter.unusedVariables false
set_option linter.unusedSimpArgs false
namespace Go.Proofs.Ytobngncjflogcaa.AM
open Go Go.RowKit
set_option maxRecDepth 100000
set_option maxHeartbeats 2000000
/-! the plain law -/
def tkF (st : List UInt8 × Bool) : (List UInt8 × Bool) × Int := if (getS st.1).2.2 ≠ 0 then ((st.1, false), 0) else ((st.1.drop (getS st.1).2.1.toNat, st.2), (getS st.1).1)
def tkS (s : List UInt8) : Nat → List UInt8 × Bool
  | 0 => (s, true)
  | n + 1 => (tkF (tkS s n)).1
def tkN (s : List UInt8) (i : Nat) : Int := (tkF (tkS s i)).2
theorem tkS_succ (s : List UInt8) (n : Nat) : tkS s (n + 1) = (tkF (tkS s n)).1 := rfl
theorem tkS_len (s : List UInt8) : ∀ n, (tkS s n).1.length ≤ s.length
  | 0 => Nat.le_refl _
  | n + 1 => by
    have ih := tkS_len s n
    rw [tkS_succ, tkF]
    split
    · exact ih
    · simp only [List.length_drop]; omega
theorem tkS_false (s : List UInt8) (n : Nat) : ∀ d, (tkS s n).2 = false → (tkS s (n + d)).2 = false
  | 0, h => h
  | d + 1, h => by
    have ih := tkS_false s n d h
    show (tkF (tkS s (n + d))).1.2 = false
    unfold tkF
    split
    · rfl
    · exact ih
theorem tkS_true {s : List UInt8} {n m : Nat} (h : (tkS s m).2 = true) (hn : n ≤ m) : (tkS s n).2 = true := by
  cases hb : (tkS s n).2 with
  | true => rfl
  | false =>
    have := tkS_false s n (m - n) hb
    rw [show n + (m - n) = m by omega, h] at this
    cases this
theorem tkN_bd (s : List UInt8) (i : Nat) : 0 ≤ tkN s i ∧ tkN s i ≤ 2147483647 := by
  unfold tkN tkF
  split
  · exact ⟨Int.le_refl 0, by show (0 : Int) ≤ _; decide⟩
  · rename_i h
    obtain ⟨k, _, _, _, _, h5, h6, _⟩ := getS_num (Decidable.of_not_not h)
    exact ⟨h5, h6⟩
theorem tk_bad {s : List UInt8} {n : Nat} (h : (getS (tkS s n).1).2.2 ≠ 0) : (tkS s (n + 1)).2 = false := by
  rw [tkS_succ, tkF, if_pos h]
theorem tk_ok {s : List UInt8} {n : Nat} (h : (getS (tkS s n).1).2.2 = 0) : tkS s (n + 1) = ((tkS s n).1.drop (getS (tkS s n).1).2.1.toNat, (tkS s n).2) ∧ tkN s n = (getS (tkS s n).1).1 := by
  rw [tkS_succ]; unfold tkN tkF; rw [if_neg (fun g => g h)]; exact ⟨rfl, rfl⟩
/-! take -/
def obS (b : Nat) (s : List UInt8) : Ob := ⟨some b, 9, 1, [[.str s]]⟩
def obB (b : Nat) (ok : Bool) : Ob := ⟨some b, 4, 1, [[.bool ok]]⟩
def ac_take : AC := .seq (.region false [
    ⟨some 4, none, .mov (.c (.int .i64 0))⟩])
  (.seq (.region false [
    ⟨some 9, none, .mov (.t 0)⟩,
    ⟨some 10, none, .nilchk (.t 9)⟩,
    ⟨some 11, none, .load1 (.t 10)⟩,
    ⟨some 12, none, .call 118 [(.t 11)]⟩,
    ⟨some 8, none, .mov (.t 12)⟩,
    ⟨some 13, none, .ext 0 (.t 8)⟩,
    ⟨some 14, none, .ext 1 (.t 8)⟩,
    ⟨some 15, none, .ext 2 (.t 8)⟩,
    ⟨some 5, none, .mov (.t 13)⟩,
    ⟨some 6, none, .mov (.t 14)⟩,
    ⟨some 7, none, .mov (.t 15)⟩])
  (.seq (.seq (.region false [
    ⟨some 16, none, .mov (.t 7)⟩,
    ⟨some 17, none, .bin .neq (.t 16) (.c (.int .i64 0))⟩])
  (.cond (.t 17)
    (.seq (.region false [
      ⟨some 18, none, .mov (.t 1)⟩,
      ⟨some 19, none, .nilchk (.t 18)⟩,
      ⟨none, none, .store 1 (.t 19) (.c (.bool false))⟩])
    (.seq (.region false [
      ⟨some 4, none, .mov (.c (.int .i64 0))⟩])
    (.ret)))
    (.skip)))
  (.seq (.region false [
    ⟨some 20, none, .mov (.t 0)⟩,
    ⟨some 21, none, .mov (.t 0)⟩,
    ⟨some 22, none, .nilchk (.t 21)⟩,
    ⟨some 23, none, .load1 (.t 22)⟩,
    ⟨some 24, none, .mov (.t 6)⟩,
    ⟨some 25, none, .slstr (.t 23) (some (.t 24)) none⟩,
    ⟨some 26, none, .nilchk (.t 20)⟩,
    ⟨none, none, .store 1 (.t 26) (.t 25)⟩])
  (.seq (.region false [
    ⟨some 27, none, .mov (.t 5)⟩,
    ⟨some 4, none, .mov (.t 27)⟩])
  (.ret)))))
theorem ok_take : FnOk Try.prog 99 Try.f99 ac_take [.t 4] 2 drawD := ⟨Try.func99, by decide +kernel, by kernel_rfl, by kernel_rfl, by decide +kernel⟩
theorem vc_take (P : Prim) (hP : P = std) (T T1 : CallT) (b b2 : Nat) (s : List UInt8) (ok : Bool) (n k e : Int) (h1 : Ans T 118 [.str s] (.tup [.int .i64 n, .int .i64 k, .int .i64 e])) (hk : e = 0 → 0 ≤ k ∧ k ≤ s.length)
    (s2 : List UInt8) (ok2 : Bool) (v : Int) (g1 : e ≠ 0 → s = s2 ∧ false = ok2 ∧ 0 = v) (g2 : e = 0 → s.drop k.toNat = s2 ∧ ok = ok2 ∧ n = v)
    (R : S → Prop) (hR : ∀ s0 s' x y z, x = s2 ∧ y = ok2 ∧ z = v → Ent s0 s' → resV s' [.t 4] (fun q => oneV q = .int .i64 z) → agreeH [(0, ⟨some b, 9, 1, [[.str x]]⟩), (1, ⟨some b2, 4, 1, [[.bool y]]⟩)] s' → R s0) :
    awp P T T1 ac_take (S0 [.ptr 0 (some b) 1 0 0, .ptr 1 (some b2) 1 0 0] (lookH [(0, ⟨some b, 9, 1, [[.str s]]⟩), (1, ⟨some b2, 4, 1, [[.bool ok]]⟩)])) R (fun _ _ => False) R := by
  have hsp : P.slen s = (s.length : Int) := slen_eq hP s
  cbv
  refine h1 _ _ ?_
  cbv
  refine br_cases (fun h => ?_) (fun h => ?_)
  · have hx := g1 (ne_t hP h)
    cbv
    repeat' (first
      | (refine And.intro (by first | assumption | decide) ?_; try cbv)
      | (intro β2; try cbv))
    exact hR _ _ _ _ _ hx (Ent.refl _) rfl ⟨rfl, rfl, trivial⟩
  · have he := ne_f hP h
    obtain ⟨x1, x2, x3⟩ := g2 he
    obtain ⟨y1, y2⟩ := hk he
    have l1 : P.leP 0 k := le0 hP y1
    have l2 : P.leP k (P.slen s) := leI hP (by rw [hsp]; exact y2)
    have l3 : P.leP (P.slen s) (P.slen s) := leI hP (Int.le_refl _)
    have e1 : P.ssub s k (P.slen s) = s2 := by
      rw [hsp, ← x1]; subst hP
      show (s.take ((s.length : Int)).toNat).drop k.toNat = _
      rw [Int.toNat_natCast, List.take_length]
    cbv
    repeat' (first
      | (refine And.intro (by first | assumption | decide) ?_; try cbv)
      | (intro β2; try cbv))
    exact hR _ _ _ _ _ ⟨e1, x2, x3⟩ (Ent.refl _) rfl ⟨rfl, rfl, trivial⟩
theorem obS_fz (b : Nat) (s : List UInt8) : (obS b s).Fz := by
  intro r hr v hv
  simp only [obS, List.mem_singleton] at hr
  subst hr
  simp only [List.mem_singleton] at hv
  subst hv; exact .str _
theorem obB_fz (b : Nat) (ok : Bool) : (obB b ok).Fz := by
  intro r hr v hv
  simp only [obB, List.mem_singleton] at hr
  subst hr
  simp only [List.mem_singleton] at hv
  subst hv; exact .bool _
theorem sp_take (b b2 : Nat) (s : List UInt8) (ok : Bool) (hs : s.length ≤ maxLen) : Spec Try.prog 99 [.ptr 0 (some b) 1 0 0, .ptr 1 (some b2) 1 0 0] (lookH [(0, obS b s), (1, obB b2 ok)])
    (fun v h' => ∃ L', (v = .int .i64 (tkF (s, ok)).2 ∧ L' = [(0, obS b (tkF (s, ok)).1.1), (1, obB b2 (tkF (s, ok)).1.2)]) ∧ h' = lookH L') :=
  spec_meth dOk ok_take (L := [(0, obS b s), (1, obB b2 ok)]) (fun v L' => v = .int .i64 (tkF (s, ok)).2 ∧ L' = [(0, obS b (tkF (s, ok)).1.1), (1, obB b2 (tkF (s, ok)).1.2)]) fun R hR =>
    vc_take std rfl _ _ b b2 s ok (getS s).1 (getS s).2.1 (getS s).2.2 (ansW (sp_nget s hs) (fun _ => args_plain rfl) rfl) getS_k (tkF (s, ok)).1.1 (tkF (s, ok)).1.2 (tkF (s, ok)).2
      (fun h => by unfold tkF; rw [if_pos h]; exact ⟨rfl, rfl, rfl⟩) (fun h => by unfold tkF; rw [if_neg (fun g => g h)]; exact ⟨rfl, rfl, rfl⟩) R
      fun s0 s' x y z h he hr ha => by
        obtain ⟨rfl, rfl, rfl⟩ := h
        exact hR s0 s' _ [(0, _), (1, _)] he hr ha (.int _ _) (by intro p hp; simp at hp; rcases hp with rfl | rfl; exact obS_fz _ _; exact obB_fz _ _) ⟨rfl, rfl⟩
theorem obS_ren (b : Nat) (s : List UInt8) (f : Nat → Nat) : (obS b s).ren f = obS b s := by simp [Ob.ren, obS, V.rl]
theorem obB_ren (b : Nat) (ok : Bool) (f : Nat → Nat) : (obB b ok).ren f = obB b ok := by simp [Ob.ren, obB, V.rl]
def TkC (T : CallT) : Prop := ∀ (k k2 b b2 : Nat) (s : List UInt8) (ok : Bool) (h : Hp) (K : V → Hp → Prop), s.length ≤ maxLen → Nat.beq k k2 = false → h k = some ⟨some b, 9, 1, [[.str s]]⟩ → h k2 = some ⟨some b2, 4, 1, [[.bool ok]]⟩ →
  (∀ (s2 : List UInt8) (ok2 : Bool) (v : Int), (s2, ok2) = (tkF (s, ok)).1 ∧ v = (tkF (s, ok)).2 → K (.int .i64 v) (Hp.put (Hp.put h k ⟨some b, 9, 1, [[.str s2]]⟩) k2 ⟨some b2, 4, 1, [[.bool ok2]]⟩)) →
  T 99 [.ptr k (some b) 1 0 0, .ptr k2 (some b2) 1 0 0] h K
theorem tkC : TkC (CallE Try.prog) := by
  intro k k2 b b2 s ok h K hs hne hk hk2 hK
  have hne' : k ≠ k2 := by intro e; subst e; rw [Nat.beq_refl] at hne; cases hne
  have hne2 : ¬ k2 = k := fun e => hne' e.symm
  refine callG (m := [(0, k), (1, k2)]) (sp_take b b2 s ok hs) (.cons ?_ (.cons ?_ .nil)) (fun j q hj => ?_) (fun p hp => ?_) ?_
  · have := Arg.same (h := h) (m := [(0, k), (1, k2)]) (.ptr k (some b) 1 0 0)
    simpa [V.ren, V.rl, bal] using this
  · have := Arg.same (h := h) (m := [(0, k), (1, k2)]) (.ptr k2 (some b2) 1 0 0)
    simpa [V.ren, V.rl, bal, hne2, hne'] using this
  · simp only [lookH] at hj
    split at hj
    · rename_i h0; exact ⟨(0, k), by simp, h0.symm⟩
    · split at hj
      · rename_i h0; exact ⟨(1, k2), by simp, h0.symm⟩
      · cases hj
  · simp only [List.mem_cons, List.not_mem_nil, or_false] at hp
    rcases hp with rfl | rfl
    · refine ⟨by simp [lab], by simp [bal], fun x hx => ?_⟩
      simp only [lookH, ↓reduceIte, Option.some.injEq] at hx
      subst hx
      exact ⟨by rw [hk, Option.map_some]; exact congrArg some (obS_ren b s _), obS_fz _ _⟩
    · refine ⟨by simp [lab], by simp [bal, hne2], fun x hx => ?_⟩
      simp [lookH] at hx
      subst hx
      exact ⟨by rw [hk2, Option.map_some]; exact congrArg some (obB_ren b2 ok _), obB_fz _ _⟩
  · rintro v L' ⟨rfl, rfl⟩
    have e : h.upd [(0, k), (1, k2)] (lookH [(0, obS b (tkF (s, ok)).1.1), (1, obB b2 (tkF (s, ok)).1.2)]) = Hp.put (Hp.put h k (obS b (tkF (s, ok)).1.1)) k2 (obB b2 (tkF (s, ok)).1.2) := by
      funext i
      simp only [Hp.upd, Hp.put, List.any_cons, List.any_nil, Bool.or_false, Bool.or_eq_true, decide_eq_true_eq]
      by_cases h1 : k2 = i
      · subst h1
        rw [if_pos (.inr rfl), if_pos rfl]
        simp [bal, lookH, hne', hne2, obB_ren]
      · by_cases h2 : k = i
        · subst h2
          rw [if_pos (.inl rfl), if_neg (fun e => h1 e.symm), if_pos rfl]
          simp [bal, lookH, obS_ren]
        · rw [if_neg (by rintro (h | h); exact h2 h; exact h1 h), if_neg (fun e => h1 e.symm), if_neg (fun e => h2 e.symm)]
    rw [e]
    exact hK _ _ _ ⟨rfl, rfl⟩
/-! head -/
def ac_head : AC := .seq (.region false [
    ⟨some 1, none, .box 9 1 (.t 0)⟩,
    ⟨some 2, none, .alloc 81 [(.int .i64 0), (.int .i64 0), (.string ⟨#[]⟩), (.int .i64 0), (.int .i64 0), (.int .i64 0), (.int .i64 0), (.int .i64 0), (.int .i64 0), (.int .i64 0), (.int .i64 0), (.int .i64 0), (.int .i64 0), (.int .i64 0), (.int .i64 0), (.int .i64 0), (.int .i64 0), (.int .i64 0), (.int .i64 0), (.int .i64 0), (.int .i64 0), (.int .i64 0), (.int .i64 0), (.int .i64 0), (.int .i64 0), (.int .i64 0), (.int .i64 0), (.int .i64 0), (.int .i64 0), (.int .i64 0), (.int .i64 0), (.int .i64 0), (.int .i64 0), (.int .i64 0), (.int .i64 0), (.slice none 0 0), (.bool false), (.int .i64 0)]⟩,
    ⟨some 3, none, .mov (.c (.bool false))⟩])
  (.seq (.region false [
    ⟨some 4, none, .alloc 4 [(.bool false)]⟩,
    ⟨none, none, .store 1 (.t 4) (.c (.bool true))⟩])
  (.seq (.region false [
    ⟨some 7, none, .call 99 [(.t 1), (.t 4)]⟩,
    ⟨some 8, none, .call 99 [(.t 1), (.t 4)]⟩,
    ⟨some 9, none, .build [(.int .i64 0), (.int .i64 0), (.string ⟨#[]⟩), (.int .i64 0), (.int .i64 0), (.int .i64 0), (.int .i64 0), (.int .i64 0), (.int .i64 0), (.int .i64 0), (.int .i64 0), (.int .i64 0), (.int .i64 0), (.int .i64 0), (.int .i64 0), (.int .i64 0), (.int .i64 0), (.int .i64 0), (.int .i64 0), (.int .i64 0), (.int .i64 0), (.int .i64 0), (.int .i64 0), (.int .i64 0), (.int .i64 0), (.int .i64 0), (.int .i64 0), (.int .i64 0), (.int .i64 0), (.int .i64 0), (.int .i64 0), (.int .i64 0), (.int .i64 0), (.int .i64 0), (.int .i64 0), (.slice none 0 0), (.bool false), (.int .i64 0)] [(0, 1, (.t 7)), (1, 1, (.t 8))]⟩,
    ⟨some 5, none, .alloc 81 [(.int .i64 0), (.int .i64 0), (.string ⟨#[]⟩), (.int .i64 0), (.int .i64 0), (.int .i64 0), (.int .i64 0), (.int .i64 0), (.int .i64 0), (.int .i64 0), (.int .i64 0), (.int .i64 0), (.int .i64 0), (.int .i64 0), (.int .i64 0), (.int .i64 0), (.int .i64 0), (.int .i64 0), (.int .i64 0), (.int .i64 0), (.int .i64 0), (.int .i64 0), (.int .i64 0), (.int .i64 0), (.int .i64 0), (.int .i64 0), (.int .i64 0), (.int .i64 0), (.int .i64 0), (.int .i64 0), (.int .i64 0), (.int .i64 0), (.int .i64 0), (.int .i64 0), (.int .i64 0), (.slice none 0 0), (.bool false), (.int .i64 0)]⟩,
    ⟨none, none, .store 38 (.t 5) (.t 9)⟩])
  (.seq (.seq (.region false [
    ⟨some 10, none, .mov (.c (.int .i64 0))⟩])
  (.block 0 (.loop (.seq (.region false [
      ⟨some 11, none, .bin .lss (.t 10) (.c (.int .i64 8))⟩])
    (.seq (.cond (.t 11)
      (.skip)
      (.exit 0))
    (.seq (.block 1 (.seq (.region false [
      ⟨some 12, none, .mov (.t 10)⟩,
      ⟨some 6, none, .mov (.t 12)⟩])
    (.region false [
      ⟨some 13, none, .mov (.t 6)⟩,
      ⟨some 14, none, .call 99 [(.t 1), (.t 4)]⟩,
      ⟨some 15, none, .call 99 [(.t 1), (.t 4)]⟩,
      ⟨some 16, none, .build [(.int .i64 0), (.int .i64 0)] [(0, 1, (.t 14)), (1, 1, (.t 15))]⟩,
      ⟨some 17, none, .faddr 3 (.t 5)⟩,
      ⟨some 18, none, .iarr 8 2 (.t 17) (.t 13)⟩,
      ⟨none, none, .store 2 (.t 18) (.t 16)⟩])))
    (.region false [
      ⟨some 19, none, .bin .add (.t 10) (.c (.int .i64 1))⟩,
      ⟨some 10, none, .mov (.t 19)⟩])))))))
  (.seq (.region false [
    ⟨some 20, none, .faddr 3 (.t 5)⟩,
    ⟨some 21, none, .loadn 16 (.t 20)⟩,
    ⟨some 22, none, .faddr 19 (.t 5)⟩,
    ⟨none, none, .store 16 (.t 22) (.t 21)⟩])
  (.seq (.region false [
    ⟨some 23, none, .load1 (.t 1)⟩,
    ⟨some 24, none, .faddr 2 (.t 5)⟩,
    ⟨none, none, .store 1 (.t 24) (.t 23)⟩])
  (.seq (.dregion [
    (⟨some 25, none, .loadn 38 (.t 5)⟩, []),
    (⟨some 26, none, .load1 (.t 4)⟩, []),
    (⟨some 27, none, .mov (.t 26)⟩, [1]),
    (⟨some 28, some (27, true), .load1 (.t 1)⟩, [2]),
    (⟨some 29, some (27, true), .len true (.t 28)⟩, [3, 2]),
    (⟨some 30, some (27, true), .bin .leq (.t 29) (.c (.int .i64 500))⟩, [4, 2]),
    (⟨some 31, none, .pick (.t 27) (.t 30) (.c (.bool false))⟩, [2, 5]),
    (⟨none, none, .store 38 (.t 2) (.t 25)⟩, [0, 2, 0]),
    (⟨some 3, none, .mov (.t 31)⟩, [6, 7, 0, 1, 2, 3, 4, 5, 6, 7])])
  (.ret)))))))
theorem ok_head : FnOk Try.prog 69 Try.f69 ac_head [.cn 2 38, .t 3] 1 drawD := ⟨Try.func69, by decide +kernel, by kernel_rfl, by kernel_rfl, by decide +kernel⟩
structure YHd (s : List UInt8) where
  i : Nat
  k : Int
  cs : List UInt8
  ok : Bool
  f : Nat → Int
  hi : i ≤ 8
  hk : k = (i : Int)
  hs : (cs, ok) = tkS s (2 + 2 * i)
  hf : ∀ j, j < 16 → f j = if j < 2 * i then tkN s (j + 2) else 0
theorem vc_head (P : Prim) (hP : P = std) (T T1 : CallT) (s : List UInt8) (hs : s.length ≤ maxLen) (htk : TkC T)
    (g0 g1 : Int) (hg0 : g0 = tkN s 0) (hg1 : g1 = tkN s 1) (F : Nat → Int) (hF : ∀ j, j < 16 → F j = tkN s (j + 2)) (rs : List UInt8) (ro : Bool) (hrs : rs = (tkS s 18).1) (hro : ro = ((tkS s 18).2 && decide ((tkS s 18).1.length ≤ 500)))
    (R : S → Prop) (hR : ∀ s0 s' (f : Nat → Int) (cs : List UInt8) (x : Bool), (∀ j, j < 16 → f j = F j) → cs = rs → x = ro → Ent s0 s' → Ret [.cn 2 38, .t 3] [.agg [.int .i64 g0, .int .i64 g1, .str cs, .int .i64 (f 0), .int .i64 (f 1), .int .i64 (f 2), .int .i64 (f 3), .int .i64 (f 4), .int .i64 (f 5), .int .i64 (f 6), .int .i64 (f 7), .int .i64 (f 8), .int .i64 (f 9), .int .i64 (f 10), .int .i64 (f 11), .int .i64 (f 12), .int .i64 (f 13), .int .i64 (f 14), .int .i64 (f 15), .int .i64 (f 0), .int .i64 (f 1), .int .i64 (f 2), .int .i64 (f 3), .int .i64 (f 4), .int .i64 (f 5), .int .i64 (f 6), .int .i64 (f 7), .int .i64 (f 8), .int .i64 (f 9), .int .i64 (f 10), .int .i64 (f 11), .int .i64 (f 12), .int .i64 (f 13), .int .i64 (f 14), .int .i64 (f 15), .nilsl, .bool false, .int .i64 0], .bool x] s' → R s0) : awp P T T1 ac_head (S0 [.str s] Hp.emp) R (fun _ _ => False) R := by
  have hnl : ∀ i : Nat, i < 8 → P.leP 0 (i : Int) ∧ P.ltP (i : Int) 8 := fun i hi => ⟨le0 hP (by omega), ltI hP (by omega)⟩
  have hN : ∀ i : Nat, P.nat (i : Int) = i := fun i => by subst hP; rfl
  cbv
  intro β1
  cbv
  intro β2
  cbv
  intro β4
  cbv
  repeat' (first
    | (refine And.intro (by first | assumption | decide) ?_; try cbv)
    | (intro β2; try cbv))
  refine htk _ _ _ _ s true _ _ hs rfl rfl rfl fun s1 ok1 v1 h1 => ?_
  obtain ⟨h1a, h1b⟩ := h1
  have e1 : (s1, ok1) = tkS s 1 := h1a
  have l1 : s1.length ≤ maxLen := by have := tkS_len s 1; rw [← e1] at this; exact Nat.le_trans this hs
  cbv
  refine htk _ _ _ _ s1 ok1 _ _ l1 rfl rfl rfl fun s2 ok2 v2 h2 => ?_
  obtain ⟨h2a, h2b⟩ := h2
  have e2 : (s2, ok2) = tkS s 2 := by rw [h2a, e1]; rfl
  have v1e : g0 = v1 := by rw [h1b, hg0]; rfl
  have v2e : g1 = v2 := by rw [h2b, hg1, e1]; rfl
  subst v1e v2e
  clear h1a h1b h2a h2b
  cbv
  intro β5
  cbv
  repeat' (first
    | (refine And.intro (by first | assumption | decide) ?_; try cbv)
    | (intro β2; try cbv))
  refine ⟨YHd s, fun y => [(1, .ptr 1 (some β1) 1 0 0), (2, .ptr 2 (some β2) 38 0 0), (4, .ptr 4 (some β4) 1 0 0), (5, .ptr 5 (some β5) 38 0 0), (10, .int .i64 y.k)],
    fun y => [(1, ⟨some β1, 9, 1, [[.str y.cs]]⟩), (2, ⟨some β2, 81, 38, [[.int .i64 0, .int .i64 0, .str [], .int .i64 0, .int .i64 0, .int .i64 0, .int .i64 0, .int .i64 0, .int .i64 0, .int .i64 0, .int .i64 0, .int .i64 0, .int .i64 0, .int .i64 0, .int .i64 0, .int .i64 0, .int .i64 0, .int .i64 0, .int .i64 0, .int .i64 0, .int .i64 0, .int .i64 0, .int .i64 0, .int .i64 0, .int .i64 0, .int .i64 0, .int .i64 0, .int .i64 0, .int .i64 0, .int .i64 0, .int .i64 0, .int .i64 0, .int .i64 0, .int .i64 0, .int .i64 0, .nilsl, .bool false, .int .i64 0]]⟩), (4, ⟨some β4, 4, 1, [[.bool y.ok]]⟩), (5, ⟨some β5, 81, 38, [[.int .i64 g0, .int .i64 g1, .str [], .int .i64 (y.f 0), .int .i64 (y.f 1), .int .i64 (y.f 2), .int .i64 (y.f 3), .int .i64 (y.f 4), .int .i64 (y.f 5), .int .i64 (y.f 6), .int .i64 (y.f 7), .int .i64 (y.f 8), .int .i64 (y.f 9), .int .i64 (y.f 10), .int .i64 (y.f 11), .int .i64 (y.f 12), .int .i64 (y.f 13), .int .i64 (y.f 14), .int .i64 (y.f 15), .int .i64 0, .int .i64 0, .int .i64 0, .int .i64 0, .int .i64 0, .int .i64 0, .int .i64 0, .int .i64 0, .int .i64 0, .int .i64 0, .int .i64 0, .int .i64 0, .int .i64 0, .int .i64 0, .int .i64 0, .int .i64 0, .nilsl, .bool false, .int .i64 0]]⟩)], fun y => 8 - y.i,
    ⟨_, Ent.refl _, ⟨0, 0, s2, ok2, fun _ => 0, by omega, rfl, e2, fun j _ => by simp⟩, ⟨rfl, rfl, rfl, rfl, rfl, trivial⟩, ⟨rfl, rfl, rfl, rfl, trivial⟩⟩, ?_⟩
  rintro ⟨i, k, cs, ok, f, hi, hk, hcs, hf⟩
  have lc : cs.length ≤ maxLen := by have := tkS_len s (2 + 2 * i); rw [← hcs] at this; exact Nat.le_trans this hs
  cbv
  refine br_cases (fun g => ?_) (fun g => ?_)
  · have h5 : k < 8 := lt_t hP g
    have hi8 : i < 8 := by ((try simp only [nc] at *); omega)
    have q1 : P.leP 0 k := (by have := (hnl i hi8).1; rw [← hk] at this; exact this)
    have q2 : P.ltP k 8 := (by have := (hnl i hi8).2; rw [← hk] at this; exact this)
    have m3 : P.i64 (P.add k 1) := by rw [add_eq hP]; exact i64I hP (by ((try simp only [nc] at *); omega))
    have e1 : P.add k 1 = ((i + 1 : Nat) : Int) := by rw [add_eq hP, hk]; ((try simp only [nc] at *); omega)
    have hNk : P.nat k = i := by rw [hk]; exact hN i
    cbv
    refine htk _ _ _ _ cs ok _ _ lc rfl rfl rfl fun s3 ok3 v3 h3 => ?_
    obtain ⟨h3a, h3b⟩ := h3
    have e3 : (s3, ok3) = tkS s (3 + 2 * i) := by rw [h3a, hcs, show 3 + 2 * i = (2 + 2 * i) + 1 by omega]; rfl
    have l3 : s3.length ≤ maxLen := by have := tkS_len s (3 + 2 * i); rw [← e3] at this; exact Nat.le_trans this hs
    cbv
    refine htk _ _ _ _ s3 ok3 _ _ l3 rfl rfl rfl fun s4 ok4 v4 h4 => ?_
    obtain ⟨h4a, h4b⟩ := h4
    have e4 : (s4, ok4) = tkS s (2 + 2 * (i + 1)) := by rw [h4a, e3, show 2 + 2 * (i + 1) = (3 + 2 * i) + 1 by omega]; rfl
    have v3e : v3 = tkN s (2 + 2 * i) := by rw [h3b, hcs]; rfl
    have v4e : v4 = tkN s (3 + 2 * i) := by rw [h4b, e3]; rfl
    have fin : ∀ f' : Nat → Int, f' (2 * i) = v3 → f' (2 * i + 1) = v4 → (∀ j, j ≠ 2 * i → j ≠ 2 * i + 1 → f' j = f j) → ∀ j, j < 16 → f' j = if j < 2 * (i + 1) then tkN s (j + 2) else 0 := by
      intro f' a b c j hj
      by_cases j1 : j = 2 * i
      · subst j1; rw [a, if_pos (by omega), v3e]; congr 1; omega
      · by_cases j2 : j = 2 * i + 1
        · subst j2; rw [b, if_pos (by omega), v4e]; congr 1; omega
        · rw [c j j1 j2, hf j hj]
          by_cases j3 : j < 2 * i
          · rw [if_pos j3, if_pos (by omega)]
          · rw [if_neg j3, if_neg (by omega)]
    have hc : i = 0 ∨ i = 1 ∨ i = 2 ∨ i = 3 ∨ i = 4 ∨ i = 5 ∨ i = 6 ∨ i = 7 := by omega
    clear hR hF hg0 hg1 hrs hro h3a h3b h4a h4b e3 l3 v3e v4e h5 g
    cbv
    rcases hc with rfl | rfl | rfl | rfl | rfl | rfl | rfl | rfl
    · refine ⟨q1, q2, 0, hNk, ?_⟩
      cbv
      refine ⟨m3, ?_⟩
      exact ⟨_, Ent.refl _, ⟨0 + 1, _, s4, ok4, fun j => if j = 0 then v3 else if j = 1 then v4 else f j, by decide, e1, e4, fin _ rfl rfl (fun j h1 h2 => (if_neg h1).trans (if_neg h2))⟩, ⟨rfl, rfl, rfl, rfl, rfl, trivial⟩, ⟨rfl, rfl, rfl, rfl, trivial⟩, by show 8 - (0 + 1) < 8 - 0; decide⟩
    · refine ⟨q1, q2, 1, hNk, ?_⟩
      cbv
      refine ⟨m3, ?_⟩
      exact ⟨_, Ent.refl _, ⟨1 + 1, _, s4, ok4, fun j => if j = 2 then v3 else if j = 3 then v4 else f j, by decide, e1, e4, fin _ rfl rfl (fun j h1 h2 => (if_neg h1).trans (if_neg h2))⟩, ⟨rfl, rfl, rfl, rfl, rfl, trivial⟩, ⟨rfl, rfl, rfl, rfl, trivial⟩, by show 8 - (1 + 1) < 8 - 1; decide⟩
    · refine ⟨q1, q2, 2, hNk, ?_⟩
      cbv
      refine ⟨m3, ?_⟩
      exact ⟨_, Ent.refl _, ⟨2 + 1, _, s4, ok4, fun j => if j = 4 then v3 else if j = 5 then v4 else f j, by decide, e1, e4, fin _ rfl rfl (fun j h1 h2 => (if_neg h1).trans (if_neg h2))⟩, ⟨rfl, rfl, rfl, rfl, rfl, trivial⟩, ⟨rfl, rfl, rfl, rfl, trivial⟩, by show 8 - (2 + 1) < 8 - 2; decide⟩
    · refine ⟨q1, q2, 3, hNk, ?_⟩
      cbv
      refine ⟨m3, ?_⟩
      exact ⟨_, Ent.refl _, ⟨3 + 1, _, s4, ok4, fun j => if j = 6 then v3 else if j = 7 then v4 else f j, by decide, e1, e4, fin _ rfl rfl (fun j h1 h2 => (if_neg h1).trans (if_neg h2))⟩, ⟨rfl, rfl, rfl, rfl, rfl, trivial⟩, ⟨rfl, rfl, rfl, rfl, trivial⟩, by show 8 - (3 + 1) < 8 - 3; decide⟩
    · refine ⟨q1, q2, 4, hNk, ?_⟩
      cbv
      refine ⟨m3, ?_⟩
      exact ⟨_, Ent.refl _, ⟨4 + 1, _, s4, ok4, fun j => if j = 8 then v3 else if j = 9 then v4 else f j, by decide, e1, e4, fin _ rfl rfl (fun j h1 h2 => (if_neg h1).trans (if_neg h2))⟩, ⟨rfl, rfl, rfl, rfl, rfl, trivial⟩, ⟨rfl, rfl, rfl, rfl, trivial⟩, by show 8 - (4 + 1) < 8 - 4; decide⟩
    · refine ⟨q1, q2, 5, hNk, ?_⟩
      cbv
      refine ⟨m3, ?_⟩
      exact ⟨_, Ent.refl _, ⟨5 + 1, _, s4, ok4, fun j => if j = 10 then v3 else if j = 11 then v4 else f j, by decide, e1, e4, fin _ rfl rfl (fun j h1 h2 => (if_neg h1).trans (if_neg h2))⟩, ⟨rfl, rfl, rfl, rfl, rfl, trivial⟩, ⟨rfl, rfl, rfl, rfl, trivial⟩, by show 8 - (5 + 1) < 8 - 5; decide⟩
    · refine ⟨q1, q2, 6, hNk, ?_⟩
      cbv
      refine ⟨m3, ?_⟩
      exact ⟨_, Ent.refl _, ⟨6 + 1, _, s4, ok4, fun j => if j = 12 then v3 else if j = 13 then v4 else f j, by decide, e1, e4, fin _ rfl rfl (fun j h1 h2 => (if_neg h1).trans (if_neg h2))⟩, ⟨rfl, rfl, rfl, rfl, rfl, trivial⟩, ⟨rfl, rfl, rfl, rfl, trivial⟩, by show 8 - (6 + 1) < 8 - 6; decide⟩
    · refine ⟨q1, q2, 7, hNk, ?_⟩
      cbv
      refine ⟨m3, ?_⟩
      exact ⟨_, Ent.refl _, ⟨7 + 1, _, s4, ok4, fun j => if j = 14 then v3 else if j = 15 then v4 else f j, by decide, e1, e4, fin _ rfl rfl (fun j h1 h2 => (if_neg h1).trans (if_neg h2))⟩, ⟨rfl, rfl, rfl, rfl, rfl, trivial⟩, ⟨rfl, rfl, rfl, rfl, trivial⟩, by show 8 - (7 + 1) < 8 - 7; decide⟩
  · have h5 : ¬ k < 8 := lt_f hP g
    have hi8 : i = 8 := by ((try simp only [nc] at *); omega)
    subst hi8
    have hcs2 : (cs, ok) = tkS s 18 := hcs
    have r1 : cs = rs := by rw [hrs, ← hcs2]
    have hff : ∀ j, j < 16 → f j = F j := fun j hj => by rw [hf j hj, if_pos (by omega), hF j hj]
    have hle : P.le (P.slen cs) 500 = decide (cs.length ≤ 500) := by rw [slen_eq hP]; subst hP; show decide ((cs.length : Int) ≤ 500) = _; exact decide_eq_decide.2 (by omega)
    have r2 : ok = true → P.le (P.slen cs) 500 = ro := fun h => by rw [hle, hro, ← hcs2, h]; rfl
    have r3 : ok = false → false = ro := fun h => by rw [hro, ← hcs2, h]; rfl
    clear hcs2 hrs hro hF hg0 hg1
    rcases ok with _ | _
    · have r4 := r3 rfl
      cbv
      repeat' (refine Both.mk ?_ ?_)
      all_goals exact hR _ _ f cs _ hff r1 r4 (Ent.refl _) ⟨rfl, rfl, Nat.zero_lt_succ 0, Nat.le_refl 38, rfl⟩
    · have r4 := r2 rfl
      cbv
      repeat' (refine Both.mk ?_ ?_)
      all_goals exact hR _ _ f cs _ hff r1 r4 (Ent.refl _) ⟨rfl, rfl, Nat.zero_lt_succ 0, Nat.le_refl 38, rfl⟩
def headV (s : List UInt8) : V := .agg [.int .i64 (tkN s 0), .int .i64 (tkN s 1), .str (tkS s 18).1, .int .i64 (tkN s (0 + 2)), .int .i64 (tkN s (1 + 2)), .int .i64 (tkN s (2 + 2)), .int .i64 (tkN s (3 + 2)), .int .i64 (tkN s (4 + 2)), .int .i64 (tkN s (5 + 2)), .int .i64 (tkN s (6 + 2)), .int .i64 (tkN s (7 + 2)), .int .i64 (tkN s (8 + 2)), .int .i64 (tkN s (9 + 2)), .int .i64 (tkN s (10 + 2)), .int .i64 (tkN s (11 + 2)), .int .i64 (tkN s (12 + 2)), .int .i64 (tkN s (13 + 2)), .int .i64 (tkN s (14 + 2)), .int .i64 (tkN s (15 + 2)), .int .i64 (tkN s (0 + 2)), .int .i64 (tkN s (1 + 2)), .int .i64 (tkN s (2 + 2)), .int .i64 (tkN s (3 + 2)), .int .i64 (tkN s (4 + 2)), .int .i64 (tkN s (5 + 2)), .int .i64 (tkN s (6 + 2)), .int .i64 (tkN s (7 + 2)), .int .i64 (tkN s (8 + 2)), .int .i64 (tkN s (9 + 2)), .int .i64 (tkN s (10 + 2)), .int .i64 (tkN s (11 + 2)), .int .i64 (tkN s (12 + 2)), .int .i64 (tkN s (13 + 2)), .int .i64 (tkN s (14 + 2)), .int .i64 (tkN s (15 + 2)), .nilsl, .bool false, .int .i64 0]
def V.fz1 : V → Bool
  | .int _ _ => true
  | .str _ => true
  | .bool _ => true
  | .nilsl => true
  | _ => false
theorem fz_all : ∀ {l : List V}, l.all V.fz1 = true → ∀ v ∈ l, Fz v
  | [], _, v, h => by cases h
  | a :: l, h, v, hv => by
    simp only [List.all_cons, Bool.and_eq_true] at h
    rcases List.mem_cons.1 hv with rfl | hv
    · have := h.1
      cases v <;> first | exact .int _ _ | exact .str _ | exact .bool _ | exact .nilsl | (simp [V.fz1] at this)
    · exact fz_all h.2 v hv
theorem headV_fz (s : List UInt8) : Fz (headV s) := .agg _ (fz_all rfl)
def headOk (s : List UInt8) : Bool := (tkS s 18).2 && decide ((tkS s 18).1.length ≤ 500)
theorem sp_head (s : List UInt8) (hs : s.length ≤ maxLen) : Spec Try.prog 69 [.str s] Hp.emp (Is (.tup [headV s, .bool (headOk s)])) :=
  spec_pure dOk ok_head [headV s, .bool (headOk s)] (.tup _ (fun v hv => by
    rcases List.mem_cons.1 hv with rfl | hv
    · exact headV_fz s
    · rw [List.mem_singleton.1 hv]; exact .bool _)) fun R hR => vc_head std rfl _ _ s hs tkC (tkN s 0) (tkN s 1) rfl rfl (fun j => tkN s (j + 2)) (fun _ _ => rfl) (tkS s 18).1 (headOk s) rfl rfl R
    fun s0 s' f cs x hf hcs hx he hr => by
      refine hR s0 s' he ?_
      unfold headV
      rw [hcs, hx, hf 0 (by decide), hf 1 (by decide), hf 2 (by decide), hf 3 (by decide), hf 4 (by decide), hf 5 (by decide), hf 6 (by decide), hf 7 (by decide), hf 8 (by decide), hf 9 (by decide), hf 10 (by decide), hf 11 (by decide), hf 12 (by decide), hf 13 (by decide), hf 14 (by decide), hf 15 (by decide)] at hr
      exact hr
end Go.Proofs.Ytobngncjflogcaa.AM
