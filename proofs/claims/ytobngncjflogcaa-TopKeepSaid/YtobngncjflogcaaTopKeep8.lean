/-
  Texts of the plain machine, put together: what the law TopKeep reaches.
-/
import Derived.Test.YtobngncjflogcaaTopKeep6
import Derived.Test.YtobngncjflogcaaTopKeep7
import Derived.Test.YtobngncjflogcaaTopKeep5
set_option linter.unusedVariables false
set_option linter.unusedSimpArgs false
namespace Go.Proofs.Ytobngncjflogcaa.AM
open Go Go.RowKit
set_option maxRecDepth 100000
set_option maxHeartbeats 2000000
def tkF (st : List UInt8 × Bool) : (List UInt8 × Bool) × Int := if (getS st.1).2.2 ≠ 0 then ((st.1, false), 0) else ((st.1.drop (getS st.1).2.1.toNat, st.2), (getS st.1).1)
def tkS (s : List UInt8) : Nat → List UInt8 × Bool
  | 0 => (s, true)
  | n + 1 => (tkF (tkS s n)).1
def tkN (s : List UInt8) (i : Nat) : Int := (tkF (tkS s i)).2
theorem tkS_succ (s : List UInt8) (n : Nat) : tkS s (n + 1) = (tkF (tkS s n)).1 := rfl
theorem tkS_len (s : List UInt8) : ∀ n, (tkS s n).1.length ≤ s.length
  | 0 => Nat.le_refl _
  | n + 1 => by
    have ih := tkS_len s n
    rw [tkS_succ, tkF]
    split
    · exact ih
    · simp only [List.length_drop]; omega
theorem tkN_bd (s : List UInt8) (i : Nat) : 0 ≤ tkN s i ∧ tkN s i ≤ 2147483647 := by
  unfold tkN tkF
  split
  · exact ⟨Int.le_refl 0, by show (0 : Int) ≤ _; decide⟩
  · rename_i h
    obtain ⟨k, _, _, _, _, h5, h6, _⟩ := getS_num (Decidable.of_not_not h)
    exact ⟨h5, h6⟩
def obS (b : Nat) (s : List UInt8) : Ob := ⟨some b, 9, 1, [[.str s]]⟩
def obB (b : Nat) (ok : Bool) : Ob := ⟨some b, 4, 1, [[.bool ok]]⟩
def ac_take : AC := .seq (.region false [
    ⟨some 4, none, .mov (.c (.int .i64 0))⟩])
  (.seq (.region false [
    ⟨some 9, none, .mov (.t 0)⟩,
    ⟨some 10, none, .nilchk (.t 9)⟩,
    ⟨some 11, none, .load1 (.t 10)⟩,
    ⟨some 12, none, .call 118 [(.t 11)]⟩,
    ⟨some 8, none, .mov (.t 12)⟩,
    ⟨some 13, none, .ext 0 (.t 8)⟩,
    ⟨some 14, none, .ext 1 (.t 8)⟩,
    ⟨some 15, none, .ext 2 (.t 8)⟩,
    ⟨some 5, none, .mov (.t 13)⟩,
    ⟨some 6, none, .mov (.t 14)⟩,
    ⟨some 7, none, .mov (.t 15)⟩])
  (.seq (.seq (.region false [
    ⟨some 16, none, .mov (.t 7)⟩,
    ⟨some 17, none, .bin .neq (.t 16) (.c (.int .i64 0))⟩])
  (.cond (.t 17)
    (.seq (.region false [
      ⟨some 18, none, .mov (.t 1)⟩,
      ⟨some 19, none, .nilchk (.t 18)⟩,
      ⟨none, none, .store 1 (.t 19) (.c (.bool false))⟩])
    (.seq (.region false [
      ⟨some 4, none, .mov (.c (.int .i64 0))⟩])
    (.ret)))
    (.skip)))
  (.seq (.region false [
    ⟨some 20, none, .mov (.t 0)⟩,
    ⟨some 21, none, .mov (.t 0)⟩,
    ⟨some 22, none, .nilchk (.t 21)⟩,
    ⟨some 23, none, .load1 (.t 22)⟩,
    ⟨some 24, none, .mov (.t 6)⟩,
    ⟨some 25, none, .slstr (.t 23) (some (.t 24)) none⟩,
    ⟨some 26, none, .nilchk (.t 20)⟩,
    ⟨none, none, .store 1 (.t 26) (.t 25)⟩])
  (.seq (.region false [
    ⟨some 27, none, .mov (.t 5)⟩,
    ⟨some 4, none, .mov (.t 27)⟩])
  (.ret)))))
theorem ok_take : FnOk Try.prog 99 Try.f99 ac_take [.t 4] 2 drawD := ⟨Try.func99, by decide +kernel, by kernel_rfl, by kernel_rfl, by decide +kernel⟩
theorem vc_take (P : Prim) (hP : P = std) (T T1 : CallT) (b b2 : Nat) (s : List UInt8) (ok : Bool) (n k e : Int) (h1 : Ans T 118 [.str s] (.tup [.int .i64 n, .int .i64 k, .int .i64 e])) (hk : e = 0 → 0 ≤ k ∧ k ≤ s.length)
    (s2 : List UInt8) (ok2 : Bool) (v : Int) (g1 : e ≠ 0 → s = s2 ∧ false = ok2 ∧ 0 = v) (g2 : e = 0 → s.drop k.toNat = s2 ∧ ok = ok2 ∧ n = v)
    (R : S → Prop) (hR : ∀ s0 s' x y z, x = s2 ∧ y = ok2 ∧ z = v → Ent s0 s' → resV s' [.t 4] (fun q => oneV q = .int .i64 z) → agreeH [(0, ⟨some b, 9, 1, [[.str x]]⟩), (1, ⟨some b2, 4, 1, [[.bool y]]⟩)] s' → R s0) :
    awp P T T1 ac_take (S0 [.ptr 0 (some b) 1 0 0, .ptr 1 (some b2) 1 0 0] (lookH [(0, ⟨some b, 9, 1, [[.str s]]⟩), (1, ⟨some b2, 4, 1, [[.bool ok]]⟩)])) R (fun _ _ => False) R := by
  have hsp : P.slen s = (s.length : Int) := slen_eq hP s
  cbv
  refine h1 _ _ ?_
  cbv
  refine br_cases (fun h => ?_) (fun h => ?_)
  · have hx := g1 (ne_t hP h)
    cbv
    repeat' (first
      | (refine And.intro (by first | assumption | decide) ?_; try cbv)
      | (intro β2; try cbv))
    exact hR _ _ _ _ _ hx (Ent.refl _) rfl ⟨rfl, rfl, trivial⟩
  · have he := ne_f hP h
    obtain ⟨x1, x2, x3⟩ := g2 he
    obtain ⟨y1, y2⟩ := hk he
    have l1 : P.leP 0 k := le0 hP y1
    have l2 : P.leP k (P.slen s) := leI hP (by rw [hsp]; exact y2)
    have l3 : P.leP (P.slen s) (P.slen s) := leI hP (Int.le_refl _)
    have e1 : P.ssub s k (P.slen s) = s2 := by
      rw [hsp, ← x1]; subst hP
      show (s.take ((s.length : Int)).toNat).drop k.toNat = _
      rw [Int.toNat_natCast, List.take_length]
    cbv
    repeat' (first
      | (refine And.intro (by first | assumption | decide) ?_; try cbv)
      | (intro β2; try cbv))
    exact hR _ _ _ _ _ ⟨e1, x2, x3⟩ (Ent.refl _) rfl ⟨rfl, rfl, trivial⟩
theorem obS_fz (b : Nat) (s : List UInt8) : (obS b s).Fz := by
  intro r hr v hv
  simp only [obS, List.mem_singleton] at hr
  subst hr
  simp only [List.mem_singleton] at hv
  subst hv; exact .str _
theorem obB_fz (b : Nat) (ok : Bool) : (obB b ok).Fz := by
  intro r hr v hv
  simp only [obB, List.mem_singleton] at hr
  subst hr
  simp only [List.mem_singleton] at hv
  subst hv; exact .bool _
theorem sp_take (b b2 : Nat) (s : List UInt8) (ok : Bool) (hs : s.length ≤ maxLen) : Spec Try.prog 99 [.ptr 0 (some b) 1 0 0, .ptr 1 (some b2) 1 0 0] (lookH [(0, obS b s), (1, obB b2 ok)])
    (fun v h' => ∃ L', (v = .int .i64 (tkF (s, ok)).2 ∧ L' = [(0, obS b (tkF (s, ok)).1.1), (1, obB b2 (tkF (s, ok)).1.2)]) ∧ h' = lookH L') :=
  spec_meth dOk ok_take (L := [(0, obS b s), (1, obB b2 ok)]) (fun v L' => v = .int .i64 (tkF (s, ok)).2 ∧ L' = [(0, obS b (tkF (s, ok)).1.1), (1, obB b2 (tkF (s, ok)).1.2)]) fun R hR =>
    vc_take std rfl _ _ b b2 s ok (getS s).1 (getS s).2.1 (getS s).2.2 (ansW (sp_nget s hs) (fun _ => args_plain rfl) rfl) getS_k (tkF (s, ok)).1.1 (tkF (s, ok)).1.2 (tkF (s, ok)).2
      (fun h => by unfold tkF; rw [if_pos h]; exact ⟨rfl, rfl, rfl⟩) (fun h => by unfold tkF; rw [if_neg (fun g => g h)]; exact ⟨rfl, rfl, rfl⟩) R
      fun s0 s' x y z h he hr ha => by
        obtain ⟨rfl, rfl, rfl⟩ := h
        exact hR s0 s' _ [(0, _), (1, _)] he hr ha (.int _ _) (by intro p hp; simp at hp; rcases hp with rfl | rfl; exact obS_fz _ _; exact obB_fz _ _) ⟨rfl, rfl⟩
theorem obS_ren (b : Nat) (s : List UInt8) (f : Nat → Nat) : (obS b s).ren f = obS b s := by simp [Ob.ren, obS, V.rl]
theorem obB_ren (b : Nat) (ok : Bool) (f : Nat → Nat) : (obB b ok).ren f = obB b ok := by simp [Ob.ren, obB, V.rl]
def TkC (T : CallT) : Prop := ∀ (k k2 b b2 : Nat) (s : List UInt8) (ok : Bool) (h : Hp) (K : V → Hp → Prop), s.length ≤ maxLen → Nat.beq k k2 = false → h k = some ⟨some b, 9, 1, [[.str s]]⟩ → h k2 = some ⟨some b2, 4, 1, [[.bool ok]]⟩ →
  (∀ (s2 : List UInt8) (ok2 : Bool) (v : Int), (s2, ok2) = (tkF (s, ok)).1 ∧ v = (tkF (s, ok)).2 → K (.int .i64 v) (Hp.put (Hp.put h k ⟨some b, 9, 1, [[.str s2]]⟩) k2 ⟨some b2, 4, 1, [[.bool ok2]]⟩)) →
  T 99 [.ptr k (some b) 1 0 0, .ptr k2 (some b2) 1 0 0] h K
theorem tkC : TkC (CallE Try.prog) := by
  intro k k2 b b2 s ok h K hs hne hk hk2 hK
  have hne' : k ≠ k2 := by intro e; subst e; rw [Nat.beq_refl] at hne; cases hne
  have hne2 : ¬ k2 = k := fun e => hne' e.symm
  refine callG (m := [(0, k), (1, k2)]) (sp_take b b2 s ok hs) (.cons ?_ (.cons ?_ .nil)) (fun j q hj => ?_) (fun p hp => ?_) ?_
  · have := Arg.same (h := h) (m := [(0, k), (1, k2)]) (.ptr k (some b) 1 0 0)
    simpa [V.ren, V.rl, bal] using this
  · have := Arg.same (h := h) (m := [(0, k), (1, k2)]) (.ptr k2 (some b2) 1 0 0)
    simpa [V.ren, V.rl, bal, hne2, hne'] using this
  · simp only [lookH] at hj
    split at hj
    · rename_i h0; exact ⟨(0, k), by simp, h0.symm⟩
    · split at hj
      · rename_i h0; exact ⟨(1, k2), by simp, h0.symm⟩
      · cases hj
  · simp only [List.mem_cons, List.not_mem_nil, or_false] at hp
    rcases hp with rfl | rfl
    · refine ⟨by simp [lab], by simp [bal], fun x hx => ?_⟩
      simp only [lookH, ↓reduceIte, Option.some.injEq] at hx
      subst hx
      exact ⟨by rw [hk, Option.map_some]; exact congrArg some (obS_ren b s _), obS_fz _ _⟩
    · refine ⟨by simp [lab], by simp [bal, hne2], fun x hx => ?_⟩
      simp [lookH] at hx
      subst hx
      exact ⟨by rw [hk2, Option.map_some]; exact congrArg some (obB_ren b2 ok _), obB_fz _ _⟩
  · rintro v L' ⟨rfl, rfl⟩
    have e : h.upd [(0, k), (1, k2)] (lookH [(0, obS b (tkF (s, ok)).1.1), (1, obB b2 (tkF (s, ok)).1.2)]) = Hp.put (Hp.put h k (obS b (tkF (s, ok)).1.1)) k2 (obB b2 (tkF (s, ok)).1.2) := by
      funext i
      simp only [Hp.upd, Hp.put, List.any_cons, List.any_nil, Bool.or_false, Bool.or_eq_true, decide_eq_true_eq]
      by_cases h1 : k2 = i
      · subst h1
        rw [if_pos (.inr rfl), if_pos rfl]
        simp [bal, lookH, hne', hne2, obB_ren]
      · by_cases h2 : k = i
        · subst h2
          rw [if_pos (.inl rfl), if_neg (fun e => h1 e.symm), if_pos rfl]
          simp [bal, lookH, obS_ren]
        · rw [if_neg (by rintro (h | h); exact h2 h; exact h1 h), if_neg (fun e => h1 e.symm), if_neg (fun e => h2 e.symm)]
    rw [e]
    exact hK _ _ _ ⟨rfl, rfl⟩
def ac_head : AC := .seq (.region false [
    ⟨some 1, none, .box 9 1 (.t 0)⟩,
    ⟨some 2, none, .alloc 81 [(.int .i64 0), (.int .i64 0), (.string ⟨#[]⟩), (.int .i64 0), (.int .i64 0), (.int .i64 0), (.int .i64 0), (.int .i64 0), (.int .i64 0), (.int .i64 0), (.int .i64 0), (.int .i64 0), (.int .i64 0), (.int .i64 0), (.int .i64 0), (.int .i64 0), (.int .i64 0), (.int .i64 0), (.int .i64 0), (.int .i64 0), (.int .i64 0), (.int .i64 0), (.int .i64 0), (.int .i64 0), (.int .i64 0), (.int .i64 0), (.int .i64 0), (.int .i64 0), (.int .i64 0), (.int .i64 0), (.int .i64 0), (.int .i64 0), (.int .i64 0), (.int .i64 0), (.int .i64 0), (.slice none 0 0), (.bool false), (.int .i64 0)]⟩,
    ⟨some 3, none, .mov (.c (.bool false))⟩])
  (.seq (.region false [
    ⟨some 4, none, .alloc 4 [(.bool false)]⟩,
    ⟨none, none, .store 1 (.t 4) (.c (.bool true))⟩])
  (.seq (.region false [
    ⟨some 7, none, .call 99 [(.t 1), (.t 4)]⟩,
    ⟨some 8, none, .call 99 [(.t 1), (.t 4)]⟩,
    ⟨some 9, none, .build [(.int .i64 0), (.int .i64 0), (.string ⟨#[]⟩), (.int .i64 0), (.int .i64 0), (.int .i64 0), (.int .i64 0), (.int .i64 0), (.int .i64 0), (.int .i64 0), (.int .i64 0), (.int .i64 0), (.int .i64 0), (.int .i64 0), (.int .i64 0), (.int .i64 0), (.int .i64 0), (.int .i64 0), (.int .i64 0), (.int .i64 0), (.int .i64 0), (.int .i64 0), (.int .i64 0), (.int .i64 0), (.int .i64 0), (.int .i64 0), (.int .i64 0), (.int .i64 0), (.int .i64 0), (.int .i64 0), (.int .i64 0), (.int .i64 0), (.int .i64 0), (.int .i64 0), (.int .i64 0), (.slice none 0 0), (.bool false), (.int .i64 0)] [(0, 1, (.t 7)), (1, 1, (.t 8))]⟩,
    ⟨some 5, none, .alloc 81 [(.int .i64 0), (.int .i64 0), (.string ⟨#[]⟩), (.int .i64 0), (.int .i64 0), (.int .i64 0), (.int .i64 0), (.int .i64 0), (.int .i64 0), (.int .i64 0), (.int .i64 0), (.int .i64 0), (.int .i64 0), (.int .i64 0), (.int .i64 0), (.int .i64 0), (.int .i64 0), (.int .i64 0), (.int .i64 0), (.int .i64 0), (.int .i64 0), (.int .i64 0), (.int .i64 0), (.int .i64 0), (.int .i64 0), (.int .i64 0), (.int .i64 0), (.int .i64 0), (.int .i64 0), (.int .i64 0), (.int .i64 0), (.int .i64 0), (.int .i64 0), (.int .i64 0), (.int .i64 0), (.slice none 0 0), (.bool false), (.int .i64 0)]⟩,
    ⟨none, none, .store 38 (.t 5) (.t 9)⟩])
  (.seq (.seq (.region false [
    ⟨some 10, none, .mov (.c (.int .i64 0))⟩])
  (.block 0 (.loop (.seq (.region false [
      ⟨some 11, none, .bin .lss (.t 10) (.c (.int .i64 8))⟩])
    (.seq (.cond (.t 11)
      (.skip)
      (.exit 0))
    (.seq (.block 1 (.seq (.region false [
      ⟨some 12, none, .mov (.t 10)⟩,
      ⟨some 6, none, .mov (.t 12)⟩])
    (.region false [
      ⟨some 13, none, .mov (.t 6)⟩,
      ⟨some 14, none, .call 99 [(.t 1), (.t 4)]⟩,
      ⟨some 15, none, .call 99 [(.t 1), (.t 4)]⟩,
      ⟨some 16, none, .build [(.int .i64 0), (.int .i64 0)] [(0, 1, (.t 14)), (1, 1, (.t 15))]⟩,
      ⟨some 17, none, .faddr 3 (.t 5)⟩,
      ⟨some 18, none, .iarr 8 2 (.t 17) (.t 13)⟩,
      ⟨none, none, .store 2 (.t 18) (.t 16)⟩])))
    (.region false [
      ⟨some 19, none, .bin .add (.t 10) (.c (.int .i64 1))⟩,
      ⟨some 10, none, .mov (.t 19)⟩])))))))
  (.seq (.region false [
    ⟨some 20, none, .faddr 3 (.t 5)⟩,
    ⟨some 21, none, .loadn 16 (.t 20)⟩,
    ⟨some 22, none, .faddr 19 (.t 5)⟩,
    ⟨none, none, .store 16 (.t 22) (.t 21)⟩])
  (.seq (.region false [
    ⟨some 23, none, .load1 (.t 1)⟩,
    ⟨some 24, none, .faddr 2 (.t 5)⟩,
    ⟨none, none, .store 1 (.t 24) (.t 23)⟩])
  (.seq (.dregion [
    (⟨some 25, none, .loadn 38 (.t 5)⟩, []),
    (⟨some 26, none, .load1 (.t 4)⟩, []),
    (⟨some 27, none, .mov (.t 26)⟩, [1]),
    (⟨some 28, some (27, true), .load1 (.t 1)⟩, [2]),
    (⟨some 29, some (27, true), .len true (.t 28)⟩, [3, 2]),
    (⟨some 30, some (27, true), .bin .leq (.t 29) (.c (.int .i64 500))⟩, [4, 2]),
    (⟨some 31, none, .pick (.t 27) (.t 30) (.c (.bool false))⟩, [2, 5]),
    (⟨none, none, .store 38 (.t 2) (.t 25)⟩, [0, 2, 0]),
    (⟨some 3, none, .mov (.t 31)⟩, [6, 7, 0, 1, 2, 3, 4, 5, 6, 7])])
  (.ret)))))))
theorem ok_head : FnOk Try.prog 69 Try.f69 ac_head [.cn 2 38, .t 3] 1 drawD := ⟨Try.func69, by decide +kernel, by kernel_rfl, by kernel_rfl, by decide +kernel⟩
structure YHd (s : List UInt8) where
  i : Nat
  k : Int
  cs : List UInt8
  ok : Bool
  f : Nat → Int
  hi : i ≤ 8
  hk : k = (i : Int)
  hs : (cs, ok) = tkS s (2 + 2 * i)
  hf : ∀ j, j < 16 → f j = if j < 2 * i then tkN s (j + 2) else 0
theorem vc_head (P : Prim) (hP : P = std) (T T1 : CallT) (s : List UInt8) (hs : s.length ≤ maxLen) (htk : TkC T)
    (g0 g1 : Int) (hg0 : g0 = tkN s 0) (hg1 : g1 = tkN s 1) (F : Nat → Int) (hF : ∀ j, j < 16 → F j = tkN s (j + 2)) (rs : List UInt8) (ro : Bool) (hrs : rs = (tkS s 18).1) (hro : ro = ((tkS s 18).2 && decide ((tkS s 18).1.length ≤ 500)))
    (R : S → Prop) (hR : ∀ s0 s' (f : Nat → Int) (cs : List UInt8) (x : Bool), (∀ j, j < 16 → f j = F j) → cs = rs → x = ro → Ent s0 s' → Ret [.cn 2 38, .t 3] [.agg [.int .i64 g0, .int .i64 g1, .str cs, .int .i64 (f 0), .int .i64 (f 1), .int .i64 (f 2), .int .i64 (f 3), .int .i64 (f 4), .int .i64 (f 5), .int .i64 (f 6), .int .i64 (f 7), .int .i64 (f 8), .int .i64 (f 9), .int .i64 (f 10), .int .i64 (f 11), .int .i64 (f 12), .int .i64 (f 13), .int .i64 (f 14), .int .i64 (f 15), .int .i64 (f 0), .int .i64 (f 1), .int .i64 (f 2), .int .i64 (f 3), .int .i64 (f 4), .int .i64 (f 5), .int .i64 (f 6), .int .i64 (f 7), .int .i64 (f 8), .int .i64 (f 9), .int .i64 (f 10), .int .i64 (f 11), .int .i64 (f 12), .int .i64 (f 13), .int .i64 (f 14), .int .i64 (f 15), .nilsl, .bool false, .int .i64 0], .bool x] s' → R s0) : awp P T T1 ac_head (S0 [.str s] Hp.emp) R (fun _ _ => False) R := by
  have hnl : ∀ i : Nat, i < 8 → P.leP 0 (i : Int) ∧ P.ltP (i : Int) 8 := fun i hi => ⟨le0 hP (by omega), ltI hP (by omega)⟩
  have hN : ∀ i : Nat, P.nat (i : Int) = i := fun i => by subst hP; rfl
  cbv
  intro β1
  cbv
  intro β2
  cbv
  intro β4
  cbv
  repeat' (first
    | (refine And.intro (by first | assumption | decide) ?_; try cbv)
    | (intro β2; try cbv))
  refine htk _ _ _ _ s true _ _ hs rfl rfl rfl fun s1 ok1 v1 h1 => ?_
  obtain ⟨h1a, h1b⟩ := h1
  have e1 : (s1, ok1) = tkS s 1 := h1a
  have l1 : s1.length ≤ maxLen := by have := tkS_len s 1; rw [← e1] at this; exact Nat.le_trans this hs
  cbv
  refine htk _ _ _ _ s1 ok1 _ _ l1 rfl rfl rfl fun s2 ok2 v2 h2 => ?_
  obtain ⟨h2a, h2b⟩ := h2
  have e2 : (s2, ok2) = tkS s 2 := by rw [h2a, e1]; rfl
  have v1e : g0 = v1 := by rw [h1b, hg0]; rfl
  have v2e : g1 = v2 := by rw [h2b, hg1, e1]; rfl
  subst v1e v2e
  clear h1a h1b h2a h2b
  cbv
  intro β5
  cbv
  repeat' (first
    | (refine And.intro (by first | assumption | decide) ?_; try cbv)
    | (intro β2; try cbv))
  refine ⟨YHd s, fun y => [(1, .ptr 1 (some β1) 1 0 0), (2, .ptr 2 (some β2) 38 0 0), (4, .ptr 4 (some β4) 1 0 0), (5, .ptr 5 (some β5) 38 0 0), (10, .int .i64 y.k)],
    fun y => [(1, ⟨some β1, 9, 1, [[.str y.cs]]⟩), (2, ⟨some β2, 81, 38, [[.int .i64 0, .int .i64 0, .str [], .int .i64 0, .int .i64 0, .int .i64 0, .int .i64 0, .int .i64 0, .int .i64 0, .int .i64 0, .int .i64 0, .int .i64 0, .int .i64 0, .int .i64 0, .int .i64 0, .int .i64 0, .int .i64 0, .int .i64 0, .int .i64 0, .int .i64 0, .int .i64 0, .int .i64 0, .int .i64 0, .int .i64 0, .int .i64 0, .int .i64 0, .int .i64 0, .int .i64 0, .int .i64 0, .int .i64 0, .int .i64 0, .int .i64 0, .int .i64 0, .int .i64 0, .int .i64 0, .nilsl, .bool false, .int .i64 0]]⟩), (4, ⟨some β4, 4, 1, [[.bool y.ok]]⟩), (5, ⟨some β5, 81, 38, [[.int .i64 g0, .int .i64 g1, .str [], .int .i64 (y.f 0), .int .i64 (y.f 1), .int .i64 (y.f 2), .int .i64 (y.f 3), .int .i64 (y.f 4), .int .i64 (y.f 5), .int .i64 (y.f 6), .int .i64 (y.f 7), .int .i64 (y.f 8), .int .i64 (y.f 9), .int .i64 (y.f 10), .int .i64 (y.f 11), .int .i64 (y.f 12), .int .i64 (y.f 13), .int .i64 (y.f 14), .int .i64 (y.f 15), .int .i64 0, .int .i64 0, .int .i64 0, .int .i64 0, .int .i64 0, .int .i64 0, .int .i64 0, .int .i64 0, .int .i64 0, .int .i64 0, .int .i64 0, .int .i64 0, .int .i64 0, .int .i64 0, .int .i64 0, .int .i64 0, .nilsl, .bool false, .int .i64 0]]⟩)], fun y => 8 - y.i,
    ⟨_, Ent.refl _, ⟨0, 0, s2, ok2, fun _ => 0, by omega, rfl, e2, fun j _ => by simp⟩, ⟨rfl, rfl, rfl, rfl, rfl, trivial⟩, ⟨rfl, rfl, rfl, rfl, trivial⟩⟩, ?_⟩
  rintro ⟨i, k, cs, ok, f, hi, hk, hcs, hf⟩
  have lc : cs.length ≤ maxLen := by have := tkS_len s (2 + 2 * i); rw [← hcs] at this; exact Nat.le_trans this hs
  cbv
  refine br_cases (fun g => ?_) (fun g => ?_)
  · have h5 : k < 8 := lt_t hP g
    have hi8 : i < 8 := by ((try simp only [nc] at *); omega)
    have q1 : P.leP 0 k := (by have := (hnl i hi8).1; rw [← hk] at this; exact this)
    have q2 : P.ltP k 8 := (by have := (hnl i hi8).2; rw [← hk] at this; exact this)
    have m3 : P.i64 (P.add k 1) := by rw [add_eq hP]; exact i64I hP (by ((try simp only [nc] at *); omega))
    have e1 : P.add k 1 = ((i + 1 : Nat) : Int) := by rw [add_eq hP, hk]; ((try simp only [nc] at *); omega)
    have hNk : P.nat k = i := by rw [hk]; exact hN i
    cbv
    refine htk _ _ _ _ cs ok _ _ lc rfl rfl rfl fun s3 ok3 v3 h3 => ?_
    obtain ⟨h3a, h3b⟩ := h3
    have e3 : (s3, ok3) = tkS s (3 + 2 * i) := by rw [h3a, hcs, show 3 + 2 * i = (2 + 2 * i) + 1 by omega]; rfl
    have l3 : s3.length ≤ maxLen := by have := tkS_len s (3 + 2 * i); rw [← e3] at this; exact Nat.le_trans this hs
    cbv
    refine htk _ _ _ _ s3 ok3 _ _ l3 rfl rfl rfl fun s4 ok4 v4 h4 => ?_
    obtain ⟨h4a, h4b⟩ := h4
    have e4 : (s4, ok4) = tkS s (2 + 2 * (i + 1)) := by rw [h4a, e3, show 2 + 2 * (i + 1) = (3 + 2 * i) + 1 by omega]; rfl
    have v3e : v3 = tkN s (2 + 2 * i) := by rw [h3b, hcs]; rfl
    have v4e : v4 = tkN s (3 + 2 * i) := by rw [h4b, e3]; rfl
    have fin : ∀ f' : Nat → Int, f' (2 * i) = v3 → f' (2 * i + 1) = v4 → (∀ j, j ≠ 2 * i → j ≠ 2 * i + 1 → f' j = f j) → ∀ j, j < 16 → f' j = if j < 2 * (i + 1) then tkN s (j + 2) else 0 := by
      intro f' a b c j hj
      by_cases j1 : j = 2 * i
      · subst j1; rw [a, if_pos (by omega), v3e]; congr 1; omega
      · by_cases j2 : j = 2 * i + 1
        · subst j2; rw [b, if_pos (by omega), v4e]; congr 1; omega
        · rw [c j j1 j2, hf j hj]
          by_cases j3 : j < 2 * i
          · rw [if_pos j3, if_pos (by omega)]
          · rw [if_neg j3, if_neg (by omega)]
    have hc : i = 0 ∨ i = 1 ∨ i = 2 ∨ i = 3 ∨ i = 4 ∨ i = 5 ∨ i = 6 ∨ i = 7 := by omega
    clear hR hF hg0 hg1 hrs hro h3a h3b h4a h4b e3 l3 v3e v4e h5 g
    cbv
    rcases hc with rfl | rfl | rfl | rfl | rfl | rfl | rfl | rfl
    · refine ⟨q1, q2, 0, hNk, ?_⟩
      cbv
      refine ⟨m3, ?_⟩
      exact ⟨_, Ent.refl _, ⟨0 + 1, _, s4, ok4, fun j => if j = 0 then v3 else if j = 1 then v4 else f j, by decide, e1, e4, fin _ rfl rfl (fun j h1 h2 => (if_neg h1).trans (if_neg h2))⟩, ⟨rfl, rfl, rfl, rfl, rfl, trivial⟩, ⟨rfl, rfl, rfl, rfl, trivial⟩, by show 8 - (0 + 1) < 8 - 0; decide⟩
    · refine ⟨q1, q2, 1, hNk, ?_⟩
      cbv
      refine ⟨m3, ?_⟩
      exact ⟨_, Ent.refl _, ⟨1 + 1, _, s4, ok4, fun j => if j = 2 then v3 else if j = 3 then v4 else f j, by decide, e1, e4, fin _ rfl rfl (fun j h1 h2 => (if_neg h1).trans (if_neg h2))⟩, ⟨rfl, rfl, rfl, rfl, rfl, trivial⟩, ⟨rfl, rfl, rfl, rfl, trivial⟩, by show 8 - (1 + 1) < 8 - 1; decide⟩
    · refine ⟨q1, q2, 2, hNk, ?_⟩
      cbv
      refine ⟨m3, ?_⟩
      exact ⟨_, Ent.refl _, ⟨2 + 1, _, s4, ok4, fun j => if j = 4 then v3 else if j = 5 then v4 else f j, by decide, e1, e4, fin _ rfl rfl (fun j h1 h2 => (if_neg h1).trans (if_neg h2))⟩, ⟨rfl, rfl, rfl, rfl, rfl, trivial⟩, ⟨rfl, rfl, rfl, rfl, trivial⟩, by show 8 - (2 + 1) < 8 - 2; decide⟩
    · refine ⟨q1, q2, 3, hNk, ?_⟩
      cbv
      refine ⟨m3, ?_⟩
      exact ⟨_, Ent.refl _, ⟨3 + 1, _, s4, ok4, fun j => if j = 6 then v3 else if j = 7 then v4 else f j, by decide, e1, e4, fin _ rfl rfl (fun j h1 h2 => (if_neg h1).trans (if_neg h2))⟩, ⟨rfl, rfl, rfl, rfl, rfl, trivial⟩, ⟨rfl, rfl, rfl, rfl, trivial⟩, by show 8 - (3 + 1) < 8 - 3; decide⟩
    · refine ⟨q1, q2, 4, hNk, ?_⟩
      cbv
      refine ⟨m3, ?_⟩
      exact ⟨_, Ent.refl _, ⟨4 + 1, _, s4, ok4, fun j => if j = 8 then v3 else if j = 9 then v4 else f j, by decide, e1, e4, fin _ rfl rfl (fun j h1 h2 => (if_neg h1).trans (if_neg h2))⟩, ⟨rfl, rfl, rfl, rfl, rfl, trivial⟩, ⟨rfl, rfl, rfl, rfl, trivial⟩, by show 8 - (4 + 1) < 8 - 4; decide⟩
    · refine ⟨q1, q2, 5, hNk, ?_⟩
      cbv
      refine ⟨m3, ?_⟩
      exact ⟨_, Ent.refl _, ⟨5 + 1, _, s4, ok4, fun j => if j = 10 then v3 else if j = 11 then v4 else f j, by decide, e1, e4, fin _ rfl rfl (fun j h1 h2 => (if_neg h1).trans (if_neg h2))⟩, ⟨rfl, rfl, rfl, rfl, rfl, trivial⟩, ⟨rfl, rfl, rfl, rfl, trivial⟩, by show 8 - (5 + 1) < 8 - 5; decide⟩
    · refine ⟨q1, q2, 6, hNk, ?_⟩
      cbv
      refine ⟨m3, ?_⟩
      exact ⟨_, Ent.refl _, ⟨6 + 1, _, s4, ok4, fun j => if j = 12 then v3 else if j = 13 then v4 else f j, by decide, e1, e4, fin _ rfl rfl (fun j h1 h2 => (if_neg h1).trans (if_neg h2))⟩, ⟨rfl, rfl, rfl, rfl, rfl, trivial⟩, ⟨rfl, rfl, rfl, rfl, trivial⟩, by show 8 - (6 + 1) < 8 - 6; decide⟩
    · refine ⟨q1, q2, 7, hNk, ?_⟩
      cbv
      refine ⟨m3, ?_⟩
      exact ⟨_, Ent.refl _, ⟨7 + 1, _, s4, ok4, fun j => if j = 14 then v3 else if j = 15 then v4 else f j, by decide, e1, e4, fin _ rfl rfl (fun j h1 h2 => (if_neg h1).trans (if_neg h2))⟩, ⟨rfl, rfl, rfl, rfl, rfl, trivial⟩, ⟨rfl, rfl, rfl, rfl, trivial⟩, by show 8 - (7 + 1) < 8 - 7; decide⟩
  · have h5 : ¬ k < 8 := lt_f hP g
    have hi8 : i = 8 := by ((try simp only [nc] at *); omega)
    subst hi8
    have hcs2 : (cs, ok) = tkS s 18 := hcs
    have r1 : cs = rs := by rw [hrs, ← hcs2]
    have hff : ∀ j, j < 16 → f j = F j := fun j hj => by rw [hf j hj, if_pos (by omega), hF j hj]
    have hle : P.le (P.slen cs) 500 = decide (cs.length ≤ 500) := by rw [slen_eq hP]; subst hP; show decide ((cs.length : Int) ≤ 500) = _; exact decide_eq_decide.2 (by omega)
    have r2 : ok = true → P.le (P.slen cs) 500 = ro := fun h => by rw [hle, hro, ← hcs2, h]; rfl
    have r3 : ok = false → false = ro := fun h => by rw [hro, ← hcs2, h]; rfl
    clear hcs2 hrs hro hF hg0 hg1
    rcases ok with _ | _
    · have r4 := r3 rfl
      cbv
      repeat' (refine Both.mk ?_ ?_)
      all_goals exact hR _ _ f cs _ hff r1 r4 (Ent.refl _) ⟨rfl, rfl, Nat.zero_lt_succ 0, Nat.le_refl 38, rfl⟩
    · have r4 := r2 rfl
      cbv
      repeat' (refine Both.mk ?_ ?_)
      all_goals exact hR _ _ f cs _ hff r1 r4 (Ent.refl _) ⟨rfl, rfl, Nat.zero_lt_succ 0, Nat.le_refl 38, rfl⟩
def headV (s : List UInt8) : V := .agg [.int .i64 (tkN s 0), .int .i64 (tkN s 1), .str (tkS s 18).1, .int .i64 (tkN s (0 + 2)), .int .i64 (tkN s (1 + 2)), .int .i64 (tkN s (2 + 2)), .int .i64 (tkN s (3 + 2)), .int .i64 (tkN s (4 + 2)), .int .i64 (tkN s (5 + 2)), .int .i64 (tkN s (6 + 2)), .int .i64 (tkN s (7 + 2)), .int .i64 (tkN s (8 + 2)), .int .i64 (tkN s (9 + 2)), .int .i64 (tkN s (10 + 2)), .int .i64 (tkN s (11 + 2)), .int .i64 (tkN s (12 + 2)), .int .i64 (tkN s (13 + 2)), .int .i64 (tkN s (14 + 2)), .int .i64 (tkN s (15 + 2)), .int .i64 (tkN s (0 + 2)), .int .i64 (tkN s (1 + 2)), .int .i64 (tkN s (2 + 2)), .int .i64 (tkN s (3 + 2)), .int .i64 (tkN s (4 + 2)), .int .i64 (tkN s (5 + 2)), .int .i64 (tkN s (6 + 2)), .int .i64 (tkN s (7 + 2)), .int .i64 (tkN s (8 + 2)), .int .i64 (tkN s (9 + 2)), .int .i64 (tkN s (10 + 2)), .int .i64 (tkN s (11 + 2)), .int .i64 (tkN s (12 + 2)), .int .i64 (tkN s (13 + 2)), .int .i64 (tkN s (14 + 2)), .int .i64 (tkN s (15 + 2)), .nilsl, .bool false, .int .i64 0]
def V.fz1 : V → Bool
  | .int _ _ => true
  | .str _ => true
  | .bool _ => true
  | .nilsl => true
  | _ => false
theorem fz_all : ∀ {l : List V}, l.all V.fz1 = true → ∀ v ∈ l, Fz v
  | [], _, v, h => by cases h
  | a :: l, h, v, hv => by
    simp only [List.all_cons, Bool.and_eq_true] at h
    rcases List.mem_cons.1 hv with rfl | hv
    · have := h.1
      cases v <;> first | exact .int _ _ | exact .str _ | exact .bool _ | exact .nilsl | (simp [V.fz1] at this)
    · exact fz_all h.2 v hv
theorem headV_fz (s : List UInt8) : Fz (headV s) := .agg _ (fz_all rfl)
def headOk (s : List UInt8) : Bool := (tkS s 18).2 && decide ((tkS s 18).1.length ≤ 500)
theorem sp_head (s : List UInt8) (hs : s.length ≤ maxLen) : Spec Try.prog 69 [.str s] Hp.emp (Is (.tup [headV s, .bool (headOk s)])) :=
  spec_pure dOk ok_head [headV s, .bool (headOk s)] (.tup _ (fun v hv => by
    rcases List.mem_cons.1 hv with rfl | hv
    · exact headV_fz s
    · rw [List.mem_singleton.1 hv]; exact .bool _)) fun R hR => vc_head std rfl _ _ s hs tkC (tkN s 0) (tkN s 1) rfl rfl (fun j => tkN s (j + 2)) (fun _ _ => rfl) (tkS s 18).1 (headOk s) rfl rfl R
    fun s0 s' f cs x hf hcs hx he hr => by
      refine hR s0 s' he ?_
      unfold headV
      rw [hcs, hx, hf 0 (by decide), hf 1 (by decide), hf 2 (by decide), hf 3 (by decide), hf 4 (by decide), hf 5 (by decide), hf 6 (by decide), hf 7 (by decide), hf 8 (by decide), hf 9 (by decide), hf 10 (by decide), hf 11 (by decide), hf 12 (by decide), hf 13 (by decide), hf 14 (by decide), hf 15 (by decide)] at hr
      exact hr
end Go.Proofs.Ytobngncjflogcaa.AM

set_option linter.unusedVariables false
set_option linter.unusedSimpArgs false
namespace Go.Proofs.Ytobngncjflogcaa.AM
open Go Go.RowKit
set_option maxRecDepth 100000
set_option maxHeartbeats 2000000
def revB (s : List UInt8) : Rev := ⟨tkN s 0, tkN s 1, (readF (tkS s 2).1).1⟩
def revOk (s : List UInt8) : Bool := (tkS s 2).2 && (decide ((readF (tkS s 2).1).2 = 0) && decide (oneF (revB s) = 0))
def ac_hrv : AC := .seq (.region false [
    ⟨some 1, none, .box 9 1 (.t 0)⟩,
    ⟨some 2, none, .alloc 45 [(.int .i64 0), (.int .i64 0), (.slice none 0 0)]⟩,
    ⟨some 3, none, .mov (.c (.bool false))⟩])
  (.seq (.region false [
    ⟨some 4, none, .alloc 4 [(.bool false)]⟩,
    ⟨none, none, .store 1 (.t 4) (.c (.bool true))⟩])
  (.seq (.region false [
    ⟨some 8, none, .call 99 [(.t 1), (.t 4)]⟩,
    ⟨some 9, none, .call 99 [(.t 1), (.t 4)]⟩,
    ⟨some 10, none, .build [(.int .i64 0), (.int .i64 0), (.slice none 0 0)] [(0, 1, (.t 8)), (1, 1, (.t 9))]⟩,
    ⟨some 5, none, .alloc 45 [(.int .i64 0), (.int .i64 0), (.slice none 0 0)]⟩,
    ⟨none, none, .store 3 (.t 5) (.t 10)⟩])
  (.seq (.region false [
    ⟨some 12, none, .load1 (.t 1)⟩,
    ⟨some 13, none, .call 100 [(.t 12)]⟩,
    ⟨some 11, none, .mov (.t 13)⟩,
    ⟨some 14, none, .ext 0 (.t 11)⟩,
    ⟨some 15, none, .ext 1 (.t 11)⟩,
    ⟨some 6, none, .mov (.t 14)⟩,
    ⟨some 7, none, .mov (.t 15)⟩])
  (.seq (.region false [
    ⟨some 16, none, .mov (.t 6)⟩,
    ⟨some 17, none, .faddr 2 (.t 5)⟩,
    ⟨none, none, .store 1 (.t 17) (.t 16)⟩])
  (.seq (.region true [
    ⟨some 18, none, .loadn 3 (.t 5)⟩,
    ⟨some 19, none, .load1 (.t 4)⟩,
    ⟨some 20, none, .mov (.t 19)⟩,
    ⟨some 21, some (20, true), .mov (.t 7)⟩,
    ⟨some 22, some (20, true), .bin .eql (.t 21) (.c (.int .i64 0))⟩,
    ⟨some 23, none, .pick (.t 20) (.t 22) (.c (.bool false))⟩,
    ⟨some 24, none, .mov (.t 23)⟩,
    ⟨some 25, some (24, true), .loadn 3 (.t 5)⟩,
    ⟨some 26, some (24, true), .call 90 [(.t 25)]⟩,
    ⟨some 27, some (24, true), .bin .eql (.t 26) (.c (.int .i64 0))⟩,
    ⟨some 28, none, .pick (.t 24) (.t 27) (.c (.bool false))⟩,
    ⟨none, none, .store 3 (.t 2) (.t 18)⟩,
    ⟨some 3, none, .mov (.t 28)⟩])
  (.ret))))))
theorem ok_hrv : FnOk Try.prog 70 Try.f70 ac_hrv [.cn 2 3, .t 3] 1 drawD := ⟨Try.func70, by decide +kernel, by kernel_rfl, by kernel_rfl, by decide +kernel⟩
theorem vc_hrv (P : Prim) (hP : P = std) (T T1 : CallT) (s : List UInt8) (hs : s.length ≤ maxLen) (htk : TkC T) (dF : List UInt8 → List (List V)) (eF : List UInt8 → Int)
    (hread : ∀ s, s.length ≤ maxLen → Ans T 100 [.str s] (.tup [.sl false 3 (dF s), .int .i64 (eF s)])) (oF : Int → Int → List UInt8 → Int) (hone : ∀ w q s, s.length ≤ maxLen → Ans T1 90 [.agg [.int .i64 w, .int .i64 q, .sl false 3 (dF s)]] (.int .i64 (oF w q s)))
    (rw rq : Int) (rd : List (List V)) (ro : Bool) (hrw : rw = tkN s 0) (hrq : rq = tkN s 1) (hrd : rd = dF (tkS s 2).1) (hro : ro = ((tkS s 2).2 && (decide (eF (tkS s 2).1 = 0) && decide (oF rw rq (tkS s 2).1 = 0))))
    (R : S → Prop) (hR : ∀ s0 s' w q d b, w = rw ∧ q = rq ∧ d = rd ∧ b = ro → Ent s0 s' → Ret [.cn 2 3, .t 3] [.agg [.int .i64 w, .int .i64 q, .sl false 3 d], .bool b] s' → R s0) : awp P T T1 ac_hrv (S0 [.str s] Hp.emp) R (fun _ _ => False) R := by
  cbv
  intro β1
  cbv
  intro β2
  cbv
  intro β4
  cbv
  repeat' (first
    | (refine And.intro (by first | assumption | decide) ?_; try cbv)
    | (intro β2; try cbv))
  refine htk _ _ _ _ s true _ _ hs rfl rfl rfl fun s1 ok1 v1 h1 => ?_
  obtain ⟨h1a, h1b⟩ := h1
  have e1 : (s1, ok1) = tkS s 1 := h1a
  have l1 : s1.length ≤ maxLen := by have := tkS_len s 1; rw [← e1] at this; exact Nat.le_trans this hs
  cbv
  refine htk _ _ _ _ s1 ok1 _ _ l1 rfl rfl rfl fun s2 ok2 v2 h2 => ?_
  obtain ⟨h2a, h2b⟩ := h2
  have e2 : (s2, ok2) = tkS s 2 := by rw [h2a, e1]; rfl
  have v1e : rw = v1 := by rw [h1b, hrw]; rfl
  have v2e : rq = v2 := by rw [h2b, hrq, e1]; rfl
  have l2 : s2.length ≤ maxLen := by have := tkS_len s 2; rw [← e2] at this; exact Nat.le_trans this hs
  rw [← e2] at hrd hro
  subst v1e v2e
  have c1 := hread s2 l2
  have c2 := hone rw rq s2 l2
  rw [← hrd] at c1 c2
  clear h1a h1b h2a h2b hread hone e1 l1 e2
  simp only [] at hro
  generalize eF s2 = e at c1 hro
  generalize oF rw rq s2 = q0 at c2 hro
  cbv
  intro β5
  cbv
  repeat' (first
    | (refine And.intro (by first | assumption | decide) ?_; try cbv)
    | (intro β2; try cbv))
  refine c1 _ _ ?_
  cbv
  repeat' (first
    | (refine And.intro (by first | assumption | decide) ?_; try cbv)
    | (intro β2; try cbv))
  rcases ok2 with _ | _
  · cbv
    exact hR _ _ _ _ _ _ ⟨rfl, rfl, rfl, hro.symm⟩ (Ent.refl _) ⟨rfl, rfl, Nat.zero_lt_succ 0, Nat.le_refl 3, rfl⟩
  · cbv
    repeat' (first
      | (refine And.intro (by first | assumption | decide) ?_; try cbv)
      | (intro β2; try cbv))
    refine br_cases (fun g => ?_) (fun g => ?_)
    · have he := eq_t hP g
      cbv
      repeat' (first
        | (refine And.intro (by first | assumption | decide) ?_; try cbv)
        | (intro β2; try cbv))
      refine c2 _ _ ?_
      cbv
      repeat' (first
        | (refine And.intro (by first | assumption | decide) ?_; try cbv)
        | (intro β2; try cbv))
      exact hR _ _ _ _ _ _ ⟨rfl, rfl, rfl, by rw [hro, he]; subst hP; rfl⟩ (Ent.refl _) ⟨rfl, rfl, Nat.zero_lt_succ 0, Nat.le_refl 3, rfl⟩
    · have he := eq_f hP g
      cbv
      repeat' (first
        | (refine And.intro (by first | assumption | decide) ?_; try cbv)
        | (intro β2; try cbv))
      exact hR _ _ _ _ _ _ ⟨rfl, rfl, rfl, by rw [hro, decide_eq_false he]; rfl⟩ (Ent.refl _) ⟨rfl, rfl, Nat.zero_lt_succ 0, Nat.le_refl 3, rfl⟩
theorem checkF_ok2 {d : List Part} (h : checkF d = 0) : PartsOk d := by
  have hml : maxLen = 9223372036854775807 := by decide
  obtain ⟨h1, h2, _⟩ := checkF_all h
  refine ⟨by omega, fun p hp => ?_⟩
  have := okP_bd (h2 p hp)
  exact ⟨by unfold I64; omega, by unfold I64; omega, by omega⟩
theorem readF_ok (s : List UInt8) : PartsOk (readF s).1 := by
  unfold readF
  split
  · exact ⟨Nat.zero_le _, by simp⟩
  · split
    · rename_i h; exact checkF_ok2 h.2
    · exact ⟨Nat.zero_le _, by simp⟩
theorem sp_hrv (s : List UInt8) (hs : s.length ≤ maxLen) : Spec Try.prog 70 [.str s] Hp.emp (Is (.tup [.agg (encRev (revB s)), .bool (revOk s)])) :=
  spec_pure dOk ok_hrv [.agg (encRev (revB s)), .bool (revOk s)] (.tup _ (fun v hv => by
    rcases List.mem_cons.1 hv with rfl | hv
    · exact .agg _ (by intro v hv; simp [encRev] at hv; rcases hv with rfl | rfl | rfl; exact .int _ _; exact .int _ _; exact .sl _ _ (encParts_fz _))
    · rw [List.mem_singleton.1 hv]; exact .bool _)) fun R hR => vc_hrv std rfl _ _ s hs tkC (fun s => (readF s).1.map encPart) (fun s => (readF s).2) (fun s hs => ansSame (sp_cread s hs) rfl rfl) (fun w q s => oneF ⟨w, q, (readF s).1⟩)
      (fun w q s hs => ansP (sp_one ⟨w, q, (readF s).1⟩ (readF_ok s)) (fun h => .cons (.same _) .nil) rfl) (tkN s 0) (tkN s 1) _ (revOk s) rfl rfl rfl rfl R
    fun s0 s' w q d b h he hr => by
      obtain ⟨h1, h2, h3, h4⟩ := h
      refine hR s0 s' he ?_
      rw [h1, h2, h3, h4] at hr
      exact hr
def addTb (tb : Nat → Int) (w : Nat) (q n : Int) : Nat → Int := fun j => if j = 2 * w then q else if j = 2 * w + 1 then n else tb j
def rowL (gn b : Int) (tx : List UInt8) (fs tb : Nat → Int) (rv : V) (wh : Bool) (gd : Int) : List V := [.int .i64 gn, .int .i64 b, .str tx, .int .i64 (fs 0), .int .i64 (fs 1), .int .i64 (fs 2), .int .i64 (fs 3), .int .i64 (fs 4), .int .i64 (fs 5), .int .i64 (fs 6), .int .i64 (fs 7), .int .i64 (fs 8), .int .i64 (fs 9), .int .i64 (fs 10), .int .i64 (fs 11), .int .i64 (fs 12), .int .i64 (fs 13), .int .i64 (fs 14), .int .i64 (fs 15), .int .i64 (tb 0), .int .i64 (tb 1), .int .i64 (tb 2), .int .i64 (tb 3), .int .i64 (tb 4), .int .i64 (tb 5), .int .i64 (tb 6), .int .i64 (tb 7), .int .i64 (tb 8), .int .i64 (tb 9), .int .i64 (tb 10), .int .i64 (tb 11), .int .i64 (tb 12), .int .i64 (tb 13), .int .i64 (tb 14), .int .i64 (tb 15), rv, .bool wh, .int .i64 gd]
def obL (bl : Nat) (r : List V) : Ob := ⟨some bl, 81, 38, [r]⟩
def obV (ba : Option Nat) (rows : List (List V)) : Ob := ⟨ba, 45, 3, rows⟩
def ac_hadd : AC := .seq (.region false [
    ⟨some 3, none, .box 45 3 (.t 1)⟩])
  (.seq (.region true [
    ⟨some 4, none, .mov (.t 0)⟩,
    ⟨some 5, none, .mov (.t 0)⟩,
    ⟨some 6, none, .nilchk (.t 5)⟩,
    ⟨some 7, none, .faddr 35 (.t 6)⟩,
    ⟨some 8, none, .load1 (.t 7)⟩,
    ⟨some 9, none, .loadn 3 (.t 3)⟩,
    ⟨some 10, none, .bslice 45 3 [(.t 9)]⟩,
    ⟨some 11, none, .append 45 3 40 (.t 8) (.t 10)⟩,
    ⟨some 12, none, .nilchk (.t 4)⟩,
    ⟨some 13, none, .faddr 35 (.t 12)⟩,
    ⟨none, none, .store 1 (.t 13) (.t 11)⟩])
  (.region true [
    ⟨some 14, none, .mov (.t 0)⟩,
    ⟨some 15, none, .faddr 0 (.t 3)⟩,
    ⟨some 16, none, .load1 (.t 15)⟩,
    ⟨some 17, none, .faddr 1 (.t 3)⟩,
    ⟨some 18, none, .load1 (.t 17)⟩,
    ⟨some 19, none, .mov (.t 0)⟩,
    ⟨some 20, none, .nilchk (.t 19)⟩,
    ⟨some 21, none, .faddr 1 (.t 20)⟩,
    ⟨some 22, none, .load1 (.t 21)⟩,
    ⟨some 23, none, .mov (.t 0)⟩,
    ⟨some 24, none, .nilchk (.t 23)⟩,
    ⟨some 25, none, .faddr 35 (.t 24)⟩,
    ⟨some 26, none, .load1 (.t 25)⟩,
    ⟨some 27, none, .len false (.t 26)⟩,
    ⟨some 28, none, .bin .add (.t 22) (.t 27)⟩,
    ⟨some 29, none, .build [(.int .i64 0), (.int .i64 0)] [(0, 1, (.t 18)), (1, 1, (.t 28))]⟩,
    ⟨some 30, none, .nilchk (.t 14)⟩,
    ⟨some 31, none, .faddr 19 (.t 30)⟩,
    ⟨some 32, none, .iarr 8 2 (.t 31) (.t 16)⟩,
    ⟨none, none, .store 2 (.t 32) (.t 29)⟩]))
theorem ok_hadd : FnOk Try.prog 62 Try.f62 ac_hadd [] 2 drawD := ⟨Try.func62, by decide +kernel, by kernel_rfl, by kernel_rfl, by decide +kernel⟩
theorem vc_hadd (P : Prim) (hP : P = std) (T T1 : CallT) (bl : Nat) (ba : Option Nat) (gn b gd : Int) (tx : List UInt8) (fs tb : Nat → Int) (wh : Bool) (n : Nat) (rows : List (List V)) (hn : n = rows.length) (hn2 : n ≤ 100) (w : Nat) (hw : w < 8) (wi q : Int) (hwi : wi = (w : Int)) (dr : List (List V)) (hb : 0 ≤ b ∧ b ≤ 2147483647)
    (rows' : List (List V)) (hrows' : rows' = rows ++ [[.int .i64 wi, .int .i64 q, .sl false 3 dr]]) (n' : Nat) (hn' : n' = n + 1) (v : Int) (hv : v = b + (n : Int) + 1)
    (R : S → Prop) (hR : ∀ (s0 s' : S) (ba' : Option Nat) (tb' : Nat → Int) (r2 : List (List V)) (n2 : Nat), (∀ j, tb' j = addTb tb w q v j) → r2 = rows' → n2 = n' → Ent s0 s' → resV s' [] (fun x => oneV x = .tup []) →
      agreeH [(0, ⟨some bl, 81, 38, [[.int .i64 gn, .int .i64 b, .str tx, .int .i64 (fs 0), .int .i64 (fs 1), .int .i64 (fs 2), .int .i64 (fs 3), .int .i64 (fs 4), .int .i64 (fs 5), .int .i64 (fs 6), .int .i64 (fs 7), .int .i64 (fs 8), .int .i64 (fs 9), .int .i64 (fs 10), .int .i64 (fs 11), .int .i64 (fs 12), .int .i64 (fs 13), .int .i64 (fs 14), .int .i64 (fs 15), .int .i64 (tb' 0), .int .i64 (tb' 1), .int .i64 (tb' 2), .int .i64 (tb' 3), .int .i64 (tb' 4), .int .i64 (tb' 5), .int .i64 (tb' 6), .int .i64 (tb' 7), .int .i64 (tb' 8), .int .i64 (tb' 9), .int .i64 (tb' 10), .int .i64 (tb' 11), .int .i64 (tb' 12), .int .i64 (tb' 13), .int .i64 (tb' 14), .int .i64 (tb' 15), .own 1 ba' 3 n2, .bool wh, .int .i64 gd]]⟩), (1, ⟨ba', 45, 3, r2⟩)] s' → R s0) :
    awp P T T1 ac_hadd (S0 [.ptr 0 (some bl) 38 0 0, .agg [.int .i64 wi, .int .i64 q, .sl false 3 dr]] (lookH [(0, ⟨some bl, 81, 38, [[.int .i64 gn, .int .i64 b, .str tx, .int .i64 (fs 0), .int .i64 (fs 1), .int .i64 (fs 2), .int .i64 (fs 3), .int .i64 (fs 4), .int .i64 (fs 5), .int .i64 (fs 6), .int .i64 (fs 7), .int .i64 (fs 8), .int .i64 (fs 9), .int .i64 (fs 10), .int .i64 (fs 11), .int .i64 (fs 12), .int .i64 (fs 13), .int .i64 (fs 14), .int .i64 (fs 15), .int .i64 (tb 0), .int .i64 (tb 1), .int .i64 (tb 2), .int .i64 (tb 3), .int .i64 (tb 4), .int .i64 (tb 5), .int .i64 (tb 6), .int .i64 (tb 7), .int .i64 (tb 8), .int .i64 (tb 9), .int .i64 (tb 10), .int .i64 (tb 11), .int .i64 (tb 12), .int .i64 (tb 13), .int .i64 (tb 14), .int .i64 (tb 15), .own 1 ba 3 n, .bool wh, .int .i64 gd]]⟩), (1, ⟨ba, 45, 3, rows⟩)])) R (fun _ _ => False) R := by
  have f4 : P.neP rows n := neP_of hP _ _ hn.symm
  have f5 : ∀ r, P.bytes (P.add (P.int n) (P.rlen [r])) 40 := by intro r; subst hP; show ((n : Int) + 1) * 40 ≤ _; ((try simp only [nc] at *); omega)
  have f6 : ∀ r, P.neP [r] 1 := by intro r; subst hP; rfl
  have f7 : P.rapp rows [[.int .i64 wi, .int .i64 q, .sl false 3 dr]] = rows' := by rw [hrows']; subst hP; rfl
  have f8 : ∀ r : List V, P.nadd n (P.rlenN [r]) = n' := by intro r; rw [hn']; subst hP; rfl
  have f9 : ∀ r : List V, P.int (P.nadd n (P.rlenN [r])) = (n : Int) + 1 := by intro r; rw [f8, hn', int_eq hP]; ((try simp only [nc] at *); omega)
  have g1 : ∀ r : List V, P.add b (P.int (P.nadd n (P.rlenN [r]))) = v := by intro r; rw [add_eq hP, f9, hv]; omega
  have g2 : ∀ r : List V, P.i64 (P.add b (P.int (P.nadd n (P.rlenN [r])))) := by intro r; rw [g1, hv]; exact i64I hP (by ((try simp only [nc] at *); omega))
  have q1 : P.leP 0 wi := le0 hP (by omega)
  have q2 : P.ltP wi 8 := ltI hP (by omega)
  have hNk : P.nat wi = w := by rw [hwi]; subst hP; rfl
  cbv
  repeat' (first
    | (refine And.intro (by first | assumption | decide | exact f6 _ | exact f5 _ | exact g2 _) ?_; try cbv)
    | (intro β2; try cbv))
  have hc : w = 0 ∨ w = 1 ∨ w = 2 ∨ w = 3 ∨ w = 4 ∨ w = 5 ∨ w = 6 ∨ w = 7 := by omega
  have g3 := g1 [.int .i64 wi, .int .i64 q, .sl false 3 dr]
  have g4 := f8 [.int .i64 wi, .int .i64 q, .sl false 3 dr]
  rcases hc with rfl | rfl | rfl | rfl | rfl | rfl | rfl | rfl
  · refine ⟨0, hNk, ?_⟩
    cbv
    exact hR _ _ _ (fun j => if j = 0 then q else if j = 1 then P.add b (P.int (P.nadd n (P.rlenN [[.int .i64 wi, .int .i64 q, .sl false 3 dr]]))) else tb j) _ _ (fun j => by rw [g3]; rfl) f7 g4 (Ent.refl _) rfl ⟨rfl, rfl, trivial⟩
  · refine ⟨1, hNk, ?_⟩
    cbv
    exact hR _ _ _ (fun j => if j = 2 then q else if j = 3 then P.add b (P.int (P.nadd n (P.rlenN [[.int .i64 wi, .int .i64 q, .sl false 3 dr]]))) else tb j) _ _ (fun j => by rw [g3]; rfl) f7 g4 (Ent.refl _) rfl ⟨rfl, rfl, trivial⟩
  · refine ⟨2, hNk, ?_⟩
    cbv
    exact hR _ _ _ (fun j => if j = 4 then q else if j = 5 then P.add b (P.int (P.nadd n (P.rlenN [[.int .i64 wi, .int .i64 q, .sl false 3 dr]]))) else tb j) _ _ (fun j => by rw [g3]; rfl) f7 g4 (Ent.refl _) rfl ⟨rfl, rfl, trivial⟩
  · refine ⟨3, hNk, ?_⟩
    cbv
    exact hR _ _ _ (fun j => if j = 6 then q else if j = 7 then P.add b (P.int (P.nadd n (P.rlenN [[.int .i64 wi, .int .i64 q, .sl false 3 dr]]))) else tb j) _ _ (fun j => by rw [g3]; rfl) f7 g4 (Ent.refl _) rfl ⟨rfl, rfl, trivial⟩
  · refine ⟨4, hNk, ?_⟩
    cbv
    exact hR _ _ _ (fun j => if j = 8 then q else if j = 9 then P.add b (P.int (P.nadd n (P.rlenN [[.int .i64 wi, .int .i64 q, .sl false 3 dr]]))) else tb j) _ _ (fun j => by rw [g3]; rfl) f7 g4 (Ent.refl _) rfl ⟨rfl, rfl, trivial⟩
  · refine ⟨5, hNk, ?_⟩
    cbv
    exact hR _ _ _ (fun j => if j = 10 then q else if j = 11 then P.add b (P.int (P.nadd n (P.rlenN [[.int .i64 wi, .int .i64 q, .sl false 3 dr]]))) else tb j) _ _ (fun j => by rw [g3]; rfl) f7 g4 (Ent.refl _) rfl ⟨rfl, rfl, trivial⟩
  · refine ⟨6, hNk, ?_⟩
    cbv
    exact hR _ _ _ (fun j => if j = 12 then q else if j = 13 then P.add b (P.int (P.nadd n (P.rlenN [[.int .i64 wi, .int .i64 q, .sl false 3 dr]]))) else tb j) _ _ (fun j => by rw [g3]; rfl) f7 g4 (Ent.refl _) rfl ⟨rfl, rfl, trivial⟩
  · refine ⟨7, hNk, ?_⟩
    cbv
    exact hR _ _ _ (fun j => if j = 14 then q else if j = 15 then P.add b (P.int (P.nadd n (P.rlenN [[.int .i64 wi, .int .i64 q, .sl false 3 dr]]))) else tb j) _ _ (fun j => by rw [g3]; rfl) f7 g4 (Ent.refl _) rfl ⟨rfl, rfl, trivial⟩
end Go.Proofs.Ytobngncjflogcaa.AM

set_option linter.unusedVariables false
set_option linter.unusedSimpArgs false
namespace Go.Proofs.Ytobngncjflogcaa.AM
open Go Go.RowKit
set_option maxRecDepth 100000
set_option maxHeartbeats 2000000
def V.fz2 : V → Bool
  | .own _ _ _ _ => true
  | v => V.fz1 v
theorem fz_all2 : ∀ {l : List V}, l.all V.fz2 = true → ∀ v ∈ l, Fz v
  | [], _, v, h => by cases h
  | a :: l, h, v, hv => by
    simp only [List.all_cons, Bool.and_eq_true] at h
    rcases List.mem_cons.1 hv with rfl | hv
    · have := h.1
      cases v <;> first | exact .int _ _ | exact .str _ | exact .bool _ | exact .nilsl | exact .own _ _ _ _ | (simp [V.fz2, V.fz1] at this)
    · exact fz_all2 h.2 v hv
theorem rowL_fz {gn b : Int} {tx : List UInt8} {fs tb : Nat → Int} {k n : Nat} {ba : Option Nat} {wh : Bool} {gd : Int} (bl : Nat) : (obL bl (rowL gn b tx fs tb (.own k ba 3 n) wh gd)).Fz := by
  intro r hr
  simp only [obL, List.mem_singleton] at hr
  subst hr
  refine fz_all2 ?_
  rfl
theorem obL_ren {gn b : Int} {tx : List UInt8} {fs tb : Nat → Int} {k n : Nat} {ba : Option Nat} {wh : Bool} {gd : Int} (bl : Nat) (f : Nat → Nat) : (obL bl (rowL gn b tx fs tb (.own k ba 3 n) wh gd)).ren f = obL bl (rowL gn b tx fs tb (.own (f k) ba 3 n) wh gd) := rfl
theorem encRevs_fz (l : List Rev) : ∀ r ∈ l.map encRev, ∀ v ∈ r, Fz v := by
  intro r hr v hv
  obtain ⟨x, _, rfl⟩ := List.mem_map.1 hr
  simp [encRev] at hv
  rcases hv with rfl | rfl | rfl
  · exact .int _ _
  · exact .int _ _
  · exact .sl _ _ (encParts_fz _)
theorem encRevs_sz (l : List Rev) : ∀ r ∈ l.map encRev, r.length = 3 := by
  intro r hr; obtain ⟨p, _, rfl⟩ := List.mem_map.1 hr; rfl
theorem obV_ren (ba : Option Nat) (l : List Rev) (f : Nat → Nat) : (obV ba (l.map encRev)).ren f = obV ba (l.map encRev) := by
  simp [Ob.ren, obV, List.map_map, Function.comp_def, encRev, encParts, V.rl]
theorem sp_hadd (bl : Nat) (ba : Option Nat) (gn b gd : Int) (tx : List UInt8) (fs tb : Nat → Int) (wh : Bool) (l : List Rev) (hl : l.length ≤ 100) (r : Rev) (hw : 0 ≤ r.who ∧ r.who ≤ 7) (hb : 0 ≤ b ∧ b ≤ 2147483647) :
    Spec Try.prog 62 [.ptr 0 (some bl) 38 0 0, .agg (encRev r)] (lookH [(0, obL bl (rowL gn b tx fs tb (.own 1 ba 3 l.length) wh gd)), (1, obV ba (l.map encRev))])
    (fun v h' => ∃ L', (v = .tup [] ∧ ∃ ba', L' = [(0, obL bl (rowL gn b tx fs (addTb tb r.who.toNat r.seq (b + (l.length : Int) + 1)) (.own 1 ba' 3 (l.length + 1)) wh gd)), (1, obV ba' ((l ++ [r]).map encRev))]) ∧ h' = lookH L') :=
  spec_meth dOk ok_hadd (L := [(0, obL bl (rowL gn b tx fs tb (.own 1 ba 3 l.length) wh gd)), (1, obV ba (l.map encRev))])
    (fun v L' => v = .tup [] ∧ ∃ ba', L' = [(0, obL bl (rowL gn b tx fs (addTb tb r.who.toNat r.seq (b + (l.length : Int) + 1)) (.own 1 ba' 3 (l.length + 1)) wh gd)), (1, obV ba' ((l ++ [r]).map encRev))]) fun R hR =>
    vc_hadd std rfl _ _ bl ba gn b gd tx fs tb wh l.length (l.map encRev) (by simp) hl r.who.toNat (by omega) r.who r.seq (by omega) (r.delta.map encPart) hb ((l ++ [r]).map encRev) (by simp [encRev, encParts]) (l.length + 1) rfl (b + (l.length : Int) + 1) rfl R
      fun s0 s' ba' tb' r2 n2 htb hr2 hn2 he hr ha => by
        rw [htb 0, htb 1, htb 2, htb 3, htb 4, htb 5, htb 6, htb 7, htb 8, htb 9, htb 10, htb 11, htb 12, htb 13, htb 14, htb 15, hr2, hn2] at ha
        refine hR s0 s' (.tup []) [(0, obL bl (rowL gn b tx fs (addTb tb r.who.toNat r.seq (b + (l.length : Int) + 1)) (.own 1 ba' 3 (l.length + 1)) wh gd)), (1, obV ba' ((l ++ [r]).map encRev))] he hr ha (.tup _ (fun v hv => by cases hv)) (fun p hp => ?_) ⟨rfl, ba', rfl⟩
        rcases List.mem_cons.1 hp with rfl | hp
        · exact rowL_fz bl
        · rw [List.mem_singleton.1 hp]; exact encRevs_fz _
def AddC (T : CallT) : Prop := ∀ (k ka bl : Nat) (ba : Option Nat) (gn b gd : Int) (tx : List UInt8) (fs tb : Nat → Int) (wh : Bool) (n : Nat) (rows : List (List V)) (l : List Rev) (w q : Int) (dr : List (List V)) (r : Rev) (h : Hp) (K : V → Hp → Prop), rows = l.map encRev → n = l.length → l.length ≤ 100 → (w = r.who ∧ q = r.seq ∧ dr = r.delta.map encPart) → 0 ≤ r.who ∧ r.who ≤ 7 → 0 ≤ b ∧ b ≤ 2147483647 → Nat.beq k ka = false →
  h k = some ⟨some bl, 81, 38, [[.int .i64 gn, .int .i64 b, .str tx, .int .i64 (fs 0), .int .i64 (fs 1), .int .i64 (fs 2), .int .i64 (fs 3), .int .i64 (fs 4), .int .i64 (fs 5), .int .i64 (fs 6), .int .i64 (fs 7), .int .i64 (fs 8), .int .i64 (fs 9), .int .i64 (fs 10), .int .i64 (fs 11), .int .i64 (fs 12), .int .i64 (fs 13), .int .i64 (fs 14), .int .i64 (fs 15), .int .i64 (tb 0), .int .i64 (tb 1), .int .i64 (tb 2), .int .i64 (tb 3), .int .i64 (tb 4), .int .i64 (tb 5), .int .i64 (tb 6), .int .i64 (tb 7), .int .i64 (tb 8), .int .i64 (tb 9), .int .i64 (tb 10), .int .i64 (tb 11), .int .i64 (tb 12), .int .i64 (tb 13), .int .i64 (tb 14), .int .i64 (tb 15), .own ka ba 3 n, .bool wh, .int .i64 gd]]⟩ → h ka = some ⟨ba, 45, 3, rows⟩ →
  (∀ (ba' : Option Nat) (tb' : Nat → Int) (n' : Nat) (rows' : List (List V)), tb' = addTb tb r.who.toNat r.seq (b + (l.length : Int) + 1) → n' = l.length + 1 → rows' = (l ++ [r]).map encRev → K (.tup []) (Hp.put (Hp.put h k ⟨some bl, 81, 38, [[.int .i64 gn, .int .i64 b, .str tx, .int .i64 (fs 0), .int .i64 (fs 1), .int .i64 (fs 2), .int .i64 (fs 3), .int .i64 (fs 4), .int .i64 (fs 5), .int .i64 (fs 6), .int .i64 (fs 7), .int .i64 (fs 8), .int .i64 (fs 9), .int .i64 (fs 10), .int .i64 (fs 11), .int .i64 (fs 12), .int .i64 (fs 13), .int .i64 (fs 14), .int .i64 (fs 15), .int .i64 (tb' 0), .int .i64 (tb' 1), .int .i64 (tb' 2), .int .i64 (tb' 3), .int .i64 (tb' 4), .int .i64 (tb' 5), .int .i64 (tb' 6), .int .i64 (tb' 7), .int .i64 (tb' 8), .int .i64 (tb' 9), .int .i64 (tb' 10), .int .i64 (tb' 11), .int .i64 (tb' 12), .int .i64 (tb' 13), .int .i64 (tb' 14), .int .i64 (tb' 15), .own ka ba' 3 n', .bool wh, .int .i64 gd]]⟩) ka ⟨ba', 45, 3, rows'⟩)) →
  T 62 [.ptr k (some bl) 38 0 0, .agg [.int .i64 w, .int .i64 q, .sl false 3 dr]] h K
theorem addC : AddC (CallE Try.prog) := by
  rintro k ka bl ba gn b gd tx fs tb wh n rows l w q dr r h K rfl rfl hl ⟨rfl, rfl, rfl⟩ hw hb hne hk hka hK
  have hne' : k ≠ ka := by intro e; subst e; rw [Nat.beq_refl] at hne; cases hne
  have hne2 : ¬ ka = k := fun e => hne' e.symm
  have hbk : bal [(0, k), (1, ka)] ka = 1 := by simp [bal, hne2, hne']
  have hlk : lab [(0, k), (1, ka)] 1 = ka := by simp [lab]
  refine callG (m := [(0, k), (1, ka)]) (sp_hadd bl ba gn b gd tx fs tb wh l hl r hw hb) (.cons ?_ (.cons ?_ .nil)) (fun j q hj => ?_) (fun p hp => ?_) ?_
  · have := Arg.same (h := h) (m := [(0, k), (1, ka)]) (.ptr k (some bl) 38 0 0)
    simpa [V.ren, V.rl, bal] using this
  · exact Arg.same (.agg (encRev r))
  · simp only [lookH] at hj
    split at hj
    · rename_i h0; exact ⟨(0, k), by simp, h0.symm⟩
    · split at hj
      · rename_i h0; exact ⟨(1, ka), by simp, h0.symm⟩
      · cases hj
  · simp only [List.mem_cons, List.not_mem_nil, or_false] at hp
    rcases hp with rfl | rfl
    · refine ⟨by simp [lab], by simp [bal], fun x hx => ?_⟩
      simp only [lookH, ↓reduceIte, Option.some.injEq] at hx
      subst hx
      refine ⟨?_, rowL_fz bl⟩
      rw [hk, Option.map_some]
      have := obL_ren (gn := gn) (b := b) (tx := tx) (fs := fs) (tb := tb) (k := ka) (n := l.length) (ba := ba) (wh := wh) (gd := gd) bl (bal [(0, k), (1, ka)])
      rw [hbk] at this
      exact congrArg some this
    · refine ⟨by simp [lab], hbk, fun x hx => ?_⟩
      simp [lookH] at hx
      subst hx
      refine ⟨?_, encRevs_fz _⟩
      rw [hka, Option.map_some]
      exact congrArg some (obV_ren ba l _)
  · rintro v L' ⟨rfl, ba', rfl⟩
    have e : h.upd [(0, k), (1, ka)] (lookH [(0, obL bl (rowL gn b tx fs (addTb tb r.who.toNat r.seq (b + (l.length : Int) + 1)) (.own 1 ba' 3 (l.length + 1)) wh gd)), (1, obV ba' ((l ++ [r]).map encRev))]) =
        Hp.put (Hp.put h k (obL bl (rowL gn b tx fs (addTb tb r.who.toNat r.seq (b + (l.length : Int) + 1)) (.own ka ba' 3 (l.length + 1)) wh gd))) ka (obV ba' ((l ++ [r]).map encRev)) := by
      funext i
      simp only [Hp.upd, Hp.put, List.any_cons, List.any_nil, Bool.or_false, Bool.or_eq_true, decide_eq_true_eq]
      by_cases h1 : ka = i
      · subst h1
        rw [if_pos (.inr rfl), if_pos rfl, hbk]
        show (some (obV ba' ((l ++ [r]).map encRev))).map (Ob.ren (lab [(0, k), (1, ka)])) = _
        rw [Option.map_some, obV_ren]
      · by_cases h2 : k = i
        · subst h2
          rw [if_pos (.inl rfl), if_neg (fun e => h1 e.symm), if_pos rfl]
          have hb0 : bal [(0, k), (1, ka)] k = 0 := by simp [bal]
          rw [hb0]
          show (some (obL bl (rowL gn b tx fs (addTb tb r.who.toNat r.seq (b + (l.length : Int) + 1)) (.own 1 ba' 3 (l.length + 1)) wh gd))).map (Ob.ren (lab [(0, k), (1, ka)])) = _
          rw [Option.map_some, obL_ren, hlk]
        · rw [if_neg (by rintro (h | h); exact h2 h; exact h1 h), if_neg (fun e => h1 e.symm), if_neg (fun e => h2 e.symm)]
    rw [e]
    exact hK ba' _ _ _ rfl rfl rfl
end Go.Proofs.Ytobngncjflogcaa.AM

set_option linter.unusedVariables false
set_option linter.unusedSimpArgs false
namespace Go.Proofs.Ytobngncjflogcaa.AM
open Go Go.RowKit
set_option maxRecDepth 100000
set_option maxHeartbeats 2000000
structure LogD where
  gen : Int
  base : Int
  text : List UInt8
  first : Nat → Int
  table : Nat → Int
  revs : List Rev
  whole : Bool
  good : Int
def zeroL : LogD := ⟨0, 0, [], fun _ => 0, fun _ => 0, [], false, 0⟩
def stepL (l : LogD) (now : List UInt8) (f : Frame) : Option (LogD × List UInt8) :=
  if f.kind = 3 then (if l.whole = true ∨ f.body ≠ [] then none else some (⟨l.gen, l.base, l.text, l.first, l.table, l.revs, true, l.good + ((f.body.length : Int) + 7)⟩, now))
  else if f.kind = 2 then
    (if revOk f.body = true ∧ nextF l.base l.table l.revs.length now.length (revB f.body) = 0 then
      some (⟨l.gen, l.base, l.text, l.first, addTb l.table (revB f.body).who.toNat (revB f.body).seq (l.base + (l.revs.length : Int) + 1), l.revs ++ [revB f.body], l.whole, l.good + ((f.body.length : Int) + 7)⟩, (doF (revB f.body).delta now).1) else none)
  else none
def allL : List Frame → LogD → List UInt8 → LogD
  | [], l, _ => l
  | f :: fs, l, now => match stepL l now f with
    | none => l
    | some (l2, n2) => allL fs l2 n2
def headG (g b : Int) (tx : List UInt8) (f : Nat → Int) (n : Int) : LogD := ⟨g, b, tx, f, f, [], false, n⟩
def readG (hg hb : List UInt8 → Int) (ht : List UInt8 → List UInt8) (hf : List UInt8 → Nat → Int) (ho : List UInt8 → Bool) (fs : List Frame) : LogD × Int := match fs with
  | [] => (zeroL, 7)
  | f :: fs => if f.kind ≠ 1 ∨ ho f.body = false then (zeroL, 3) else (allL fs (headG (hg f.body) (hb f.body) (ht f.body) (hf f.body) ((f.body.length : Int) + 7)) (ht f.body), 0)
def readL (fs : List Frame) : LogD × Int := readG (fun x => tkN x 0) (fun x => tkN x 1) (fun x => (tkS x 18).1) (fun x j => tkN x (j + 2)) headOk fs
def SlR (kk : Nat) (h : Hp) (rows : List (List V)) (v : V) (x : Int) : Prop := (v = .nilsl ∧ rows = [] ∧ x ≠ 0) ∨ ∃ β n, v = .own kk β 3 n ∧ h kk = some ⟨β, 45, 3, rows⟩ ∧ n = rows.length
theorem SlR.fr {kk : Nat} {h : Hp} {l : List Rev} {v : V} {x : Int} (hv : SlR kk h (l.map encRev) v x) : Fr h v (.sl false 3 (l.map encRev)) := by
  rcases hv with ⟨rfl, h0, _⟩ | ⟨β, n, rfl, h1, h2⟩
  · rw [h0]; exact .nilsl 3
  · exact .rows h1 rfl rfl h2.symm (encRevs_sz _) (encRevs_fz _)
def RetLog (rv : List RV) (kk : Nat) (l : LogD) (e : Int) (R : S → Prop) : Prop :=
  ∀ (s s' : S) (gn b gd : Int) (tx : List UInt8) (fs tb : Nat → Int) (wh : Bool) (v : V) (rows : List (List V)) (x : Int), Ent s s' → Ret rv [.agg [.int .i64 gn, .int .i64 b, .str tx, .int .i64 (fs 0), .int .i64 (fs 1), .int .i64 (fs 2), .int .i64 (fs 3), .int .i64 (fs 4), .int .i64 (fs 5), .int .i64 (fs 6), .int .i64 (fs 7), .int .i64 (fs 8), .int .i64 (fs 9), .int .i64 (fs 10), .int .i64 (fs 11), .int .i64 (fs 12), .int .i64 (fs 13), .int .i64 (fs 14), .int .i64 (fs 15), .int .i64 (tb 0), .int .i64 (tb 1), .int .i64 (tb 2), .int .i64 (tb 3), .int .i64 (tb 4), .int .i64 (tb 5), .int .i64 (tb 6), .int .i64 (tb 7), .int .i64 (tb 8), .int .i64 (tb 9), .int .i64 (tb 10), .int .i64 (tb 11), .int .i64 (tb 12), .int .i64 (tb 13), .int .i64 (tb 14), .int .i64 (tb 15), v, .bool wh, .int .i64 gd], .int .i64 x] s' → SlR kk s'.h rows v x →
    gn = l.gen ∧ b = l.base ∧ gd = l.good ∧ tx = l.text ∧ (∀ j, j < 16 → fs j = l.first j) ∧ (∀ j, j < 16 → tb j = l.table j) ∧ wh = l.whole ∧ rows = l.revs.map encRev ∧ x = e → R s
theorem arg_agg {h : Hp} {m : List (Nat × Nat)} : ∀ {l l' : List V}, Args h m l l' → l.length = l'.length ∧ ∀ (i : Nat) (v v' : V), l[i]? = some v → l'[i]? = some v' → Arg h m v v'
  | _, _, .nil => ⟨rfl, fun i v v' h1 => by cases h1⟩
  | _, _, .cons a b => by
    obtain ⟨h1, h2⟩ := arg_agg b
    refine ⟨by simp [h1], fun i v v' g1 g2 => ?_⟩
    cases i with
    | zero =>
      simp only [List.getElem?_cons_zero, Option.some.injEq] at g1 g2
      subst g1 g2; exact a
    | succ i => simp only [List.getElem?_cons_succ] at g1 g2; exact h2 i v v' g1 g2
def NxC (T : CallT) (f : Nat) (nx : Int → (Nat → Int) → Nat → Int → Rev → Int) : Prop := ∀ (k : Nat) (ba : Option Nat) (n : Nat) (rows : List (List V)) (gn b gd sz w q : Int) (tx : List UInt8) (fs tb : Nat → Int) (wh : Bool) (l : List Rev) (dr : List (List V)) (r : Rev) (h : Hp) (K : V → Hp → Prop),
  rows = l.map encRev → n = l.length → (w = r.who ∧ q = r.seq ∧ dr = r.delta.map encPart) → PartsOk r.delta → 0 ≤ b ∧ b ≤ 2147483647 → h k = some ⟨ba, 45, 3, rows⟩ →
  K (.int .i64 (nx b tb l.length sz r)) h → T f [.agg [.int .i64 gn, .int .i64 b, .str tx, .int .i64 (fs 0), .int .i64 (fs 1), .int .i64 (fs 2), .int .i64 (fs 3), .int .i64 (fs 4), .int .i64 (fs 5), .int .i64 (fs 6), .int .i64 (fs 7), .int .i64 (fs 8), .int .i64 (fs 9), .int .i64 (fs 10), .int .i64 (fs 11), .int .i64 (fs 12), .int .i64 (fs 13), .int .i64 (fs 14), .int .i64 (fs 15), .int .i64 (tb 0), .int .i64 (tb 1), .int .i64 (tb 2), .int .i64 (tb 3), .int .i64 (tb 4), .int .i64 (tb 5), .int .i64 (tb 6), .int .i64 (tb 7), .int .i64 (tb 8), .int .i64 (tb 9), .int .i64 (tb 10), .int .i64 (tb 11), .int .i64 (tb 12), .int .i64 (tb 13), .int .i64 (tb 14), .int .i64 (tb 15), .own k ba 3 n, .bool wh, .int .i64 gd], .int .i64 sz, .agg [.int .i64 w, .int .i64 q, .sl false 3 dr]] h K
theorem nxC_of {f : Nat} (hs : ∀ (gn b : Int) (tx : List UInt8) (fs tb : Nat → Int) (l : List Rev) (wh : Bool) (gd size : Int) (r : Rev), 0 ≤ b ∧ b ≤ 2147483647 → PartsOk r.delta → Spec Try.prog f [logT gn b tx fs tb (l.map encRev) wh gd, .int .i64 size, .agg (encRev r)] Hp.emp (Is (.int .i64 (nextF b tb l.length size r)))) : NxC (CallE Try.prog) f nextF := by
  rintro k ba n rows gn b gd sz w q tx fs tb wh l dr r h K rfl rfl ⟨rfl, rfl, rfl⟩ hp hb hk hK
  have hown : Arg h [] (.own k ba 3 l.length) (.sl true 3 (l.map encRev)) := .own k ba 3 l.length _ (rowsOf_own (by simp) hk) (by simp)
  obtain ⟨a1, a2⟩ := arg_agg (h := h) (m := []) (l := [.int .i64 gn, .int .i64 b, .str tx, .int .i64 (fs 0), .int .i64 (fs 1), .int .i64 (fs 2), .int .i64 (fs 3), .int .i64 (fs 4), .int .i64 (fs 5), .int .i64 (fs 6), .int .i64 (fs 7), .int .i64 (fs 8), .int .i64 (fs 9), .int .i64 (fs 10), .int .i64 (fs 11), .int .i64 (fs 12), .int .i64 (fs 13), .int .i64 (fs 14), .int .i64 (fs 15), .int .i64 (tb 0), .int .i64 (tb 1), .int .i64 (tb 2), .int .i64 (tb 3), .int .i64 (tb 4), .int .i64 (tb 5), .int .i64 (tb 6), .int .i64 (tb 7), .int .i64 (tb 8), .int .i64 (tb 9), .int .i64 (tb 10), .int .i64 (tb 11), .int .i64 (tb 12), .int .i64 (tb 13), .int .i64 (tb 14), .int .i64 (tb 15), .own k ba 3 l.length, .bool wh, .int .i64 gd]) (l' := [.int .i64 gn, .int .i64 b, .str tx, .int .i64 (fs 0), .int .i64 (fs 1), .int .i64 (fs 2), .int .i64 (fs 3), .int .i64 (fs 4), .int .i64 (fs 5), .int .i64 (fs 6), .int .i64 (fs 7), .int .i64 (fs 8), .int .i64 (fs 9), .int .i64 (fs 10), .int .i64 (fs 11), .int .i64 (fs 12), .int .i64 (fs 13), .int .i64 (fs 14), .int .i64 (fs 15), .int .i64 (tb 0), .int .i64 (tb 1), .int .i64 (tb 2), .int .i64 (tb 3), .int .i64 (tb 4), .int .i64 (tb 5), .int .i64 (tb 6), .int .i64 (tb 7), .int .i64 (tb 8), .int .i64 (tb 9), .int .i64 (tb 10), .int .i64 (tb 11), .int .i64 (tb 12), .int .i64 (tb 13), .int .i64 (tb 14), .int .i64 (tb 15), .sl true 3 (l.map encRev), .bool wh, .int .i64 gd]) (.cons (.same _) (.cons (.same _) (.cons (.same _) (.cons (.same _) (.cons (.same _) (.cons (.same _) (.cons (.same _) (.cons (.same _) (.cons (.same _) (.cons (.same _) (.cons (.same _) (.cons (.same _) (.cons (.same _) (.cons (.same _) (.cons (.same _) (.cons (.same _) (.cons (.same _) (.cons (.same _) (.cons (.same _) (.cons (.same _) (.cons (.same _) (.cons (.same _) (.cons (.same _) (.cons (.same _) (.cons (.same _) (.cons (.same _) (.cons (.same _) (.cons (.same _) (.cons (.same _) (.cons (.same _) (.cons (.same _) (.cons (.same _) (.cons (.same _) (.cons (.same _) (.cons (.same _) (.cons hown (.cons (.same _) (.cons (.same _) .nil))))))))))))))))))))))))))))))))))))))
  exact ⟨h, HEnt.refl h, call_pure (hs gn b tx fs tb l wh gd sz r hb hp) (.cons (.agg _ _ a1 a2) (.cons (.same _) (.cons (.same _) .nil))) hK⟩
def ac_hread : AC := .seq (.region false [
    ⟨some 2, none, .alloc 81 [(.int .i64 0), (.int .i64 0), (.string ⟨#[]⟩), (.int .i64 0), (.int .i64 0), (.int .i64 0), (.int .i64 0), (.int .i64 0), (.int .i64 0), (.int .i64 0), (.int .i64 0), (.int .i64 0), (.int .i64 0), (.int .i64 0), (.int .i64 0), (.int .i64 0), (.int .i64 0), (.int .i64 0), (.int .i64 0), (.int .i64 0), (.int .i64 0), (.int .i64 0), (.int .i64 0), (.int .i64 0), (.int .i64 0), (.int .i64 0), (.int .i64 0), (.int .i64 0), (.int .i64 0), (.int .i64 0), (.int .i64 0), (.int .i64 0), (.int .i64 0), (.int .i64 0), (.int .i64 0), (.slice none 0 0), (.bool false), (.int .i64 0)]⟩,
    ⟨some 3, none, .mov (.c (.int .i64 0))⟩])
  (.seq (.region false [
    ⟨some 14, none, .mov (.t 0)⟩,
    ⟨some 15, none, .call 68 [(.t 14)]⟩,
    ⟨some 13, none, .mov (.t 15)⟩,
    ⟨some 16, none, .ext 0 (.t 13)⟩,
    ⟨some 17, none, .ext 1 (.t 13)⟩,
    ⟨some 4, none, .mov (.t 16)⟩,
    ⟨some 5, none, .mov (.t 17)⟩])
  (.seq (.seq (.region false [
    ⟨some 18, none, .mov (.t 4)⟩,
    ⟨some 19, none, .len false (.t 18)⟩,
    ⟨some 20, none, .bin .eql (.t 19) (.c (.int .i64 0))⟩])
  (.cond (.t 20)
    (.seq (.region false [
      ⟨some 21, none, .build [(.int .i64 0), (.int .i64 0), (.string ⟨#[]⟩), (.int .i64 0), (.int .i64 0), (.int .i64 0), (.int .i64 0), (.int .i64 0), (.int .i64 0), (.int .i64 0), (.int .i64 0), (.int .i64 0), (.int .i64 0), (.int .i64 0), (.int .i64 0), (.int .i64 0), (.int .i64 0), (.int .i64 0), (.int .i64 0), (.int .i64 0), (.int .i64 0), (.int .i64 0), (.int .i64 0), (.int .i64 0), (.int .i64 0), (.int .i64 0), (.int .i64 0), (.int .i64 0), (.int .i64 0), (.int .i64 0), (.int .i64 0), (.int .i64 0), (.int .i64 0), (.int .i64 0), (.int .i64 0), (.slice none 0 0), (.bool false), (.int .i64 0)] []⟩,
      ⟨none, none, .store 38 (.t 2) (.t 21)⟩,
      ⟨some 3, none, .mov (.c (.int .i64 7))⟩])
    (.ret))
    (.skip)))
  (.seq (.region false [
    ⟨some 23, none, .mov (.t 4)⟩,
    ⟨some 24, none, .iaddr 2 (.t 23) (.c (.int .i64 0))⟩,
    ⟨some 25, none, .faddr 1 (.t 24)⟩,
    ⟨some 26, none, .load1 (.t 25)⟩,
    ⟨some 27, none, .call 69 [(.t 26)]⟩,
    ⟨some 22, none, .mov (.t 27)⟩,
    ⟨some 28, none, .ext 0 (.t 22)⟩,
    ⟨some 29, none, .ext 1 (.t 22)⟩,
    ⟨some 6, none, .alloc 81 [(.int .i64 0), (.int .i64 0), (.string ⟨#[]⟩), (.int .i64 0), (.int .i64 0), (.int .i64 0), (.int .i64 0), (.int .i64 0), (.int .i64 0), (.int .i64 0), (.int .i64 0), (.int .i64 0), (.int .i64 0), (.int .i64 0), (.int .i64 0), (.int .i64 0), (.int .i64 0), (.int .i64 0), (.int .i64 0), (.int .i64 0), (.int .i64 0), (.int .i64 0), (.int .i64 0), (.int .i64 0), (.int .i64 0), (.int .i64 0), (.int .i64 0), (.int .i64 0), (.int .i64 0), (.int .i64 0), (.int .i64 0), (.int .i64 0), (.int .i64 0), (.int .i64 0), (.int .i64 0), (.slice none 0 0), (.bool false), (.int .i64 0)]⟩,
    ⟨none, none, .store 38 (.t 6) (.t 28)⟩,
    ⟨some 7, none, .mov (.t 29)⟩])
  (.seq (.seq (.region false [
    ⟨some 30, none, .mov (.t 4)⟩,
    ⟨some 31, none, .iaddr 2 (.t 30) (.c (.int .i64 0))⟩,
    ⟨some 32, none, .faddr 0 (.t 31)⟩,
    ⟨some 33, none, .load1 (.t 32)⟩,
    ⟨some 34, none, .bin .neq (.t 33) (.c (.int .i64 1))⟩,
    ⟨some 35, none, .mov (.t 34)⟩,
    ⟨some 36, some (35, false), .mov (.t 7)⟩,
    ⟨some 37, some (35, false), .not (.t 36)⟩,
    ⟨some 38, none, .pick (.t 35) (.c (.bool true)) (.t 37)⟩])
  (.cond (.t 38)
    (.seq (.region false [
      ⟨some 39, none, .build [(.int .i64 0), (.int .i64 0), (.string ⟨#[]⟩), (.int .i64 0), (.int .i64 0), (.int .i64 0), (.int .i64 0), (.int .i64 0), (.int .i64 0), (.int .i64 0), (.int .i64 0), (.int .i64 0), (.int .i64 0), (.int .i64 0), (.int .i64 0), (.int .i64 0), (.int .i64 0), (.int .i64 0), (.int .i64 0), (.int .i64 0), (.int .i64 0), (.int .i64 0), (.int .i64 0), (.int .i64 0), (.int .i64 0), (.int .i64 0), (.int .i64 0), (.int .i64 0), (.int .i64 0), (.int .i64 0), (.int .i64 0), (.int .i64 0), (.int .i64 0), (.int .i64 0), (.int .i64 0), (.slice none 0 0), (.bool false), (.int .i64 0)] []⟩,
      ⟨none, none, .store 38 (.t 2) (.t 39)⟩,
      ⟨some 3, none, .mov (.c (.int .i64 3))⟩])
    (.ret))
    (.skip)))
  (.seq (.region false [
    ⟨some 40, none, .faddr 2 (.t 6)⟩,
    ⟨some 41, none, .load1 (.t 40)⟩,
    ⟨some 8, none, .mov (.t 41)⟩])
  (.seq (.region false [
    ⟨some 42, none, .mov (.t 4)⟩,
    ⟨some 43, none, .iaddr 2 (.t 42) (.c (.int .i64 0))⟩,
    ⟨some 44, none, .faddr 1 (.t 43)⟩,
    ⟨some 45, none, .load1 (.t 44)⟩,
    ⟨some 46, none, .len true (.t 45)⟩,
    ⟨some 47, none, .bin .add (.t 46) (.c (.int .i64 7))⟩,
    ⟨some 48, none, .faddr 37 (.t 6)⟩,
    ⟨none, none, .store 1 (.t 48) (.t 47)⟩])
  (.seq (.seq (.region false [
    ⟨some 49, none, .mov (.t 4)⟩,
    ⟨some 50, none, .slsl 2 (.t 49) (some (.c (.int .i64 1))) none⟩,
    ⟨some 51, none, .len false (.t 50)⟩,
    ⟨some 52, none, .mov (.c (.int .i64 0))⟩])
  (.block 0 (.loop (.seq (.region false [
      ⟨some 53, none, .bin .lss (.t 52) (.t 51)⟩])
    (.seq (.cond (.t 53)
      (.skip)
      (.exit 0))
    (.seq (.block 1 (.seq (.region false [
      ⟨some 54, none, .iaddr 2 (.t 50) (.t 52)⟩,
      ⟨some 55, none, .loadn 2 (.t 54)⟩,
      ⟨some 10, none, .alloc 139 [(.int .i64 0), (.string ⟨#[]⟩)]⟩,
      ⟨none, none, .store 2 (.t 10) (.t 55)⟩])
    (.seq (.seq (.region false [
      ⟨some 56, none, .faddr 0 (.t 10)⟩,
      ⟨some 57, none, .load1 (.t 56)⟩])
    (.block 2 (.seq (.region false [
      ⟨some 60, none, .bin .eql (.t 57) (.c (.int .i64 3))⟩,
      ⟨some 59, none, .mov (.t 60)⟩])
    (.cond (.t 59)
      (.seq (.seq (.region false [
        ⟨some 61, none, .faddr 36 (.t 6)⟩,
        ⟨some 62, none, .load1 (.t 61)⟩,
        ⟨some 63, none, .mov (.t 62)⟩,
        ⟨some 64, some (63, false), .faddr 1 (.t 10)⟩,
        ⟨some 65, some (63, false), .load1 (.t 64)⟩,
        ⟨some 66, some (63, false), .bin .neq (.t 65) (.c (.string ⟨#[]⟩))⟩,
        ⟨some 67, none, .pick (.t 63) (.c (.bool true)) (.t 66)⟩])
      (.cond (.t 67)
        (.seq (.region false [
          ⟨some 68, none, .loadn 38 (.t 6)⟩,
          ⟨none, none, .store 38 (.t 2) (.t 68)⟩,
          ⟨some 3, none, .mov (.c (.int .i64 0))⟩])
        (.ret))
        (.skip)))
      (.region false [
        ⟨some 69, none, .faddr 36 (.t 6)⟩,
        ⟨none, none, .store 1 (.t 69) (.c (.bool true))⟩]))
      (.seq (.region false [
        ⟨some 71, none, .bin .eql (.t 57) (.c (.int .i64 2))⟩,
        ⟨some 70, none, .mov (.t 71)⟩])
      (.cond (.t 70)
        (.seq (.region false [
          ⟨some 73, none, .faddr 1 (.t 10)⟩,
          ⟨some 74, none, .load1 (.t 73)⟩,
          ⟨some 75, none, .call 70 [(.t 74)]⟩,
          ⟨some 72, none, .mov (.t 75)⟩,
          ⟨some 76, none, .ext 0 (.t 72)⟩,
          ⟨some 77, none, .ext 1 (.t 72)⟩,
          ⟨some 11, none, .alloc 45 [(.int .i64 0), (.int .i64 0), (.slice none 0 0)]⟩,
          ⟨none, none, .store 3 (.t 11) (.t 76)⟩,
          ⟨some 12, none, .mov (.t 77)⟩])
        (.seq (.seq (.region false [
          ⟨some 78, none, .mov (.t 12)⟩,
          ⟨some 79, none, .not (.t 78)⟩,
          ⟨some 80, none, .mov (.t 79)⟩,
          ⟨some 81, some (80, false), .loadn 38 (.t 6)⟩,
          ⟨some 82, some (80, false), .mov (.t 8)⟩,
          ⟨some 83, some (80, false), .len true (.t 82)⟩,
          ⟨some 84, some (80, false), .loadn 3 (.t 11)⟩,
          ⟨some 85, some (80, false), .call 60 [(.t 81), (.t 83), (.t 84)]⟩,
          ⟨some 86, some (80, false), .bin .neq (.t 85) (.c (.int .i64 0))⟩,
          ⟨some 87, none, .pick (.t 80) (.c (.bool true)) (.t 86)⟩])
        (.cond (.t 87)
          (.seq (.region false [
            ⟨some 88, none, .loadn 38 (.t 6)⟩,
            ⟨none, none, .store 38 (.t 2) (.t 88)⟩,
            ⟨some 3, none, .mov (.c (.int .i64 0))⟩])
          (.ret))
          (.skip)))
        (.seq (.region false [
          ⟨some 90, none, .faddr 2 (.t 11)⟩,
          ⟨some 91, none, .load1 (.t 90)⟩,
          ⟨some 92, none, .mov (.t 8)⟩,
          ⟨some 93, none, .call 16 [(.t 91), (.t 92)]⟩,
          ⟨some 89, none, .mov (.t 93)⟩,
          ⟨some 94, none, .ext 0 (.t 89)⟩,
          ⟨some 95, none, .ext 1 (.t 89)⟩,
          ⟨some 8, none, .mov (.t 94)⟩])
        (.region false [
          ⟨some 96, none, .loadn 3 (.t 11)⟩,
          ⟨some 97, none, .call 62 [(.t 6), (.t 96)]⟩]))))
        (.seq (.region false [
          ⟨some 58, none, .loadn 38 (.t 6)⟩,
          ⟨none, none, .store 38 (.t 2) (.t 58)⟩,
          ⟨some 3, none, .mov (.c (.int .i64 0))⟩])
        (.ret))))))))
    (.region false [
      ⟨some 98, none, .faddr 37 (.t 6)⟩,
      ⟨some 99, none, .load1 (.t 98)⟩,
      ⟨some 100, none, .faddr 1 (.t 10)⟩,
      ⟨some 101, none, .load1 (.t 100)⟩,
      ⟨some 102, none, .len true (.t 101)⟩,
      ⟨some 103, none, .bin .add (.t 102) (.c (.int .i64 7))⟩,
      ⟨some 104, none, .bin .add (.t 99) (.t 103)⟩,
      ⟨some 105, none, .faddr 37 (.t 6)⟩,
      ⟨none, none, .store 1 (.t 105) (.t 104)⟩]))))
    (.region false [
      ⟨some 106, none, .bin .add (.t 52) (.c (.int .i64 1))⟩,
      ⟨some 52, none, .mov (.t 106)⟩])))))))
  (.seq (.region false [
    ⟨some 107, none, .loadn 38 (.t 6)⟩,
    ⟨none, none, .store 38 (.t 2) (.t 107)⟩,
    ⟨some 3, none, .mov (.c (.int .i64 0))⟩])
  (.ret)))))))))
theorem ok_hread : FnOk Try.prog 34 Try.f34 ac_hread [.cn 2 38, .t 3] 1 drawD := ⟨Try.func34, by decide +kernel, by kernel_rfl, by kernel_rfl, by decide +kernel⟩
theorem nextF_ok {b : Int} {tb : Nat → Int} {n : Nat} {sz : Int} {r : Rev} (h : nextF b tb n sz r = 0) : oneF r = 0 ∧ n < 64 := by
  unfold nextF at h
  by_cases h1 : oneF r ≠ 0
  · rw [if_pos h1] at h; exact absurd h h1
  · rw [if_neg h1] at h
    refine ⟨Decidable.of_not_not h1, ?_⟩
    split at h
    · exact absurd h (by decide)
    · split at h
      · exact absurd h (by decide)
      · omega
structure YRd (fs : List Frame) (L0 : LogD) (now0 : List UInt8) where
  k : Int
  pre : List Frame
  rest : List Frame
  L : LogD
  now : List UInt8
  ba : Option Nat
  n : Nat
  rows : List (List V)
  gn : Int
  b : Int
  gd : Int
  tx : List UInt8
  fs' : Nat → Int
  tb : Nat → Int
  wh : Bool
  hd : fs = pre ++ rest
  hk : k = (pre.length : Int)
  hall : allL fs L0 now0 = allL rest L now
  hn : n = L.revs.length
  hrows : rows = L.revs.map encRev
  hb0 : L.base = L0.base
  hl : L.revs.length ≤ 64
  hg : 0 ≤ L.good ∧ L.good ≤ 4007 * ((pre.length : Int) + 1)
  he : gn = L.gen ∧ b = L.base ∧ gd = L.good ∧ tx = L.text ∧ (∀ j, j < 16 → fs' j = L.first j) ∧ tb = L.table ∧ wh = L.whole
theorem vc_hread (P : Prim) (hP : P = std) (T T1 : CallT) (s : List UInt8) (Fs : List Frame) (hfs : ∀ f ∈ Fs, f.body.length ≤ 4000) (hfl : Fs.length ≤ 1048576) (frs : List (List V)) (hfrs : frs = frRows Fs) (fn : Int)
    (h1 : Ans T 68 [.str s] (.tup [.sl false 2 frs, .int .i64 fn])) (hg hb : List UInt8 → Int) (ht : List UInt8 → List UInt8) (hf : List UInt8 → Nat → Int) (ho : List UInt8 → Bool)
    (h2 : ∀ x, x.length ≤ 4000 → Ans T 69 [.str x] (.tup [.agg [.int .i64 (hg x), .int .i64 (hb x), .str (ht x), .int .i64 (hf x 0), .int .i64 (hf x 1), .int .i64 (hf x 2), .int .i64 (hf x 3), .int .i64 (hf x 4), .int .i64 (hf x 5), .int .i64 (hf x 6), .int .i64 (hf x 7), .int .i64 (hf x 8), .int .i64 (hf x 9), .int .i64 (hf x 10), .int .i64 (hf x 11), .int .i64 (hf x 12), .int .i64 (hf x 13), .int .i64 (hf x 14), .int .i64 (hf x 15), .int .i64 (hf x 0), .int .i64 (hf x 1), .int .i64 (hf x 2), .int .i64 (hf x 3), .int .i64 (hf x 4), .int .i64 (hf x 5), .int .i64 (hf x 6), .int .i64 (hf x 7), .int .i64 (hf x 8), .int .i64 (hf x 9), .int .i64 (hf x 10), .int .i64 (hf x 11), .int .i64 (hf x 12), .int .i64 (hf x 13), .int .i64 (hf x 14), .int .i64 (hf x 15), .nilsl, .bool false, .int .i64 0], .bool (ho x)])) (hbb : ∀ x, 0 ≤ hb x ∧ hb x ≤ 2147483647)
    (rw rq : List UInt8 → Int) (rd : List UInt8 → List (List V)) (ro : List UInt8 → Bool) (h3 : ∀ x, x.length ≤ 4000 → Ans T 70 [.str x] (.tup [.agg [.int .i64 (rw x), .int .i64 (rq x), .sl false 3 (rd x)], .bool (ro x)]))
    (hrv : ∀ x, rw x = (revB x).who ∧ rq x = (revB x).seq ∧ rd x = (revB x).delta.map encPart ∧ ro x = revOk x)
    (nx : Int → (Nat → Int) → Nat → Int → Rev → Int) (h4 : NxC T 60 nx) (hnx : ∀ b tb n sz r, nx b tb n sz r = nextF b tb n sz r)
    (dt : List UInt8 → List UInt8 → List UInt8) (de : List UInt8 → List UInt8 → Int) (h5 : ∀ x now, Ans T 16 [.sl false 3 (rd x), .str now] (.tup [.str (dt x now), .int .i64 (de x now)])) (hdt : ∀ x now, dt x now = (doF (revB x).delta now).1)
    (h6 : AddC T) (rl : LogD) (re : Int) (hr : readG hg hb ht hf ho Fs = (rl, re))
    (R : S → Prop) (hR : RetLog [.cn 2 38, .t 3] 1000999 rl re R) : awp P T T1 ac_hread (S0 [.str s] Hp.emp) R (fun _ _ => False) R := by
  have hl1 : P.rlen frs = (Fs.length : Int) := by rw [rlen_eq hP, hfrs]; simp [frRows]
  have z0 : P.leP 0 0 := le0 hP (by decide)
  cbv
  intro β2
  cbv
  refine h1 _ _ ?_
  cbv
  rcases Fs with _ | ⟨⟨k0, b0⟩, fs⟩
  · have e0 : P.rlen frs = 0 := by rw [hl1]; rfl
    simp only [readG, Prod.mk.injEq] at hr
    refine br_tt (eq_T hP e0) ?_
    cbv
    repeat' (first
      | (refine And.intro (by first | assumption | decide) ?_; try cbv)
      | (intro β9; try cbv))
    exact hR _ _ _ _ _ _ (fun _ => 0) (fun _ => 0) _ _ [] _ (Ent.refl _) ⟨rfl, rfl, Nat.zero_lt_succ 0, Nat.le_refl 38, rfl⟩ (.inl ⟨rfl, rfl, by decide⟩) ⟨by rw [← hr.1]; rfl, by rw [← hr.1]; rfl, by rw [← hr.1]; rfl, by rw [← hr.1]; rfl, fun _ _ => by rw [← hr.1]; rfl, fun _ _ => by rw [← hr.1]; rfl, by rw [← hr.1]; rfl, by rw [← hr.1]; rfl, hr.2⟩
  have e0 : ¬ P.rlen frs = 0 := by rw [hl1]; simp only [List.length_cons]; ((try simp only [nc] at *); omega)
  have row0 : P.row frs (P.nat 0) [.int .i64 k0, .str b0] := row_of hP (i := 0) rfl (by rw [hfrs]; rfl)
  have c2 := h2 b0 (hfs ⟨k0, b0⟩ (by simp))
  simp only [readG] at hr
  obtain ⟨L0, hL0⟩ : ∃ L, L = headG (hg b0) (hb b0) (ht b0) (hf b0) ((b0.length : Int) + 7) := ⟨_, rfl⟩
  have l01 : hg b0 = L0.gen := by rw [hL0]; rfl
  have l02 : hb b0 = L0.base := by rw [hL0]; rfl
  have l03 : ht b0 = L0.text := by rw [hL0]; rfl
  have l04 : ∀ j, hf b0 j = L0.first j := fun j => by rw [hL0]; rfl
  have l05 : hf b0 = L0.table := by rw [hL0]; rfl
  have l06 : L0.revs = [] := by rw [hL0]; rfl
  have l07 : false = L0.whole := by rw [hL0]; rfl
  have l08 : L0.good = (b0.length : Int) + 7 := by rw [hL0]; rfl
  have l09 : 0 ≤ L0.base ∧ L0.base ≤ 2147483647 := by rw [hL0]; exact hbb b0
  rw [← hL0] at hr
  clear hL0
  refine br_ff (eq_F hP e0) ?_
  cbv
  repeat' (first
    | (refine And.intro (by first | assumption | decide) ?_; try cbv)
    | (intro β9; try cbv))
  refine ⟨_, row0, ?_⟩
  cbv
  repeat' (first
    | (refine And.intro (by first | assumption | decide) ?_; try cbv)
    | (intro β9; try cbv))
  refine c2 _ _ ?_
  cbv
  intro β6
  cbv
  repeat' (first
    | (refine And.intro (by first | assumption | decide) ?_; try cbv)
    | (intro β9; try cbv))
  refine ⟨_, row0, ?_⟩
  cbv
  clear c2 h2
  have bad : (k0 ≠ 1 ∨ ho b0 = false) → zeroL = rl ∧ 3 = re := fun h => by
    rw [if_pos h] at hr; simpa using hr
  refine br_cases (fun g => ?_) (fun g => ?_)
  · obtain ⟨r1, r2⟩ := bad (.inl (ne_t hP g))
    cbv
    repeat' (first
      | (refine And.intro (by first | assumption | decide) ?_; try cbv)
      | (intro β9; try cbv))
    exact hR _ _ _ _ _ _ (fun _ => 0) (fun _ => 0) _ _ [] _ (Ent.refl _) ⟨rfl, rfl, Nat.zero_lt_succ 0, Nat.le_refl 38, rfl⟩ (.inl ⟨rfl, rfl, by decide⟩) ⟨by rw [← r1]; rfl, by rw [← r1]; rfl, by rw [← r1]; rfl, by rw [← r1]; rfl, fun _ _ => by rw [← r1]; rfl, fun _ _ => by rw [← r1]; rfl, by rw [← r1]; rfl, by rw [← r1]; rfl, r2⟩
  have hk1 : k0 = 1 := ne_f hP g
  cbv
  refine br_cases (fun g => ?_) (fun g => ?_)
  rotate_left
  · obtain ⟨r1, r2⟩ := bad (.inr g)
    cbv
    repeat' (first
      | (refine And.intro (by first | assumption | decide) ?_; try cbv)
      | (intro β9; try cbv))
    exact hR _ _ _ _ _ _ (fun _ => 0) (fun _ => 0) _ _ [] _ (Ent.refl _) ⟨rfl, rfl, Nat.zero_lt_succ 0, Nat.le_refl 38, rfl⟩ (.inl ⟨rfl, rfl, by decide⟩) ⟨by rw [← r1]; rfl, by rw [← r1]; rfl, by rw [← r1]; rfl, by rw [← r1]; rfl, fun _ _ => by rw [← r1]; rfl, fun _ _ => by rw [← r1]; rfl, by rw [← r1]; rfl, by rw [← r1]; rfl, r2⟩
  rw [if_neg (by rw [g]; simp [hk1])] at hr
  simp only [Prod.mk.injEq] at hr
  obtain ⟨hrl, hre⟩ := hr
  have hb4 : b0.length ≤ 4000 := hfs ⟨k0, b0⟩ (by simp)
  have g1 : P.add (P.slen b0) 7 = (b0.length : Int) + 7 := by rw [add_eq hP, slen_eq hP]
  have g2 : P.i64 (P.add (P.slen b0) 7) := by rw [g1]; exact i64I hP (by ((try simp only [nc] at *); omega))
  have z1 : P.leP 0 1 := le0 hP (by decide)
  have z2 : P.leP 1 (P.rlen frs) := leI hP (by rw [hl1]; simp only [List.length_cons]; ((try simp only [nc] at *); omega))
  have z3 : P.leP (P.rlen frs) (P.rlen frs) := leI hP (Int.le_refl _)
  have esub : P.rsub frs 1 (P.rlen frs) = frRows fs := by
    rw [hl1, hfrs]; subst hP
    show ((frRows (⟨k0, b0⟩ :: fs)).take ((((⟨k0, b0⟩ : Frame) :: fs).length : Int)).toNat).drop 1 = _
    rw [Int.toNat_natCast, List.take_of_length_le (by simp [frRows])]; rfl
  obtain ⟨fr2, hfr2⟩ : ∃ fr2, fr2 = P.rsub frs 1 (P.rlen frs) := ⟨_, rfl⟩
  have hl2 : P.rlen fr2 = (fs.length : Int) := by rw [rlen_eq hP, hfr2, esub]; simp [frRows]
  clear bad g
  cbv
  repeat' (first
    | (refine And.intro (by first | assumption | decide) ?_; try cbv)
    | (intro β9; try cbv))
  refine ⟨_, row0, ?_⟩
  cbv
  repeat' (first
    | (refine And.intro (by first | assumption | decide) ?_; try cbv)
    | (intro β9; try cbv))
  clear row0 e0 hl1 z2 z3 g2 z1
  rw [← hfr2]
  refine ⟨YRd fs L0 (ht b0), fun y => [(2, .ptr 2 (some β2) 38 0 0), (6, .ptr 6 (some β6) 38 0 0), (8, .str y.now), (50, .sl false 2 fr2), (51, .int .i64 (P.rlen fr2)), (52, .int .i64 y.k)],
    fun y => [(2, ⟨some β2, 81, 38, [[.int .i64 0, .int .i64 0, .str [], .int .i64 0, .int .i64 0, .int .i64 0, .int .i64 0, .int .i64 0, .int .i64 0, .int .i64 0, .int .i64 0, .int .i64 0, .int .i64 0, .int .i64 0, .int .i64 0, .int .i64 0, .int .i64 0, .int .i64 0, .int .i64 0, .int .i64 0, .int .i64 0, .int .i64 0, .int .i64 0, .int .i64 0, .int .i64 0, .int .i64 0, .int .i64 0, .int .i64 0, .int .i64 0, .int .i64 0, .int .i64 0, .int .i64 0, .int .i64 0, .int .i64 0, .int .i64 0, .nilsl, .bool false, .int .i64 0]]⟩), (6, ⟨some β6, 81, 38, [[.int .i64 y.gn, .int .i64 y.b, .str y.tx, .int .i64 (y.fs' 0), .int .i64 (y.fs' 1), .int .i64 (y.fs' 2), .int .i64 (y.fs' 3), .int .i64 (y.fs' 4), .int .i64 (y.fs' 5), .int .i64 (y.fs' 6), .int .i64 (y.fs' 7), .int .i64 (y.fs' 8), .int .i64 (y.fs' 9), .int .i64 (y.fs' 10), .int .i64 (y.fs' 11), .int .i64 (y.fs' 12), .int .i64 (y.fs' 13), .int .i64 (y.fs' 14), .int .i64 (y.fs' 15), .int .i64 (y.tb 0), .int .i64 (y.tb 1), .int .i64 (y.tb 2), .int .i64 (y.tb 3), .int .i64 (y.tb 4), .int .i64 (y.tb 5), .int .i64 (y.tb 6), .int .i64 (y.tb 7), .int .i64 (y.tb 8), .int .i64 (y.tb 9), .int .i64 (y.tb 10), .int .i64 (y.tb 11), .int .i64 (y.tb 12), .int .i64 (y.tb 13), .int .i64 (y.tb 14), .int .i64 (y.tb 15), .own 1000999 y.ba 3 y.n, .bool y.wh, .int .i64 y.gd]]⟩), (1000999, ⟨y.ba, 45, 3, y.rows⟩)], fun y => y.rest.length,
    ⟨_, Ent.nilcell (k := 6) (k' := 1000999) (ty := 45) (sz := 3) (r := 0) (c := 35) rfl rfl rfl rfl, ⟨0, [], fs, L0, ht b0, none, 0, [], hg b0, hb b0, P.add (P.slen b0) 7, ht b0, hf b0, hf b0, false, rfl, rfl, rfl, by rw [l06]; rfl, by rw [l06]; rfl, rfl, by rw [l06]; exact Nat.zero_le _, ⟨by rw [l08]; exact Int.add_nonneg (Int.natCast_nonneg _) (by decide), by rw [l08]; show (b0.length : Int) + 7 ≤ 4007 * (0 + 1); ((try simp only [nc] at *); omega)⟩, ⟨l01, l02, by rw [g1, l08], l03, fun j _ => l04 j, l05, l07⟩⟩, ⟨rfl, rfl, rfl, rfl, rfl, rfl, trivial⟩, ⟨rfl, rfl, rfl, trivial⟩⟩, ?_⟩
  rintro ⟨k, pre, rest, L, now, ba, n, rows, gn, b, gd, tx, fs', tb, wh, hd, hk, hall, hn, hrows, hb0, hlen, hgd, he⟩
  rw [hrl] at hall
  replace hk : k = (pre.length : Int) := hk
  have hlp : pre.length + rest.length = fs.length := by rw [hd]; simp
  simp only [List.length_cons] at hfl
  obtain ⟨he1, he2, he3, he4, he5, he6, he7⟩ := he
  have hnl : n = rows.length := by rw [hn, hrows]; simp
  have hbase : 0 ≤ b ∧ b ≤ 2147483647 := by rw [he2, hb0]; exact l09
  have fin : rl = L → gn = rl.gen ∧ b = rl.base ∧ gd = rl.good ∧ tx = rl.text ∧ (∀ j, j < 16 → fs' j = rl.first j) ∧ (∀ j, j < 16 → tb j = rl.table j) ∧ wh = rl.whole ∧ rows = rl.revs.map encRev ∧ (0 : Int) = re := fun h => by
    rw [h]; exact ⟨he1, he2, he3, he4, he5, fun j _ => by rw [he6], he7, hrows, hre⟩
  cbv
  refine br_cases (fun g => ?_) (fun g => ?_)
  rotate_left
  · have h6' : ¬ k < P.rlen fr2 := lt_f hP g
    rw [hl2] at h6'
    rcases rest with _ | ⟨y, rest⟩
    rotate_left
    · exfalso; simp at hlp; ((try simp only [nc] at *); omega)
    cbv
    repeat' (first
      | (refine And.intro (by first | assumption | decide) ?_; try cbv)
      | (intro β9; try cbv))
    exact hR _ _ _ _ _ _ _ _ _ _ _ _ (Ent.refl _) ⟨rfl, rfl, Nat.zero_lt_succ 0, Nat.le_refl 38, rfl⟩ (.inr ⟨ba, n, rfl, rfl, hnl⟩) (fin hall)
  have h6' : k < P.rlen fr2 := lt_t hP g
  rw [hl2] at h6'
  rcases rest with _ | ⟨⟨kd, bd⟩, rest⟩
  · exfalso; simp at hlp; ((try simp only [nc] at *); omega)
  have hbd : bd.length ≤ 4000 := hfs ⟨kd, bd⟩ (by rw [hd]; simp)
  have row1 : P.row fr2 (P.nat k) [.int .i64 kd, .str bd] := row_of hP hk (by rw [hfr2, esub, frRows, List.getElem?_map, hd]; simp [encFrame])
  have q1 : P.leP 0 k := le0 hP (by ((try simp only [nc] at *); omega))
  have q2 : P.i64 (P.add k 1) := by rw [add_eq hP]; exact i64I hP (by ((try simp only [nc] at *); omega))
  have q3 : P.add k 1 = (((pre ++ [(⟨kd, bd⟩ : Frame)]).length : Nat) : Int) := by rw [add_eq hP, hk]; simp
  have d1 : P.add (P.slen bd) 7 = (bd.length : Int) + 7 := by rw [add_eq hP, slen_eq hP]
  have d2 : P.i64 (P.add (P.slen bd) 7) := by rw [d1]; exact i64I hP (by ((try simp only [nc] at *); omega))
  have d3 : P.add gd (P.add (P.slen bd) 7) = L.good + ((bd.length : Int) + 7) := by rw [add_eq hP gd, d1, he3]
  have d4 : P.i64 (P.add gd (P.add (P.slen bd) 7)) := by rw [d3]; exact i64I hP (by ((try simp only [nc] at *); omega))
  have d5 : 0 ≤ L.good + ((bd.length : Int) + 7) ∧ L.good + ((bd.length : Int) + 7) ≤ 4007 * (((pre ++ [(⟨kd, bd⟩ : Frame)]).length : Int) + 1) := by rw [List.length_append]; simp only [List.length_cons, List.length_nil]; ((try simp only [nc] at *); omega)
  rw [allL] at hall
  unfold stepL at hall
  simp only [] at hall
  clear g
  cbv
  repeat' (first
    | (refine And.intro (by first | assumption | decide) ?_; try cbv)
    | (intro β9; try cbv))
  refine ⟨_, row1, ?_⟩
  cbv
  intro β10
  cbv
  repeat' (first
    | (refine And.intro (by first | assumption | decide) ?_; try cbv)
    | (intro β9; try cbv))
  clear row1
  refine br_cases (fun g => ?_) (fun g => ?_)
  · have hk3 : kd = 3 := eq_t hP g
    rw [if_pos hk3] at hall
    cbv
    rcases wh with _ | _
    rotate_left
    · rw [if_pos (.inl he7.symm)] at hall
      cbv
      repeat' (first
        | (refine And.intro (by first | assumption | decide) ?_; try cbv)
        | (intro β9; try cbv))
      exact hR _ _ _ _ _ _ _ _ _ _ _ _ (Ent.refl _) ⟨rfl, rfl, Nat.zero_lt_succ 0, Nat.le_refl 38, rfl⟩ (.inr ⟨ba, n, rfl, rfl, hnl⟩) (fin hall)
    · cbv
      repeat' (first
        | (refine And.intro (by first | assumption | decide) ?_; try cbv)
        | (intro β9; try cbv))
      refine br_cases (fun g => ?_) (fun g => ?_)
      · rw [if_pos (.inr (sne_t hP g))] at hall
        cbv
        repeat' (first
          | (refine And.intro (by first | assumption | decide) ?_; try cbv)
          | (intro β9; try cbv))
        exact hR _ _ _ _ _ _ _ _ _ _ _ _ (Ent.refl _) ⟨rfl, rfl, Nat.zero_lt_succ 0, Nat.le_refl 38, rfl⟩ (.inr ⟨ba, n, rfl, rfl, hnl⟩) (fin hall)
      · rw [if_neg (by rintro (h | h); rw [← he7] at h; cases h; exact h (sne_f hP g))] at hall
        cbv
        repeat' (first
          | (refine And.intro (by first | assumption | decide) ?_; try cbv)
          | (intro β9; try cbv))
        exact ⟨_, Ent.refl _, ⟨_, pre ++ [⟨kd, bd⟩], rest, ⟨L.gen, L.base, L.text, L.first, L.table, L.revs, true, L.good + ((bd.length : Int) + 7)⟩, now, ba, n, rows, gn, b, P.add gd (P.add (P.slen bd) 7), tx, fs', tb, true, by simp [hd], q3, hrl.trans hall, hn, hrows, hb0, hlen, d5, ⟨he1, he2, d3, he4, he5, he6, rfl⟩⟩, ⟨rfl, rfl, rfl, rfl, rfl, rfl, trivial⟩, ⟨rfl, rfl, rfl, trivial⟩, by simp⟩
  have hk3 : ¬ kd = 3 := eq_f hP g
  rw [if_neg hk3] at hall
  cbv
  refine br_cases (fun g => ?_) (fun g => ?_)
  rotate_left
  · have hk2 : ¬ kd = 2 := eq_f hP g
    rw [if_neg hk2] at hall
    cbv
    repeat' (first
      | (refine And.intro (by first | assumption | decide) ?_; try cbv)
      | (intro β9; try cbv))
    exact hR _ _ _ _ _ _ _ _ _ _ _ _ (Ent.refl _) ⟨rfl, rfl, Nat.zero_lt_succ 0, Nat.le_refl 38, rfl⟩ (.inr ⟨ba, n, rfl, rfl, hnl⟩) (fin hall)
  have hk2 : kd = 2 := eq_t hP g
  rw [if_pos hk2] at hall
  obtain ⟨rv, hrvd⟩ : ∃ rv, rv = revB bd := ⟨_, rfl⟩
  have c3 := h3 bd hbd
  obtain ⟨w1, w2, w3, w4⟩ := hrv bd
  have w5 := hdt bd now
  have w6 := h5 bd now
  rw [← hrvd] at w1 w2 w3 w5 hall
  rw [← w4] at hall
  rw [← w5] at hall
  have hpo : PartsOk rv.delta := by rw [hrvd]; exact readF_ok _
  have hwho : oneF rv = 0 → 0 ≤ rv.who ∧ rv.who ≤ 7 := fun h => ⟨(one_who h).1, (one_who h).2.1⟩
  clear h3 hrv hdt h5 g
  generalize ro bd = okb at c3 hall w4
  generalize rd bd = dr at c3 w3 w6
  generalize rw bd = wd at c3 w1
  generalize rq bd = qd at c3 w2
  generalize dt bd now = now2 at w6 hall
  generalize de bd now = e6 at w6
  cbv
  refine c3 _ _ ?_
  cbv
  intro β11
  cbv
  repeat' (first
    | (refine And.intro (by first | assumption | decide) ?_; try cbv)
    | (intro β9; try cbv))
  rcases okb with _ | _
  · rw [if_neg (by rintro ⟨h, _⟩; cases h)] at hall
    cbv
    repeat' (first
      | (refine And.intro (by first | assumption | decide) ?_; try cbv)
      | (intro β9; try cbv))
    exact hR _ _ _ _ _ _ _ _ _ _ _ _ (Ent.refl _) ⟨rfl, rfl, Nat.zero_lt_succ 0, Nat.le_refl 38, rfl⟩ (.inr ⟨ba, n, rfl, rfl, hnl⟩) (fin hall)
  have hnxe : nx b tb L.revs.length (P.slen now) rv = nextF L.base L.table L.revs.length now.length rv := by rw [hnx, he2, he6, slen_eq hP]
  have d6 : (bd.length : Int) + 7 = (bd.length : Int) + 7 := rfl
  cbv
  repeat' (first
    | (refine And.intro (by first | assumption | decide) ?_; try cbv)
    | (intro β9; try cbv))
  refine h4 1000999 ba n rows gn b gd (P.slen now) wd qd tx fs' tb wh L.revs dr rv _ _ hrows hn ⟨w1, w2, w3⟩ hpo hbase rfl ?_
  generalize nx b tb L.revs.length (P.slen now) rv = e0 at hnxe ⊢
  cbv
  repeat' (first
    | (refine And.intro (by first | assumption | decide) ?_; try cbv)
    | (intro β9; try cbv))
  refine br_cases (fun g => ?_) (fun g => ?_)
  · have hx := ne_t hP g
    rw [hnxe] at hx
    rw [if_neg (by rintro ⟨_, h⟩; exact hx h)] at hall
    cbv
    repeat' (first
      | (refine And.intro (by first | assumption | decide) ?_; try cbv)
      | (intro β9; try cbv))
    exact hR _ _ _ _ _ _ _ _ _ _ _ _ (Ent.refl _) ⟨rfl, rfl, Nat.zero_lt_succ 0, Nat.le_refl 38, rfl⟩ (.inr ⟨ba, n, rfl, rfl, hnl⟩) (fin hall)
  have hx := ne_f hP g
  rw [hnxe] at hx
  rw [if_pos ⟨rfl, hx⟩] at hall
  obtain ⟨x1, x2⟩ := nextF_ok hx
  cbv
  repeat' (first
    | (refine And.intro (by first | assumption | decide) ?_; try cbv)
    | (intro β9; try cbv))
  refine w6 _ _ ?_
  cbv
  repeat' (first
    | (refine And.intro (by first | assumption | decide) ?_; try cbv)
    | (intro β9; try cbv))
  refine h6 6 1000999 β6 ba gn b gd tx fs' tb wh n rows L.revs wd qd dr rv _ _ hrows hn (by omega) ⟨w1, w2, w3⟩ (hwho x1) hbase rfl rfl rfl fun ba' tb' n' rows' t1 t2 t3 => ?_
  cbv
  repeat' (first
    | (refine And.intro (by first | assumption | decide) ?_; try cbv)
    | (intro β9; try cbv))
  exact ⟨_, Ent.refl _, ⟨_, pre ++ [⟨kd, bd⟩], rest, ⟨L.gen, L.base, L.text, L.first, addTb L.table rv.who.toNat rv.seq (L.base + (L.revs.length : Int) + 1), L.revs ++ [rv], L.whole, L.good + ((bd.length : Int) + 7)⟩, now2, ba', n', rows', gn, b, P.add gd (P.add (P.slen bd) 7), tx, fs', tb', wh, by simp [hd], q3, hrl.trans hall, by rw [t2]; simp, t3, hb0, by show (L.revs ++ [rv]).length ≤ 64; simp; omega, d5, ⟨he1, he2, d3, he4, he5, by rw [t1, he6, he2], he7⟩⟩, ⟨rfl, rfl, rfl, rfl, rfl, rfl, trivial⟩, ⟨rfl, rfl, rfl, trivial⟩, by simp⟩
end Go.Proofs.Ytobngncjflogcaa.AM

set_option linter.unusedVariables false
set_option linter.unusedSimpArgs false
namespace Go.Proofs.Ytobngncjflogcaa.AM
open Go Go.RowKit
set_option maxRecDepth 100000
set_option maxHeartbeats 2000000
structure SC where
  x1 : List UInt8
  x2 : Int
  x3 : List UInt8
  x4 : Int
  at' : Int
  gn : Int
  b : Int
  tx : List UInt8
  fs : Nat → Int
  tb : Nat → Int
  wh : Bool
  gd : Int
  now : List UInt8
  sf : Int
  old : Bool
def rowS (d : SC) (rv mv : V) : List V := [.str d.x1, .int .i64 d.x2, .str d.x3, .int .i64 d.x4, .int .i64 d.at', .int .i64 d.gn, .int .i64 d.b, .str d.tx, .int .i64 (d.fs 0), .int .i64 (d.fs 1), .int .i64 (d.fs 2), .int .i64 (d.fs 3), .int .i64 (d.fs 4), .int .i64 (d.fs 5), .int .i64 (d.fs 6), .int .i64 (d.fs 7), .int .i64 (d.fs 8), .int .i64 (d.fs 9), .int .i64 (d.fs 10), .int .i64 (d.fs 11), .int .i64 (d.fs 12), .int .i64 (d.fs 13), .int .i64 (d.fs 14), .int .i64 (d.fs 15), .int .i64 (d.tb 0), .int .i64 (d.tb 1), .int .i64 (d.tb 2), .int .i64 (d.tb 3), .int .i64 (d.tb 4), .int .i64 (d.tb 5), .int .i64 (d.tb 6), .int .i64 (d.tb 7), .int .i64 (d.tb 8), .int .i64 (d.tb 9), .int .i64 (d.tb 10), .int .i64 (d.tb 11), .int .i64 (d.tb 12), .int .i64 (d.tb 13), .int .i64 (d.tb 14), .int .i64 (d.tb 15), rv, .bool d.wh, .int .i64 d.gd, .str d.now, .int .i64 d.sf, mv, .bool d.old]
def obSh (bl : Nat) (r : List V) : Ob := ⟨some bl, 87, 47, [r]⟩
theorem obSh_ren (bl : Nat) (d : SC) (rv mv : V) (f : Nat → Nat) : (obSh bl (rowS d rv mv)).ren f = obSh bl (rowS d (rv.rl f) (mv.rl f)) := rfl
theorem Fz.rl {v : V} (h : Fz v) (f : Nat → Nat) : Fz (v.rl f) := by
  cases v <;> first | exact h | exact .own _ _ _ _ | exact .ptr _ _ _ _ _ | exact .win _ _ _ _ _
theorem rowS_fz {d : SC} {rv mv : V} (h1 : Fz rv) (h2 : Fz mv) (bl : Nat) : (obSh bl (rowS d rv mv)).Fz := by
  intro r hr v hv
  simp only [obSh, List.mem_singleton] at hr
  subst hr
  simp only [rowS, List.mem_cons, List.not_mem_nil, or_false] at hv
  rcases hv with rfl | rfl | rfl | rfl | rfl | rfl | rfl | rfl | rfl | rfl | rfl | rfl | rfl | rfl | rfl | rfl | rfl | rfl | rfl | rfl | rfl | rfl | rfl | rfl | rfl | rfl | rfl | rfl | rfl | rfl | rfl | rfl | rfl | rfl | rfl | rfl | rfl | rfl | rfl | rfl | rfl | rfl | rfl | rfl | rfl | rfl | rfl
  all_goals first | exact .int _ _ | exact .str _ | exact .bool _ | exact h1 | exact h2
/-- a cell's name comes back from a call -/
def rtB (k : Nat) : V → Bool
  | .own j _ _ _ => !(Nat.beq j 0) || Nat.beq k 0
  | .ptr j _ _ _ _ => !(Nat.beq j 0) || Nat.beq k 0
  | .win .. => false
  | _ => true
theorem lab_bal1 {k j : Nat} (h : (!(Nat.beq j 0) || Nat.beq k 0) = true) : lab [(0, k)] (bal [(0, k)] j) = j := by
  simp only [Bool.or_eq_true, Bool.not_eq_true'] at h
  unfold bal bal
  by_cases hj : j = k
  · rw [if_pos hj]; simp [lab, hj]
  · rw [if_neg hj]
    unfold lab lab
    rcases h with h | h
    · have : ¬ j = 0 := fun e => by subst e; cases h
      rw [if_neg this]
    · have : k = 0 := Nat.eq_of_beq_eq_true h
      by_cases h0 : j = 0
      · rw [if_pos h0]; omega
      · rw [if_neg h0]
theorem rt_ok {k : Nat} {v : V} (h : rtB k v = true) : (v.rl (bal [(0, k)])).rl (lab [(0, k)]) = v := by
  cases v <;> first | rfl | (simp only [V.rl]; rw [lab_bal1 h]) | cases h
def WQ (rv mv : V) : Prop := (Fz rv ∧ V.one rv = true) ∧ Fz mv ∧ V.one mv = true
def OQ (ba : Option Nat) (n : Nat) (rv mv : V) : Prop := (∃ j, rv = .own j ba 3 n) ∧ Fz mv ∧ V.one mv = true
theorem one_rl {v : V} (h : V.one v = true) (f : Nat → Nat) : V.one (v.rl f) = true := by cases v <;> first | exact h | rfl
theorem WQ.rl {rv mv : V} (h : WQ rv mv) (g : Nat → Nat) : WQ (rv.rl g) (mv.rl g) := ⟨⟨h.1.1.rl g, one_rl h.1.2 g⟩, h.2.1.rl g, one_rl h.2.2 g⟩
theorem OQ.rl {ba : Option Nat} {n : Nat} {rv mv : V} (h : OQ ba n rv mv) (g : Nat → Nat) : OQ ba n (rv.rl g) (mv.rl g) := by
  obtain ⟨⟨j, rfl⟩, h⟩ := h
  exact ⟨⟨g j, rfl⟩, h.1.rl g, one_rl h.2 g⟩
theorem OQ.wq {ba : Option Nat} {n : Nat} {rv mv : V} (h : OQ ba n rv mv) : WQ rv mv := by
  obtain ⟨⟨j, rfl⟩, h⟩ := h
  exact ⟨⟨.own _ _ _ _, rfl⟩, h⟩
/-- a method that is handed the shop alone -/
theorem callS {P : Program} {Q : V → V → Prop} {f k bl : Nat} {rest : List V} {d : SC} {rv mv v : V} {d' : SC} (hQ : ∀ g, Q (rv.rl g) (mv.rl g)) (hs : ∀ rv mv, Q rv mv → Spec P f (.ptr 0 (some bl) 47 0 0 :: rest) (lookH [(0, obSh bl (rowS d rv mv))]) fun x h' => ∃ L', (x = v ∧ L' = [(0, obSh bl (rowS d' rv mv))]) ∧ h' = lookH L')
    (hrest : rest.all V.pl = true) (hv : ∀ g, v.ren g = v) (h1 : Fz rv) (h2 : Fz mv) (r1 : rtB k rv = true) (r2 : rtB k mv = true) {h : Hp} {K : V → Hp → Prop} (hk : h k = some (obSh bl (rowS d rv mv))) (hK : K v (Hp.put h k (obSh bl (rowS d' rv mv)))) : CallE P f (.ptr k (some bl) 47 0 0 :: rest) h K := by
  refine callG (m := [(0, k)]) (hs (rv.rl (bal [(0, k)])) (mv.rl (bal [(0, k)])) (hQ _)) (.cons ?_ (args_plain hrest)) (fun j q hj => ?_) (fun p hp => ?_) ?_
  · have := Arg.same (h := h) (m := [(0, k)]) (.ptr k (some bl) 47 0 0)
    simpa [V.ren, V.rl, bal] using this
  · simp only [lookH] at hj
    split at hj
    · rename_i h0; exact ⟨(0, k), by simp, h0.symm⟩
    · cases hj
  · simp only [List.mem_singleton] at hp
    subst hp
    refine ⟨by simp [lab], by simp [bal], fun q hq => ?_⟩
    simp only [lookH, ↓reduceIte, Option.some.injEq] at hq
    subst hq
    refine ⟨?_, rowS_fz (h1.rl _) (h2.rl _) bl⟩
    rw [hk, Option.map_some]
    exact congrArg some (obSh_ren bl d rv mv _)
  · rintro x L' ⟨rfl, rfl⟩
    have e : h.upd [(0, k)] (lookH [(0, obSh bl (rowS d' (rv.rl (bal [(0, k)])) (mv.rl (bal [(0, k)]))))]) = Hp.put h k (obSh bl (rowS d' rv mv)) := by
      funext i
      simp only [Hp.upd, Hp.put, List.any_cons, List.any_nil, Bool.or_false, decide_eq_true_eq]
      by_cases hi : k = i
      · subst hi
        have hb0 : bal [(0, k)] k = 0 := by simp [bal]
        rw [if_pos rfl, if_pos rfl, hb0]
        show (some (obSh bl (rowS d' (rv.rl (bal [(0, k)])) (mv.rl (bal [(0, k)]))))).map (Ob.ren (lab [(0, k)])) = _
        rw [Option.map_some, obSh_ren, rt_ok r1, rt_ok r2]
      · rw [if_neg hi, if_neg fun e => hi e.symm]
    rw [e, hv]
    exact hK
/-- the same, only read -/
theorem callSP {P : Program} {Q : V → V → Prop} {f k bl : Nat} {rest : List V} {d : SC} {rv mv v : V} (hQ : ∀ g, Q (rv.rl g) (mv.rl g)) (hs : ∀ rv mv, Q rv mv → Spec P f (.ptr 0 (some bl) 47 0 0 :: rest) (lookH [(0, obSh bl (rowS d rv mv))]) fun x h' => ∃ L', (x = v ∧ L' = [(0, obSh bl (rowS d rv mv))]) ∧ h' = lookH L')
    (hrest : rest.all V.pl = true) (hv : ∀ g, v.ren g = v) (h1 : Fz rv) (h2 : Fz mv) {h : Hp} {K : V → Hp → Prop} (hk : h k = some (obSh bl (rowS d rv mv))) (hK : K v h) : CallP P f (.ptr k (some bl) 47 0 0 :: rest) h K := by
  have hs0 := hs (rv.rl (bal [(0, k)])) (mv.rl (bal [(0, k)])) (hQ _)
  refine ⟨[(0, k)], _, lookH [(0, obSh bl (rowS d (rv.rl (bal [(0, k)])) (mv.rl (bal [(0, k)]))))], v, ⟨hs0.fn, fun C us a1 a2 a3 a4 => (hs0.run C us a1 a2 a3 a4).mono ?_⟩, .cons ?_ (args_plain hrest), fun j q hj => ?_, fun p hp => ?_, by rw [hv]; exact hK⟩
  · rintro e w' ⟨u, x, h', F', e1, e2, e3, L', ⟨rfl, rfl⟩, rfl⟩
    exact ⟨u, _, _, F', e1, e2, e3, rfl, rfl⟩
  · have := Arg.same (h := h) (m := [(0, k)]) (.ptr k (some bl) 47 0 0)
    simpa [V.ren, V.rl, bal] using this
  · simp only [lookH] at hj
    split at hj
    · rename_i h0; exact ⟨(0, k), by simp, h0.symm⟩
    · cases hj
  · simp only [List.mem_singleton] at hp
    subst hp
    refine ⟨by simp [lab], by simp [bal], _, by simp [lookH]; rfl, ?_, rowS_fz (h1.rl _) (h2.rl _) bl⟩
    rw [hk, Option.map_some]
    exact congrArg some (obSh_ren bl d rv mv _)
def putS (d : SC) (i : Int) (t : List UInt8) : SC := { d with x1 := (appT d.x1 d.x2 d.x3 d.x4 i t).x1, x2 := (appT d.x1 d.x2 d.x3 d.x4 i t).x2, x3 := (appT d.x1 d.x2 d.x3 d.x4 i t).x3, x4 := (appT d.x1 d.x2 d.x3 d.x4 i t).x4 }
def ac_sput : AC := .region false [
    ⟨some 7, none, .mov (.t 0)⟩,
    ⟨some 8, none, .mov (.t 0)⟩,
    ⟨some 9, none, .nilchk (.t 8)⟩,
    ⟨some 10, none, .faddr 0 (.t 9)⟩,
    ⟨some 11, none, .loadn 4 (.t 10)⟩,
    ⟨some 12, none, .mov (.t 1)⟩,
    ⟨some 13, none, .mov (.t 2)⟩,
    ⟨some 14, none, .call 95 [(.t 11), (.t 12), (.t 13)]⟩,
    ⟨some 6, none, .mov (.t 14)⟩,
    ⟨some 15, none, .ext 0 (.t 6)⟩,
    ⟨some 16, none, .ext 1 (.t 6)⟩,
    ⟨some 17, none, .nilchk (.t 7)⟩,
    ⟨some 18, none, .faddr 0 (.t 17)⟩,
    ⟨none, none, .store 4 (.t 18) (.t 15)⟩]
theorem ok_sput : FnOk Try.prog 58 Try.f58 ac_sput [] 3 drawD := ⟨Try.func58, by decide +kernel, by kernel_rfl, by kernel_rfl, by decide +kernel⟩
theorem vc_sput (P : Prim) (hP : P = std) (T T1 : CallT) (bl : Nat) (d : SC) (rv mv : V) (hv1 : V.one rv = true) (hv2 : V.one mv = true) (i : Int) (t : List UInt8) (y1 : List UInt8) (y2 : Int) (y3 : List UInt8) (y4 e : Int) (h1 : Ans T 95 [.agg [.str d.x1, .int .i64 d.x2, .str d.x3, .int .i64 d.x4], .int .i64 i, .str t] (.tup [.agg [.str y1, .int .i64 y2, .str y3, .int .i64 y4], .int .i64 e]))
    (R : S → Prop) (hR : ∀ s s', Ent s s' → agreeH [(0, obSh bl (rowS { d with x1 := y1, x2 := y2, x3 := y3, x4 := y4 } rv mv))] s' → R s) : awp P T T1 ac_sput (S0 [.ptr 0 (some bl) 47 0 0, .int .i64 i, .str t] (lookH [(0, obSh bl (rowS d rv mv))])) R (fun _ _ => False) R := by
  cbv
  repeat' (first
    | (refine And.intro (by first | assumption | decide) ?_; try cbv)
    | (intro β2; try cbv))
  refine h1 _ _ ?_
  cbv
  repeat' (first
    | (refine And.intro (by first | assumption | decide) ?_; try cbv)
    | (intro β2; try cbv))
  exact hR _ _ (Ent.refl _) ⟨rfl, trivial⟩
theorem sp_sput (bl : Nat) (d : SC) (i : Int) (t : List UInt8) (ht : t.length ≤ 140737488355328) (rv mv : V) (hq : WQ rv mv) : Spec Try.prog 58 [.ptr 0 (some bl) 47 0 0, .int .i64 i, .str t] (lookH [(0, obSh bl (rowS d rv mv))]) fun x h' => ∃ L', (x = .tup [] ∧ L' = [(0, obSh bl (rowS (putS d i t) rv mv))]) ∧ h' = lookH L' :=
  spec_meth dOk ok_sput (L := [(0, obSh bl (rowS d rv mv))]) (fun x L' => x = .tup [] ∧ L' = [(0, obSh bl (rowS (putS d i t) rv mv))]) fun R hR =>
    vc_sput std rfl _ _ bl d rv mv hq.1.2 hq.2.2 i t _ _ _ _ _ (ansW (sp_dap d.x1 d.x2 d.x3 d.x4 i t ht) (fun _ => (.cons (.same _) (.cons (.same _) (.cons (.same _) .nil)))) rfl) R fun s s' he ha => hR s s' (.tup []) [(0, obSh bl (rowS (putS d i t) rv mv))] he (by rfl) ha (.tup _ (fun v hv => by cases hv)) (fun p hp => by rw [List.mem_singleton.1 hp]; exact rowS_fz hq.1.1 hq.2.1 bl) ⟨rfl, rfl⟩
def synS (d : SC) (i : Int) : SC := { d with x1 := (synT d.x1 d.x2 d.x3 d.x4 i).x1, x2 := (synT d.x1 d.x2 d.x3 d.x4 i).x2, x3 := (synT d.x1 d.x2 d.x3 d.x4 i).x3, x4 := (synT d.x1 d.x2 d.x3 d.x4 i).x4 }
def ac_ssyn : AC := .region false [
    ⟨some 5, none, .mov (.t 0)⟩,
    ⟨some 6, none, .mov (.t 0)⟩,
    ⟨some 7, none, .nilchk (.t 6)⟩,
    ⟨some 8, none, .faddr 0 (.t 7)⟩,
    ⟨some 9, none, .loadn 4 (.t 8)⟩,
    ⟨some 10, none, .mov (.t 1)⟩,
    ⟨some 11, none, .call 72 [(.t 9), (.t 10)]⟩,
    ⟨some 4, none, .mov (.t 11)⟩,
    ⟨some 12, none, .ext 0 (.t 4)⟩,
    ⟨some 13, none, .ext 1 (.t 4)⟩,
    ⟨some 14, none, .nilchk (.t 5)⟩,
    ⟨some 15, none, .faddr 0 (.t 14)⟩,
    ⟨none, none, .store 4 (.t 15) (.t 12)⟩]
theorem ok_ssyn : FnOk Try.prog 36 Try.f36 ac_ssyn [] 2 drawD := ⟨Try.func36, by decide +kernel, by kernel_rfl, by kernel_rfl, by decide +kernel⟩
theorem vc_ssyn (P : Prim) (hP : P = std) (T T1 : CallT) (bl : Nat) (d : SC) (rv mv : V) (hv1 : V.one rv = true) (hv2 : V.one mv = true) (i : Int) (y1 : List UInt8) (y2 : Int) (y3 : List UInt8) (y4 e : Int) (h1 : Ans T 72 [.agg [.str d.x1, .int .i64 d.x2, .str d.x3, .int .i64 d.x4], .int .i64 i] (.tup [.agg [.str y1, .int .i64 y2, .str y3, .int .i64 y4], .int .i64 e]))
    (R : S → Prop) (hR : ∀ s s', Ent s s' → agreeH [(0, obSh bl (rowS { d with x1 := y1, x2 := y2, x3 := y3, x4 := y4 } rv mv))] s' → R s) : awp P T T1 ac_ssyn (S0 [.ptr 0 (some bl) 47 0 0, .int .i64 i] (lookH [(0, obSh bl (rowS d rv mv))])) R (fun _ _ => False) R := by
  cbv
  repeat' (first
    | (refine And.intro (by first | assumption | decide) ?_; try cbv)
    | (intro β2; try cbv))
  refine h1 _ _ ?_
  cbv
  repeat' (first
    | (refine And.intro (by first | assumption | decide) ?_; try cbv)
    | (intro β2; try cbv))
  exact hR _ _ (Ent.refl _) ⟨rfl, trivial⟩
theorem sp_ssyn (bl : Nat) (d : SC) (i : Int) (rv mv : V) (hq : WQ rv mv) : Spec Try.prog 36 [.ptr 0 (some bl) 47 0 0, .int .i64 i] (lookH [(0, obSh bl (rowS d rv mv))]) fun x h' => ∃ L', (x = .tup [] ∧ L' = [(0, obSh bl (rowS (synS d i) rv mv))]) ∧ h' = lookH L' :=
  spec_meth dOk ok_ssyn (L := [(0, obSh bl (rowS d rv mv))]) (fun x L' => x = .tup [] ∧ L' = [(0, obSh bl (rowS (synS d i) rv mv))]) fun R hR =>
    vc_ssyn std rfl _ _ bl d rv mv hq.1.2 hq.2.2 i _ _ _ _ _ (ansW (sp_dsy d.x1 d.x2 d.x3 d.x4 i) (fun _ => (.cons (.same _) (.cons (.same _) .nil))) rfl) R fun s s' he ha => hR s s' (.tup []) [(0, obSh bl (rowS (synS d i) rv mv))] he (by rfl) ha (.tup _ (fun v hv => by cases hv)) (fun p hp => by rw [List.mem_singleton.1 hp]; exact rowS_fz hq.1.1 hq.2.1 bl) ⟨rfl, rfl⟩
def trmS (d : SC) (i n : Int) : SC := { d with x1 := (trmT d.x1 d.x2 d.x3 d.x4 i n).x1, x2 := (trmT d.x1 d.x2 d.x3 d.x4 i n).x2, x3 := (trmT d.x1 d.x2 d.x3 d.x4 i n).x3, x4 := (trmT d.x1 d.x2 d.x3 d.x4 i n).x4 }
def ac_strm : AC := .region false [
    ⟨some 7, none, .mov (.t 0)⟩,
    ⟨some 8, none, .mov (.t 0)⟩,
    ⟨some 9, none, .nilchk (.t 8)⟩,
    ⟨some 10, none, .faddr 0 (.t 9)⟩,
    ⟨some 11, none, .loadn 4 (.t 10)⟩,
    ⟨some 12, none, .mov (.t 1)⟩,
    ⟨some 13, none, .mov (.t 2)⟩,
    ⟨some 14, none, .call 71 [(.t 11), (.t 12), (.t 13)]⟩,
    ⟨some 6, none, .mov (.t 14)⟩,
    ⟨some 15, none, .ext 0 (.t 6)⟩,
    ⟨some 16, none, .ext 1 (.t 6)⟩,
    ⟨some 17, none, .nilchk (.t 7)⟩,
    ⟨some 18, none, .faddr 0 (.t 17)⟩,
    ⟨none, none, .store 4 (.t 18) (.t 15)⟩]
theorem ok_strm : FnOk Try.prog 35 Try.f35 ac_strm [] 3 drawD := ⟨Try.func35, by decide +kernel, by kernel_rfl, by kernel_rfl, by decide +kernel⟩
theorem vc_strm (P : Prim) (hP : P = std) (T T1 : CallT) (bl : Nat) (d : SC) (rv mv : V) (hv1 : V.one rv = true) (hv2 : V.one mv = true) (i n : Int) (y1 : List UInt8) (y2 : Int) (y3 : List UInt8) (y4 e : Int) (h1 : Ans T 71 [.agg [.str d.x1, .int .i64 d.x2, .str d.x3, .int .i64 d.x4], .int .i64 i, .int .i64 n] (.tup [.agg [.str y1, .int .i64 y2, .str y3, .int .i64 y4], .int .i64 e]))
    (R : S → Prop) (hR : ∀ s s', Ent s s' → agreeH [(0, obSh bl (rowS { d with x1 := y1, x2 := y2, x3 := y3, x4 := y4 } rv mv))] s' → R s) : awp P T T1 ac_strm (S0 [.ptr 0 (some bl) 47 0 0, .int .i64 i, .int .i64 n] (lookH [(0, obSh bl (rowS d rv mv))])) R (fun _ _ => False) R := by
  cbv
  repeat' (first
    | (refine And.intro (by first | assumption | decide) ?_; try cbv)
    | (intro β2; try cbv))
  refine h1 _ _ ?_
  cbv
  repeat' (first
    | (refine And.intro (by first | assumption | decide) ?_; try cbv)
    | (intro β2; try cbv))
  exact hR _ _ (Ent.refl _) ⟨rfl, trivial⟩
theorem sp_strm (bl : Nat) (d : SC) (i n : Int) (rv mv : V) (hq : WQ rv mv) : Spec Try.prog 35 [.ptr 0 (some bl) 47 0 0, .int .i64 i, .int .i64 n] (lookH [(0, obSh bl (rowS d rv mv))]) fun x h' => ∃ L', (x = .tup [] ∧ L' = [(0, obSh bl (rowS (trmS d i n) rv mv))]) ∧ h' = lookH L' :=
  spec_meth dOk ok_strm (L := [(0, obSh bl (rowS d rv mv))]) (fun x L' => x = .tup [] ∧ L' = [(0, obSh bl (rowS (trmS d i n) rv mv))]) fun R hR =>
    vc_strm std rfl _ _ bl d rv mv hq.1.2 hq.2.2 i n _ _ _ _ _ (ansW (sp_dtr d.x1 d.x2 d.x3 d.x4 i n) (fun _ => (.cons (.same _) (.cons (.same _) (.cons (.same _) .nil)))) rfl) R fun s s' he ha => hR s s' (.tup []) [(0, obSh bl (rowS (trmS d i n) rv mv))] he (by rfl) ha (.tup _ (fun v hv => by cases hv)) (fun p hp => by rw [List.mem_singleton.1 hp]; exact rowS_fz hq.1.1 hq.2.1 bl) ⟨rfl, rfl⟩
def SPutC (T : CallT) : Prop := ∀ (k bl : Nat) (d : SC) (rv mv : V) (i : Int) (t : List UInt8) (h : Hp) (K : V → Hp → Prop), t.length ≤ 140737488355328 → WQ rv mv → rtB k rv = true → rtB k mv = true → h k = some (obSh bl (rowS d rv mv)) → (∀ d', d' = putS d i t → K (.tup []) (Hp.put h k (obSh bl (rowS d' rv mv)))) → T 58 [.ptr k (some bl) 47 0 0, .int .i64 i, .str t] h K
theorem sputC : SPutC (CallE Try.prog) := fun k bl d rv mv i t h K ht hq r1 r2 hk hK => callS (v := .tup []) (Q := WQ) (fun g => hq.rl g) (fun rv mv hq => sp_sput bl d i t ht rv mv hq) rfl (fun _ => rfl) hq.1.1 hq.2.1 r1 r2 hk (hK _ rfl)
def SSynC (T : CallT) : Prop := ∀ (k bl : Nat) (d : SC) (rv mv : V) (i : Int) (h : Hp) (K : V → Hp → Prop), WQ rv mv → rtB k rv = true → rtB k mv = true → h k = some (obSh bl (rowS d rv mv)) → (∀ d', d' = synS d i → K (.tup []) (Hp.put h k (obSh bl (rowS d' rv mv)))) → T 36 [.ptr k (some bl) 47 0 0, .int .i64 i] h K
theorem ssynC : SSynC (CallE Try.prog) := fun k bl d rv mv i h K hq r1 r2 hk hK => callS (v := .tup []) (Q := WQ) (fun g => hq.rl g) (fun rv mv hq => sp_ssyn bl d i rv mv hq) rfl (fun _ => rfl) hq.1.1 hq.2.1 r1 r2 hk (hK _ rfl)
def STrmC (T : CallT) : Prop := ∀ (k bl : Nat) (d : SC) (rv mv : V) (i n : Int) (h : Hp) (K : V → Hp → Prop), WQ rv mv → rtB k rv = true → rtB k mv = true → h k = some (obSh bl (rowS d rv mv)) → (∀ d', d' = trmS d i n → K (.tup []) (Hp.put h k (obSh bl (rowS d' rv mv)))) → T 35 [.ptr k (some bl) 47 0 0, .int .i64 i, .int .i64 n] h K
theorem strmC : STrmC (CallE Try.prog) := fun k bl d rv mv i n h K hq r1 r2 hk hK => callS (v := .tup []) (Q := WQ) (fun g => hq.rl g) (fun rv mv hq => sp_strm bl d i n rv mv hq) rfl (fun _ => rfl) hq.1.1 hq.2.1 r1 r2 hk (hK _ rfl)
end Go.Proofs.Ytobngncjflogcaa.AM
