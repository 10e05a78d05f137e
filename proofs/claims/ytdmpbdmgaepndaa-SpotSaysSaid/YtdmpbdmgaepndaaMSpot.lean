/-
  Places, as a text changes: the law SpotSays.
-/
import Derived.Test.YtdmpbdmgaepndaaMU
import Derived.Test.YtdmpbdmgaepndaaMTok4
set_option linter.unusedVariables false
set_option linter.unusedSimpArgs false
namespace Go.Proofs.Ytdmpbdmgaepndaa.AM
open Go
set_option maxRecDepth 100000
set_option maxHeartbeats 2000000
def spotF (d : List Part) (at_ : Int) (late : Bool) : Int × Int := if checkF d ≠ 0 then (0, checkF d) else if at_ < 0 ∨ inF d < at_ then (0, 1) else (spotT late (toks d) at_, 0)
def ac_spot : AC := .seq (.region false [
    ⟨some 6, none, .mov (.c (.int .i64 0))⟩,
    ⟨some 7, none, .mov (.c (.int .i64 0))⟩])
  (.seq (.region false [
    ⟨some 16, none, .mov (.t 0)⟩,
    ⟨some 17, none, .call 36 [(.t 16)]⟩,
    ⟨some 15, none, .mov (.t 17)⟩,
    ⟨some 18, none, .ext 0 (.t 15)⟩,
    ⟨some 19, none, .ext 1 (.t 15)⟩,
    ⟨some 20, none, .ext 2 (.t 15)⟩,
    ⟨some 8, none, .mov (.t 18)⟩,
    ⟨some 9, none, .mov (.t 19)⟩,
    ⟨some 10, none, .mov (.t 20)⟩])
  (.seq (.seq (.region false [
    ⟨some 21, none, .mov (.t 10)⟩,
    ⟨some 22, none, .bin .neq (.t 21) (.c (.int .i64 0))⟩])
  (.cond (.t 22)
    (.seq (.region false [
      ⟨some 23, none, .mov (.t 10)⟩,
      ⟨some 6, none, .mov (.c (.int .i64 0))⟩,
      ⟨some 7, none, .mov (.t 23)⟩])
    (.ret))
    (.skip)))
  (.seq (.seq (.region false [
    ⟨some 24, none, .mov (.t 1)⟩,
    ⟨some 25, none, .bin .lss (.t 24) (.c (.int .i64 0))⟩,
    ⟨some 26, none, .mov (.t 25)⟩,
    ⟨some 27, some (26, false), .mov (.t 1)⟩,
    ⟨some 28, some (26, false), .mov (.t 8)⟩,
    ⟨some 29, some (26, false), .bin .gtr (.t 27) (.t 28)⟩,
    ⟨some 30, none, .pick (.t 26) (.c (.bool true)) (.t 29)⟩])
  (.cond (.t 30)
    (.seq (.region false [
      ⟨some 6, none, .mov (.c (.int .i64 0))⟩,
      ⟨some 7, none, .mov (.c (.int .i64 1))⟩])
    (.ret))
    (.skip)))
  (.seq (.region false [
    ⟨some 11, none, .mov (.c (.int .i64 0))⟩,
    ⟨some 12, none, .mov (.c (.int .i64 0))⟩])
  (.seq (.seq (.region false [
    ⟨some 31, none, .mov (.t 0)⟩,
    ⟨some 32, none, .len false (.t 31)⟩,
    ⟨some 33, none, .mov (.c (.int .i64 0))⟩])
  (.block 0 (.loop (.seq (.region false [
      ⟨some 34, none, .bin .lss (.t 33) (.t 32)⟩])
    (.seq (.cond (.t 34)
      (.skip)
      (.exit 0))
    (.seq (.block 1 (.seq (.region false [
      ⟨some 35, none, .iaddr 3 (.t 31) (.t 33)⟩,
      ⟨some 36, none, .loadn 3 (.t 35)⟩,
      ⟨some 14, none, .alloc 132 [(.int .i64 0), (.int .i64 0), (.string ⟨#[]⟩)]⟩,
      ⟨none, none, .store 3 (.t 14) (.t 36)⟩])
    (.block 2 (.seq (.region false [
      ⟨some 42, none, .faddr 0 (.t 14)⟩,
      ⟨some 43, none, .load1 (.t 42)⟩,
      ⟨some 44, none, .bin .eql (.t 43) (.c (.int .i64 2))⟩,
      ⟨some 41, none, .mov (.t 44)⟩])
    (.cond (.t 41)
      (.seq (.region false [
        ⟨some 45, none, .mov (.t 11)⟩,
        ⟨some 46, none, .mov (.t 1)⟩,
        ⟨some 47, none, .bin .lss (.t 45) (.t 46)⟩,
        ⟨some 48, none, .mov (.t 47)⟩,
        ⟨some 49, some (48, false), .mov (.t 2)⟩,
        ⟨some 50, some (48, false), .mov (.t 49)⟩,
        ⟨some 51, some (50, true), .mov (.t 11)⟩,
        ⟨some 52, some (50, true), .mov (.t 1)⟩,
        ⟨some 53, some (50, true), .bin .eql (.t 51) (.t 52)⟩,
        ⟨some 54, some (48, false), .pick (.t 50) (.t 53) (.c (.bool false))⟩,
        ⟨some 55, none, .pick (.t 48) (.c (.bool true)) (.t 54)⟩])
      (.cond (.t 55)
        (.region false [
          ⟨some 56, none, .mov (.t 12)⟩,
          ⟨some 57, none, .faddr 2 (.t 14)⟩,
          ⟨some 58, none, .load1 (.t 57)⟩,
          ⟨some 59, none, .len true (.t 58)⟩,
          ⟨some 60, none, .bin .add (.t 56) (.t 59)⟩,
          ⟨some 12, none, .mov (.t 60)⟩])
        (.skip)))
      (.seq (.region false [
        ⟨some 62, none, .faddr 0 (.t 14)⟩,
        ⟨some 63, none, .load1 (.t 62)⟩,
        ⟨some 64, none, .bin .eql (.t 63) (.c (.int .i64 1))⟩,
        ⟨some 61, none, .mov (.t 64)⟩])
      (.cond (.t 61)
        (.seq (.region false [
          ⟨some 65, none, .mov (.t 12)⟩,
          ⟨some 66, none, .faddr 1 (.t 14)⟩,
          ⟨some 67, none, .load1 (.t 66)⟩,
          ⟨some 68, none, .mov (.t 1)⟩,
          ⟨some 69, none, .mov (.t 11)⟩,
          ⟨some 70, none, .bin .sub (.t 68) (.t 69)⟩,
          ⟨some 71, none, .mm false (.t 67) (.t 70)⟩,
          ⟨some 72, none, .mm true (.c (.int .i64 0)) (.t 71)⟩,
          ⟨some 73, none, .bin .add (.t 65) (.t 72)⟩,
          ⟨some 12, none, .mov (.t 73)⟩])
        (.region false [
          ⟨some 74, none, .mov (.t 11)⟩,
          ⟨some 75, none, .faddr 1 (.t 14)⟩,
          ⟨some 76, none, .load1 (.t 75)⟩,
          ⟨some 77, none, .bin .add (.t 74) (.t 76)⟩,
          ⟨some 11, none, .mov (.t 77)⟩]))
        (.region false [
          ⟨some 37, none, .mov (.t 11)⟩,
          ⟨some 38, none, .faddr 1 (.t 14)⟩,
          ⟨some 39, none, .load1 (.t 38)⟩,
          ⟨some 40, none, .bin .add (.t 37) (.t 39)⟩,
          ⟨some 11, none, .mov (.t 40)⟩]))))))))
    (.region false [
      ⟨some 78, none, .bin .add (.t 33) (.c (.int .i64 1))⟩,
      ⟨some 33, none, .mov (.t 78)⟩])))))))
  (.seq (.region false [
    ⟨some 79, none, .mov (.t 12)⟩,
    ⟨some 6, none, .mov (.t 79)⟩,
    ⟨some 7, none, .mov (.c (.int .i64 0))⟩])
  (.ret)))))))
theorem ok_spot : FnOk Try.prog 53 Try.f53 ac_spot [.t 6, .t 7] 3 drawD := ⟨Try.func53, by decide +kernel, by kernel_rfl, by kernel_rfl, by decide +kernel⟩
structure YS (d : List Part) (at_ : Int) (late : Bool) where
  k : Int
  fr : Int
  to : Int
  pre : List Part
  rest : List Part
  hd : d = pre ++ rest
  hk : k = (pre.length : Int)
  hf : fr = inF pre
  ht : 0 ≤ to ∧ to ≤ 500 * (pre.length : Int)
  hs : to + spotT late (toks rest) (at_ - fr) = spotT late (toks d) at_
theorem spot_step (late : Bool) (p : Part) (rest : List Part) (r : Int) (h : okP p) : spotT late (toks (p :: rest)) r = if p.kind = 2 then (if 0 < r ∨ late = true ∧ r = 0 then (p.text.length : Int) else 0) + spotT late (toks rest) r else (if p.kind = 1 then max 0 (min p.n r) else 0) + spotT late (toks rest) (r - p.n) := by
  have h1 := okP_bd h
  have e : ((p.n.toNat : Nat) : Int) = p.n := by omega
  simp only [toks, toks1]
  by_cases k2 : p.kind = 2
  · rw [if_pos k2, if_pos k2, spotT_put]
  · rw [if_neg k2, if_neg k2]
    split
    · rw [spotT_keep, e]
    · rw [spotT_cut, e]; omega
theorem vc_spot (P : Prim) (hP : P = std) (T T1 : CallT) (d : List Part) (at_ : Int) (late : Bool) (hat : I64 at_) (rows : List (List V)) (hrows : rows = d.map encPart) (i o c : Int) (hsz : szF d = (i, o, c))
    (hc1 : Ans T 36 [.sl true 3 rows] (.tup [.int .i64 i, .int .i64 o, .int .i64 c])) (r1 r2 : Int) (hr : spotF d at_ late = (r1, r2))
    (R : S → Prop) (hR : ∀ s s' q1 q2, q1 = r1 → q2 = r2 → Ent s s' → Ret [.t 6, .t 7] [.int .i64 q1, .int .i64 q2] s' → R s) : awp P T T1 ac_spot (S0 [.sl true 3 rows, .int .i64 at_, .bool late] Hp.emp) R (fun _ _ => False) R := by
  have h1 : P.rlen rows = (d.length : Int) := by rw [rlen_eq hP, hrows]; simp
  unfold I64 at hat
  cbv
  refine hc1 _ _ ?_
  clear hc1
  cbv
  refine br_cases (fun h => ?_) (fun h => ?_)
  · have hc : c ≠ 0 := ne_t hP h
    have hq : r1 = 0 ∧ r2 = c := by
      unfold szF at hsz
      unfold spotF at hr
      by_cases hz : checkF d = 0
      · rw [if_pos hz] at hsz; simp only [Prod.mk.injEq] at hsz; exact absurd hsz.2.2.symm hc
      · rw [if_neg hz] at hsz; rw [if_pos hz] at hr; simp only [Prod.mk.injEq] at hsz hr; exact ⟨hr.1.symm, hr.2.symm.trans hsz.2.2⟩
    cbv
    exact hR _ _ _ _ hq.1.symm hq.2.symm (Ent.refl _) rfl
  have hc : c = 0 := ne_f hP h
  have hz : checkF d = 0 := by
    unfold szF at hsz
    by_cases hz : checkF d = 0
    · exact hz
    · rw [if_neg hz] at hsz; simp only [Prod.mk.injEq] at hsz; exact hsz.2.2.trans hc
  have hi : i = inF d := by unfold szF at hsz; rw [if_pos hz] at hsz; simp only [Prod.mk.injEq] at hsz; exact hsz.1.symm
  obtain ⟨hl, hok, hin, hout, hin0, hout0⟩ := checkF_all hz
  unfold spotF at hr
  rw [if_neg (by omega)] at hr
  cbv
  by_cases hb : at_ < 0 ∨ inF d < at_
  · rw [if_pos hb] at hr
    cases hr
    repeat' (first
      | (refine br_cases (fun h => ?_) (fun h => ?_) <;> try cbv))
    all_goals first
      | exact hR _ _ _ _ rfl rfl (Ent.refl _) rfl
      | (exfalso; clear hR; subst hP; simp [std] at * <;> omega)
  rw [if_neg hb] at hr
  have hb0 : 0 ≤ at_ ∧ at_ ≤ 500 := by omega
  simp only [Prod.mk.injEq] at hr
  refine br_cases (fun h => ?_) (fun h => ?_)
  · exact absurd (lt_t hP h) (by omega)
  cbv
  refine br_cases (fun h => ?_) (fun h => ?_)
  · exact absurd (lt_t hP h) (by omega)
  cbv
  refine ⟨YS d at_ late, fun y => [(1, .int .i64 at_), (2, .bool late), (11, .int .i64 y.fr), (12, .int .i64 y.to), (31, .sl true 3 rows), (32, .int .i64 (P.rlen rows)), (33, .int .i64 y.k)],
    fun y => [], fun y => y.rest.length, ⟨_, Ent.refl _, ⟨0, 0, 0, [], d, rfl, rfl, rfl, by simp, by simp⟩, ⟨rfl, rfl, rfl, rfl, rfl, rfl, rfl, trivial⟩, trivial⟩, ?_⟩
  clear h
  rintro ⟨k, fr, to, pre, rest, hd, hk, hf, ht, hs⟩
  have hlp : pre.length + rest.length ≤ 1600 := by rw [hd] at hl; simpa using hl
  have hfb := inF_bd pre fun p hp => hok p (by simp [hd, hp])
  cbv
  refine br_cases (fun h => ?_) (fun h => ?_)
  · have h2 := lt_t hP h
    rcases rest with _ | ⟨⟨kd, pn, t⟩, rest⟩
    · exfalso; have h3 : k < P.rlen rows := h2; rw [h1, hd] at h3; simp at h3; omega
    replace hk : k = (pre.length : Int) := hk
    have hp := okP_bd (hok ⟨kd, pn, t⟩ (by simp [hd]))
    have hrow := row_at hrows hd hk P hP
    have ho : P.leP 0 k := le0 hP (by omega)
    have ho2 : P.i64 (P.add k 1) := by rw [add_eq hP]; exact i64I hP (by omega)
    simp only [] at hp
    have ho3 : P.i64 (P.add fr pn) := by rw [add_eq hP]; exact i64I hP (by omega)
    have ho4 : P.i64 (P.add to (P.slen t)) := by rw [add_eq hP, slen_eq hP]; exact i64I hP (by omega)
    have ho5 : P.i64 (P.sub at_ fr) := by rw [sub_eq hP]; exact i64I hP (by omega)
    have ho6 : P.i64 (P.add to (P.mx 0 (P.mn pn (P.sub at_ fr)))) := by
      rw [add_eq hP]; refine i64I hP ?_; subst hP; show _ ≤ to + max 0 (min pn (at_ - fr)) ∧ to + max 0 (min pn (at_ - fr)) ≤ _; omega
    have hst := spot_step late ⟨kd, pn, t⟩ rest (at_ - fr) (hok _ (by simp [hd]))
    simp only [] at hst
    cbv
    refine ⟨ho, _, hrow, ?_⟩
    cbv
    intro β
    cbv
    repeat' (first
      | (refine br_cases (fun h => ?_) (fun h => ?_) <;> try cbv)
      | (refine And.intro (by assumption) ?_; try cbv))
    all_goals
      refine ⟨_, Ent.refl _, ⟨_, _, _, pre ++ [⟨kd, pn, t⟩], rest, by simp [hd], ?_, ?_, ?_, ?_⟩, ⟨rfl, rfl, rfl, rfl, rfl, rfl, rfl, trivial⟩, trivial, by simp⟩
    all_goals (clear hR hrow ho ho2 ho3 ho4 ho5 ho6 h1; subst hP; simp [std, nc, inF_app, inF] at *)
    all_goals (first | omega | grind)
  · have h2 := lt_f hP h
    rcases rest with _ | ⟨p, rest⟩
    rotate_left
    · exfalso; replace hk : k = (pre.length : Int) := hk; have h3 : ¬ k < P.rlen rows := h2; rw [h1, hd] at h3; simp at h3; omega
    cbv
    refine hR _ _ _ _ ?_ hr.2 (Ent.refl _) rfl
    rw [← hr.1]
    simpa [toks, spotT] using hs
theorem sp_spot (d : List Part) (hd : d.length ≤ maxLen) (at_ : Int) (late : Bool) (hat : I64 at_) : Spec Try.prog 53 [.sl true 3 (d.map encPart), .int .i64 at_, .bool late] Hp.emp (Is (.tup [.int .i64 (spotF d at_ late).1, .int .i64 (spotF d at_ late).2])) :=
  spec_pure dOk ok_spot [.int .i64 (spotF d at_ late).1, .int .i64 (spotF d at_ late).2] (.tup _ (by simp; exact ⟨.int _ _, .int _ _⟩)) fun R hR => vc_spot std rfl _ _ d at_ late hat _ rfl _ _ _ rfl (ansW (sp_szs d hd) (fun h => .cons (.same _) .nil) rfl) _ _ rfl R fun s s' q1 q2 h1 h2 he hr => by subst h1 h2; exact hR s s' he hr

/-! the document's places -/
def ac_b2i : AC := .seq (.region false [
    ⟨some 2, none, .mov (.c (.int .i64 0))⟩])
  (.seq (.seq (.region false [
    ⟨some 3, none, .mov (.t 0)⟩])
  (.cond (.t 3)
    (.seq (.region false [
      ⟨some 2, none, .mov (.c (.int .i64 1))⟩])
    (.ret))
    (.skip)))
  (.seq (.region false [
    ⟨some 2, none, .mov (.c (.int .i64 0))⟩])
  (.ret)))
theorem ok_b2i : FnOk Try.prog 103 Try.f103 ac_b2i [.t 2] 1 drawD := ⟨Try.func103, by decide +kernel, by kernel_rfl, by kernel_rfl, by decide +kernel⟩
def b2iF (b : Bool) : Int := if b then 1 else 0
theorem vc_b2i (P : Prim) (T T1 : CallT) (b : Bool) (r : Int) (hr : b2iF b = r) (R : S → Prop) (hR : ∀ s s' q, q = r → Ent s s' → Ret [.t 2] [.int .i64 q] s' → R s) : awp P T T1 ac_b2i (S0 [.bool b] Hp.emp) R (fun _ _ => False) R := by
  cases b <;> (cbv; exact hR _ _ _ (by rw [← hr]; rfl) (Ent.refl _) rfl)
theorem sp_b2i (b : Bool) : Spec Try.prog 103 [.bool b] Hp.emp (Is (.int .i64 (b2iF b))) :=
  spec_pure dOk ok_b2i [.int .i64 (b2iF b)] (.int _ _) fun R hR => vc_b2i std _ _ b _ rfl R fun s s' q h he hr => by subst h; exact hR s s' he hr
theorem spotP_succ : ∀ (ps : List (List UInt8)) (ks : List Bool) (n : Nat) (p : List UInt8) (k : Bool), ps[n]? = some p → ks[n]? = some k → spotP ps ks (n + 1) = spotP ps ks n + p.length + b2iF k
  | [], ks, n, p, k, h, _ => by simp at h
  | q :: ps, [], n, p, k, _, h => by simp at h
  | q :: ps, j :: ks, 0, p, k, h1, h2 => by
    simp at h1 h2; subst h1 h2
    cases ps <;> cases ks <;> simp [spotP, b2iF]
  | q :: ps, j :: ks, n + 1, p, k, h1, h2 => by
    have := spotP_succ ps ks n p k (by simpa using h1) (by simpa using h2)
    simp only [spotP, this]
    omega
theorem spotP_bd : ∀ (ps : List (List UInt8)) (ks : List Bool) (n : Nat), 0 ≤ spotP ps ks n ∧ spotP ps ks n ≤ (ps.flatten.length : Int) + n
  | [], ks, n => by simp [spotP]
  | q :: ps, [], n => by simp [spotP]; omega
  | q :: ps, j :: ks, 0 => by simp [spotP]; omega
  | q :: ps, j :: ks, n + 1 => by
    have := spotP_bd ps ks n
    simp only [spotP, List.flatten_cons, List.length_append]
    split <;> omega
def ac_rspot : AC := .seq (.region false [
    ⟨some 6, none, .mov (.c (.int .i64 0))⟩])
  (.seq (.region false [
    ⟨some 10, none, .mov (.t 0)⟩,
    ⟨some 11, none, .call 97 [(.t 10)]⟩,
    ⟨some 7, none, .alloc 142 [(.slice none 0 0), (.slice none 0 0)]⟩,
    ⟨none, none, .store 2 (.t 7) (.t 11)⟩])
  (.seq (.region false [
    ⟨some 8, none, .mov (.c (.int .i64 0))⟩])
  (.seq (.seq (.region false [
    ⟨some 12, none, .mov (.t 1)⟩,
    ⟨some 13, none, .mov (.c (.int .i64 0))⟩])
  (.block 0 (.loop (.seq (.region false [
      ⟨some 14, none, .bin .lss (.t 13) (.t 12)⟩])
    (.seq (.cond (.t 14)
      (.skip)
      (.exit 0))
    (.seq (.block 1 (.seq (.region false [
      ⟨some 15, none, .mov (.t 13)⟩,
      ⟨some 9, none, .mov (.t 15)⟩])
    (.region true [
      ⟨some 16, none, .mov (.t 8)⟩,
      ⟨some 17, none, .faddr 0 (.t 7)⟩,
      ⟨some 18, none, .load1 (.t 17)⟩,
      ⟨some 19, none, .mov (.t 9)⟩,
      ⟨some 20, none, .iaddr 1 (.t 18) (.t 19)⟩,
      ⟨some 21, none, .load1 (.t 20)⟩,
      ⟨some 22, none, .len true (.t 21)⟩,
      ⟨some 23, none, .faddr 1 (.t 7)⟩,
      ⟨some 24, none, .load1 (.t 23)⟩,
      ⟨some 25, none, .mov (.t 9)⟩,
      ⟨some 26, none, .iaddr 1 (.t 24) (.t 25)⟩,
      ⟨some 27, none, .load1 (.t 26)⟩,
      ⟨some 28, none, .call 103 [(.t 27)]⟩,
      ⟨some 29, none, .bin .add (.t 22) (.t 28)⟩,
      ⟨some 30, none, .bin .add (.t 16) (.t 29)⟩,
      ⟨some 8, none, .mov (.t 30)⟩])))
    (.region false [
      ⟨some 31, none, .bin .add (.t 13) (.c (.int .i64 1))⟩,
      ⟨some 13, none, .mov (.t 31)⟩])))))))
  (.seq (.seq (.region false [
    ⟨some 32, none, .mov (.t 2)⟩])
  (.cond (.t 32)
    (.region false [
      ⟨some 33, none, .mov (.t 8)⟩,
      ⟨some 34, none, .faddr 0 (.t 7)⟩,
      ⟨some 35, none, .load1 (.t 34)⟩,
      ⟨some 36, none, .mov (.t 1)⟩,
      ⟨some 37, none, .iaddr 1 (.t 35) (.t 36)⟩,
      ⟨some 38, none, .load1 (.t 37)⟩,
      ⟨some 39, none, .len true (.t 38)⟩,
      ⟨some 40, none, .bin .add (.t 33) (.t 39)⟩,
      ⟨some 8, none, .mov (.t 40)⟩])
    (.skip)))
  (.seq (.region false [
    ⟨some 41, none, .mov (.t 8)⟩,
    ⟨some 6, none, .mov (.t 41)⟩])
  (.ret))))))
theorem ok_rspot : FnOk Try.prog 54 Try.f54 ac_rspot [.t 6] 3 drawD := ⟨Try.func54, by decide +kernel, by kernel_rfl, by kernel_rfl, by decide +kernel⟩
structure YRs (ps : List (List UInt8)) (ks : List Bool) (n : Nat) where
  i : Nat
  k : Int
  to : Int
  hk : k = (i : Int)
  hi : i ≤ n
  ht : to = spotP ps ks i
theorem vc_rspot (P : Prim) (hP : P = std) (T T1 : CallT) (ts : List Tok) (hts : ts.length ≤ 1000000) (n : Nat) (hn : n ≤ inT ts) (late : Bool) (rows : List (List V)) (pr kr : List (List V)) (hpr : pr = strRows (puts ts)) (hkr : kr = boolRows (kepts ts)) (at_ : Int) (hat : at_ = n)
    (hc1 : Ans T 97 [.sl true 3 rows] (.agg [.sl false 1 pr, .sl false 1 kr])) (hc2 : ∀ b, Ans T1 103 [.bool b] (.int .i64 (b2iF b))) (r : Int) (hr : spotT late ts n = r)
    (R : S → Prop) (hR : ∀ s s' q, q = r → Ent s s' → Ret [.t 6] [.int .i64 q] s' → R s) : awp P T T1 ac_rspot (S0 [.sl true 3 rows, .int .i64 at_, .bool late] Hp.emp) R (fun _ _ => False) R := by
  have hfl := puts_flat ts
  have hkl := kepts_le ts
  have hit : inT ts = (kepts ts).length := rfl
  cbv
  refine hc1 _ _ ?_
  clear hc1
  cbv
  intro β7
  cbv
  refine ⟨YRs (puts ts) (kepts ts) n, fun y => [(1, .int .i64 at_), (2, .bool late), (7, .ptr 7 (some β7) 2 0 0), (8, .int .i64 y.to), (12, .int .i64 at_), (13, .int .i64 y.k)],
    fun y => [(7, ⟨some β7, 142, 2, [[.sl false 1 pr, .sl false 1 kr]]⟩)], fun y => n - y.i, ⟨_, Ent.refl _, ⟨0, 0, 0, rfl, by omega, by obtain ⟨p, r, h⟩ := puts_ne ts; rw [h]; cases kepts ts <;> rfl⟩, ⟨rfl, rfl, rfl, rfl, rfl, rfl, trivial⟩, ⟨rfl, trivial⟩⟩, ?_⟩
  rintro ⟨i, k, to, hk, hi, ht⟩
  have hsb := spotP_bd (puts ts) (kepts ts) i
  have hpl := puts_len ts
  obtain ⟨p, hp⟩ : ∃ p, (puts ts)[i]? = some p := ⟨_, List.getElem?_eq_getElem (by omega)⟩
  have hpb := puts_bd ts p (List.mem_of_getElem? hp)
  have hrow1 : P.row pr (P.nat k) [.str p] := row_of hP hk (by rw [hpr, strRows, List.getElem?_map, hp]; rfl)
  have ho : P.leP 0 k := le0 hP (by omega)
  cbv
  refine br_cases (fun h => ?_) (fun h => ?_)
  · have h2 := lt_t hP h
    replace hk : k = (i : Int) := hk
    replace hat : at_ = (n : Int) := hat
    have hin : i < n := by omega
    obtain ⟨q, hq⟩ : ∃ q, (kepts ts)[i]? = some q := ⟨_, List.getElem?_eq_getElem (by omega)⟩
    have hrow2 : P.row kr (P.nat k) [.bool q] := row_of hP hk (by rw [hkr, boolRows, List.getElem?_map, hq]; rfl)
    have ho2 : P.i64 (P.add k 1) := by rw [add_eq hP]; exact i64I hP (by ((try simp only [nc] at *); omega))
    have hst := spotP_succ _ _ i p q hp hq
    have hbq : 0 ≤ b2iF q ∧ b2iF q ≤ 1 := by unfold b2iF; split <;> omega
    have hb2 := hc2 q
    generalize b2iF q = bq at *
    have ho3 : P.i64 (P.add (P.slen p) bq) := by rw [add_eq hP, slen_eq hP]; exact i64I hP (by ((try simp only [nc] at *); omega))
    have ho4 : P.i64 (P.add to (P.add (P.slen p) bq)) := by rw [add_eq hP, add_eq hP, slen_eq hP]; exact i64I hP (by ((try simp only [nc] at *); omega))
    cbv
    refine ⟨ho, _, hrow1, ?_⟩
    cbv
    refine ⟨ho, _, hrow2, ?_⟩
    cbv
    refine hb2 _ _ ?_
    cbv
    refine ⟨ho3, ho4, ho2, ?_⟩
    refine ⟨_, Ent.refl _, ⟨i + 1, _, _, ?_, by omega, ?_⟩, ⟨rfl, rfl, rfl, rfl, rfl, rfl, trivial⟩, ⟨rfl, trivial⟩, ?_⟩
    · have e : P.add k 1 = k + 1 := add_eq hP _ _
      show P.add k 1 = ((i + 1 : Nat) : Int)
      rw [e, hk]; ((try simp only [nc] at *); omega)
    · show P.add to (P.add (P.slen p) bq) = _
      rw [add_eq hP, add_eq hP, slen_eq hP, hst, ht]; ((try simp only [nc] at *); omega)
    · show n - (i + 1) < n - i
      omega
  · have h2 := lt_f hP h
    replace hk : k = (i : Int) := hk
    replace hat : at_ = (n : Int) := hat
    have hin : i = n := by omega
    subst hin
    have hat2 : at_ = k := by omega
    subst hat2
    have hs := spot_eq late ts i hn
    rw [List.getD_eq_getElem?_getD, hp] at hs
    simp only [Option.getD_some] at hs
    cases late
    · cbv
      refine hR _ _ _ ?_ (Ent.refl _) rfl
      rw [← hr, hs, ht]; simp
    · have ho4 : P.i64 (P.add to (P.slen p)) := by rw [add_eq hP, slen_eq hP]; exact i64I hP (by ((try simp only [nc] at *); omega))
      cbv
      refine ⟨ho, _, hrow1, ?_⟩
      cbv
      refine ⟨ho4, ?_⟩
      refine hR _ _ _ ?_ (Ent.refl _) rfl
      show P.add to (P.slen p) = r
      rw [add_eq hP, slen_eq hP, ← hr, hs, ht]; simp
theorem sp_rspot (d : List Part) (n : Nat) (late : Bool) (hd : checkF d = 0) (hn : (n : Int) ≤ inF d) : Spec Try.prog 54 [.sl true 3 (d.map encPart), .int .i64 n, .bool late] Hp.emp (Is (.int .i64 (spotT late (toks d) n))) := by
  obtain ⟨h1, h2, _⟩ := checkF_all hd
  have h3 := inT_toks d h2
  exact spec_pure dOk ok_rspot [.int .i64 (spotT late (toks d) n)] (.int _ _) fun R hR => vc_rspot std rfl _ _ (toks d) (fits_len hd) n (by omega) late _ _ _ rfl rfl _ rfl (ansW (sp_rof d h1 (ok_bd h2)) (fun h => .cons (.same _) .nil) rfl)
    (fun b => ansP (sp_b2i b) (fun h => .cons (.same _) .nil) rfl) _ rfl R fun s s' q h he hr => by subst h; exact hR s s' he hr

def ac_lspot : AC := .seq (.region false [
    ⟨some 6, none, .mov (.c (.bool false))⟩])
  (.seq (.region false [
    ⟨some 11, none, .mov (.t 0)⟩,
    ⟨some 12, none, .mov (.t 1)⟩,
    ⟨some 13, none, .mov (.t 2)⟩,
    ⟨some 14, none, .call 53 [(.t 11), (.t 12), (.t 13)]⟩,
    ⟨some 10, none, .mov (.t 14)⟩,
    ⟨some 15, none, .ext 0 (.t 10)⟩,
    ⟨some 16, none, .ext 1 (.t 10)⟩,
    ⟨some 7, none, .mov (.t 15)⟩,
    ⟨some 8, none, .mov (.t 16)⟩])
  (.seq (.region false [
    ⟨some 17, none, .mov (.t 0)⟩,
    ⟨some 18, none, .call 37 [(.t 17)]⟩,
    ⟨some 9, none, .mov (.t 18)⟩])
  (.seq (.seq (.region false [
    ⟨some 19, none, .mov (.t 9)⟩,
    ⟨some 20, none, .bin .eql (.t 19) (.c (.int .i64 0))⟩,
    ⟨some 21, none, .mov (.t 20)⟩,
    ⟨some 22, some (21, true), .mov (.t 1)⟩,
    ⟨some 23, some (21, true), .bin .lss (.t 22) (.c (.int .i64 0))⟩,
    ⟨some 24, some (21, true), .mov (.t 23)⟩,
    ⟨some 25, some (24, false), .mov (.t 1)⟩,
    ⟨some 26, some (24, false), .mov (.t 0)⟩,
    ⟨some 27, some (24, false), .call 39 [(.t 26)]⟩,
    ⟨some 28, some (24, false), .bin .gtr (.t 25) (.t 27)⟩,
    ⟨some 29, some (21, true), .pick (.t 24) (.c (.bool true)) (.t 28)⟩,
    ⟨some 30, none, .pick (.t 21) (.t 29) (.c (.bool false))⟩])
  (.cond (.t 30)
    (.region false [
      ⟨some 9, none, .mov (.c (.int .i64 1))⟩])
    (.skip)))
  (.seq (.seq (.region false [
    ⟨some 31, none, .mov (.t 9)⟩,
    ⟨some 32, none, .bin .neq (.t 31) (.c (.int .i64 0))⟩])
  (.cond (.t 32)
    (.seq (.region false [
      ⟨some 33, none, .mov (.t 8)⟩,
      ⟨some 34, none, .mov (.t 9)⟩,
      ⟨some 35, none, .bin .eql (.t 33) (.t 34)⟩,
      ⟨some 36, none, .mov (.t 35)⟩,
      ⟨some 37, some (36, true), .mov (.t 7)⟩,
      ⟨some 38, some (36, true), .bin .eql (.t 37) (.c (.int .i64 0))⟩,
      ⟨some 39, none, .pick (.t 36) (.t 38) (.c (.bool false))⟩,
      ⟨some 6, none, .mov (.t 39)⟩])
    (.ret))
    (.skip)))
  (.seq (.region false [
    ⟨some 40, none, .mov (.t 8)⟩,
    ⟨some 41, none, .bin .eql (.t 40) (.c (.int .i64 0))⟩,
    ⟨some 42, none, .mov (.t 41)⟩,
    ⟨some 43, some (42, true), .mov (.t 7)⟩,
    ⟨some 44, some (42, true), .mov (.t 0)⟩,
    ⟨some 45, some (42, true), .mov (.t 1)⟩,
    ⟨some 46, some (42, true), .mov (.t 2)⟩,
    ⟨some 47, some (42, true), .call 54 [(.t 44), (.t 45), (.t 46)]⟩,
    ⟨some 48, some (42, true), .bin .eql (.t 43) (.t 47)⟩,
    ⟨some 49, none, .pick (.t 42) (.t 48) (.c (.bool false))⟩,
    ⟨some 6, none, .mov (.t 49)⟩])
  (.ret))))))
theorem ok_lspot : FnOk Try.prog 11 Try.f11 ac_lspot [.t 6] 3 drawD := ⟨Try.func11, by decide +kernel, by kernel_rfl, by kernel_rfl, by decide +kernel⟩
theorem vc_lspot (P : Prim) (hP : P = std) (T T1 : CallT) (rows : List (List V)) (at_ : Int) (late : Bool) (c i n e : Int) (hs : (n, e) = if c ≠ 0 then (0, c) else if at_ < 0 ∨ i < at_ then (0, 1) else (n, 0))
    (hc1 : Ans T 53 [.sl false 3 rows, .int .i64 at_, .bool late] (.tup [.int .i64 n, .int .i64 e])) (hc2 : Ans T 37 [.sl false 3 rows] (.int .i64 c))
    (hc4 : c = 0 → Ans T 39 [.sl false 3 rows] (.int .i64 i)) (hc5 : c = 0 → 0 ≤ at_ → at_ ≤ i → Ans T 54 [.sl false 3 rows, .int .i64 at_, .bool late] (.int .i64 n))
    (R : S → Prop) (hR : ∀ s s', Ent s s' → Ret [.t 6] [.bool true] s' → R s) : awp P T T1 ac_lspot (S0 [.sl false 3 rows, .int .i64 at_, .bool late] Hp.emp) R (fun _ _ => False) R := by
  cbv
  refine hc1 _ _ ?_; cbv
  refine hc2 _ _ ?_; cbv
  clear hc1 hc2
  by_cases hc : c = 0
  · have hc1 := hc4 hc
    clear hc4
    by_cases hb : 0 ≤ at_ ∧ at_ ≤ i
    · have hc2 := hc5 hc hb.1 hb.2
      clear hc5
      rw [if_neg (fun h => h hc), if_neg (by omega)] at hs
      simp only [Prod.mk.injEq, true_and] at hs
      repeat' (first | (intro β; try cbv) | (refine And.intro (by assumption) ?_; try cbv) | (refine br_cases (fun h => ?_) (fun h => ?_) <;> try cbv) | (refine Exists.intro _ (And.intro (by assumption) ?_); try cbv) | (refine hc1 _ _ ?_; try cbv) | (refine hc2 _ _ ?_; try cbv) | (refine hc3 _ _ ?_; try cbv) | (refine hc4 _ _ ?_; try cbv) | (refine hc5 _ _ ?_; try cbv) | (refine hc6 _ _ ?_; try cbv) | (refine And.intro (by (clear hR; subst hP; simp [std, I64, nc] at * <;> first | omega | grind)) ?_; try cbv))
      all_goals first
        | (exfalso; clear hR hc1 hc2; subst hP; simp [std] at * <;> omega)
        | (refine hR _ _ (Ent.refl _) ?_
           cbv
           clear hR hc1 hc2; subst hP; simp [std] at *; try omega)
    · clear hc5
      have hb2 : at_ < 0 ∨ i < at_ := by omega
      clear hb
      rw [if_neg (fun h => h hc), if_pos hb2] at hs
      simp only [Prod.mk.injEq] at hs
      repeat' (first | (intro β; try cbv) | (refine And.intro (by assumption) ?_; try cbv) | (refine br_cases (fun h => ?_) (fun h => ?_) <;> try cbv) | (refine Exists.intro _ (And.intro (by assumption) ?_); try cbv) | (refine hc1 _ _ ?_; try cbv) | (refine hc2 _ _ ?_; try cbv) | (refine hc3 _ _ ?_; try cbv) | (refine hc4 _ _ ?_; try cbv) | (refine hc5 _ _ ?_; try cbv) | (refine hc6 _ _ ?_; try cbv) | (refine And.intro (by (clear hR; subst hP; simp [std, I64, nc] at * <;> first | omega | grind)) ?_; try cbv))
      all_goals first
        | (exfalso; clear hR hc1; subst hP; simp [std] at * <;> omega)
        | (refine hR _ _ (Ent.refl _) ?_
           cbv
           clear hR hc1; subst hP; simp [std] at *; try omega)
  · clear hc4 hc5
    rw [if_pos hc] at hs
    simp only [Prod.mk.injEq] at hs
    repeat' (first | (intro β; try cbv) | (refine And.intro (by assumption) ?_; try cbv) | (refine br_cases (fun h => ?_) (fun h => ?_) <;> try cbv) | (refine Exists.intro _ (And.intro (by assumption) ?_); try cbv) | (refine hc1 _ _ ?_; try cbv) | (refine hc2 _ _ ?_; try cbv) | (refine hc3 _ _ ?_; try cbv) | (refine hc4 _ _ ?_; try cbv) | (refine hc5 _ _ ?_; try cbv) | (refine hc6 _ _ ?_; try cbv) | (refine And.intro (by (clear hR; subst hP; simp [std, I64, nc] at * <;> first | omega | grind)) ?_; try cbv))
    all_goals first
      | (exfalso; clear hR; subst hP; simp [std] at * <;> omega)
      | (refine hR _ _ (Ent.refl _) ?_
         cbv
         clear hR; subst hP; simp [std] at *; try omega)
theorem ansLs {f : Nat} {d : List Part} {vs : List V} {v : V} (h : Spec Try.prog f (.sl true 3 (d.map encPart) :: vs) Hp.emp (Is v)) (hv : v.ren (lab []) = v) (hvs : vs.all V.pl = true) : Ans (CallE Try.prog) f (encParts d :: vs) v := ansW h (fun _ => .cons (.weak _ _) (args_plain hvs)) hv
theorem sp_law_spotSays (d : List Part) (at_ : Int) (late : Bool) (hd : PartsOk d) (hat : I64 at_) (_ : True) : Spec Try.prog 11 [encParts d, .int .i64 at_, .bool late] Hp.emp (Is (.bool true)) :=
  spec_pure dOk ok_lspot [.bool true] (.bool _) fun R hR => vc_lspot std rfl _ _ (d.map encPart) at_ late (checkF d) (inF d) (spotF d at_ late).1 (spotF d at_ late).2 (by unfold spotF; split <;> (try split) <;> rfl) (ansLs (sp_spot d hd.1 at_ late hat) rfl rfl) (ansL (sp_rdelta d hd.1) rfl)
    (fun h => ansL (sp_rin d (checkF_ok h).1 (chk_ok 0 d (checkF_ok h).2.1)) rfl) (fun h h0 h1 => by
      obtain ⟨n, rfl⟩ := Int.eq_ofNat_of_zero_le h0
      have := ansLs (sp_rspot d n late h h1) rfl rfl
      rw [show (spotF d (n : Int) late).1 = spotT late (toks d) n by unfold spotF; rw [if_neg (fun hh => hh h), if_neg (by omega)]]
      exact this) R hR
end Go.Proofs.Ytdmpbdmgaepndaa.AM
