/-
  Texts of the plain machine, put together.
-/
import Derived.Test.YtobngncjflogcaaBD
import Derived.Test.YtobngncjflogcaaMTopU0
import Derived.Test.YtobngncjflogcaaMInts
/-
  begun, and a history cloned. (Printed by gen_topu1.py.)
-/
set_option linter.unusedVariables false
set_option linter.unusedSimpArgs false
namespace Go.Proofs.Ytobngncjflogcaa.AM
open Go Go.RowKit
set_option maxRecDepth 100000
set_option maxHeartbeats 2000000
/-! put -/
def ac_tput : AC := .seq (.region false [
    ⟨some 2, none, .mov (.c (.slice none 0 0))⟩])
  (.seq (.region false [
    ⟨some 3, none, .mov (.t 0)⟩,
    ⟨some 4, none, .build [(.int .i64 0), (.int .i64 0), (.string ⟨#[]⟩)] [(0, 1, (.c (.int .i64 2))), (2, 1, (.t 3))]⟩,
    ⟨some 5, none, .bslice 108 3 [(.t 4)]⟩,
    ⟨some 2, none, .mov (.t 5)⟩])
  (.ret))
theorem ok_tput : FnOk Try.prog 51 Try.f51 ac_tput [.t 2] 1 drawD := ⟨Try.func51, by decide +kernel, by kernel_rfl, by kernel_rfl, by decide +kernel⟩
theorem vc_tput (P : Prim) (hP : P = std) (T T1 : CallT) (s : List UInt8) (R : S → Prop) (hR : RetSl [.t 2] 3 [[.int .i64 2, .int .i64 0, .str s]] [] R) : awp P T T1 ac_tput (S0 [.str s] Hp.emp) R (fun _ _ => False) R := by
  obtain ⟨_, hR2, _⟩ := hR
  cbv
  repeat' (first
    | (refine And.intro (by first | assumption | decide) ?_; try cbv)
    | (intro β2; try cbv))
  exact hR2 _ _ 1000005 _ _ _ _ (Ent.refl _) rfl rfl ⟨rfl, rfl⟩
theorem sp_tput (s : List UInt8) : Spec Try.prog 51 [.str s] Hp.emp (Is (encParts [⟨2, 0, s⟩])) :=
  spec_frz dOk ok_tput fun R hR => vc_tput std rfl _ _ s R (retSl_of (parts_sz [⟨2, 0, s⟩]) (encParts_fz [⟨2, 0, s⟩]) (fun v hv => by cases hv) hR)
/-! begun -/
def ac_begun : AC := .seq (.region false [
    ⟨some 0, none, .mov (.c (.bool false))⟩])
  (.seq (.region false [
    ⟨some 6, none, .call 17 []⟩,
    ⟨some 1, none, .mov (.t 6)⟩])
  (.seq (.seq (.region false [
    ⟨some 7, none, .mov (.t 1)⟩,
    ⟨some 8, none, .eqp false (.t 7) (.c (.pointer none))⟩])
  (.cond (.t 8)
    (.seq (.region false [
      ⟨some 0, none, .mov (.c (.bool false))⟩])
    (.ret))
    (.skip)))
  (.seq (.region false [
    ⟨some 10, none, .mov (.t 1)⟩,
    ⟨some 11, none, .call 51 [(.c (.string ⟨#[97]⟩))]⟩,
    ⟨some 12, none, .build [(.int .i64 0), (.int .i64 0), (.slice none 0 0)] [(0, 1, (.c (.int .i64 1))), (1, 1, (.c (.int .i64 1))), (2, 1, (.t 11))]⟩,
    ⟨some 13, none, .call 18 [(.t 10), (.t 12)]⟩,
    ⟨some 9, none, .mov (.t 13)⟩,
    ⟨some 14, none, .ext 0 (.t 9)⟩,
    ⟨some 15, none, .ext 1 (.t 9)⟩,
    ⟨some 2, none, .mov (.t 14)⟩,
    ⟨some 3, none, .mov (.t 15)⟩])
  (.seq (.region false [
    ⟨some 17, none, .mov (.t 1)⟩,
    ⟨some 18, none, .call 22 [(.t 17), (.c (.int .i64 1))]⟩,
    ⟨some 16, none, .mov (.t 18)⟩,
    ⟨some 19, none, .ext 0 (.t 16)⟩,
    ⟨some 20, none, .ext 1 (.t 16)⟩,
    ⟨some 4, none, .mov (.t 19)⟩,
    ⟨some 5, none, .mov (.t 20)⟩])
  (.seq (.region false [
    ⟨some 21, none, .mov (.t 2)⟩,
    ⟨some 22, none, .bin .eql (.t 21) (.c (.int .i64 1))⟩,
    ⟨some 23, none, .mov (.t 22)⟩,
    ⟨some 24, some (23, true), .mov (.t 3)⟩,
    ⟨some 25, some (23, true), .bin .eql (.t 24) (.c (.int .i64 0))⟩,
    ⟨some 26, none, .pick (.t 23) (.t 25) (.c (.bool false))⟩,
    ⟨some 27, none, .mov (.t 26)⟩,
    ⟨some 28, some (27, true), .mov (.t 4)⟩,
    ⟨some 29, some (27, true), .bin .eql (.t 28) (.c (.string ⟨#[97]⟩))⟩,
    ⟨some 30, none, .pick (.t 27) (.t 29) (.c (.bool false))⟩,
    ⟨some 31, none, .mov (.t 30)⟩,
    ⟨some 32, some (31, true), .mov (.t 5)⟩,
    ⟨some 33, some (31, true), .bin .eql (.t 32) (.c (.int .i64 0))⟩,
    ⟨some 34, none, .pick (.t 31) (.t 33) (.c (.bool false))⟩,
    ⟨some 0, none, .mov (.t 34)⟩])
  (.ret))))))
theorem ok_begun : FnOk Try.prog 11 Try.f11 ac_begun [.t 0] 0 drawD := ⟨Try.func11, by decide +kernel, by kernel_rfl, by kernel_rfl, by decide +kernel⟩
def r1 : Rev := ⟨1, 1, [⟨2, 0, [97]⟩]⟩
theorem vc_begun (P : Prim) (hP : P = std) (T T1 : CallT) (hnew : SNewC T) (hadd : SAddC0 T) (htext : STextC T) (dr : List (List V)) (hdr : dr = r1.delta.map encPart) (hput : Ans T 51 [.str [97]] (.sl false 3 dr)) (hr : PartsOk r1.delta)
    (D : SC) (L : List Rev) (hn1 : newD.b = 0) (ha1 : (shAdd newD [] r1).v = 1) (ha2 : (shAdd newD [] r1).e = 0) (hD : (shAdd newD [] r1).d = D) (hL : (shAdd newD [] r1).l = L) (hLo : RevsOk L) (hDb : D.b = 0) (hLl : L.length ≤ 1000) (x1 : (stextT D L 1).1 = [97]) (x2 : (stextT D L 1).2 = 0)
    (R : S → Prop) (hR : ∀ s s' b, b = true → Ent s s' → Ret [.t 0] [.bool b] s' → R s) : awp P T T1 ac_begun (S0 [] Hp.emp) R (fun _ _ => False) R := by
  cbv
  repeat' (first
    | (refine And.intro (by first | assumption | decide) ?_; try cbv)
    | (intro β2; try cbv))
  refine hnew 20 21 _ _ rfl rfl rfl rfl fun β d hd => ?_
  cbv
  repeat' (first
    | (refine And.intro (by first | assumption | decide) ?_; try cbv)
    | (intro β2; try cbv))
  refine hput _ _ ?_
  cbv
  repeat' (first
    | (refine And.intro (by first | assumption | decide) ?_; try cbv)
    | (intro β2; try cbv))
  refine hadd 20 21 β d none 0 [] [] r1 1 1 dr _ _ rfl rfl ⟨rfl, rfl, hdr⟩ hr (by decide) (by rw [hd, hn1]; decide) rfl rfl rfl fun v e ba d2 n2 rows2 hv he hd2 hn2 hr2 => ?_
  rw [hd] at hv he hd2 hn2 hr2
  rw [ha1] at hv
  rw [ha2] at he
  rw [hD] at hd2
  rw [hL] at hn2 hr2
  cbv
  repeat' (first
    | (refine And.intro (by first | assumption | decide) ?_; try cbv)
    | (intro β2; try cbv))
  refine htext 20 21 β d2 ba n2 rows2 L .nil 1 _ _ hr2 hn2 hLo (by rw [hd2, hDb]; decide) hLl ⟨⟨.nil, rfl⟩, rfl⟩ rfl rfl rfl rfl fun x y hx hy => ?_
  rw [hd2, x1] at hx
  rw [hd2, x2] at hy
  cbv
  repeat' (first
    | (refine And.intro (by first | assumption | decide) ?_; try cbv)
    | (intro β2; try cbv))
  refine br_tt (eq_T hP hv) ?_
  cbv
  repeat' (first
    | (refine And.intro (by first | assumption | decide) ?_; try cbv)
    | (intro β2; try cbv))
  refine br_tt (eq_T hP he) ?_
  cbv
  repeat' (first
    | (refine And.intro (by first | assumption | decide) ?_; try cbv)
    | (intro β2; try cbv))
  refine br_tt (seq_T hP hx) ?_
  cbv
  repeat' (first
    | (refine And.intro (by first | assumption | decide) ?_; try cbv)
    | (intro β2; try cbv))
  exact hR _ _ _ (eq_T hP hy) (Ent.refl _) rfl
theorem r1_ok : PartsOk r1.delta := ⟨by decide, fun p hp => by
  have : p = ⟨2, 0, [97]⟩ := by simpa [r1] using hp
  subst this
  exact ⟨by unfold I64; decide, by unfold I64; decide, by decide⟩⟩
theorem add1 : shAdd newD [] r1 = ⟨addD { putS newD newD.at' (revF r1).1 with now := (doF r1.delta newD.now).1 } [] r1, [r1], 1, 0⟩ := by
  have h1 : nextF newD.b newD.tb ([] : List Rev).length newD.now.length r1 = 0 := by
    show nextF 0 (fun _ => 0) 0 ([] : List UInt8).length r1 = 0
    decide +kernel
  have h2 : (revF r1).2 = 0 := by decide +kernel
  unfold shAdd
  rw [if_neg (by rw [h1]; simp), if_neg (by rw [h2]; simp)]
  rfl
theorem sp_begun : Spec Try.prog 11 [] Hp.emp (Is (.bool true)) :=
  spec_pure dOk ok_begun [.bool true] (.bool _) fun R hR => vc_begun std rfl _ _ snewC saddC0 stextE _ rfl (ansSame (sp_tput [97]) rfl rfl) r1_ok
    (addD { putS newD newD.at' (revF r1).1 with now := (doF r1.delta newD.now).1 } [] r1) [r1] rfl (by rw [add1]) (by rw [add1]) (by rw [add1]) (by rw [add1]) ⟨by decide, fun r hr => by
      have : r = r1 := by simpa using hr
      subst this
      exact ⟨by unfold I64; decide, by unfold I64; decide, r1_ok⟩⟩ rfl (by decide)
    (by show (if thereT 0 1 1 ≠ 0 then (([], thereT 0 1 1) : List UInt8 × Int) else textF [] [r1] (1 - 0)).1 = _
        decide +kernel)
    (by show (if thereT 0 1 1 ≠ 0 then (([], thereT 0 1 1) : List UInt8 × Int) else textF [] [r1] (1 - 0)).2 = _
        decide +kernel)
    R fun s s' b hb he hr => by subst hb; exact hR s s' he hr
end Go.Proofs.Ytobngncjflogcaa.AM

/-
  A history cloned; the walk of TopUndo. (Printed by gen_topu2.py.)
-/
set_option linter.unusedVariables false
set_option linter.unusedSimpArgs false
namespace Go.Proofs.Ytobngncjflogcaa.AM
open Go Go.RowKit
set_option maxRecDepth 100000
set_option maxHeartbeats 2000000
/-! Clone -/
def ac_clone : AC := .seq (.region false [
    ⟨some 2, none, .mov (.c (.slice none 0 0))⟩])
  (.seq (.seq (.region false [
    ⟨some 3, none, .mov (.t 0)⟩,
    ⟨some 4, none, .eqn false (.t 3)⟩])
  (.cond (.t 4)
    (.seq (.region false [
      ⟨some 2, none, .mov (.c (.slice none 0 0))⟩])
    (.ret))
    (.skip)))
  (.seq (.region false [
    ⟨some 5, none, .bslice 45 3 []⟩,
    ⟨some 6, none, .mov (.t 0)⟩,
    ⟨some 7, none, .append 45 3 40 (.t 5) (.t 6)⟩,
    ⟨some 2, none, .mov (.t 7)⟩])
  (.ret)))
theorem ok_clone : FnOk Try.prog 13 Try.f13 ac_clone [.t 2] 1 drawD := ⟨Try.func13, by decide +kernel, by kernel_rfl, by kernel_rfl, by decide +kernel⟩
theorem vc_clone (P : Prim) (hP : P = std) (T T1 : CallT) (rows : List (List V)) (hl : rows.length ≤ 1000000) (R : S → Prop)
    (hR : ∀ s s' ba n rows', n = rows.length → rows' = rows → Ent s s' → Ret [.t 2] [.own 1000005 ba 3 n] s' → agreeH [(1000005, obV ba rows')] s' → R s) : awp P T T1 ac_clone (S0 [.sl true 3 rows] Hp.emp) R (fun _ _ => False) R := by
  have f1 : P.bytes (P.add (P.int 0) (P.rlen rows)) 40 := by subst hP; show (((0 : Nat) : Int) + (rows.length : Int)) * 40 ≤ _; omega
  have f2 : P.neP [] 0 := by subst hP; rfl
  have f3 : P.nadd 0 (P.rlenN rows) = rows.length := by subst hP; exact Nat.zero_add _
  have f4 : P.rapp [] rows = rows := by subst hP; rfl
  cbv
  refine ⟨?_, fun h0 => ?_⟩
  · cbv
    repeat' (first
    | (refine And.intro (by first | assumption | decide) ?_; try cbv)
    | (intro β2; try cbv))
    exact hR _ _ _ _ _ f3 f4 (Ent.refl _) rfl ⟨rfl, trivial⟩
  · have e0 : rows = [] := List.eq_nil_of_length_eq_zero (by rw [rlen_eq hP] at h0; omega)
    subst e0
    cbv
    exact hR _ _ none 0 [] rfl rfl (Ent.nil (i := 2) (k := 1000005) (ty := 45) (sz := 3) rfl rfl) rfl ⟨rfl, trivial⟩
theorem sp_clone (l : List Rev) (hl : l.length ≤ 1000000) : Spec Try.prog 13 [.sl true 3 (l.map encRev)] (lookH []) fun x h' => ∃ L', (∃ ba, x = .own 1000005 ba 3 l.length ∧ L' = [(1000005, obV ba (l.map encRev))]) ∧ h' = lookH L' :=
  spec_meth dOk ok_clone (L := []) (fun x L' => ∃ ba, x = .own 1000005 ba 3 l.length ∧ L' = [(1000005, obV ba (l.map encRev))]) fun R hR =>
    vc_clone std rfl _ _ (l.map encRev) (by simpa using hl) R fun s s' ba n rows' hn hrows he hr ha => by
      subst hrows
      have hn' : n = l.length := by rw [hn]; simp
      subst hn'
      exact hR s s' _ _ he (resV_mono _ _ _ (fun x hx => by rw [hx]; rfl) hr) ha (.own _ _ _ _) (fun p hp => by rw [List.mem_singleton.1 hp]; exact encRevs_fz _) ⟨ba, rfl, rfl⟩
def CloneC (T : CallT) : Prop := ∀ (k : Nat) (rows : List (List V)) (l : List Rev) (h : Hp) (K : V → Hp → Prop), rows = l.map encRev → l.length ≤ 1000000 → h k = none → (∀ ba n, n = l.length → K (.own k ba 3 n) (Hp.put h k (obV ba rows))) → T 13 [.sl false 3 rows] h K
theorem cloneC : CloneC (CallE Try.prog) := by
  rintro k rows l h K rfl hl hk hK
  refine callG (sp_clone l hl) (m := [(1000005, k)]) (.cons (.weak _ _) .nil) (fun j o hj => by cases hj) (fun q hq => ?_) ?_
  · simp only [List.mem_singleton] at hq
    subst hq
    exact ⟨by simp [lab], by simp [bal], fun o ho => by cases ho⟩
  · rintro v L' ⟨ba, rfl, rfl⟩
    have e : h.upd [(1000005, k)] (lookH [(1000005, obV ba (l.map encRev))]) = Hp.put h k (obV ba (l.map encRev)) := by
      funext i
      by_cases h1 : i = k
      · subst h1
        have hb : bal [(1000005, i)] i = 1000005 := by simp [bal]
        simp only [Hp.upd, Hp.put, List.any_cons, List.any_nil, Bool.or_false, decide_true, ↓reduceIte, hb]
        show (some (obV ba (l.map encRev))).map (Ob.ren (lab [(1000005, i)])) = _
        rw [Option.map_some, obV_ren]
      · have h2 : ¬ k = i := fun e => h1 e.symm
        simp [Hp.upd, Hp.put, h1, h2]
    rw [e]
    have : (V.own 1000005 ba 3 l.length).ren (lab [(1000005, k)]) = .own k ba 3 l.length := by
      show V.own (lab [(1000005, k)] 1000005) ba 3 l.length = _
      simp [lab]
    rw [this]
    exact hK ba _ rfl
/-! TopUndo -/
def ac_tund : AC := .seq (.region false [
    ⟨some 6, none, .mov (.c (.bool false))⟩])
  (.seq (.region false [
    ⟨some 16, none, .mov (.t 0)⟩,
    ⟨some 17, none, .mov (.t 1)⟩,
    ⟨some 18, none, .mov (.t 2)⟩,
    ⟨some 19, none, .call 10 [(.t 16), (.t 17), (.t 18)]⟩,
    ⟨some 15, none, .mov (.t 19)⟩,
    ⟨some 20, none, .ext 0 (.t 15)⟩,
    ⟨some 21, none, .ext 1 (.t 15)⟩,
    ⟨some 7, none, .mov (.t 20)⟩,
    ⟨some 8, none, .mov (.t 21)⟩])
  (.seq (.seq (.region false [
    ⟨some 22, none, .call 11 []⟩,
    ⟨some 23, none, .not (.t 22)⟩,
    ⟨some 24, none, .mov (.t 23)⟩,
    ⟨some 25, some (24, false), .mov (.t 8)⟩,
    ⟨some 26, some (24, false), .bin .neq (.t 25) (.c (.int .i64 0))⟩,
    ⟨some 27, none, .pick (.t 24) (.c (.bool true)) (.t 26)⟩,
    ⟨some 28, none, .mov (.t 27)⟩,
    ⟨some 29, some (28, false), .mov (.t 1)⟩,
    ⟨some 30, some (28, false), .len false (.t 29)⟩,
    ⟨some 31, some (28, false), .bin .geq (.t 30) (.c (.int .i64 64))⟩,
    ⟨some 32, none, .pick (.t 28) (.c (.bool true)) (.t 31)⟩])
  (.cond (.t 32)
    (.seq (.region false [
      ⟨some 33, none, .call 11 []⟩,
      ⟨some 6, none, .mov (.t 33)⟩])
    (.ret))
    (.skip)))
  (.seq (.region false [
    ⟨some 35, none, .mov (.t 0)⟩,
    ⟨some 36, none, .mov (.t 1)⟩,
    ⟨some 37, none, .mov (.t 1)⟩,
    ⟨some 38, none, .len false (.t 37)⟩,
    ⟨some 39, none, .call 12 [(.t 35), (.t 36), (.t 38)]⟩,
    ⟨some 34, none, .mov (.t 39)⟩,
    ⟨some 40, none, .ext 0 (.t 34)⟩,
    ⟨some 41, none, .ext 1 (.t 34)⟩,
    ⟨some 9, none, .mov (.t 40)⟩,
    ⟨some 8, none, .mov (.t 41)⟩])
  (.seq (.seq (.region false [
    ⟨some 42, none, .mov (.t 8)⟩,
    ⟨some 43, none, .bin .neq (.t 42) (.c (.int .i64 0))⟩])
  (.cond (.t 43)
    (.seq (.region false [
      ⟨some 6, none, .mov (.c (.bool false))⟩])
    (.ret))
    (.skip)))
  (.seq (.region false [
    ⟨some 44, none, .mov (.t 1)⟩,
    ⟨some 45, none, .call 13 [(.t 44)]⟩,
    ⟨some 46, none, .mov (.t 7)⟩,
    ⟨some 47, none, .build [(.int .i64 0), (.int .i64 0), (.slice none 0 0)] [(0, 1, (.c (.int .i64 0))), (1, 1, (.c (.int .i64 1))), (2, 1, (.t 46))]⟩,
    ⟨some 48, none, .bslice 45 3 [(.t 47)]⟩,
    ⟨some 49, none, .append 45 3 40 (.t 45) (.t 48)⟩,
    ⟨some 10, none, .mov (.t 49)⟩])
  (.seq (.region false [
    ⟨some 51, none, .mov (.t 0)⟩,
    ⟨some 52, none, .mov (.t 10)⟩,
    ⟨some 53, none, .call 14 [(.t 51), (.t 52)]⟩,
    ⟨some 50, none, .mov (.t 53)⟩,
    ⟨some 54, none, .ext 0 (.t 50)⟩,
    ⟨some 55, none, .ext 1 (.t 50)⟩,
    ⟨some 11, none, .mov (.t 54)⟩,
    ⟨some 8, none, .mov (.t 55)⟩])
  (.seq (.seq (.region false [
    ⟨some 56, none, .mov (.t 8)⟩,
    ⟨some 57, none, .bin .neq (.t 56) (.c (.int .i64 0))⟩,
    ⟨some 58, none, .mov (.t 57)⟩,
    ⟨some 59, some (58, false), .mov (.t 11)⟩,
    ⟨some 60, some (58, false), .mov (.t 2)⟩,
    ⟨some 61, some (58, false), .call 15 [(.t 59), (.t 60)]⟩,
    ⟨some 62, none, .pick (.t 58) (.c (.bool true)) (.t 61)⟩])
  (.cond (.t 62)
    (.seq (.region false [
      ⟨some 6, none, .mov (.c (.bool false))⟩])
    (.ret))
    (.skip)))
  (.seq (.region false [
    ⟨some 64, none, .mov (.t 0)⟩,
    ⟨some 65, none, .mov (.t 10)⟩,
    ⟨some 66, none, .mov (.t 10)⟩,
    ⟨some 67, none, .len false (.t 66)⟩,
    ⟨some 68, none, .call 10 [(.t 64), (.t 65), (.t 67)]⟩,
    ⟨some 63, none, .mov (.t 68)⟩,
    ⟨some 69, none, .ext 0 (.t 63)⟩,
    ⟨some 70, none, .ext 1 (.t 63)⟩,
    ⟨some 12, none, .mov (.t 69)⟩,
    ⟨some 8, none, .mov (.t 70)⟩])
  (.seq (.seq (.region false [
    ⟨some 71, none, .mov (.t 8)⟩,
    ⟨some 72, none, .bin .neq (.t 71) (.c (.int .i64 0))⟩])
  (.cond (.t 72)
    (.seq (.region false [
      ⟨some 6, none, .mov (.c (.bool false))⟩])
    (.ret))
    (.skip)))
  (.seq (.region false [
    ⟨some 74, none, .mov (.t 0)⟩,
    ⟨some 75, none, .mov (.t 10)⟩,
    ⟨some 76, none, .mov (.t 10)⟩,
    ⟨some 77, none, .len false (.t 76)⟩,
    ⟨some 78, none, .call 12 [(.t 74), (.t 75), (.t 77)]⟩,
    ⟨some 73, none, .mov (.t 78)⟩,
    ⟨some 79, none, .ext 0 (.t 73)⟩,
    ⟨some 80, none, .ext 1 (.t 73)⟩,
    ⟨some 13, none, .mov (.t 79)⟩,
    ⟨some 8, none, .mov (.t 80)⟩])
  (.seq (.seq (.region false [
    ⟨some 81, none, .mov (.t 8)⟩,
    ⟨some 82, none, .bin .neq (.t 81) (.c (.int .i64 0))⟩])
  (.cond (.t 82)
    (.seq (.region false [
      ⟨some 6, none, .mov (.c (.bool false))⟩])
    (.ret))
    (.skip)))
  (.seq (.region false [
    ⟨some 84, none, .mov (.t 12)⟩,
    ⟨some 85, none, .mov (.t 13)⟩,
    ⟨some 86, none, .call 16 [(.t 84), (.t 85)]⟩,
    ⟨some 83, none, .mov (.t 86)⟩,
    ⟨some 87, none, .ext 0 (.t 83)⟩,
    ⟨some 88, none, .ext 1 (.t 83)⟩,
    ⟨some 14, none, .mov (.t 87)⟩,
    ⟨some 8, none, .mov (.t 88)⟩])
  (.seq (.region false [
    ⟨some 89, none, .mov (.t 8)⟩,
    ⟨some 90, none, .bin .eql (.t 89) (.c (.int .i64 0))⟩,
    ⟨some 91, none, .mov (.t 90)⟩,
    ⟨some 92, some (91, true), .mov (.t 14)⟩,
    ⟨some 93, some (91, true), .mov (.t 9)⟩,
    ⟨some 94, some (91, true), .bin .eql (.t 92) (.t 93)⟩,
    ⟨some 95, none, .pick (.t 91) (.t 94) (.c (.bool false))⟩,
    ⟨some 6, none, .mov (.t 95)⟩])
  (.ret))))))))))))))
theorem ok_tund : FnOk Try.prog 4 Try.f4 ac_tund [.t 6] 3 drawD := ⟨Try.func4, by decide +kernel, by kernel_rfl, by kernel_rfl, by decide +kernel⟩
theorem vc_tund (P : Prim) (hP : P = std) (T T1 : CallT) (hcl : CloneC T) (base : List UInt8) (l : List Rev) (rows : List (List V)) (hrows : rows = l.map encRev) (k : Int) (du : List (List V)) (eu : Int)
    (h1 : Ans T 10 [.str base, .sl false 3 rows, .int .i64 k] (.tup [.sl false 3 du, .int .i64 eu])) (h2 : Ans T 11 [] (.bool true))
    (s t : List UInt8) (fr wr rows2 : List (List V)) (hrows2 : rows2 = rows ++ [[.int .i64 0, .int .i64 1, .sl false 3 du]])
    (h3 : eu = 0 → l.length < 64 → Ans T 12 [.str base, .sl false 3 rows, .int .i64 (P.rlen rows)] (.tup [.str s, .int .i64 0]))
    (h4 : eu = 0 → l.length < 64 → ∀ (ka : Nat) (ba : Option Nat) (n : Nat) (rs : List (List V)) (h : Hp) (K : V → Hp → Prop), n = rows2.length → rs = rows2 → h ka = some ⟨ba, 45, 3, rs⟩ → K (.tup [.sl false 1 wr, .int .i64 0]) h → T 14 [.str base, .own ka ba 3 n] h K)
    (h5 : eu = 0 → l.length < 64 → Ans T 15 [.sl false 1 wr, .int .i64 k] (.bool false))
    (h6 : eu = 0 → l.length < 64 → ∀ (ka : Nat) (ba : Option Nat) (n : Nat) (rs : List (List V)) (j : Int) (h : Hp) (K : V → Hp → Prop), n = rows2.length → rs = rows2 → j = (n : Int) → h ka = some ⟨ba, 45, 3, rs⟩ → K (.tup [.sl false 3 fr, .int .i64 0]) h → T 10 [.str base, .own ka ba 3 n, .int .i64 j] h K)
    (h7 : eu = 0 → l.length < 64 → ∀ (ka : Nat) (ba : Option Nat) (n : Nat) (rs : List (List V)) (j : Int) (h : Hp) (K : V → Hp → Prop), n = rows2.length → rs = rows2 → j = (n : Int) → h ka = some ⟨ba, 45, 3, rs⟩ → K (.tup [.str t, .int .i64 0]) h → T 12 [.str base, .own ka ba 3 n, .int .i64 j] h K)
    (h8 : eu = 0 → l.length < 64 → Ans T 16 [.sl false 3 fr, .str t] (.tup [.str s, .int .i64 0]))
    (R : S → Prop) (hR : ∀ s s' b, b = true → Ent s s' → Ret [.t 6] [.bool b] s' → R s) : awp P T T1 ac_tund (S0 [.str base, .sl false 3 rows, .int .i64 k] Hp.emp) R (fun _ _ => False) R := by
  have hl1 : P.rlen rows = (l.length : Int) := by rw [rlen_eq hP, hrows]; simp
  have hlen : rows.length = l.length := by rw [hrows]; simp
  have f6 : ∀ r, P.neP [r] 1 := by intro r; subst hP; rfl
  have f7 : P.rapp rows [[.int .i64 0, .int .i64 1, .sl false 3 du]] = rows2 := by rw [hrows2]; subst hP; rfl
  cbv
  repeat' (first
    | (refine And.intro (by first | assumption | decide) ?_; try cbv)
    | (intro β2; try cbv))
  refine h1 _ _ ?_
  cbv
  repeat' (first
    | (refine And.intro (by first | assumption | decide) ?_; try cbv)
    | (intro β2; try cbv))
  refine h2 _ _ ?_
  cbv
  repeat' (first
    | (refine And.intro (by first | assumption | decide) ?_; try cbv)
    | (intro β2; try cbv))
  refine br_cases (fun g => ?_) (fun g => ?_)
  · cbv
    repeat' (first
    | (refine And.intro (by first | assumption | decide) ?_; try cbv)
    | (intro β2; try cbv))
    refine h2 _ _ ?_
    cbv
    repeat' (first
    | (refine And.intro (by first | assumption | decide) ?_; try cbv)
    | (intro β2; try cbv))
    exact hR _ _ _ rfl (Ent.refl _) rfl
  have g1 : eu = 0 := ne_f hP g
  cbv
  repeat' (first
    | (refine And.intro (by first | assumption | decide) ?_; try cbv)
    | (intro β2; try cbv))
  refine br_cases (fun g => ?_) (fun g => ?_)
  · cbv
    repeat' (first
    | (refine And.intro (by first | assumption | decide) ?_; try cbv)
    | (intro β2; try cbv))
    refine h2 _ _ ?_
    cbv
    repeat' (first
    | (refine And.intro (by first | assumption | decide) ?_; try cbv)
    | (intro β2; try cbv))
    exact hR _ _ _ rfl (Ent.refl _) rfl
  have g2 : ¬ 64 ≤ P.rlen rows := le_f hP g
  have hl64 : l.length < 64 := by
    have g3 : P.rlen rows = (l.length : Int) := hl1
    have g4 : ¬ 64 ≤ (l.length : Int) := fun hh => g2 (by rw [g3]; exact hh)
    omega
  cbv
  repeat' (first
    | (refine And.intro (by first | assumption | decide) ?_; try cbv)
    | (intro β2; try cbv))
  refine h3 g1 hl64 _ _ ?_
  cbv
  repeat' (first
    | (refine And.intro (by first | assumption | decide) ?_; try cbv)
    | (intro β2; try cbv))
  refine br_ff (ne_F hP rfl) ?_
  cbv
  repeat' (first
    | (refine And.intro (by first | assumption | decide) ?_; try cbv)
    | (intro β2; try cbv))
  refine hcl 500 rows l _ _ hrows (by omega) rfl fun ba n hn => ?_
  have f4 : P.neP rows n := neP_of hP _ _ (by rw [hlen, hn])
  have f5 : ∀ r, P.bytes (P.add (P.int n) (P.rlen [r])) 40 := by intro r; subst hP; show ((n : Int) + 1) * 40 ≤ _; omega
  have f8 : ∀ r : List V, P.nadd n (P.rlenN [r]) = rows2.length := by intro r; rw [hrows2, List.length_append, hlen, hn]; subst hP; rfl
  cbv
  repeat' (first
    | (refine And.intro (by first | assumption | decide | exact f6 _ | exact f5 _) ?_; try cbv)
    | (intro β2; try cbv))
  refine h4 g1 hl64 500 _ _ _ _ _ (f8 _) f7 rfl ?_
  cbv
  repeat' (first
    | (refine And.intro (by first | assumption | decide) ?_; try cbv)
    | (intro β2; try cbv))
  refine br_ff (ne_F hP rfl) ?_
  cbv
  repeat' (first
    | (refine And.intro (by first | assumption | decide) ?_; try cbv)
    | (intro β2; try cbv))
  refine h5 g1 hl64 _ _ ?_
  cbv
  repeat' (first
    | (refine And.intro (by first | assumption | decide) ?_; try cbv)
    | (intro β2; try cbv))
  refine h6 g1 hl64 500 _ _ _ _ _ _ (f8 _) f7 (int_eq hP _) rfl ?_
  cbv
  repeat' (first
    | (refine And.intro (by first | assumption | decide) ?_; try cbv)
    | (intro β2; try cbv))
  refine br_ff (ne_F hP rfl) ?_
  cbv
  repeat' (first
    | (refine And.intro (by first | assumption | decide) ?_; try cbv)
    | (intro β2; try cbv))
  refine h7 g1 hl64 500 _ _ _ _ _ _ (f8 _) f7 (int_eq hP _) rfl ?_
  cbv
  repeat' (first
    | (refine And.intro (by first | assumption | decide) ?_; try cbv)
    | (intro β2; try cbv))
  refine br_ff (ne_F hP rfl) ?_
  cbv
  repeat' (first
    | (refine And.intro (by first | assumption | decide) ?_; try cbv)
    | (intro β2; try cbv))
  refine h8 g1 hl64 _ _ ?_
  cbv
  repeat' (first
    | (refine And.intro (by first | assumption | decide) ?_; try cbv)
    | (intro β2; try cbv))
  refine br_tt (eq_T hP rfl) ?_
  cbv
  repeat' (first
    | (refine And.intro (by first | assumption | decide) ?_; try cbv)
    | (intro β2; try cbv))
  exact hR _ _ _ (seq_T hP rfl) (Ent.refl _) rfl
end Go.Proofs.Ytobngncjflogcaa.AM

/-
  The plain law of TopUndo: the second part, and the law.
-/
set_option linter.unusedVariables false
set_option linter.unusedSimpArgs false
namespace Go.Proofs.Ytobngncjflogcaa.AM
open Go Go.RowKit
set_option maxRecDepth 100000
set_option maxHeartbeats 2000000
theorem outT_turn : ∀ (ts : List Tok) (s : List UInt8), s.length = inT ts → outT (turnT ts s) = inT ts
  | [], s, h => rfl
  | .keep :: ts, s, h => by
    rw [in_keep] at h ⊢
    rw [turnT, out_keep, outT_turn ts (s.drop 1) (by simp; omega)]
  | .put b :: ts, s, h => by
    rw [turnT, out_cut, in_put, outT_turn ts s h]
  | .cut :: ts, s, h => by
    rw [in_cut] at h ⊢
    obtain ⟨x, s, rfl⟩ : ∃ x s', s = x :: s' := by cases s with | nil => simp at h | cons x s => exact ⟨x, s, rfl⟩
    simp only [turnT, List.take_succ_cons, List.take_zero, List.drop_succ_cons, List.drop_zero, List.map_cons, List.map_nil, List.singleton_append]
    rw [out_put, outT_turn ts s (by simpa using h)]
/-- a delta turned round -/
theorem turn_all {d : List Part} {s : List UInt8} (h : checkF d = 0) (hi : inT (toks d) = s.length) : (turnF d s).2 = 0 ∧ (turnF d s).1 = mkD (turnT (toks d) s) ∧ checkF (mkD (turnT (toks d) s)) = 0 ∧ inT (toks (mkD (turnT (toks d) s))) = outT (toks d) := by
  have hc := checkF_all h
  have h1 := in_of h
  have h2 := out_of h
  have hf : fitsF d s.length = 0 := by unfold fitsF; rw [if_neg (fun x => x h), if_neg (fun x => x (by omega))]
  have ht := (turnT_spec (toks d) s 0 0 hi.symm).1
  have ho := outT_turn (toks d) s hi.symm
  refine ⟨by unfold turnF; rw [if_pos hf], by unfold turnF; rw [if_pos hf], checkF_mkD _ (by omega) (by omega), by rw [inT_mkD, ht]⟩
def lastT (cur : List UInt8) (l : List Rev) : List UInt8 := (cur :: (goT cur l).1).getD l.length []
theorem goT_cons {cur : List UInt8} {r : Rev} {l : List Rev} (h : (goT cur (r :: l)).2 = 0) : oneF r = 0 ∧ (doF r.delta cur).2 = 0 ∧ (goT (doF r.delta cur).1 l).2 = 0 ∧ (goT cur (r :: l)).1 = (doF r.delta cur).1 :: (goT (doF r.delta cur).1 l).1 := by
  rw [goT] at h ⊢
  by_cases h1 : oneF r ≠ 0
  · rw [if_pos h1] at h; exact absurd h h1
  rw [if_neg h1] at h ⊢
  by_cases h2 : (doF r.delta cur).2 ≠ 0
  · rw [if_pos h2] at h; exact absurd h h2
  rw [if_neg h2] at h ⊢
  exact ⟨Decidable.of_not_not h1, Decidable.of_not_not h2, h, rfl⟩
theorem lastT_cons {cur : List UInt8} {r : Rev} {l : List Rev} (h : (goT cur (r :: l)).2 = 0) : lastT cur (r :: l) = lastT (doF r.delta cur).1 l := by
  unfold lastT
  rw [(goT_cons h).2.2.2]
  rfl
theorem goT_snoc : ∀ (l : List Rev) (cur : List UInt8) (r : Rev), (goT cur l).2 = 0 → oneF r = 0 → (doF r.delta (lastT cur l)).2 = 0 → (goT cur (l ++ [r])).2 = 0 ∧ (goT cur (l ++ [r])).1 = (goT cur l).1 ++ [(doF r.delta (lastT cur l)).1]
  | [], cur, r, _, h1, h2 => by
    have h2 : (doF r.delta cur).2 = 0 := h2
    simp only [List.nil_append]
    have e : goT cur [r] = ([(doF r.delta cur).1], 0) := by
      unfold goT
      rw [if_neg (fun x => x h1), if_neg (fun x => x h2)]
      rfl
    rw [e]
    exact ⟨rfl, rfl⟩
  | q :: l, cur, r, h, h1, h2 => by
    obtain ⟨c1, c2, c3, c4⟩ := goT_cons h
    rw [lastT_cons h] at h2 ⊢
    obtain ⟨i1, i2⟩ := goT_snoc l _ r c3 h1 h2
    have e : goT cur (q :: (l ++ [r])) = ((doF q.delta cur).1 :: (goT (doF q.delta cur).1 (l ++ [r])).1, (goT (doF q.delta cur).1 (l ++ [r])).2) := by
      rw [goT, if_neg (fun x => x c1), if_neg (fun x => x c2)]
    rw [List.cons_append, e, c4, i2]
    exact ⟨i1, rfl⟩
theorem fold_inv (k : Int) : ∀ (rest : List Rev) (i : Int) (w : List Int) (cur : List UInt8) (x : List Part), checkF x = 0 → inT (toks x) = cur.length → w.length = cur.length → k ∉ kw (toks x) w → (goT cur rest).2 = 0 → k < i → (foldU x rest).2 = 0 →
    checkF (foldU x rest).1 = 0 ∧ inT (toks (foldU x rest).1) = (lastT cur rest).length ∧ k ∉ kw (toks (foldU x rest).1) (blF i w rest) ∧ (blF i w rest).length = (lastT cur rest).length
  | [], i, w, cur, x, h1, h2, h3, h4, _, _, _ => ⟨h1, h2, h4, h3⟩
  | r :: rest, i, w, cur, x, h1, h2, h3, h4, h5, h6, h7 => by
    obtain ⟨c1, c2, c3, c4⟩ := goT_cons h5
    obtain ⟨d1, d2, d3, d4⟩ := doF_chain c2
    unfold foldU at h7 ⊢
    by_cases hm : (meetF r.delta x).2.2 ≠ 0
    · rw [if_pos hm] at h7; exact absurd h7 hm
    rw [if_neg hm] at h7 ⊢
    obtain ⟨m1, m2, m3, m4, m5⟩ := meetF_ok (Decidable.of_not_not hm)
    rw [m5] at h7 ⊢
    have hio : inT (toks r.delta) = inT (toks x) := by omega
    rw [lastT_cons h5, blF]
    have e1 : inT (toks (meetD r.delta x)) = outT (toks r.delta) := by
      unfold meetD; rw [inT_mkD]; exact mt_sizes _ _ _ (Nat.le_refl _) hio
    refine fold_inv k rest (i + 1) _ _ _ m4 (by rw [e1, d3]) ?_ ?_ c3 (by omega) h7
    · rw [blT_len i _ _ (by rw [h3, d2]), d3]
    · unfold meetD
      rw [kw_mkD]
      exact kw_meet k i (by omega) _ _ _ _ (Nat.le_refl _) hio (by rw [h3, d2]) h4
theorem pre_inv : ∀ (pre : List Rev) (r : Rev) (rest : List Rev) (i : Int) (cur : List UInt8) (w : List Int), (goT cur (pre ++ r :: rest)).2 = 0 → w.length = cur.length → (∀ x ∈ w, x < i) →
    (foldU (turnF r.delta ((cur :: (goT cur (pre ++ r :: rest)).1).getD pre.length [])).1 rest).2 = 0 →
    checkF (foldU (turnF r.delta ((cur :: (goT cur (pre ++ r :: rest)).1).getD pre.length [])).1 rest).1 = 0 ∧ inT (toks (foldU (turnF r.delta ((cur :: (goT cur (pre ++ r :: rest)).1).getD pre.length [])).1 rest).1) = (lastT cur (pre ++ r :: rest)).length ∧
      (i + (pre.length : Int)) ∉ kw (toks (foldU (turnF r.delta ((cur :: (goT cur (pre ++ r :: rest)).1).getD pre.length [])).1 rest).1) (blF i w (pre ++ r :: rest))
  | [], r, rest, i, cur, w, h, hw, hi, hf => by
    simp only [List.nil_append, List.length_nil] at h hf ⊢
    obtain ⟨c1, c2, c3, c4⟩ := goT_cons h
    obtain ⟨d1, d2, d3, d4⟩ := doF_chain c2
    have e0 : (cur :: (goT cur (r :: rest)).1).getD 0 [] = cur := rfl
    rw [e0] at hf ⊢
    obtain ⟨t1, t2, t3, t4⟩ := turn_all d1 d2
    rw [t2] at hf ⊢
    rw [lastT_cons h, blF]
    have hk : i + ((0 : Nat) : Int) = i := by omega
    rw [hk]
    obtain ⟨g1, g2, g3, _⟩ := fold_inv i rest (i + 1) (blT i (toks r.delta) w) (doF r.delta cur).1 _ t3 (by rw [t4, d3]) (by rw [blT_len i _ _ (by rw [hw, d2]), d3])
      (by rw [kw_mkD]; exact kw_turn i _ _ _ (fun hx => by have := hi i hx; omega) (by rw [hw, d2])) c3 (by omega) hf
    exact ⟨g1, g2, g3⟩
  | q :: pre, r, rest, i, cur, w, h, hw, hi, hf => by
    simp only [List.cons_append] at h hf ⊢
    obtain ⟨c1, c2, c3, c4⟩ := goT_cons h
    obtain ⟨d1, d2, d3, d4⟩ := doF_chain c2
    rw [c4] at hf ⊢
    rw [lastT_cons h, blF]
    have e : ∀ (x y : List UInt8) (z : List (List UInt8)), (x :: y :: z).getD (q :: pre).length [] = (y :: z).getD pre.length [] := fun x y z => rfl
    rw [e] at hf ⊢
    have := pre_inv pre r rest (i + 1) (doF q.delta cur).1 (blT i (toks q.delta) w) c3 (by rw [blT_len i _ _ (by rw [hw, d2]), d3]) (fun x hx => by
      rcases mem_bl hx with h | h
      · omega
      · have := hi x (kw_sub h); omega) hf
    have e2 : i + ((q :: pre).length : Int) = i + 1 + (pre.length : Int) := by simp; omega
    rw [e2]
    exact this
theorem blF_snoc : ∀ (l : List Rev) (i : Int) (w : List Int) (r : Rev), blF i w (l ++ [r]) = blT (i + (l.length : Int)) (toks r.delta) (blF i w l)
  | [], i, w, r => by simp [blF]
  | q :: l, i, w, r => by
    rw [List.cons_append, blF, blF_snoc l, blF]
    congr 1
    simp; omega
end Go.Proofs.Ytobngncjflogcaa.AM

/-
  TopUndo: the law.
-/
set_option linter.unusedVariables false
set_option linter.unusedSimpArgs false
namespace Go.Proofs.Ytobngncjflogcaa.AM
open Go Go.RowKit
set_option maxRecDepth 100000
set_option maxHeartbeats 2000000
theorem split_at {l : List Rev} {m : Nat} (h : m < l.length) : ∃ pre r rest, l = pre ++ r :: rest ∧ pre.length = m :=
  ⟨l.take m, l[m], l.drop (m + 1), by rw [← List.drop_eq_getElem_cons h, List.take_append_drop], by simp; omega⟩
theorem undoF_ok {base : List UInt8} {l : List Rev} {k : Int} (h : (undoF base l k).2 = 0) : (textsF base l).2 = 0 ∧ 1 ≤ k ∧ k ≤ l.length ∧ undoF base l k = foldU (turnF (dlt l (k.toNat - 1)) (txt base l (k.toNat - 1))).1 (l.drop k.toNat) := by
  unfold undoF at h ⊢
  by_cases h1 : (textsF base l).2 ≠ 0
  · rw [if_pos h1] at h; exact absurd h h1
  rw [if_neg h1] at h ⊢
  by_cases h2 : k < 1 ∨ (l.length : Int) < k
  · rw [if_pos h2] at h; exact absurd h (by decide)
  rw [if_neg h2]
  exact ⟨Decidable.of_not_not h1, by omega, by omega, rfl⟩
def undoR (d : List Part) : Rev := ⟨0, 1, d⟩
theorem textF_at {base : List UInt8} {l : List Rev} (h : (textsF base l).2 = 0) : textF base l (l.length : Nat) = (lastT base l, 0) := by
  unfold textF
  rw [if_neg (fun x => x h), if_neg (by omega), (textsF_ok h).2.2.2.1]
  rfl
theorem lastT_len {base : List UInt8} {l : List Rev} (h : (textsF base l).2 = 0) : (lastT base l).length ≤ 500 := by
  have := goT_chain l base 0 l.length (textsF_ok h).2.2.1 (textsF_ok h).1 (Nat.zero_le _) (Nat.le_refl _)
  exact (chain_le this).2
theorem undo_all {base : List UInt8} {l : List Rev} {k : Int} (h : (undoF base l k).2 = 0) (hl : l.length < 64) :
    checkF (undoF base l k).1 = 0 ∧ inT (toks (undoF base l k).1) = (lastT base l).length ∧ k ∉ kw (toks (undoF base l k).1) (blF 1 (List.replicate base.length 0) l) := by
  obtain ⟨h1, h2, h3, h4⟩ := undoF_ok h
  obtain ⟨g1, g2, g3, g4, g5⟩ := textsF_ok h1
  rw [h4] at h ⊢
  obtain ⟨pre, r, rest, e, hp⟩ := split_at (l := l) (m := k.toNat - 1) (by omega)
  have e1 : dlt l (k.toNat - 1) = r.delta := by
    unfold dlt
    rw [e, ← hp, List.getElem?_append_right (Nat.le_refl _)]
    simp
  have e2 : l.drop k.toNat = rest := by
    have : k.toNat = pre.length + 1 := by omega
    rw [this, e, ← List.drop_drop, List.drop_left]
    rfl
  have e3 : txt base l (k.toNat - 1) = (base :: (goT base (pre ++ r :: rest)).1).getD pre.length [] := by
    unfold txt
    rw [g4, ← hp, ← e]
  rw [e1, e2, e3] at h ⊢
  have hk : (1 : Int) + (pre.length : Int) = k := by omega
  have := pre_inv pre r rest 1 base (List.replicate base.length 0) (by rw [← e]; exact g3) (by simp) (fun x hx => by rw [(List.mem_replicate.1 hx).2]; decide) h
  rw [hk] at this
  rw [← e] at this ⊢
  exact this
theorem undo_law {base : List UInt8} {l : List Rev} {k : Int} (h : (undoF base l k).2 = 0) (hl : l.length < 64) (d : List Part) (hd : (undoF base l k).1 = d) (s : List UInt8) (hs : lastT base l = s) :
    (textsF base (l ++ [undoR d])).2 = 0 ∧ k ∉ blameF base (l ++ [undoR d]) ∧ undoF base (l ++ [undoR d]) (l.length + 1 : Nat) = ((turnF d s).1, 0) ∧ textF base (l ++ [undoR d]) (l.length + 1 : Nat) = ((doF d s).1, 0) ∧ doF (turnF d s).1 (doF d s).1 = (s, 0) ∧ (turnF d s).1.length ≤ 1600 ∧ d.length ≤ 1600 := by
  obtain ⟨h1, h2, h3, h4⟩ := undoF_ok h
  obtain ⟨g1, g2, g3, g4, g5⟩ := textsF_ok h1
  obtain ⟨u1, u2, u3⟩ := undo_all h hl
  rw [hd] at u1 u2 u3
  rw [hs] at u2
  have hsl := lastT_len h1
  rw [hs] at hsl
  have hin := in_of u1
  have hfit : fitsF d s.length = 0 := by unfold fitsF; rw [if_neg (fun x => x u1), if_neg (fun x => x (by omega))]
  have hdo : doF d s = (doT (toks d) s, 0) := by unfold doF; rw [if_pos hfit]
  have hone : oneF (undoR d) = 0 := by
    unfold oneF undoR
    rw [if_neg (by show ¬ ((0 : Int) < 0 ∨ (7 : Int) < 0 ∨ (1 : Int) < 0 ∨ (2147483647 : Int) < 1); decide)]
    exact u1
  obtain ⟨q1, q2⟩ := goT_snoc l base (undoR d) g3 hone (by rw [hs]; show (doF d s).2 = 0; rw [hdo])
  rw [hs] at q2
  have hth : (textsF base (l ++ [undoR d])).2 = 0 := by
    unfold textsF
    rw [if_neg (by simp; omega), if_neg (fun x => x q1)]
  obtain ⟨t1, t2, t3, t4⟩ := turn_all u1 u2
  have hlen : (goT base l).1.length = l.length := goT_len l base g3
  have hl2 : (l ++ [undoR d]).length = l.length + 1 := by simp
  have htd := doT_len (toks d) s u2.symm
  refine ⟨hth, ?_, ?_, ?_, ?_, ?_, (checkF_all u1).1⟩
  · unfold blameF
    rw [if_pos hth, blF_snoc]
    intro hx
    rcases mem_bl hx with hx | hx
    · omega
    · exact u3 hx
  · have e1 : dlt (l ++ [undoR d]) ((((l.length + 1 : Nat) : Int)).toNat - 1) = d := by
      unfold dlt
      rw [Int.toNat_natCast, Nat.add_sub_cancel, List.getElem?_append_right (Nat.le_refl _)]
      simp [undoR]
    have e2 : txt base (l ++ [undoR d]) ((((l.length + 1 : Nat) : Int)).toNat - 1) = s := by
      unfold txt
      rw [Int.toNat_natCast, Nat.add_sub_cancel, (textsF_ok hth).2.2.2.1, q2, ← hs]
      unfold lastT
      rw [← List.cons_append, List.getD_eq_getElem?_getD, List.getElem?_append_left (by simp; omega), ← List.getD_eq_getElem?_getD]
    have e3 : (l ++ [undoR d]).drop (((l.length + 1 : Nat) : Int)).toNat = [] := by
      rw [Int.toNat_natCast]
      exact List.drop_of_length_le (by simp)
    unfold undoF
    rw [if_neg (fun x => x hth), if_neg (by rw [hl2]; omega), e1, e2, e3]
    rfl
  · have := textF_at hth
    rw [hl2] at this
    rw [this]
    have e : lastT base (l ++ [undoR d]) = (doF d s).1 := by
      unfold lastT
      rw [q2, hl2, ← List.cons_append]
      have : l.length + 1 = (base :: (goT base l).1).length := by simp; omega
      rw [this]
      simp [List.getD_eq_getElem?_getD, undoR]
    rw [e]
  · rw [t2, hdo]
    have c3 := t3
    have hi3 := in_of t3
    have hf3 : fitsF (mkD (turnT (toks d) s)) (doT (toks d) s).length = 0 := by unfold fitsF; rw [if_neg (fun x => x t3), if_neg (fun x => x (by rw [htd, ← hi3, t4]))]
    unfold doF
    rw [if_pos hf3, doT_mkD, (turnT_spec (toks d) s 0 0 u2.symm).2.1]
  · rw [t2]; exact (checkF_all t3).1
theorem undoR_ok {d : List Part} (h : checkF d = 0) : (undoR d).Ok := by
  obtain ⟨c1, c2, _⟩ := checkF_all h
  have hm : maxLen = 9223372036854775807 := by decide
  refine ⟨show I64 0 by unfold I64; decide, show I64 1 by unfold I64; decide, by show d.length ≤ maxLen; omega, fun p hp => ?_⟩
  have hb := okP_bd (c2 p hp)
  have hk : p.kind = 1 ∨ p.kind = 2 ∨ p.kind = 3 := by rcases hb.2.2.2 with h | ⟨h, _⟩ <;> omega
  exact ⟨by unfold I64; omega, by unfold I64; omega, by omega⟩
theorem turn_ok {d : List Part} {s : List UInt8} (h : checkF d = 0) (hi : inT (toks d) = s.length) : checkF (turnF d s).1 = 0 := by
  obtain ⟨t1, t2, t3, t4⟩ := turn_all h hi
  rw [t2]; exact t3
theorem blF_len0 {base : List UInt8} {l : List Rev} (h : (textsF base l).2 = 0) : (blameF base l).length ≤ 500 := by
  unfold blameF
  rw [if_pos h]
  obtain ⟨g1, g2, g3, g4, g5⟩ := textsF_ok h
  have : ∀ (l : List Rev) (i : Int) (w : List Int) (cur : List UInt8), (goT cur l).2 = 0 → w.length = cur.length → (blF i w l).length = (lastT cur l).length := by
    intro l
    induction l with
    | nil => intro i w cur _ h; exact h
    | cons r l ih =>
      intro i w cur h hw
      obtain ⟨c1, c2, c3, c4⟩ := goT_cons h
      obtain ⟨d1, d2, d3, d4⟩ := doF_chain c2
      rw [lastT_cons h, blF]
      exact ih _ _ _ c3 (by rw [blT_len i _ _ (by rw [hw, d2]), d3])
  rw [this l 1 _ base g3 (by simp)]
  exact lastT_len h
theorem sp_law_topUndo (base : List UInt8) (l : List Rev) (k : Int) (_ : base.length ≤ maxLen) (hl : RevsOk l) (hk : I64 k) : Spec Try.prog 4 [.str base, encRevs l, .int .i64 k] Hp.emp (Is (.bool true)) :=
  spec_pure dOk ok_tund [.bool true] (.bool _) fun R hR => by
    have hm : maxLen = 9223372036854775807 := by decide
    obtain ⟨d, hd⟩ : ∃ d, (undoF base l k).1 = d := ⟨_, rfl⟩
    obtain ⟨s, hs⟩ : ∃ s, lastT base l = s := ⟨_, rfl⟩
    obtain ⟨h2, hh2⟩ : ∃ h2, h2 = l ++ [undoR d] := ⟨_, rfl⟩
    have hln : h2.length = l.length + 1 := by rw [hh2]; simp
    have hrows2 : h2.map encRev = l.map encRev ++ [[.int .i64 0, .int .i64 1, .sl false 3 (d.map encPart)]] := by rw [hh2]; simp [encRev, undoR, encParts]
    have law : (undoF base l k).2 = 0 → l.length < 64 → _ := fun a b => undo_law a b d hd s hs
    have okd : (undoF base l k).2 = 0 → l.length < 64 → checkF d = 0 ∧ inT (toks d) = s.length := fun a b => by
      have := undo_all a b
      rw [hd, hs] at this
      exact ⟨this.1, this.2.1⟩
    have okh : (undoF base l k).2 = 0 → l.length < 64 → RevsOk h2 := fun a b => by
      refine ⟨by rw [hln]; omega, fun r hr => ?_⟩
      rw [hh2] at hr
      rcases List.mem_append.1 hr with hr | hr
      · exact hl.2 r hr
      · rw [List.mem_singleton.1 hr]; exact undoR_ok (okd a b).1
    have hu := sp_undo base l k hl
    rw [hd] at hu
    refine vc_tund std rfl _ _ cloneC base l _ rfl k (d.map encPart) (undoF base l k).2 (ansW hu (fun _ => .cons (.same _) (.cons (.weak _ _) (.cons (.same _) .nil))) rfl) (ansSame sp_begun rfl rfl) s (doF d s).1 ((turnF d s).1.map encPart) (iRows (blameF base h2)) (h2.map encRev) hrows2
      (fun a b => ?_) (fun a b ka ba n rs h K hn hrs hka hK => ?_) (fun a b => ?_) (fun a b ka ba n rs j h K hn hrs hj hka hK => ?_) (fun a b ka ba n rs j h K hn hrs hj hka hK => ?_) (fun a b => ?_) R fun s s' b hb he hr => by subst hb; exact hR s s' he hr
    · have h1 := (undoF_ok a).1
      have ht := sp_text base l l.length hl
      rw [textF_at h1, hs] at ht
      have e : std.rlen (l.map encRev) = (l.length : Int) := by rw [rlen_eq rfl]; simp
      rw [e]
      exact ansW ht (fun _ => .cons (.same _) (.cons (.weak _ _) (.cons (.same _) .nil))) rfl
    · subst hrs
      have hb := sp_blame base h2 (okh a b)
      have h1 := (law a b).1
      rw [← hh2] at h1
      rw [h1] at hb
      exact ⟨h, HEnt.refl h, call_pure hb (.cons (.same _) (.cons (.own ka ba 3 n _ (rowsOf_own hn hka) (by simp)) .nil)) hK⟩
    · have h1 := (law a b).1
      have h3 := (law a b).2.1
      rw [← hh2] at h1 h3
      have hc := sp_contains (blameF base h2) (by have := blF_len0 h1; omega) k
      rw [decide_eq_false h3] at hc
      exact ansW hc (fun _ => .cons (.weak _ _) (.cons (.same _) .nil)) rfl
    · subst hrs hj
      have hu2 := sp_undo base h2 (l.length + 1 : Nat) (okh a b)
      have h3 := (law a b).2.2.1
      rw [← hh2] at h3
      rw [h3] at hu2
      have hn2 : n = l.length + 1 := by rw [hn]; simp [hln]
      rw [hn2]
      exact ⟨h, HEnt.refl h, call_pure hu2 (.cons (.same _) (.cons (.own ka ba 3 _ _ (rowsOf_own (by simp [hln]) hka) (by simp)) (.cons (.same _) .nil))) hK⟩
    · subst hrs hj
      have hu2 := sp_text base h2 (l.length + 1 : Nat) (okh a b)
      have h3 := (law a b).2.2.2.1
      rw [← hh2] at h3
      rw [h3] at hu2
      have hn2 : n = l.length + 1 := by rw [hn]; simp [hln]
      rw [hn2]
      exact ⟨h, HEnt.refl h, call_pure hu2 (.cons (.same _) (.cons (.own ka ba 3 _ _ (rowsOf_own (by simp [hln]) hka) (by simp)) (.cons (.same _) .nil))) hK⟩
    · have h3 := (law a b).2.2.2.2
      have hdd := sp_do (turnF d s).1 (by have := h3.2.1; omega) (doF d s).1
      rw [h3.1] at hdd
      exact ansW hdd (fun _ => .cons (.weak _ _) (.cons (.same _) .nil)) rfl
end Go.Proofs.Ytobngncjflogcaa.AM
