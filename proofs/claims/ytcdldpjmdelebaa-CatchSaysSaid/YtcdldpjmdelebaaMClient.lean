/-
  Clients: Check, Out, the document's, and the law ClientChecks.
-/
import Derived.Test.YtcdldpjmdelebaaMU
set_option linter.unusedVariables false
set_option linter.unusedSimpArgs false
namespace Go.Proofs.Ytcdldpjmdelebaa.AM
open Go
set_option maxRecDepth 100000
set_option maxHeartbeats 2000000
def cbad1 (w r q : Int) : Prop := w < 0 ∨ 7 < w ∨ r < 0 ∨ 2147483647 < r ∨ q < 0 ∨ 2147483647 < q
def cbad3 (ns nh : Int) (fl wt : Bool) : Prop := (fl = false ∧ 0 < ns) ∨ (wt = false ∧ 0 < nh) ∨ (wt = true ∧ fl = false)
instance (w r q : Int) : Decidable (cbad1 w r q) := by unfold cbad1; exact inferInstance
instance (ns nh : Int) (fl wt : Bool) : Decidable (cbad3 ns nh fl wt) := by unfold cbad3; exact inferInstance
def cliG (w r q n ns nh is os cs ih oh ch : Int) (fl wt : Bool) : Int :=
  if cbad1 w r q then 1 else if 500 < n then 2 else if cbad3 ns nh fl wt then 3 else if wt = true ∧ ch ≠ 0 then ch else if wt = true ∧ oh ≠ n then 4 else if fl = true ∧ cs ≠ 0 then cs else if fl = true ∧ os ≠ (if wt then ih else n) then 4 else 0
structure CliR (w r q n ns nh is os cs ih oh ch : Int) (fl wt : Bool) (res : Int) : Prop where
  r1 : cbad1 w r q → 1 = res
  r2 : ¬ cbad1 w r q → 500 < n → 2 = res
  r3 : ¬ cbad1 w r q → ¬ 500 < n → cbad3 ns nh fl wt → 3 = res
  r4 : ¬ cbad1 w r q → ¬ 500 < n → ¬ cbad3 ns nh fl wt → wt = true → ch ≠ 0 → ch = res
  r5 : ¬ cbad1 w r q → ¬ 500 < n → ¬ cbad3 ns nh fl wt → wt = true → ch = 0 → oh ≠ n → 4 = res
  r6 : ¬ cbad1 w r q → ¬ 500 < n → ¬ cbad3 ns nh fl wt → (wt = true → ch = 0 ∧ oh = n) → fl = true → cs ≠ 0 → cs = res
  r7 : ¬ cbad1 w r q → ¬ 500 < n → ¬ cbad3 ns nh fl wt → (wt = true → ch = 0 ∧ oh = n) → fl = true → cs = 0 → os ≠ (if wt then ih else n) → 4 = res
  r8 : ¬ cbad1 w r q → ¬ 500 < n → ¬ cbad3 ns nh fl wt → (wt = true → ch = 0 ∧ oh = n) → (fl = true → cs = 0 ∧ os = (if wt then ih else n)) → 0 = res
theorem cliR (w r q n ns nh is os cs ih oh ch : Int) (fl wt : Bool) : CliR w r q n ns nh is os cs ih oh ch fl wt (cliG w r q n ns nh is os cs ih oh ch fl wt) := by
  constructor <;> intros <;> unfold cliG <;> simp_all <;> grind

def cliF (c : Client) : Int := cliG c.who c.rev c.seq c.text.length c.sent.length c.held.length (szF c.sent).1 (szF c.sent).2.1 (szF c.sent).2.2 (szF c.held).1 (szF c.held).2.1 (szF c.held).2.2 c.flying c.waiting
def ac_ccheck : AC := .seq (.region false [
    ⟨some 1, none, .box 24 8 (.t 0)⟩,
    ⟨some 2, none, .mov (.c (.int .i64 0))⟩])
  (.seq (.seq (.region false [
    ⟨some 9, none, .faddr 0 (.t 1)⟩,
    ⟨some 10, none, .load1 (.t 9)⟩,
    ⟨some 11, none, .bin .lss (.t 10) (.c (.int .i64 0))⟩,
    ⟨some 12, none, .mov (.t 11)⟩,
    ⟨some 13, some (12, false), .faddr 0 (.t 1)⟩,
    ⟨some 14, some (12, false), .load1 (.t 13)⟩,
    ⟨some 15, some (12, false), .bin .gtr (.t 14) (.c (.int .i64 7))⟩,
    ⟨some 16, none, .pick (.t 12) (.c (.bool true)) (.t 15)⟩,
    ⟨some 17, none, .mov (.t 16)⟩,
    ⟨some 18, some (17, false), .faddr 1 (.t 1)⟩,
    ⟨some 19, some (17, false), .load1 (.t 18)⟩,
    ⟨some 20, some (17, false), .bin .lss (.t 19) (.c (.int .i64 0))⟩,
    ⟨some 21, none, .pick (.t 17) (.c (.bool true)) (.t 20)⟩,
    ⟨some 22, none, .mov (.t 21)⟩,
    ⟨some 23, some (22, false), .faddr 1 (.t 1)⟩,
    ⟨some 24, some (22, false), .load1 (.t 23)⟩,
    ⟨some 25, some (22, false), .bin .gtr (.t 24) (.c (.int .i64 2147483647))⟩,
    ⟨some 26, none, .pick (.t 22) (.c (.bool true)) (.t 25)⟩,
    ⟨some 27, none, .mov (.t 26)⟩,
    ⟨some 28, some (27, false), .faddr 2 (.t 1)⟩,
    ⟨some 29, some (27, false), .load1 (.t 28)⟩,
    ⟨some 30, some (27, false), .bin .lss (.t 29) (.c (.int .i64 0))⟩,
    ⟨some 31, none, .pick (.t 27) (.c (.bool true)) (.t 30)⟩,
    ⟨some 32, none, .mov (.t 31)⟩,
    ⟨some 33, some (32, false), .faddr 2 (.t 1)⟩,
    ⟨some 34, some (32, false), .load1 (.t 33)⟩,
    ⟨some 35, some (32, false), .bin .gtr (.t 34) (.c (.int .i64 2147483647))⟩,
    ⟨some 36, none, .pick (.t 32) (.c (.bool true)) (.t 35)⟩])
  (.cond (.t 36)
    (.seq (.region false [
      ⟨some 2, none, .mov (.c (.int .i64 1))⟩])
    (.ret))
    (.skip)))
  (.seq (.seq (.region false [
    ⟨some 37, none, .faddr 3 (.t 1)⟩,
    ⟨some 38, none, .load1 (.t 37)⟩,
    ⟨some 39, none, .len true (.t 38)⟩,
    ⟨some 40, none, .bin .gtr (.t 39) (.c (.int .i64 500))⟩])
  (.cond (.t 40)
    (.seq (.region false [
      ⟨some 2, none, .mov (.c (.int .i64 2))⟩])
    (.ret))
    (.skip)))
  (.seq (.seq (.region false [
    ⟨some 41, none, .faddr 4 (.t 1)⟩,
    ⟨some 42, none, .load1 (.t 41)⟩,
    ⟨some 43, none, .not (.t 42)⟩,
    ⟨some 44, none, .mov (.t 43)⟩,
    ⟨some 45, some (44, true), .faddr 5 (.t 1)⟩,
    ⟨some 46, some (44, true), .load1 (.t 45)⟩,
    ⟨some 47, some (44, true), .len false (.t 46)⟩,
    ⟨some 48, some (44, true), .bin .gtr (.t 47) (.c (.int .i64 0))⟩,
    ⟨some 49, none, .pick (.t 44) (.t 48) (.c (.bool false))⟩,
    ⟨some 50, none, .mov (.t 49)⟩,
    ⟨some 51, some (50, false), .faddr 6 (.t 1)⟩,
    ⟨some 52, some (50, false), .load1 (.t 51)⟩,
    ⟨some 53, some (50, false), .not (.t 52)⟩,
    ⟨some 54, some (50, false), .mov (.t 53)⟩,
    ⟨some 55, some (54, true), .faddr 7 (.t 1)⟩,
    ⟨some 56, some (54, true), .load1 (.t 55)⟩,
    ⟨some 57, some (54, true), .len false (.t 56)⟩,
    ⟨some 58, some (54, true), .bin .gtr (.t 57) (.c (.int .i64 0))⟩,
    ⟨some 59, some (50, false), .pick (.t 54) (.t 58) (.c (.bool false))⟩,
    ⟨some 60, none, .pick (.t 50) (.c (.bool true)) (.t 59)⟩,
    ⟨some 61, none, .mov (.t 60)⟩,
    ⟨some 62, some (61, false), .faddr 6 (.t 1)⟩,
    ⟨some 63, some (61, false), .load1 (.t 62)⟩,
    ⟨some 64, some (61, false), .mov (.t 63)⟩,
    ⟨some 65, some (64, true), .faddr 4 (.t 1)⟩,
    ⟨some 66, some (64, true), .load1 (.t 65)⟩,
    ⟨some 67, some (64, true), .not (.t 66)⟩,
    ⟨some 68, some (61, false), .pick (.t 64) (.t 67) (.c (.bool false))⟩,
    ⟨some 69, none, .pick (.t 61) (.c (.bool true)) (.t 68)⟩])
  (.cond (.t 69)
    (.seq (.region false [
      ⟨some 2, none, .mov (.c (.int .i64 3))⟩])
    (.ret))
    (.skip)))
  (.seq (.region false [
    ⟨some 70, none, .faddr 3 (.t 1)⟩,
    ⟨some 71, none, .load1 (.t 70)⟩,
    ⟨some 72, none, .len true (.t 71)⟩,
    ⟨some 3, none, .mov (.t 72)⟩])
  (.seq (.seq (.region false [
    ⟨some 73, none, .faddr 6 (.t 1)⟩,
    ⟨some 74, none, .load1 (.t 73)⟩,
    ⟨some 75, none, .faddr 7 (.t 1)⟩,
    ⟨some 76, none, .load1 (.t 75)⟩,
    ⟨some 77, none, .build [(.bool false), (.slice none 0 0)] [(0, 1, (.t 74)), (1, 1, (.t 76))]⟩,
    ⟨some 78, none, .faddr 4 (.t 1)⟩,
    ⟨some 79, none, .load1 (.t 78)⟩,
    ⟨some 80, none, .faddr 5 (.t 1)⟩,
    ⟨some 81, none, .load1 (.t 80)⟩,
    ⟨some 82, none, .build [(.bool false), (.slice none 0 0)] [(0, 1, (.t 79)), (1, 1, (.t 81))]⟩,
    ⟨some 83, none, .bslice 154 2 [(.t 77), (.t 82)]⟩,
    ⟨some 84, none, .len false (.t 83)⟩,
    ⟨some 85, none, .mov (.c (.int .i64 0))⟩])
  (.block 0 (.loop (.seq (.region false [
      ⟨some 86, none, .bin .lss (.t 85) (.t 84)⟩])
    (.seq (.cond (.t 86)
      (.skip)
      (.exit 0))
    (.seq (.block 1 (.seq (.region false [
      ⟨some 87, none, .iaddr 2 (.t 83) (.t 85)⟩,
      ⟨some 88, none, .loadn 2 (.t 87)⟩,
      ⟨some 5, none, .alloc 154 [(.bool false), (.slice none 0 0)]⟩,
      ⟨none, none, .store 2 (.t 5) (.t 88)⟩])
    (.seq (.seq (.region false [
      ⟨some 89, none, .faddr 0 (.t 5)⟩,
      ⟨some 90, none, .load1 (.t 89)⟩,
      ⟨some 91, none, .not (.t 90)⟩])
    (.cond (.t 91)
      (.exit 1)
      (.skip)))
    (.seq (.region false [
      ⟨some 93, none, .faddr 1 (.t 5)⟩,
      ⟨some 94, none, .load1 (.t 93)⟩,
      ⟨some 95, none, .call 92 [(.t 94)]⟩,
      ⟨some 92, none, .mov (.t 95)⟩,
      ⟨some 96, none, .ext 0 (.t 92)⟩,
      ⟨some 97, none, .ext 1 (.t 92)⟩,
      ⟨some 98, none, .ext 2 (.t 92)⟩,
      ⟨some 6, none, .mov (.t 96)⟩,
      ⟨some 7, none, .mov (.t 97)⟩,
      ⟨some 8, none, .mov (.t 98)⟩])
    (.seq (.seq (.region false [
      ⟨some 99, none, .mov (.t 8)⟩,
      ⟨some 100, none, .bin .neq (.t 99) (.c (.int .i64 0))⟩])
    (.cond (.t 100)
      (.seq (.region false [
        ⟨some 101, none, .mov (.t 8)⟩,
        ⟨some 2, none, .mov (.t 101)⟩])
      (.ret))
      (.skip)))
    (.seq (.seq (.region false [
      ⟨some 102, none, .mov (.t 7)⟩,
      ⟨some 103, none, .mov (.t 3)⟩,
      ⟨some 104, none, .bin .neq (.t 102) (.t 103)⟩])
    (.cond (.t 104)
      (.seq (.region false [
        ⟨some 2, none, .mov (.c (.int .i64 4))⟩])
      (.ret))
      (.skip)))
    (.region false [
      ⟨some 105, none, .mov (.t 6)⟩,
      ⟨some 3, none, .mov (.t 105)⟩])))))))
    (.region false [
      ⟨some 106, none, .bin .add (.t 85) (.c (.int .i64 1))⟩,
      ⟨some 85, none, .mov (.t 106)⟩])))))))
  (.seq (.region false [
    ⟨some 2, none, .mov (.c (.int .i64 0))⟩])
  (.ret)))))))
theorem ok_ccheck : FnOk Try.prog 36 Try.f36 ac_ccheck [.t 2] 1 drawD := ⟨Try.func36, by decide +kernel, by kernel_rfl, by kernel_rfl, by decide +kernel⟩
structure YCk (n n1 oh ch cs os : Int) (fl wt : Bool) where
  k : Int
  size : Int
  h0 : k = 0 ∨ k = 1 ∨ k = 2
  hs : (k = 0 → size = n) ∧ (k = 1 → size = n1)
  h1 : k ≠ 0 → wt = true → ch = 0 ∧ oh = n
  h2 : k = 2 → fl = true → cs = 0 ∧ os = n1
theorem vc_ccheck (P : Prim) (hP : P = std) (T T1 : CallT) (w r q n ns nh is os cs ih oh ch : Int) (fl wt : Bool) (s : List UInt8) (sr hr : List (List V)) (hn : P.slen s = n) (hns : P.rlen sr = ns) (hnh : P.rlen hr = nh)
    (hc1 : Ans T 92 [.sl false 3 hr] (.tup [.int .i64 ih, .int .i64 oh, .int .i64 ch])) (hc2 : Ans T 92 [.sl false 3 sr] (.tup [.int .i64 is, .int .i64 os, .int .i64 cs]))
    (res : Int) (n1 : Int) (hn1 : n1 = if wt then ih else n) (hres : CliR w r q n ns nh is os cs ih oh ch fl wt res)
    (R : S → Prop) (hR : ∀ s s' x, x = res → Ent s s' → Ret [.t 2] [.int .i64 x] s' → R s) : awp P T T1 ac_ccheck (S0 [.agg [.int .i64 w, .int .i64 r, .int .i64 q, .str s, .bool fl, .sl false 3 sr, .bool wt, .sl false 3 hr]] Hp.emp) R (fun _ _ => False) R := by
  obtain ⟨r1, r2, r3, r4, r5, r6, r7, r8⟩ := hres
  rw [← hn1] at r7 r8
  cbv
  intro β1
  cbv
  by_cases hb1 : cbad1 w r q
  · have e := r1 hb1
    clear r1 r2 r3 r4 r5 r6 r7 r8 hc1 hc2
    unfold cbad1 at hb1
    refine br_cases (fun h => ?_) (fun h => ?_)
    · cbv; exact hR _ _ _ e (Ent.refl _) rfl
    have n1 := lt_f hP h
    cbv
    refine br_cases (fun h => ?_) (fun h => ?_)
    · cbv; exact hR _ _ _ e (Ent.refl _) rfl
    have n2 := lt_f hP h
    cbv
    refine br_cases (fun h => ?_) (fun h => ?_)
    · cbv; exact hR _ _ _ e (Ent.refl _) rfl
    have n3 := lt_f hP h
    cbv
    refine br_cases (fun h => ?_) (fun h => ?_)
    · cbv; exact hR _ _ _ e (Ent.refl _) rfl
    have n4 := lt_f hP h
    cbv
    refine br_cases (fun h => ?_) (fun h => ?_)
    · cbv; exact hR _ _ _ e (Ent.refl _) rfl
    have n5 := lt_f hP h
    cbv
    refine br_cases (fun h => ?_) (fun h => ?_)
    · cbv; exact hR _ _ _ e (Ent.refl _) rfl
    have n6 := lt_f hP h
    omega
  replace r2 := r2 hb1
  replace r3 := r3 hb1
  replace r4 := r4 hb1
  replace r5 := r5 hb1
  replace r6 := r6 hb1
  replace r7 := r7 hb1
  replace r8 := r8 hb1
  unfold cbad1 at hb1
  refine br_ff (lt_F hP (by omega)) ?_
  cbv
  refine br_ff (lt_F hP (by omega)) ?_
  cbv
  refine br_ff (lt_F hP (by omega)) ?_
  cbv
  refine br_ff (lt_F hP (by omega)) ?_
  cbv
  refine br_ff (lt_F hP (by omega)) ?_
  cbv
  refine br_ff (lt_F hP (by omega)) ?_
  cbv
  clear r1
  refine br_cases (fun h => ?_) (fun h => ?_)
  · have h5 : 500 < P.slen s := lt_t hP h
    rw [hn] at h5
    cbv
    exact hR _ _ _ (r2 h5) (Ent.refl _) rfl
  have h5 : ¬ 500 < P.slen s := lt_f hP h
  rw [hn] at h5
  replace r3 := r3 h5
  replace r4 := r4 h5
  replace r5 := r5 h5
  replace r6 := r6 h5
  replace r7 := r7 h5
  replace r8 := r8 h5
  clear r2 h
  cbv
  by_cases hb3 : cbad3 ns nh fl wt
  · have e := r3 hb3
    clear r3 r4 r5 r6 r7 r8 hc1 hc2
    unfold cbad3 at hb3
    refine br_cases (fun hf => ?_) (fun hf => ?_)
    · cbv
      refine br_cases (fun hw => ?_) (fun hw => ?_)
      · exfalso
        rw [hf, hw] at hb3; simp at hb3
      · cbv
        refine br_cases (fun h => ?_) (fun h => ?_)
        · cbv; exact hR _ _ _ e (Ent.refl _) rfl
        · exfalso
          have h6 : ¬ 0 < P.rlen hr := lt_f hP h
          rw [hnh] at h6
          rw [hf, hw] at hb3; simp at hb3; omega
    · cbv
      refine br_cases (fun h => ?_) (fun h => ?_)
      · cbv; exact hR _ _ _ e (Ent.refl _) rfl
      · have h6 : ¬ 0 < P.rlen sr := lt_f hP h
        rw [hns] at h6
        cbv
        refine br_cases (fun hw => ?_) (fun hw => ?_)
        · cbv
          repeat' first
            | (refine br_cases (fun h => ?_) (fun h => ?_) <;> try cbv)
          all_goals first
            | (exact hR _ _ _ e (Ent.refl _) rfl)
            | (exfalso; simp_all; done)
        · cbv
          refine br_cases (fun h => ?_) (fun h => ?_)
          · cbv; exact hR _ _ _ e (Ent.refl _) rfl
          · exfalso
            have h7 : ¬ 0 < P.rlen hr := lt_f hP h
            rw [hnh] at h7
            rw [hf, hw] at hb3; simp at hb3; omega
  replace r4 := r4 hb3
  replace r5 := r5 hb3
  replace r6 := r6 hb3
  replace r7 := r7 hb3
  replace r8 := r8 hb3
  clear r3
  have q1 : fl = false → P.lt 0 (P.rlen sr) = false := fun h => lt_F hP (by rw [hns]; intro h2; exact hb3 (.inl ⟨h, h2⟩))
  have q2 : wt = false → P.lt 0 (P.rlen hr) = false := fun h => lt_F hP (by rw [hnh]; intro h2; exact hb3 (.inr (.inl ⟨h, h2⟩)))
  have q3 : wt = true → fl = true := fun h => by
    cases fl with
    | true => rfl
    | false => exact absurd (.inr (.inr ⟨h, rfl⟩)) hb3
  have hi2 : P.int 2 = 2 := by rw [int_eq hP]; rfl
  have hcase : (fl = false ∧ wt = false) ∨ (fl = true ∧ wt = false) ∨ (fl = true ∧ wt = true) := by
    cases fl <;> cases wt <;> simp at q3 ⊢
  rcases hcase with ⟨hf, hw⟩ | ⟨hf, hw⟩ | ⟨hf, hw⟩
  · have z1 := q1 hf
    have z2 := q2 hw
    repeat' first | (refine br_ff hf ?_; cbv) | (refine br_ff hw ?_; cbv) | (refine br_ff z1 ?_; cbv) | (refine br_ff z2 ?_; cbv)
    intro β83
    cbv
    refine ⟨YCk n n1 oh ch cs os fl wt, fun y => [(3, .int .i64 y.size), (83, .own 1000083 (some β83) 2 2), (84, .int .i64 (P.int 2)), (85, .int .i64 y.k)],
      fun y => [(1000083, ⟨some β83, 154, 2, [[.bool wt, .sl false 3 hr], [.bool fl, .sl false 3 sr]]⟩)], fun y => (2 - y.k).toNat,
      ⟨_, Ent.refl _, ⟨0, _, .inl rfl, ⟨fun _ => hn, fun h => absurd h (by decide)⟩, fun h => absurd rfl h, fun h => absurd h (by decide)⟩, ⟨rfl, rfl, rfl, rfl, trivial⟩, ⟨rfl, trivial⟩⟩, ?_⟩
    rintro ⟨k, size, h0, ⟨hs0, hs1⟩, hk1, hk2⟩
    cbv
    refine br_cases (fun h => ?_) (fun h => ?_)
    · have h2 : k < P.int 2 := lt_t hP h
      rw [hi2] at h2
      have o1 : P.leP 0 k := le0 hP (by omega)
      have o2 : P.ltP k (P.int 2) := ltI hP (by rw [hi2]; exact h2)
      have o3 : P.i64 (P.add k 1) := by rw [add_eq hP]; exact i64I hP (by omega)
      have hm : (2 - P.add k 1).toNat < (2 - k).toNat := by rw [add_eq hP]; omega
      by_cases hk0 : k = 0
      · have hrow : P.row [[.bool wt, .sl false 3 hr], [.bool fl, .sl false 3 sr]] (P.nat k) [.bool wt, .sl false 3 hr] := row_of hP (i := 0) hk0 rfl
        have e1 : P.add k 1 = 1 := by rw [add_eq hP, hk0]; rfl
        have hsz := hs0 hk0
        cbv
        refine ⟨o1, o2, _, hrow, ?_⟩
        cbv
        intro β5
        cbv
        refine br_cases (fun hw => ?_) (fun hw => ?_)
        · cbv
          refine hc1 _ _ ?_
          cbv
          refine br_cases (fun h => ?_) (fun h => ?_)
          · have hz := ne_t hP h
            cbv
            exact hR _ _ _ (r4 hw hz) (Ent.refl _) rfl
          have hz := ne_f hP h
          cbv
          refine br_cases (fun h => ?_) (fun h => ?_)
          · have hy := ne_t hP h
            rw [hsz] at hy
            cbv
            exact hR _ _ _ (r5 hw hz hy) (Ent.refl _) rfl
          have hy := ne_f hP h
          rw [hsz] at hy
          cbv
          refine ⟨o3, ?_⟩
          refine ⟨_, Ent.refl _, ⟨P.add k 1, _, .inr (.inl e1), ⟨fun h => absurd (e1.symm.trans h) (by decide), fun _ => ?_⟩, fun _ _ => ⟨hz, hy⟩, fun h => absurd (e1.symm.trans h) (by decide)⟩, ⟨rfl, rfl, rfl, rfl, trivial⟩, ⟨rfl, trivial⟩, hm⟩
          rw [hn1, if_pos hw]
        · cbv
          refine ⟨o3, ?_⟩
          refine ⟨_, Ent.refl _, ⟨P.add k 1, _, .inr (.inl e1), ⟨fun h => absurd (e1.symm.trans h) (by decide), fun _ => ?_⟩, fun _ h => ?_, fun h => absurd (e1.symm.trans h) (by decide)⟩, ⟨rfl, rfl, rfl, rfl, trivial⟩, ⟨rfl, trivial⟩, hm⟩
          · rw [hn1, if_neg (by rw [hw]; decide)]; exact hsz
          · rw [hw] at h; cases h
      · have hk1' : k = 1 := by omega
        have hrow : P.row [[.bool wt, .sl false 3 hr], [.bool fl, .sl false 3 sr]] (P.nat k) [.bool fl, .sl false 3 sr] := row_of hP (i := 1) hk1' rfl
        have e1 : P.add k 1 = 2 := by rw [add_eq hP, hk1']; rfl
        have hsz := hs1 hk1'
        have hwa := hk1 hk0
        cbv
        refine ⟨o1, o2, _, hrow, ?_⟩
        cbv
        intro β5
        cbv
        refine br_cases (fun hw => ?_) (fun hw => ?_)
        · cbv
          refine hc2 _ _ ?_
          cbv
          refine br_cases (fun h => ?_) (fun h => ?_)
          · have hz := ne_t hP h
            cbv
            exact hR _ _ _ (r6 hwa hw hz) (Ent.refl _) rfl
          have hz := ne_f hP h
          cbv
          refine br_cases (fun h => ?_) (fun h => ?_)
          · have hy := ne_t hP h
            rw [hsz] at hy
            cbv
            exact hR _ _ _ (r7 hwa hw hz hy) (Ent.refl _) rfl
          have hy := ne_f hP h
          rw [hsz] at hy
          cbv
          refine ⟨o3, ?_⟩
          exact ⟨_, Ent.refl _, ⟨P.add k 1, _, .inr (.inr e1), ⟨fun h => absurd (e1.symm.trans h) (by decide), fun h => absurd (e1.symm.trans h) (by decide)⟩, fun _ => hwa, fun _ _ => ⟨hz, hy⟩⟩, ⟨rfl, rfl, rfl, rfl, trivial⟩, ⟨rfl, trivial⟩, hm⟩
        · cbv
          refine ⟨o3, ?_⟩
          exact ⟨_, Ent.refl _, ⟨P.add k 1, _, .inr (.inr e1), ⟨fun h => absurd (e1.symm.trans h) (by decide), fun h => absurd (e1.symm.trans h) (by decide)⟩, fun _ => hwa, fun _ h => by rw [hw] at h; cases h⟩, ⟨rfl, rfl, rfl, rfl, trivial⟩, ⟨rfl, trivial⟩, hm⟩
    · have h2 : ¬ k < P.int 2 := lt_f hP h
      rw [hi2] at h2
      have hk2' : k = 2 := by omega
      cbv
      exact hR _ _ _ (r8 (hk1 (by omega)) (hk2 hk2')) (Ent.refl _) rfl
  · have z2 := q2 hw
    repeat' first | (refine br_tt hf ?_; cbv) | (refine br_ff hw ?_; cbv) | (refine br_ff z2 ?_; cbv)
    intro β83
    cbv
    refine ⟨YCk n n1 oh ch cs os fl wt, fun y => [(3, .int .i64 y.size), (83, .own 1000083 (some β83) 2 2), (84, .int .i64 (P.int 2)), (85, .int .i64 y.k)],
      fun y => [(1000083, ⟨some β83, 154, 2, [[.bool wt, .sl false 3 hr], [.bool fl, .sl false 3 sr]]⟩)], fun y => (2 - y.k).toNat,
      ⟨_, Ent.refl _, ⟨0, _, .inl rfl, ⟨fun _ => hn, fun h => absurd h (by decide)⟩, fun h => absurd rfl h, fun h => absurd h (by decide)⟩, ⟨rfl, rfl, rfl, rfl, trivial⟩, ⟨rfl, trivial⟩⟩, ?_⟩
    rintro ⟨k, size, h0, ⟨hs0, hs1⟩, hk1, hk2⟩
    cbv
    refine br_cases (fun h => ?_) (fun h => ?_)
    · have h2 : k < P.int 2 := lt_t hP h
      rw [hi2] at h2
      have o1 : P.leP 0 k := le0 hP (by omega)
      have o2 : P.ltP k (P.int 2) := ltI hP (by rw [hi2]; exact h2)
      have o3 : P.i64 (P.add k 1) := by rw [add_eq hP]; exact i64I hP (by omega)
      have hm : (2 - P.add k 1).toNat < (2 - k).toNat := by rw [add_eq hP]; omega
      by_cases hk0 : k = 0
      · have hrow : P.row [[.bool wt, .sl false 3 hr], [.bool fl, .sl false 3 sr]] (P.nat k) [.bool wt, .sl false 3 hr] := row_of hP (i := 0) hk0 rfl
        have e1 : P.add k 1 = 1 := by rw [add_eq hP, hk0]; rfl
        have hsz := hs0 hk0
        cbv
        refine ⟨o1, o2, _, hrow, ?_⟩
        cbv
        intro β5
        cbv
        refine br_cases (fun hw => ?_) (fun hw => ?_)
        · cbv
          refine hc1 _ _ ?_
          cbv
          refine br_cases (fun h => ?_) (fun h => ?_)
          · have hz := ne_t hP h
            cbv
            exact hR _ _ _ (r4 hw hz) (Ent.refl _) rfl
          have hz := ne_f hP h
          cbv
          refine br_cases (fun h => ?_) (fun h => ?_)
          · have hy := ne_t hP h
            rw [hsz] at hy
            cbv
            exact hR _ _ _ (r5 hw hz hy) (Ent.refl _) rfl
          have hy := ne_f hP h
          rw [hsz] at hy
          cbv
          refine ⟨o3, ?_⟩
          refine ⟨_, Ent.refl _, ⟨P.add k 1, _, .inr (.inl e1), ⟨fun h => absurd (e1.symm.trans h) (by decide), fun _ => ?_⟩, fun _ _ => ⟨hz, hy⟩, fun h => absurd (e1.symm.trans h) (by decide)⟩, ⟨rfl, rfl, rfl, rfl, trivial⟩, ⟨rfl, trivial⟩, hm⟩
          rw [hn1, if_pos hw]
        · cbv
          refine ⟨o3, ?_⟩
          refine ⟨_, Ent.refl _, ⟨P.add k 1, _, .inr (.inl e1), ⟨fun h => absurd (e1.symm.trans h) (by decide), fun _ => ?_⟩, fun _ h => ?_, fun h => absurd (e1.symm.trans h) (by decide)⟩, ⟨rfl, rfl, rfl, rfl, trivial⟩, ⟨rfl, trivial⟩, hm⟩
          · rw [hn1, if_neg (by rw [hw]; decide)]; exact hsz
          · rw [hw] at h; cases h
      · have hk1' : k = 1 := by omega
        have hrow : P.row [[.bool wt, .sl false 3 hr], [.bool fl, .sl false 3 sr]] (P.nat k) [.bool fl, .sl false 3 sr] := row_of hP (i := 1) hk1' rfl
        have e1 : P.add k 1 = 2 := by rw [add_eq hP, hk1']; rfl
        have hsz := hs1 hk1'
        have hwa := hk1 hk0
        cbv
        refine ⟨o1, o2, _, hrow, ?_⟩
        cbv
        intro β5
        cbv
        refine br_cases (fun hw => ?_) (fun hw => ?_)
        · cbv
          refine hc2 _ _ ?_
          cbv
          refine br_cases (fun h => ?_) (fun h => ?_)
          · have hz := ne_t hP h
            cbv
            exact hR _ _ _ (r6 hwa hw hz) (Ent.refl _) rfl
          have hz := ne_f hP h
          cbv
          refine br_cases (fun h => ?_) (fun h => ?_)
          · have hy := ne_t hP h
            rw [hsz] at hy
            cbv
            exact hR _ _ _ (r7 hwa hw hz hy) (Ent.refl _) rfl
          have hy := ne_f hP h
          rw [hsz] at hy
          cbv
          refine ⟨o3, ?_⟩
          exact ⟨_, Ent.refl _, ⟨P.add k 1, _, .inr (.inr e1), ⟨fun h => absurd (e1.symm.trans h) (by decide), fun h => absurd (e1.symm.trans h) (by decide)⟩, fun _ => hwa, fun _ _ => ⟨hz, hy⟩⟩, ⟨rfl, rfl, rfl, rfl, trivial⟩, ⟨rfl, trivial⟩, hm⟩
        · cbv
          refine ⟨o3, ?_⟩
          exact ⟨_, Ent.refl _, ⟨P.add k 1, _, .inr (.inr e1), ⟨fun h => absurd (e1.symm.trans h) (by decide), fun h => absurd (e1.symm.trans h) (by decide)⟩, fun _ => hwa, fun _ h => by rw [hw] at h; cases h⟩, ⟨rfl, rfl, rfl, rfl, trivial⟩, ⟨rfl, trivial⟩, hm⟩
    · have h2 : ¬ k < P.int 2 := lt_f hP h
      rw [hi2] at h2
      have hk2' : k = 2 := by omega
      cbv
      exact hR _ _ _ (r8 (hk1 (by omega)) (hk2 hk2')) (Ent.refl _) rfl
  · repeat' first | (refine br_tt hf ?_; cbv) | (refine br_tt hw ?_; cbv)
    intro β83
    cbv
    refine ⟨YCk n n1 oh ch cs os fl wt, fun y => [(3, .int .i64 y.size), (83, .own 1000083 (some β83) 2 2), (84, .int .i64 (P.int 2)), (85, .int .i64 y.k)],
      fun y => [(1000083, ⟨some β83, 154, 2, [[.bool wt, .sl false 3 hr], [.bool fl, .sl false 3 sr]]⟩)], fun y => (2 - y.k).toNat,
      ⟨_, Ent.refl _, ⟨0, _, .inl rfl, ⟨fun _ => hn, fun h => absurd h (by decide)⟩, fun h => absurd rfl h, fun h => absurd h (by decide)⟩, ⟨rfl, rfl, rfl, rfl, trivial⟩, ⟨rfl, trivial⟩⟩, ?_⟩
    rintro ⟨k, size, h0, ⟨hs0, hs1⟩, hk1, hk2⟩
    cbv
    refine br_cases (fun h => ?_) (fun h => ?_)
    · have h2 : k < P.int 2 := lt_t hP h
      rw [hi2] at h2
      have o1 : P.leP 0 k := le0 hP (by omega)
      have o2 : P.ltP k (P.int 2) := ltI hP (by rw [hi2]; exact h2)
      have o3 : P.i64 (P.add k 1) := by rw [add_eq hP]; exact i64I hP (by omega)
      have hm : (2 - P.add k 1).toNat < (2 - k).toNat := by rw [add_eq hP]; omega
      by_cases hk0 : k = 0
      · have hrow : P.row [[.bool wt, .sl false 3 hr], [.bool fl, .sl false 3 sr]] (P.nat k) [.bool wt, .sl false 3 hr] := row_of hP (i := 0) hk0 rfl
        have e1 : P.add k 1 = 1 := by rw [add_eq hP, hk0]; rfl
        have hsz := hs0 hk0
        cbv
        refine ⟨o1, o2, _, hrow, ?_⟩
        cbv
        intro β5
        cbv
        refine br_cases (fun hw => ?_) (fun hw => ?_)
        · cbv
          refine hc1 _ _ ?_
          cbv
          refine br_cases (fun h => ?_) (fun h => ?_)
          · have hz := ne_t hP h
            cbv
            exact hR _ _ _ (r4 hw hz) (Ent.refl _) rfl
          have hz := ne_f hP h
          cbv
          refine br_cases (fun h => ?_) (fun h => ?_)
          · have hy := ne_t hP h
            rw [hsz] at hy
            cbv
            exact hR _ _ _ (r5 hw hz hy) (Ent.refl _) rfl
          have hy := ne_f hP h
          rw [hsz] at hy
          cbv
          refine ⟨o3, ?_⟩
          refine ⟨_, Ent.refl _, ⟨P.add k 1, _, .inr (.inl e1), ⟨fun h => absurd (e1.symm.trans h) (by decide), fun _ => ?_⟩, fun _ _ => ⟨hz, hy⟩, fun h => absurd (e1.symm.trans h) (by decide)⟩, ⟨rfl, rfl, rfl, rfl, trivial⟩, ⟨rfl, trivial⟩, hm⟩
          rw [hn1, if_pos hw]
        · cbv
          refine ⟨o3, ?_⟩
          refine ⟨_, Ent.refl _, ⟨P.add k 1, _, .inr (.inl e1), ⟨fun h => absurd (e1.symm.trans h) (by decide), fun _ => ?_⟩, fun _ h => ?_, fun h => absurd (e1.symm.trans h) (by decide)⟩, ⟨rfl, rfl, rfl, rfl, trivial⟩, ⟨rfl, trivial⟩, hm⟩
          · rw [hn1, if_neg (by rw [hw]; decide)]; exact hsz
          · rw [hw] at h; cases h
      · have hk1' : k = 1 := by omega
        have hrow : P.row [[.bool wt, .sl false 3 hr], [.bool fl, .sl false 3 sr]] (P.nat k) [.bool fl, .sl false 3 sr] := row_of hP (i := 1) hk1' rfl
        have e1 : P.add k 1 = 2 := by rw [add_eq hP, hk1']; rfl
        have hsz := hs1 hk1'
        have hwa := hk1 hk0
        cbv
        refine ⟨o1, o2, _, hrow, ?_⟩
        cbv
        intro β5
        cbv
        refine br_cases (fun hw => ?_) (fun hw => ?_)
        · cbv
          refine hc2 _ _ ?_
          cbv
          refine br_cases (fun h => ?_) (fun h => ?_)
          · have hz := ne_t hP h
            cbv
            exact hR _ _ _ (r6 hwa hw hz) (Ent.refl _) rfl
          have hz := ne_f hP h
          cbv
          refine br_cases (fun h => ?_) (fun h => ?_)
          · have hy := ne_t hP h
            rw [hsz] at hy
            cbv
            exact hR _ _ _ (r7 hwa hw hz hy) (Ent.refl _) rfl
          have hy := ne_f hP h
          rw [hsz] at hy
          cbv
          refine ⟨o3, ?_⟩
          exact ⟨_, Ent.refl _, ⟨P.add k 1, _, .inr (.inr e1), ⟨fun h => absurd (e1.symm.trans h) (by decide), fun h => absurd (e1.symm.trans h) (by decide)⟩, fun _ => hwa, fun _ _ => ⟨hz, hy⟩⟩, ⟨rfl, rfl, rfl, rfl, trivial⟩, ⟨rfl, trivial⟩, hm⟩
        · cbv
          refine ⟨o3, ?_⟩
          exact ⟨_, Ent.refl _, ⟨P.add k 1, _, .inr (.inr e1), ⟨fun h => absurd (e1.symm.trans h) (by decide), fun h => absurd (e1.symm.trans h) (by decide)⟩, fun _ => hwa, fun _ h => by rw [hw] at h; cases h⟩, ⟨rfl, rfl, rfl, rfl, trivial⟩, ⟨rfl, trivial⟩, hm⟩
    · have h2 : ¬ k < P.int 2 := lt_f hP h
      rw [hi2] at h2
      have hk2' : k = 2 := by omega
      cbv
      exact hR _ _ _ (r8 (hk1 (by omega)) (hk2 hk2')) (Ent.refl _) rfl
theorem sp_ccheck (c : Client) (hs : c.sent.length ≤ maxLen) (hh : c.held.length ≤ maxLen) : Spec Try.prog 36 [.agg (encClient c)] Hp.emp (Is (.int .i64 (cliF c))) :=
  spec_pure dOk ok_ccheck [.int .i64 (cliF c)] (.int _ _) fun R hR => vc_ccheck std rfl _ _ c.who c.rev c.seq c.text.length c.sent.length c.held.length (szF c.sent).1 (szF c.sent).2.1 (szF c.sent).2.2 (szF c.held).1 (szF c.held).2.1 (szF c.held).2.2 c.flying c.waiting c.text (c.sent.map encPart) (c.held.map encPart) rfl (by show ((c.sent.map encPart).length : Int) = _; simp) (by show ((c.held.map encPart).length : Int) = _; simp)
    (ansL (sp_szs c.held hh) rfl) (ansL (sp_szs c.sent hs) rfl) (cliF c) _ rfl (cliR _ _ _ _ _ _ _ _ _ _ _ _ _ _) R fun s s' x h he hr => by subst h; exact hR s s' he hr
/-! the document's -/
def ac_rcli : AC := .seq (.region false [
    ⟨some 1, none, .box 24 8 (.t 0)⟩,
    ⟨some 2, none, .mov (.c (.int .i64 0))⟩])
  (.seq (.seq (.region false [
    ⟨some 6, none, .faddr 0 (.t 1)⟩,
    ⟨some 7, none, .load1 (.t 6)⟩,
    ⟨some 8, none, .bin .lss (.t 7) (.c (.int .i64 0))⟩,
    ⟨some 9, none, .mov (.t 8)⟩,
    ⟨some 10, some (9, false), .faddr 0 (.t 1)⟩,
    ⟨some 11, some (9, false), .load1 (.t 10)⟩,
    ⟨some 12, some (9, false), .bin .gtr (.t 11) (.c (.int .i64 7))⟩,
    ⟨some 13, none, .pick (.t 9) (.c (.bool true)) (.t 12)⟩,
    ⟨some 14, none, .mov (.t 13)⟩,
    ⟨some 15, some (14, false), .faddr 1 (.t 1)⟩,
    ⟨some 16, some (14, false), .load1 (.t 15)⟩,
    ⟨some 17, some (14, false), .faddr 2 (.t 1)⟩,
    ⟨some 18, some (14, false), .load1 (.t 17)⟩,
    ⟨some 19, some (14, false), .mm false (.t 16) (.t 18)⟩,
    ⟨some 20, some (14, false), .bin .lss (.t 19) (.c (.int .i64 0))⟩,
    ⟨some 21, none, .pick (.t 14) (.c (.bool true)) (.t 20)⟩,
    ⟨some 22, none, .mov (.t 21)⟩,
    ⟨some 23, some (22, false), .faddr 1 (.t 1)⟩,
    ⟨some 24, some (22, false), .load1 (.t 23)⟩,
    ⟨some 25, some (22, false), .faddr 2 (.t 1)⟩,
    ⟨some 26, some (22, false), .load1 (.t 25)⟩,
    ⟨some 27, some (22, false), .mm true (.t 24) (.t 26)⟩,
    ⟨some 28, some (22, false), .bin .gtr (.t 27) (.c (.int .i64 2147483647))⟩,
    ⟨some 29, none, .pick (.t 22) (.c (.bool true)) (.t 28)⟩])
  (.cond (.t 29)
    (.seq (.region false [
      ⟨some 2, none, .mov (.c (.int .i64 1))⟩])
    (.ret))
    (.skip)))
  (.seq (.seq (.region false [
    ⟨some 30, none, .faddr 3 (.t 1)⟩,
    ⟨some 31, none, .load1 (.t 30)⟩,
    ⟨some 32, none, .len true (.t 31)⟩,
    ⟨some 33, none, .bin .gtr (.t 32) (.c (.int .i64 500))⟩])
  (.cond (.t 33)
    (.seq (.region false [
      ⟨some 2, none, .mov (.c (.int .i64 2))⟩])
    (.ret))
    (.skip)))
  (.seq (.seq (.region false [
    ⟨some 34, none, .faddr 5 (.t 1)⟩,
    ⟨some 35, none, .load1 (.t 34)⟩,
    ⟨some 36, none, .len false (.t 35)⟩,
    ⟨some 37, none, .bin .gtr (.t 36) (.c (.int .i64 0))⟩,
    ⟨some 38, none, .mov (.t 37)⟩,
    ⟨some 39, some (38, true), .faddr 4 (.t 1)⟩,
    ⟨some 40, some (38, true), .load1 (.t 39)⟩,
    ⟨some 41, some (38, true), .not (.t 40)⟩,
    ⟨some 42, none, .pick (.t 38) (.t 41) (.c (.bool false))⟩,
    ⟨some 43, none, .mov (.t 42)⟩,
    ⟨some 44, some (43, false), .faddr 7 (.t 1)⟩,
    ⟨some 45, some (43, false), .load1 (.t 44)⟩,
    ⟨some 46, some (43, false), .len false (.t 45)⟩,
    ⟨some 47, some (43, false), .bin .gtr (.t 46) (.c (.int .i64 0))⟩,
    ⟨some 48, some (43, false), .mov (.t 47)⟩,
    ⟨some 49, some (48, true), .faddr 6 (.t 1)⟩,
    ⟨some 50, some (48, true), .load1 (.t 49)⟩,
    ⟨some 51, some (48, true), .not (.t 50)⟩,
    ⟨some 52, some (43, false), .pick (.t 48) (.t 51) (.c (.bool false))⟩,
    ⟨some 53, none, .pick (.t 43) (.c (.bool true)) (.t 52)⟩,
    ⟨some 54, none, .mov (.t 53)⟩,
    ⟨some 55, some (54, false), .faddr 6 (.t 1)⟩,
    ⟨some 56, some (54, false), .load1 (.t 55)⟩,
    ⟨some 57, some (54, false), .mov (.t 56)⟩,
    ⟨some 58, some (57, true), .faddr 4 (.t 1)⟩,
    ⟨some 59, some (57, true), .load1 (.t 58)⟩,
    ⟨some 60, some (57, true), .not (.t 59)⟩,
    ⟨some 61, some (54, false), .pick (.t 57) (.t 60) (.c (.bool false))⟩,
    ⟨some 62, none, .pick (.t 54) (.c (.bool true)) (.t 61)⟩])
  (.cond (.t 62)
    (.seq (.region false [
      ⟨some 2, none, .mov (.c (.int .i64 3))⟩])
    (.ret))
    (.skip)))
  (.seq (.region false [
    ⟨some 63, none, .faddr 3 (.t 1)⟩,
    ⟨some 64, none, .load1 (.t 63)⟩,
    ⟨some 65, none, .len true (.t 64)⟩,
    ⟨some 3, none, .mov (.t 65)⟩])
  (.seq (.seq (.region false [
    ⟨some 66, none, .faddr 6 (.t 1)⟩,
    ⟨some 67, none, .load1 (.t 66)⟩])
  (.cond (.t 67)
    (.seq (.seq (.region false [
      ⟨some 68, none, .faddr 7 (.t 1)⟩,
      ⟨some 69, none, .load1 (.t 68)⟩,
      ⟨some 70, none, .call 19 [(.t 69)]⟩,
      ⟨some 4, none, .mov (.t 70)⟩])
    (.seq (.region false [
      ⟨some 71, none, .mov (.t 4)⟩,
      ⟨some 72, none, .bin .neq (.t 71) (.c (.int .i64 0))⟩])
    (.cond (.t 72)
      (.seq (.region false [
        ⟨some 73, none, .mov (.t 4)⟩,
        ⟨some 2, none, .mov (.t 73)⟩])
      (.ret))
      (.skip))))
    (.seq (.seq (.region false [
      ⟨some 74, none, .faddr 7 (.t 1)⟩,
      ⟨some 75, none, .load1 (.t 74)⟩,
      ⟨some 76, none, .call 57 [(.t 75)]⟩,
      ⟨some 77, none, .mov (.t 3)⟩,
      ⟨some 78, none, .bin .neq (.t 76) (.t 77)⟩])
    (.cond (.t 78)
      (.seq (.region false [
        ⟨some 2, none, .mov (.c (.int .i64 4))⟩])
      (.ret))
      (.skip)))
    (.region false [
      ⟨some 79, none, .faddr 7 (.t 1)⟩,
      ⟨some 80, none, .load1 (.t 79)⟩,
      ⟨some 81, none, .call 56 [(.t 80)]⟩,
      ⟨some 3, none, .mov (.t 81)⟩])))
    (.skip)))
  (.seq (.seq (.region false [
    ⟨some 82, none, .faddr 4 (.t 1)⟩,
    ⟨some 83, none, .load1 (.t 82)⟩])
  (.cond (.t 83)
    (.seq (.seq (.region false [
      ⟨some 84, none, .faddr 5 (.t 1)⟩,
      ⟨some 85, none, .load1 (.t 84)⟩,
      ⟨some 86, none, .call 19 [(.t 85)]⟩,
      ⟨some 5, none, .mov (.t 86)⟩])
    (.seq (.region false [
      ⟨some 87, none, .mov (.t 5)⟩,
      ⟨some 88, none, .bin .neq (.t 87) (.c (.int .i64 0))⟩])
    (.cond (.t 88)
      (.seq (.region false [
        ⟨some 89, none, .mov (.t 5)⟩,
        ⟨some 2, none, .mov (.t 89)⟩])
      (.ret))
      (.skip))))
    (.seq (.region false [
      ⟨some 90, none, .faddr 5 (.t 1)⟩,
      ⟨some 91, none, .load1 (.t 90)⟩,
      ⟨some 92, none, .call 57 [(.t 91)]⟩,
      ⟨some 93, none, .mov (.t 3)⟩,
      ⟨some 94, none, .bin .neq (.t 92) (.t 93)⟩])
    (.cond (.t 94)
      (.seq (.region false [
        ⟨some 2, none, .mov (.c (.int .i64 4))⟩])
      (.ret))
      (.skip))))
    (.skip)))
  (.seq (.region false [
    ⟨some 2, none, .mov (.c (.int .i64 0))⟩])
  (.ret))))))))
theorem ok_rcli : FnOk Try.prog 41 Try.f41 ac_rcli [.t 2] 1 drawD := ⟨Try.func41, by decide +kernel, by kernel_rfl, by kernel_rfl, by decide +kernel⟩
theorem vc_rcli (P : Prim) (hP : P = std) (T T1 : CallT) (w r q n ns nh is os cs ih oh ch : Int) (fl wt : Bool) (s : List UInt8) (sr hr : List (List V)) (hn : P.slen s = n) (hns : P.rlen sr = ns) (hnh : P.rlen hr = nh)
    (hd1 : Ans T 19 [.sl false 3 hr] (.int .i64 ch)) (hd2 : Ans T 19 [.sl false 3 sr] (.int .i64 cs)) (ho1 : ch = 0 → Ans T 57 [.sl false 3 hr] (.int .i64 oh)) (hi1 : ch = 0 → Ans T 56 [.sl false 3 hr] (.int .i64 ih)) (ho2 : cs = 0 → Ans T 57 [.sl false 3 sr] (.int .i64 os))
    (res : Int) (hres : CliR w r q n ns nh is os cs ih oh ch fl wt res)
    (R : S → Prop) (hR : ∀ s s' x, x = res → Ent s s' → Ret [.t 2] [.int .i64 x] s' → R s) : awp P T T1 ac_rcli (S0 [.agg [.int .i64 w, .int .i64 r, .int .i64 q, .str s, .bool fl, .sl false 3 sr, .bool wt, .sl false 3 hr]] Hp.emp) R (fun _ _ => False) R := by
  obtain ⟨r1, r2, r3, r4, r5, r6, r7, r8⟩ := hres
  cbv
  intro β1
  cbv
  by_cases hb1 : cbad1 w r q
  · have e := r1 hb1
    clear r1 r2 r3 r4 r5 r6 r7 r8 hd1 hd2 ho1 hi1 ho2
    unfold cbad1 at hb1
    refine br_cases (fun h => ?_) (fun h => ?_)
    · cbv; exact hR _ _ _ e (Ent.refl _) rfl
    have n1 := lt_f hP h
    cbv
    refine br_cases (fun h => ?_) (fun h => ?_)
    · cbv; exact hR _ _ _ e (Ent.refl _) rfl
    have n2 := lt_f hP h
    cbv
    refine br_cases (fun h => ?_) (fun h => ?_)
    · cbv; exact hR _ _ _ e (Ent.refl _) rfl
    have n3 : ¬ P.mn r q < 0 := lt_f hP h
    rw [mn_eq hP] at n3
    cbv
    refine br_cases (fun h => ?_) (fun h => ?_)
    · cbv; exact hR _ _ _ e (Ent.refl _) rfl
    have n4 : ¬ 2147483647 < P.mx r q := lt_f hP h
    rw [mx_eq hP] at n4
    omega
  replace r2 := r2 hb1
  replace r3 := r3 hb1
  replace r4 := r4 hb1
  replace r5 := r5 hb1
  replace r6 := r6 hb1
  replace r7 := r7 hb1
  replace r8 := r8 hb1
  unfold cbad1 at hb1
  have m1 : P.lt (P.mn r q) 0 = false := lt_F hP (by rw [mn_eq hP]; omega)
  have m2 : P.lt 2147483647 (P.mx r q) = false := lt_F hP (by rw [mx_eq hP]; omega)
  refine br_ff (lt_F hP (by omega)) ?_
  cbv
  refine br_ff (lt_F hP (by omega)) ?_
  cbv
  refine br_ff m1 ?_
  cbv
  refine br_ff m2 ?_
  cbv
  clear r1
  refine br_cases (fun h => ?_) (fun h => ?_)
  · have h5 : 500 < P.slen s := lt_t hP h
    rw [hn] at h5
    cbv
    exact hR _ _ _ (r2 h5) (Ent.refl _) rfl
  have h5 : ¬ 500 < P.slen s := lt_f hP h
  rw [hn] at h5
  replace r3 := r3 h5
  replace r4 := r4 h5
  replace r5 := r5 h5
  replace r6 := r6 h5
  replace r7 := r7 h5
  replace r8 := r8 h5
  clear r2 h
  cbv
  by_cases hb3 : cbad3 ns nh fl wt
  · have e := r3 hb3
    clear r3 r4 r5 r6 r7 r8 hd1 hd2 ho1 hi1 ho2
    have p1 : 0 < ns → P.lt 0 (P.rlen sr) = true := fun h => lt_T hP (by rw [hns]; exact h)
    have p2 : ¬ 0 < ns → P.lt 0 (P.rlen sr) = false := fun h => lt_F hP (by rw [hns]; exact h)
    have p3 : 0 < nh → P.lt 0 (P.rlen hr) = true := fun h => lt_T hP (by rw [hnh]; exact h)
    have p4 : ¬ 0 < nh → P.lt 0 (P.rlen hr) = false := fun h => lt_F hP (by rw [hnh]; exact h)
    have hx : (fl = true ∨ fl = false) ∧ (wt = true ∨ wt = false) := by cases fl <;> cases wt <;> simp
    obtain ⟨hf | hf, hw | hw⟩ := hx
    all_goals
      by_cases g1 : 0 < ns
      · by_cases g2 : 0 < nh
        all_goals
          first
          | (have z1 := p1 g1; have z2 := p3 g2
             repeat' first | (refine br_tt hf ?_; cbv) | (refine br_ff hf ?_; cbv) | (refine br_tt hw ?_; cbv) | (refine br_ff hw ?_; cbv) | (refine br_tt z1 ?_; cbv) | (refine br_tt z2 ?_; cbv)
             first | (exact hR _ _ _ e (Ent.refl _) rfl) | (exfalso; unfold cbad3 at hb3; rw [hf, hw] at hb3; simp at hb3; omega) | (exfalso; unfold cbad3 at hb3; rw [hf, hw] at hb3; simp at hb3; done))
          | (have z1 := p1 g1; have z2 := p4 g2
             repeat' first | (refine br_tt hf ?_; cbv) | (refine br_ff hf ?_; cbv) | (refine br_tt hw ?_; cbv) | (refine br_ff hw ?_; cbv) | (refine br_tt z1 ?_; cbv) | (refine br_ff z2 ?_; cbv)
             first | (exact hR _ _ _ e (Ent.refl _) rfl) | (exfalso; unfold cbad3 at hb3; rw [hf, hw] at hb3; simp at hb3; omega) | (exfalso; unfold cbad3 at hb3; rw [hf, hw] at hb3; simp at hb3; done))
      · by_cases g2 : 0 < nh
        all_goals
          first
          | (have z1 := p2 g1; have z2 := p3 g2
             repeat' first | (refine br_tt hf ?_; cbv) | (refine br_ff hf ?_; cbv) | (refine br_tt hw ?_; cbv) | (refine br_ff hw ?_; cbv) | (refine br_ff z1 ?_; cbv) | (refine br_tt z2 ?_; cbv)
             first | (exact hR _ _ _ e (Ent.refl _) rfl) | (exfalso; unfold cbad3 at hb3; rw [hf, hw] at hb3; simp at hb3; omega) | (exfalso; unfold cbad3 at hb3; rw [hf, hw] at hb3; simp at hb3; done))
          | (have z1 := p2 g1; have z2 := p4 g2
             repeat' first | (refine br_tt hf ?_; cbv) | (refine br_ff hf ?_; cbv) | (refine br_tt hw ?_; cbv) | (refine br_ff hw ?_; cbv) | (refine br_ff z1 ?_; cbv) | (refine br_ff z2 ?_; cbv)
             first | (exact hR _ _ _ e (Ent.refl _) rfl) | (exfalso; unfold cbad3 at hb3; rw [hf, hw] at hb3; simp at hb3; omega) | (exfalso; unfold cbad3 at hb3; rw [hf, hw] at hb3; simp at hb3; done))
  replace r4 := r4 hb3
  replace r5 := r5 hb3
  replace r6 := r6 hb3
  replace r7 := r7 hb3
  replace r8 := r8 hb3
  clear r3
  have q1 : fl = false → P.lt 0 (P.rlen sr) = false := fun h => lt_F hP (by rw [hns]; intro h2; exact hb3 (.inl ⟨h, h2⟩))
  have q2 : wt = false → P.lt 0 (P.rlen hr) = false := fun h => lt_F hP (by rw [hnh]; intro h2; exact hb3 (.inr (.inl ⟨h, h2⟩)))
  have q3 : wt = true → fl = true := fun h => by
    cases fl with
    | true => rfl
    | false => exact absurd (.inr (.inr ⟨h, rfl⟩)) hb3
  have hcase : (fl = false ∧ wt = false) ∨ (fl = true ∧ wt = false) ∨ (fl = true ∧ wt = true) := by
    cases fl <;> cases wt <;> simp at q3 ⊢
  rcases hcase with ⟨hf, hw⟩ | ⟨hf, hw⟩ | ⟨hf, hw⟩
  · have z1 := q1 hf
    have z2 := q2 hw
    repeat' first | (refine br_ff hf ?_; cbv) | (refine br_ff hw ?_; cbv) | (refine br_ff z1 ?_; cbv) | (refine br_ff z2 ?_; cbv)
    exact hR _ _ _ (r8 (fun h => by rw [hw] at h; cases h) (fun h => by rw [hf] at h; cases h)) (Ent.refl _) rfl
  · have z2 := q2 hw
    have hwx : wt = true → ch = 0 ∧ oh = n := fun h => by rw [hw] at h; cases h
    have e1 : (if wt then ih else n) = n := if_neg (by rw [hw]; decide)
    rw [e1] at r7 r8
    by_cases g1 : P.lt 0 (P.rlen sr) = true
    · repeat' first | (refine br_tt g1 ?_; cbv) | (refine br_tt hf ?_; cbv) | (refine br_ff hw ?_; cbv) | (refine br_ff z2 ?_; cbv)
      refine hd2 _ _ ?_
      cbv
      refine br_cases (fun h => ?_) (fun h => ?_)
      · have hz := ne_t hP h
        cbv
        exact hR _ _ _ (r6 hwx hf hz) (Ent.refl _) rfl
      have hz := ne_f hP h
      have f2 := ho2 hz
      clear ho2 ho1 hi1
      cbv
      refine f2 _ _ ?_
      cbv
      refine br_cases (fun h => ?_) (fun h => ?_)
      · have hy : os ≠ P.slen s := ne_t hP h
        rw [hn] at hy
        cbv
        exact hR _ _ _ (r7 hwx hf hz hy) (Ent.refl _) rfl
      have hy : os = P.slen s := ne_f hP h
      rw [hn] at hy
      cbv
      exact hR _ _ _ (r8 hwx (fun _ => ⟨hz, hy⟩)) (Ent.refl _) rfl
    · rw [Bool.not_eq_true] at g1
      repeat' first | (refine br_ff g1 ?_; cbv) | (refine br_tt hf ?_; cbv) | (refine br_ff hw ?_; cbv) | (refine br_ff z2 ?_; cbv)
      refine hd2 _ _ ?_
      cbv
      refine br_cases (fun h => ?_) (fun h => ?_)
      · have hz := ne_t hP h
        cbv
        exact hR _ _ _ (r6 hwx hf hz) (Ent.refl _) rfl
      have hz := ne_f hP h
      have f2 := ho2 hz
      clear ho2 ho1 hi1
      cbv
      refine f2 _ _ ?_
      cbv
      refine br_cases (fun h => ?_) (fun h => ?_)
      · have hy : os ≠ P.slen s := ne_t hP h
        rw [hn] at hy
        cbv
        exact hR _ _ _ (r7 hwx hf hz hy) (Ent.refl _) rfl
      have hy : os = P.slen s := ne_f hP h
      rw [hn] at hy
      cbv
      exact hR _ _ _ (r8 hwx (fun _ => ⟨hz, hy⟩)) (Ent.refl _) rfl
  · have e1 : (if wt then ih else n) = ih := if_pos hw
    rw [e1] at r7 r8
    cases g1 : P.lt 0 (P.rlen sr) <;> cases g2 : P.lt 0 (P.rlen hr)
    all_goals
      repeat' first | (refine br_tt g1 ?_; cbv) | (refine br_ff g1 ?_; cbv) | (refine br_tt g2 ?_; cbv) | (refine br_ff g2 ?_; cbv) | (refine br_tt hf ?_; cbv) | (refine br_tt hw ?_; cbv)
      refine hd1 _ _ ?_
      cbv
      refine br_cases (fun h => ?_) (fun h => ?_)
      · have hz := ne_t hP h
        cbv
        exact hR _ _ _ (r4 hw hz) (Ent.refl _) rfl
      have hz := ne_f hP h
      have f1 := ho1 hz
      have f2 := hi1 hz
      cbv
      refine f1 _ _ ?_
      cbv
      refine br_cases (fun h => ?_) (fun h => ?_)
      · have hy : oh ≠ P.slen s := ne_t hP h
        rw [hn] at hy
        cbv
        exact hR _ _ _ (r5 hw hz hy) (Ent.refl _) rfl
      have hy : oh = P.slen s := ne_f hP h
      rw [hn] at hy
      cbv
      refine f2 _ _ ?_
      cbv
      repeat' first | (refine br_tt hf ?_; cbv)
      refine hd2 _ _ ?_
      cbv
      refine br_cases (fun h => ?_) (fun h => ?_)
      · have hz2 := ne_t hP h
        cbv
        exact hR _ _ _ (r6 (fun _ => ⟨hz, hy⟩) hf hz2) (Ent.refl _) rfl
      have hz2 := ne_f hP h
      have f3 := ho2 hz2
      cbv
      refine f3 _ _ ?_
      cbv
      refine br_cases (fun h => ?_) (fun h => ?_)
      · have hy2 := ne_t hP h
        cbv
        exact hR _ _ _ (r7 (fun _ => ⟨hz, hy⟩) hf hz2 hy2) (Ent.refl _) rfl
      have hy2 := ne_f hP h
      cbv
      exact hR _ _ _ (r8 (fun _ => ⟨hz, hy⟩) (fun _ => ⟨hz2, hy2⟩)) (Ent.refl _) rfl
theorem szF_out {d : List Part} : (szF d).2.2 = checkF d ∧ (checkF d = 0 → (szF d).1 = inF d ∧ (szF d).2.1 = outF d) := by
  unfold szF
  by_cases h : checkF d = 0
  · rw [if_pos h]; exact ⟨h.symm, fun _ => ⟨rfl, rfl⟩⟩
  · rw [if_neg h]; exact ⟨rfl, fun g => absurd g h⟩
theorem sp_rcli (c : Client) (hs : c.sent.length ≤ maxLen) (hh : c.held.length ≤ maxLen) : Spec Try.prog 41 [.agg (encClient c)] Hp.emp (Is (.int .i64 (cliF c))) :=
  spec_pure dOk ok_rcli [.int .i64 (cliF c)] (.int _ _) fun R hR => vc_rcli std rfl _ _ c.who c.rev c.seq c.text.length c.sent.length c.held.length (szF c.sent).1 (szF c.sent).2.1 (szF c.sent).2.2 (szF c.held).1 (szF c.held).2.1 (szF c.held).2.2 c.flying c.waiting c.text (c.sent.map encPart) (c.held.map encPart) rfl (by show ((c.sent.map encPart).length : Int) = _; simp) (by show ((c.held.map encPart).length : Int) = _; simp)
    (by rw [szF_out.1]; exact ansL (sp_rdelta c.held hh) rfl) (by rw [szF_out.1]; exact ansL (sp_rdelta c.sent hs) rfl)
    (fun h => by rw [szF_out.1] at h; rw [(szF_out.2 h).2]; exact ansL (sp_rout c.held (checkF_all h).1 (checkF_all h).2.1) rfl) (fun h => by rw [szF_out.1] at h; rw [(szF_out.2 h).1]; exact ansL (sp_rin c.held (checkF_all h).1 (checkF_all h).2.1) rfl)
    (fun h => by rw [szF_out.1] at h; rw [(szF_out.2 h).2]; exact ansL (sp_rout c.sent (checkF_all h).1 (checkF_all h).2.1) rfl)
    (cliF c) (cliR _ _ _ _ _ _ _ _ _ _ _ _ _ _) R fun s s' x h he hr => by subst h; exact hR s s' he hr
/-! Out -/
def RetMsg (rv : List RV) (b w q : Int) (rows : List (List V)) (e : Int) (R : S → Prop) : Prop :=
  (∀ (s s' : S) (x1 x2 x3 e2 : Int), Ent s s' → Ret rv [.agg [.int .i64 x1, .int .i64 x2, .int .i64 x3, .nilsl], .int .i64 e2] s' → x1 = b ∧ x2 = w ∧ x3 = q ∧ rows = [] ∧ e2 = e → R s) ∧
  (∀ (s s' : S) (x1 x2 x3 e2 : Int) (k : Nat) (β : Option Nat) (t n : Nat) (w1 : List (List V)), Ent s s' → Ret rv [.agg [.int .i64 x1, .int .i64 x2, .int .i64 x3, .own k β 3 n], .int .i64 e2] s' → s'.h k = some ⟨β, t, 3, w1⟩ → x1 = b ∧ x2 = w ∧ x3 = q ∧ n = rows.length ∧ w1 = rows ∧ e2 = e → R s)
theorem retMsg_of {rv : List RV} {b w q : Int} {d : List Part} {e : Int} {R : S → Prop} (hR : ∀ s s', Ent s s' → RetF rv (.tup [.agg [.int .i64 b, .int .i64 w, .int .i64 q, encParts d], .int .i64 e]) s' → R s) : RetMsg rv b w q (d.map encPart) e R := by
  refine ⟨?_, ?_⟩
  · rintro s s' x1 x2 x3 e2 he hr ⟨rfl, rfl, rfl, h4, rfl⟩
    refine hR s s' he (resV_mono _ _ _ (fun x hx => ?_) hr)
    subst hx
    unfold encParts
    rw [h4]
    exact .tup_cons (.agg_cons (.same _ (.int _ _)) (.agg_cons (.same _ (.int _ _)) (.agg_cons (.same _ (.int _ _)) (.agg_cons (.nilsl 3) .agg_nil)))) (.tup_cons (.same _ (.int _ _)) .tup_nil)
  · rintro s s' x1 x2 x3 e2 k β t n w1 he hr g1 ⟨rfl, rfl, rfl, rfl, rfl, rfl⟩
    refine hR s s' he (resV_mono _ _ _ (fun x hx => ?_) hr)
    subst hx
    exact .tup_cons (.agg_cons (.same _ (.int _ _)) (.agg_cons (.same _ (.int _ _)) (.agg_cons (.same _ (.int _ _)) (.agg_cons (.rows g1 rfl rfl rfl (parts_sz _) (encParts_fz _)) .agg_nil)))) (.tup_cons (.same _ (.int _ _)) .tup_nil)
def outC (c : Client) : Msg × Int := if cliF c ≠ 0 then (⟨0, 0, 0, []⟩, cliF c) else if c.flying = false then (⟨0, 0, 0, []⟩, 7) else (⟨c.rev, c.who, c.seq, c.sent⟩, 0)
theorem cliG_ok {w r q n ns nh is os cs ih oh ch : Int} {fl wt : Bool} (h : cliG w r q n ns nh is os cs ih oh ch fl wt = 0) :
    ¬ cbad1 w r q ∧ n ≤ 500 ∧ ¬ cbad3 ns nh fl wt ∧ (wt = true → ch = 0 ∧ oh = n) ∧ (fl = true → cs = 0 ∧ os = (if wt then ih else n)) := by
  unfold cliG at h
  split at h
  · contradiction
  · split at h
    · contradiction
    · split at h
      · contradiction
      · refine ⟨by assumption, by omega, by assumption, ?_, ?_⟩ <;> grind
theorem cliF_ok {c : Client} (h : cliF c = 0) : (c.flying = true → checkF c.sent = 0) ∧ (c.flying = false → c.sent = []) ∧ (c.waiting = true → checkF c.held = 0) ∧ (c.waiting = false → c.held = []) ∧ c.text.length ≤ 500 := by
  obtain ⟨h1, h2, h3, h4, h5⟩ := cliG_ok h
  rw [szF_out.1] at h4 h5
  unfold cbad3 at h3
  refine ⟨fun hf => (h5 hf).1, fun hf => ?_, fun hw => (h4 hw).1, fun hw => ?_, by omega⟩
  · have : ¬ (0 : Int) < c.sent.length := fun h => h3 (.inl ⟨hf, h⟩)
    exact List.eq_nil_of_length_eq_zero (by omega)
  · have : ¬ (0 : Int) < c.held.length := fun h => h3 (.inr (.inl ⟨hw, h⟩))
    exact List.eq_nil_of_length_eq_zero (by omega)
theorem cli_sent {c : Client} (h : cliF c = 0) : c.sent.length ≤ 1600 := by
  obtain ⟨h1, h2, _⟩ := cliF_ok h
  cases hf : c.flying with
  | true => exact (checkF_all (h1 hf)).1
  | false => rw [h2 hf]; simp
/-! SameMsg -/
/-! the law -/
theorem outC_len (c : Client) : (outC c).1.delta.length ≤ 10000000 := by
  unfold outC
  split
  · simp
  · rename_i h
    split
    · simp
    · have := cli_sent (Decidable.of_not_not h)
      simp only []
      omega
end Go.Proofs.Ytcdldpjmdelebaa.AM
