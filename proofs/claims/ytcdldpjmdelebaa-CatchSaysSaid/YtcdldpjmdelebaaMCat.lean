/-
  Who comes late: catchup.Of, and the law CatchSays.
-/
import Derived.Test.YtcdldpjmdelebaaMBtw2
import Derived.Test.YtcdldpjmdelebaaMCli2
set_option linter.unusedVariables false
set_option linter.unusedSimpArgs false
namespace Go.Proofs.Ytcdldpjmdelebaa.AM
open Go
set_option maxRecDepth 100000
set_option maxHeartbeats 2000000
def catF (base : List UInt8) (l : List Rev) (r : Int) (mine : List Part) : List Part × List Part × List Part × Int :=
  if (btwF base l r l.length).2 ≠ 0 then ([], [], [], (btwF base l r l.length).2) else if fitsF mine (txt base l r.toNat).length ≠ 0 then ([], [], [], fitsF mine (txt base l r.toNat).length)
  else if (meetF (btwF base l r l.length).1 mine).2.2 ≠ 0 then ([], [], [], (meetF (btwF base l r l.length).1 mine).2.2) else ((btwF base l r l.length).1, (meetF (btwF base l r l.length).1 mine).2.1, (meetF (btwF base l r l.length).1 mine).1, 0)
def RetCat (rv : List RV) (a b c : List (List V)) (x : Int) (R : S → Prop) : Prop :=
  ∀ (s s' : S) (v1 v2 v3 : V) (a' b' c' : List (List V)) (x' : Int), Ent s s' → Ret rv [v1, v2, v3, .int .i64 x'] s' → SlP s'.h a' v1 → SlP s'.h b' v2 → SlP s'.h c' v3 → a' = a ∧ b' = b ∧ c' = c ∧ x' = x → R s
theorem retCat_of {rv : List RV} {a b c : List Part} {x : Int} {R : S → Prop} (hR : ∀ s s', Ent s s' → RetF rv (.tup [encParts a, encParts b, encParts c, .int .i64 x]) s' → R s) : RetCat rv (a.map encPart) (b.map encPart) (c.map encPart) x R := by
  rintro s s' v1 v2 v3 a' b' c' x' he hret h1 h2 h3 ⟨rfl, rfl, rfl, rfl⟩
  refine hR s s' he (resV_mono _ _ _ (fun x hx => ?_) hret)
  subst hx
  exact .tup_cons h1.fr (.tup_cons h2.fr (.tup_cons h3.fr (.tup_cons (.same _ (.int _ _)) .tup_nil)))
def ac_cat : AC := .seq (.region false [
    ⟨some 8, none, .mov (.c (.slice none 0 0))⟩,
    ⟨some 9, none, .mov (.c (.slice none 0 0))⟩,
    ⟨some 10, none, .mov (.c (.slice none 0 0))⟩,
    ⟨some 11, none, .mov (.c (.int .i64 0))⟩])
  (.seq (.region false [
    ⟨some 17, none, .mov (.t 0)⟩,
    ⟨some 18, none, .mov (.t 1)⟩,
    ⟨some 19, none, .mov (.t 2)⟩,
    ⟨some 20, none, .mov (.t 1)⟩,
    ⟨some 21, none, .len false (.t 20)⟩,
    ⟨some 22, none, .call 22 [(.t 17), (.t 18), (.t 19), (.t 21)]⟩,
    ⟨some 16, none, .mov (.t 22)⟩,
    ⟨some 23, none, .ext 0 (.t 16)⟩,
    ⟨some 24, none, .ext 1 (.t 16)⟩,
    ⟨some 12, none, .mov (.t 23)⟩,
    ⟨some 11, none, .mov (.t 24)⟩])
  (.seq (.seq (.region false [
    ⟨some 25, none, .mov (.t 11)⟩,
    ⟨some 26, none, .bin .neq (.t 25) (.c (.int .i64 0))⟩])
  (.cond (.t 26)
    (.seq (.region false [
      ⟨some 27, none, .mov (.t 11)⟩,
      ⟨some 8, none, .mov (.c (.slice none 0 0))⟩,
      ⟨some 9, none, .mov (.c (.slice none 0 0))⟩,
      ⟨some 10, none, .mov (.c (.slice none 0 0))⟩,
      ⟨some 11, none, .mov (.t 27)⟩])
    (.ret))
    (.skip)))
  (.seq (.region false [
    ⟨some 29, none, .mov (.t 0)⟩,
    ⟨some 30, none, .mov (.t 1)⟩,
    ⟨some 31, none, .mov (.t 2)⟩,
    ⟨some 32, none, .call 72 [(.t 29), (.t 30), (.t 31)]⟩,
    ⟨some 28, none, .mov (.t 32)⟩,
    ⟨some 33, none, .ext 0 (.t 28)⟩,
    ⟨some 34, none, .ext 1 (.t 28)⟩,
    ⟨some 13, none, .mov (.t 33)⟩,
    ⟨some 14, none, .mov (.t 34)⟩])
  (.seq (.seq (.region false [
    ⟨some 35, none, .mov (.t 3)⟩,
    ⟨some 36, none, .mov (.t 13)⟩,
    ⟨some 37, none, .len true (.t 36)⟩,
    ⟨some 38, none, .call 73 [(.t 35), (.t 37)]⟩,
    ⟨some 15, none, .mov (.t 38)⟩])
  (.seq (.region false [
    ⟨some 39, none, .mov (.t 15)⟩,
    ⟨some 40, none, .bin .neq (.t 39) (.c (.int .i64 0))⟩])
  (.cond (.t 40)
    (.seq (.region false [
      ⟨some 41, none, .mov (.t 15)⟩,
      ⟨some 8, none, .mov (.c (.slice none 0 0))⟩,
      ⟨some 9, none, .mov (.c (.slice none 0 0))⟩,
      ⟨some 10, none, .mov (.c (.slice none 0 0))⟩,
      ⟨some 11, none, .mov (.t 41)⟩])
    (.ret))
    (.skip))))
  (.seq (.region false [
    ⟨some 43, none, .mov (.t 12)⟩,
    ⟨some 44, none, .mov (.t 3)⟩,
    ⟨some 45, none, .call 39 [(.t 43), (.t 44)]⟩,
    ⟨some 42, none, .mov (.t 45)⟩,
    ⟨some 46, none, .ext 0 (.t 42)⟩,
    ⟨some 47, none, .ext 1 (.t 42)⟩,
    ⟨some 48, none, .ext 2 (.t 42)⟩,
    ⟨some 10, none, .mov (.t 46)⟩,
    ⟨some 9, none, .mov (.t 47)⟩,
    ⟨some 11, none, .mov (.t 48)⟩])
  (.seq (.seq (.region false [
    ⟨some 49, none, .mov (.t 11)⟩,
    ⟨some 50, none, .bin .neq (.t 49) (.c (.int .i64 0))⟩])
  (.cond (.t 50)
    (.seq (.region false [
      ⟨some 51, none, .mov (.t 11)⟩,
      ⟨some 8, none, .mov (.c (.slice none 0 0))⟩,
      ⟨some 9, none, .mov (.c (.slice none 0 0))⟩,
      ⟨some 10, none, .mov (.c (.slice none 0 0))⟩,
      ⟨some 11, none, .mov (.t 51)⟩])
    (.ret))
    (.skip)))
  (.seq (.region false [
    ⟨some 52, none, .mov (.t 12)⟩,
    ⟨some 53, none, .mov (.t 9)⟩,
    ⟨some 54, none, .mov (.t 10)⟩,
    ⟨some 8, none, .mov (.t 52)⟩,
    ⟨some 9, none, .mov (.t 53)⟩,
    ⟨some 10, none, .mov (.t 54)⟩,
    ⟨some 11, none, .mov (.c (.int .i64 0))⟩])
  (.ret))))))))
theorem ok_cat : FnOk Try.prog 30 Try.f30 ac_cat [.t 8, .t 9, .t 10, .t 11] 4 drawD := ⟨Try.func30, by decide +kernel, by kernel_rfl, by kernel_rfl, by decide +kernel⟩
theorem vc_cat (P : Prim) (hP : P = std) (T T1 : CallT) (base s : List UInt8) (r e0 e1 e2 f : Int) (rows mr dr ar br : List (List V))
    (h1 : Ans T 22 [.str base, .sl true 3 rows, .int .i64 r, .int .i64 (P.rlen rows)] (.tup [.sl false 3 dr, .int .i64 e0]))
    (h2 : e0 = 0 → Ans T 72 [.str base, .sl true 3 rows, .int .i64 r] (.tup [.str s, .int .i64 f]))
    (h3 : e0 = 0 → Ans T 73 [.sl false 3 mr, .int .i64 (P.slen s)] (.int .i64 e1))
    (h4 : e0 = 0 → e1 = 0 → Ans T 39 [.sl false 3 dr, .sl false 3 mr] (.tup [.sl false 3 br, .sl false 3 ar, .int .i64 e2]))
    (a b c : List (List V)) (x : Int) (r1 : e0 ≠ 0 → [] = a ∧ [] = b ∧ [] = c ∧ e0 = x) (r2 : e0 = 0 → e1 ≠ 0 → [] = a ∧ [] = b ∧ [] = c ∧ e1 = x)
    (r3 : e0 = 0 → e1 = 0 → e2 ≠ 0 → [] = a ∧ [] = b ∧ [] = c ∧ e2 = x) (r4 : e0 = 0 → e1 = 0 → e2 = 0 → dr = a ∧ ar = b ∧ br = c ∧ 0 = x)
    (R : S → Prop) (hR : RetCat [.t 8, .t 9, .t 10, .t 11] a b c x R) : awp P T T1 ac_cat (S0 [.str base, .sl true 3 rows, .int .i64 r, .sl false 3 mr] Hp.emp) R (fun _ _ => False) R := by
  cbv
  refine h1 _ _ ?_
  clear h1
  cbv
  refine br_cases (fun h => ?_) (fun h => ?_)
  · have hx := r1 (ne_t hP h)
    cbv
    exact hR _ _ _ _ _ _ _ _ _ (Ent.refl _) rfl (.inr (.inl ⟨rfl, rfl⟩)) (.inr (.inl ⟨rfl, rfl⟩)) (.inr (.inl ⟨rfl, rfl⟩)) hx
  have he0 := ne_f hP h
  have f2 := h2 he0
  have f3 := h3 he0
  clear h h2 h3
  cbv
  refine f2 _ _ ?_
  cbv
  refine f3 _ _ ?_
  cbv
  refine br_cases (fun h => ?_) (fun h => ?_)
  · have hx := r2 he0 (ne_t hP h)
    cbv
    exact hR _ _ _ _ _ _ _ _ _ (Ent.refl _) rfl (.inr (.inl ⟨rfl, rfl⟩)) (.inr (.inl ⟨rfl, rfl⟩)) (.inr (.inl ⟨rfl, rfl⟩)) hx
  have he1 := ne_f hP h
  have f4 := h4 he0 he1
  clear h h4
  cbv
  refine f4 _ _ ?_
  cbv
  refine br_cases (fun h => ?_) (fun h => ?_)
  · have hx := r3 he0 he1 (ne_t hP h)
    cbv
    exact hR _ _ _ _ _ _ _ _ _ (Ent.refl _) rfl (.inr (.inl ⟨rfl, rfl⟩)) (.inr (.inl ⟨rfl, rfl⟩)) (.inr (.inl ⟨rfl, rfl⟩)) hx
  have hx := r4 he0 he1 (ne_f hP h)
  cbv
  exact hR _ _ _ _ _ _ _ _ _ (Ent.refl _) rfl (.inl rfl) (.inl rfl) (.inl rfl) hx
theorem rlen_revs (l : List Rev) : std.rlen (l.map encRev) = (l.length : Int) := by show ((l.map encRev).length : Int) = _; simp
theorem btw_ok {base : List UInt8} {l : List Rev} {i k : Int} (h : (btwF base l i k).2 = 0) : (textsF base l).2 = 0 ∧ 0 ≤ i ∧ i ≤ k ∧ k ≤ l.length := by
  unfold btwF at h
  split at h
  · rename_i h1; exact absurd h h1
  · rename_i h1
    split at h
    · exact absurd h (by decide)
    · exact ⟨Decidable.of_not_not h1, by omega, by omega, by omega⟩
theorem sp_cat (base : List UInt8) (l : List Rev) (r : Int) (mine : List Part) (hl : RevsOk l) (hm : mine.length ≤ maxLen) : Spec Try.prog 30 [.str base, .sl true 3 (l.map encRev), .int .i64 r, .sl false 3 (mine.map encPart)] Hp.emp
    (Is (.tup [encParts (catF base l r mine).1, encParts (catF base l r mine).2.1, encParts (catF base l r mine).2.2.1, .int .i64 (catF base l r mine).2.2.2])) :=
  spec_frz dOk ok_cat fun R hR => vc_cat std rfl _ _ base (txt base l r.toNat) r (btwF base l r l.length).2 (fitsF mine (txt base l r.toNat).length) (meetF (btwF base l r l.length).1 mine).2.2 0 (l.map encRev) (mine.map encPart) ((btwF base l r l.length).1.map encPart) ((meetF (btwF base l r l.length).1 mine).2.1.map encPart) ((meetF (btwF base l r l.length).1 mine).1.map encPart)
    (by rw [rlen_revs]; exact ansSame (sp_btw base l r l.length hl) rfl rfl)
    (fun h => by
      obtain ⟨g1, g2, g3, _⟩ := btw_ok h
      have e1 : textF base l r = (txt base l r.toNat, 0) := by
        unfold textF txt; rw [if_neg (fun h => h g1), if_neg (by omega)]
      have := ansSame (sp_text base l r hl) rfl rfl
      rw [e1] at this
      exact this)
    (fun h => ansLs (sp_fits mine hm _) rfl rfl)
    (fun h h' => ansSame (sp_meet (btwF base l r l.length).1 mine (len_of (btw_len _ _ _ _)) hm) rfl rfl)
    _ _ _ _ (fun h => by unfold catF; rw [if_pos h]; exact ⟨rfl, rfl, rfl, rfl⟩) (fun h h2 => by unfold catF; rw [if_neg (fun g => g h), if_pos h2]; exact ⟨rfl, rfl, rfl, rfl⟩)
    (fun h h2 h3 => by unfold catF; rw [if_neg (fun g => g h), if_neg (fun g => g h2), if_pos h3]; exact ⟨rfl, rfl, rfl, rfl⟩)
    (fun h h2 h3 => by unfold catF; rw [if_neg (fun g => g h), if_neg (fun g => g h2), if_neg (fun g => g h3)]; exact ⟨rfl, rfl, rfl, rfl⟩) R (retCat_of hR)
/-! the law -/
def ac_lcat : AC := .seq (.region false [
    ⟨some 8, none, .mov (.c (.bool false))⟩])
  (.seq (.region false [
    ⟨some 19, none, .mov (.t 0)⟩,
    ⟨some 20, none, .mov (.t 1)⟩,
    ⟨some 21, none, .mov (.t 2)⟩,
    ⟨some 22, none, .mov (.t 3)⟩,
    ⟨some 23, none, .call 30 [(.t 19), (.t 20), (.t 21), (.t 22)]⟩,
    ⟨some 18, none, .mov (.t 23)⟩,
    ⟨some 24, none, .ext 0 (.t 18)⟩,
    ⟨some 25, none, .ext 1 (.t 18)⟩,
    ⟨some 26, none, .ext 2 (.t 18)⟩,
    ⟨some 27, none, .ext 3 (.t 18)⟩,
    ⟨some 9, none, .mov (.t 24)⟩,
    ⟨some 10, none, .mov (.t 25)⟩,
    ⟨some 11, none, .mov (.t 26)⟩,
    ⟨some 12, none, .mov (.t 27)⟩])
  (.seq (.region false [
    ⟨some 29, none, .mov (.t 0)⟩,
    ⟨some 30, none, .mov (.t 1)⟩,
    ⟨some 31, none, .call 23 [(.t 29), (.t 30)]⟩,
    ⟨some 28, none, .mov (.t 31)⟩,
    ⟨some 32, none, .ext 0 (.t 28)⟩,
    ⟨some 33, none, .ext 1 (.t 28)⟩,
    ⟨some 13, none, .mov (.t 32)⟩,
    ⟨some 14, none, .mov (.t 33)⟩])
  (.seq (.seq (.region false [
    ⟨some 34, none, .mov (.t 14)⟩,
    ⟨some 35, none, .bin .eql (.t 34) (.c (.int .i64 0))⟩,
    ⟨some 36, none, .mov (.t 35)⟩,
    ⟨some 37, some (36, true), .mov (.t 2)⟩,
    ⟨some 38, some (36, true), .bin .lss (.t 37) (.c (.int .i64 0))⟩,
    ⟨some 39, some (36, true), .mov (.t 38)⟩,
    ⟨some 40, some (39, false), .mov (.t 2)⟩,
    ⟨some 41, some (39, false), .mov (.t 1)⟩,
    ⟨some 42, some (39, false), .len false (.t 41)⟩,
    ⟨some 43, some (39, false), .bin .gtr (.t 40) (.t 42)⟩,
    ⟨some 44, some (36, true), .pick (.t 39) (.c (.bool true)) (.t 43)⟩,
    ⟨some 45, none, .pick (.t 36) (.t 44) (.c (.bool false))⟩])
  (.cond (.t 45)
    (.region false [
      ⟨some 14, none, .mov (.c (.int .i64 1))⟩])
    (.skip)))
  (.seq (.seq (.region false [
    ⟨some 46, none, .mov (.t 14)⟩,
    ⟨some 47, none, .bin .eql (.t 46) (.c (.int .i64 0))⟩])
  (.cond (.t 47)
    (.region false [
      ⟨some 48, none, .mov (.t 3)⟩,
      ⟨some 49, none, .mov (.t 13)⟩,
      ⟨some 50, none, .mov (.t 2)⟩,
      ⟨some 51, none, .iaddr 1 (.t 49) (.t 50)⟩,
      ⟨some 52, none, .load1 (.t 51)⟩,
      ⟨some 53, none, .len true (.t 52)⟩,
      ⟨some 54, none, .call 31 [(.t 48), (.t 53)]⟩,
      ⟨some 14, none, .mov (.t 54)⟩])
    (.skip)))
  (.seq (.region false [
    ⟨some 15, none, .mov (.c (.slice none 0 0))⟩,
    ⟨some 16, none, .mov (.c (.slice none 0 0))⟩,
    ⟨some 17, none, .mov (.c (.slice none 0 0))⟩])
  (.seq (.seq (.region false [
    ⟨some 55, none, .mov (.t 14)⟩,
    ⟨some 56, none, .bin .eql (.t 55) (.c (.int .i64 0))⟩])
  (.cond (.t 56)
    (.seq (.region false [
      ⟨some 57, none, .mov (.t 0)⟩,
      ⟨some 58, none, .mov (.t 1)⟩,
      ⟨some 59, none, .mov (.t 2)⟩,
      ⟨some 60, none, .mov (.t 1)⟩,
      ⟨some 61, none, .len false (.t 60)⟩,
      ⟨some 62, none, .call 24 [(.t 57), (.t 58), (.t 59), (.t 61)]⟩,
      ⟨some 15, none, .mov (.t 62)⟩])
    (.region false [
      ⟨some 64, none, .mov (.t 15)⟩,
      ⟨some 65, none, .mov (.t 3)⟩,
      ⟨some 66, none, .call 32 [(.t 64), (.t 65)]⟩,
      ⟨some 63, none, .mov (.t 66)⟩,
      ⟨some 67, none, .ext 0 (.t 63)⟩,
      ⟨some 68, none, .ext 1 (.t 63)⟩,
      ⟨some 69, none, .ext 2 (.t 63)⟩,
      ⟨some 17, none, .mov (.t 67)⟩,
      ⟨some 16, none, .mov (.t 68)⟩,
      ⟨some 14, none, .mov (.t 69)⟩]))
    (.skip)))
  (.seq (.seq (.region false [
    ⟨some 70, none, .mov (.t 14)⟩,
    ⟨some 71, none, .bin .neq (.t 70) (.c (.int .i64 0))⟩])
  (.cond (.t 71)
    (.seq (.region false [
      ⟨some 72, none, .mov (.t 12)⟩,
      ⟨some 73, none, .mov (.t 14)⟩,
      ⟨some 74, none, .bin .eql (.t 72) (.t 73)⟩,
      ⟨some 75, none, .mov (.t 74)⟩,
      ⟨some 76, some (75, true), .mov (.t 9)⟩,
      ⟨some 77, some (75, true), .len false (.t 76)⟩,
      ⟨some 78, some (75, true), .bin .eql (.t 77) (.c (.int .i64 0))⟩,
      ⟨some 79, none, .pick (.t 75) (.t 78) (.c (.bool false))⟩,
      ⟨some 80, none, .mov (.t 79)⟩,
      ⟨some 81, some (80, true), .mov (.t 10)⟩,
      ⟨some 82, some (80, true), .len false (.t 81)⟩,
      ⟨some 83, some (80, true), .bin .eql (.t 82) (.c (.int .i64 0))⟩,
      ⟨some 84, none, .pick (.t 80) (.t 83) (.c (.bool false))⟩,
      ⟨some 85, none, .mov (.t 84)⟩,
      ⟨some 86, some (85, true), .mov (.t 11)⟩,
      ⟨some 87, some (85, true), .len false (.t 86)⟩,
      ⟨some 88, some (85, true), .bin .eql (.t 87) (.c (.int .i64 0))⟩,
      ⟨some 89, none, .pick (.t 85) (.t 88) (.c (.bool false))⟩,
      ⟨some 8, none, .mov (.t 89)⟩])
    (.ret))
    (.skip)))
  (.seq (.region false [
    ⟨some 90, none, .mov (.t 12)⟩,
    ⟨some 91, none, .bin .eql (.t 90) (.c (.int .i64 0))⟩,
    ⟨some 92, none, .mov (.t 91)⟩,
    ⟨some 93, some (92, true), .mov (.t 9)⟩,
    ⟨some 94, some (92, true), .mov (.t 15)⟩,
    ⟨some 95, some (92, true), .call 21 [(.t 93), (.t 94)]⟩,
    ⟨some 96, none, .pick (.t 92) (.t 95) (.c (.bool false))⟩,
    ⟨some 97, none, .mov (.t 96)⟩,
    ⟨some 98, some (97, true), .mov (.t 10)⟩,
    ⟨some 99, some (97, true), .mov (.t 16)⟩,
    ⟨some 100, some (97, true), .call 21 [(.t 98), (.t 99)]⟩,
    ⟨some 101, none, .pick (.t 97) (.t 100) (.c (.bool false))⟩,
    ⟨some 102, none, .mov (.t 101)⟩,
    ⟨some 103, some (102, true), .mov (.t 11)⟩,
    ⟨some 104, some (102, true), .mov (.t 17)⟩,
    ⟨some 105, some (102, true), .call 21 [(.t 103), (.t 104)]⟩,
    ⟨some 106, none, .pick (.t 102) (.t 105) (.c (.bool false))⟩,
    ⟨some 8, none, .mov (.t 106)⟩])
  (.ret)))))))))
theorem ok_lcat : FnOk Try.prog 9 Try.f9 ac_lcat [.t 8] 4 drawD := ⟨Try.func9, by decide +kernel, by kernel_rfl, by kernel_rfl, by decide +kernel⟩
theorem vc_lcat (P : Prim) (hP : P = std) (T T1 : CallT) (base s : List UInt8) (r n c e e1 e2 : Int) (rows mr tr ar br cr dr xr yr : List (List V)) (hn : P.rlen rows = n)
    (h1 : Ans T 30 [.str base, .sl false 3 rows, .int .i64 r, .sl false 3 mr] (.tup [.sl false 3 ar, .sl false 3 br, .sl false 3 cr, .int .i64 e]))
    (h2 : Ans T 23 [.str base, .sl false 3 rows] (.tup [.sl false 1 tr, .int .i64 c]))
    (h3 : c = 0 → 0 ≤ r → r ≤ n → P.row tr (P.nat r) [.str s] ∧ Ans T 31 [.sl false 3 mr, .int .i64 (P.slen s)] (.int .i64 e1))
    (h4 : c = 0 → 0 ≤ r → r ≤ n → e1 = 0 → Ans T 24 [.str base, .sl false 3 rows, .int .i64 r, .int .i64 (P.rlen rows)] (.sl false 3 dr) ∧ Ans T 32 [.sl false 3 dr, .sl false 3 mr] (.tup [.sl false 3 yr, .sl false 3 xr, .int .i64 e2]))
    (s1 : Ans T 21 [.sl false 3 ar, .sl false 3 ar] (.bool true)) (s2 : Ans T 21 [.sl false 3 br, .sl false 3 br] (.bool true)) (s3 : Ans T 21 [.sl false 3 cr, .sl false 3 cr] (.bool true))
    (g1 : c ≠ 0 → ar = [] ∧ br = [] ∧ cr = [] ∧ e = c) (g2 : c = 0 → r < 0 ∨ n < r → ar = [] ∧ br = [] ∧ cr = [] ∧ e = 1) (g3 : c = 0 → 0 ≤ r → r ≤ n → e1 ≠ 0 → ar = [] ∧ br = [] ∧ cr = [] ∧ e = e1)
    (g4 : c = 0 → 0 ≤ r → r ≤ n → e1 = 0 → e2 ≠ 0 → ar = [] ∧ br = [] ∧ cr = [] ∧ e = e2) (g5 : c = 0 → 0 ≤ r → r ≤ n → e1 = 0 → e2 = 0 → dr = ar ∧ xr = br ∧ yr = cr ∧ e = 0)
    (R : S → Prop) (hR : ∀ s s' b, b = true → Ent s s' → Ret [.t 8] [.bool b] s' → R s) : awp P T T1 ac_lcat (S0 [.str base, .sl false 3 rows, .int .i64 r, .sl false 3 mr] Hp.emp) R (fun _ _ => False) R := by
  have n1 : P.ne 1 0 = true := ne_T hP (by decide)
  have n2 : P.eq 1 0 = false := eq_F hP (by decide)
  have fin : ∀ w, ar = [] ∧ br = [] ∧ cr = [] ∧ e = w → P.eq e w = true ∧ P.eq (P.rlen ar) 0 = true ∧ P.eq (P.rlen br) 0 = true ∧ P.eq (P.rlen cr) 0 = true := fun w ⟨q1, q2, q3, q4⟩ => ⟨eq_T hP q4, eq_T hP (by rw [rlen_eq hP, q1]; rfl), eq_T hP (by rw [rlen_eq hP, q2]; rfl), eq_T hP (by rw [rlen_eq hP, q3]; rfl)⟩
  cbv
  refine h1 _ _ ?_
  cbv
  refine h2 _ _ ?_
  clear h1 h2
  cbv
  by_cases hc : c = 0
  rotate_left
  · obtain ⟨q1, q2, q3, q4⟩ := fin _ (g1 hc)
    refine br_ff (eq_F hP hc) ?_
    cbv
    refine br_ff (eq_F hP hc) ?_
    cbv
    refine br_ff (eq_F hP hc) ?_
    cbv
    refine br_tt (ne_T hP hc) ?_
    cbv
    refine br_tt q1 ?_
    cbv
    refine br_tt q2 ?_
    cbv
    refine br_tt q3 ?_
    cbv
    exact hR _ _ _ q4 (Ent.refl _) rfl
  refine br_tt (eq_T hP hc) ?_
  cbv
  by_cases hk : r < 0 ∨ n < r
  · obtain ⟨q1, q2, q3, q4⟩ := fin _ (g2 hc hk)
    have last : ∀ s s' : S, Ent s s' → Ret [.t 8] [.bool (P.eq (P.rlen cr) 0)] s' → R s := fun s s' he hr => hR s s' _ q4 he hr
    by_cases hk1 : r < 0
    · refine br_tt (lt_T hP hk1) ?_
      cbv
      refine br_ff n2 ?_
      cbv
      refine br_ff n2 ?_
      cbv
      refine br_tt n1 ?_
      cbv
      refine br_tt q1 ?_
      cbv
      refine br_tt q2 ?_
      cbv
      refine br_tt q3 ?_
      cbv
      exact last _ _ (Ent.refl _) rfl
    · have hk2 : n < r := hk.resolve_left hk1
      rw [← hn] at hk2
      refine br_ff (lt_F hP hk1) ?_
      cbv
      refine br_tt (lt_T hP hk2) ?_
      cbv
      refine br_ff n2 ?_
      cbv
      refine br_ff n2 ?_
      cbv
      refine br_tt n1 ?_
      cbv
      refine br_tt q1 ?_
      cbv
      refine br_tt q2 ?_
      cbv
      refine br_tt q3 ?_
      cbv
      exact last _ _ (Ent.refl _) rfl
  have hk1 : ¬ r < 0 := fun h => hk (.inl h)
  have hk2 : ¬ n < r := fun h => hk (.inr h)
  obtain ⟨f3, f4⟩ := h3 hc (by omega) (by omega)
  have k4 := h4 hc (by omega) (by omega)
  replace g3 := g3 hc (by omega) (by omega)
  replace g4 := g4 hc (by omega) (by omega)
  replace g5 := g5 hc (by omega) (by omega)
  have o1 : P.leP 0 r := le0 hP (by omega)
  rw [← hn] at hk2
  clear h3 h4 g1 g2
  refine br_ff (lt_F hP hk1) ?_
  cbv
  refine br_ff (lt_F hP hk2) ?_
  cbv
  refine br_tt (eq_T hP hc) ?_
  cbv
  refine ⟨o1, _, f3, ?_⟩
  cbv
  refine f4 _ _ ?_
  cbv
  by_cases h1 : e1 = 0
  rotate_left
  · obtain ⟨q1, q2, q3, q4⟩ := fin _ (g3 h1)
    refine br_ff (eq_F hP h1) ?_
    cbv
    refine br_tt (ne_T hP h1) ?_
    cbv
    refine br_tt q1 ?_
    cbv
    refine br_tt q2 ?_
    cbv
    refine br_tt q3 ?_
    cbv
    exact hR _ _ _ q4 (Ent.refl _) rfl
  obtain ⟨f5, f6⟩ := k4 h1
  refine br_tt (eq_T hP h1) ?_
  cbv
  refine f5 _ _ ?_
  cbv
  refine f6 _ _ ?_
  cbv
  by_cases h2 : e2 = 0
  rotate_left
  · obtain ⟨q1, q2, q3, q4⟩ := fin _ (g4 h1 h2)
    refine br_tt (ne_T hP h2) ?_
    cbv
    refine br_tt q1 ?_
    cbv
    refine br_tt q2 ?_
    cbv
    refine br_tt q3 ?_
    cbv
    exact hR _ _ _ q4 (Ent.refl _) rfl
  obtain ⟨rfl, rfl, rfl, q4⟩ := g5 h1 h2
  refine br_ff (ne_F hP h2) ?_
  cbv
  refine br_tt (eq_T hP q4) ?_
  cbv
  refine s1 _ _ ?_
  cbv
  refine s2 _ _ ?_
  cbv
  refine s3 _ _ ?_
  cbv
  exact hR _ _ _ rfl (Ent.refl _) rfl
theorem cat_len (base : List UInt8) (l : List Rev) (r : Int) (mine : List Part) : (catF base l r mine).1.length ≤ 10000000 ∧ (catF base l r mine).2.1.length ≤ 10000000 ∧ (catF base l r mine).2.2.1.length ≤ 10000000 := by
  have h1 := btw_len base l r l.length
  have h2 := meetF_len (btwF base l r l.length).1 mine
  unfold catF
  generalize meetF (btwF base l r l.length).1 mine = M at *
  generalize btwF base l r l.length = B at *
  generalize fitsF mine (txt base l r.toNat).length = g
  have n3 : ([] : List Part).length ≤ 10000000 := by decide
  repeat' split
  all_goals first
    | exact ⟨n3, n3, n3⟩
    | (refine ⟨?_, ?_, ?_⟩ <;> dsimp only <;> omega)
theorem sp_law_catchSays (base : List UInt8) (l : List Rev) (r : Int) (mine : List Part) (_ : base.length ≤ maxLen) (hl : RevsOk l) (hr : I64 r) (hm : PartsOk mine) : Spec Try.prog 9 [.str base, encRevs l, .int .i64 r, encParts mine] Hp.emp (Is (.bool true)) := by
  have hb0 : (textsF base l).2 ≠ 0 → (btwF base l r l.length).2 = (textsF base l).2 := fun h => by unfold btwF; rw [if_pos h]
  have hb1 : (textsF base l).2 = 0 → r < 0 ∨ (l.length : Int) < r → (btwF base l r l.length).2 = 1 := fun h h' => by unfold btwF; rw [if_neg (fun g => g h), if_pos (by omega)]
  have hb2 : (textsF base l).2 = 0 → 0 ≤ r → r ≤ (l.length : Int) → (btwF base l r l.length).2 = 0 := fun h h1 h2 => by unfold btwF; rw [if_neg (fun g => g h), if_neg (by omega)]
  exact spec_pure dOk ok_lcat [.bool true] (.bool _) fun R hR => vc_lcat std rfl _ _ base (txt base l r.toNat) r l.length (textsF base l).2 (catF base l r mine).2.2.2 (fitsF mine (txt base l r.toNat).length) (meetF (btwF base l r l.length).1 mine).2.2 (l.map encRev) (mine.map encPart) (strRows (textsF base l).1)
    ((catF base l r mine).1.map encPart) ((catF base l r mine).2.1.map encPart) ((catF base l r mine).2.2.1.map encPart) ((btwF base l r l.length).1.map encPart) ((meetF (btwF base l r l.length).1 mine).2.1.map encPart) ((meetF (btwF base l r l.length).1 mine).1.map encPart) (rlen_revs l)
    (ansStr (sp_cat base l r mine hl hm.1) rfl rfl) (ansStr (sp_rtexts base l hl) rfl rfl)
    (fun h h1 h2 => ⟨txt_row h h1 h2, ansLs (sp_rfits mine hm.1 _) rfl rfl⟩)
    (fun h h1 h2 h3 => ⟨by
      rw [rlen_revs]
      obtain ⟨a, rfl⟩ : ∃ a : Nat, r = a := ⟨r.toNat, by omega⟩
      exact ansStr (sp_rbtw base l a l.length hl h (by omega) (Nat.le_refl _)) rfl rfl, ansSame (sp_rmeet (btwF base l r l.length).1 mine (len_of (btw_len _ _ _ _)) hm.1) rfl rfl⟩)
    (same_self _ (cat_len base l r mine).1) (same_self _ (cat_len base l r mine).2.1) (same_self _ (cat_len base l r mine).2.2)
    (fun h => by have := hb0 h; unfold catF; rw [if_pos (by rw [this]; exact h)]; exact ⟨rfl, rfl, rfl, this⟩)
    (fun h h' => by have := hb1 h h'; unfold catF; rw [if_pos (by rw [this]; decide)]; exact ⟨rfl, rfl, rfl, this⟩)
    (fun h h1 h2 h3 => by have := hb2 h h1 h2; unfold catF; rw [if_neg (fun g => g this), if_pos h3]; exact ⟨rfl, rfl, rfl, rfl⟩)
    (fun h h1 h2 h3 h4 => by have := hb2 h h1 h2; unfold catF; rw [if_neg (fun g => g this), if_neg (fun g => g h3), if_pos h4]; exact ⟨rfl, rfl, rfl, rfl⟩)
    (fun h h1 h2 h3 h4 => by have := hb2 h h1 h2; unfold catF; rw [if_neg (fun g => g this), if_neg (fun g => g h3), if_neg (fun g => g h4)]; exact ⟨rfl, rfl, rfl, rfl⟩)
    R fun s s' b h he hr => by subst h; exact hR s s' he hr
end Go.Proofs.Ytcdldpjmdelebaa.AM
