/-
  Clients: copies, Edit, the document's, and the law ClientEdits.
-/
import Derived.Test.YtcdldpjmdelebaaMClient
import Derived.Test.YtcdldpjmdelebaaMDo2
import Derived.Test.YtcdldpjmdelebaaMRComp
set_option linter.unusedVariables false
set_option linter.unusedSimpArgs false
namespace Go.Proofs.Ytcdldpjmdelebaa.AM
open Go
set_option maxRecDepth 100000
set_option maxHeartbeats 2000000
structure CV where
  w : Int
  r : Int
  q : Int
  t : List UInt8
  fl : Bool
  sr : List (List V)
  wt : Bool
  hr : List (List V)
def cv (c : Client) : CV := ⟨c.who, c.rev, c.seq, c.text, c.flying, c.sent.map encPart, c.waiting, c.held.map encPart⟩
def SlP (h : Hp) (rows : List (List V)) (v : V) : Prop := v = .sl false 3 rows ∨ (v = .nilsl ∧ rows = []) ∨ ∃ k β t n, v = .own k β 3 n ∧ h k = some ⟨β, t, 3, rows⟩ ∧ n = rows.length
theorem SlP.fr {h : Hp} {d : List Part} {v : V} (hv : SlP h (d.map encPart) v) : Fr h v (encParts d) := by
  rcases hv with rfl | ⟨rfl, h0⟩ | ⟨k, β, t, n, rfl, h1, h2⟩
  · exact .same _ (.sl _ _ (encParts_fz _))
  · unfold encParts; rw [h0]; exact .nilsl 3
  · exact .rows h1 rfl rfl h2.symm (parts_sz _) (encParts_fz _)
def RetCli (rv : List RV) (tl : List V) (c : CV) (R : S → Prop) : Prop :=
  ∀ (s s' : S) (w r q : Int) (t : List UInt8) (fl : Bool) (v1 : V) (wt : Bool) (v2 : V) (sr hr : List (List V)), Ent s s' → Ret rv (.agg [.int .i64 w, .int .i64 r, .int .i64 q, .str t, .bool fl, v1, .bool wt, v2] :: tl) s' → SlP s'.h sr v1 → SlP s'.h hr v2 → (⟨w, r, q, t, fl, sr, wt, hr⟩ : CV) = c → R s
theorem retCli_of {rv : List RV} {c : Client} {e : Int} {R : S → Prop} (hR : ∀ s s', Ent s s' → RetF rv (.tup [.agg (encClient c), .int .i64 e]) s' → R s) : RetCli rv [.int .i64 e] (cv c) R := by
  intro s s' w r q t fl v1 wt v2 sr hr he hret h1 h2 h3
  refine hR s s' he (resV_mono _ _ _ (fun x hx => ?_) hret)
  subst hx
  unfold cv at h3
  injection h3 with a1 a2 a3 a4 a5 a6 a7 a8
  subst a1 a2 a3 a4 a5 a6 a7 a8
  exact .tup_cons (.agg_cons (.same _ (.int _ _)) (.agg_cons (.same _ (.int _ _)) (.agg_cons (.same _ (.int _ _)) (.agg_cons (.same _ (.str _)) (.agg_cons (.same _ (.bool _)) (.agg_cons h1.fr (.agg_cons (.same _ (.bool _)) (.agg_cons h2.fr .agg_nil)))))))) (.tup_cons (.same _ (.int _ _)) .tup_nil)
theorem retCli1_of {rv : List RV} {c : Client} {R : S → Prop} (hR : ∀ s s', Ent s s' → RetF rv (.agg (encClient c)) s' → R s) : RetCli rv [] (cv c) R := by
  intro s s' w r q t fl v1 wt v2 sr hr he hret h1 h2 h3
  refine hR s s' he (resV_mono _ _ _ (fun x hx => ?_) hret)
  subst hx
  unfold cv at h3
  injection h3 with a1 a2 a3 a4 a5 a6 a7 a8
  subst a1 a2 a3 a4 a5 a6 a7 a8
  exact .agg_cons (.same _ (.int _ _)) (.agg_cons (.same _ (.int _ _)) (.agg_cons (.same _ (.int _ _)) (.agg_cons (.same _ (.str _)) (.agg_cons (.same _ (.bool _)) (.agg_cons h1.fr (.agg_cons (.same _ (.bool _)) (.agg_cons h2.fr .agg_nil)))))))
/-! copied -/
def ac_copied : AC := .seq (.region false [
    ⟨some 1, none, .box 24 8 (.t 0)⟩,
    ⟨some 2, none, .alloc 24 [(.int .i64 0), (.int .i64 0), (.int .i64 0), (.string ⟨#[]⟩), (.bool false), (.slice none 0 0), (.bool false), (.slice none 0 0)]⟩])
  (.seq (.region false [
    ⟨some 3, none, .faddr 5 (.t 1)⟩,
    ⟨some 4, none, .load1 (.t 3)⟩,
    ⟨some 5, none, .append 112 3 32 (.c (.slice none 0 0)) (.t 4)⟩,
    ⟨some 6, none, .faddr 5 (.t 1)⟩,
    ⟨none, none, .store 1 (.t 6) (.t 5)⟩])
  (.seq (.region false [
    ⟨some 7, none, .faddr 7 (.t 1)⟩,
    ⟨some 8, none, .load1 (.t 7)⟩,
    ⟨some 9, none, .append 112 3 32 (.c (.slice none 0 0)) (.t 8)⟩,
    ⟨some 10, none, .faddr 7 (.t 1)⟩,
    ⟨none, none, .store 1 (.t 10) (.t 9)⟩])
  (.seq (.region false [
    ⟨some 11, none, .loadn 8 (.t 1)⟩,
    ⟨none, none, .store 8 (.t 2) (.t 11)⟩])
  (.ret))))
theorem ok_copied : FnOk Try.prog 38 Try.f38 ac_copied [.cn 2 8] 1 drawD := ⟨Try.func38, by decide +kernel, by kernel_rfl, by kernel_rfl, by decide +kernel⟩
theorem vc_copied (P : Prim) (hP : P = std) (T T1 : CallT) (w r q : Int) (s : List UInt8) (fl wt : Bool) (sr hr : List (List V)) (hs : sr.length ≤ 100000) (hh : hr.length ≤ 100000)
    (R : S → Prop) (hR : RetCli [.cn 2 8] [] ⟨w, r, q, s, fl, sr, wt, hr⟩ R) : awp P T T1 ac_copied (S0 [.agg [.int .i64 w, .int .i64 r, .int .i64 q, .str s, .bool fl, .sl false 3 sr, .bool wt, .sl false 3 hr]] Hp.emp) R (fun _ _ => False) R := by
  have o1 : P.bytes (P.rlen sr) 32 := by subst hP; show (sr.length : Int) * 32 ≤ _; ((try simp only [nc] at *); omega)
  have o2 : P.bytes (P.rlen hr) 32 := by subst hP; show (hr.length : Int) * 32 ≤ _; ((try simp only [nc] at *); omega)
  cbv
  repeat' first | (refine And.intro (by assumption) ?_; try cbv) | (intro β; try cbv)
  exact hR _ _ _ _ _ _ _ _ _ _ _ _ (Ent.refl _) ⟨rfl, rfl, Nat.zero_lt_succ 0, Nat.le_refl 8, rfl⟩ (.inr (.inr ⟨_, _, _, _, rfl, rfl, by subst hP; rfl⟩)) (.inr (.inr ⟨_, _, _, _, rfl, rfl, by subst hP; rfl⟩)) rfl
theorem sp_copied (c : Client) (hs : c.sent.length ≤ 1600) (hh : c.held.length ≤ 1600) : Spec Try.prog 38 [.agg (encClient c)] Hp.emp (Is (.agg (encClient c))) :=
  spec_frz dOk ok_copied fun R hR => vc_copied std rfl _ _ c.who c.rev c.seq c.text c.flying c.waiting (c.sent.map encPart) (c.held.map encPart) (by rw [List.length_map]; omega) (by rw [List.length_map]; omega) R (retCli1_of hR)
/-! Edit -/
def noC : Client := ⟨0, 0, 0, [], false, [], false, []⟩
def noV : CV := ⟨0, 0, 0, [], false, [], false, []⟩
def editC (c : Client) (d : List Part) : Client × Int :=
  if cliF c ≠ 0 then (noC, cliF c) else if (doF d c.text).2 ≠ 0 then (noC, (doF d c.text).2)
  else if c.flying = false then (if c.seq = 2147483647 then (noC, 11) else (⟨c.who, c.rev, c.seq + 1, (doF d c.text).1, true, d, c.waiting, c.held⟩, 0))
  else if c.waiting = false then (⟨c.who, c.rev, c.seq, (doF d c.text).1, c.flying, c.sent, true, d⟩, 0)
  else (⟨c.who, c.rev, c.seq, (doF d c.text).1, c.flying, c.sent, c.waiting, (compF c.held d).1⟩, 0)
structure EdR (w r q c e : Int) (s t : List UInt8) (fl wt : Bool) (sr hr dr mr : List (List V)) (cc : CV) (x : Int) : Prop where
  r1 : c ≠ 0 → (⟨0, 0, 0, [], false, [], false, []⟩ : CV) = cc ∧ c = x
  r2 : c = 0 → e ≠ 0 → (⟨0, 0, 0, [], false, [], false, []⟩ : CV) = cc ∧ e = x
  r3 : c = 0 → e = 0 → fl = false → q = 2147483647 → (⟨0, 0, 0, [], false, [], false, []⟩ : CV) = cc ∧ 11 = x
  r4 : c = 0 → e = 0 → fl = false → q ≠ 2147483647 → (⟨w, r, q + 1, t, true, dr, wt, hr⟩ : CV) = cc ∧ 0 = x
  r5 : c = 0 → e = 0 → fl = true → wt = false → (⟨w, r, q, t, fl, sr, true, dr⟩ : CV) = cc ∧ 0 = x
  r6 : c = 0 → e = 0 → fl = true → wt = true → (⟨w, r, q, t, fl, sr, wt, mr⟩ : CV) = cc ∧ 0 = x
theorem editR (c : Client) (d : List Part) : EdR c.who c.rev c.seq (cliF c) (doF d c.text).2 c.text (doF d c.text).1 c.flying c.waiting (c.sent.map encPart) (c.held.map encPart) (d.map encPart) ((compF c.held d).1.map encPart) (cv (editC c d).1) (editC c d).2 := by
  constructor
  · intro h; unfold editC; rw [if_pos h]; exact ⟨rfl, rfl⟩
  · intro h h2; unfold editC; rw [if_neg (fun g => g h), if_pos h2]; exact ⟨rfl, rfl⟩
  · intro h h2 h3 h4; unfold editC; rw [if_neg (fun g => g h), if_neg (fun g => g h2), if_pos h3, if_pos h4]; exact ⟨rfl, rfl⟩
  · intro h h2 h3 h4; unfold editC; rw [if_neg (fun g => g h), if_neg (fun g => g h2), if_pos h3, if_neg h4]; exact ⟨rfl, rfl⟩
  · intro h h2 h3 h4; unfold editC; rw [if_neg (fun g => g h), if_neg (fun g => g h2), if_neg (by rw [h3]; decide), if_pos h4]; exact ⟨rfl, rfl⟩
  · intro h h2 h3 h4; unfold editC; rw [if_neg (fun g => g h), if_neg (fun g => g h2), if_neg (by rw [h3]; decide), if_neg (by rw [h4]; decide)]; exact ⟨rfl, rfl⟩
def ac_cedit : AC := .seq (.region false [
    ⟨some 2, none, .box 24 8 (.t 0)⟩,
    ⟨some 4, none, .alloc 24 [(.int .i64 0), (.int .i64 0), (.int .i64 0), (.string ⟨#[]⟩), (.bool false), (.slice none 0 0), (.bool false), (.slice none 0 0)]⟩,
    ⟨some 5, none, .mov (.c (.int .i64 0))⟩])
  (.seq (.seq (.region false [
    ⟨some 10, none, .loadn 8 (.t 2)⟩,
    ⟨some 11, none, .call 36 [(.t 10)]⟩,
    ⟨some 6, none, .mov (.t 11)⟩])
  (.seq (.region false [
    ⟨some 12, none, .mov (.t 6)⟩,
    ⟨some 13, none, .bin .neq (.t 12) (.c (.int .i64 0))⟩])
  (.cond (.t 13)
    (.seq (.region false [
      ⟨some 14, none, .build [(.int .i64 0), (.int .i64 0), (.int .i64 0), (.string ⟨#[]⟩), (.bool false), (.slice none 0 0), (.bool false), (.slice none 0 0)] []⟩,
      ⟨some 15, none, .mov (.t 6)⟩,
      ⟨none, none, .store 8 (.t 4) (.t 14)⟩,
      ⟨some 5, none, .mov (.t 15)⟩])
    (.ret))
    (.skip))))
  (.seq (.region false [
    ⟨some 17, none, .mov (.t 1)⟩,
    ⟨some 18, none, .faddr 3 (.t 2)⟩,
    ⟨some 19, none, .load1 (.t 18)⟩,
    ⟨some 20, none, .call 40 [(.t 17), (.t 19)]⟩,
    ⟨some 16, none, .mov (.t 20)⟩,
    ⟨some 21, none, .ext 0 (.t 16)⟩,
    ⟨some 22, none, .ext 1 (.t 16)⟩,
    ⟨some 7, none, .mov (.t 21)⟩,
    ⟨some 8, none, .mov (.t 22)⟩])
  (.seq (.seq (.region false [
    ⟨some 23, none, .mov (.t 8)⟩,
    ⟨some 24, none, .bin .neq (.t 23) (.c (.int .i64 0))⟩])
  (.cond (.t 24)
    (.seq (.region false [
      ⟨some 25, none, .build [(.int .i64 0), (.int .i64 0), (.int .i64 0), (.string ⟨#[]⟩), (.bool false), (.slice none 0 0), (.bool false), (.slice none 0 0)] []⟩,
      ⟨some 26, none, .mov (.t 8)⟩,
      ⟨none, none, .store 8 (.t 4) (.t 25)⟩,
      ⟨some 5, none, .mov (.t 26)⟩])
    (.ret))
    (.skip)))
  (.seq (.region false [
    ⟨some 27, none, .loadn 8 (.t 2)⟩,
    ⟨some 28, none, .call 38 [(.t 27)]⟩,
    ⟨some 9, none, .alloc 24 [(.int .i64 0), (.int .i64 0), (.int .i64 0), (.string ⟨#[]⟩), (.bool false), (.slice none 0 0), (.bool false), (.slice none 0 0)]⟩,
    ⟨none, none, .store 8 (.t 9) (.t 28)⟩])
  (.seq (.region false [
    ⟨some 29, none, .mov (.t 7)⟩,
    ⟨some 30, none, .faddr 3 (.t 9)⟩,
    ⟨none, none, .store 1 (.t 30) (.t 29)⟩])
  (.seq (.block 0 (.seq (.region false [
    ⟨some 40, none, .faddr 4 (.t 2)⟩,
    ⟨some 41, none, .load1 (.t 40)⟩,
    ⟨some 42, none, .not (.t 41)⟩,
    ⟨some 39, none, .mov (.t 42)⟩])
  (.cond (.t 39)
    (.seq (.seq (.region false [
      ⟨some 43, none, .faddr 2 (.t 2)⟩,
      ⟨some 44, none, .load1 (.t 43)⟩,
      ⟨some 45, none, .bin .eql (.t 44) (.c (.int .i64 2147483647))⟩])
    (.cond (.t 45)
      (.seq (.region false [
        ⟨some 46, none, .build [(.int .i64 0), (.int .i64 0), (.int .i64 0), (.string ⟨#[]⟩), (.bool false), (.slice none 0 0), (.bool false), (.slice none 0 0)] []⟩,
        ⟨none, none, .store 8 (.t 4) (.t 46)⟩,
        ⟨some 5, none, .mov (.c (.int .i64 11))⟩])
      (.ret))
      (.skip)))
    (.seq (.region false [
      ⟨some 47, none, .mov (.t 1)⟩,
      ⟨some 48, none, .append 112 3 32 (.c (.slice none 0 0)) (.t 47)⟩,
      ⟨some 49, none, .faddr 4 (.t 9)⟩,
      ⟨none, none, .store 1 (.t 49) (.c (.bool true))⟩,
      ⟨some 50, none, .faddr 5 (.t 9)⟩,
      ⟨none, none, .store 1 (.t 50) (.t 48)⟩])
    (.region false [
      ⟨some 51, none, .faddr 2 (.t 9)⟩,
      ⟨some 52, none, .load1 (.t 51)⟩,
      ⟨some 53, none, .bin .add (.t 52) (.c (.int .i64 1))⟩,
      ⟨some 54, none, .faddr 2 (.t 9)⟩,
      ⟨none, none, .store 1 (.t 54) (.t 53)⟩])))
    (.seq (.region false [
      ⟨some 56, none, .faddr 6 (.t 2)⟩,
      ⟨some 57, none, .load1 (.t 56)⟩,
      ⟨some 58, none, .not (.t 57)⟩,
      ⟨some 55, none, .mov (.t 58)⟩])
    (.cond (.t 55)
      (.region false [
        ⟨some 59, none, .mov (.t 1)⟩,
        ⟨some 60, none, .append 112 3 32 (.c (.slice none 0 0)) (.t 59)⟩,
        ⟨some 61, none, .faddr 6 (.t 9)⟩,
        ⟨none, none, .store 1 (.t 61) (.c (.bool true))⟩,
        ⟨some 62, none, .faddr 7 (.t 9)⟩,
        ⟨none, none, .store 1 (.t 62) (.t 60)⟩])
      (.region false [
        ⟨some 32, none, .faddr 7 (.t 2)⟩,
        ⟨some 33, none, .load1 (.t 32)⟩,
        ⟨some 34, none, .mov (.t 1)⟩,
        ⟨some 35, none, .call 54 [(.t 33), (.t 34)]⟩,
        ⟨some 31, none, .mov (.t 35)⟩,
        ⟨some 36, none, .ext 0 (.t 31)⟩,
        ⟨some 37, none, .ext 1 (.t 31)⟩,
        ⟨some 38, none, .faddr 7 (.t 9)⟩,
        ⟨none, none, .store 1 (.t 38) (.t 36)⟩]))))))
  (.seq (.region false [
    ⟨some 63, none, .loadn 8 (.t 9)⟩,
    ⟨none, none, .store 8 (.t 4) (.t 63)⟩,
    ⟨some 5, none, .mov (.c (.int .i64 0))⟩])
  (.ret))))))))
theorem ok_cedit : FnOk Try.prog 25 Try.f25 ac_cedit [.cn 4 8, .t 5] 2 drawD := ⟨Try.func25, by decide +kernel, by kernel_rfl, by kernel_rfl, by decide +kernel⟩
theorem vc_cedit (P : Prim) (hP : P = std) (T T1 : CallT) (w r q c e e3 : Int) (s t : List UInt8) (fl wt : Bool) (sr hr dr mr : List (List V)) (hl : e = 0 → dr.length ≤ 100000) (hq : c = 0 → 0 ≤ q ∧ q ≤ 2147483647)
    (h1 : Ans T 36 [.agg [.int .i64 w, .int .i64 r, .int .i64 q, .str s, .bool fl, .sl false 3 sr, .bool wt, .sl false 3 hr]] (.int .i64 c))
    (h2 : Ans T 40 [.sl false 3 dr, .str s] (.tup [.str t, .int .i64 e]))
    (h3 : c = 0 → Ans T 38 [.agg [.int .i64 w, .int .i64 r, .int .i64 q, .str s, .bool fl, .sl false 3 sr, .bool wt, .sl false 3 hr]] (.agg [.int .i64 w, .int .i64 r, .int .i64 q, .str s, .bool fl, .sl false 3 sr, .bool wt, .sl false 3 hr]))
    (h4 : Ans T 54 [.sl false 3 hr, .sl false 3 dr] (.tup [.sl false 3 mr, .int .i64 e3]))
    (cc : CV) (x : Int) (hx : EdR w r q c e s t fl wt sr hr dr mr cc x)
    (R : S → Prop) (hR : ∀ x2, x2 = x → RetCli [.cn 4 8, .t 5] [.int .i64 x2] cc R) : awp P T T1 ac_cedit (S0 [.agg [.int .i64 w, .int .i64 r, .int .i64 q, .str s, .bool fl, .sl false 3 sr, .bool wt, .sl false 3 hr], .sl false 3 dr] Hp.emp) R (fun _ _ => False) R := by
  obtain ⟨r1, r2, r3, r4, r5, r6⟩ := hx
  cbv
  intro β1
  cbv
  intro β2
  cbv
  refine h1 _ _ ?_
  clear h1
  cbv
  refine br_cases (fun h => ?_) (fun h => ?_)
  · obtain ⟨g1, g2⟩ := r1 (ne_t hP h)
    cbv
    exact hR _ g2 _ _ _ _ _ _ _ _ _ _ _ _ (Ent.refl _) ⟨rfl, rfl, Nat.zero_lt_succ 0, Nat.le_refl 8, rfl⟩ (.inr (.inl ⟨rfl, rfl⟩)) (.inr (.inl ⟨rfl, rfl⟩)) g1
  have hc := ne_f hP h
  have f3 := h3 hc
  have hqq := hq hc
  clear h3 r1
  cbv
  refine h2 _ _ ?_
  clear h2
  cbv
  refine br_cases (fun h => ?_) (fun h => ?_)
  · obtain ⟨g1, g2⟩ := r2 hc (ne_t hP h)
    cbv
    exact hR _ g2 _ _ _ _ _ _ _ _ _ _ _ _ (Ent.refl _) ⟨rfl, rfl, Nat.zero_lt_succ 0, Nat.le_refl 8, rfl⟩ (.inr (.inl ⟨rfl, rfl⟩)) (.inr (.inl ⟨rfl, rfl⟩)) g1
  have he := ne_f hP h
  have hld := hl he
  have o1 : P.bytes (P.rlen dr) 32 := by subst hP; show (dr.length : Int) * 32 ≤ _; ((try simp only [nc] at *); omega)
  clear r2
  cbv
  refine f3 _ _ ?_
  clear f3
  cbv
  intro β3
  cbv
  refine br_cases (fun hf' => ?_) (fun hf' => ?_)
  · cbv
    refine br_cases (fun hw' => ?_) (fun hw' => ?_)
    · obtain ⟨g1, g2⟩ := r6 hc he hf' hw'
      cbv
      refine h4 _ _ ?_
      cbv
      exact hR _ g2 _ _ _ _ _ _ _ _ _ _ _ _ (Ent.refl _) ⟨rfl, rfl, Nat.zero_lt_succ 0, Nat.le_refl 8, rfl⟩ (.inl rfl) (.inl rfl) g1
    obtain ⟨g1, g2⟩ := r5 hc he hf' hw'
    cbv
    repeat' first | (refine And.intro (by assumption) ?_; try cbv) | (intro β; try cbv)
    exact hR _ g2 _ _ _ _ _ _ _ _ _ _ _ _ (Ent.refl _) ⟨rfl, rfl, Nat.zero_lt_succ 0, Nat.le_refl 8, rfl⟩ (.inl rfl) (.inr (.inr ⟨_, _, _, _, rfl, rfl, by subst hP; rfl⟩)) g1
  cbv
  refine br_cases (fun h => ?_) (fun h => ?_)
  · obtain ⟨g1, g2⟩ := r3 hc he hf' (eq_t hP h)
    cbv
    exact hR _ g2 _ _ _ _ _ _ _ _ _ _ _ _ (Ent.refl _) ⟨rfl, rfl, Nat.zero_lt_succ 0, Nat.le_refl 8, rfl⟩ (.inr (.inl ⟨rfl, rfl⟩)) (.inr (.inl ⟨rfl, rfl⟩)) g1
  have hqn := eq_f hP h
  obtain ⟨g1, g2⟩ := r4 hc he hf' hqn
  have o2 : P.i64 (P.add q 1) := by rw [add_eq hP]; exact i64I hP (by omega)
  cbv
  repeat' first | (refine And.intro (by assumption) ?_; try cbv) | (intro β; try cbv)
  exact hR _ g2 _ _ _ _ _ _ _ _ _ _ _ _ (Ent.refl _) ⟨rfl, rfl, Nat.zero_lt_succ 0, Nat.le_refl 8, rfl⟩ (.inr (.inr ⟨_, _, _, _, rfl, rfl, by subst hP; rfl⟩)) (.inl rfl) (by rw [← g1]; subst hP; rfl)
theorem cli_held {c : Client} (h : cliF c = 0) : c.held.length ≤ 1600 := by
  obtain ⟨_, _, h1, h2, _⟩ := cliF_ok h
  cases hf : c.waiting with
  | true => exact (checkF_all (h1 hf)).1
  | false => rw [h2 hf]; simp
theorem cli_num {c : Client} (h : cliF c = 0) : 0 ≤ c.seq ∧ c.seq ≤ 2147483647 ∧ 0 ≤ c.rev ∧ c.rev ≤ 2147483647 := by
  obtain ⟨h1, _⟩ := cliG_ok h
  unfold cbad1 at h1
  omega
theorem do_len {d : List Part} {s : List UInt8} (h : (doF d s).2 = 0) : d.length ≤ 1600 := by
  unfold doF at h
  by_cases hf : fitsF d s.length = 0
  · by_cases hd : checkF d = 0
    · exact (checkF_all hd).1
    · unfold fitsF at hf; rw [if_pos hd] at hf; exact absurd hf hd
  · rw [if_neg hf] at h; exact absurd h hf
theorem sp_cedit (c : Client) (d : List Part) (hs : c.sent.length ≤ maxLen) (hh : c.held.length ≤ maxLen) (hd : d.length ≤ maxLen) : Spec Try.prog 25 [.agg (encClient c), encParts d] Hp.emp (Is (.tup [.agg (encClient (editC c d).1), .int .i64 (editC c d).2])) :=
  spec_frz dOk ok_cedit fun R hR => vc_cedit std rfl _ _ c.who c.rev c.seq (cliF c) (doF d c.text).2 (compF c.held d).2 c.text (doF d c.text).1 c.flying c.waiting (c.sent.map encPart) (c.held.map encPart) (d.map encPart) ((compF c.held d).1.map encPart)
    (fun h => by rw [List.length_map]; have := do_len h; omega) (fun h => ⟨(cli_num h).1, (cli_num h).2.1⟩)
    (ansW (sp_ccheck c hs hh) (fun h => .cons (.same _) .nil) rfl) (ansW (sp_do d hd c.text) (fun h => .cons (.weak _ _) (.cons (.same _) .nil)) rfl)
    (fun h => ansW (sp_copied c (cli_sent h) (cli_held h)) (fun h => .cons (.same _) .nil) rfl) (ansW (sp_comp c.held d hh hd) (fun h => .cons (.same _) (.cons (.same _) .nil)) rfl)
    _ _ (editR c d) R fun x2 hx => by subst hx; exact retCli_of hR
def ac_redit : AC := .seq (.region false [
    ⟨some 2, none, .box 24 8 (.t 0)⟩,
    ⟨some 4, none, .alloc 24 [(.int .i64 0), (.int .i64 0), (.int .i64 0), (.string ⟨#[]⟩), (.bool false), (.slice none 0 0), (.bool false), (.slice none 0 0)]⟩,
    ⟨some 5, none, .mov (.c (.int .i64 0))⟩])
  (.seq (.seq (.region false [
    ⟨some 9, none, .loadn 8 (.t 2)⟩,
    ⟨some 10, none, .call 41 [(.t 9)]⟩,
    ⟨some 6, none, .mov (.t 10)⟩])
  (.seq (.region false [
    ⟨some 11, none, .mov (.t 6)⟩,
    ⟨some 12, none, .bin .neq (.t 11) (.c (.int .i64 0))⟩])
  (.cond (.t 12)
    (.seq (.region false [
      ⟨some 13, none, .build [(.int .i64 0), (.int .i64 0), (.int .i64 0), (.string ⟨#[]⟩), (.bool false), (.slice none 0 0), (.bool false), (.slice none 0 0)] []⟩,
      ⟨some 14, none, .mov (.t 6)⟩,
      ⟨none, none, .store 8 (.t 4) (.t 13)⟩,
      ⟨some 5, none, .mov (.t 14)⟩])
    (.ret))
    (.skip))))
  (.seq (.region false [
    ⟨some 16, none, .mov (.t 1)⟩,
    ⟨some 17, none, .faddr 3 (.t 2)⟩,
    ⟨some 18, none, .load1 (.t 17)⟩,
    ⟨some 19, none, .call 42 [(.t 16), (.t 18)]⟩,
    ⟨some 15, none, .mov (.t 19)⟩,
    ⟨some 20, none, .ext 0 (.t 15)⟩,
    ⟨some 21, none, .ext 1 (.t 15)⟩,
    ⟨some 7, none, .mov (.t 20)⟩,
    ⟨some 8, none, .mov (.t 21)⟩])
  (.seq (.seq (.region false [
    ⟨some 22, none, .mov (.t 8)⟩,
    ⟨some 23, none, .bin .neq (.t 22) (.c (.int .i64 0))⟩])
  (.cond (.t 23)
    (.seq (.region false [
      ⟨some 24, none, .build [(.int .i64 0), (.int .i64 0), (.int .i64 0), (.string ⟨#[]⟩), (.bool false), (.slice none 0 0), (.bool false), (.slice none 0 0)] []⟩,
      ⟨some 25, none, .mov (.t 8)⟩,
      ⟨none, none, .store 8 (.t 4) (.t 24)⟩,
      ⟨some 5, none, .mov (.t 25)⟩])
    (.ret))
    (.skip)))
  (.seq (.region false [
    ⟨some 26, none, .mov (.t 7)⟩,
    ⟨some 27, none, .faddr 3 (.t 2)⟩,
    ⟨none, none, .store 1 (.t 27) (.t 26)⟩])
  (.seq (.seq (.region false [
    ⟨some 28, none, .faddr 4 (.t 2)⟩,
    ⟨some 29, none, .load1 (.t 28)⟩,
    ⟨some 30, none, .not (.t 29)⟩])
  (.cond (.t 30)
    (.seq (.seq (.region false [
      ⟨some 31, none, .faddr 2 (.t 2)⟩,
      ⟨some 32, none, .load1 (.t 31)⟩,
      ⟨some 33, none, .bin .geq (.t 32) (.c (.int .i64 2147483647))⟩])
    (.cond (.t 33)
      (.seq (.region false [
        ⟨some 34, none, .build [(.int .i64 0), (.int .i64 0), (.int .i64 0), (.string ⟨#[]⟩), (.bool false), (.slice none 0 0), (.bool false), (.slice none 0 0)] []⟩,
        ⟨none, none, .store 8 (.t 4) (.t 34)⟩,
        ⟨some 5, none, .mov (.c (.int .i64 11))⟩])
      (.ret))
      (.skip)))
    (.seq (.region false [
      ⟨some 35, none, .mov (.t 1)⟩,
      ⟨some 36, none, .faddr 2 (.t 2)⟩,
      ⟨some 37, none, .load1 (.t 36)⟩,
      ⟨some 38, none, .bin .add (.t 37) (.c (.int .i64 1))⟩,
      ⟨some 39, none, .faddr 4 (.t 2)⟩,
      ⟨none, none, .store 1 (.t 39) (.c (.bool true))⟩,
      ⟨some 40, none, .faddr 5 (.t 2)⟩,
      ⟨none, none, .store 1 (.t 40) (.t 35)⟩,
      ⟨some 41, none, .faddr 2 (.t 2)⟩,
      ⟨none, none, .store 1 (.t 41) (.t 38)⟩])
    (.seq (.region false [
      ⟨some 42, none, .loadn 8 (.t 2)⟩,
      ⟨none, none, .store 8 (.t 4) (.t 42)⟩,
      ⟨some 5, none, .mov (.c (.int .i64 0))⟩])
    (.ret))))
    (.skip)))
  (.seq (.seq (.region false [
    ⟨some 43, none, .faddr 6 (.t 2)⟩,
    ⟨some 44, none, .load1 (.t 43)⟩])
  (.cond (.t 44)
    (.region false [
      ⟨some 46, none, .faddr 7 (.t 2)⟩,
      ⟨some 47, none, .load1 (.t 46)⟩,
      ⟨some 48, none, .mov (.t 1)⟩,
      ⟨some 49, none, .call 20 [(.t 47), (.t 48)]⟩,
      ⟨some 45, none, .mov (.t 49)⟩,
      ⟨some 50, none, .ext 0 (.t 45)⟩,
      ⟨some 51, none, .ext 1 (.t 45)⟩,
      ⟨some 1, none, .mov (.t 50)⟩])
    (.skip)))
  (.seq (.region false [
    ⟨some 52, none, .mov (.t 1)⟩,
    ⟨some 53, none, .faddr 6 (.t 2)⟩,
    ⟨none, none, .store 1 (.t 53) (.c (.bool true))⟩,
    ⟨some 54, none, .faddr 7 (.t 2)⟩,
    ⟨none, none, .store 1 (.t 54) (.t 52)⟩])
  (.seq (.region false [
    ⟨some 55, none, .loadn 8 (.t 2)⟩,
    ⟨none, none, .store 8 (.t 4) (.t 55)⟩,
    ⟨some 5, none, .mov (.c (.int .i64 0))⟩])
  (.ret)))))))))
theorem ok_redit : FnOk Try.prog 26 Try.f26 ac_redit [.cn 4 8, .t 5] 2 drawD := ⟨Try.func26, by decide +kernel, by kernel_rfl, by kernel_rfl, by decide +kernel⟩
theorem vc_redit (P : Prim) (hP : P = std) (T T1 : CallT) (w r q c e e3 : Int) (s t : List UInt8) (fl wt : Bool) (sr hr dr mr : List (List V)) (hq : c = 0 → 0 ≤ q ∧ q ≤ 2147483647)
    (h1 : Ans T 41 [.agg [.int .i64 w, .int .i64 r, .int .i64 q, .str s, .bool fl, .sl false 3 sr, .bool wt, .sl false 3 hr]] (.int .i64 c))
    (h2 : Ans T 42 [.sl false 3 dr, .str s] (.tup [.str t, .int .i64 e]))
    (h4 : Ans T 20 [.sl false 3 hr, .sl false 3 dr] (.tup [.sl false 3 mr, .int .i64 e3])) (hwf : c = 0 → wt = true → fl = true)
    (cc : CV) (x : Int) (hx : EdR w r q c e s t fl wt sr hr dr mr cc x)
    (R : S → Prop) (hR : ∀ x2, x2 = x → RetCli [.cn 4 8, .t 5] [.int .i64 x2] cc R) : awp P T T1 ac_redit (S0 [.agg [.int .i64 w, .int .i64 r, .int .i64 q, .str s, .bool fl, .sl false 3 sr, .bool wt, .sl false 3 hr], .sl false 3 dr] Hp.emp) R (fun _ _ => False) R := by
  obtain ⟨r1, r2, r3, r4, r5, r6⟩ := hx
  cbv
  intro β1
  cbv
  intro β2
  cbv
  refine h1 _ _ ?_
  clear h1
  cbv
  refine br_cases (fun h => ?_) (fun h => ?_)
  · obtain ⟨g1, g2⟩ := r1 (ne_t hP h)
    cbv
    exact hR _ g2 _ _ _ _ _ _ _ _ _ _ _ _ (Ent.refl _) ⟨rfl, rfl, Nat.zero_lt_succ 0, Nat.le_refl 8, rfl⟩ (.inr (.inl ⟨rfl, rfl⟩)) (.inr (.inl ⟨rfl, rfl⟩)) g1
  have hc := ne_f hP h
  have hqq := hq hc
  clear r1
  cbv
  refine h2 _ _ ?_
  clear h2
  cbv
  refine br_cases (fun h => ?_) (fun h => ?_)
  · obtain ⟨g1, g2⟩ := r2 hc (ne_t hP h)
    cbv
    exact hR _ g2 _ _ _ _ _ _ _ _ _ _ _ _ (Ent.refl _) ⟨rfl, rfl, Nat.zero_lt_succ 0, Nat.le_refl 8, rfl⟩ (.inr (.inl ⟨rfl, rfl⟩)) (.inr (.inl ⟨rfl, rfl⟩)) g1
  have he := ne_f hP h
  clear r2
  cbv
  refine br_cases (fun hf' => ?_) (fun hf' => ?_)
  · cbv
    refine br_cases (fun hw' => ?_) (fun hw' => ?_)
    · obtain ⟨g1, g2⟩ := r6 hc he hf' hw'
      cbv
      refine h4 _ _ ?_
      cbv
      exact hR _ g2 _ _ _ _ _ _ _ _ _ _ _ _ (Ent.refl _) ⟨rfl, rfl, Nat.zero_lt_succ 0, Nat.le_refl 8, rfl⟩ (.inl rfl) (.inl rfl) (by rw [← g1, hw'])
    obtain ⟨g1, g2⟩ := r5 hc he hf' hw'
    cbv
    exact hR _ g2 _ _ _ _ _ _ _ _ _ _ _ _ (Ent.refl _) ⟨rfl, rfl, Nat.zero_lt_succ 0, Nat.le_refl 8, rfl⟩ (.inl rfl) (.inl rfl) g1
  cbv
  refine br_cases (fun h => ?_) (fun h => ?_)
  · have hqe : 2147483647 ≤ q := le_t hP h
    obtain ⟨g1, g2⟩ := r3 hc he hf' (by omega)
    cbv
    exact hR _ g2 _ _ _ _ _ _ _ _ _ _ _ _ (Ent.refl _) ⟨rfl, rfl, Nat.zero_lt_succ 0, Nat.le_refl 8, rfl⟩ (.inr (.inl ⟨rfl, rfl⟩)) (.inr (.inl ⟨rfl, rfl⟩)) g1
  have hqe : ¬ 2147483647 ≤ q := le_f hP h
  obtain ⟨g1, g2⟩ := r4 hc he hf' (by omega)
  have o2 : P.i64 (P.add q 1) := by rw [add_eq hP]; exact i64I hP (by omega)
  cbv
  repeat' first | (refine And.intro (by assumption) ?_; try cbv) | (intro β; try cbv)
  exact hR _ g2 _ _ _ _ _ _ _ _ _ _ _ _ (Ent.refl _) ⟨rfl, rfl, Nat.zero_lt_succ 0, Nat.le_refl 8, rfl⟩ (.inl rfl) (.inl rfl) (by rw [← g1]; subst hP; rfl)
theorem sp_redit (c : Client) (d : List Part) (hs : c.sent.length ≤ maxLen) (hh : c.held.length ≤ maxLen) (hd : d.length ≤ maxLen) : Spec Try.prog 26 [.agg (encClient c), encParts d] Hp.emp (Is (.tup [.agg (encClient (editC c d).1), .int .i64 (editC c d).2])) :=
  spec_frz dOk ok_redit fun R hR => vc_redit std rfl _ _ c.who c.rev c.seq (cliF c) (doF d c.text).2 (compF c.held d).2 c.text (doF d c.text).1 c.flying c.waiting (c.sent.map encPart) (c.held.map encPart) (d.map encPart) ((compF c.held d).1.map encPart)
    (fun h => ⟨(cli_num h).1, (cli_num h).2.1⟩)
    (ansW (sp_rcli c hs hh) (fun h => .cons (.same _) .nil) rfl) (ansW (sp_rdo d hd c.text) (fun h => .cons (.weak _ _) (.cons (.same _) .nil)) rfl)
    (ansW (sp_rcomp c.held d hh hd) (fun h => .cons (.same _) (.cons (.same _) .nil)) rfl)
    (fun h hw => by
      obtain ⟨_, _, h3, _⟩ := cliG_ok h
      unfold cbad3 at h3
      cases hf : c.flying with
      | true => rfl
      | false => exact absurd (.inr (.inr ⟨hw, hf⟩)) h3)
    _ _ (editR c d) R fun x2 hx => by subst hx; exact retCli_of hR
/-! SameClient -/
def ac_scli : AC := .seq (.region false [
    ⟨some 2, none, .box 24 8 (.t 0)⟩,
    ⟨some 3, none, .box 24 8 (.t 1)⟩,
    ⟨some 4, none, .mov (.c (.bool false))⟩])
  (.seq (.region false [
    ⟨some 5, none, .faddr 0 (.t 2)⟩,
    ⟨some 6, none, .load1 (.t 5)⟩,
    ⟨some 7, none, .faddr 0 (.t 3)⟩,
    ⟨some 8, none, .load1 (.t 7)⟩,
    ⟨some 9, none, .bin .eql (.t 6) (.t 8)⟩,
    ⟨some 10, none, .mov (.t 9)⟩,
    ⟨some 11, some (10, true), .faddr 1 (.t 2)⟩,
    ⟨some 12, some (10, true), .load1 (.t 11)⟩,
    ⟨some 13, some (10, true), .faddr 1 (.t 3)⟩,
    ⟨some 14, some (10, true), .load1 (.t 13)⟩,
    ⟨some 15, some (10, true), .bin .eql (.t 12) (.t 14)⟩,
    ⟨some 16, none, .pick (.t 10) (.t 15) (.c (.bool false))⟩,
    ⟨some 17, none, .mov (.t 16)⟩,
    ⟨some 18, some (17, true), .faddr 2 (.t 2)⟩,
    ⟨some 19, some (17, true), .load1 (.t 18)⟩,
    ⟨some 20, some (17, true), .faddr 2 (.t 3)⟩,
    ⟨some 21, some (17, true), .load1 (.t 20)⟩,
    ⟨some 22, some (17, true), .bin .eql (.t 19) (.t 21)⟩,
    ⟨some 23, none, .pick (.t 17) (.t 22) (.c (.bool false))⟩,
    ⟨some 24, none, .mov (.t 23)⟩,
    ⟨some 25, some (24, true), .faddr 3 (.t 2)⟩,
    ⟨some 26, some (24, true), .load1 (.t 25)⟩,
    ⟨some 27, some (24, true), .faddr 3 (.t 3)⟩,
    ⟨some 28, some (24, true), .load1 (.t 27)⟩,
    ⟨some 29, some (24, true), .bin .eql (.t 26) (.t 28)⟩,
    ⟨some 30, none, .pick (.t 24) (.t 29) (.c (.bool false))⟩,
    ⟨some 31, none, .mov (.t 30)⟩,
    ⟨some 32, some (31, true), .faddr 4 (.t 2)⟩,
    ⟨some 33, some (31, true), .load1 (.t 32)⟩,
    ⟨some 34, some (31, true), .faddr 4 (.t 3)⟩,
    ⟨some 35, some (31, true), .load1 (.t 34)⟩,
    ⟨some 36, some (31, true), .eqb false (.t 33) (.t 35)⟩,
    ⟨some 37, none, .pick (.t 31) (.t 36) (.c (.bool false))⟩,
    ⟨some 38, none, .mov (.t 37)⟩,
    ⟨some 39, some (38, true), .faddr 5 (.t 2)⟩,
    ⟨some 40, some (38, true), .load1 (.t 39)⟩,
    ⟨some 41, some (38, true), .faddr 5 (.t 3)⟩,
    ⟨some 42, some (38, true), .load1 (.t 41)⟩,
    ⟨some 43, some (38, true), .call 21 [(.t 40), (.t 42)]⟩,
    ⟨some 44, none, .pick (.t 38) (.t 43) (.c (.bool false))⟩,
    ⟨some 45, none, .mov (.t 44)⟩,
    ⟨some 46, some (45, true), .faddr 6 (.t 2)⟩,
    ⟨some 47, some (45, true), .load1 (.t 46)⟩,
    ⟨some 48, some (45, true), .faddr 6 (.t 3)⟩,
    ⟨some 49, some (45, true), .load1 (.t 48)⟩,
    ⟨some 50, some (45, true), .eqb false (.t 47) (.t 49)⟩,
    ⟨some 51, none, .pick (.t 45) (.t 50) (.c (.bool false))⟩,
    ⟨some 52, none, .mov (.t 51)⟩,
    ⟨some 53, some (52, true), .faddr 7 (.t 2)⟩,
    ⟨some 54, some (52, true), .load1 (.t 53)⟩,
    ⟨some 55, some (52, true), .faddr 7 (.t 3)⟩,
    ⟨some 56, some (52, true), .load1 (.t 55)⟩,
    ⟨some 57, some (52, true), .call 21 [(.t 54), (.t 56)]⟩,
    ⟨some 58, none, .pick (.t 52) (.t 57) (.c (.bool false))⟩,
    ⟨some 4, none, .mov (.t 58)⟩])
  (.ret))
theorem ok_scli : FnOk Try.prog 13 Try.f13 ac_scli [.t 4] 2 drawD := ⟨Try.func13, by decide +kernel, by kernel_rfl, by kernel_rfl, by decide +kernel⟩
theorem vc_scli (P : Prim) (hP : P = std) (T T1 : CallT) (w r q : Int) (s : List UInt8) (fl wt : Bool) (sr hr : List (List V)) (h1 : Ans T 21 [.sl false 3 sr, .sl false 3 sr] (.bool true)) (h2 : Ans T 21 [.sl false 3 hr, .sl false 3 hr] (.bool true))
    (R : S → Prop) (hR : ∀ s s' x, x = true → Ent s s' → Ret [.t 4] [.bool x] s' → R s) : awp P T T1 ac_scli (S0 [.agg [.int .i64 w, .int .i64 r, .int .i64 q, .str s, .bool fl, .sl false 3 sr, .bool wt, .sl false 3 hr], .agg [.int .i64 w, .int .i64 r, .int .i64 q, .str s, .bool fl, .sl false 3 sr, .bool wt, .sl false 3 hr]] Hp.emp) R (fun _ _ => False) R := by
  cbv
  intro β2
  cbv
  intro β3
  cbv
  refine br_tt (eq_T hP rfl) ?_
  cbv
  refine br_tt (eq_T hP rfl) ?_
  cbv
  refine br_tt (eq_T hP rfl) ?_
  cbv
  refine br_tt (seq_T hP rfl) ?_
  cbv
  refine h1 _ _ ?_
  cbv
  refine h2 _ _ ?_
  cbv
  exact hR _ _ _ rfl (Ent.refl _) rfl
theorem sp_scli (c : Client) (h1 : c.sent.length ≤ 10000000) (h2 : c.held.length ≤ 10000000) : Spec Try.prog 13 [.agg (encClient c), .agg (encClient c)] Hp.emp (Is (.bool true)) :=
  spec_pure dOk ok_scli [.bool true] (.bool _) fun R hR => vc_scli std rfl _ _ c.who c.rev c.seq c.text c.flying c.waiting (c.sent.map encPart) (c.held.map encPart) (same_self _ h1) (same_self _ h2) R fun s s' x h he hr => by subst h; exact hR s s' he hr
/-! the law -/
def ac_lcedit : AC := .seq (.region false [
    ⟨some 2, none, .box 24 8 (.t 0)⟩,
    ⟨some 4, none, .mov (.c (.bool false))⟩])
  (.seq (.region false [
    ⟨some 10, none, .loadn 8 (.t 2)⟩,
    ⟨some 11, none, .mov (.t 1)⟩,
    ⟨some 12, none, .call 25 [(.t 10), (.t 11)]⟩,
    ⟨some 9, none, .mov (.t 12)⟩,
    ⟨some 13, none, .ext 0 (.t 9)⟩,
    ⟨some 14, none, .ext 1 (.t 9)⟩,
    ⟨some 5, none, .alloc 24 [(.int .i64 0), (.int .i64 0), (.int .i64 0), (.string ⟨#[]⟩), (.bool false), (.slice none 0 0), (.bool false), (.slice none 0 0)]⟩,
    ⟨none, none, .store 8 (.t 5) (.t 13)⟩,
    ⟨some 6, none, .mov (.t 14)⟩])
  (.seq (.region false [
    ⟨some 16, none, .loadn 8 (.t 2)⟩,
    ⟨some 17, none, .mov (.t 1)⟩,
    ⟨some 18, none, .call 26 [(.t 16), (.t 17)]⟩,
    ⟨some 15, none, .mov (.t 18)⟩,
    ⟨some 19, none, .ext 0 (.t 15)⟩,
    ⟨some 20, none, .ext 1 (.t 15)⟩,
    ⟨some 7, none, .alloc 24 [(.int .i64 0), (.int .i64 0), (.int .i64 0), (.string ⟨#[]⟩), (.bool false), (.slice none 0 0), (.bool false), (.slice none 0 0)]⟩,
    ⟨none, none, .store 8 (.t 7) (.t 19)⟩,
    ⟨some 8, none, .mov (.t 20)⟩])
  (.seq (.region false [
    ⟨some 21, none, .loadn 8 (.t 5)⟩,
    ⟨some 22, none, .loadn 8 (.t 7)⟩,
    ⟨some 23, none, .call 13 [(.t 21), (.t 22)]⟩,
    ⟨some 24, none, .mov (.t 23)⟩,
    ⟨some 25, some (24, true), .mov (.t 6)⟩,
    ⟨some 26, some (24, true), .mov (.t 8)⟩,
    ⟨some 27, some (24, true), .bin .eql (.t 25) (.t 26)⟩,
    ⟨some 28, none, .pick (.t 24) (.t 27) (.c (.bool false))⟩,
    ⟨some 4, none, .mov (.t 28)⟩])
  (.ret))))
theorem ok_lcedit : FnOk Try.prog 7 Try.f7 ac_lcedit [.t 4] 2 drawD := ⟨Try.func7, by decide +kernel, by kernel_rfl, by kernel_rfl, by decide +kernel⟩
theorem vc_lcedit (P : Prim) (hP : P = std) (T T1 : CallT) (w r q w2 r2 q2 e : Int) (s t : List UInt8) (fl wt fl2 wt2 : Bool) (sr hr dr sr2 hr2 : List (List V))
    (h1 : Ans T 25 [.agg [.int .i64 w, .int .i64 r, .int .i64 q, .str s, .bool fl, .sl false 3 sr, .bool wt, .sl false 3 hr], .sl false 3 dr] (.tup [.agg [.int .i64 w2, .int .i64 r2, .int .i64 q2, .str t, .bool fl2, .sl false 3 sr2, .bool wt2, .sl false 3 hr2], .int .i64 e]))
    (h2 : Ans T 26 [.agg [.int .i64 w, .int .i64 r, .int .i64 q, .str s, .bool fl, .sl false 3 sr, .bool wt, .sl false 3 hr], .sl false 3 dr] (.tup [.agg [.int .i64 w2, .int .i64 r2, .int .i64 q2, .str t, .bool fl2, .sl false 3 sr2, .bool wt2, .sl false 3 hr2], .int .i64 e]))
    (h3 : Ans T 13 [.agg [.int .i64 w2, .int .i64 r2, .int .i64 q2, .str t, .bool fl2, .sl false 3 sr2, .bool wt2, .sl false 3 hr2], .agg [.int .i64 w2, .int .i64 r2, .int .i64 q2, .str t, .bool fl2, .sl false 3 sr2, .bool wt2, .sl false 3 hr2]] (.bool true))
    (R : S → Prop) (hR : ∀ s s' x, x = true → Ent s s' → Ret [.t 4] [.bool x] s' → R s) : awp P T T1 ac_lcedit (S0 [.agg [.int .i64 w, .int .i64 r, .int .i64 q, .str s, .bool fl, .sl false 3 sr, .bool wt, .sl false 3 hr], .sl false 3 dr] Hp.emp) R (fun _ _ => False) R := by
  cbv
  intro β1
  cbv
  refine h1 _ _ ?_
  cbv
  intro β2
  cbv
  refine h2 _ _ ?_
  cbv
  intro β3
  cbv
  refine h3 _ _ ?_
  cbv
  refine hR _ _ _ (eq_T hP rfl) (Ent.refl _) rfl
theorem editC_len (c : Client) (d : List Part) : (editC c d).1.sent.length ≤ 10000000 ∧ (editC c d).1.held.length ≤ 10000000 := by
  unfold editC
  split
  · simp [noC]
  · rename_i h1
    have h1 := Decidable.of_not_not h1
    have a1 := cli_sent h1
    have a2 := cli_held h1
    split
    · simp [noC]
    · rename_i h2
      have a3 := do_len (Decidable.of_not_not h2)
      have a4 := comp_len c.held d
      repeat' split
      all_goals simp [noC]
      all_goals omega
theorem sp_law_clientEdits (c : Client) (d : List Part) (hc : Client.Ok c) (hd : PartsOk d) : Spec Try.prog 7 [.agg (encClient c), encParts d] Hp.emp (Is (.bool true)) := by
  obtain ⟨_, _, _, _, hs, hh⟩ := hc
  exact spec_pure dOk ok_lcedit [.bool true] (.bool _) fun R hR => vc_lcedit std rfl _ _ c.who c.rev c.seq (editC c d).1.who (editC c d).1.rev (editC c d).1.seq (editC c d).2 c.text (editC c d).1.text c.flying c.waiting (editC c d).1.flying (editC c d).1.waiting (c.sent.map encPart) (c.held.map encPart) (d.map encPart) ((editC c d).1.sent.map encPart) ((editC c d).1.held.map encPart)
    (ansW (sp_cedit c d hs.1 hh.1 hd.1) (fun h => .cons (.same _) (.cons (.same _) .nil)) rfl) (ansW (sp_redit c d hs.1 hh.1 hd.1) (fun h => .cons (.same _) (.cons (.same _) .nil)) rfl) (ansW (sp_scli _ (editC_len c d).1 (editC_len c d).2) (fun h => .cons (.same _) (.cons (.same _) .nil)) rfl)
    R fun s s' x h he hr => by subst h; exact hR s s' he hr
end Go.Proofs.Ytcdldpjmdelebaa.AM
