/-
  A delta being made: Keep, Done.
-/
import Derived.Test.YtdmpbdmgaepndaaMMk
set_option linter.unusedVariables false
set_option linter.unusedSimpArgs false
namespace Go.Proofs.Ytdmpbdmgaepndaa.AM
open Go
set_option maxRecDepth 100000
set_option maxHeartbeats 2000000
def ac_mkeep : AC := .seq (.seq (.region false [
    ⟨some 5, none, .mov (.t 1)⟩,
    ⟨some 6, none, .bin .eql (.t 5) (.c (.int .i64 0))⟩])
  (.cond (.t 6)
    (.ret)
    (.skip)))
  (.seq (.region false [
    ⟨some 7, none, .mov (.t 0)⟩,
    ⟨some 8, none, .call 123 [(.t 7)]⟩])
  (.seq (.seq (.region false [
    ⟨some 9, none, .mov (.t 0)⟩,
    ⟨some 10, none, .nilchk (.t 9)⟩,
    ⟨some 11, none, .faddr 0 (.t 10)⟩,
    ⟨some 12, none, .load1 (.t 11)⟩,
    ⟨some 13, none, .len false (.t 12)⟩,
    ⟨some 14, none, .bin .sub (.t 13) (.c (.int .i64 1))⟩,
    ⟨some 4, none, .mov (.t 14)⟩])
  (.seq (.region false [
    ⟨some 15, none, .mov (.t 4)⟩,
    ⟨some 16, none, .bin .geq (.t 15) (.c (.int .i64 0))⟩,
    ⟨some 17, none, .mov (.t 16)⟩,
    ⟨some 18, some (17, true), .mov (.t 0)⟩,
    ⟨some 19, some (17, true), .nilchk (.t 18)⟩,
    ⟨some 20, some (17, true), .faddr 0 (.t 19)⟩,
    ⟨some 21, some (17, true), .load1 (.t 20)⟩,
    ⟨some 22, some (17, true), .mov (.t 4)⟩,
    ⟨some 23, some (17, true), .iaddr 3 (.t 21) (.t 22)⟩,
    ⟨some 24, some (17, true), .faddr 0 (.t 23)⟩,
    ⟨some 25, some (17, true), .load1 (.t 24)⟩,
    ⟨some 26, some (17, true), .bin .eql (.t 25) (.c (.int .i64 1))⟩,
    ⟨some 27, none, .pick (.t 17) (.t 26) (.c (.bool false))⟩])
  (.cond (.t 27)
    (.seq (.region false [
      ⟨some 28, none, .mov (.t 0)⟩,
      ⟨some 29, none, .nilchk (.t 28)⟩,
      ⟨some 30, none, .faddr 0 (.t 29)⟩,
      ⟨some 31, none, .load1 (.t 30)⟩,
      ⟨some 32, none, .mov (.t 4)⟩,
      ⟨some 33, none, .iaddr 3 (.t 31) (.t 32)⟩,
      ⟨some 34, none, .faddr 1 (.t 33)⟩,
      ⟨some 35, none, .load1 (.t 34)⟩,
      ⟨some 36, none, .mov (.t 1)⟩,
      ⟨some 37, none, .bin .add (.t 35) (.t 36)⟩,
      ⟨some 38, none, .iaddr 3 (.t 31) (.t 32)⟩,
      ⟨some 39, none, .faddr 1 (.t 38)⟩,
      ⟨none, none, .store 1 (.t 39) (.t 37)⟩])
    (.ret))
    (.skip))))
  (.region false [
    ⟨some 40, none, .mov (.t 0)⟩,
    ⟨some 41, none, .mov (.t 0)⟩,
    ⟨some 42, none, .nilchk (.t 41)⟩,
    ⟨some 43, none, .faddr 0 (.t 42)⟩,
    ⟨some 44, none, .load1 (.t 43)⟩,
    ⟨some 45, none, .mov (.t 1)⟩,
    ⟨some 46, none, .build [(.int .i64 0), (.int .i64 0), (.string ⟨#[]⟩)] [(0, 1, (.c (.int .i64 1))), (1, 1, (.t 45))]⟩,
    ⟨some 47, none, .bslice 132 3 [(.t 46)]⟩,
    ⟨some 48, none, .append 132 3 32 (.t 44) (.t 47)⟩,
    ⟨some 49, none, .nilchk (.t 40)⟩,
    ⟨some 50, none, .faddr 0 (.t 49)⟩,
    ⟨none, none, .store 1 (.t 50) (.t 48)⟩])))
theorem ok_mkeep : FnOk Try.prog 93 Try.f93 ac_mkeep [] 2 drawD := ⟨Try.func93, by decide +kernel, by kernel_rfl, by kernel_rfl, by decide +kernel⟩
theorem vc_mkeep (P : Prim) (hP : P = std) (T T1 : CallT) (b : Nat) (ba : Option Nat) (n : Nat) (put : List UInt8) (cut k : Int) (rows : List (List V)) (m : Mk) (hn : n = m.out.length) (hrows : rows = m.out.map encPart) (hput : put = m.put) (hcut : cut = m.cut)
    (nf : Nat) (rowsf : List (List V)) (hnf : nf = m.flush.length) (hrowsf : rowsf = m.flush.map encPart) (hbd : m.flush.length ≤ 100000000) (hbk : ∀ p ∈ m.flush, I64 (p.n + k))
    (hc1 : MkCall T 123 0 1000000 b ba [] n put cut rows (fun _ => .tup []) nf [] 0 rowsf)
    (n' : Nat) (p' : List UInt8) (c' : Int) (rows' : List (List V)) (hn' : n' = (m.doKeep k).out.length) (hrows' : rows' = (m.doKeep k).out.map encPart) (hp' : p' = (m.doKeep k).put) (hc' : c' = (m.doKeep k).cut)
    (R : S → Prop) (hR : MkEnd [] (fun _ => []) b n' p' c' rows' R) : awp P T T1 ac_mkeep (S0 [.ptr 0 (some b) 3 0 0, .int .i64 k] (lookH (M0 b ba n put cut rows))) R (fun _ _ => False) R := by
  cbv
  refine br_cases (fun h => ?_) (fun h => ?_)
  · cbv
    refine hR _ _ _ _ _ _ _ (Ent.refl _) rfl rfl rfl ?_
    cbv
    clear hR hc1; subst hP; subst hn' hrows' hn hrows hput hcut hp' hc'; simp [std] at h; simp [Mk.doKeep, h]
  cbv
  have hk0 : k ≠ 0 := by clear hR hc1; subst hP; simpa [std] using h
  refine hc1 _ _ rfl rfl fun ba1 => ?_
  clear hc1
  cbv
  have ho1 : P.i64 (P.sub (P.int nf) 1) := by clear hR; subst hP; simp only [std, I64, hnf]; omega
  refine ⟨ho1, ?_⟩
  rcases List.eq_nil_or_concat m.flush with hf | ⟨pre, ⟨qk, qn, qt⟩, hf⟩
  · refine br_cases (fun h => ?_) (fun h => ?_)
    · exfalso; clear hR; subst hP; rw [hf] at hnf; simp [std, hnf] at h
    cbv
    repeat' (first | (intro β; try cbv) | (refine And.intro (by assumption) ?_; try cbv) | (refine br_cases (fun h => ?_) (fun h => ?_) <;> try cbv) | (refine Exists.intro _ (And.intro (by assumption) ?_); try cbv) | (refine hc1 _ _ ?_; try cbv) | (refine hc2 _ _ ?_; try cbv) | (refine hc3 _ _ ?_; try cbv) | (refine hc4 _ _ ?_; try cbv) | (refine hc5 _ _ ?_; try cbv) | (refine hc6 _ _ ?_; try cbv) | (refine And.intro (by (clear hR; subst hP; simp [std, I64, nc] at * <;> first | omega | grind)) ?_; try cbv))
    all_goals
      refine hR _ _ _ _ _ _ _ (Ent.refl _) rfl rfl rfl ?_
      cbv
      clear hR; subst hP; subst hn' hrows' hn hrows hput hcut hp' hc' hnf hrowsf
      simp [Mk.doKeep, hk0, hf, addKeep, std, encPart]
  · rw [List.concat_eq_append] at hf
    have hq := hbk ⟨qk, qn, qt⟩ (by rw [hf]; simp)
    simp only at hq
    have hrow : P.row rowsf (P.nat (P.sub (P.int nf) 1)) [.int .i64 qk, .int .i64 qn, .str qt] := by
      clear hR; subst hP; rw [hrowsf, hnf, hf]; simp [std, encPart]
    have hnn : nf = pre.length + 1 := by rw [hnf, hf]; simp
    have ho2 : P.leP 0 (P.sub (P.int nf) 1) := by clear hR; subst hP; simp only [std, hnn]; omega
    have ho3 : P.ltP (P.sub (P.int nf) 1) (P.int nf) := by clear hR; subst hP; simp only [std, hnn]; omega
    have ho4 : P.i64 (P.add qn k) := by clear hR; subst hP; exact hq
    refine br_cases (fun h => ?_) (fun h => ?_)
    rotate_left
    · exfalso; clear hR; subst hP; simp [std, hnn] at h
    cbv
    repeat' (first | (intro β; try cbv) | (refine And.intro (by assumption) ?_; try cbv) | (refine br_cases (fun h => ?_) (fun h => ?_) <;> try cbv) | (refine Exists.intro _ (And.intro (by assumption) ?_); try cbv) | (refine hc1 _ _ ?_; try cbv) | (refine hc2 _ _ ?_; try cbv) | (refine hc3 _ _ ?_; try cbv) | (refine hc4 _ _ ?_; try cbv) | (refine hc5 _ _ ?_; try cbv) | (refine hc6 _ _ ?_; try cbv) | (refine And.intro (by (clear hR; subst hP; simp [std, I64, nc] at * <;> first | omega | grind)) ?_; try cbv))
    all_goals
      refine hR _ _ _ _ _ _ _ (Ent.refl _) rfl rfl rfl ?_
      cbv
      clear hR hrow ho1 ho2 ho3 ho4 hbk; subst hP; subst hn' hrows' hn hrows hput hcut hp' hc' hrowsf
      simp [std] at *
      simp [Mk.doKeep, hk0, hf, addKeep, encPart, *]
theorem sp_mkeep (m : Mk) (k : Int) (hbd : m.flush.length ≤ 100000000) (hbk : ∀ p ∈ m.flush, I64 (p.n + k)) (hbo : m.out.length ≤ 100000000) : MkSpec 93 [.int .i64 k] m (m.doKeep k) (fun _ => .tup []) :=
  specMk dOk ok_mkeep (fun _ => []) (fun _ => .tup _ (by simp)) fun b ba R hR => vc_mkeep std rfl _ _ b ba _ _ _ k _ m rfl rfl rfl rfl _ _ rfl rfl hbd hbk (mkCall (sp_flush m hbo) rfl 0 1000000 b ba (by decide) (fun _ => rfl)) _ _ _ _ rfl rfl rfl rfl R hR

def ac_mdone : AC := .seq (.region false [
    ⟨some 2, none, .mov (.c (.slice none 0 0))⟩])
  (.seq (.region false [
    ⟨some 3, none, .mov (.t 0)⟩,
    ⟨some 4, none, .call 123 [(.t 3)]⟩])
  (.seq (.region false [
    ⟨some 5, none, .mov (.t 0)⟩,
    ⟨some 6, none, .nilchk (.t 5)⟩,
    ⟨some 7, none, .faddr 0 (.t 6)⟩,
    ⟨some 8, none, .load1 (.t 7)⟩,
    ⟨some 2, none, .mov (.t 8)⟩])
  (.ret)))
theorem ok_mdone : FnOk Try.prog 96 Try.f96 ac_mdone [.t 2] 1 drawD := ⟨Try.func96, by decide +kernel, by kernel_rfl, by kernel_rfl, by decide +kernel⟩
theorem vc_mdone (P : Prim) (hP : P = std) (T T1 : CallT) (b : Nat) (ba : Option Nat) (n : Nat) (put : List UInt8) (cut : Int) (rows : List (List V)) (nf : Nat) (rowsf : List (List V))
    (hc1 : MkCall T 123 0 1000000 b ba [] n put cut rows (fun _ => .tup []) nf [] 0 rowsf)
    (R : S → Prop) (hR : MkEnd [.t 2] (fun ba' => [.own 1000000 ba' 3 nf]) b nf [] 0 rowsf R) : awp P T T1 ac_mdone (S0 [.ptr 0 (some b) 3 0 0] (lookH (M0 b ba n put cut rows))) R (fun _ _ => False) R := by
  cbv
  refine hc1 _ _ rfl rfl fun ba1 => ?_
  cbv
  exact hR _ _ _ _ _ _ _ (Ent.refl _) rfl rfl rfl ⟨rfl, rfl, rfl, rfl⟩
theorem sp_mdone (m : Mk) (hbo : m.out.length ≤ 100000000) : MkSpec 96 [] m ⟨m.flush, [], 0⟩ (fun ba' => .own 1000000 ba' 3 m.flush.length) :=
  specMk dOk ok_mdone (fun ba' => [.own 1000000 ba' 3 m.flush.length]) (fun _ => .own _ _ _ _) fun b ba R hR => vc_mdone std rfl _ _ b ba _ _ _ _ _ _ (mkCall (sp_flush m hbo) rfl 0 1000000 b ba (by decide) (fun _ => rfl)) R hR
end Go.Proofs.Ytdmpbdmgaepndaa.AM
