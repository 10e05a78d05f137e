/-
  Parts of deltas: what the program's inner functions and the references' answer of one part, and their sums.
-/
import Derived.Test.YtdmpbdmgaepndaaMBase
set_option linter.unusedVariables false
set_option linter.unusedSimpArgs false
namespace Go.Proofs.Ytdmpbdmgaepndaa.AM
open Go
structure Part where
  kind : Int
  n : Int
  text : List UInt8
def encPart (p : Part) : List V := [.int .i64 p.kind, .int .i64 p.n, .str p.text]
def Part.Ok (p : Part) : Prop := I64 p.kind ∧ I64 p.n ∧ p.text.length ≤ maxLen
set_option maxRecDepth 100000
set_option maxHeartbeats 2000000

def fitF (p : Part) : Int :=
  if p.kind = 1 ∨ p.kind = 3 then (if p.n < 1 ∨ p.text ≠ [] then 3 else if p.n > 500 ∨ (p.text.length : Int) > 500 then 2 else 0)
  else if p.kind = 2 then (if p.n ≠ 0 ∨ p.text = [] then 3 else if p.n > 500 ∨ (p.text.length : Int) > 500 then 2 else 0)
  else 3
def ac_fit : AC := .seq (.region false [
    ⟨some 1, none, .box 132 3 (.t 0)⟩,
    ⟨some 2, none, .mov (.c (.int .i64 0))⟩])
  (.seq (.seq (.region false [
    ⟨some 3, none, .faddr 0 (.t 1)⟩,
    ⟨some 4, none, .load1 (.t 3)⟩])
  (.block 0 (.seq (.seq (.region false [
    ⟨some 6, none, .bin .eql (.t 4) (.c (.int .i64 1))⟩,
    ⟨some 5, none, .mov (.t 6)⟩])
  (.cond (.t 5)
    (.skip)
    (.region false [
      ⟨some 7, none, .bin .eql (.t 4) (.c (.int .i64 3))⟩,
      ⟨some 5, none, .mov (.t 7)⟩])))
  (.cond (.t 5)
    (.seq (.region false [
      ⟨some 8, none, .faddr 1 (.t 1)⟩,
      ⟨some 9, none, .load1 (.t 8)⟩,
      ⟨some 10, none, .bin .lss (.t 9) (.c (.int .i64 1))⟩,
      ⟨some 11, none, .mov (.t 10)⟩,
      ⟨some 12, some (11, false), .faddr 2 (.t 1)⟩,
      ⟨some 13, some (11, false), .load1 (.t 12)⟩,
      ⟨some 14, some (11, false), .bin .neq (.t 13) (.c (.string ⟨#[]⟩))⟩,
      ⟨some 15, none, .pick (.t 11) (.c (.bool true)) (.t 14)⟩])
    (.cond (.t 15)
      (.seq (.region false [
        ⟨some 2, none, .mov (.c (.int .i64 3))⟩])
      (.ret))
      (.skip)))
    (.seq (.region false [
      ⟨some 17, none, .bin .eql (.t 4) (.c (.int .i64 2))⟩,
      ⟨some 16, none, .mov (.t 17)⟩])
    (.cond (.t 16)
      (.seq (.region false [
        ⟨some 18, none, .faddr 1 (.t 1)⟩,
        ⟨some 19, none, .load1 (.t 18)⟩,
        ⟨some 20, none, .bin .neq (.t 19) (.c (.int .i64 0))⟩,
        ⟨some 21, none, .mov (.t 20)⟩,
        ⟨some 22, some (21, false), .faddr 2 (.t 1)⟩,
        ⟨some 23, some (21, false), .load1 (.t 22)⟩,
        ⟨some 24, some (21, false), .bin .eql (.t 23) (.c (.string ⟨#[]⟩))⟩,
        ⟨some 25, none, .pick (.t 21) (.c (.bool true)) (.t 24)⟩])
      (.cond (.t 25)
        (.seq (.region false [
          ⟨some 2, none, .mov (.c (.int .i64 3))⟩])
        (.ret))
        (.skip)))
      (.seq (.region false [
        ⟨some 2, none, .mov (.c (.int .i64 3))⟩])
      (.ret))))))))
  (.seq (.seq (.region false [
    ⟨some 26, none, .faddr 1 (.t 1)⟩,
    ⟨some 27, none, .load1 (.t 26)⟩,
    ⟨some 28, none, .bin .gtr (.t 27) (.c (.int .i64 500))⟩,
    ⟨some 29, none, .mov (.t 28)⟩,
    ⟨some 30, some (29, false), .faddr 2 (.t 1)⟩,
    ⟨some 31, some (29, false), .load1 (.t 30)⟩,
    ⟨some 32, some (29, false), .len true (.t 31)⟩,
    ⟨some 33, some (29, false), .bin .gtr (.t 32) (.c (.int .i64 500))⟩,
    ⟨some 34, none, .pick (.t 29) (.c (.bool true)) (.t 33)⟩])
  (.cond (.t 34)
    (.seq (.region false [
      ⟨some 2, none, .mov (.c (.int .i64 2))⟩])
    (.ret))
    (.skip)))
  (.seq (.region false [
    ⟨some 2, none, .mov (.c (.int .i64 0))⟩])
  (.ret))))
theorem ok_fit : FnOk Try.prog 92 Try.f92 ac_fit [.t 2] 1 drawD := ⟨Try.func92, by decide +kernel, by kernel_rfl, by kernel_rfl, by decide +kernel⟩
theorem vc_fit (P : Prim) (hP : P = std) (T T1 : CallT) (k n : Int) (t : List UInt8) (r : Int) (hr : fitF ⟨k, n, t⟩ = r) (R : S → Prop) (hR : ∀ s s', Ent s s' → Ret [.t 2] [.int .i64 r] s' → R s) :
    awp P T T1 ac_fit (S0 [.agg [.int .i64 k, .int .i64 n, .str t]] Hp.emp) R (fun _ _ => False) R := by
  cbv
  repeat' (first | (intro β; try cbv) | (refine And.intro (by assumption) ?_; try cbv) | (refine br_cases (fun h => ?_) (fun h => ?_) <;> try cbv))
  all_goals
    refine hR _ _ (Ent.refl _) ?_
    cbv
  all_goals
    subst hP
    subst hr
    simp [std] at *
    clear hR
    grind [fitF]
theorem sp_fit (p : Part) : Spec Try.prog 92 [.agg (encPart p)] Hp.emp (Is (.int .i64 (fitF p))) :=
  spec_pure dOk ok_fit [.int .i64 (fitF p)] (.int _ _) fun R hR => vc_fit std rfl _ _ p.kind p.n p.text _ rfl R hR

def ac_right : AC := .seq (.region false [
    ⟨some 1, none, .box 132 3 (.t 0)⟩,
    ⟨some 2, none, .mov (.c (.int .i64 0))⟩])
  (.seq (.region false [
    ⟨some 4, none, .faddr 0 (.t 1)⟩,
    ⟨some 5, none, .load1 (.t 4)⟩,
    ⟨some 6, none, .bin .eql (.t 5) (.c (.int .i64 2))⟩,
    ⟨some 7, none, .mov (.t 6)⟩,
    ⟨some 8, some (7, true), .faddr 1 (.t 1)⟩,
    ⟨some 9, some (7, true), .load1 (.t 8)⟩,
    ⟨some 10, some (7, true), .bin .eql (.t 9) (.c (.int .i64 0))⟩,
    ⟨some 11, none, .pick (.t 7) (.t 10) (.c (.bool false))⟩,
    ⟨some 12, none, .mov (.t 11)⟩,
    ⟨some 13, some (12, true), .faddr 2 (.t 1)⟩,
    ⟨some 14, some (12, true), .load1 (.t 13)⟩,
    ⟨some 15, some (12, true), .bin .neq (.t 14) (.c (.string ⟨#[]⟩))⟩,
    ⟨some 16, none, .pick (.t 12) (.t 15) (.c (.bool false))⟩,
    ⟨some 17, none, .mov (.t 16)⟩,
    ⟨some 18, some (17, false), .faddr 0 (.t 1)⟩,
    ⟨some 19, some (17, false), .load1 (.t 18)⟩,
    ⟨some 20, some (17, false), .bin .eql (.t 19) (.c (.int .i64 1))⟩,
    ⟨some 21, some (17, false), .mov (.t 20)⟩,
    ⟨some 22, some (21, false), .faddr 0 (.t 1)⟩,
    ⟨some 23, some (21, false), .load1 (.t 22)⟩,
    ⟨some 24, some (21, false), .bin .eql (.t 23) (.c (.int .i64 3))⟩,
    ⟨some 25, some (17, false), .pick (.t 21) (.c (.bool true)) (.t 24)⟩,
    ⟨some 26, some (17, false), .mov (.t 25)⟩,
    ⟨some 27, some (26, true), .faddr 1 (.t 1)⟩,
    ⟨some 28, some (26, true), .load1 (.t 27)⟩,
    ⟨some 29, some (26, true), .bin .gtr (.t 28) (.c (.int .i64 0))⟩,
    ⟨some 30, some (17, false), .pick (.t 26) (.t 29) (.c (.bool false))⟩,
    ⟨some 31, some (17, false), .mov (.t 30)⟩,
    ⟨some 32, some (31, true), .faddr 2 (.t 1)⟩,
    ⟨some 33, some (31, true), .load1 (.t 32)⟩,
    ⟨some 34, some (31, true), .bin .eql (.t 33) (.c (.string ⟨#[]⟩))⟩,
    ⟨some 35, some (17, false), .pick (.t 31) (.t 34) (.c (.bool false))⟩,
    ⟨some 36, none, .pick (.t 17) (.c (.bool true)) (.t 35)⟩,
    ⟨some 3, none, .mov (.t 36)⟩])
  (.seq (.seq (.region false [
    ⟨some 37, none, .mov (.t 3)⟩,
    ⟨some 38, none, .not (.t 37)⟩])
  (.cond (.t 38)
    (.seq (.region false [
      ⟨some 2, none, .mov (.c (.int .i64 3))⟩])
    (.ret))
    (.skip)))
  (.seq (.seq (.region false [
    ⟨some 39, none, .faddr 1 (.t 1)⟩,
    ⟨some 40, none, .load1 (.t 39)⟩,
    ⟨some 41, none, .bin .gtr (.t 40) (.c (.int .i64 500))⟩,
    ⟨some 42, none, .mov (.t 41)⟩,
    ⟨some 43, some (42, false), .faddr 2 (.t 1)⟩,
    ⟨some 44, some (42, false), .load1 (.t 43)⟩,
    ⟨some 45, some (42, false), .len true (.t 44)⟩,
    ⟨some 46, some (42, false), .bin .gtr (.t 45) (.c (.int .i64 500))⟩,
    ⟨some 47, none, .pick (.t 42) (.c (.bool true)) (.t 46)⟩])
  (.cond (.t 47)
    (.seq (.region false [
      ⟨some 2, none, .mov (.c (.int .i64 2))⟩])
    (.ret))
    (.skip)))
  (.seq (.region false [
    ⟨some 2, none, .mov (.c (.int .i64 0))⟩])
  (.ret)))))
theorem ok_right : FnOk Try.prog 91 Try.f91 ac_right [.t 2] 1 drawD := ⟨Try.func91, by decide +kernel, by kernel_rfl, by kernel_rfl, by decide +kernel⟩
theorem vc_right (P : Prim) (hP : P = std) (T T1 : CallT) (k n : Int) (t : List UInt8) (r : Int) (hr : fitF ⟨k, n, t⟩ = r) (R : S → Prop) (hR : ∀ s s', Ent s s' → Ret [.t 2] [.int .i64 r] s' → R s) :
    awp P T T1 ac_right (S0 [.agg [.int .i64 k, .int .i64 n, .str t]] Hp.emp) R (fun _ _ => False) R := by
  cbv
  repeat' (first | (intro β; try cbv) | (refine And.intro (by assumption) ?_; try cbv) | (refine br_cases (fun h => ?_) (fun h => ?_) <;> try cbv))
  all_goals
    refine hR _ _ (Ent.refl _) ?_
    cbv
  all_goals
    subst hP
    subst hr
    simp [std] at *
    clear hR
    grind [fitF]
theorem sp_right (p : Part) : Spec Try.prog 91 [.agg (encPart p)] Hp.emp (Is (.int .i64 (fitF p))) :=
  spec_pure dOk ok_right [.int .i64 (fitF p)] (.int _ _) fun R hR => vc_right std rfl _ _ p.kind p.n p.text _ rfl R hR
end Go.Proofs.Ytdmpbdmgaepndaa.AM
