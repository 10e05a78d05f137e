/-
  Clients: what they are told (In), the document's, and the law ClientIns.
-/
import Derived.Test.YtcdldpjmdelebaaMCli2
import Derived.Test.YtcdldpjmdelebaaMRMeet
set_option linter.unusedVariables false
set_option linter.unusedSimpArgs false
namespace Go.Proofs.Ytcdldpjmdelebaa.AM
open Go
set_option maxRecDepth 100000
set_option maxHeartbeats 2000000
def tellC (c : Client) (m : Msg) : Client × Int :=
  if cliF c ≠ 0 then (noC, cliF c) else if checkF m.delta ≠ 0 then (noC, checkF m.delta) else if m.base ≠ c.rev then (noC, 10) else if c.rev = 2147483647 then (noC, 11)
  else if c.flying = true then
    (if m.who = c.who ∧ m.seq = c.seq then
      (if c.waiting = true then (if c.seq = 2147483647 then (noC, 11) else (⟨c.who, c.rev + 1, c.seq + 1, c.text, true, c.held, false, []⟩, 0)) else (⟨c.who, c.rev + 1, c.seq, c.text, false, c.held, false, []⟩, 0))
    else if (meetF m.delta c.sent).2.2 ≠ 0 then (noC, (meetF m.delta c.sent).2.2)
    else if c.waiting = true then
      (if (meetF (meetF m.delta c.sent).1 c.held).2.2 ≠ 0 then (noC, (meetF (meetF m.delta c.sent).1 c.held).2.2)
      else if (doF (meetF (meetF m.delta c.sent).1 c.held).1 c.text).2 ≠ 0 then (noC, (doF (meetF (meetF m.delta c.sent).1 c.held).1 c.text).2)
      else (⟨c.who, c.rev + 1, c.seq, (doF (meetF (meetF m.delta c.sent).1 c.held).1 c.text).1, c.flying, (meetF m.delta c.sent).2.1, c.waiting, (meetF (meetF m.delta c.sent).1 c.held).2.1⟩, 0))
    else if (doF (meetF m.delta c.sent).1 c.text).2 ≠ 0 then (noC, (doF (meetF m.delta c.sent).1 c.text).2)
    else (⟨c.who, c.rev + 1, c.seq, (doF (meetF m.delta c.sent).1 c.text).1, c.flying, (meetF m.delta c.sent).2.1, c.waiting, c.held⟩, 0))
  else if (doF m.delta c.text).2 ≠ 0 then (noC, (doF m.delta c.text).2) else (⟨c.who, c.rev + 1, c.seq, (doF m.delta c.text).1, c.flying, c.sent, c.waiting, c.held⟩, 0)
structure TlR (w r q c ck b mw mq e1 e2 x0 x1 x2 : Int) (s t0 t1 t2 : List UInt8) (fl wt : Bool) (sr hr s1 h2 : List (List V)) (cc : CV) (x : Int) : Prop where
  r1 : c ≠ 0 → (⟨0, 0, 0, [], false, [], false, []⟩ : CV) = cc ∧ c = x
  r2 : c = 0 → ck ≠ 0 → (⟨0, 0, 0, [], false, [], false, []⟩ : CV) = cc ∧ ck = x
  r3 : c = 0 → ck = 0 → b ≠ r → (⟨0, 0, 0, [], false, [], false, []⟩ : CV) = cc ∧ 10 = x
  r4 : c = 0 → ck = 0 → b = r → r = 2147483647 → (⟨0, 0, 0, [], false, [], false, []⟩ : CV) = cc ∧ 11 = x
  r5 : c = 0 → ck = 0 → b = r → r ≠ 2147483647 → fl = true → mw = w → mq = q → wt = true → q = 2147483647 → (⟨0, 0, 0, [], false, [], false, []⟩ : CV) = cc ∧ 11 = x
  r6 : c = 0 → ck = 0 → b = r → r ≠ 2147483647 → fl = true → mw = w → mq = q → wt = true → q ≠ 2147483647 → (⟨w, r + 1, q + 1, s, true, hr, false, []⟩ : CV) = cc ∧ 0 = x
  r7 : c = 0 → ck = 0 → b = r → r ≠ 2147483647 → fl = true → mw = w → mq = q → wt = false → (⟨w, r + 1, q, s, false, hr, false, []⟩ : CV) = cc ∧ 0 = x
  r8 : c = 0 → ck = 0 → b = r → r ≠ 2147483647 → fl = true → ¬ (mw = w ∧ mq = q) → e1 ≠ 0 → (⟨0, 0, 0, [], false, [], false, []⟩ : CV) = cc ∧ e1 = x
  r9 : c = 0 → ck = 0 → b = r → r ≠ 2147483647 → fl = true → ¬ (mw = w ∧ mq = q) → e1 = 0 → wt = true → e2 ≠ 0 → (⟨0, 0, 0, [], false, [], false, []⟩ : CV) = cc ∧ e2 = x
  r10 : c = 0 → ck = 0 → b = r → r ≠ 2147483647 → fl = true → ¬ (mw = w ∧ mq = q) → e1 = 0 → wt = true → e2 = 0 → x2 ≠ 0 → (⟨0, 0, 0, [], false, [], false, []⟩ : CV) = cc ∧ x2 = x
  r11 : c = 0 → ck = 0 → b = r → r ≠ 2147483647 → fl = true → ¬ (mw = w ∧ mq = q) → e1 = 0 → wt = true → e2 = 0 → x2 = 0 → (⟨w, r + 1, q, t2, fl, s1, wt, h2⟩ : CV) = cc ∧ 0 = x
  r12 : c = 0 → ck = 0 → b = r → r ≠ 2147483647 → fl = true → ¬ (mw = w ∧ mq = q) → e1 = 0 → wt = false → x1 ≠ 0 → (⟨0, 0, 0, [], false, [], false, []⟩ : CV) = cc ∧ x1 = x
  r13 : c = 0 → ck = 0 → b = r → r ≠ 2147483647 → fl = true → ¬ (mw = w ∧ mq = q) → e1 = 0 → wt = false → x1 = 0 → (⟨w, r + 1, q, t1, fl, s1, wt, hr⟩ : CV) = cc ∧ 0 = x
  r14 : c = 0 → ck = 0 → b = r → r ≠ 2147483647 → fl = false → x0 ≠ 0 → (⟨0, 0, 0, [], false, [], false, []⟩ : CV) = cc ∧ x0 = x
  r15 : c = 0 → ck = 0 → b = r → r ≠ 2147483647 → fl = false → x0 = 0 → (⟨w, r + 1, q, t0, fl, sr, wt, hr⟩ : CV) = cc ∧ 0 = x
theorem tellR (c : Client) (m : Msg) : TlR c.who c.rev c.seq (cliF c) (checkF m.delta) m.base m.who m.seq (meetF m.delta c.sent).2.2 (meetF (meetF m.delta c.sent).1 c.held).2.2 (doF m.delta c.text).2 (doF (meetF m.delta c.sent).1 c.text).2 (doF (meetF (meetF m.delta c.sent).1 c.held).1 c.text).2
    c.text (doF m.delta c.text).1 (doF (meetF m.delta c.sent).1 c.text).1 (doF (meetF (meetF m.delta c.sent).1 c.held).1 c.text).1 c.flying c.waiting (c.sent.map encPart) (c.held.map encPart) ((meetF m.delta c.sent).2.1.map encPart) ((meetF (meetF m.delta c.sent).1 c.held).2.1.map encPart) (cv (tellC c m).1) (tellC c m).2 := by
  constructor
  · intro a1; unfold tellC; rw [if_pos a1]; exact ⟨rfl, rfl⟩
  · intro a1 a2; unfold tellC; rw [if_neg (fun g => g a1), if_pos a2]; exact ⟨rfl, rfl⟩
  · intro a1 a2 a3; unfold tellC; rw [if_neg (fun g => g a1), if_neg (fun g => g a2), if_pos a3]; exact ⟨rfl, rfl⟩
  · intro a1 a2 a3 a4; unfold tellC; rw [if_neg (fun g => g a1), if_neg (fun g => g a2), if_neg (fun g => g a3), if_pos a4]; exact ⟨rfl, rfl⟩
  · intro a1 a2 a3 a4 a5 a6 a7 a8 a9; unfold tellC; rw [if_neg (fun g => g a1), if_neg (fun g => g a2), if_neg (fun g => g a3), if_neg a4, if_pos a5, if_pos ⟨a6, a7⟩, if_pos a8, if_pos a9]; exact ⟨rfl, rfl⟩
  · intro a1 a2 a3 a4 a5 a6 a7 a8 a9; unfold tellC; rw [if_neg (fun g => g a1), if_neg (fun g => g a2), if_neg (fun g => g a3), if_neg a4, if_pos a5, if_pos ⟨a6, a7⟩, if_pos a8, if_neg a9]; exact ⟨rfl, rfl⟩
  · intro a1 a2 a3 a4 a5 a6 a7 a8; unfold tellC; rw [if_neg (fun g => g a1), if_neg (fun g => g a2), if_neg (fun g => g a3), if_neg a4, if_pos a5, if_pos ⟨a6, a7⟩, if_neg (by rw [a8]; decide)]; exact ⟨rfl, rfl⟩
  · intro a1 a2 a3 a4 a5 a6 a7; unfold tellC; rw [if_neg (fun g => g a1), if_neg (fun g => g a2), if_neg (fun g => g a3), if_neg a4, if_pos a5, if_neg a6, if_pos a7]; exact ⟨rfl, rfl⟩
  · intro a1 a2 a3 a4 a5 a6 a7 a8 a9; unfold tellC; rw [if_neg (fun g => g a1), if_neg (fun g => g a2), if_neg (fun g => g a3), if_neg a4, if_pos a5, if_neg a6, if_neg (fun g => g a7), if_pos a8, if_pos a9]; exact ⟨rfl, rfl⟩
  · intro a1 a2 a3 a4 a5 a6 a7 a8 a9 a10; unfold tellC; rw [if_neg (fun g => g a1), if_neg (fun g => g a2), if_neg (fun g => g a3), if_neg a4, if_pos a5, if_neg a6, if_neg (fun g => g a7), if_pos a8, if_neg (fun g => g a9), if_pos a10]; exact ⟨rfl, rfl⟩
  · intro a1 a2 a3 a4 a5 a6 a7 a8 a9 a10; unfold tellC; rw [if_neg (fun g => g a1), if_neg (fun g => g a2), if_neg (fun g => g a3), if_neg a4, if_pos a5, if_neg a6, if_neg (fun g => g a7), if_pos a8, if_neg (fun g => g a9), if_neg (fun g => g a10)]; exact ⟨rfl, rfl⟩
  · intro a1 a2 a3 a4 a5 a6 a7 a8 a9; unfold tellC; rw [if_neg (fun g => g a1), if_neg (fun g => g a2), if_neg (fun g => g a3), if_neg a4, if_pos a5, if_neg a6, if_neg (fun g => g a7), if_neg (by rw [a8]; decide), if_pos a9]; exact ⟨rfl, rfl⟩
  · intro a1 a2 a3 a4 a5 a6 a7 a8 a9; unfold tellC; rw [if_neg (fun g => g a1), if_neg (fun g => g a2), if_neg (fun g => g a3), if_neg a4, if_pos a5, if_neg a6, if_neg (fun g => g a7), if_neg (by rw [a8]; decide), if_neg (fun g => g a9)]; exact ⟨rfl, rfl⟩
  · intro a1 a2 a3 a4 a5 a6; unfold tellC; rw [if_neg (fun g => g a1), if_neg (fun g => g a2), if_neg (fun g => g a3), if_neg a4, if_neg (by rw [a5]; decide), if_pos a6]; exact ⟨rfl, rfl⟩
  · intro a1 a2 a3 a4 a5 a6; unfold tellC; rw [if_neg (fun g => g a1), if_neg (fun g => g a2), if_neg (fun g => g a3), if_neg a4, if_neg (by rw [a5]; decide), if_neg (fun g => g a6)]; exact ⟨rfl, rfl⟩
/-! In -/
def ac_cin : AC := .seq (.region false [
    ⟨some 2, none, .box 24 8 (.t 0)⟩,
    ⟨some 3, none, .box 26 4 (.t 1)⟩,
    ⟨some 4, none, .alloc 24 [(.int .i64 0), (.int .i64 0), (.int .i64 0), (.string ⟨#[]⟩), (.bool false), (.slice none 0 0), (.bool false), (.slice none 0 0)]⟩,
    ⟨some 5, none, .mov (.c (.int .i64 0))⟩])
  (.seq (.seq (.region false [
    ⟨some 11, none, .loadn 8 (.t 2)⟩,
    ⟨some 12, none, .call 36 [(.t 11)]⟩,
    ⟨some 6, none, .mov (.t 12)⟩])
  (.seq (.region false [
    ⟨some 13, none, .mov (.t 6)⟩,
    ⟨some 14, none, .bin .neq (.t 13) (.c (.int .i64 0))⟩])
  (.cond (.t 14)
    (.seq (.region false [
      ⟨some 15, none, .build [(.int .i64 0), (.int .i64 0), (.int .i64 0), (.string ⟨#[]⟩), (.bool false), (.slice none 0 0), (.bool false), (.slice none 0 0)] []⟩,
      ⟨some 16, none, .mov (.t 6)⟩,
      ⟨none, none, .store 8 (.t 4) (.t 15)⟩,
      ⟨some 5, none, .mov (.t 16)⟩])
    (.ret))
    (.skip))))
  (.seq (.seq (.region false [
    ⟨some 17, none, .faddr 3 (.t 3)⟩,
    ⟨some 18, none, .load1 (.t 17)⟩,
    ⟨some 19, none, .call 37 [(.t 18)]⟩,
    ⟨some 7, none, .mov (.t 19)⟩])
  (.seq (.region false [
    ⟨some 20, none, .mov (.t 7)⟩,
    ⟨some 21, none, .bin .neq (.t 20) (.c (.int .i64 0))⟩])
  (.cond (.t 21)
    (.seq (.region false [
      ⟨some 22, none, .build [(.int .i64 0), (.int .i64 0), (.int .i64 0), (.string ⟨#[]⟩), (.bool false), (.slice none 0 0), (.bool false), (.slice none 0 0)] []⟩,
      ⟨some 23, none, .mov (.t 7)⟩,
      ⟨none, none, .store 8 (.t 4) (.t 22)⟩,
      ⟨some 5, none, .mov (.t 23)⟩])
    (.ret))
    (.skip))))
  (.seq (.seq (.region false [
    ⟨some 24, none, .faddr 0 (.t 3)⟩,
    ⟨some 25, none, .load1 (.t 24)⟩,
    ⟨some 26, none, .faddr 1 (.t 2)⟩,
    ⟨some 27, none, .load1 (.t 26)⟩,
    ⟨some 28, none, .bin .neq (.t 25) (.t 27)⟩])
  (.cond (.t 28)
    (.seq (.region false [
      ⟨some 29, none, .build [(.int .i64 0), (.int .i64 0), (.int .i64 0), (.string ⟨#[]⟩), (.bool false), (.slice none 0 0), (.bool false), (.slice none 0 0)] []⟩,
      ⟨none, none, .store 8 (.t 4) (.t 29)⟩,
      ⟨some 5, none, .mov (.c (.int .i64 10))⟩])
    (.ret))
    (.skip)))
  (.seq (.seq (.region false [
    ⟨some 30, none, .faddr 1 (.t 2)⟩,
    ⟨some 31, none, .load1 (.t 30)⟩,
    ⟨some 32, none, .bin .eql (.t 31) (.c (.int .i64 2147483647))⟩])
  (.cond (.t 32)
    (.seq (.region false [
      ⟨some 33, none, .build [(.int .i64 0), (.int .i64 0), (.int .i64 0), (.string ⟨#[]⟩), (.bool false), (.slice none 0 0), (.bool false), (.slice none 0 0)] []⟩,
      ⟨none, none, .store 8 (.t 4) (.t 33)⟩,
      ⟨some 5, none, .mov (.c (.int .i64 11))⟩])
    (.ret))
    (.skip)))
  (.seq (.region false [
    ⟨some 34, none, .loadn 8 (.t 2)⟩,
    ⟨some 35, none, .call 38 [(.t 34)]⟩,
    ⟨some 8, none, .alloc 24 [(.int .i64 0), (.int .i64 0), (.int .i64 0), (.string ⟨#[]⟩), (.bool false), (.slice none 0 0), (.bool false), (.slice none 0 0)]⟩,
    ⟨none, none, .store 8 (.t 8) (.t 35)⟩])
  (.seq (.region false [
    ⟨some 36, none, .faddr 1 (.t 8)⟩,
    ⟨some 37, none, .load1 (.t 36)⟩,
    ⟨some 38, none, .bin .add (.t 37) (.c (.int .i64 1))⟩,
    ⟨some 39, none, .faddr 1 (.t 8)⟩,
    ⟨none, none, .store 1 (.t 39) (.t 38)⟩])
  (.seq (.seq (.region false [
    ⟨some 40, none, .faddr 4 (.t 2)⟩,
    ⟨some 41, none, .load1 (.t 40)⟩,
    ⟨some 42, none, .mov (.t 41)⟩,
    ⟨some 43, some (42, true), .faddr 1 (.t 3)⟩,
    ⟨some 44, some (42, true), .load1 (.t 43)⟩,
    ⟨some 45, some (42, true), .faddr 0 (.t 2)⟩,
    ⟨some 46, some (42, true), .load1 (.t 45)⟩,
    ⟨some 47, some (42, true), .bin .eql (.t 44) (.t 46)⟩,
    ⟨some 48, none, .pick (.t 42) (.t 47) (.c (.bool false))⟩,
    ⟨some 49, none, .mov (.t 48)⟩,
    ⟨some 50, some (49, true), .faddr 2 (.t 3)⟩,
    ⟨some 51, some (49, true), .load1 (.t 50)⟩,
    ⟨some 52, some (49, true), .faddr 2 (.t 2)⟩,
    ⟨some 53, some (49, true), .load1 (.t 52)⟩,
    ⟨some 54, some (49, true), .bin .eql (.t 51) (.t 53)⟩,
    ⟨some 55, none, .pick (.t 49) (.t 54) (.c (.bool false))⟩])
  (.cond (.t 55)
    (.seq (.seq (.region false [
      ⟨some 56, none, .faddr 6 (.t 2)⟩,
      ⟨some 57, none, .load1 (.t 56)⟩,
      ⟨some 58, none, .mov (.t 57)⟩,
      ⟨some 59, some (58, true), .faddr 2 (.t 2)⟩,
      ⟨some 60, some (58, true), .load1 (.t 59)⟩,
      ⟨some 61, some (58, true), .bin .eql (.t 60) (.c (.int .i64 2147483647))⟩,
      ⟨some 62, none, .pick (.t 58) (.t 61) (.c (.bool false))⟩])
    (.cond (.t 62)
      (.seq (.region false [
        ⟨some 63, none, .build [(.int .i64 0), (.int .i64 0), (.int .i64 0), (.string ⟨#[]⟩), (.bool false), (.slice none 0 0), (.bool false), (.slice none 0 0)] []⟩,
        ⟨none, none, .store 8 (.t 4) (.t 63)⟩,
        ⟨some 5, none, .mov (.c (.int .i64 11))⟩])
      (.ret))
      (.skip)))
    (.seq (.region false [
      ⟨some 64, none, .faddr 6 (.t 2)⟩,
      ⟨some 65, none, .load1 (.t 64)⟩,
      ⟨some 66, none, .faddr 7 (.t 8)⟩,
      ⟨some 67, none, .load1 (.t 66)⟩,
      ⟨some 68, none, .faddr 4 (.t 8)⟩,
      ⟨none, none, .store 1 (.t 68) (.t 65)⟩,
      ⟨some 69, none, .faddr 5 (.t 8)⟩,
      ⟨none, none, .store 1 (.t 69) (.t 67)⟩])
    (.seq (.region false [
      ⟨some 70, none, .faddr 6 (.t 8)⟩,
      ⟨none, none, .store 1 (.t 70) (.c (.bool false))⟩,
      ⟨some 71, none, .faddr 7 (.t 8)⟩,
      ⟨none, none, .store 1 (.t 71) (.c (.slice none 0 0))⟩])
    (.seq (.seq (.region false [
      ⟨some 72, none, .faddr 6 (.t 2)⟩,
      ⟨some 73, none, .load1 (.t 72)⟩])
    (.cond (.t 73)
      (.region false [
        ⟨some 74, none, .faddr 2 (.t 8)⟩,
        ⟨some 75, none, .load1 (.t 74)⟩,
        ⟨some 76, none, .bin .add (.t 75) (.c (.int .i64 1))⟩,
        ⟨some 77, none, .faddr 2 (.t 8)⟩,
        ⟨none, none, .store 1 (.t 77) (.t 76)⟩])
      (.skip)))
    (.seq (.region false [
      ⟨some 78, none, .loadn 8 (.t 8)⟩,
      ⟨none, none, .store 8 (.t 4) (.t 78)⟩,
      ⟨some 5, none, .mov (.c (.int .i64 0))⟩])
    (.ret))))))
    (.skip)))
  (.seq (.region false [
    ⟨some 79, none, .faddr 3 (.t 3)⟩,
    ⟨some 80, none, .load1 (.t 79)⟩,
    ⟨some 9, none, .mov (.t 80)⟩])
  (.seq (.region false [
    ⟨some 10, none, .mov (.c (.int .i64 0))⟩])
  (.seq (.seq (.region false [
    ⟨some 81, none, .faddr 4 (.t 2)⟩,
    ⟨some 82, none, .load1 (.t 81)⟩])
  (.cond (.t 82)
    (.seq (.region false [
      ⟨some 84, none, .mov (.t 9)⟩,
      ⟨some 85, none, .faddr 5 (.t 2)⟩,
      ⟨some 86, none, .load1 (.t 85)⟩,
      ⟨some 87, none, .call 39 [(.t 84), (.t 86)]⟩,
      ⟨some 83, none, .mov (.t 87)⟩,
      ⟨some 88, none, .ext 0 (.t 83)⟩,
      ⟨some 89, none, .ext 1 (.t 83)⟩,
      ⟨some 90, none, .ext 2 (.t 83)⟩,
      ⟨some 9, none, .mov (.t 88)⟩,
      ⟨some 91, none, .faddr 5 (.t 8)⟩,
      ⟨none, none, .store 1 (.t 91) (.t 89)⟩,
      ⟨some 10, none, .mov (.t 90)⟩])
    (.seq (.region false [
      ⟨some 92, none, .mov (.t 10)⟩,
      ⟨some 93, none, .bin .neq (.t 92) (.c (.int .i64 0))⟩])
    (.cond (.t 93)
      (.seq (.region false [
        ⟨some 94, none, .build [(.int .i64 0), (.int .i64 0), (.int .i64 0), (.string ⟨#[]⟩), (.bool false), (.slice none 0 0), (.bool false), (.slice none 0 0)] []⟩,
        ⟨some 95, none, .mov (.t 10)⟩,
        ⟨none, none, .store 8 (.t 4) (.t 94)⟩,
        ⟨some 5, none, .mov (.t 95)⟩])
      (.ret))
      (.skip))))
    (.skip)))
  (.seq (.seq (.region false [
    ⟨some 96, none, .faddr 6 (.t 2)⟩,
    ⟨some 97, none, .load1 (.t 96)⟩])
  (.cond (.t 97)
    (.seq (.region false [
      ⟨some 99, none, .mov (.t 9)⟩,
      ⟨some 100, none, .faddr 7 (.t 2)⟩,
      ⟨some 101, none, .load1 (.t 100)⟩,
      ⟨some 102, none, .call 39 [(.t 99), (.t 101)]⟩,
      ⟨some 98, none, .mov (.t 102)⟩,
      ⟨some 103, none, .ext 0 (.t 98)⟩,
      ⟨some 104, none, .ext 1 (.t 98)⟩,
      ⟨some 105, none, .ext 2 (.t 98)⟩,
      ⟨some 9, none, .mov (.t 103)⟩,
      ⟨some 106, none, .faddr 7 (.t 8)⟩,
      ⟨none, none, .store 1 (.t 106) (.t 104)⟩,
      ⟨some 10, none, .mov (.t 105)⟩])
    (.seq (.region false [
      ⟨some 107, none, .mov (.t 10)⟩,
      ⟨some 108, none, .bin .neq (.t 107) (.c (.int .i64 0))⟩])
    (.cond (.t 108)
      (.seq (.region false [
        ⟨some 109, none, .build [(.int .i64 0), (.int .i64 0), (.int .i64 0), (.string ⟨#[]⟩), (.bool false), (.slice none 0 0), (.bool false), (.slice none 0 0)] []⟩,
        ⟨some 110, none, .mov (.t 10)⟩,
        ⟨none, none, .store 8 (.t 4) (.t 109)⟩,
        ⟨some 5, none, .mov (.t 110)⟩])
      (.ret))
      (.skip))))
    (.skip)))
  (.seq (.seq (.region false [
    ⟨some 112, none, .mov (.t 9)⟩,
    ⟨some 113, none, .faddr 3 (.t 2)⟩,
    ⟨some 114, none, .load1 (.t 113)⟩,
    ⟨some 115, none, .call 40 [(.t 112), (.t 114)]⟩,
    ⟨some 111, none, .mov (.t 115)⟩,
    ⟨some 116, none, .ext 0 (.t 111)⟩,
    ⟨some 117, none, .ext 1 (.t 111)⟩,
    ⟨some 118, none, .faddr 3 (.t 8)⟩,
    ⟨none, none, .store 1 (.t 118) (.t 116)⟩,
    ⟨some 10, none, .mov (.t 117)⟩])
  (.seq (.region false [
    ⟨some 119, none, .mov (.t 10)⟩,
    ⟨some 120, none, .bin .neq (.t 119) (.c (.int .i64 0))⟩])
  (.cond (.t 120)
    (.seq (.region false [
      ⟨some 121, none, .build [(.int .i64 0), (.int .i64 0), (.int .i64 0), (.string ⟨#[]⟩), (.bool false), (.slice none 0 0), (.bool false), (.slice none 0 0)] []⟩,
      ⟨some 122, none, .mov (.t 10)⟩,
      ⟨none, none, .store 8 (.t 4) (.t 121)⟩,
      ⟨some 5, none, .mov (.t 122)⟩])
    (.ret))
    (.skip))))
  (.seq (.region false [
    ⟨some 123, none, .loadn 8 (.t 8)⟩,
    ⟨none, none, .store 8 (.t 4) (.t 123)⟩,
    ⟨some 5, none, .mov (.c (.int .i64 0))⟩])
  (.ret))))))))))))))
theorem ok_cin : FnOk Try.prog 11 Try.f11 ac_cin [.cn 4 8, .t 5] 2 drawD := ⟨Try.func11, by decide +kernel, by kernel_rfl, by kernel_rfl, by decide +kernel⟩
theorem vc_cin (P : Prim) (hP : P = std) (T T1 : CallT) (w r q c ck b mw mq e1 e2 x0 x1 x2 : Int) (s t0 t1 t2 : List UInt8) (fl wt : Bool) (sr hr mr d1 s1 d2 h2 : List (List V)) (hq : c = 0 → 0 ≤ q ∧ q ≤ 2147483647 ∧ 0 ≤ r ∧ r ≤ 2147483647) (hwf : c = 0 → wt = true → fl = true)
    (i1 : Ans T 36 [.agg [.int .i64 w, .int .i64 r, .int .i64 q, .str s, .bool fl, .sl false 3 sr, .bool wt, .sl false 3 hr]] (.int .i64 c))
    (i2 : Ans T 37 [.sl false 3 mr] (.int .i64 ck))
    (i3 : c = 0 → Ans T 38 [.agg [.int .i64 w, .int .i64 r, .int .i64 q, .str s, .bool fl, .sl false 3 sr, .bool wt, .sl false 3 hr]] (.agg [.int .i64 w, .int .i64 r, .int .i64 q, .str s, .bool fl, .sl false 3 sr, .bool wt, .sl false 3 hr]))
    (i4 : Ans T 39 [.sl false 3 mr, .sl false 3 sr] (.tup [.sl false 3 d1, .sl false 3 s1, .int .i64 e1]))
    (i5 : Ans T 39 [.sl false 3 d1, .sl false 3 hr] (.tup [.sl false 3 d2, .sl false 3 h2, .int .i64 e2]))
    (i6 : Ans T 40 [.sl false 3 mr, .str s] (.tup [.str t0, .int .i64 x0]))
    (i7 : Ans T 40 [.sl false 3 d1, .str s] (.tup [.str t1, .int .i64 x1]))
    (i8 : Ans T 40 [.sl false 3 d2, .str s] (.tup [.str t2, .int .i64 x2]))
    (cc : CV) (x : Int) (hx : TlR w r q c ck b mw mq e1 e2 x0 x1 x2 s t0 t1 t2 fl wt sr hr s1 h2 cc x)
    (R : S → Prop) (hR : ∀ x2, x2 = x → RetCli [.cn 4 8, .t 5] [.int .i64 x2] cc R) : awp P T T1 ac_cin (S0 [.agg [.int .i64 w, .int .i64 r, .int .i64 q, .str s, .bool fl, .sl false 3 sr, .bool wt, .sl false 3 hr], .agg [.int .i64 b, .int .i64 mw, .int .i64 mq, .sl false 3 mr]] Hp.emp) R (fun _ _ => False) R := by
  obtain ⟨r1, r2, r3, r4, r5, r6, r7, r8, r9, r10, r11, r12, r13, r14, r15⟩ := hx
  cbv
  intro β1
  cbv
  intro β2
  cbv
  intro β3
  cbv
  refine i1 _ _ ?_
  clear i1
  cbv
  refine br_cases (fun h => ?_) (fun h => ?_)
  · obtain ⟨g1, g2⟩ := r1 (ne_t hP h)
    cbv
    exact hR _ g2 _ _ _ _ _ _ _ _ _ _ _ _ (Ent.refl _) ⟨rfl, rfl, Nat.zero_lt_succ 0, Nat.le_refl 8, rfl⟩ (.inr (.inl ⟨rfl, rfl⟩)) (.inr (.inl ⟨rfl, rfl⟩)) g1
  have hc := ne_f hP h
  have f3 := i3 hc
  have hqq := hq hc
  have hwff := hwf hc
  clear i3 r1 hq hwf h
  cbv
  refine i2 _ _ ?_
  clear i2
  cbv
  refine br_cases (fun h => ?_) (fun h => ?_)
  · obtain ⟨g1, g2⟩ := r2 hc (ne_t hP h)
    cbv
    exact hR _ g2 _ _ _ _ _ _ _ _ _ _ _ _ (Ent.refl _) ⟨rfl, rfl, Nat.zero_lt_succ 0, Nat.le_refl 8, rfl⟩ (.inr (.inl ⟨rfl, rfl⟩)) (.inr (.inl ⟨rfl, rfl⟩)) g1
  have hk := ne_f hP h
  clear r2 h
  cbv
  refine br_cases (fun h => ?_) (fun h => ?_)
  · obtain ⟨g1, g2⟩ := r3 hc hk (ne_t hP h)
    cbv
    exact hR _ g2 _ _ _ _ _ _ _ _ _ _ _ _ (Ent.refl _) ⟨rfl, rfl, Nat.zero_lt_succ 0, Nat.le_refl 8, rfl⟩ (.inr (.inl ⟨rfl, rfl⟩)) (.inr (.inl ⟨rfl, rfl⟩)) g1
  have hb := ne_f hP h
  clear r3 h
  cbv
  refine br_cases (fun h => ?_) (fun h => ?_)
  · obtain ⟨g1, g2⟩ := r4 hc hk hb (eq_t hP h)
    cbv
    exact hR _ g2 _ _ _ _ _ _ _ _ _ _ _ _ (Ent.refl _) ⟨rfl, rfl, Nat.zero_lt_succ 0, Nat.le_refl 8, rfl⟩ (.inr (.inl ⟨rfl, rfl⟩)) (.inr (.inl ⟨rfl, rfl⟩)) g1
  have hr1 := eq_f hP h
  clear r4 h
  replace r5 := r5 hc hk hb hr1
  replace r6 := r6 hc hk hb hr1
  replace r7 := r7 hc hk hb hr1
  replace r8 := r8 hc hk hb hr1
  replace r9 := r9 hc hk hb hr1
  replace r10 := r10 hc hk hb hr1
  replace r11 := r11 hc hk hb hr1
  replace r12 := r12 hc hk hb hr1
  replace r13 := r13 hc hk hb hr1
  replace r14 := r14 hc hk hb hr1
  replace r15 := r15 hc hk hb hr1
  have o2 : P.i64 (P.add r 1) := by rw [add_eq hP]; exact i64I hP (by omega)
  cbv
  refine f3 _ _ ?_
  clear f3
  cbv
  intro β4
  cbv
  refine ⟨o2, ?_⟩
  cbv
  refine br_cases (fun hf => ?_) (fun hf => ?_)
  · replace r5 := r5 hf
    replace r6 := r6 hf
    replace r7 := r7 hf
    replace r8 := r8 hf
    replace r9 := r9 hf
    replace r10 := r10 hf
    replace r11 := r11 hf
    replace r12 := r12 hf
    replace r13 := r13 hf
    clear r14 r15
    cbv
    refine br_cases (fun h => ?_) (fun h => ?_)
    · have m1 := eq_t hP h
      clear h
      cbv
      refine br_cases (fun h => ?_) (fun h => ?_)
      · have m2 := eq_t hP h
        clear h r8 r9 r10 r11 r12 r13 i4 i5 i6 i7 i8
        cbv
        refine br_cases (fun hw => ?_) (fun hw => ?_)
        · cbv
          refine br_cases (fun h => ?_) (fun h => ?_)
          · obtain ⟨g1, g2⟩ := r5 m1 m2 hw (eq_t hP h)
            cbv
            exact hR _ g2 _ _ _ _ _ _ _ _ _ _ _ _ (Ent.refl _) ⟨rfl, rfl, Nat.zero_lt_succ 0, Nat.le_refl 8, rfl⟩ (.inr (.inl ⟨rfl, rfl⟩)) (.inr (.inl ⟨rfl, rfl⟩)) (g1)
          have h5 := eq_f hP h
          obtain ⟨g1, g2⟩ := r6 m1 m2 hw h5
          have o3 : P.i64 (P.add q 1) := by rw [add_eq hP]; exact i64I hP (by omega)
          cbv
          refine br_tt hw ?_
          cbv
          refine ⟨o3, ?_⟩
          cbv
          exact hR _ g2 _ _ _ _ _ _ _ _ _ _ _ _ (Ent.refl _) ⟨rfl, rfl, Nat.zero_lt_succ 0, Nat.le_refl 8, rfl⟩ (.inl rfl) (.inr (.inl ⟨rfl, rfl⟩)) (by rw [← g1, hw]; subst hP; rfl)
        · obtain ⟨g1, g2⟩ := r7 m1 m2 hw
          cbv
          refine br_ff hw ?_
          cbv
          exact hR _ g2 _ _ _ _ _ _ _ _ _ _ _ _ (Ent.refl _) ⟨rfl, rfl, Nat.zero_lt_succ 0, Nat.le_refl 8, rfl⟩ (.inl rfl) (.inr (.inl ⟨rfl, rfl⟩)) (by rw [← g1, hw]; subst hP; rfl)
      · have hno : ¬ (mw = w ∧ mq = q) := fun g => eq_f hP h g.2
        clear h r5 r6 r7
        cbv
        refine br_tt hf ?_
        cbv
        refine i4 _ _ ?_
        clear i4
        cbv
        refine br_cases (fun h => ?_) (fun h => ?_)
        · obtain ⟨g1, g2⟩ := r8 hno (ne_t hP h)
          cbv
          exact hR _ g2 _ _ _ _ _ _ _ _ _ _ _ _ (Ent.refl _) ⟨rfl, rfl, Nat.zero_lt_succ 0, Nat.le_refl 8, rfl⟩ (.inr (.inl ⟨rfl, rfl⟩)) (.inr (.inl ⟨rfl, rfl⟩)) (g1)
        have h1 := ne_f hP h
        clear h
        cbv
        refine br_cases (fun hw => ?_) (fun hw => ?_)
        · cbv
          refine i5 _ _ ?_
          clear i5
          cbv
          refine br_cases (fun h => ?_) (fun h => ?_)
          · obtain ⟨g1, g2⟩ := r9 hno h1 hw (ne_t hP h)
            cbv
            exact hR _ g2 _ _ _ _ _ _ _ _ _ _ _ _ (Ent.refl _) ⟨rfl, rfl, Nat.zero_lt_succ 0, Nat.le_refl 8, rfl⟩ (.inr (.inl ⟨rfl, rfl⟩)) (.inr (.inl ⟨rfl, rfl⟩)) (g1)
          have h2 := ne_f hP h
          clear h
          cbv
          refine i8 _ _ ?_
          cbv
          refine br_cases (fun h => ?_) (fun h => ?_)
          · obtain ⟨g1, g2⟩ := r10 hno h1 hw h2 (ne_t hP h)
            cbv
            exact hR _ g2 _ _ _ _ _ _ _ _ _ _ _ _ (Ent.refl _) ⟨rfl, rfl, Nat.zero_lt_succ 0, Nat.le_refl 8, rfl⟩ (.inr (.inl ⟨rfl, rfl⟩)) (.inr (.inl ⟨rfl, rfl⟩)) (g1)
          obtain ⟨g1, g2⟩ := r11 hno h1 hw h2 (ne_f hP h)
          cbv
          exact hR _ g2 _ _ _ _ _ _ _ _ _ _ _ _ (Ent.refl _) ⟨rfl, rfl, Nat.zero_lt_succ 0, Nat.le_refl 8, rfl⟩ (.inl rfl) (.inl rfl) (by rw [← g1]; subst hP; rfl)
        · cbv
          refine i7 _ _ ?_
          cbv
          refine br_cases (fun h => ?_) (fun h => ?_)
          · obtain ⟨g1, g2⟩ := r12 hno h1 hw (ne_t hP h)
            cbv
            exact hR _ g2 _ _ _ _ _ _ _ _ _ _ _ _ (Ent.refl _) ⟨rfl, rfl, Nat.zero_lt_succ 0, Nat.le_refl 8, rfl⟩ (.inr (.inl ⟨rfl, rfl⟩)) (.inr (.inl ⟨rfl, rfl⟩)) (g1)
          obtain ⟨g1, g2⟩ := r13 hno h1 hw (ne_f hP h)
          cbv
          exact hR _ g2 _ _ _ _ _ _ _ _ _ _ _ _ (Ent.refl _) ⟨rfl, rfl, Nat.zero_lt_succ 0, Nat.le_refl 8, rfl⟩ (.inl rfl) (.inl rfl) (by rw [← g1]; subst hP; rfl)
    · have hno : ¬ (mw = w ∧ mq = q) := fun g => eq_f hP h g.1
      clear h r5 r6 r7
      cbv
      refine br_tt hf ?_
      cbv
      refine i4 _ _ ?_
      clear i4
      cbv
      refine br_cases (fun h => ?_) (fun h => ?_)
      · obtain ⟨g1, g2⟩ := r8 hno (ne_t hP h)
        cbv
        exact hR _ g2 _ _ _ _ _ _ _ _ _ _ _ _ (Ent.refl _) ⟨rfl, rfl, Nat.zero_lt_succ 0, Nat.le_refl 8, rfl⟩ (.inr (.inl ⟨rfl, rfl⟩)) (.inr (.inl ⟨rfl, rfl⟩)) (g1)
      have h1 := ne_f hP h
      clear h
      cbv
      refine br_cases (fun hw => ?_) (fun hw => ?_)
      · cbv
        refine i5 _ _ ?_
        clear i5
        cbv
        refine br_cases (fun h => ?_) (fun h => ?_)
        · obtain ⟨g1, g2⟩ := r9 hno h1 hw (ne_t hP h)
          cbv
          exact hR _ g2 _ _ _ _ _ _ _ _ _ _ _ _ (Ent.refl _) ⟨rfl, rfl, Nat.zero_lt_succ 0, Nat.le_refl 8, rfl⟩ (.inr (.inl ⟨rfl, rfl⟩)) (.inr (.inl ⟨rfl, rfl⟩)) (g1)
        have h2 := ne_f hP h
        clear h
        cbv
        refine i8 _ _ ?_
        cbv
        refine br_cases (fun h => ?_) (fun h => ?_)
        · obtain ⟨g1, g2⟩ := r10 hno h1 hw h2 (ne_t hP h)
          cbv
          exact hR _ g2 _ _ _ _ _ _ _ _ _ _ _ _ (Ent.refl _) ⟨rfl, rfl, Nat.zero_lt_succ 0, Nat.le_refl 8, rfl⟩ (.inr (.inl ⟨rfl, rfl⟩)) (.inr (.inl ⟨rfl, rfl⟩)) (g1)
        obtain ⟨g1, g2⟩ := r11 hno h1 hw h2 (ne_f hP h)
        cbv
        exact hR _ g2 _ _ _ _ _ _ _ _ _ _ _ _ (Ent.refl _) ⟨rfl, rfl, Nat.zero_lt_succ 0, Nat.le_refl 8, rfl⟩ (.inl rfl) (.inl rfl) (by rw [← g1]; subst hP; rfl)
      · cbv
        refine i7 _ _ ?_
        cbv
        refine br_cases (fun h => ?_) (fun h => ?_)
        · obtain ⟨g1, g2⟩ := r12 hno h1 hw (ne_t hP h)
          cbv
          exact hR _ g2 _ _ _ _ _ _ _ _ _ _ _ _ (Ent.refl _) ⟨rfl, rfl, Nat.zero_lt_succ 0, Nat.le_refl 8, rfl⟩ (.inr (.inl ⟨rfl, rfl⟩)) (.inr (.inl ⟨rfl, rfl⟩)) (g1)
        obtain ⟨g1, g2⟩ := r13 hno h1 hw (ne_f hP h)
        cbv
        exact hR _ g2 _ _ _ _ _ _ _ _ _ _ _ _ (Ent.refl _) ⟨rfl, rfl, Nat.zero_lt_succ 0, Nat.le_refl 8, rfl⟩ (.inl rfl) (.inl rfl) (by rw [← g1]; subst hP; rfl)
  · replace r14 := r14 hf
    replace r15 := r15 hf
    clear r5 r6 r7 r8 r9 r10 r11 r12 r13
    have hw : wt = false := by
      cases wt with
      | false => rfl
      | true => rw [hwff rfl] at hf; cases hf
    cbv
    refine br_ff hf ?_
    cbv
    refine br_ff hw ?_
    cbv
    refine i6 _ _ ?_
    cbv
    refine br_cases (fun h => ?_) (fun h => ?_)
    · obtain ⟨g1, g2⟩ := r14 (ne_t hP h)
      cbv
      exact hR _ g2 _ _ _ _ _ _ _ _ _ _ _ _ (Ent.refl _) ⟨rfl, rfl, Nat.zero_lt_succ 0, Nat.le_refl 8, rfl⟩ (.inr (.inl ⟨rfl, rfl⟩)) (.inr (.inl ⟨rfl, rfl⟩)) g1
    obtain ⟨g1, g2⟩ := r15 (ne_f hP h)
    cbv
    exact hR _ g2 _ _ _ _ _ _ _ _ _ _ _ _ (Ent.refl _) ⟨rfl, rfl, Nat.zero_lt_succ 0, Nat.le_refl 8, rfl⟩ (.inl rfl) (.inl rfl) (by rw [← g1]; subst hP; rfl)
theorem meet_le1 (a b : List Part) : (meetF a b).1.length ≤ maxLen := by
  have := (meetF_len a b).1
  have h : maxLen = 9223372036854775807 := by decide
  omega
theorem cli_wf {c : Client} (h : cliF c = 0) (hw : c.waiting = true) : c.flying = true := by
  obtain ⟨_, _, h3, _⟩ := cliG_ok h
  unfold cbad3 at h3
  cases hf : c.flying with
  | true => rfl
  | false => exact absurd (.inr (.inr ⟨hw, hf⟩)) h3
theorem sp_cin (c : Client) (m : Msg) (hs : c.sent.length ≤ maxLen) (hh : c.held.length ≤ maxLen) (hd : m.delta.length ≤ maxLen) : Spec Try.prog 11 [.agg (encClient c), .agg (encMsg m)] Hp.emp (Is (.tup [.agg (encClient (tellC c m).1), .int .i64 (tellC c m).2])) :=
  spec_frz dOk ok_cin fun R hR => vc_cin std rfl _ _ c.who c.rev c.seq (cliF c) (checkF m.delta) m.base m.who m.seq (meetF m.delta c.sent).2.2 (meetF (meetF m.delta c.sent).1 c.held).2.2 (doF m.delta c.text).2 (doF (meetF m.delta c.sent).1 c.text).2 (doF (meetF (meetF m.delta c.sent).1 c.held).1 c.text).2
    c.text (doF m.delta c.text).1 (doF (meetF m.delta c.sent).1 c.text).1 (doF (meetF (meetF m.delta c.sent).1 c.held).1 c.text).1 c.flying c.waiting (c.sent.map encPart) (c.held.map encPart) (m.delta.map encPart) ((meetF m.delta c.sent).1.map encPart) ((meetF m.delta c.sent).2.1.map encPart) ((meetF (meetF m.delta c.sent).1 c.held).1.map encPart) ((meetF (meetF m.delta c.sent).1 c.held).2.1.map encPart)
    cli_num cli_wf
    (ansW (sp_ccheck c hs hh) (fun h => .cons (.same _) .nil) rfl) (ansW (sp_check m.delta hd) (fun h => .cons (.weak _ _) .nil) rfl)
    (fun h => ansW (sp_copied c (cli_sent h) (cli_held h)) (fun h => .cons (.same _) .nil) rfl)
    (ansW (sp_meet m.delta c.sent hd hs) (fun h => .cons (.same _) (.cons (.same _) .nil)) rfl)
    (ansW (sp_meet (meetF m.delta c.sent).1 c.held (meet_le1 _ _) hh) (fun h => .cons (.same _) (.cons (.same _) .nil)) rfl)
    (ansW (sp_do m.delta hd c.text) (fun h => .cons (.weak _ _) (.cons (.same _) .nil)) rfl)
    (ansW (sp_do (meetF m.delta c.sent).1 (meet_le1 _ _) c.text) (fun h => .cons (.weak _ _) (.cons (.same _) .nil)) rfl)
    (ansW (sp_do (meetF (meetF m.delta c.sent).1 c.held).1 (meet_le1 _ _) c.text) (fun h => .cons (.weak _ _) (.cons (.same _) .nil)) rfl)
    _ _ (tellR c m) R fun x2 hx => by subst hx; exact retCli_of hR
/-! TellClient -/
def ac_rtell : AC := .seq (.region false [
    ⟨some 2, none, .box 24 8 (.t 0)⟩,
    ⟨some 3, none, .box 26 4 (.t 1)⟩,
    ⟨some 4, none, .alloc 24 [(.int .i64 0), (.int .i64 0), (.int .i64 0), (.string ⟨#[]⟩), (.bool false), (.slice none 0 0), (.bool false), (.slice none 0 0)]⟩,
    ⟨some 5, none, .mov (.c (.int .i64 0))⟩])
  (.seq (.seq (.region false [
    ⟨some 10, none, .loadn 8 (.t 2)⟩,
    ⟨some 11, none, .call 41 [(.t 10)]⟩,
    ⟨some 6, none, .mov (.t 11)⟩])
  (.seq (.region false [
    ⟨some 12, none, .mov (.t 6)⟩,
    ⟨some 13, none, .bin .neq (.t 12) (.c (.int .i64 0))⟩])
  (.cond (.t 13)
    (.seq (.region false [
      ⟨some 14, none, .build [(.int .i64 0), (.int .i64 0), (.int .i64 0), (.string ⟨#[]⟩), (.bool false), (.slice none 0 0), (.bool false), (.slice none 0 0)] []⟩,
      ⟨some 15, none, .mov (.t 6)⟩,
      ⟨none, none, .store 8 (.t 4) (.t 14)⟩,
      ⟨some 5, none, .mov (.t 15)⟩])
    (.ret))
    (.skip))))
  (.seq (.seq (.region false [
    ⟨some 16, none, .faddr 3 (.t 3)⟩,
    ⟨some 17, none, .load1 (.t 16)⟩,
    ⟨some 18, none, .call 19 [(.t 17)]⟩,
    ⟨some 7, none, .mov (.t 18)⟩])
  (.seq (.region false [
    ⟨some 19, none, .mov (.t 7)⟩,
    ⟨some 20, none, .bin .neq (.t 19) (.c (.int .i64 0))⟩])
  (.cond (.t 20)
    (.seq (.region false [
      ⟨some 21, none, .build [(.int .i64 0), (.int .i64 0), (.int .i64 0), (.string ⟨#[]⟩), (.bool false), (.slice none 0 0), (.bool false), (.slice none 0 0)] []⟩,
      ⟨some 22, none, .mov (.t 7)⟩,
      ⟨none, none, .store 8 (.t 4) (.t 21)⟩,
      ⟨some 5, none, .mov (.t 22)⟩])
    (.ret))
    (.skip))))
  (.seq (.seq (.region false [
    ⟨some 23, none, .faddr 0 (.t 3)⟩,
    ⟨some 24, none, .load1 (.t 23)⟩,
    ⟨some 25, none, .faddr 1 (.t 2)⟩,
    ⟨some 26, none, .load1 (.t 25)⟩,
    ⟨some 27, none, .bin .neq (.t 24) (.t 26)⟩])
  (.cond (.t 27)
    (.seq (.region false [
      ⟨some 28, none, .build [(.int .i64 0), (.int .i64 0), (.int .i64 0), (.string ⟨#[]⟩), (.bool false), (.slice none 0 0), (.bool false), (.slice none 0 0)] []⟩,
      ⟨none, none, .store 8 (.t 4) (.t 28)⟩,
      ⟨some 5, none, .mov (.c (.int .i64 10))⟩])
    (.ret))
    (.skip)))
  (.seq (.seq (.region false [
    ⟨some 29, none, .faddr 1 (.t 2)⟩,
    ⟨some 30, none, .load1 (.t 29)⟩,
    ⟨some 31, none, .bin .gtr (.t 30) (.c (.int .i64 2147483646))⟩])
  (.cond (.t 31)
    (.seq (.region false [
      ⟨some 32, none, .build [(.int .i64 0), (.int .i64 0), (.int .i64 0), (.string ⟨#[]⟩), (.bool false), (.slice none 0 0), (.bool false), (.slice none 0 0)] []⟩,
      ⟨none, none, .store 8 (.t 4) (.t 32)⟩,
      ⟨some 5, none, .mov (.c (.int .i64 11))⟩])
    (.ret))
    (.skip)))
  (.seq (.region false [
    ⟨some 33, none, .faddr 1 (.t 2)⟩,
    ⟨some 34, none, .load1 (.t 33)⟩,
    ⟨some 35, none, .bin .add (.t 34) (.c (.int .i64 1))⟩,
    ⟨some 36, none, .faddr 1 (.t 2)⟩,
    ⟨none, none, .store 1 (.t 36) (.t 35)⟩])
  (.seq (.seq (.region false [
    ⟨some 37, none, .faddr 4 (.t 2)⟩,
    ⟨some 38, none, .load1 (.t 37)⟩,
    ⟨some 39, none, .mov (.t 38)⟩,
    ⟨some 40, some (39, true), .faddr 0 (.t 2)⟩,
    ⟨some 41, some (39, true), .load1 (.t 40)⟩,
    ⟨some 42, some (39, true), .faddr 1 (.t 3)⟩,
    ⟨some 43, some (39, true), .load1 (.t 42)⟩,
    ⟨some 44, some (39, true), .bin .eql (.t 41) (.t 43)⟩,
    ⟨some 45, none, .pick (.t 39) (.t 44) (.c (.bool false))⟩,
    ⟨some 46, none, .mov (.t 45)⟩,
    ⟨some 47, some (46, true), .faddr 2 (.t 2)⟩,
    ⟨some 48, some (46, true), .load1 (.t 47)⟩,
    ⟨some 49, some (46, true), .faddr 2 (.t 3)⟩,
    ⟨some 50, some (46, true), .load1 (.t 49)⟩,
    ⟨some 51, some (46, true), .bin .eql (.t 48) (.t 50)⟩,
    ⟨some 52, none, .pick (.t 46) (.t 51) (.c (.bool false))⟩])
  (.cond (.t 52)
    (.seq (.seq (.region false [
      ⟨some 53, none, .faddr 6 (.t 2)⟩,
      ⟨some 54, none, .load1 (.t 53)⟩,
      ⟨some 55, none, .not (.t 54)⟩])
    (.cond (.t 55)
      (.seq (.region false [
        ⟨some 56, none, .faddr 4 (.t 2)⟩,
        ⟨none, none, .store 1 (.t 56) (.c (.bool false))⟩,
        ⟨some 57, none, .faddr 5 (.t 2)⟩,
        ⟨none, none, .store 1 (.t 57) (.c (.slice none 0 0))⟩])
      (.seq (.region false [
        ⟨some 58, none, .loadn 8 (.t 2)⟩,
        ⟨none, none, .store 8 (.t 4) (.t 58)⟩,
        ⟨some 5, none, .mov (.c (.int .i64 0))⟩])
      (.ret)))
      (.skip)))
    (.seq (.seq (.region false [
      ⟨some 59, none, .faddr 2 (.t 2)⟩,
      ⟨some 60, none, .load1 (.t 59)⟩,
      ⟨some 61, none, .bin .gtr (.t 60) (.c (.int .i64 2147483646))⟩])
    (.cond (.t 61)
      (.seq (.region false [
        ⟨some 62, none, .build [(.int .i64 0), (.int .i64 0), (.int .i64 0), (.string ⟨#[]⟩), (.bool false), (.slice none 0 0), (.bool false), (.slice none 0 0)] []⟩,
        ⟨none, none, .store 8 (.t 4) (.t 62)⟩,
        ⟨some 5, none, .mov (.c (.int .i64 11))⟩])
      (.ret))
      (.skip)))
    (.seq (.region false [
      ⟨some 63, none, .faddr 7 (.t 2)⟩,
      ⟨some 64, none, .load1 (.t 63)⟩,
      ⟨some 65, none, .faddr 2 (.t 2)⟩,
      ⟨some 66, none, .load1 (.t 65)⟩,
      ⟨some 67, none, .bin .add (.t 66) (.c (.int .i64 1))⟩,
      ⟨some 68, none, .faddr 5 (.t 2)⟩,
      ⟨none, none, .store 1 (.t 68) (.t 64)⟩,
      ⟨some 69, none, .faddr 7 (.t 2)⟩,
      ⟨none, none, .store 1 (.t 69) (.c (.slice none 0 0))⟩,
      ⟨some 70, none, .faddr 6 (.t 2)⟩,
      ⟨none, none, .store 1 (.t 70) (.c (.bool false))⟩,
      ⟨some 71, none, .faddr 2 (.t 2)⟩,
      ⟨none, none, .store 1 (.t 71) (.t 67)⟩])
    (.seq (.region false [
      ⟨some 72, none, .loadn 8 (.t 2)⟩,
      ⟨none, none, .store 8 (.t 4) (.t 72)⟩,
      ⟨some 5, none, .mov (.c (.int .i64 0))⟩])
    (.ret)))))
    (.skip)))
  (.seq (.region false [
    ⟨some 73, none, .faddr 3 (.t 3)⟩,
    ⟨some 74, none, .load1 (.t 73)⟩,
    ⟨some 8, none, .mov (.t 74)⟩,
    ⟨some 9, none, .mov (.c (.int .i64 0))⟩])
  (.seq (.seq (.region false [
    ⟨some 75, none, .faddr 4 (.t 2)⟩,
    ⟨some 76, none, .load1 (.t 75)⟩])
  (.cond (.t 76)
    (.region false [
      ⟨some 78, none, .mov (.t 8)⟩,
      ⟨some 79, none, .faddr 5 (.t 2)⟩,
      ⟨some 80, none, .load1 (.t 79)⟩,
      ⟨some 81, none, .call 32 [(.t 78), (.t 80)]⟩,
      ⟨some 77, none, .mov (.t 81)⟩,
      ⟨some 82, none, .ext 0 (.t 77)⟩,
      ⟨some 83, none, .ext 1 (.t 77)⟩,
      ⟨some 84, none, .ext 2 (.t 77)⟩,
      ⟨some 8, none, .mov (.t 82)⟩,
      ⟨some 85, none, .faddr 5 (.t 2)⟩,
      ⟨none, none, .store 1 (.t 85) (.t 83)⟩,
      ⟨some 9, none, .mov (.t 84)⟩])
    (.skip)))
  (.seq (.seq (.region false [
    ⟨some 86, none, .faddr 6 (.t 2)⟩,
    ⟨some 87, none, .load1 (.t 86)⟩,
    ⟨some 88, none, .mov (.t 87)⟩,
    ⟨some 89, some (88, true), .mov (.t 9)⟩,
    ⟨some 90, some (88, true), .bin .eql (.t 89) (.c (.int .i64 0))⟩,
    ⟨some 91, none, .pick (.t 88) (.t 90) (.c (.bool false))⟩])
  (.cond (.t 91)
    (.region false [
      ⟨some 93, none, .mov (.t 8)⟩,
      ⟨some 94, none, .faddr 7 (.t 2)⟩,
      ⟨some 95, none, .load1 (.t 94)⟩,
      ⟨some 96, none, .call 32 [(.t 93), (.t 95)]⟩,
      ⟨some 92, none, .mov (.t 96)⟩,
      ⟨some 97, none, .ext 0 (.t 92)⟩,
      ⟨some 98, none, .ext 1 (.t 92)⟩,
      ⟨some 99, none, .ext 2 (.t 92)⟩,
      ⟨some 8, none, .mov (.t 97)⟩,
      ⟨some 100, none, .faddr 7 (.t 2)⟩,
      ⟨none, none, .store 1 (.t 100) (.t 98)⟩,
      ⟨some 9, none, .mov (.t 99)⟩])
    (.skip)))
  (.seq (.seq (.region false [
    ⟨some 101, none, .mov (.t 9)⟩,
    ⟨some 102, none, .bin .neq (.t 101) (.c (.int .i64 0))⟩])
  (.cond (.t 102)
    (.seq (.region false [
      ⟨some 103, none, .build [(.int .i64 0), (.int .i64 0), (.int .i64 0), (.string ⟨#[]⟩), (.bool false), (.slice none 0 0), (.bool false), (.slice none 0 0)] []⟩,
      ⟨some 104, none, .mov (.t 9)⟩,
      ⟨none, none, .store 8 (.t 4) (.t 103)⟩,
      ⟨some 5, none, .mov (.t 104)⟩])
    (.ret))
    (.skip)))
  (.seq (.seq (.region false [
    ⟨some 106, none, .mov (.t 8)⟩,
    ⟨some 107, none, .faddr 3 (.t 2)⟩,
    ⟨some 108, none, .load1 (.t 107)⟩,
    ⟨some 109, none, .call 42 [(.t 106), (.t 108)]⟩,
    ⟨some 105, none, .mov (.t 109)⟩,
    ⟨some 110, none, .ext 0 (.t 105)⟩,
    ⟨some 111, none, .ext 1 (.t 105)⟩,
    ⟨some 112, none, .faddr 3 (.t 2)⟩,
    ⟨none, none, .store 1 (.t 112) (.t 110)⟩,
    ⟨some 9, none, .mov (.t 111)⟩])
  (.seq (.region false [
    ⟨some 113, none, .mov (.t 9)⟩,
    ⟨some 114, none, .bin .neq (.t 113) (.c (.int .i64 0))⟩])
  (.cond (.t 114)
    (.seq (.region false [
      ⟨some 115, none, .build [(.int .i64 0), (.int .i64 0), (.int .i64 0), (.string ⟨#[]⟩), (.bool false), (.slice none 0 0), (.bool false), (.slice none 0 0)] []⟩,
      ⟨some 116, none, .mov (.t 9)⟩,
      ⟨none, none, .store 8 (.t 4) (.t 115)⟩,
      ⟨some 5, none, .mov (.t 116)⟩])
    (.ret))
    (.skip))))
  (.seq (.region false [
    ⟨some 117, none, .loadn 8 (.t 2)⟩,
    ⟨none, none, .store 8 (.t 4) (.t 117)⟩,
    ⟨some 5, none, .mov (.c (.int .i64 0))⟩])
  (.ret)))))))))))))
theorem ok_rtell : FnOk Try.prog 12 Try.f12 ac_rtell [.cn 4 8, .t 5] 2 drawD := ⟨Try.func12, by decide +kernel, by kernel_rfl, by kernel_rfl, by decide +kernel⟩
theorem vc_rtell (P : Prim) (hP : P = std) (T T1 : CallT) (w r q c ck b mw mq e1 e2 x0 x1 x2 : Int) (s t0 t1 t2 : List UInt8) (fl wt : Bool) (sr hr mr d1 s1 d2 h2 : List (List V)) (hq : c = 0 → 0 ≤ q ∧ q ≤ 2147483647 ∧ 0 ≤ r ∧ r ≤ 2147483647) (hwf : c = 0 → wt = true → fl = true) (hh0 : c = 0 → wt = false → hr = [])
    (i1 : Ans T 41 [.agg [.int .i64 w, .int .i64 r, .int .i64 q, .str s, .bool fl, .sl false 3 sr, .bool wt, .sl false 3 hr]] (.int .i64 c))
    (i2 : Ans T 19 [.sl false 3 mr] (.int .i64 ck))
    (i4 : Ans T 32 [.sl false 3 mr, .sl false 3 sr] (.tup [.sl false 3 d1, .sl false 3 s1, .int .i64 e1]))
    (i5 : Ans T 32 [.sl false 3 d1, .sl false 3 hr] (.tup [.sl false 3 d2, .sl false 3 h2, .int .i64 e2]))
    (i6 : Ans T 42 [.sl false 3 mr, .str s] (.tup [.str t0, .int .i64 x0]))
    (i7 : Ans T 42 [.sl false 3 d1, .str s] (.tup [.str t1, .int .i64 x1]))
    (i8 : Ans T 42 [.sl false 3 d2, .str s] (.tup [.str t2, .int .i64 x2]))
    (cc : CV) (x : Int) (hx : TlR w r q c ck b mw mq e1 e2 x0 x1 x2 s t0 t1 t2 fl wt sr hr s1 h2 cc x)
    (R : S → Prop) (hR : ∀ x2, x2 = x → RetCli [.cn 4 8, .t 5] [.int .i64 x2] cc R) : awp P T T1 ac_rtell (S0 [.agg [.int .i64 w, .int .i64 r, .int .i64 q, .str s, .bool fl, .sl false 3 sr, .bool wt, .sl false 3 hr], .agg [.int .i64 b, .int .i64 mw, .int .i64 mq, .sl false 3 mr]] Hp.emp) R (fun _ _ => False) R := by
  obtain ⟨r1, r2, r3, r4, r5, r6, r7, r8, r9, r10, r11, r12, r13, r14, r15⟩ := hx
  cbv
  intro β1
  cbv
  intro β2
  cbv
  intro β3
  cbv
  refine i1 _ _ ?_
  clear i1
  cbv
  refine br_cases (fun h => ?_) (fun h => ?_)
  · obtain ⟨g1, g2⟩ := r1 (ne_t hP h)
    cbv
    exact hR _ g2 _ _ _ _ _ _ _ _ _ _ _ _ (Ent.refl _) ⟨rfl, rfl, Nat.zero_lt_succ 0, Nat.le_refl 8, rfl⟩ (.inr (.inl ⟨rfl, rfl⟩)) (.inr (.inl ⟨rfl, rfl⟩)) g1
  have hc := ne_f hP h
  have hqq := hq hc
  have hwff := hwf hc
  have hhn := hh0 hc
  clear r1 hq hwf h hh0
  cbv
  refine i2 _ _ ?_
  clear i2
  cbv
  refine br_cases (fun h => ?_) (fun h => ?_)
  · obtain ⟨g1, g2⟩ := r2 hc (ne_t hP h)
    cbv
    exact hR _ g2 _ _ _ _ _ _ _ _ _ _ _ _ (Ent.refl _) ⟨rfl, rfl, Nat.zero_lt_succ 0, Nat.le_refl 8, rfl⟩ (.inr (.inl ⟨rfl, rfl⟩)) (.inr (.inl ⟨rfl, rfl⟩)) g1
  have hk := ne_f hP h
  clear r2 h
  cbv
  refine br_cases (fun h => ?_) (fun h => ?_)
  · obtain ⟨g1, g2⟩ := r3 hc hk (ne_t hP h)
    cbv
    exact hR _ g2 _ _ _ _ _ _ _ _ _ _ _ _ (Ent.refl _) ⟨rfl, rfl, Nat.zero_lt_succ 0, Nat.le_refl 8, rfl⟩ (.inr (.inl ⟨rfl, rfl⟩)) (.inr (.inl ⟨rfl, rfl⟩)) g1
  have hb := ne_f hP h
  clear r3 h
  cbv
  refine br_cases (fun h => ?_) (fun h => ?_)
  · have hh : 2147483646 < r := lt_t hP h
    obtain ⟨g1, g2⟩ := r4 hc hk hb (by omega)
    cbv
    exact hR _ g2 _ _ _ _ _ _ _ _ _ _ _ _ (Ent.refl _) ⟨rfl, rfl, Nat.zero_lt_succ 0, Nat.le_refl 8, rfl⟩ (.inr (.inl ⟨rfl, rfl⟩)) (.inr (.inl ⟨rfl, rfl⟩)) g1
  have hr1 : ¬ 2147483646 < r := lt_f hP h
  have hr2 : r ≠ 2147483647 := by omega
  clear r4 h
  replace r5 := r5 hc hk hb hr2
  replace r6 := r6 hc hk hb hr2
  replace r7 := r7 hc hk hb hr2
  replace r8 := r8 hc hk hb hr2
  replace r9 := r9 hc hk hb hr2
  replace r10 := r10 hc hk hb hr2
  replace r11 := r11 hc hk hb hr2
  replace r12 := r12 hc hk hb hr2
  replace r13 := r13 hc hk hb hr2
  replace r14 := r14 hc hk hb hr2
  replace r15 := r15 hc hk hb hr2
  have o2 : P.i64 (P.add r 1) := by rw [add_eq hP]; exact i64I hP (by omega)
  cbv
  refine ⟨o2, ?_⟩
  cbv
  refine br_cases (fun hf => ?_) (fun hf => ?_)
  · replace r5 := r5 hf
    replace r6 := r6 hf
    replace r7 := r7 hf
    replace r8 := r8 hf
    replace r9 := r9 hf
    replace r10 := r10 hf
    replace r11 := r11 hf
    replace r12 := r12 hf
    replace r13 := r13 hf
    clear r14 r15
    cbv
    refine br_cases (fun h => ?_) (fun h => ?_)
    · have m1 := (eq_t hP h).symm
      clear h
      cbv
      refine br_cases (fun h => ?_) (fun h => ?_)
      · have m2 := (eq_t hP h).symm
        clear h r8 r9 r10 r11 r12 r13 i4 i5 i6 i7 i8
        cbv
        refine br_cases (fun hw => ?_) (fun hw => ?_)
        · cbv
          refine br_cases (fun h => ?_) (fun h => ?_)
          · have hh : 2147483646 < q := lt_t hP h
            obtain ⟨g1, g2⟩ := r5 m1 m2 hw (by omega)
            cbv
            exact hR _ g2 _ _ _ _ _ _ _ _ _ _ _ _ (Ent.refl _) ⟨rfl, rfl, Nat.zero_lt_succ 0, Nat.le_refl 8, rfl⟩ (.inr (.inl ⟨rfl, rfl⟩)) (.inr (.inl ⟨rfl, rfl⟩)) g1
          have h5 : ¬ 2147483646 < q := lt_f hP h
          obtain ⟨g1, g2⟩ := r6 m1 m2 hw (by omega)
          have o3 : P.i64 (P.add q 1) := by rw [add_eq hP]; exact i64I hP (by omega)
          cbv
          refine ⟨o3, ?_⟩
          cbv
          exact hR _ g2 _ _ _ _ _ _ _ _ _ _ _ _ (Ent.refl _) ⟨rfl, rfl, Nat.zero_lt_succ 0, Nat.le_refl 8, rfl⟩ (.inl rfl) (.inr (.inl ⟨rfl, rfl⟩)) (by rw [← g1, hf]; subst hP; rfl)
        · obtain ⟨g1, g2⟩ := r7 m1 m2 hw
          cbv
          exact hR _ g2 _ _ _ _ _ _ _ _ _ _ _ _ (Ent.refl _) ⟨rfl, rfl, Nat.zero_lt_succ 0, Nat.le_refl 8, rfl⟩ (.inr (.inl ⟨rfl, rfl⟩)) (.inl rfl) (by rw [← g1, hw, hhn hw]; subst hP; rfl)
      · have hno : ¬ (mw = w ∧ mq = q) := fun g => eq_f hP h g.2.symm
        clear h r5 r6 r7
        cbv
        refine br_tt hf ?_
        cbv
        refine i4 _ _ ?_
        clear i4
        cbv
        refine br_cases (fun hw => ?_) (fun hw => ?_)
        · cbv
          refine br_cases (fun h => ?_) (fun h => ?_)
          · have h1 := eq_t hP h
            cbv
            refine i5 _ _ ?_
            clear i5
            cbv
            refine br_cases (fun h => ?_) (fun h => ?_)
            · obtain ⟨g1, g2⟩ := r9 hno h1 hw (ne_t hP h)
              cbv
              exact hR _ g2 _ _ _ _ _ _ _ _ _ _ _ _ (Ent.refl _) ⟨rfl, rfl, Nat.zero_lt_succ 0, Nat.le_refl 8, rfl⟩ (.inr (.inl ⟨rfl, rfl⟩)) (.inr (.inl ⟨rfl, rfl⟩)) g1
            have h2 := ne_f hP h
            clear h
            cbv
            refine i8 _ _ ?_
            cbv
            refine br_cases (fun h => ?_) (fun h => ?_)
            · obtain ⟨g1, g2⟩ := r10 hno h1 hw h2 (ne_t hP h)
              cbv
              exact hR _ g2 _ _ _ _ _ _ _ _ _ _ _ _ (Ent.refl _) ⟨rfl, rfl, Nat.zero_lt_succ 0, Nat.le_refl 8, rfl⟩ (.inr (.inl ⟨rfl, rfl⟩)) (.inr (.inl ⟨rfl, rfl⟩)) g1
            obtain ⟨g1, g2⟩ := r11 hno h1 hw h2 (ne_f hP h)
            cbv
            exact hR _ g2 _ _ _ _ _ _ _ _ _ _ _ _ (Ent.refl _) ⟨rfl, rfl, Nat.zero_lt_succ 0, Nat.le_refl 8, rfl⟩ (.inl rfl) (.inl rfl) (by rw [← g1]; subst hP; rfl)
          · have h1 := eq_f hP h
            cbv
            refine br_tt (ne_T hP h1) ?_
            obtain ⟨g1, g2⟩ := r8 hno h1
            cbv
            exact hR _ g2 _ _ _ _ _ _ _ _ _ _ _ _ (Ent.refl _) ⟨rfl, rfl, Nat.zero_lt_succ 0, Nat.le_refl 8, rfl⟩ (.inr (.inl ⟨rfl, rfl⟩)) (.inr (.inl ⟨rfl, rfl⟩)) g1
        · cbv
          refine br_cases (fun h => ?_) (fun h => ?_)
          · obtain ⟨g1, g2⟩ := r8 hno (ne_t hP h)
            cbv
            exact hR _ g2 _ _ _ _ _ _ _ _ _ _ _ _ (Ent.refl _) ⟨rfl, rfl, Nat.zero_lt_succ 0, Nat.le_refl 8, rfl⟩ (.inr (.inl ⟨rfl, rfl⟩)) (.inr (.inl ⟨rfl, rfl⟩)) g1
          have h1 := ne_f hP h
          clear h
          cbv
          refine i7 _ _ ?_
          cbv
          refine br_cases (fun h => ?_) (fun h => ?_)
          · obtain ⟨g1, g2⟩ := r12 hno h1 hw (ne_t hP h)
            cbv
            exact hR _ g2 _ _ _ _ _ _ _ _ _ _ _ _ (Ent.refl _) ⟨rfl, rfl, Nat.zero_lt_succ 0, Nat.le_refl 8, rfl⟩ (.inr (.inl ⟨rfl, rfl⟩)) (.inr (.inl ⟨rfl, rfl⟩)) g1
          obtain ⟨g1, g2⟩ := r13 hno h1 hw (ne_f hP h)
          cbv
          exact hR _ g2 _ _ _ _ _ _ _ _ _ _ _ _ (Ent.refl _) ⟨rfl, rfl, Nat.zero_lt_succ 0, Nat.le_refl 8, rfl⟩ (.inl rfl) (.inl rfl) (by rw [← g1]; subst hP; rfl)
    · have hno : ¬ (mw = w ∧ mq = q) := fun g => eq_f hP h g.1.symm
      clear h r5 r6 r7
      cbv
      refine br_tt hf ?_
      cbv
      refine i4 _ _ ?_
      clear i4
      cbv
      refine br_cases (fun hw => ?_) (fun hw => ?_)
      · cbv
        refine br_cases (fun h => ?_) (fun h => ?_)
        · have h1 := eq_t hP h
          cbv
          refine i5 _ _ ?_
          clear i5
          cbv
          refine br_cases (fun h => ?_) (fun h => ?_)
          · obtain ⟨g1, g2⟩ := r9 hno h1 hw (ne_t hP h)
            cbv
            exact hR _ g2 _ _ _ _ _ _ _ _ _ _ _ _ (Ent.refl _) ⟨rfl, rfl, Nat.zero_lt_succ 0, Nat.le_refl 8, rfl⟩ (.inr (.inl ⟨rfl, rfl⟩)) (.inr (.inl ⟨rfl, rfl⟩)) g1
          have h2 := ne_f hP h
          clear h
          cbv
          refine i8 _ _ ?_
          cbv
          refine br_cases (fun h => ?_) (fun h => ?_)
          · obtain ⟨g1, g2⟩ := r10 hno h1 hw h2 (ne_t hP h)
            cbv
            exact hR _ g2 _ _ _ _ _ _ _ _ _ _ _ _ (Ent.refl _) ⟨rfl, rfl, Nat.zero_lt_succ 0, Nat.le_refl 8, rfl⟩ (.inr (.inl ⟨rfl, rfl⟩)) (.inr (.inl ⟨rfl, rfl⟩)) g1
          obtain ⟨g1, g2⟩ := r11 hno h1 hw h2 (ne_f hP h)
          cbv
          exact hR _ g2 _ _ _ _ _ _ _ _ _ _ _ _ (Ent.refl _) ⟨rfl, rfl, Nat.zero_lt_succ 0, Nat.le_refl 8, rfl⟩ (.inl rfl) (.inl rfl) (by rw [← g1]; subst hP; rfl)
        · have h1 := eq_f hP h
          cbv
          refine br_tt (ne_T hP h1) ?_
          obtain ⟨g1, g2⟩ := r8 hno h1
          cbv
          exact hR _ g2 _ _ _ _ _ _ _ _ _ _ _ _ (Ent.refl _) ⟨rfl, rfl, Nat.zero_lt_succ 0, Nat.le_refl 8, rfl⟩ (.inr (.inl ⟨rfl, rfl⟩)) (.inr (.inl ⟨rfl, rfl⟩)) g1
      · cbv
        refine br_cases (fun h => ?_) (fun h => ?_)
        · obtain ⟨g1, g2⟩ := r8 hno (ne_t hP h)
          cbv
          exact hR _ g2 _ _ _ _ _ _ _ _ _ _ _ _ (Ent.refl _) ⟨rfl, rfl, Nat.zero_lt_succ 0, Nat.le_refl 8, rfl⟩ (.inr (.inl ⟨rfl, rfl⟩)) (.inr (.inl ⟨rfl, rfl⟩)) g1
        have h1 := ne_f hP h
        clear h
        cbv
        refine i7 _ _ ?_
        cbv
        refine br_cases (fun h => ?_) (fun h => ?_)
        · obtain ⟨g1, g2⟩ := r12 hno h1 hw (ne_t hP h)
          cbv
          exact hR _ g2 _ _ _ _ _ _ _ _ _ _ _ _ (Ent.refl _) ⟨rfl, rfl, Nat.zero_lt_succ 0, Nat.le_refl 8, rfl⟩ (.inr (.inl ⟨rfl, rfl⟩)) (.inr (.inl ⟨rfl, rfl⟩)) g1
        obtain ⟨g1, g2⟩ := r13 hno h1 hw (ne_f hP h)
        cbv
        exact hR _ g2 _ _ _ _ _ _ _ _ _ _ _ _ (Ent.refl _) ⟨rfl, rfl, Nat.zero_lt_succ 0, Nat.le_refl 8, rfl⟩ (.inl rfl) (.inl rfl) (by rw [← g1]; subst hP; rfl)
  · replace r14 := r14 hf
    replace r15 := r15 hf
    clear r5 r6 r7 r8 r9 r10 r11 r12 r13
    have hw : wt = false := by
      cases wt with
      | false => rfl
      | true => rw [hwff rfl] at hf; cases hf
    cbv
    refine br_ff hf ?_
    cbv
    refine br_ff hw ?_
    cbv
    refine br_ff (ne_F hP rfl) ?_
    cbv
    refine i6 _ _ ?_
    cbv
    refine br_cases (fun h => ?_) (fun h => ?_)
    · obtain ⟨g1, g2⟩ := r14 (ne_t hP h)
      cbv
      exact hR _ g2 _ _ _ _ _ _ _ _ _ _ _ _ (Ent.refl _) ⟨rfl, rfl, Nat.zero_lt_succ 0, Nat.le_refl 8, rfl⟩ (.inr (.inl ⟨rfl, rfl⟩)) (.inr (.inl ⟨rfl, rfl⟩)) g1
    obtain ⟨g1, g2⟩ := r15 (ne_f hP h)
    cbv
    exact hR _ g2 _ _ _ _ _ _ _ _ _ _ _ _ (Ent.refl _) ⟨rfl, rfl, Nat.zero_lt_succ 0, Nat.le_refl 8, rfl⟩ (.inl rfl) (.inl rfl) (by rw [← g1]; subst hP; rfl)
theorem sp_rtell (c : Client) (m : Msg) (hs : c.sent.length ≤ maxLen) (hh : c.held.length ≤ maxLen) (hd : m.delta.length ≤ maxLen) : Spec Try.prog 12 [.agg (encClient c), .agg (encMsg m)] Hp.emp (Is (.tup [.agg (encClient (tellC c m).1), .int .i64 (tellC c m).2])) :=
  spec_frz dOk ok_rtell fun R hR => vc_rtell std rfl _ _ c.who c.rev c.seq (cliF c) (checkF m.delta) m.base m.who m.seq (meetF m.delta c.sent).2.2 (meetF (meetF m.delta c.sent).1 c.held).2.2 (doF m.delta c.text).2 (doF (meetF m.delta c.sent).1 c.text).2 (doF (meetF (meetF m.delta c.sent).1 c.held).1 c.text).2
    c.text (doF m.delta c.text).1 (doF (meetF m.delta c.sent).1 c.text).1 (doF (meetF (meetF m.delta c.sent).1 c.held).1 c.text).1 c.flying c.waiting (c.sent.map encPart) (c.held.map encPart) (m.delta.map encPart) ((meetF m.delta c.sent).1.map encPart) ((meetF m.delta c.sent).2.1.map encPart) ((meetF (meetF m.delta c.sent).1 c.held).1.map encPart) ((meetF (meetF m.delta c.sent).1 c.held).2.1.map encPart)
    cli_num cli_wf (fun h h2 => by obtain ⟨_, _, _, g, _⟩ := cliF_ok h; rw [g h2]; rfl)
    (ansW (sp_rcli c hs hh) (fun h => .cons (.same _) .nil) rfl) (ansW (sp_rdelta m.delta hd) (fun h => .cons (.weak _ _) .nil) rfl)
    (ansW (sp_rmeet m.delta c.sent hd hs) (fun h => .cons (.same _) (.cons (.same _) .nil)) rfl)
    (ansW (sp_rmeet (meetF m.delta c.sent).1 c.held (meet_le1 _ _) hh) (fun h => .cons (.same _) (.cons (.same _) .nil)) rfl)
    (ansW (sp_rdo m.delta hd c.text) (fun h => .cons (.weak _ _) (.cons (.same _) .nil)) rfl)
    (ansW (sp_rdo (meetF m.delta c.sent).1 (meet_le1 _ _) c.text) (fun h => .cons (.weak _ _) (.cons (.same _) .nil)) rfl)
    (ansW (sp_rdo (meetF (meetF m.delta c.sent).1 c.held).1 (meet_le1 _ _) c.text) (fun h => .cons (.weak _ _) (.cons (.same _) .nil)) rfl)
    _ _ (tellR c m) R fun x2 hx => by subst hx; exact retCli_of hR
/-! the law -/
def ac_lcin : AC := .seq (.region false [
    ⟨some 2, none, .box 24 8 (.t 0)⟩,
    ⟨some 3, none, .box 26 4 (.t 1)⟩,
    ⟨some 4, none, .mov (.c (.bool false))⟩])
  (.seq (.region false [
    ⟨some 10, none, .loadn 8 (.t 2)⟩,
    ⟨some 11, none, .loadn 4 (.t 3)⟩,
    ⟨some 12, none, .call 11 [(.t 10), (.t 11)]⟩,
    ⟨some 9, none, .mov (.t 12)⟩,
    ⟨some 13, none, .ext 0 (.t 9)⟩,
    ⟨some 14, none, .ext 1 (.t 9)⟩,
    ⟨some 5, none, .alloc 24 [(.int .i64 0), (.int .i64 0), (.int .i64 0), (.string ⟨#[]⟩), (.bool false), (.slice none 0 0), (.bool false), (.slice none 0 0)]⟩,
    ⟨none, none, .store 8 (.t 5) (.t 13)⟩,
    ⟨some 6, none, .mov (.t 14)⟩])
  (.seq (.region false [
    ⟨some 16, none, .loadn 8 (.t 2)⟩,
    ⟨some 17, none, .loadn 4 (.t 3)⟩,
    ⟨some 18, none, .call 12 [(.t 16), (.t 17)]⟩,
    ⟨some 15, none, .mov (.t 18)⟩,
    ⟨some 19, none, .ext 0 (.t 15)⟩,
    ⟨some 20, none, .ext 1 (.t 15)⟩,
    ⟨some 7, none, .alloc 24 [(.int .i64 0), (.int .i64 0), (.int .i64 0), (.string ⟨#[]⟩), (.bool false), (.slice none 0 0), (.bool false), (.slice none 0 0)]⟩,
    ⟨none, none, .store 8 (.t 7) (.t 19)⟩,
    ⟨some 8, none, .mov (.t 20)⟩])
  (.seq (.region false [
    ⟨some 21, none, .loadn 8 (.t 5)⟩,
    ⟨some 22, none, .loadn 8 (.t 7)⟩,
    ⟨some 23, none, .call 13 [(.t 21), (.t 22)]⟩,
    ⟨some 24, none, .mov (.t 23)⟩,
    ⟨some 25, some (24, true), .mov (.t 6)⟩,
    ⟨some 26, some (24, true), .mov (.t 8)⟩,
    ⟨some 27, some (24, true), .bin .eql (.t 25) (.t 26)⟩,
    ⟨some 28, none, .pick (.t 24) (.t 27) (.c (.bool false))⟩,
    ⟨some 4, none, .mov (.t 28)⟩])
  (.ret))))
theorem ok_lcin : FnOk Try.prog 3 Try.f3 ac_lcin [.t 4] 2 drawD := ⟨Try.func3, by decide +kernel, by kernel_rfl, by kernel_rfl, by decide +kernel⟩
theorem vc_lcin (P : Prim) (hP : P = std) (T T1 : CallT) (w r q w2 r2 q2 e b mw mq : Int) (s t : List UInt8) (fl wt fl2 wt2 : Bool) (sr hr mr sr2 hr2 : List (List V))
    (h1 : Ans T 11 [.agg [.int .i64 w, .int .i64 r, .int .i64 q, .str s, .bool fl, .sl false 3 sr, .bool wt, .sl false 3 hr], .agg [.int .i64 b, .int .i64 mw, .int .i64 mq, .sl false 3 mr]] (.tup [.agg [.int .i64 w2, .int .i64 r2, .int .i64 q2, .str t, .bool fl2, .sl false 3 sr2, .bool wt2, .sl false 3 hr2], .int .i64 e]))
    (h2 : Ans T 12 [.agg [.int .i64 w, .int .i64 r, .int .i64 q, .str s, .bool fl, .sl false 3 sr, .bool wt, .sl false 3 hr], .agg [.int .i64 b, .int .i64 mw, .int .i64 mq, .sl false 3 mr]] (.tup [.agg [.int .i64 w2, .int .i64 r2, .int .i64 q2, .str t, .bool fl2, .sl false 3 sr2, .bool wt2, .sl false 3 hr2], .int .i64 e]))
    (h3 : Ans T 13 [.agg [.int .i64 w2, .int .i64 r2, .int .i64 q2, .str t, .bool fl2, .sl false 3 sr2, .bool wt2, .sl false 3 hr2], .agg [.int .i64 w2, .int .i64 r2, .int .i64 q2, .str t, .bool fl2, .sl false 3 sr2, .bool wt2, .sl false 3 hr2]] (.bool true))
    (R : S → Prop) (hR : ∀ s s' x, x = true → Ent s s' → Ret [.t 4] [.bool x] s' → R s) : awp P T T1 ac_lcin (S0 [.agg [.int .i64 w, .int .i64 r, .int .i64 q, .str s, .bool fl, .sl false 3 sr, .bool wt, .sl false 3 hr], .agg [.int .i64 b, .int .i64 mw, .int .i64 mq, .sl false 3 mr]] Hp.emp) R (fun _ _ => False) R := by
  cbv
  intro β1
  cbv
  intro β0
  cbv
  refine h1 _ _ ?_
  cbv
  intro β2
  cbv
  refine h2 _ _ ?_
  cbv
  intro β3
  cbv
  refine h3 _ _ ?_
  cbv
  refine hR _ _ _ (eq_T hP rfl) (Ent.refl _) rfl
theorem tellC_len (c : Client) (m : Msg) : (tellC c m).1.sent.length ≤ 10000000 ∧ (tellC c m).1.held.length ≤ 10000000 := by
  by_cases h1 : cliF c = 0
  · have a1 := cli_sent h1
    have a2 := cli_held h1
    have a3 := meetF_len m.delta c.sent
    have a4 := meetF_len (meetF m.delta c.sent).1 c.held
    unfold tellC
    generalize meetF m.delta c.sent = M1 at *
    generalize meetF M1.1 c.held = M2 at *
    generalize doF m.delta c.text = D0
    generalize doF M1.1 c.text = D1
    generalize doF M2.1 c.text = D2
    generalize cliF c = g
    generalize checkF m.delta = g2
    have n1 : noC.sent.length ≤ 10000000 := by decide
    have n2 : noC.held.length ≤ 10000000 := by decide
    have n3 : ([] : List Part).length ≤ 10000000 := by decide
    repeat' split
    all_goals first
      | exact ⟨n1, n2⟩
      | (refine ⟨?_, ?_⟩ <;> dsimp only <;> first | omega | exact n3)
  · unfold tellC; rw [if_pos h1]; exact ⟨Nat.zero_le _, Nat.zero_le _⟩
theorem sp_law_clientIns (c : Client) (m : Msg) (hc : Client.Ok c) (hm : Msg.Ok m) : Spec Try.prog 3 [.agg (encClient c), .agg (encMsg m)] Hp.emp (Is (.bool true)) := by
  obtain ⟨_, _, _, _, hs, hh⟩ := hc
  have hd : m.delta.length ≤ maxLen := hm.2.2.2.1
  exact spec_pure dOk ok_lcin [.bool true] (.bool _) fun R hR => vc_lcin std rfl _ _ c.who c.rev c.seq (tellC c m).1.who (tellC c m).1.rev (tellC c m).1.seq (tellC c m).2 m.base m.who m.seq c.text (tellC c m).1.text c.flying c.waiting (tellC c m).1.flying (tellC c m).1.waiting (c.sent.map encPart) (c.held.map encPart) (m.delta.map encPart) ((tellC c m).1.sent.map encPart) ((tellC c m).1.held.map encPart)
    (ansW (sp_cin c m hs.1 hh.1 hd) (fun h => .cons (.same _) (.cons (.same _) .nil)) rfl) (ansW (sp_rtell c m hs.1 hh.1 hd) (fun h => .cons (.same _) (.cons (.same _) .nil)) rfl) (ansW (sp_scli _ (tellC_len c m).1 (tellC_len c m).2) (fun h => .cons (.same _) (.cons (.same _) .nil)) rfl)
    R fun s s' x h he hr => by subst h; exact hR s s' he hr
end Go.Proofs.Ytcdldpjmdelebaa.AM
