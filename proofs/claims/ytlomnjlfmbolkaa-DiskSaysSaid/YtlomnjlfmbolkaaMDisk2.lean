/-
  The law DiskSays. (Printed by gen_disk.py.)
-/
import Derived.Test.YtlomnjlfmbolkaaMDisk
import Derived.Test.YtlomnjlfmbolkaaMDreg
set_option linter.unusedVariables false
set_option linter.unusedSimpArgs false
namespace Go.Proofs.Ytlomnjlfmbolkaa.AM
open Go Go.RowKit
set_option maxRecDepth 100000
set_option maxHeartbeats 2000000
theorem and4 {P : Prim} (hP : P = std) {x1 y1 x3 y3 : List UInt8} {x2 y2 x4 y4 : Int} (h : (⟨x1, x2, x3, x4, 0⟩ : D4) = ⟨y1, y2, y3, y4, 0⟩) : P.and (P.seq x1 y1) (P.and (P.eq x2 y2) (P.and (P.seq x3 y3) (P.eq x4 y4))) = true := by
  simp only [D4.mk.injEq] at h
  obtain ⟨rfl, rfl, rfl, rfl, _⟩ := h
  rw [seq_T hP rfl, eq_T hP rfl, seq_T hP rfl, eq_T hP rfl]
  subst hP; rfl
theorem zd {w : Int} {x1 x3 : List UInt8} {x2 x4 e : Int} (h : noD w = ⟨x1, x2, x3, x4, e⟩) : (⟨x1, x2, x3, x4, 0⟩ : D4) = ⟨[], 0, [], 0, 0⟩ := by
  unfold noD at h
  simp only [D4.mk.injEq] at h
  simp only [D4.mk.injEq, and_true]
  exact ⟨h.1.symm, h.2.1.symm, h.2.2.1.symm, h.2.2.2.1.symm⟩
theorem ez {y1 y3 : List UInt8} {y2 y4 w : Int} {x1 x3 : List UInt8} {x2 x4 e : Int} (h : (⟨y1, y2, y3, y4, w⟩ : D4) = ⟨x1, x2, x3, x4, e⟩) : (⟨x1, x2, x3, x4, 0⟩ : D4) = ⟨y1, y2, y3, y4, 0⟩ := by
  simp only [D4.mk.injEq] at h
  simp only [D4.mk.injEq, and_true]
  exact ⟨h.1.symm, h.2.1.symm, h.2.2.1.symm, h.2.2.2.1.symm⟩
def ac_lds : AC := .seq (.region false [
    ⟨some 4, none, .box 42 4 (.t 0)⟩,
    ⟨some 8, none, .mov (.c (.bool false))⟩])
  (.seq (.region false [
    ⟨some 20, none, .loadn 4 (.t 4)⟩,
    ⟨some 21, none, .mov (.t 1)⟩,
    ⟨some 22, none, .mov (.t 2)⟩,
    ⟨some 23, none, .call 19 [(.t 20), (.t 21), (.t 22)]⟩,
    ⟨some 19, none, .mov (.t 23)⟩,
    ⟨some 24, none, .ext 0 (.t 19)⟩,
    ⟨some 25, none, .ext 1 (.t 19)⟩,
    ⟨some 9, none, .alloc 42 [(.string ⟨#[]⟩), (.int .i64 0), (.string ⟨#[]⟩), (.int .i64 0)]⟩,
    ⟨none, none, .store 4 (.t 9) (.t 24)⟩,
    ⟨some 10, none, .mov (.t 25)⟩])
  (.seq (.region false [
    ⟨some 27, none, .loadn 4 (.t 4)⟩,
    ⟨some 28, none, .mov (.t 1)⟩,
    ⟨some 29, none, .call 20 [(.t 27), (.t 28)]⟩,
    ⟨some 26, none, .mov (.t 29)⟩,
    ⟨some 30, none, .ext 0 (.t 26)⟩,
    ⟨some 31, none, .ext 1 (.t 26)⟩,
    ⟨some 11, none, .alloc 42 [(.string ⟨#[]⟩), (.int .i64 0), (.string ⟨#[]⟩), (.int .i64 0)]⟩,
    ⟨none, none, .store 4 (.t 11) (.t 30)⟩,
    ⟨some 12, none, .mov (.t 31)⟩])
  (.seq (.region false [
    ⟨some 33, none, .loadn 4 (.t 4)⟩,
    ⟨some 34, none, .mov (.t 1)⟩,
    ⟨some 35, none, .mov (.t 3)⟩,
    ⟨some 36, none, .call 21 [(.t 33), (.t 34), (.t 35)]⟩,
    ⟨some 32, none, .mov (.t 36)⟩,
    ⟨some 37, none, .ext 0 (.t 32)⟩,
    ⟨some 38, none, .ext 1 (.t 32)⟩,
    ⟨some 13, none, .alloc 42 [(.string ⟨#[]⟩), (.int .i64 0), (.string ⟨#[]⟩), (.int .i64 0)]⟩,
    ⟨none, none, .store 4 (.t 13) (.t 37)⟩,
    ⟨some 14, none, .mov (.t 38)⟩])
  (.seq (.region false [
    ⟨some 39, none, .loadn 4 (.t 4)⟩,
    ⟨some 40, none, .call 22 [(.t 39)]⟩,
    ⟨some 15, none, .mov (.t 40)⟩])
  (.seq (.seq (.region false [
    ⟨some 41, none, .loadn 4 (.t 4)⟩,
    ⟨some 42, none, .call 23 [(.t 41)]⟩,
    ⟨some 43, none, .mov (.t 15)⟩,
    ⟨some 44, none, .bin .neq (.t 42) (.t 43)⟩])
  (.cond (.t 44)
    (.seq (.region false [
      ⟨some 8, none, .mov (.c (.bool false))⟩])
    (.ret))
    (.skip)))
  (.seq (.seq (.region false [
    ⟨some 45, none, .mov (.t 15)⟩,
    ⟨some 46, none, .bin .eql (.t 45) (.c (.int .i64 0))⟩,
    ⟨some 47, none, .mov (.t 46)⟩,
    ⟨some 48, some (47, true), .mov (.t 1)⟩,
    ⟨some 49, some (47, true), .bin .lss (.t 48) (.c (.int .i64 0))⟩,
    ⟨some 50, some (47, true), .mov (.t 49)⟩,
    ⟨some 51, some (50, false), .mov (.t 1)⟩,
    ⟨some 52, some (50, false), .bin .gtr (.t 51) (.c (.int .i64 1))⟩,
    ⟨some 53, some (47, true), .pick (.t 50) (.c (.bool true)) (.t 52)⟩,
    ⟨some 54, none, .pick (.t 47) (.t 53) (.c (.bool false))⟩])
  (.cond (.t 54)
    (.region false [
      ⟨some 15, none, .mov (.c (.int .i64 1))⟩])
    (.skip)))
  (.seq (.seq (.region false [
    ⟨some 55, none, .mov (.t 15)⟩,
    ⟨some 56, none, .bin .neq (.t 55) (.c (.int .i64 0))⟩])
  (.cond (.t 56)
    (.seq (.region false [
      ⟨some 57, none, .mov (.t 10)⟩,
      ⟨some 58, none, .mov (.t 15)⟩,
      ⟨some 59, none, .bin .eql (.t 57) (.t 58)⟩,
      ⟨some 60, none, .mov (.t 59)⟩,
      ⟨some 61, some (60, true), .mov (.t 12)⟩,
      ⟨some 62, some (60, true), .mov (.t 15)⟩,
      ⟨some 63, some (60, true), .bin .eql (.t 61) (.t 62)⟩,
      ⟨some 64, none, .pick (.t 60) (.t 63) (.c (.bool false))⟩,
      ⟨some 65, none, .mov (.t 64)⟩,
      ⟨some 66, some (65, true), .mov (.t 14)⟩,
      ⟨some 67, some (65, true), .mov (.t 15)⟩,
      ⟨some 68, some (65, true), .bin .eql (.t 66) (.t 67)⟩,
      ⟨some 69, none, .pick (.t 65) (.t 68) (.c (.bool false))⟩,
      ⟨some 70, none, .mov (.t 69)⟩,
      ⟨some 71, some (70, true), .loadn 4 (.t 9)⟩,
      ⟨some 72, some (70, true), .build [(.string ⟨#[]⟩), (.int .i64 0), (.string ⟨#[]⟩), (.int .i64 0)] []⟩,
      ⟨some 73, some (70, true), .eqs false [2, 1, 2, 1] (.t 71) (.t 72)⟩,
      ⟨some 74, none, .pick (.t 70) (.t 73) (.c (.bool false))⟩,
      ⟨some 75, none, .mov (.t 74)⟩,
      ⟨some 76, some (75, true), .loadn 4 (.t 11)⟩,
      ⟨some 77, some (75, true), .build [(.string ⟨#[]⟩), (.int .i64 0), (.string ⟨#[]⟩), (.int .i64 0)] []⟩,
      ⟨some 78, some (75, true), .eqs false [2, 1, 2, 1] (.t 76) (.t 77)⟩,
      ⟨some 79, none, .pick (.t 75) (.t 78) (.c (.bool false))⟩,
      ⟨some 80, none, .mov (.t 79)⟩,
      ⟨some 81, some (80, true), .loadn 4 (.t 13)⟩,
      ⟨some 82, some (80, true), .build [(.string ⟨#[]⟩), (.int .i64 0), (.string ⟨#[]⟩), (.int .i64 0)] []⟩,
      ⟨some 83, some (80, true), .eqs false [2, 1, 2, 1] (.t 81) (.t 82)⟩,
      ⟨some 84, none, .pick (.t 80) (.t 83) (.c (.bool false))⟩,
      ⟨some 8, none, .mov (.t 84)⟩])
    (.ret))
    (.skip)))
  (.seq (.dregion [
    (⟨some 85, none, .loadn 4 (.t 4)⟩, []),
    (⟨some 86, none, .loadn 4 (.t 4)⟩, []),
    (⟨some 87, none, .loadn 4 (.t 4)⟩, []),
    (⟨some 16, none, .alloc 42 [(.string ⟨#[]⟩), (.int .i64 0), (.string ⟨#[]⟩), (.int .i64 0)]⟩, []),
    (⟨some 17, none, .alloc 42 [(.string ⟨#[]⟩), (.int .i64 0), (.string ⟨#[]⟩), (.int .i64 0)]⟩, []),
    (⟨some 18, none, .alloc 42 [(.string ⟨#[]⟩), (.int .i64 0), (.string ⟨#[]⟩), (.int .i64 0)]⟩, []),
    (⟨none, none, .store 4 (.t 16) (.t 85)⟩, [3, 0, 0, 3, 4, 5]),
    (⟨none, none, .store 4 (.t 17) (.t 86)⟩, [4, 1, 6, 0, 1, 3, 4, 5, 6]),
    (⟨none, none, .store 4 (.t 18) (.t 87)⟩, [5, 2, 7, 0, 1, 2, 3, 4, 5, 6, 7])])
  (.seq (.region false [
    ⟨some 88, none, .mov (.t 1)⟩,
    ⟨some 89, none, .faddr 0 (.t 16)⟩,
    ⟨some 90, none, .iarr 2 2 (.t 89) (.t 88)⟩,
    ⟨some 91, none, .faddr 0 (.t 90)⟩,
    ⟨some 92, none, .load1 (.t 91)⟩,
    ⟨some 93, none, .mov (.t 2)⟩,
    ⟨some 94, none, .bin .add (.t 92) (.t 93)⟩,
    ⟨some 95, none, .faddr 0 (.t 16)⟩,
    ⟨some 96, none, .iarr 2 2 (.t 95) (.t 88)⟩,
    ⟨some 97, none, .faddr 0 (.t 96)⟩,
    ⟨none, none, .store 1 (.t 97) (.t 94)⟩])
  (.seq (.region false [
    ⟨some 98, none, .mov (.t 1)⟩,
    ⟨some 99, none, .mov (.t 1)⟩,
    ⟨some 100, none, .faddr 0 (.t 4)⟩,
    ⟨some 101, none, .iarr 2 2 (.t 100) (.t 99)⟩,
    ⟨some 102, none, .faddr 0 (.t 101)⟩,
    ⟨some 103, none, .load1 (.t 102)⟩,
    ⟨some 104, none, .len true (.t 103)⟩,
    ⟨some 105, none, .faddr 0 (.t 17)⟩,
    ⟨some 106, none, .iarr 2 2 (.t 105) (.t 98)⟩,
    ⟨some 107, none, .faddr 1 (.t 106)⟩,
    ⟨none, none, .store 1 (.t 107) (.t 104)⟩])
  (.seq (.seq (.region false [
    ⟨some 108, none, .mov (.t 1)⟩,
    ⟨some 109, none, .faddr 0 (.t 16)⟩,
    ⟨some 110, none, .iarr 2 2 (.t 109) (.t 108)⟩,
    ⟨some 111, none, .faddr 0 (.t 110)⟩,
    ⟨some 112, none, .load1 (.t 111)⟩,
    ⟨some 113, none, .len true (.t 112)⟩,
    ⟨some 114, none, .bin .gtr (.t 113) (.c (.int .i64 1048576))⟩])
  (.cond (.t 114)
    (.seq (.region false [
      ⟨some 115, none, .mov (.t 10)⟩,
      ⟨some 116, none, .bin .neq (.t 115) (.c (.int .i64 2))⟩,
      ⟨some 117, none, .mov (.t 116)⟩,
      ⟨some 118, some (117, false), .loadn 4 (.t 9)⟩,
      ⟨some 119, some (117, false), .build [(.string ⟨#[]⟩), (.int .i64 0), (.string ⟨#[]⟩), (.int .i64 0)] []⟩,
      ⟨some 120, some (117, false), .eqs true [2, 1, 2, 1] (.t 118) (.t 119)⟩,
      ⟨some 121, none, .pick (.t 117) (.c (.bool true)) (.t 120)⟩])
    (.cond (.t 121)
      (.seq (.region false [
        ⟨some 8, none, .mov (.c (.bool false))⟩])
      (.ret))
      (.skip)))
    (.seq (.region false [
      ⟨some 122, none, .mov (.t 10)⟩,
      ⟨some 123, none, .bin .neq (.t 122) (.c (.int .i64 0))⟩,
      ⟨some 124, none, .mov (.t 123)⟩,
      ⟨some 125, some (124, false), .loadn 4 (.t 9)⟩,
      ⟨some 126, some (124, false), .loadn 4 (.t 16)⟩,
      ⟨some 127, some (124, false), .eqs true [2, 1, 2, 1] (.t 125) (.t 126)⟩,
      ⟨some 128, none, .pick (.t 124) (.c (.bool true)) (.t 127)⟩])
    (.cond (.t 128)
      (.seq (.region false [
        ⟨some 8, none, .mov (.c (.bool false))⟩])
      (.ret))
      (.skip)))))
  (.seq (.seq (.region false [
    ⟨some 129, none, .mov (.t 12)⟩,
    ⟨some 130, none, .bin .neq (.t 129) (.c (.int .i64 0))⟩,
    ⟨some 131, none, .mov (.t 130)⟩,
    ⟨some 132, some (131, false), .loadn 4 (.t 11)⟩,
    ⟨some 133, some (131, false), .loadn 4 (.t 17)⟩,
    ⟨some 134, some (131, false), .eqs true [2, 1, 2, 1] (.t 132) (.t 133)⟩,
    ⟨some 135, none, .pick (.t 131) (.c (.bool true)) (.t 134)⟩])
  (.cond (.t 135)
    (.seq (.region false [
      ⟨some 8, none, .mov (.c (.bool false))⟩])
    (.ret))
    (.skip)))
  (.seq (.seq (.region false [
    ⟨some 136, none, .mov (.t 3)⟩,
    ⟨some 137, none, .bin .lss (.t 136) (.c (.int .i64 0))⟩,
    ⟨some 138, none, .mov (.t 137)⟩,
    ⟨some 139, some (138, false), .mov (.t 3)⟩,
    ⟨some 140, some (138, false), .mov (.t 1)⟩,
    ⟨some 141, some (138, false), .faddr 0 (.t 4)⟩,
    ⟨some 142, some (138, false), .iarr 2 2 (.t 141) (.t 140)⟩,
    ⟨some 143, some (138, false), .faddr 0 (.t 142)⟩,
    ⟨some 144, some (138, false), .load1 (.t 143)⟩,
    ⟨some 145, some (138, false), .len true (.t 144)⟩,
    ⟨some 146, some (138, false), .bin .gtr (.t 139) (.t 145)⟩,
    ⟨some 147, none, .pick (.t 138) (.c (.bool true)) (.t 146)⟩])
  (.cond (.t 147)
    (.seq (.region false [
      ⟨some 148, none, .mov (.t 14)⟩,
      ⟨some 149, none, .bin .eql (.t 148) (.c (.int .i64 1))⟩,
      ⟨some 150, none, .mov (.t 149)⟩,
      ⟨some 151, some (150, true), .loadn 4 (.t 13)⟩,
      ⟨some 152, some (150, true), .build [(.string ⟨#[]⟩), (.int .i64 0), (.string ⟨#[]⟩), (.int .i64 0)] []⟩,
      ⟨some 153, some (150, true), .eqs false [2, 1, 2, 1] (.t 151) (.t 152)⟩,
      ⟨some 154, none, .pick (.t 150) (.t 153) (.c (.bool false))⟩,
      ⟨some 8, none, .mov (.t 154)⟩])
    (.ret))
    (.skip)))
  (.seq (.region true [
    ⟨some 155, none, .mov (.t 1)⟩,
    ⟨some 156, none, .mov (.t 1)⟩,
    ⟨some 157, none, .faddr 0 (.t 4)⟩,
    ⟨some 158, none, .iarr 2 2 (.t 157) (.t 156)⟩,
    ⟨some 159, none, .faddr 0 (.t 158)⟩,
    ⟨some 160, none, .load1 (.t 159)⟩,
    ⟨some 161, none, .mov (.t 3)⟩,
    ⟨some 162, none, .slstr (.t 160) none (some (.t 161))⟩,
    ⟨some 163, none, .mov (.t 3)⟩,
    ⟨some 164, none, .mov (.t 1)⟩,
    ⟨some 165, none, .faddr 0 (.t 4)⟩,
    ⟨some 166, none, .iarr 2 2 (.t 165) (.t 164)⟩,
    ⟨some 167, none, .faddr 1 (.t 166)⟩,
    ⟨some 168, none, .load1 (.t 167)⟩,
    ⟨some 169, none, .mm false (.t 163) (.t 168)⟩,
    ⟨some 170, none, .build [(.string ⟨#[]⟩), (.int .i64 0)] [(0, 1, (.t 162)), (1, 1, (.t 169))]⟩,
    ⟨some 171, none, .faddr 0 (.t 18)⟩,
    ⟨some 172, none, .iarr 2 2 (.t 171) (.t 155)⟩,
    ⟨none, none, .store 2 (.t 172) (.t 170)⟩])
  (.seq (.region false [
    ⟨some 173, none, .mov (.t 14)⟩,
    ⟨some 174, none, .bin .eql (.t 173) (.c (.int .i64 0))⟩,
    ⟨some 175, none, .mov (.t 174)⟩,
    ⟨some 176, some (175, true), .loadn 4 (.t 13)⟩,
    ⟨some 177, some (175, true), .loadn 4 (.t 18)⟩,
    ⟨some 178, some (175, true), .eqs false [2, 1, 2, 1] (.t 176) (.t 177)⟩,
    ⟨some 179, none, .pick (.t 175) (.t 178) (.c (.bool false))⟩,
    ⟨some 8, none, .mov (.t 179)⟩])
  (.ret))))))))))))))))
theorem ok_lds : FnOk Try.prog 5 Try.f5 ac_lds [.t 8] 4 drawD := ⟨Try.func5, by decide +kernel, by kernel_rfl, by kernel_rfl, by decide +kernel⟩
theorem vc_lds (P : Prim) (hP : P = std) (T T1 : CallT) (a1 : List UInt8) (a2 : Int) (b1 : List UInt8) (b2 i : Int) (s : List UInt8) (n : Int) (hs : s.length ≤ 140737488355328) (c : Int) (hcd : c = diskT a1 a2 b1 b2)
    (p1 : List UInt8) (p2 : Int) (p3 : List UInt8) (p4 pe : Int) (hp : appT a1 a2 b1 b2 i s = ⟨p1, p2, p3, p4, pe⟩)
    (s1 : List UInt8) (s2 : Int) (s3 : List UInt8) (s4 se : Int) (hsy : synT a1 a2 b1 b2 i = ⟨s1, s2, s3, s4, se⟩)
    (t1 : List UInt8) (t2 : Int) (t3 : List UInt8) (t4 te : Int) (htr : trmT a1 a2 b1 b2 i n = ⟨t1, t2, t3, t4, te⟩)
    (h1 : Ans T 19 [.agg [.str a1, .int .i64 a2, .str b1, .int .i64 b2], .int .i64 i, .str s] (.tup [.agg [.str p1, .int .i64 p2, .str p3, .int .i64 p4], .int .i64 pe]))
    (h2 : Ans T 20 [.agg [.str a1, .int .i64 a2, .str b1, .int .i64 b2], .int .i64 i] (.tup [.agg [.str s1, .int .i64 s2, .str s3, .int .i64 s4], .int .i64 se]))
    (h3 : Ans T 21 [.agg [.str a1, .int .i64 a2, .str b1, .int .i64 b2], .int .i64 i, .int .i64 n] (.tup [.agg [.str t1, .int .i64 t2, .str t3, .int .i64 t4], .int .i64 te]))
    (h4 : Ans T 22 [.agg [.str a1, .int .i64 a2, .str b1, .int .i64 b2]] (.int .i64 c)) (h5 : Ans T 23 [.agg [.str a1, .int .i64 a2, .str b1, .int .i64 b2]] (.int .i64 c))
    (R : S → Prop) (hR : ∀ s s' b, b = true → Ent s s' → Ret [.t 8] [.bool b] s' → R s) : awp P T T1 ac_lds (S0 [.agg [.str a1, .int .i64 a2, .str b1, .int .i64 b2], .int .i64 i, .str s, .int .i64 n] Hp.emp) R (fun _ _ => False) R := by
  have a0 : P.leP 0 0 := le0 hP (by decide)
  have a01 : P.leP 0 1 := le0 hP (by decide)
  have l0 : P.ltP 0 2 := ltI hP (by decide)
  have l1 : P.ltP 1 2 := ltI hP (by decide)
  have n0 : P.nat 0 = 0 := by subst hP; rfl
  have n1 : P.nat 1 = 1 := by subst hP; rfl
  cbv
  intro β
  cbv
  repeat' (first
    | (refine And.intro (by first | assumption | decide) ?_; try cbv)
    | (intro β2; try cbv))
  refine h1 _ _ ?_
  cbv
  repeat' (first
    | (refine And.intro (by first | assumption | decide) ?_; try cbv)
    | (intro β2; try cbv))
  refine h2 _ _ ?_
  cbv
  repeat' (first
    | (refine And.intro (by first | assumption | decide) ?_; try cbv)
    | (intro β2; try cbv))
  refine h3 _ _ ?_
  cbv
  repeat' (first
    | (refine And.intro (by first | assumption | decide) ?_; try cbv)
    | (intro β2; try cbv))
  refine h4 _ _ ?_
  cbv
  repeat' (first
    | (refine And.intro (by first | assumption | decide) ?_; try cbv)
    | (intro β2; try cbv))
  refine h5 _ _ ?_
  cbv
  clear h1 h2 h3 h4 h5
  refine br_ff (ne_F hP rfl) ?_
  cbv
  by_cases hd : diskT a1 a2 b1 b2 = 0
  · obtain ⟨ha, hb⟩ := disk_ok hd
    obtain ⟨ha1, ha2, ha3⟩ := slot_ok ha
    obtain ⟨hb1, hb2, hb3⟩ := slot_ok hb
    refine br_tt (eq_T hP (hcd.trans hd)) ?_
    cbv
    refine br_cases (fun g => ?_) (fun g => ?_)
    · have gi := lt_t hP g
      have hlk : lookT a1 a2 b1 b2 i = 1 := by unfold lookT; rw [if_neg (fun x => x hd), if_pos (by omega)]
      have hw : (1 : Int) ≠ 0 := by decide
      cbv
      refine br_tt (ne_T hP hw) ?_
      cbv
      have hbad := hlk
      unfold appT at hp
      unfold synT at hsy
      unfold trmT at htr
      rw [hlk, if_pos hw] at hp hsy htr
      refine br_tt (eq_T hP (congrArg D4.e hp).symm) ?_
      cbv
      refine br_tt (eq_T hP (congrArg D4.e hsy).symm) ?_
      cbv
      refine br_tt (eq_T hP (congrArg D4.e htr).symm) ?_
      cbv
      repeat' (first
        | (refine And.intro (by first | assumption | decide) ?_; try cbv)
        | (intro β2; try cbv))
      refine br_tt (and4 hP (zd hp)) ?_
      cbv
      repeat' (first
        | (refine And.intro (by first | assumption | decide) ?_; try cbv)
        | (intro β2; try cbv))
      refine br_tt (and4 hP (zd hsy)) ?_
      cbv
      repeat' (first
        | (refine And.intro (by first | assumption | decide) ?_; try cbv)
        | (intro β2; try cbv))
      exact hR _ _ _ (and4 hP (zd htr)) (Ent.refl _) rfl
    have gi := lt_f hP g
    cbv
    refine br_cases (fun g => ?_) (fun g => ?_)
    · have gj := lt_t hP g
      have hlk : lookT a1 a2 b1 b2 i = 1 := by unfold lookT; rw [if_neg (fun x => x hd), if_pos (by omega)]
      have hw : (1 : Int) ≠ 0 := by decide
      cbv
      refine br_tt (ne_T hP hw) ?_
      cbv
      have hbad := hlk
      unfold appT at hp
      unfold synT at hsy
      unfold trmT at htr
      rw [hlk, if_pos hw] at hp hsy htr
      refine br_tt (eq_T hP (congrArg D4.e hp).symm) ?_
      cbv
      refine br_tt (eq_T hP (congrArg D4.e hsy).symm) ?_
      cbv
      refine br_tt (eq_T hP (congrArg D4.e htr).symm) ?_
      cbv
      repeat' (first
        | (refine And.intro (by first | assumption | decide) ?_; try cbv)
        | (intro β2; try cbv))
      refine br_tt (and4 hP (zd hp)) ?_
      cbv
      repeat' (first
        | (refine And.intro (by first | assumption | decide) ?_; try cbv)
        | (intro β2; try cbv))
      refine br_tt (and4 hP (zd hsy)) ?_
      cbv
      repeat' (first
        | (refine And.intro (by first | assumption | decide) ?_; try cbv)
        | (intro β2; try cbv))
      exact hR _ _ _ (and4 hP (zd htr)) (Ent.refl _) rfl
    have gj := lt_f hP g
    clear g
    cbv
    refine br_ff (ne_F hP (hcd.trans hd)) ?_
    have hi : i = 0 ∨ i = 1 := by omega
    clear gi gj
    rcases hi with rfl | rfl
    · have hlk : lookT a1 a2 b1 b2 0 = 0 := by unfold lookT; rw [if_neg (fun x => x hd), if_neg (by decide)]
      unfold appT at hp
      unfold synT at hsy
      unfold trmT at htr
      rw [hlk, if_neg (by decide), if_pos rfl] at hp hsy htr
      have e1 : P.sapp a1 s = a1 ++ s := by subst hP; rfl
      have e2 : P.slen a1 = (a1.length : Int) := slen_eq hP _
      have hll : (P.sapp a1 s).length = a1.length + s.length := by rw [e1, List.length_append]
      have i1 : P.i64 (P.add (P.slen a1) (P.slen s)) := by rw [add_eq hP, slen_eq hP, slen_eq hP]; exact i64I hP (by ((try simp only [nc] at *); omega))
      have se0 : se = 0 := (congrArg D4.e hsy).symm
      have eqs : (⟨s1, s2, s3, s4, 0⟩ : D4) = ⟨a1, P.slen a1, b1, b2, 0⟩ := by
        rw [← se0, ← hsy, e2, se0]
      rw [← e1] at hp
      change anyA P T dkOps 9 [] _ _
      refine dreg rfl rfl rfl rfl rfl ?_
      intro β16 β17 β18
      cbv
      repeat' (first
        | (refine And.intro (by first | assumption | decide) ?_; try cbv)
        | (refine ⟨0, n0, ?_⟩; try cbv)
        | (intro β2; try cbv))
      refine br_cases (fun g => ?_) (fun g => ?_)
      · have g1 : 1048576 < P.slen (P.sapp a1 s) := lt_t hP g
        rw [slen_eq hP, hll] at g1
        rw [if_pos (by ((try simp only [nc] at *); omega))] at hp
        cbv
        refine br_ff (ne_F hP (congrArg D4.e hp).symm) ?_
        cbv
        repeat' (first
          | (refine And.intro (by first | assumption | decide) ?_; try cbv)
          | (refine ⟨0, n0, ?_⟩; try cbv)
          | (intro β2; try cbv))
        refine br_tt (and4 hP (zd hp)) ?_
        cbv
        repeat' (first
          | (refine And.intro (by first | assumption | decide) ?_; try cbv)
          | (refine ⟨0, n0, ?_⟩; try cbv)
          | (intro β2; try cbv))
        refine br_ff (ne_F hP se0) ?_
        cbv
        repeat' (first
          | (refine And.intro (by first | assumption | decide) ?_; try cbv)
          | (refine ⟨0, n0, ?_⟩; try cbv)
          | (intro β2; try cbv))
        refine br_tt (and4 hP eqs) ?_
        cbv
        refine br_cases (fun g => ?_) (fun g => ?_)
        · rw [if_pos (.inl (lt_t hP g))] at htr
          cbv
          refine br_tt (eq_T hP (congrArg D4.e htr).symm) ?_
          cbv
          repeat' (first
            | (refine And.intro (by first | assumption | decide) ?_; try cbv)
            | (refine ⟨0, n0, ?_⟩; try cbv)
            | (intro β2; try cbv))
          exact hR _ _ _ (and4 hP (zd htr)) (Ent.refl _) rfl
        have g1 := lt_f hP g
        cbv
        repeat' (first
          | (refine And.intro (by first | assumption | decide) ?_; try cbv)
          | (refine ⟨0, n0, ?_⟩; try cbv)
          | (intro β2; try cbv))
        refine br_cases (fun g => ?_) (fun g => ?_)
        · have g2 : P.slen a1 < n := lt_t hP g
          rw [slen_eq hP] at g2
          rw [if_pos (.inr g2)] at htr
          cbv
          refine br_tt (eq_T hP (congrArg D4.e htr).symm) ?_
          cbv
          repeat' (first
            | (refine And.intro (by first | assumption | decide) ?_; try cbv)
            | (refine ⟨0, n0, ?_⟩; try cbv)
            | (intro β2; try cbv))
          exact hR _ _ _ (and4 hP (zd htr)) (Ent.refl _) rfl
        have g2 : ¬ P.slen a1 < n := lt_f hP g
        rw [slen_eq hP] at g2
        have m1 : P.leP 0 n := le0 hP (by omega)
        have m2 : P.leP n (P.slen a1) := leI hP (by rw [slen_eq hP]; ((try simp only [nc] at *); omega))
        have e3 : P.ssub a1 0 n = a1.take n.toNat := by subst hP; rfl
        have e4 : P.mn n a2 = min a2 n := by subst hP; exact Int.min_comm _ _
        rw [if_neg (by ((try simp only [nc] at *); omega)), ← e3, ← e4] at htr
        cbv
        repeat' (first
          | (refine And.intro (by first | assumption | decide) ?_; try cbv)
          | (refine ⟨0, n0, ?_⟩; try cbv)
          | (intro β2; try cbv))
        refine br_tt (eq_T hP (congrArg D4.e htr).symm) ?_
        cbv
        repeat' (first
          | (refine And.intro (by first | assumption | decide) ?_; try cbv)
          | (refine ⟨0, n0, ?_⟩; try cbv)
          | (intro β2; try cbv))
        exact hR _ _ _ (and4 hP (ez htr)) (Ent.refl _) rfl
      · have g1 : ¬ 1048576 < P.slen (P.sapp a1 s) := lt_f hP g
        rw [slen_eq hP, hll] at g1
        rw [if_neg (by ((try simp only [nc] at *); omega))] at hp
        cbv
        refine br_ff (ne_F hP (congrArg D4.e hp).symm) ?_
        cbv
        repeat' (first
          | (refine And.intro (by first | assumption | decide) ?_; try cbv)
          | (refine ⟨0, n0, ?_⟩; try cbv)
          | (intro β2; try cbv))
        refine br_tt (and4 hP (ez hp)) ?_
        cbv
        repeat' (first
          | (refine And.intro (by first | assumption | decide) ?_; try cbv)
          | (refine ⟨0, n0, ?_⟩; try cbv)
          | (intro β2; try cbv))
        refine br_ff (ne_F hP se0) ?_
        cbv
        repeat' (first
          | (refine And.intro (by first | assumption | decide) ?_; try cbv)
          | (refine ⟨0, n0, ?_⟩; try cbv)
          | (intro β2; try cbv))
        refine br_tt (and4 hP eqs) ?_
        cbv
        refine br_cases (fun g => ?_) (fun g => ?_)
        · rw [if_pos (.inl (lt_t hP g))] at htr
          cbv
          refine br_tt (eq_T hP (congrArg D4.e htr).symm) ?_
          cbv
          repeat' (first
            | (refine And.intro (by first | assumption | decide) ?_; try cbv)
            | (refine ⟨0, n0, ?_⟩; try cbv)
            | (intro β2; try cbv))
          exact hR _ _ _ (and4 hP (zd htr)) (Ent.refl _) rfl
        have g1 := lt_f hP g
        cbv
        repeat' (first
          | (refine And.intro (by first | assumption | decide) ?_; try cbv)
          | (refine ⟨0, n0, ?_⟩; try cbv)
          | (intro β2; try cbv))
        refine br_cases (fun g => ?_) (fun g => ?_)
        · have g2 : P.slen a1 < n := lt_t hP g
          rw [slen_eq hP] at g2
          rw [if_pos (.inr g2)] at htr
          cbv
          refine br_tt (eq_T hP (congrArg D4.e htr).symm) ?_
          cbv
          repeat' (first
            | (refine And.intro (by first | assumption | decide) ?_; try cbv)
            | (refine ⟨0, n0, ?_⟩; try cbv)
            | (intro β2; try cbv))
          exact hR _ _ _ (and4 hP (zd htr)) (Ent.refl _) rfl
        have g2 : ¬ P.slen a1 < n := lt_f hP g
        rw [slen_eq hP] at g2
        have m1 : P.leP 0 n := le0 hP (by omega)
        have m2 : P.leP n (P.slen a1) := leI hP (by rw [slen_eq hP]; ((try simp only [nc] at *); omega))
        have e3 : P.ssub a1 0 n = a1.take n.toNat := by subst hP; rfl
        have e4 : P.mn n a2 = min a2 n := by subst hP; exact Int.min_comm _ _
        rw [if_neg (by ((try simp only [nc] at *); omega)), ← e3, ← e4] at htr
        cbv
        repeat' (first
          | (refine And.intro (by first | assumption | decide) ?_; try cbv)
          | (refine ⟨0, n0, ?_⟩; try cbv)
          | (intro β2; try cbv))
        refine br_tt (eq_T hP (congrArg D4.e htr).symm) ?_
        cbv
        repeat' (first
          | (refine And.intro (by first | assumption | decide) ?_; try cbv)
          | (refine ⟨0, n0, ?_⟩; try cbv)
          | (intro β2; try cbv))
        exact hR _ _ _ (and4 hP (ez htr)) (Ent.refl _) rfl
    · have hlk : lookT a1 a2 b1 b2 1 = 0 := by unfold lookT; rw [if_neg (fun x => x hd), if_neg (by decide)]
      unfold appT at hp
      unfold synT at hsy
      unfold trmT at htr
      rw [hlk, if_neg (by decide), if_neg (by decide)] at hp hsy htr
      have e1 : P.sapp b1 s = b1 ++ s := by subst hP; rfl
      have e2 : P.slen b1 = (b1.length : Int) := slen_eq hP _
      have hll : (P.sapp b1 s).length = b1.length + s.length := by rw [e1, List.length_append]
      have i1 : P.i64 (P.add (P.slen b1) (P.slen s)) := by rw [add_eq hP, slen_eq hP, slen_eq hP]; exact i64I hP (by ((try simp only [nc] at *); omega))
      have se0 : se = 0 := (congrArg D4.e hsy).symm
      have eqs : (⟨s1, s2, s3, s4, 0⟩ : D4) = ⟨a1, a2, b1, P.slen b1, 0⟩ := by
        rw [← se0, ← hsy, e2, se0]
      rw [← e1] at hp
      change anyA P T dkOps 9 [] _ _
      refine dreg rfl rfl rfl rfl rfl ?_
      intro β16 β17 β18
      cbv
      repeat' (first
        | (refine And.intro (by first | assumption | decide) ?_; try cbv)
        | (refine ⟨1, n1, ?_⟩; try cbv)
        | (intro β2; try cbv))
      refine br_cases (fun g => ?_) (fun g => ?_)
      · have g1 : 1048576 < P.slen (P.sapp b1 s) := lt_t hP g
        rw [slen_eq hP, hll] at g1
        rw [if_pos (by ((try simp only [nc] at *); omega))] at hp
        cbv
        refine br_ff (ne_F hP (congrArg D4.e hp).symm) ?_
        cbv
        repeat' (first
          | (refine And.intro (by first | assumption | decide) ?_; try cbv)
          | (refine ⟨1, n1, ?_⟩; try cbv)
          | (intro β2; try cbv))
        refine br_tt (and4 hP (zd hp)) ?_
        cbv
        repeat' (first
          | (refine And.intro (by first | assumption | decide) ?_; try cbv)
          | (refine ⟨1, n1, ?_⟩; try cbv)
          | (intro β2; try cbv))
        refine br_ff (ne_F hP se0) ?_
        cbv
        repeat' (first
          | (refine And.intro (by first | assumption | decide) ?_; try cbv)
          | (refine ⟨1, n1, ?_⟩; try cbv)
          | (intro β2; try cbv))
        refine br_tt (and4 hP eqs) ?_
        cbv
        refine br_cases (fun g => ?_) (fun g => ?_)
        · rw [if_pos (.inl (lt_t hP g))] at htr
          cbv
          refine br_tt (eq_T hP (congrArg D4.e htr).symm) ?_
          cbv
          repeat' (first
            | (refine And.intro (by first | assumption | decide) ?_; try cbv)
            | (refine ⟨1, n1, ?_⟩; try cbv)
            | (intro β2; try cbv))
          exact hR _ _ _ (and4 hP (zd htr)) (Ent.refl _) rfl
        have g1 := lt_f hP g
        cbv
        repeat' (first
          | (refine And.intro (by first | assumption | decide) ?_; try cbv)
          | (refine ⟨1, n1, ?_⟩; try cbv)
          | (intro β2; try cbv))
        refine br_cases (fun g => ?_) (fun g => ?_)
        · have g2 : P.slen b1 < n := lt_t hP g
          rw [slen_eq hP] at g2
          rw [if_pos (.inr g2)] at htr
          cbv
          refine br_tt (eq_T hP (congrArg D4.e htr).symm) ?_
          cbv
          repeat' (first
            | (refine And.intro (by first | assumption | decide) ?_; try cbv)
            | (refine ⟨1, n1, ?_⟩; try cbv)
            | (intro β2; try cbv))
          exact hR _ _ _ (and4 hP (zd htr)) (Ent.refl _) rfl
        have g2 : ¬ P.slen b1 < n := lt_f hP g
        rw [slen_eq hP] at g2
        have m1 : P.leP 0 n := le0 hP (by omega)
        have m2 : P.leP n (P.slen b1) := leI hP (by rw [slen_eq hP]; ((try simp only [nc] at *); omega))
        have e3 : P.ssub b1 0 n = b1.take n.toNat := by subst hP; rfl
        have e4 : P.mn n b2 = min b2 n := by subst hP; exact Int.min_comm _ _
        rw [if_neg (by ((try simp only [nc] at *); omega)), ← e3, ← e4] at htr
        cbv
        repeat' (first
          | (refine And.intro (by first | assumption | decide) ?_; try cbv)
          | (refine ⟨1, n1, ?_⟩; try cbv)
          | (intro β2; try cbv))
        refine br_tt (eq_T hP (congrArg D4.e htr).symm) ?_
        cbv
        repeat' (first
          | (refine And.intro (by first | assumption | decide) ?_; try cbv)
          | (refine ⟨1, n1, ?_⟩; try cbv)
          | (intro β2; try cbv))
        exact hR _ _ _ (and4 hP (ez htr)) (Ent.refl _) rfl
      · have g1 : ¬ 1048576 < P.slen (P.sapp b1 s) := lt_f hP g
        rw [slen_eq hP, hll] at g1
        rw [if_neg (by ((try simp only [nc] at *); omega))] at hp
        cbv
        refine br_ff (ne_F hP (congrArg D4.e hp).symm) ?_
        cbv
        repeat' (first
          | (refine And.intro (by first | assumption | decide) ?_; try cbv)
          | (refine ⟨1, n1, ?_⟩; try cbv)
          | (intro β2; try cbv))
        refine br_tt (and4 hP (ez hp)) ?_
        cbv
        repeat' (first
          | (refine And.intro (by first | assumption | decide) ?_; try cbv)
          | (refine ⟨1, n1, ?_⟩; try cbv)
          | (intro β2; try cbv))
        refine br_ff (ne_F hP se0) ?_
        cbv
        repeat' (first
          | (refine And.intro (by first | assumption | decide) ?_; try cbv)
          | (refine ⟨1, n1, ?_⟩; try cbv)
          | (intro β2; try cbv))
        refine br_tt (and4 hP eqs) ?_
        cbv
        refine br_cases (fun g => ?_) (fun g => ?_)
        · rw [if_pos (.inl (lt_t hP g))] at htr
          cbv
          refine br_tt (eq_T hP (congrArg D4.e htr).symm) ?_
          cbv
          repeat' (first
            | (refine And.intro (by first | assumption | decide) ?_; try cbv)
            | (refine ⟨1, n1, ?_⟩; try cbv)
            | (intro β2; try cbv))
          exact hR _ _ _ (and4 hP (zd htr)) (Ent.refl _) rfl
        have g1 := lt_f hP g
        cbv
        repeat' (first
          | (refine And.intro (by first | assumption | decide) ?_; try cbv)
          | (refine ⟨1, n1, ?_⟩; try cbv)
          | (intro β2; try cbv))
        refine br_cases (fun g => ?_) (fun g => ?_)
        · have g2 : P.slen b1 < n := lt_t hP g
          rw [slen_eq hP] at g2
          rw [if_pos (.inr g2)] at htr
          cbv
          refine br_tt (eq_T hP (congrArg D4.e htr).symm) ?_
          cbv
          repeat' (first
            | (refine And.intro (by first | assumption | decide) ?_; try cbv)
            | (refine ⟨1, n1, ?_⟩; try cbv)
            | (intro β2; try cbv))
          exact hR _ _ _ (and4 hP (zd htr)) (Ent.refl _) rfl
        have g2 : ¬ P.slen b1 < n := lt_f hP g
        rw [slen_eq hP] at g2
        have m1 : P.leP 0 n := le0 hP (by omega)
        have m2 : P.leP n (P.slen b1) := leI hP (by rw [slen_eq hP]; ((try simp only [nc] at *); omega))
        have e3 : P.ssub b1 0 n = b1.take n.toNat := by subst hP; rfl
        have e4 : P.mn n b2 = min b2 n := by subst hP; exact Int.min_comm _ _
        rw [if_neg (by ((try simp only [nc] at *); omega)), ← e3, ← e4] at htr
        cbv
        repeat' (first
          | (refine And.intro (by first | assumption | decide) ?_; try cbv)
          | (refine ⟨1, n1, ?_⟩; try cbv)
          | (intro β2; try cbv))
        refine br_tt (eq_T hP (congrArg D4.e htr).symm) ?_
        cbv
        repeat' (first
          | (refine And.intro (by first | assumption | decide) ?_; try cbv)
          | (refine ⟨1, n1, ?_⟩; try cbv)
          | (intro β2; try cbv))
        exact hR _ _ _ (and4 hP (ez htr)) (Ent.refl _) rfl
  · have hlk : lookT a1 a2 b1 b2 i = diskT a1 a2 b1 b2 := by unfold lookT; rw [if_pos hd]
    rw [← hcd] at hd hlk
    have hw := hd
    refine br_ff (eq_F hP hd) ?_
    cbv
    refine br_tt (ne_T hP hd) ?_
    cbv
    have hbad := hlk
    unfold appT at hp
    unfold synT at hsy
    unfold trmT at htr
    rw [hlk, if_pos hw] at hp hsy htr
    refine br_tt (eq_T hP (congrArg D4.e hp).symm) ?_
    cbv
    refine br_tt (eq_T hP (congrArg D4.e hsy).symm) ?_
    cbv
    refine br_tt (eq_T hP (congrArg D4.e htr).symm) ?_
    cbv
    repeat' (first
      | (refine And.intro (by first | assumption | decide) ?_; try cbv)
      | (intro β2; try cbv))
    refine br_tt (and4 hP (zd hp)) ?_
    cbv
    repeat' (first
      | (refine And.intro (by first | assumption | decide) ?_; try cbv)
      | (intro β2; try cbv))
    refine br_tt (and4 hP (zd hsy)) ?_
    cbv
    repeat' (first
      | (refine And.intro (by first | assumption | decide) ?_; try cbv)
      | (intro β2; try cbv))
    exact hR _ _ _ (and4 hP (zd htr)) (Ent.refl _) rfl
theorem sp_law_diskSays (d : Disk) (i : Int) (s : List UInt8) (n : Int) (_ : d.Ok) (_ : I64 i) (hs : s.length ≤ 140737488355328) (_ : I64 n) : Spec Try.prog 5 [.agg (encDisk d), .int .i64 i, .str s, .int .i64 n] Hp.emp (Is (.bool true)) :=
  spec_pure dOk ok_lds [.bool true] (.bool _) fun R hR => vc_lds std rfl _ _ d.a.data d.a.safe d.b.data d.b.safe i s n hs (diskT d.a.data d.a.safe d.b.data d.b.safe) rfl
    (appT d.a.data d.a.safe d.b.data d.b.safe i s).x1 (appT d.a.data d.a.safe d.b.data d.b.safe i s).x2 (appT d.a.data d.a.safe d.b.data d.b.safe i s).x3 (appT d.a.data d.a.safe d.b.data d.b.safe i s).x4 (appT d.a.data d.a.safe d.b.data d.b.safe i s).e rfl
    (synT d.a.data d.a.safe d.b.data d.b.safe i).x1 (synT d.a.data d.a.safe d.b.data d.b.safe i).x2 (synT d.a.data d.a.safe d.b.data d.b.safe i).x3 (synT d.a.data d.a.safe d.b.data d.b.safe i).x4 (synT d.a.data d.a.safe d.b.data d.b.safe i).e rfl
    (trmT d.a.data d.a.safe d.b.data d.b.safe i n).x1 (trmT d.a.data d.a.safe d.b.data d.b.safe i n).x2 (trmT d.a.data d.a.safe d.b.data d.b.safe i n).x3 (trmT d.a.data d.a.safe d.b.data d.b.safe i n).x4 (trmT d.a.data d.a.safe d.b.data d.b.safe i n).e rfl
    (ansW (sp_dap d.a.data d.a.safe d.b.data d.b.safe i s hs) (fun h => .cons (.same _) (.cons (.same _) (.cons (.same _) .nil))) rfl) (ansW (sp_dsy d.a.data d.a.safe d.b.data d.b.safe i) (fun h => .cons (.same _) (.cons (.same _) .nil)) rfl)
    (ansW (sp_dtr d.a.data d.a.safe d.b.data d.b.safe i n) (fun h => .cons (.same _) (.cons (.same _) (.cons (.same _) .nil))) rfl) (ansW (sp_rdk d.a.data d.a.safe d.b.data d.b.safe) (fun h => .cons (.same _) .nil) rfl) (ansW (sp_dck d.a.data d.a.safe d.b.data d.b.safe) (fun h => .cons (.same _) .nil) rfl)
    R fun s s' b h he hr => by subst h; exact hR s s' he hr
end Go.Proofs.Ytlomnjlfmbolkaa.AM
