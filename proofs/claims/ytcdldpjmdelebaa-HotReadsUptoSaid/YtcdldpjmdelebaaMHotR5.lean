/-
  What a slot says, read: the document's Log, and the law HotReads. (Printed by gen_hotr5.py.)
-/
import Derived.Test.YtcdldpjmdelebaaMHotR4
set_option linter.unusedVariables false
set_option linter.unusedSimpArgs false
namespace Go.Proofs.Ytcdldpjmdelebaa.AM
open Go Go.RowKit
set_option maxRecDepth 100000
set_option maxHeartbeats 2000000
def ac_rlog : AC := .seq (.region false [
    ⟨some 2, none, .alloc 37 [(.int .i64 0), (.int .i64 0), (.string ⟨#[]⟩), (.int .i64 0), (.int .i64 0), (.int .i64 0), (.int .i64 0), (.int .i64 0), (.int .i64 0), (.int .i64 0), (.int .i64 0), (.int .i64 0), (.int .i64 0), (.int .i64 0), (.int .i64 0), (.int .i64 0), (.int .i64 0), (.int .i64 0), (.int .i64 0), (.int .i64 0), (.int .i64 0), (.int .i64 0), (.int .i64 0), (.int .i64 0), (.int .i64 0), (.int .i64 0), (.int .i64 0), (.int .i64 0), (.int .i64 0), (.int .i64 0), (.int .i64 0), (.int .i64 0), (.int .i64 0), (.int .i64 0), (.int .i64 0), (.slice none 0 0), (.bool false), (.int .i64 0)]⟩,
    ⟨some 3, none, .mov (.c (.int .i64 0))⟩])
  (.seq (.region false [
    ⟨some 21, none, .mov (.t 0)⟩,
    ⟨some 22, none, .call 48 [(.t 21)]⟩,
    ⟨some 20, none, .mov (.t 22)⟩,
    ⟨some 23, none, .ext 0 (.t 20)⟩,
    ⟨some 24, none, .ext 1 (.t 20)⟩,
    ⟨some 4, none, .mov (.t 23)⟩,
    ⟨some 5, none, .mov (.t 24)⟩])
  (.seq (.seq (.region false [
    ⟨some 25, none, .mov (.t 4)⟩,
    ⟨some 26, none, .len false (.t 25)⟩,
    ⟨some 27, none, .bin .eql (.t 26) (.c (.int .i64 0))⟩])
  (.cond (.t 27)
    (.seq (.region false [
      ⟨some 28, none, .build [(.int .i64 0), (.int .i64 0), (.string ⟨#[]⟩), (.int .i64 0), (.int .i64 0), (.int .i64 0), (.int .i64 0), (.int .i64 0), (.int .i64 0), (.int .i64 0), (.int .i64 0), (.int .i64 0), (.int .i64 0), (.int .i64 0), (.int .i64 0), (.int .i64 0), (.int .i64 0), (.int .i64 0), (.int .i64 0), (.int .i64 0), (.int .i64 0), (.int .i64 0), (.int .i64 0), (.int .i64 0), (.int .i64 0), (.int .i64 0), (.int .i64 0), (.int .i64 0), (.int .i64 0), (.int .i64 0), (.int .i64 0), (.int .i64 0), (.int .i64 0), (.int .i64 0), (.int .i64 0), (.slice none 0 0), (.bool false), (.int .i64 0)] []⟩,
      ⟨none, none, .store 38 (.t 2) (.t 28)⟩,
      ⟨some 3, none, .mov (.c (.int .i64 7))⟩])
    (.ret))
    (.skip)))
  (.seq (.region false [
    ⟨some 30, none, .mov (.t 4)⟩,
    ⟨some 31, none, .iaddr 2 (.t 30) (.c (.int .i64 0))⟩,
    ⟨some 32, none, .faddr 1 (.t 31)⟩,
    ⟨some 33, none, .load1 (.t 32)⟩,
    ⟨some 34, none, .call 49 [(.t 33), (.c (.int .i64 18))]⟩,
    ⟨some 29, none, .mov (.t 34)⟩,
    ⟨some 35, none, .ext 0 (.t 29)⟩,
    ⟨some 36, none, .ext 1 (.t 29)⟩,
    ⟨some 37, none, .ext 2 (.t 29)⟩,
    ⟨some 6, none, .mov (.t 35)⟩,
    ⟨some 7, none, .mov (.t 36)⟩,
    ⟨some 8, none, .mov (.t 37)⟩])
  (.seq (.seq (.region false [
    ⟨some 38, none, .mov (.t 4)⟩,
    ⟨some 39, none, .iaddr 2 (.t 38) (.c (.int .i64 0))⟩,
    ⟨some 40, none, .faddr 0 (.t 39)⟩,
    ⟨some 41, none, .load1 (.t 40)⟩,
    ⟨some 42, none, .bin .neq (.t 41) (.c (.int .i64 1))⟩,
    ⟨some 43, none, .mov (.t 42)⟩,
    ⟨some 44, some (43, false), .mov (.t 8)⟩,
    ⟨some 45, some (43, false), .not (.t 44)⟩,
    ⟨some 46, none, .pick (.t 43) (.c (.bool true)) (.t 45)⟩,
    ⟨some 47, none, .mov (.t 46)⟩,
    ⟨some 48, some (47, false), .mov (.t 7)⟩,
    ⟨some 49, some (47, false), .len true (.t 48)⟩,
    ⟨some 50, some (47, false), .bin .gtr (.t 49) (.c (.int .i64 500))⟩,
    ⟨some 51, none, .pick (.t 47) (.c (.bool true)) (.t 50)⟩])
  (.cond (.t 51)
    (.seq (.region false [
      ⟨some 52, none, .build [(.int .i64 0), (.int .i64 0), (.string ⟨#[]⟩), (.int .i64 0), (.int .i64 0), (.int .i64 0), (.int .i64 0), (.int .i64 0), (.int .i64 0), (.int .i64 0), (.int .i64 0), (.int .i64 0), (.int .i64 0), (.int .i64 0), (.int .i64 0), (.int .i64 0), (.int .i64 0), (.int .i64 0), (.int .i64 0), (.int .i64 0), (.int .i64 0), (.int .i64 0), (.int .i64 0), (.int .i64 0), (.int .i64 0), (.int .i64 0), (.int .i64 0), (.int .i64 0), (.int .i64 0), (.int .i64 0), (.int .i64 0), (.int .i64 0), (.int .i64 0), (.int .i64 0), (.int .i64 0), (.slice none 0 0), (.bool false), (.int .i64 0)] []⟩,
      ⟨none, none, .store 38 (.t 2) (.t 52)⟩,
      ⟨some 3, none, .mov (.c (.int .i64 3))⟩])
    (.ret))
    (.skip)))
  (.seq (.region true [
    ⟨some 53, none, .mov (.t 6)⟩,
    ⟨some 54, none, .iaddr 1 (.t 53) (.c (.int .i64 0))⟩,
    ⟨some 55, none, .load1 (.t 54)⟩,
    ⟨some 56, none, .mov (.t 6)⟩,
    ⟨some 57, none, .iaddr 1 (.t 56) (.c (.int .i64 1))⟩,
    ⟨some 58, none, .load1 (.t 57)⟩,
    ⟨some 59, none, .mov (.t 7)⟩,
    ⟨some 60, none, .mov (.t 4)⟩,
    ⟨some 61, none, .iaddr 2 (.t 60) (.c (.int .i64 0))⟩,
    ⟨some 62, none, .faddr 1 (.t 61)⟩,
    ⟨some 63, none, .load1 (.t 62)⟩,
    ⟨some 64, none, .len true (.t 63)⟩,
    ⟨some 65, none, .bin .add (.c (.int .i64 7)) (.t 64)⟩,
    ⟨some 66, none, .build [(.int .i64 0), (.int .i64 0), (.string ⟨#[]⟩), (.int .i64 0), (.int .i64 0), (.int .i64 0), (.int .i64 0), (.int .i64 0), (.int .i64 0), (.int .i64 0), (.int .i64 0), (.int .i64 0), (.int .i64 0), (.int .i64 0), (.int .i64 0), (.int .i64 0), (.int .i64 0), (.int .i64 0), (.int .i64 0), (.int .i64 0), (.int .i64 0), (.int .i64 0), (.int .i64 0), (.int .i64 0), (.int .i64 0), (.int .i64 0), (.int .i64 0), (.int .i64 0), (.int .i64 0), (.int .i64 0), (.int .i64 0), (.int .i64 0), (.int .i64 0), (.int .i64 0), (.int .i64 0), (.slice none 0 0), (.bool false), (.int .i64 0)] [(0, 1, (.t 55)), (1, 1, (.t 58)), (2, 1, (.t 59)), (37, 1, (.t 65))]⟩,
    ⟨some 9, none, .alloc 37 [(.int .i64 0), (.int .i64 0), (.string ⟨#[]⟩), (.int .i64 0), (.int .i64 0), (.int .i64 0), (.int .i64 0), (.int .i64 0), (.int .i64 0), (.int .i64 0), (.int .i64 0), (.int .i64 0), (.int .i64 0), (.int .i64 0), (.int .i64 0), (.int .i64 0), (.int .i64 0), (.int .i64 0), (.int .i64 0), (.int .i64 0), (.int .i64 0), (.int .i64 0), (.int .i64 0), (.int .i64 0), (.int .i64 0), (.int .i64 0), (.int .i64 0), (.int .i64 0), (.int .i64 0), (.int .i64 0), (.int .i64 0), (.int .i64 0), (.int .i64 0), (.int .i64 0), (.int .i64 0), (.slice none 0 0), (.bool false), (.int .i64 0)]⟩,
    ⟨none, none, .store 38 (.t 9) (.t 66)⟩])
  (.seq (.seq (.region false [
    ⟨some 67, none, .mov (.c (.int .i64 0))⟩])
  (.block 0 (.loop (.seq (.region false [
      ⟨some 68, none, .bin .lss (.t 67) (.c (.int .i64 8))⟩])
    (.seq (.cond (.t 68)
      (.skip)
      (.exit 0))
    (.seq (.block 1 (.seq (.region false [
      ⟨some 69, none, .mov (.t 67)⟩,
      ⟨some 10, none, .mov (.t 69)⟩])
    (.region true [
      ⟨some 70, none, .mov (.t 10)⟩,
      ⟨some 71, none, .mov (.t 6)⟩,
      ⟨some 72, none, .mov (.t 10)⟩,
      ⟨some 73, none, .bin .mul (.c (.int .i64 2)) (.t 72)⟩,
      ⟨some 74, none, .bin .add (.c (.int .i64 2)) (.t 73)⟩,
      ⟨some 75, none, .iaddr 1 (.t 71) (.t 74)⟩,
      ⟨some 76, none, .load1 (.t 75)⟩,
      ⟨some 77, none, .mov (.t 6)⟩,
      ⟨some 78, none, .mov (.t 10)⟩,
      ⟨some 79, none, .bin .mul (.c (.int .i64 2)) (.t 78)⟩,
      ⟨some 80, none, .bin .add (.c (.int .i64 3)) (.t 79)⟩,
      ⟨some 81, none, .iaddr 1 (.t 77) (.t 80)⟩,
      ⟨some 82, none, .load1 (.t 81)⟩,
      ⟨some 83, none, .build [(.int .i64 0), (.int .i64 0)] [(0, 1, (.t 76)), (1, 1, (.t 82))]⟩,
      ⟨some 84, none, .faddr 3 (.t 9)⟩,
      ⟨some 85, none, .iarr 8 2 (.t 84) (.t 70)⟩,
      ⟨none, none, .store 2 (.t 85) (.t 83)⟩])))
    (.region false [
      ⟨some 86, none, .bin .add (.t 67) (.c (.int .i64 1))⟩,
      ⟨some 67, none, .mov (.t 86)⟩])))))))
  (.seq (.region false [
    ⟨some 87, none, .faddr 3 (.t 9)⟩,
    ⟨some 88, none, .loadn 16 (.t 87)⟩,
    ⟨some 89, none, .faddr 19 (.t 9)⟩,
    ⟨none, none, .store 16 (.t 89) (.t 88)⟩])
  (.seq (.region false [
    ⟨some 90, none, .mov (.t 7)⟩,
    ⟨some 11, none, .mov (.t 90)⟩])
  (.seq (.seq (.region false [
    ⟨some 91, none, .mov (.t 4)⟩,
    ⟨some 92, none, .slsl 2 (.t 91) (some (.c (.int .i64 1))) none⟩,
    ⟨some 93, none, .len false (.t 92)⟩,
    ⟨some 94, none, .mov (.c (.int .i64 0))⟩])
  (.block 2 (.loop (.seq (.region false [
      ⟨some 95, none, .bin .lss (.t 94) (.t 93)⟩])
    (.seq (.cond (.t 95)
      (.skip)
      (.exit 2))
    (.seq (.block 3 (.seq (.region false [
      ⟨some 96, none, .iaddr 2 (.t 92) (.t 94)⟩,
      ⟨some 97, none, .loadn 2 (.t 96)⟩,
      ⟨some 13, none, .alloc 96 [(.int .i64 0), (.string ⟨#[]⟩)]⟩,
      ⟨none, none, .store 2 (.t 13) (.t 97)⟩])
    (.seq (.seq (.region false [
      ⟨some 98, none, .faddr 0 (.t 13)⟩,
      ⟨some 99, none, .load1 (.t 98)⟩,
      ⟨some 100, none, .bin .eql (.t 99) (.c (.int .i64 3))⟩,
      ⟨some 101, none, .mov (.t 100)⟩,
      ⟨some 102, some (101, true), .faddr 1 (.t 13)⟩,
      ⟨some 103, some (101, true), .load1 (.t 102)⟩,
      ⟨some 104, some (101, true), .bin .eql (.t 103) (.c (.string ⟨#[]⟩))⟩,
      ⟨some 105, none, .pick (.t 101) (.t 104) (.c (.bool false))⟩,
      ⟨some 106, none, .mov (.t 105)⟩,
      ⟨some 107, some (106, true), .faddr 36 (.t 9)⟩,
      ⟨some 108, some (106, true), .load1 (.t 107)⟩,
      ⟨some 109, some (106, true), .not (.t 108)⟩,
      ⟨some 110, none, .pick (.t 106) (.t 109) (.c (.bool false))⟩])
    (.cond (.t 110)
      (.seq (.region false [
        ⟨some 111, none, .faddr 36 (.t 9)⟩,
        ⟨none, none, .store 1 (.t 111) (.c (.bool true))⟩])
      (.seq (.region false [
        ⟨some 112, none, .faddr 37 (.t 9)⟩,
        ⟨some 113, none, .load1 (.t 112)⟩,
        ⟨some 114, none, .bin .add (.t 113) (.c (.int .i64 7))⟩,
        ⟨some 115, none, .faddr 37 (.t 9)⟩,
        ⟨none, none, .store 1 (.t 115) (.t 114)⟩])
      (.exit 3)))
      (.skip)))
    (.seq (.region false [
      ⟨some 117, none, .faddr 1 (.t 13)⟩,
      ⟨some 118, none, .load1 (.t 117)⟩,
      ⟨some 119, none, .call 49 [(.t 118), (.c (.int .i64 2))]⟩,
      ⟨some 116, none, .mov (.t 119)⟩,
      ⟨some 120, none, .ext 0 (.t 116)⟩,
      ⟨some 121, none, .ext 1 (.t 116)⟩,
      ⟨some 122, none, .ext 2 (.t 116)⟩,
      ⟨some 14, none, .mov (.t 120)⟩,
      ⟨some 15, none, .mov (.t 121)⟩,
      ⟨some 16, none, .mov (.t 122)⟩])
    (.seq (.seq (.region false [
      ⟨some 123, none, .faddr 0 (.t 13)⟩,
      ⟨some 124, none, .load1 (.t 123)⟩,
      ⟨some 125, none, .bin .neq (.t 124) (.c (.int .i64 2))⟩,
      ⟨some 126, none, .mov (.t 125)⟩,
      ⟨some 127, some (126, false), .mov (.t 16)⟩,
      ⟨some 128, some (126, false), .not (.t 127)⟩,
      ⟨some 129, none, .pick (.t 126) (.c (.bool true)) (.t 128)⟩])
    (.cond (.t 129)
      (.exit 2)
      (.skip)))
    (.seq (.region false [
      ⟨some 131, none, .mov (.t 15)⟩,
      ⟨some 132, none, .call 50 [(.t 131)]⟩,
      ⟨some 130, none, .mov (.t 132)⟩,
      ⟨some 133, none, .ext 0 (.t 130)⟩,
      ⟨some 134, none, .ext 1 (.t 130)⟩,
      ⟨some 17, none, .mov (.t 133)⟩,
      ⟨some 18, none, .mov (.t 134)⟩])
    (.seq (.region true [
      ⟨some 135, none, .mov (.t 14)⟩,
      ⟨some 136, none, .iaddr 1 (.t 135) (.c (.int .i64 0))⟩,
      ⟨some 137, none, .load1 (.t 136)⟩,
      ⟨some 138, none, .mov (.t 14)⟩,
      ⟨some 139, none, .iaddr 1 (.t 138) (.c (.int .i64 1))⟩,
      ⟨some 140, none, .load1 (.t 139)⟩,
      ⟨some 141, none, .mov (.t 17)⟩,
      ⟨some 142, none, .build [(.int .i64 0), (.int .i64 0), (.slice none 0 0)] [(0, 1, (.t 137)), (1, 1, (.t 140)), (2, 1, (.t 141))]⟩,
      ⟨some 19, none, .alloc 98 [(.int .i64 0), (.int .i64 0), (.slice none 0 0)]⟩,
      ⟨none, none, .store 3 (.t 19) (.t 142)⟩])
    (.seq (.seq (.region false [
      ⟨some 143, none, .mov (.t 18)⟩,
      ⟨some 144, none, .bin .neq (.t 143) (.c (.int .i64 0))⟩,
      ⟨some 145, none, .mov (.t 144)⟩,
      ⟨some 146, some (145, false), .loadn 38 (.t 9)⟩,
      ⟨some 147, some (145, false), .mov (.t 11)⟩,
      ⟨some 148, some (145, false), .len true (.t 147)⟩,
      ⟨some 149, some (145, false), .loadn 3 (.t 19)⟩,
      ⟨some 150, some (145, false), .call 51 [(.t 146), (.t 148), (.t 149)]⟩,
      ⟨some 151, some (145, false), .bin .neq (.t 150) (.c (.int .i64 0))⟩,
      ⟨some 152, none, .pick (.t 145) (.c (.bool true)) (.t 151)⟩])
    (.cond (.t 152)
      (.exit 2)
      (.skip)))
    (.seq (.region false [
      ⟨some 154, none, .mov (.t 17)⟩,
      ⟨some 155, none, .mov (.t 11)⟩,
      ⟨some 156, none, .call 42 [(.t 154), (.t 155)]⟩,
      ⟨some 153, none, .mov (.t 156)⟩,
      ⟨some 157, none, .ext 0 (.t 153)⟩,
      ⟨some 158, none, .ext 1 (.t 153)⟩,
      ⟨some 11, none, .mov (.t 157)⟩])
    (.seq (.region false [
      ⟨some 159, none, .faddr 35 (.t 9)⟩,
      ⟨some 160, none, .load1 (.t 159)⟩,
      ⟨some 161, none, .loadn 3 (.t 19)⟩,
      ⟨some 162, none, .bslice 98 3 [(.t 161)]⟩,
      ⟨some 163, none, .append 98 3 40 (.t 160) (.t 162)⟩,
      ⟨some 164, none, .faddr 35 (.t 9)⟩,
      ⟨none, none, .store 1 (.t 164) (.t 163)⟩])
    (.seq (.region false [
      ⟨some 165, none, .faddr 0 (.t 19)⟩,
      ⟨some 166, none, .load1 (.t 165)⟩,
      ⟨some 167, none, .faddr 1 (.t 19)⟩,
      ⟨some 168, none, .load1 (.t 167)⟩,
      ⟨some 169, none, .faddr 1 (.t 9)⟩,
      ⟨some 170, none, .load1 (.t 169)⟩,
      ⟨some 171, none, .faddr 35 (.t 9)⟩,
      ⟨some 172, none, .load1 (.t 171)⟩,
      ⟨some 173, none, .len false (.t 172)⟩,
      ⟨some 174, none, .bin .add (.t 170) (.t 173)⟩,
      ⟨some 175, none, .build [(.int .i64 0), (.int .i64 0)] [(0, 1, (.t 168)), (1, 1, (.t 174))]⟩,
      ⟨some 176, none, .faddr 19 (.t 9)⟩,
      ⟨some 177, none, .iarr 8 2 (.t 176) (.t 166)⟩,
      ⟨none, none, .store 2 (.t 177) (.t 175)⟩])
    (.region false [
      ⟨some 178, none, .faddr 37 (.t 9)⟩,
      ⟨some 179, none, .load1 (.t 178)⟩,
      ⟨some 180, none, .faddr 1 (.t 13)⟩,
      ⟨some 181, none, .load1 (.t 180)⟩,
      ⟨some 182, none, .len true (.t 181)⟩,
      ⟨some 183, none, .bin .add (.c (.int .i64 7)) (.t 182)⟩,
      ⟨some 184, none, .bin .add (.t 179) (.t 183)⟩,
      ⟨some 185, none, .faddr 37 (.t 9)⟩,
      ⟨none, none, .store 1 (.t 185) (.t 184)⟩]))))))))))))
    (.region false [
      ⟨some 186, none, .bin .add (.t 94) (.c (.int .i64 1))⟩,
      ⟨some 94, none, .mov (.t 186)⟩])))))))
  (.seq (.region false [
    ⟨some 187, none, .loadn 38 (.t 9)⟩,
    ⟨none, none, .store 38 (.t 2) (.t 187)⟩,
    ⟨some 3, none, .mov (.c (.int .i64 0))⟩])
  (.ret)))))))))))
theorem ok_rlog : FnOk Try.prog 15 Try.f15 ac_rlog [.cn 2 38, .t 3] 1 drawD := ⟨Try.func15, by decide +kernel, by kernel_rfl, by kernel_rfl, by decide +kernel⟩
structure YL8 (F : Nat → Int) where
  i : Nat
  k : Int
  f : Nat → Int
  hi : i ≤ 8
  hk : k = (i : Int)
  hf : ∀ j, j < 16 → f j = if j < 2 * i then F j else 0
theorem vc_rlog (P : Prim) (hP : P = std) (T T1 : CallT) (s : List UInt8) (Fs : List Frame) (hfs : ∀ f ∈ Fs, f.body.length ≤ 4000) (hfl : Fs.length ≤ 1048576) (frs : List (List V)) (hfrs : frs = frRows Fs) (fn : Int)
    (h1 : Ans T 48 [.str s] (.tup [.sl false 2 frs, .int .i64 fn])) (hg hb : List UInt8 → Int) (ht : List UInt8 → List UInt8) (hf : List UInt8 → Nat → Int) (ho : List UInt8 → Bool)
    (nr : List UInt8 → List (List V)) (no : List UInt8 → Bool) (nt : List UInt8 → List UInt8) (h2 : ∀ x, x.length ≤ 4000 → Ans T 49 [.str x, .int .i64 18] (.tup [.sl false 1 (nr x), .str (nt x), .bool (no x)]))
    (hnr : ∀ x, no x = true → nr x = iRows (hg x :: hb x :: (List.range 16).map (hf x)) ∧ nt x = ht x) (hho : ∀ x, ho x = (no x && decide ((nt x).length ≤ 500))) (hbb : ∀ x, 0 ≤ hb x ∧ hb x ≤ 2147483647)
    (nr2 : List UInt8 → List (List V)) (no2 : List UInt8 → Bool) (nt2 : List UInt8 → List UInt8) (h3 : ∀ x, x.length ≤ 4000 → Ans T 49 [.str x, .int .i64 2] (.tup [.sl false 1 (nr2 x), .str (nt2 x), .bool (no2 x)]))
    (rw rq : List UInt8 → Int) (rd : List UInt8 → List (List V)) (ro : List UInt8 → Bool) (e2 : List UInt8 → Int) (hnr2 : ∀ x, no2 x = true → nr2 x = iRows [rw x, rq x])
    (h3b : ∀ x, x.length ≤ 4000 → no2 x = true → Ans T 50 [.str (nt2 x)] (.tup [.sl false 3 (rd x), .int .i64 (e2 x)]))
    (hrv : ∀ x, rw x = (revB x).who ∧ rq x = (revB x).seq ∧ rd x = (revB x).delta.map encPart ∧ ro x = revOk x) (hro : ∀ x, ro x = true ↔ (no2 x = true ∧ e2 x = 0 ∧ oneF (revB x) = 0))
    (nx : Int → (Nat → Int) → Nat → Int → Rev → Int) (h4 : NxC T 51 nx) (hnx : ∀ b tb n sz r, nx b tb n sz r = nextF b tb n sz r)
    (dt : List UInt8 → List UInt8 → List UInt8) (de : List UInt8 → List UInt8 → Int) (h5 : ∀ x now, Ans T 42 [.sl false 3 (rd x), .str now] (.tup [.str (dt x now), .int .i64 (de x now)])) (hdt : ∀ x now, dt x now = (doF (revB x).delta now).1)
    (rl : LogD) (re : Int) (hr : readG hg hb ht hf ho Fs = (rl, re))
    (R : S → Prop) (hR : RetLog [.cn 2 38, .t 3] rl re R) : awp P T T1 ac_rlog (S0 [.str s] Hp.emp) R (fun _ _ => False) R := by
  have hl1 : P.rlen frs = (Fs.length : Int) := by rw [rlen_eq hP, hfrs]; simp [frRows]
  have z0 : P.leP 0 0 := le0 hP (by decide)
  have z1 : P.leP 0 1 := le0 hP (by decide)
  have hnl8 : ∀ i : Nat, i < 8 → P.leP 0 (i : Int) ∧ P.ltP (i : Int) 8 := fun i hi => ⟨le0 hP (by omega), ltI hP (by omega)⟩
  have hN : ∀ i : Nat, P.nat (i : Int) = i := fun i => by subst hP; rfl
  cbv
  intro β2
  cbv
  refine h1 _ _ ?_
  cbv
  rcases Fs with _ | ⟨⟨k0, b0⟩, fs⟩
  · have e0 : P.rlen frs = 0 := by rw [hl1]; rfl
    simp only [readG, Prod.mk.injEq] at hr
    refine br_tt (eq_T hP e0) ?_
    cbv
    repeat' (first
      | (refine And.intro (by first | assumption | decide) ?_; try cbv)
      | (intro β9; try cbv))
    exact hR _ _ _ _ _ _ (fun _ => 0) (fun _ => 0) _ _ [] _ (Ent.refl _) ⟨rfl, rfl, Nat.zero_lt_succ 0, Nat.le_refl 38, rfl⟩ (.inl ⟨rfl, rfl⟩) ⟨by rw [← hr.1]; rfl, by rw [← hr.1]; rfl, by rw [← hr.1]; rfl, by rw [← hr.1]; rfl, fun _ _ => by rw [← hr.1]; rfl, fun _ _ => by rw [← hr.1]; rfl, by rw [← hr.1]; rfl, by rw [← hr.1]; rfl, hr.2⟩
  have e0 : ¬ P.rlen frs = 0 := by rw [hl1]; simp only [List.length_cons]; ((try simp only [nc] at *); omega)
  have row0 : P.row frs (P.nat 0) [.int .i64 k0, .str b0] := row_of hP (i := 0) rfl (by rw [hfrs]; rfl)
  have hb4 : b0.length ≤ 4000 := hfs ⟨k0, b0⟩ (by simp)
  have c2 := h2 b0 hb4
  have hnr0 := hnr b0
  have hho0 := hho b0
  have hbb0 := hbb b0
  simp only [readG] at hr
  have bad : (k0 ≠ 1 ∨ ho b0 = false) → zeroL = rl ∧ 3 = re := fun h => by
    rw [if_pos h] at hr; simpa using hr
  clear h2 hnr hho hbb
  refine br_ff (eq_F hP e0) ?_
  cbv
  repeat' (first
    | (refine And.intro (by first | assumption | decide) ?_; try cbv)
    | (intro β9; try cbv))
  refine ⟨_, row0, ?_⟩
  cbv
  repeat' (first
    | (refine And.intro (by first | assumption | decide) ?_; try cbv)
    | (intro β9; try cbv))
  refine c2 _ _ ?_
  cbv
  repeat' (first
    | (refine And.intro (by first | assumption | decide) ?_; try cbv)
    | (intro β9; try cbv))
  refine ⟨_, row0, ?_⟩
  cbv
  clear c2
  refine br_cases (fun g => ?_) (fun g => ?_)
  · obtain ⟨r1, r2⟩ := bad (.inl (ne_t hP g))
    cbv
    repeat' (first
      | (refine And.intro (by first | assumption | decide) ?_; try cbv)
      | (intro β9; try cbv))
    exact hR _ _ _ _ _ _ (fun _ => 0) (fun _ => 0) _ _ [] _ (Ent.refl _) ⟨rfl, rfl, Nat.zero_lt_succ 0, Nat.le_refl 38, rfl⟩ (.inl ⟨rfl, rfl⟩) ⟨by rw [← r1]; rfl, by rw [← r1]; rfl, by rw [← r1]; rfl, by rw [← r1]; rfl, fun _ _ => by rw [← r1]; rfl, fun _ _ => by rw [← r1]; rfl, by rw [← r1]; rfl, by rw [← r1]; rfl, r2⟩
  have hk1 : k0 = 1 := ne_f hP g
  cbv
  refine br_cases (fun g => ?_) (fun g => ?_)
  rotate_left
  · obtain ⟨r1, r2⟩ := bad (.inr (by rw [hho0, g]; rfl))
    cbv
    repeat' (first
      | (refine And.intro (by first | assumption | decide) ?_; try cbv)
      | (intro β9; try cbv))
    exact hR _ _ _ _ _ _ (fun _ => 0) (fun _ => 0) _ _ [] _ (Ent.refl _) ⟨rfl, rfl, Nat.zero_lt_succ 0, Nat.le_refl 38, rfl⟩ (.inl ⟨rfl, rfl⟩) ⟨by rw [← r1]; rfl, by rw [← r1]; rfl, by rw [← r1]; rfl, by rw [← r1]; rfl, fun _ _ => by rw [← r1]; rfl, fun _ _ => by rw [← r1]; rfl, by rw [← r1]; rfl, by rw [← r1]; rfl, r2⟩
  have hno := g
  obtain ⟨hn1, hn2⟩ := hnr0 hno
  rw [hno] at hho0
  cbv
  refine br_cases (fun g => ?_) (fun g => ?_)
  · have g5 : 500 < P.slen (nt b0) := lt_t hP g
    rw [slen_eq hP] at g5
    obtain ⟨r1, r2⟩ := bad (.inr (by rw [hho0, decide_eq_false (by ((try simp only [nc] at *); omega))]; rfl))
    cbv
    repeat' (first
      | (refine And.intro (by first | assumption | decide) ?_; try cbv)
      | (intro β9; try cbv))
    exact hR _ _ _ _ _ _ (fun _ => 0) (fun _ => 0) _ _ [] _ (Ent.refl _) ⟨rfl, rfl, Nat.zero_lt_succ 0, Nat.le_refl 38, rfl⟩ (.inl ⟨rfl, rfl⟩) ⟨by rw [← r1]; rfl, by rw [← r1]; rfl, by rw [← r1]; rfl, by rw [← r1]; rfl, fun _ _ => by rw [← r1]; rfl, fun _ _ => by rw [← r1]; rfl, by rw [← r1]; rfl, by rw [← r1]; rfl, r2⟩
  have g5 : ¬ 500 < P.slen (nt b0) := lt_f hP g
  rw [slen_eq hP] at g5
  have hok : ho b0 = true := by rw [hho0, decide_eq_true (by ((try simp only [nc] at *); omega))]; rfl
  rw [if_neg (by rw [hok]; simp [hk1])] at hr
  simp only [Prod.mk.injEq] at hr
  obtain ⟨hrl, hre⟩ := hr
  obtain ⟨L0, hL0⟩ : ∃ L, L = headG (hg b0) (hb b0) (ht b0) (hf b0) ((b0.length : Int) + 7) := ⟨_, rfl⟩
  have l01 : hg b0 = L0.gen := by rw [hL0]; rfl
  have l02 : hb b0 = L0.base := by rw [hL0]; rfl
  have l03 : ht b0 = L0.text := by rw [hL0]; rfl
  have l04 : ∀ j, hf b0 j = L0.first j := fun j => by rw [hL0]; rfl
  have l05 : hf b0 = L0.table := by rw [hL0]; rfl
  have l06 : L0.revs = [] := by rw [hL0]; rfl
  have l07 : false = L0.whole := by rw [hL0]; rfl
  have l08 : L0.good = (b0.length : Int) + 7 := by rw [hL0]; rfl
  have l09 : 0 ≤ L0.base ∧ L0.base ≤ 2147483647 := by rw [hL0]; exact hbb0
  rw [← hL0] at hrl
  clear hL0
  have n0 : P.row (nr b0) (P.nat 0) [.int .i64 (hg b0)] := row_of hP (i := 0) rfl (by rw [hn1]; rfl)
  have n1 : P.row (nr b0) (P.nat 1) [.int .i64 (hb b0)] := row_of hP (i := 1) rfl (by rw [hn1]; rfl)
  have nj : ∀ (j : Nat) (k : Int), k = ((j + 2 : Nat) : Int) → j < 16 → P.row (nr b0) (P.nat k) [.int .i64 (hf b0 j)] := fun j k hk hj => row_of hP hk (by
    rw [hn1, iRows, List.getElem?_map]
    show ((List.map (hf b0) (List.range 16))[j]?).map _ = _
    rw [List.getElem?_map, List.getElem?_range hj]; rfl)
  rw [hn2]
  generalize nr b0 = nrr at n0 n1 nj ⊢
  have g1 : P.add 7 (P.slen b0) = (b0.length : Int) + 7 := by rw [add_eq hP, slen_eq hP]; omega
  have g2 : P.i64 (P.add 7 (P.slen b0)) := by rw [g1]; exact i64I hP (by ((try simp only [nc] at *); omega))
  have z2 : P.leP 1 (P.rlen frs) := leI hP (by rw [hl1]; simp only [List.length_cons]; ((try simp only [nc] at *); omega))
  have z3 : P.leP (P.rlen frs) (P.rlen frs) := leI hP (Int.le_refl _)
  have esub : P.rsub frs 1 (P.rlen frs) = frRows fs := by
    rw [hl1, hfrs]; subst hP
    show ((frRows (⟨k0, b0⟩ :: fs)).take ((((⟨k0, b0⟩ : Frame) :: fs).length : Int)).toNat).drop 1 = _
    rw [Int.toNat_natCast, List.take_of_length_le (by simp [frRows])]; rfl
  obtain ⟨fr2, hfr2⟩ : ∃ fr2, fr2 = P.rsub frs 1 (P.rlen frs) := ⟨_, rfl⟩
  have hl2 : P.rlen fr2 = (fs.length : Int) := by rw [rlen_eq hP, hfr2, esub]; simp [frRows]
  clear bad g hnr0 hn1 hn2 hno hok hho0
  cbv
  repeat' (first
    | (refine And.intro (by first | assumption | decide) ?_; try cbv)
    | (intro β9; try cbv))
  refine ⟨_, n0, ?_⟩
  cbv
  repeat' (first
    | (refine And.intro (by first | assumption | decide) ?_; try cbv)
    | (intro β9; try cbv))
  refine ⟨_, n1, ?_⟩
  cbv
  repeat' (first
    | (refine And.intro (by first | assumption | decide) ?_; try cbv)
    | (intro β9; try cbv))
  refine ⟨_, row0, ?_⟩
  cbv
  repeat' (first
    | (refine And.intro (by first | assumption | decide) ?_; try cbv)
    | (intro β6; try cbv))
  refine ⟨YL8 (hf b0), fun y => [(2, .ptr 2 (some β2) 38 0 0), (4, .sl false 2 frs), (6, .sl false 1 nrr), (7, .str (ht b0)), (9, .ptr 9 (some β6) 38 0 0), (67, .int .i64 y.k)],
    fun y => [(2, ⟨some β2, 37, 38, [[.int .i64 0, .int .i64 0, .str [], .int .i64 0, .int .i64 0, .int .i64 0, .int .i64 0, .int .i64 0, .int .i64 0, .int .i64 0, .int .i64 0, .int .i64 0, .int .i64 0, .int .i64 0, .int .i64 0, .int .i64 0, .int .i64 0, .int .i64 0, .int .i64 0, .int .i64 0, .int .i64 0, .int .i64 0, .int .i64 0, .int .i64 0, .int .i64 0, .int .i64 0, .int .i64 0, .int .i64 0, .int .i64 0, .int .i64 0, .int .i64 0, .int .i64 0, .int .i64 0, .int .i64 0, .int .i64 0, .nilsl, .bool false, .int .i64 0]]⟩), (9, ⟨some β6, 37, 38, [[.int .i64 (hg b0), .int .i64 (hb b0), .str (ht b0), .int .i64 (y.f 0), .int .i64 (y.f 1), .int .i64 (y.f 2), .int .i64 (y.f 3), .int .i64 (y.f 4), .int .i64 (y.f 5), .int .i64 (y.f 6), .int .i64 (y.f 7), .int .i64 (y.f 8), .int .i64 (y.f 9), .int .i64 (y.f 10), .int .i64 (y.f 11), .int .i64 (y.f 12), .int .i64 (y.f 13), .int .i64 (y.f 14), .int .i64 (y.f 15), .int .i64 0, .int .i64 0, .int .i64 0, .int .i64 0, .int .i64 0, .int .i64 0, .int .i64 0, .int .i64 0, .int .i64 0, .int .i64 0, .int .i64 0, .int .i64 0, .int .i64 0, .int .i64 0, .int .i64 0, .int .i64 0, .nilsl, .bool false, .int .i64 (P.add 7 (P.slen b0))]]⟩)], fun y => 8 - y.i,
    ⟨_, Ent.refl _, ⟨0, 0, fun _ => 0, by omega, rfl, fun j _ => by simp⟩, ⟨rfl, rfl, rfl, rfl, rfl, rfl, trivial⟩, ⟨rfl, rfl, trivial⟩⟩, ?_⟩
  rintro ⟨i, k, f, hi, hk, hff⟩
  cbv
  refine br_cases (fun g => ?_) (fun g => ?_)
  · have h5' : k < 8 := lt_t hP g
    have hi8 : i < 8 := by ((try simp only [nc] at *); omega)
    have q1 : P.leP 0 k := (by have := (hnl8 i hi8).1; rw [← hk] at this; exact this)
    have q2 : P.ltP k 8 := (by have := (hnl8 i hi8).2; rw [← hk] at this; exact this)
    have m3 : P.i64 (P.add k 1) := by rw [add_eq hP]; exact i64I hP (by ((try simp only [nc] at *); omega))
    have e1 : P.add k 1 = ((i + 1 : Nat) : Int) := by rw [add_eq hP, hk]; ((try simp only [nc] at *); omega)
    have hNk : P.nat k = i := by rw [hk]; exact hN i
    have em : P.mul 2 k = ((2 * i : Nat) : Int) := by subst hP; show 2 * k = _; ((try simp only [nc] at *); omega)
    have m4 : P.i64 (P.mul 2 k) := by rw [em]; exact i64I hP (by omega)
    have ea : P.add 2 (P.mul 2 k) = ((2 * i + 2 : Nat) : Int) := by rw [add_eq hP, em]; ((try simp only [nc] at *); omega)
    have eb : P.add 3 (P.mul 2 k) = (((2 * i + 1) + 2 : Nat) : Int) := by rw [add_eq hP, em]; ((try simp only [nc] at *); omega)
    have m5 : P.i64 (P.add 2 (P.mul 2 k)) := by rw [ea]; exact i64I hP (by omega)
    have m6 : P.i64 (P.add 3 (P.mul 2 k)) := by rw [eb]; exact i64I hP (by omega)
    have m7 : P.leP 0 (P.add 2 (P.mul 2 k)) := le0 hP (by rw [ea]; omega)
    have m8 : P.leP 0 (P.add 3 (P.mul 2 k)) := le0 hP (by rw [eb]; omega)
    have r1 := nj (2 * i) _ ea (by omega)
    have r2 := nj (2 * i + 1) _ eb (by omega)
    have fin : ∀ f' : Nat → Int, f' (2 * i) = hf b0 (2 * i) → f' (2 * i + 1) = hf b0 (2 * i + 1) → (∀ j, j ≠ 2 * i → j ≠ 2 * i + 1 → f' j = f j) → ∀ j, j < 16 → f' j = if j < 2 * (i + 1) then hf b0 j else 0 := by
      intro f' a b c j hj
      by_cases j1 : j = 2 * i
      · subst j1; rw [a, if_pos (by omega)]
      · by_cases j2 : j = 2 * i + 1
        · subst j2; rw [b, if_pos (by omega)]
        · rw [c j j1 j2, hff j hj]
          by_cases j3 : j < 2 * i
          · rw [if_pos j3, if_pos (by omega)]
          · rw [if_neg j3, if_neg (by omega)]
    generalize hf b0 (2 * i) = v3 at r1 fin
    generalize hf b0 (2 * i + 1) = v4 at r2 fin
    have hc : i = 0 ∨ i = 1 ∨ i = 2 ∨ i = 3 ∨ i = 4 ∨ i = 5 ∨ i = 6 ∨ i = 7 := by omega
    clear hR h5' g nj n0 n1 em ea eb
    cbv
    repeat' (first
      | (refine And.intro (by first | assumption | decide) ?_; try cbv)
      | (intro β9; try cbv))
    refine ⟨_, r1, ?_⟩
    cbv
    repeat' (first
      | (refine And.intro (by first | assumption | decide) ?_; try cbv)
      | (intro β9; try cbv))
    refine ⟨_, r2, ?_⟩
    cbv
    repeat' (first
      | (refine And.intro (by first | assumption | decide) ?_; try cbv)
      | (intro β9; try cbv))
    rcases hc with rfl | rfl | rfl | rfl | rfl | rfl | rfl | rfl
    · refine ⟨0, hNk, ?_⟩
      cbv
      refine ⟨m3, ?_⟩
      exact ⟨_, Ent.refl _, ⟨0 + 1, _, fun j => if j = 0 then v3 else if j = 1 then v4 else f j, by decide, e1, fin _ rfl rfl (fun j h1 h2 => (if_neg h1).trans (if_neg h2))⟩, ⟨rfl, rfl, rfl, rfl, rfl, rfl, trivial⟩, ⟨rfl, rfl, trivial⟩, by show 8 - (0 + 1) < 8 - 0; decide⟩
    · refine ⟨1, hNk, ?_⟩
      cbv
      refine ⟨m3, ?_⟩
      exact ⟨_, Ent.refl _, ⟨1 + 1, _, fun j => if j = 2 then v3 else if j = 3 then v4 else f j, by decide, e1, fin _ rfl rfl (fun j h1 h2 => (if_neg h1).trans (if_neg h2))⟩, ⟨rfl, rfl, rfl, rfl, rfl, rfl, trivial⟩, ⟨rfl, rfl, trivial⟩, by show 8 - (1 + 1) < 8 - 1; decide⟩
    · refine ⟨2, hNk, ?_⟩
      cbv
      refine ⟨m3, ?_⟩
      exact ⟨_, Ent.refl _, ⟨2 + 1, _, fun j => if j = 4 then v3 else if j = 5 then v4 else f j, by decide, e1, fin _ rfl rfl (fun j h1 h2 => (if_neg h1).trans (if_neg h2))⟩, ⟨rfl, rfl, rfl, rfl, rfl, rfl, trivial⟩, ⟨rfl, rfl, trivial⟩, by show 8 - (2 + 1) < 8 - 2; decide⟩
    · refine ⟨3, hNk, ?_⟩
      cbv
      refine ⟨m3, ?_⟩
      exact ⟨_, Ent.refl _, ⟨3 + 1, _, fun j => if j = 6 then v3 else if j = 7 then v4 else f j, by decide, e1, fin _ rfl rfl (fun j h1 h2 => (if_neg h1).trans (if_neg h2))⟩, ⟨rfl, rfl, rfl, rfl, rfl, rfl, trivial⟩, ⟨rfl, rfl, trivial⟩, by show 8 - (3 + 1) < 8 - 3; decide⟩
    · refine ⟨4, hNk, ?_⟩
      cbv
      refine ⟨m3, ?_⟩
      exact ⟨_, Ent.refl _, ⟨4 + 1, _, fun j => if j = 8 then v3 else if j = 9 then v4 else f j, by decide, e1, fin _ rfl rfl (fun j h1 h2 => (if_neg h1).trans (if_neg h2))⟩, ⟨rfl, rfl, rfl, rfl, rfl, rfl, trivial⟩, ⟨rfl, rfl, trivial⟩, by show 8 - (4 + 1) < 8 - 4; decide⟩
    · refine ⟨5, hNk, ?_⟩
      cbv
      refine ⟨m3, ?_⟩
      exact ⟨_, Ent.refl _, ⟨5 + 1, _, fun j => if j = 10 then v3 else if j = 11 then v4 else f j, by decide, e1, fin _ rfl rfl (fun j h1 h2 => (if_neg h1).trans (if_neg h2))⟩, ⟨rfl, rfl, rfl, rfl, rfl, rfl, trivial⟩, ⟨rfl, rfl, trivial⟩, by show 8 - (5 + 1) < 8 - 5; decide⟩
    · refine ⟨6, hNk, ?_⟩
      cbv
      refine ⟨m3, ?_⟩
      exact ⟨_, Ent.refl _, ⟨6 + 1, _, fun j => if j = 12 then v3 else if j = 13 then v4 else f j, by decide, e1, fin _ rfl rfl (fun j h1 h2 => (if_neg h1).trans (if_neg h2))⟩, ⟨rfl, rfl, rfl, rfl, rfl, rfl, trivial⟩, ⟨rfl, rfl, trivial⟩, by show 8 - (6 + 1) < 8 - 6; decide⟩
    · refine ⟨7, hNk, ?_⟩
      cbv
      refine ⟨m3, ?_⟩
      exact ⟨_, Ent.refl _, ⟨7 + 1, _, fun j => if j = 14 then v3 else if j = 15 then v4 else f j, by decide, e1, fin _ rfl rfl (fun j h1 h2 => (if_neg h1).trans (if_neg h2))⟩, ⟨rfl, rfl, rfl, rfl, rfl, rfl, trivial⟩, ⟨rfl, rfl, trivial⟩, by show 8 - (7 + 1) < 8 - 7; decide⟩
  have h5' : ¬ k < 8 := lt_f hP g
  have hi8 : i = 8 := by ((try simp only [nc] at *); omega)
  subst hi8
  have hff2 : ∀ j, j < 16 → f j = hf b0 j := fun j hj => by rw [hff j hj, if_pos (by omega)]
  clear nj n0 n1 h5' g e0
  cbv
  repeat' (first
    | (refine And.intro (by first | assumption | decide) ?_; try cbv)
    | (intro β9; try cbv))
  rw [← hfr2, hff2 0 (by decide), hff2 1 (by decide), hff2 2 (by decide), hff2 3 (by decide), hff2 4 (by decide), hff2 5 (by decide), hff2 6 (by decide), hff2 7 (by decide), hff2 8 (by decide), hff2 9 (by decide), hff2 10 (by decide), hff2 11 (by decide), hff2 12 (by decide), hff2 13 (by decide), hff2 14 (by decide), hff2 15 (by decide)]
  clear hff hff2
  clear f
  refine ⟨YRd fs L0 (ht b0), fun y => [(2, .ptr 2 (some β2) 38 0 0), (9, .ptr 9 (some β6) 38 0 0), (11, .str y.now), (92, .sl false 2 fr2), (93, .int .i64 (P.rlen fr2)), (94, .int .i64 y.k)],
    fun y => [(2, ⟨some β2, 37, 38, [[.int .i64 0, .int .i64 0, .str [], .int .i64 0, .int .i64 0, .int .i64 0, .int .i64 0, .int .i64 0, .int .i64 0, .int .i64 0, .int .i64 0, .int .i64 0, .int .i64 0, .int .i64 0, .int .i64 0, .int .i64 0, .int .i64 0, .int .i64 0, .int .i64 0, .int .i64 0, .int .i64 0, .int .i64 0, .int .i64 0, .int .i64 0, .int .i64 0, .int .i64 0, .int .i64 0, .int .i64 0, .int .i64 0, .int .i64 0, .int .i64 0, .int .i64 0, .int .i64 0, .int .i64 0, .int .i64 0, .nilsl, .bool false, .int .i64 0]]⟩), (9, ⟨some β6, 37, 38, [[.int .i64 y.gn, .int .i64 y.b, .str y.tx, .int .i64 (y.fs' 0), .int .i64 (y.fs' 1), .int .i64 (y.fs' 2), .int .i64 (y.fs' 3), .int .i64 (y.fs' 4), .int .i64 (y.fs' 5), .int .i64 (y.fs' 6), .int .i64 (y.fs' 7), .int .i64 (y.fs' 8), .int .i64 (y.fs' 9), .int .i64 (y.fs' 10), .int .i64 (y.fs' 11), .int .i64 (y.fs' 12), .int .i64 (y.fs' 13), .int .i64 (y.fs' 14), .int .i64 (y.fs' 15), .int .i64 (y.tb 0), .int .i64 (y.tb 1), .int .i64 (y.tb 2), .int .i64 (y.tb 3), .int .i64 (y.tb 4), .int .i64 (y.tb 5), .int .i64 (y.tb 6), .int .i64 (y.tb 7), .int .i64 (y.tb 8), .int .i64 (y.tb 9), .int .i64 (y.tb 10), .int .i64 (y.tb 11), .int .i64 (y.tb 12), .int .i64 (y.tb 13), .int .i64 (y.tb 14), .int .i64 (y.tb 15), .own 1000163 y.ba 3 y.n, .bool y.wh, .int .i64 y.gd]]⟩), (1000163, ⟨y.ba, 98, 3, y.rows⟩)], fun y => y.rest.length,
    ⟨_, Ent.nilcell (k := 9) (k' := 1000163) (ty := 98) (sz := 3) (r := 0) (c := 35) rfl rfl rfl rfl, ⟨0, [], fs, L0, ht b0, none, 0, [], hg b0, hb b0, P.add 7 (P.slen b0), ht b0, hf b0, hf b0, false, rfl, rfl, rfl, by rw [l06]; rfl, by rw [l06]; rfl, rfl, by rw [l06]; exact Nat.zero_le _, ⟨by rw [l08]; exact Int.add_nonneg (Int.natCast_nonneg _) (by decide), by rw [l08]; show (b0.length : Int) + 7 ≤ 4007 * (0 + 1); ((try simp only [nc] at *); omega)⟩, ⟨l01, l02, by rw [g1, l08], l03, fun j _ => l04 j, l05, l07⟩⟩, ⟨rfl, rfl, rfl, rfl, rfl, rfl, trivial⟩, ⟨rfl, rfl, rfl, trivial⟩⟩, ?_⟩
  rintro ⟨k, pre, rest, L, now, ba, n, rows, gn, b, gd, tx, fs', tb, wh, hd, hk, hall, hn, hrows, hb0, hlen, hgd, he⟩
  rw [hrl] at hall
  replace hk : k = (pre.length : Int) := hk
  have hlp : pre.length + rest.length = fs.length := by rw [hd]; simp
  simp only [List.length_cons] at hfl
  obtain ⟨he1, he2, he3, he4, he5, he6, he7⟩ := he
  have hnl : n = rows.length := by rw [hn, hrows]; simp
  have hbase : 0 ≤ b ∧ b ≤ 2147483647 := by rw [he2, hb0]; exact l09
  have fin : rl = L → gn = rl.gen ∧ b = rl.base ∧ gd = rl.good ∧ tx = rl.text ∧ (∀ j, j < 16 → fs' j = rl.first j) ∧ (∀ j, j < 16 → tb j = rl.table j) ∧ wh = rl.whole ∧ rows = rl.revs.map encRev ∧ (0 : Int) = re := fun h => by
    rw [h]; exact ⟨he1, he2, he3, he4, he5, fun j _ => by rw [he6], he7, hrows, hre⟩
  cbv
  refine br_cases (fun g => ?_) (fun g => ?_)
  rotate_left
  · have h6' : ¬ k < P.rlen fr2 := lt_f hP g
    rw [hl2] at h6'
    rcases rest with _ | ⟨y, rest⟩
    rotate_left
    · exfalso; simp at hlp; ((try simp only [nc] at *); omega)
    cbv
    repeat' (first
      | (refine And.intro (by first | assumption | decide) ?_; try cbv)
      | (intro β9; try cbv))
    exact hR _ _ _ _ _ _ _ _ _ _ _ _ (Ent.refl _) ⟨rfl, rfl, Nat.zero_lt_succ 0, Nat.le_refl 38, rfl⟩ (.inr ⟨1000163, ba, _, n, rfl, rfl, hnl⟩) (fin (hall))
  have h6' : k < P.rlen fr2 := lt_t hP g
  rw [hl2] at h6'
  rcases rest with _ | ⟨⟨kd, bd⟩, rest⟩
  · exfalso; simp at hlp; ((try simp only [nc] at *); omega)
  have hbd : bd.length ≤ 4000 := hfs ⟨kd, bd⟩ (by rw [hd]; simp)
  have row1 : P.row fr2 (P.nat k) [.int .i64 kd, .str bd] := row_of hP hk (by rw [hfr2, esub, frRows, List.getElem?_map, hd]; simp [encFrame])
  have q1 : P.leP 0 k := le0 hP (by ((try simp only [nc] at *); omega))
  have q2 : P.i64 (P.add k 1) := by rw [add_eq hP]; exact i64I hP (by ((try simp only [nc] at *); omega))
  have q3 : P.add k 1 = (((pre ++ [(⟨kd, bd⟩ : Frame)]).length : Nat) : Int) := by rw [add_eq hP, hk]; simp
  have d1 : P.add 7 (P.slen bd) = (bd.length : Int) + 7 := by rw [add_eq hP, slen_eq hP]; omega
  have d2 : P.i64 (P.add 7 (P.slen bd)) := by rw [d1]; exact i64I hP (by ((try simp only [nc] at *); omega))
  have d3 : P.add gd (P.add 7 (P.slen bd)) = L.good + ((bd.length : Int) + 7) := by rw [add_eq hP gd, d1, he3]
  have d4 : P.i64 (P.add gd (P.add 7 (P.slen bd))) := by rw [d3]; exact i64I hP (by ((try simp only [nc] at *); omega))
  have d5 : 0 ≤ L.good + ((bd.length : Int) + 7) ∧ L.good + ((bd.length : Int) + 7) ≤ 4007 * (((pre ++ [(⟨kd, bd⟩ : Frame)]).length : Int) + 1) := by rw [List.length_append]; simp only [List.length_cons, List.length_nil]; ((try simp only [nc] at *); omega)
  have d6 : P.i64 (P.add gd 7) := by rw [add_eq hP, he3]; exact i64I hP (by ((try simp only [nc] at *); omega))
  rw [allL] at hall
  unfold stepL at hall
  simp only [] at hall
  have c3 := h3 bd hbd
  -- what comes behind a frame that is no Done
  have other : ∀ (Q : Prop), Q → Q := fun _ h => h
  clear g
  cbv
  repeat' (first
    | (refine And.intro (by first | assumption | decide) ?_; try cbv)
    | (intro β9; try cbv))
  refine ⟨_, row1, ?_⟩
  cbv
  intro β10
  cbv
  repeat' (first
    | (refine And.intro (by first | assumption | decide) ?_; try cbv)
    | (intro β9; try cbv))
  clear row1
  refine br_cases (fun g => ?_) (fun g => ?_)
  · have hk3 : kd = 3 := eq_t hP g
    rw [if_pos hk3] at hall
    cbv
    repeat' (first
      | (refine And.intro (by first | assumption | decide) ?_; try cbv)
      | (intro β9; try cbv))
    refine br_cases (fun g => ?_) (fun g => ?_)
    · have hbe : bd = [] := seq_t hP g
      cbv
      repeat' (first
        | (refine And.intro (by first | assumption | decide) ?_; try cbv)
        | (intro β9; try cbv))
      rcases wh with _ | _
      · rw [if_neg (by rintro (h | h); rw [← he7] at h; cases h; exact h hbe)] at hall
        have d7 : P.add gd 7 = L.good + ((bd.length : Int) + 7) := by rw [add_eq hP, he3, hbe]; rfl
        cbv
        repeat' (first
          | (refine And.intro (by first | assumption | decide) ?_; try cbv)
          | (intro β9; try cbv))
        exact ⟨_, Ent.refl _, ⟨_, pre ++ [⟨kd, bd⟩], rest, ⟨L.gen, L.base, L.text, L.first, L.table, L.revs, true, L.good + ((bd.length : Int) + 7)⟩, now, ba, n, rows, gn, b, P.add gd 7, tx, fs', tb, true, by simp [hd], q3, hrl.trans hall, hn, hrows, hb0, hlen, d5, ⟨he1, he2, d7, he4, he5, he6, rfl⟩⟩, ⟨rfl, rfl, rfl, rfl, rfl, rfl, trivial⟩, ⟨rfl, rfl, rfl, trivial⟩, by simp⟩
      · rw [if_pos (.inl he7.symm)] at hall
        cbv
        repeat' (first
          | (refine And.intro (by first | assumption | decide) ?_; try cbv)
          | (intro β9; try cbv))
        refine c3 _ _ ?_
        cbv
        repeat' (first
          | (refine And.intro (by first | assumption | decide) ?_; try cbv)
          | (intro β9; try cbv))
        refine br_tt (ne_T hP (by rw [hk3]; decide)) ?_
        cbv
        repeat' (first
          | (refine And.intro (by first | assumption | decide) ?_; try cbv)
          | (intro β9; try cbv))
        exact hR _ _ _ _ _ _ _ _ _ _ _ _ (Ent.refl _) ⟨rfl, rfl, Nat.zero_lt_succ 0, Nat.le_refl 38, rfl⟩ (.inr ⟨1000163, ba, _, n, rfl, rfl, hnl⟩) (fin (hall))
    · rw [if_pos (.inr (seq_f hP g))] at hall
      cbv
      repeat' (first
        | (refine And.intro (by first | assumption | decide) ?_; try cbv)
        | (intro β9; try cbv))
      refine c3 _ _ ?_
      cbv
      repeat' (first
        | (refine And.intro (by first | assumption | decide) ?_; try cbv)
        | (intro β9; try cbv))
      refine br_tt (ne_T hP (by rw [hk3]; decide)) ?_
      cbv
      repeat' (first
        | (refine And.intro (by first | assumption | decide) ?_; try cbv)
        | (intro β9; try cbv))
      exact hR _ _ _ _ _ _ _ _ _ _ _ _ (Ent.refl _) ⟨rfl, rfl, Nat.zero_lt_succ 0, Nat.le_refl 38, rfl⟩ (.inr ⟨1000163, ba, _, n, rfl, rfl, hnl⟩) (fin (hall))
  have hk3 : ¬ kd = 3 := eq_f hP g
  rw [if_neg hk3] at hall
  clear other
  cbv
  repeat' (first
    | (refine And.intro (by first | assumption | decide) ?_; try cbv)
    | (intro β9; try cbv))
  refine c3 _ _ ?_
  cbv
  repeat' (first
    | (refine And.intro (by first | assumption | decide) ?_; try cbv)
    | (intro β9; try cbv))
  refine br_cases (fun g => ?_) (fun g => ?_)
  · have hk2 : ¬ kd = 2 := ne_t hP g
    rw [if_neg hk2] at hall
    cbv
    repeat' (first
      | (refine And.intro (by first | assumption | decide) ?_; try cbv)
      | (intro β9; try cbv))
    exact hR _ _ _ _ _ _ _ _ _ _ _ _ (Ent.refl _) ⟨rfl, rfl, Nat.zero_lt_succ 0, Nat.le_refl 38, rfl⟩ (.inr ⟨1000163, ba, _, n, rfl, rfl, hnl⟩) (fin (hall))
  have hk2 : kd = 2 := ne_f hP g
  rw [if_pos hk2] at hall
  obtain ⟨rv, hrvd⟩ : ∃ rv, rv = revB bd := ⟨_, rfl⟩
  obtain ⟨w1, w2, w3, w4⟩ := hrv bd
  have w5 := hdt bd now
  have w6 := h5 bd now
  have w7 := hro bd
  have w8 := hnr2 bd
  have w9 := h3b bd hbd
  rw [← hrvd] at w1 w2 w3 w5 hall w7
  rw [← w4] at hall
  rw [← w5] at hall
  have hpo : PartsOk rv.delta := by rw [hrvd]; exact readF_ok _
  have hwho : oneF rv = 0 → 0 ≤ rv.who ∧ rv.who ≤ 7 := fun h => ⟨(one_who h).1, (one_who h).2.1⟩
  clear h3 hrv hdt h5 g hro hnr2 h3b c3
  generalize ro bd = okb at w4 w7 hall
  generalize no2 bd = noo at w7 w8 w9 ⊢
  generalize nr2 bd = nr9 at w8 ⊢
  generalize nt2 bd = nt9 at w9 ⊢
  generalize rd bd = dr at w3 w6 w9
  generalize rw bd = wd at w1 w8
  generalize rq bd = qd at w2 w8
  generalize dt bd now = now2 at w6 hall
  generalize de bd now = e6 at w6
  generalize e2 bd = e9 at w7 w9
  cbv
  repeat' (first
    | (refine And.intro (by first | assumption | decide) ?_; try cbv)
    | (intro β9; try cbv))
  rcases noo with _ | _
  · rw [if_neg (by rintro ⟨h, _⟩; have := (w7.1 h).1; cases this)] at hall
    cbv
    repeat' (first
      | (refine And.intro (by first | assumption | decide) ?_; try cbv)
      | (intro β9; try cbv))
    exact hR _ _ _ _ _ _ _ _ _ _ _ _ (Ent.refl _) ⟨rfl, rfl, Nat.zero_lt_succ 0, Nat.le_refl 38, rfl⟩ (.inr ⟨1000163, ba, _, n, rfl, rfl, hnl⟩) (fin (hall))
  have x8 := w8 rfl
  have n0 : P.row nr9 (P.nat 0) [.int .i64 wd] := row_of hP (i := 0) rfl (by rw [x8]; rfl)
  have n1 : P.row nr9 (P.nat 1) [.int .i64 qd] := row_of hP (i := 1) rfl (by rw [x8]; rfl)
  have hnxe : nx b tb L.revs.length (P.slen now) rv = nextF L.base L.table L.revs.length now.length rv := by rw [hnx, he2, he6, slen_eq hP]
  cbv
  repeat' (first
    | (refine And.intro (by first | assumption | decide) ?_; try cbv)
    | (intro β9; try cbv))
  refine w9 rfl _ _ ?_
  cbv
  repeat' (first
    | (refine And.intro (by first | assumption | decide) ?_; try cbv)
    | (intro β9; try cbv))
  refine ⟨_, n0, ?_⟩
  cbv
  repeat' (first
    | (refine And.intro (by first | assumption | decide) ?_; try cbv)
    | (intro β9; try cbv))
  refine ⟨_, n1, ?_⟩
  cbv
  repeat' (first
    | (refine And.intro (by first | assumption | decide) ?_; try cbv)
    | (intro β9; try cbv))
  clear n0 n1 w8 w9 x8
  refine br_cases (fun g => ?_) (fun g => ?_)
  · have hx := ne_t hP g
    rw [if_neg (by rintro ⟨h, _⟩; exact hx (w7.1 h).2.1)] at hall
    cbv
    repeat' (first
      | (refine And.intro (by first | assumption | decide) ?_; try cbv)
      | (intro β9; try cbv))
    exact hR _ _ _ _ _ _ _ _ _ _ _ _ (Ent.refl _) ⟨rfl, rfl, Nat.zero_lt_succ 0, Nat.le_refl 38, rfl⟩ (.inr ⟨1000163, ba, _, n, rfl, rfl, hnl⟩) (fin (hall))
  have hx9 := ne_f hP g
  cbv
  repeat' (first
    | (refine And.intro (by first | assumption | decide) ?_; try cbv)
    | (intro β9; try cbv))
  refine h4 1000163 ba n rows gn b gd (P.slen now) wd qd tx fs' tb wh L.revs dr rv _ _ hrows hn ⟨w1, w2, w3⟩ hpo hbase rfl ?_
  generalize nx b tb L.revs.length (P.slen now) rv = e0 at hnxe ⊢
  cbv
  repeat' (first
    | (refine And.intro (by first | assumption | decide) ?_; try cbv)
    | (intro β9; try cbv))
  refine br_cases (fun g => ?_) (fun g => ?_)
  · have hx := ne_t hP g
    rw [hnxe] at hx
    rw [if_neg (by rintro ⟨_, h⟩; exact hx h)] at hall
    cbv
    repeat' (first
      | (refine And.intro (by first | assumption | decide) ?_; try cbv)
      | (intro β9; try cbv))
    exact hR _ _ _ _ _ _ _ _ _ _ _ _ (Ent.refl _) ⟨rfl, rfl, Nat.zero_lt_succ 0, Nat.le_refl 38, rfl⟩ (.inr ⟨1000163, ba, _, n, rfl, rfl, hnl⟩) (fin (hall))
  have hx := ne_f hP g
  rw [hnxe] at hx
  obtain ⟨x1, x2⟩ := nextF_ok hx
  rw [if_pos ⟨w7.2 ⟨rfl, hx9, x1⟩, hx⟩] at hall
  have hw := hwho x1
  have f4 : P.neP rows n := neP_of hP _ _ hnl.symm
  have f5 : ∀ r, P.bytes (P.add (P.int n) (P.rlen [r])) 40 := by intro r; subst hP; show ((n : Int) + 1) * 40 ≤ _; ((try simp only [nc] at *); omega)
  have f6 : ∀ r, P.neP [r] 1 := by intro r; subst hP; rfl
  have f7 : P.rapp rows [[.int .i64 wd, .int .i64 qd, .sl false 3 dr]] = (L.revs ++ [rv]).map encRev := by rw [hrows, w1, w2, w3]; subst hP; simp [std, encRev, encParts]
  have f8 : P.nadd n (P.rlenN [[.int .i64 wd, .int .i64 qd, .sl false 3 dr]]) = (L.revs ++ [rv]).length := by rw [hn]; subst hP; simp [std]
  have f9 : P.int (P.nadd n (P.rlenN [[.int .i64 wd, .int .i64 qd, .sl false 3 dr]])) = (L.revs.length : Int) + 1 := by rw [f8, int_eq hP]; simp
  have v1 : P.add b (P.int (P.nadd n (P.rlenN [[.int .i64 wd, .int .i64 qd, .sl false 3 dr]]))) = L.base + (L.revs.length : Int) + 1 := by rw [add_eq hP, f9, he2]; omega
  have v2 : P.i64 (P.add b (P.int (P.nadd n (P.rlenN [[.int .i64 wd, .int .i64 qd, .sl false 3 dr]])))) := by rw [v1]; rw [he2] at hbase; exact i64I hP (by ((try simp only [nc] at *); omega))
  obtain ⟨wn, hwn⟩ : ∃ wn : Nat, wn = rv.who.toNat := ⟨_, rfl⟩
  have hwe : wd = (wn : Int) := by rw [w1, hwn]; omega
  have hw8 : wn < 8 := by omega
  have u1 : P.leP 0 wd := le0 hP (by omega)
  have u2 : P.ltP wd 8 := ltI hP (by omega)
  have hNw : P.nat wd = wn := by rw [hwe]; exact hN wn
  cbv
  repeat' (first
    | (refine And.intro (by first | assumption | decide | exact f6 _ | exact f5 _) ?_; try cbv)
    | (intro β9; try cbv))
  refine w6 _ _ ?_
  cbv
  repeat' (first
    | (refine And.intro (by first | assumption | decide | exact f6 _ | exact f5 _) ?_; try cbv)
    | (intro β9; try cbv))
  have fin2 : ∀ tb' : Nat → Int, tb' = addTb tb wn qd (P.add b (P.int (P.nadd n (P.rlenN [[.int .i64 wd, .int .i64 qd, .sl false 3 dr]])))) → tb' = addTb L.table rv.who.toNat rv.seq (L.base + (L.revs.length : Int) + 1) := fun tb' h => by rw [h, v1, w2, hwn, he6]
  have hc : wn = 0 ∨ wn = 1 ∨ wn = 2 ∨ wn = 3 ∨ wn = 4 ∨ wn = 5 ∨ wn = 6 ∨ wn = 7 := by omega
  rcases hc with rfl | rfl | rfl | rfl | rfl | rfl | rfl | rfl
  · refine ⟨0, hNw, ?_⟩
    cbv
    repeat' (first
      | (refine And.intro (by first | assumption | decide) ?_; try cbv)
      | (intro β9; try cbv))
    exact ⟨_, Ent.refl _, ⟨_, pre ++ [⟨kd, bd⟩], rest, ⟨L.gen, L.base, L.text, L.first, addTb L.table rv.who.toNat rv.seq (L.base + (L.revs.length : Int) + 1), L.revs ++ [rv], L.whole, L.good + ((bd.length : Int) + 7)⟩, now2, _, _, _, gn, b, P.add gd (P.add 7 (P.slen bd)), tx, fs', (fun j => if j = 0 then qd else if j = 1 then P.add b (P.int (P.nadd n (P.rlenN [[.int .i64 wd, .int .i64 qd, .sl false 3 dr]]))) else tb j), wh, by simp [hd], q3, hrl.trans hall, f8, f7, hb0, by show (L.revs ++ [rv]).length ≤ 64; simp; omega, d5, ⟨he1, he2, d3, he4, he5, fin2 _ rfl, he7⟩⟩, ⟨rfl, rfl, rfl, rfl, rfl, rfl, trivial⟩, ⟨rfl, rfl, rfl, trivial⟩, by simp⟩
  · refine ⟨1, hNw, ?_⟩
    cbv
    repeat' (first
      | (refine And.intro (by first | assumption | decide) ?_; try cbv)
      | (intro β9; try cbv))
    exact ⟨_, Ent.refl _, ⟨_, pre ++ [⟨kd, bd⟩], rest, ⟨L.gen, L.base, L.text, L.first, addTb L.table rv.who.toNat rv.seq (L.base + (L.revs.length : Int) + 1), L.revs ++ [rv], L.whole, L.good + ((bd.length : Int) + 7)⟩, now2, _, _, _, gn, b, P.add gd (P.add 7 (P.slen bd)), tx, fs', (fun j => if j = 2 then qd else if j = 3 then P.add b (P.int (P.nadd n (P.rlenN [[.int .i64 wd, .int .i64 qd, .sl false 3 dr]]))) else tb j), wh, by simp [hd], q3, hrl.trans hall, f8, f7, hb0, by show (L.revs ++ [rv]).length ≤ 64; simp; omega, d5, ⟨he1, he2, d3, he4, he5, fin2 _ rfl, he7⟩⟩, ⟨rfl, rfl, rfl, rfl, rfl, rfl, trivial⟩, ⟨rfl, rfl, rfl, trivial⟩, by simp⟩
  · refine ⟨2, hNw, ?_⟩
    cbv
    repeat' (first
      | (refine And.intro (by first | assumption | decide) ?_; try cbv)
      | (intro β9; try cbv))
    exact ⟨_, Ent.refl _, ⟨_, pre ++ [⟨kd, bd⟩], rest, ⟨L.gen, L.base, L.text, L.first, addTb L.table rv.who.toNat rv.seq (L.base + (L.revs.length : Int) + 1), L.revs ++ [rv], L.whole, L.good + ((bd.length : Int) + 7)⟩, now2, _, _, _, gn, b, P.add gd (P.add 7 (P.slen bd)), tx, fs', (fun j => if j = 4 then qd else if j = 5 then P.add b (P.int (P.nadd n (P.rlenN [[.int .i64 wd, .int .i64 qd, .sl false 3 dr]]))) else tb j), wh, by simp [hd], q3, hrl.trans hall, f8, f7, hb0, by show (L.revs ++ [rv]).length ≤ 64; simp; omega, d5, ⟨he1, he2, d3, he4, he5, fin2 _ rfl, he7⟩⟩, ⟨rfl, rfl, rfl, rfl, rfl, rfl, trivial⟩, ⟨rfl, rfl, rfl, trivial⟩, by simp⟩
  · refine ⟨3, hNw, ?_⟩
    cbv
    repeat' (first
      | (refine And.intro (by first | assumption | decide) ?_; try cbv)
      | (intro β9; try cbv))
    exact ⟨_, Ent.refl _, ⟨_, pre ++ [⟨kd, bd⟩], rest, ⟨L.gen, L.base, L.text, L.first, addTb L.table rv.who.toNat rv.seq (L.base + (L.revs.length : Int) + 1), L.revs ++ [rv], L.whole, L.good + ((bd.length : Int) + 7)⟩, now2, _, _, _, gn, b, P.add gd (P.add 7 (P.slen bd)), tx, fs', (fun j => if j = 6 then qd else if j = 7 then P.add b (P.int (P.nadd n (P.rlenN [[.int .i64 wd, .int .i64 qd, .sl false 3 dr]]))) else tb j), wh, by simp [hd], q3, hrl.trans hall, f8, f7, hb0, by show (L.revs ++ [rv]).length ≤ 64; simp; omega, d5, ⟨he1, he2, d3, he4, he5, fin2 _ rfl, he7⟩⟩, ⟨rfl, rfl, rfl, rfl, rfl, rfl, trivial⟩, ⟨rfl, rfl, rfl, trivial⟩, by simp⟩
  · refine ⟨4, hNw, ?_⟩
    cbv
    repeat' (first
      | (refine And.intro (by first | assumption | decide) ?_; try cbv)
      | (intro β9; try cbv))
    exact ⟨_, Ent.refl _, ⟨_, pre ++ [⟨kd, bd⟩], rest, ⟨L.gen, L.base, L.text, L.first, addTb L.table rv.who.toNat rv.seq (L.base + (L.revs.length : Int) + 1), L.revs ++ [rv], L.whole, L.good + ((bd.length : Int) + 7)⟩, now2, _, _, _, gn, b, P.add gd (P.add 7 (P.slen bd)), tx, fs', (fun j => if j = 8 then qd else if j = 9 then P.add b (P.int (P.nadd n (P.rlenN [[.int .i64 wd, .int .i64 qd, .sl false 3 dr]]))) else tb j), wh, by simp [hd], q3, hrl.trans hall, f8, f7, hb0, by show (L.revs ++ [rv]).length ≤ 64; simp; omega, d5, ⟨he1, he2, d3, he4, he5, fin2 _ rfl, he7⟩⟩, ⟨rfl, rfl, rfl, rfl, rfl, rfl, trivial⟩, ⟨rfl, rfl, rfl, trivial⟩, by simp⟩
  · refine ⟨5, hNw, ?_⟩
    cbv
    repeat' (first
      | (refine And.intro (by first | assumption | decide) ?_; try cbv)
      | (intro β9; try cbv))
    exact ⟨_, Ent.refl _, ⟨_, pre ++ [⟨kd, bd⟩], rest, ⟨L.gen, L.base, L.text, L.first, addTb L.table rv.who.toNat rv.seq (L.base + (L.revs.length : Int) + 1), L.revs ++ [rv], L.whole, L.good + ((bd.length : Int) + 7)⟩, now2, _, _, _, gn, b, P.add gd (P.add 7 (P.slen bd)), tx, fs', (fun j => if j = 10 then qd else if j = 11 then P.add b (P.int (P.nadd n (P.rlenN [[.int .i64 wd, .int .i64 qd, .sl false 3 dr]]))) else tb j), wh, by simp [hd], q3, hrl.trans hall, f8, f7, hb0, by show (L.revs ++ [rv]).length ≤ 64; simp; omega, d5, ⟨he1, he2, d3, he4, he5, fin2 _ rfl, he7⟩⟩, ⟨rfl, rfl, rfl, rfl, rfl, rfl, trivial⟩, ⟨rfl, rfl, rfl, trivial⟩, by simp⟩
  · refine ⟨6, hNw, ?_⟩
    cbv
    repeat' (first
      | (refine And.intro (by first | assumption | decide) ?_; try cbv)
      | (intro β9; try cbv))
    exact ⟨_, Ent.refl _, ⟨_, pre ++ [⟨kd, bd⟩], rest, ⟨L.gen, L.base, L.text, L.first, addTb L.table rv.who.toNat rv.seq (L.base + (L.revs.length : Int) + 1), L.revs ++ [rv], L.whole, L.good + ((bd.length : Int) + 7)⟩, now2, _, _, _, gn, b, P.add gd (P.add 7 (P.slen bd)), tx, fs', (fun j => if j = 12 then qd else if j = 13 then P.add b (P.int (P.nadd n (P.rlenN [[.int .i64 wd, .int .i64 qd, .sl false 3 dr]]))) else tb j), wh, by simp [hd], q3, hrl.trans hall, f8, f7, hb0, by show (L.revs ++ [rv]).length ≤ 64; simp; omega, d5, ⟨he1, he2, d3, he4, he5, fin2 _ rfl, he7⟩⟩, ⟨rfl, rfl, rfl, rfl, rfl, rfl, trivial⟩, ⟨rfl, rfl, rfl, trivial⟩, by simp⟩
  · refine ⟨7, hNw, ?_⟩
    cbv
    repeat' (first
      | (refine And.intro (by first | assumption | decide) ?_; try cbv)
      | (intro β9; try cbv))
    exact ⟨_, Ent.refl _, ⟨_, pre ++ [⟨kd, bd⟩], rest, ⟨L.gen, L.base, L.text, L.first, addTb L.table rv.who.toNat rv.seq (L.base + (L.revs.length : Int) + 1), L.revs ++ [rv], L.whole, L.good + ((bd.length : Int) + 7)⟩, now2, _, _, _, gn, b, P.add gd (P.add 7 (P.slen bd)), tx, fs', (fun j => if j = 14 then qd else if j = 15 then P.add b (P.int (P.nadd n (P.rlenN [[.int .i64 wd, .int .i64 qd, .sl false 3 dr]]))) else tb j), wh, by simp [hd], q3, hrl.trans hall, f8, f7, hb0, by show (L.revs ++ [rv]).length ≤ 64; simp; omega, d5, ⟨he1, he2, d3, he4, he5, fin2 _ rfl, he7⟩⟩, ⟨rfl, rfl, rfl, rfl, rfl, rfl, trivial⟩, ⟨rfl, rfl, rfl, trivial⟩, by simp⟩
end Go.Proofs.Ytcdldpjmdelebaa.AM
