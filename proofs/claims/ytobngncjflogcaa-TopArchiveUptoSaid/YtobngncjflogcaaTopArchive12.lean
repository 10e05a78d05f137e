/-
  Texts of the plain machine, put together: what the law TopArchive reaches.
-/
import Derived.Test.YtobngncjflogcaaTopArchive11
import Derived.Test.YtobngncjflogcaaTopArchive5
import Derived.Test.YtobngncjflogcaaTopArchive6
set_option linter.unusedVariables false
set_option linter.unusedSimpArgs false
namespace Go.Proofs.Ytobngncjflogcaa.AM
open Go Go.RowKit
set_option maxRecDepth 100000
set_option maxHeartbeats 2000000
/-- an object that is nil may be told of at any time -/
theorem HSat.nilOb {C : Ctx} {F : Nat → Prop} {h : Hp} {w : World} (hs : HSat C F h w) (k ty sz : Nat) : HSat C F (Hp.put h k ⟨none, ty, sz, []⟩) w := by
  have look : ∀ j q, Hp.put h k ⟨none, ty, sz, []⟩ j = some q → q = ⟨none, ty, sz, []⟩ ∨ h j = some q := by
    intro j q hj
    simp only [Hp.put] at hj
    by_cases h1 : j = k
    · rw [if_pos h1] at hj; cases hj; exact .inl rfl
    · rw [if_neg h1] at hj; exact .inr hj
  refine ⟨fun j q hj => ?_, fun j j' q q' b hj hj' hb hb' => ?_, fun j q b hj hb => ?_, hs.old, hs.new, hs.lt, hs.ev⟩
  · rcases look j q hj with rfl | hj
    · exact (show ObSat F C.B w ⟨none, ty, sz, []⟩ from rfl)
    · exact hs.ob j q hj
  · rcases look j q hj with rfl | hj
    · cases hb
    · rcases look j' q' hj' with rfl | hj'
      · cases hb'
      · exact hs.inj j j' q q' b hj hj' hb hb'
  · rcases look j q hj with rfl | hj
    · cases hb
    · exact hs.live j q b hj hb
theorem HEnt.nilOb (h : Hp) (k ty sz : Nat) : HEnt h (Hp.put h k ⟨none, ty, sz, []⟩) := fun _ F _ _ hs => ⟨F, fun _ h => h, hs.nilOb k ty sz⟩
theorem Ent.nilOb (s : S) (k ty sz : Nat) : Ent s ⟨s.t, Hp.put s.h k ⟨none, ty, sz, []⟩⟩ := fun C n a w hC hs => by
  obtain ⟨F, h1, h2⟩ := hs.ex
  exact ⟨⟨F, h1.nilOb k ty sz, h2⟩, hs.df, hs.sz⟩
def logOf (l : LogD) (v : V) (e : Int) : V := .tup [.agg (rowL l.gen l.base l.text l.first l.table v l.whole l.good), .int .i64 e]
def HReadC (T : CallT) : Prop := ∀ (kk : Nat) (s : List UInt8) (h : Hp) (K : V → Hp → Prop), s.length ≤ 1048576 → h kk = none → (∀ (l : LogD) (e : Int) (ba : Option Nat) (n : Nat) (rows : List (List V)), (l, e) = readL (scanF s).1 → n = l.revs.length → rows = l.revs.map encRev → (e = 0 → K (logOf l (.own kk ba 3 n) e) (Hp.put h kk (obV ba rows))) ∧
  (e ≠ 0 → K (logOf l .nilsl e) h) ∧ (e ≠ 0 → K (logOf l (.own kk ba 3 n) e) h)) → T 34 [.str s] h K
theorem hreadC : HReadC (CallE Try.prog) := by
  intro kk s h K hs hk hK
  have hl : lab [(1000999, kk)] 1000999 = kk := by simp [lab]
  have hb : bal [(1000999, kk)] kk = 1000999 := by simp [bal]
  refine callG (m := [(1000999, kk)]) (sp_hreadO s hs) (args_plain rfl) (fun j o hj => by cases hj) (fun q hq => ?_) ?_
  · rw [List.mem_singleton.1 hq]
    exact ⟨hl, hb, fun o ho => by cases ho⟩
  · have e0 : h.upd [(1000999, kk)] (lookH []) = h := by
      funext i
      simp only [Hp.upd, List.any_cons, List.any_nil, Bool.or_false, decide_eq_true_eq]
      by_cases hi : kk = i
      · rw [if_pos hi, ← hi, hk]; rfl
      · rw [if_neg hi]
    generalize hL : readL (scanF s).1 = q at *
    obtain ⟨l, e⟩ := q
    have rl : ∀ v g, (logOf l v e).ren g = logOf l (v.rl g) e := fun v g => rfl
    rintro x L' (⟨he, ba, rfl, rfl⟩ | ⟨he, rfl, rfl⟩ | ⟨he, ba, rfl, rfl⟩)
    · have e1 : h.upd [(1000999, kk)] (lookH [(1000999, obV ba (l.revs.map encRev))]) = Hp.put h kk (obV ba (l.revs.map encRev)) := by
        funext i
        simp only [Hp.upd, Hp.put, List.any_cons, List.any_nil, Bool.or_false, decide_eq_true_eq]
        by_cases hi : kk = i
        · rw [if_pos hi, if_pos hi.symm, ← hi, hb]
          show (some (obV ba (l.revs.map encRev))).map (Ob.ren (lab [(1000999, kk)])) = _
          rw [Option.map_some, obV_ren]
        · rw [if_neg hi, if_neg fun e => hi e.symm]
      rw [e1]
      show K ((logOf l (.own 1000999 ba 3 l.revs.length) e).ren _) _
      rw [rl]
      show K (logOf l (.own (lab [(1000999, kk)] 1000999) ba 3 l.revs.length) e) _
      rw [hl]
      exact (hK l e ba _ _ rfl rfl rfl).1 he
    · rw [e0]
      show K ((logOf l .nilsl e).ren _) _
      rw [rl]
      exact (hK l e none _ _ rfl rfl rfl).2.1 he
    · rw [e0]
      show K ((logOf l (.own 1000999 ba 3 l.revs.length) e).ren _) _
      rw [rl]
      show K (logOf l (.own (lab [(1000999, kk)] 1000999) ba 3 l.revs.length) e) _
      rw [hl]
      exact (hK l e ba _ _ rfl rfl rfl).2.2 he
def ac_sstep : AC := .seq (.region false [
    ⟨some 2, none, .mov (.c (.bool false))⟩])
  (.seq (.region false [
    ⟨some 11, none, .mov (.t 0)⟩,
    ⟨some 12, none, .nilchk (.t 11)⟩,
    ⟨some 13, none, .faddr 4 (.t 12)⟩,
    ⟨some 14, none, .load1 (.t 13)⟩,
    ⟨some 15, none, .bin .sub (.c (.int .i64 1)) (.t 14)⟩,
    ⟨some 3, none, .mov (.t 15)⟩])
  (.seq (.region false [
    ⟨some 16, none, .mov (.t 0)⟩,
    ⟨some 17, none, .nilchk (.t 16)⟩,
    ⟨some 18, none, .faddr 45 (.t 17)⟩,
    ⟨some 19, none, .load1 (.t 18)⟩,
    ⟨some 4, none, .mov (.t 19)⟩])
  (.seq (.block 0 (.seq (.region false [
    ⟨some 54, none, .mov (.t 4)⟩,
    ⟨some 55, none, .eqp false (.t 54) (.c (.pointer none))⟩,
    ⟨some 56, none, .mov (.t 55)⟩,
    ⟨some 57, some (56, true), .mov (.t 0)⟩,
    ⟨some 58, some (56, true), .nilchk (.t 57)⟩,
    ⟨some 59, some (56, true), .faddr 46 (.t 58)⟩,
    ⟨some 60, some (56, true), .load1 (.t 59)⟩,
    ⟨some 61, some (56, true), .not (.t 60)⟩,
    ⟨some 62, none, .pick (.t 56) (.t 61) (.c (.bool false))⟩,
    ⟨some 53, none, .mov (.t 62)⟩])
  (.cond (.t 53)
    (.seq (.region false [
      ⟨some 2, none, .mov (.c (.bool false))⟩])
    (.ret))
    (.seq (.region false [
      ⟨some 64, none, .mov (.t 4)⟩,
      ⟨some 65, none, .eqp false (.t 64) (.c (.pointer none))⟩,
      ⟨some 63, none, .mov (.t 65)⟩])
    (.cond (.t 63)
      (.seq (.region false [
        ⟨some 66, none, .mov (.t 0)⟩,
        ⟨some 67, none, .mov (.t 3)⟩,
        ⟨some 68, none, .call 35 [(.t 66), (.t 67), (.c (.int .i64 0))]⟩])
      (.region false [
        ⟨some 69, none, .mov (.t 0)⟩,
        ⟨some 70, none, .nilchk (.t 69)⟩,
        ⟨some 71, none, .faddr 46 (.t 70)⟩,
        ⟨none, none, .store 1 (.t 71) (.c (.bool false))⟩]))
      (.seq (.region false [
        ⟨some 73, none, .mov (.t 4)⟩,
        ⟨some 74, none, .nilchk (.t 73)⟩,
        ⟨some 75, none, .faddr 1 (.t 74)⟩,
        ⟨some 76, none, .load1 (.t 75)⟩,
        ⟨some 77, none, .bin .lss (.t 76) (.c (.int .i64 0))⟩,
        ⟨some 72, none, .mov (.t 77)⟩])
      (.cond (.t 72)
        (.seq (.region false [
          ⟨some 79, none, .mov (.t 0)⟩,
          ⟨some 80, none, .mov (.t 4)⟩,
          ⟨some 81, none, .nilchk (.t 80)⟩,
          ⟨some 82, none, .faddr 0 (.t 81)⟩,
          ⟨some 83, none, .load1 (.t 82)⟩,
          ⟨some 84, none, .call 22 [(.t 79), (.t 83)]⟩,
          ⟨some 78, none, .mov (.t 84)⟩,
          ⟨some 85, none, .ext 0 (.t 78)⟩,
          ⟨some 86, none, .ext 1 (.t 78)⟩,
          ⟨some 5, none, .mov (.t 85)⟩,
          ⟨some 6, none, .mov (.t 86)⟩])
        (.seq (.region true [
          ⟨some 88, none, .mov (.t 0)⟩,
          ⟨some 89, none, .nilchk (.t 88)⟩,
          ⟨some 90, none, .faddr 5 (.t 89)⟩,
          ⟨some 91, none, .faddr 0 (.t 90)⟩,
          ⟨some 92, none, .load1 (.t 91)⟩,
          ⟨some 93, none, .bin .add (.t 92) (.c (.int .i64 1))⟩,
          ⟨some 94, none, .mov (.t 4)⟩,
          ⟨some 95, none, .nilchk (.t 94)⟩,
          ⟨some 96, none, .faddr 0 (.t 95)⟩,
          ⟨some 97, none, .load1 (.t 96)⟩,
          ⟨some 98, none, .mov (.t 5)⟩,
          ⟨some 99, none, .mov (.t 0)⟩,
          ⟨some 100, none, .mov (.t 4)⟩,
          ⟨some 101, none, .nilchk (.t 100)⟩,
          ⟨some 102, none, .faddr 0 (.t 101)⟩,
          ⟨some 103, none, .load1 (.t 102)⟩,
          ⟨some 104, none, .call 66 [(.t 99), (.t 103)]⟩,
          ⟨some 105, none, .call 57 [(.t 93), (.t 97), (.t 98), (.t 104)]⟩,
          ⟨some 87, none, .mov (.t 105)⟩,
          ⟨some 106, none, .ext 0 (.t 87)⟩,
          ⟨some 107, none, .ext 1 (.t 87)⟩,
          ⟨some 7, none, .mov (.t 106)⟩,
          ⟨some 8, none, .mov (.t 107)⟩])
        (.seq (.region false [
          ⟨some 108, none, .mov (.t 0)⟩,
          ⟨some 109, none, .mov (.t 3)⟩,
          ⟨some 110, none, .call 35 [(.t 108), (.t 109), (.c (.int .i64 0))]⟩])
        (.seq (.region false [
          ⟨some 111, none, .mov (.t 0)⟩,
          ⟨some 112, none, .mov (.t 3)⟩,
          ⟨some 113, none, .mov (.t 7)⟩,
          ⟨some 114, none, .call 58 [(.t 111), (.t 112), (.t 113)]⟩])
        (.region false [
          ⟨some 115, none, .mov (.t 4)⟩,
          ⟨some 116, none, .nilchk (.t 115)⟩,
          ⟨some 117, none, .faddr 1 (.t 116)⟩,
          ⟨none, none, .store 1 (.t 117) (.c (.int .i64 0))⟩])))))
        (.seq (.region true [
          ⟨some 119, none, .mov (.t 4)⟩,
          ⟨some 120, none, .nilchk (.t 119)⟩,
          ⟨some 121, none, .faddr 2 (.t 120)⟩,
          ⟨some 122, none, .load1 (.t 121)⟩,
          ⟨some 123, none, .not (.t 122)⟩,
          ⟨some 124, none, .mov (.t 123)⟩,
          ⟨some 125, some (124, true), .mov (.t 4)⟩,
          ⟨some 126, some (124, true), .nilchk (.t 125)⟩,
          ⟨some 127, some (124, true), .faddr 0 (.t 126)⟩,
          ⟨some 128, some (124, true), .load1 (.t 127)⟩,
          ⟨some 129, some (124, true), .mov (.t 4)⟩,
          ⟨some 130, some (124, true), .nilchk (.t 129)⟩,
          ⟨some 131, some (124, true), .faddr 1 (.t 130)⟩,
          ⟨some 132, some (124, true), .load1 (.t 131)⟩,
          ⟨some 133, some (124, true), .bin .add (.t 128) (.t 132)⟩,
          ⟨some 134, some (124, true), .mov (.t 0)⟩,
          ⟨some 135, some (124, true), .call 20 [(.t 134)]⟩,
          ⟨some 136, some (124, true), .bin .lss (.t 133) (.t 135)⟩,
          ⟨some 137, none, .pick (.t 124) (.t 136) (.c (.bool false))⟩,
          ⟨some 118, none, .mov (.t 137)⟩])
        (.cond (.t 118)
          (.seq (.region true [
            ⟨some 139, none, .mov (.t 0)⟩,
            ⟨some 140, none, .nilchk (.t 139)⟩,
            ⟨some 141, none, .faddr 5 (.t 140)⟩,
            ⟨some 142, none, .faddr 35 (.t 141)⟩,
            ⟨some 143, none, .load1 (.t 142)⟩,
            ⟨some 144, none, .mov (.t 4)⟩,
            ⟨some 145, none, .nilchk (.t 144)⟩,
            ⟨some 146, none, .faddr 0 (.t 145)⟩,
            ⟨some 147, none, .load1 (.t 146)⟩,
            ⟨some 148, none, .mov (.t 4)⟩,
            ⟨some 149, none, .nilchk (.t 148)⟩,
            ⟨some 150, none, .faddr 1 (.t 149)⟩,
            ⟨some 151, none, .load1 (.t 150)⟩,
            ⟨some 152, none, .bin .add (.t 147) (.t 151)⟩,
            ⟨some 153, none, .mov (.t 0)⟩,
            ⟨some 154, none, .nilchk (.t 153)⟩,
            ⟨some 155, none, .faddr 5 (.t 154)⟩,
            ⟨some 156, none, .faddr 1 (.t 155)⟩,
            ⟨some 157, none, .load1 (.t 156)⟩,
            ⟨some 158, none, .bin .sub (.t 152) (.t 157)⟩,
            ⟨some 159, none, .iaddr 3 (.t 143) (.t 158)⟩,
            ⟨some 160, none, .loadn 3 (.t 159)⟩,
            ⟨some 161, none, .call 61 [(.t 160)]⟩,
            ⟨some 138, none, .mov (.t 161)⟩,
            ⟨some 162, none, .ext 0 (.t 138)⟩,
            ⟨some 163, none, .ext 1 (.t 138)⟩,
            ⟨some 9, none, .mov (.t 162)⟩,
            ⟨some 10, none, .mov (.t 163)⟩])
          (.seq (.region false [
            ⟨some 164, none, .mov (.t 0)⟩,
            ⟨some 165, none, .mov (.t 3)⟩,
            ⟨some 166, none, .mov (.t 9)⟩,
            ⟨some 167, none, .call 58 [(.t 164), (.t 165), (.t 166)]⟩])
          (.region false [
            ⟨some 168, none, .mov (.t 4)⟩,
            ⟨some 169, none, .nilchk (.t 168)⟩,
            ⟨some 170, none, .faddr 1 (.t 169)⟩,
            ⟨some 171, none, .load1 (.t 170)⟩,
            ⟨some 172, none, .bin .add (.t 171) (.c (.int .i64 1))⟩,
            ⟨some 173, none, .nilchk (.t 168)⟩,
            ⟨some 174, none, .faddr 1 (.t 173)⟩,
            ⟨none, none, .store 1 (.t 174) (.t 172)⟩])))
          (.seq (.region false [
            ⟨some 176, none, .mov (.t 4)⟩,
            ⟨some 177, none, .nilchk (.t 176)⟩,
            ⟨some 178, none, .faddr 2 (.t 177)⟩,
            ⟨some 179, none, .load1 (.t 178)⟩,
            ⟨some 180, none, .not (.t 179)⟩,
            ⟨some 175, none, .mov (.t 180)⟩])
          (.cond (.t 175)
            (.seq (.region false [
              ⟨some 181, none, .mov (.t 0)⟩,
              ⟨some 182, none, .mov (.t 3)⟩,
              ⟨some 183, none, .call 59 []⟩,
              ⟨some 184, none, .call 58 [(.t 181), (.t 182), (.t 183)]⟩])
            (.region false [
              ⟨some 185, none, .mov (.t 4)⟩,
              ⟨some 186, none, .nilchk (.t 185)⟩,
              ⟨some 187, none, .faddr 2 (.t 186)⟩,
              ⟨none, none, .store 1 (.t 187) (.c (.bool true))⟩]))
            (.seq (.region false [
              ⟨some 20, none, .mov (.t 0)⟩,
              ⟨some 21, none, .mov (.t 3)⟩,
              ⟨some 22, none, .call 36 [(.t 20), (.t 21)]⟩])
            (.seq (.region false [
              ⟨some 24, none, .mov (.t 0)⟩,
              ⟨some 25, none, .mov (.t 0)⟩,
              ⟨some 26, none, .mov (.t 3)⟩,
              ⟨some 27, none, .nilchk (.t 25)⟩,
              ⟨some 28, none, .faddr 0 (.t 27)⟩,
              ⟨some 29, none, .faddr 0 (.t 28)⟩,
              ⟨some 30, none, .iarr 2 2 (.t 29) (.t 26)⟩,
              ⟨some 31, none, .faddr 0 (.t 30)⟩,
              ⟨some 32, none, .load1 (.t 31)⟩,
              ⟨some 33, none, .call 34 [(.t 32)]⟩,
              ⟨some 23, none, .mov (.t 33)⟩,
              ⟨some 34, none, .ext 0 (.t 23)⟩,
              ⟨some 35, none, .ext 1 (.t 23)⟩,
              ⟨some 36, none, .nilchk (.t 24)⟩,
              ⟨some 37, none, .faddr 5 (.t 36)⟩,
              ⟨none, none, .store 38 (.t 37) (.t 34)⟩])
            (.seq (.region false [
              ⟨some 38, none, .mov (.t 0)⟩,
              ⟨some 39, none, .mov (.t 0)⟩,
              ⟨some 40, none, .call 20 [(.t 39)]⟩,
              ⟨some 41, none, .nilchk (.t 38)⟩,
              ⟨some 42, none, .faddr 44 (.t 41)⟩,
              ⟨none, none, .store 1 (.t 42) (.t 40)⟩])
            (.region false [
              ⟨some 43, none, .mov (.t 0)⟩,
              ⟨some 44, none, .mov (.t 0)⟩,
              ⟨some 45, none, .mov (.t 0)⟩,
              ⟨some 46, none, .mov (.t 3)⟩,
              ⟨some 47, none, .nilchk (.t 43)⟩,
              ⟨some 48, none, .faddr 4 (.t 47)⟩,
              ⟨none, none, .store 1 (.t 48) (.t 46)⟩,
              ⟨some 49, none, .nilchk (.t 44)⟩,
              ⟨some 50, none, .faddr 45 (.t 49)⟩,
              ⟨none, none, .store 1 (.t 50) (.c (.pointer none))⟩,
              ⟨some 51, none, .nilchk (.t 45)⟩,
              ⟨some 52, none, .faddr 46 (.t 51)⟩,
              ⟨none, none, .store 1 (.t 52) (.c (.bool true))⟩])))))))))))))))
  (.seq (.region false [
    ⟨some 2, none, .mov (.c (.bool true))⟩])
  (.ret)))))
theorem ok_sstep : FnOk Try.prog 24 Try.f24 ac_sstep [.t 2] 1 drawD := ⟨Try.func24, by decide +kernel, by kernel_rfl, by kernel_rfl, by decide +kernel⟩
structure StR where
  d : SC
  l : List Rev
  m : Option Mv
  v : Bool
def step0 (d : SC) (l : List Rev) : StR := if d.old = true then ⟨{ trmS d (1 - d.at') 0 with old := false }, l, none, true⟩ else ⟨d, l, none, false⟩
theorem vc_sstep0 (P : Prim) (hP : P = std) (T T1 : CallT) (htrm : STrmC T) (bl : Nat) (d : SC) (ba : Option Nat) (l : List Rev) (n : Nat) (rows : List (List V)) (bm : Nat) (hat : d.at' = 0 ∨ d.at' = 1)
    (R : S → Prop) (hR : ∀ (s s' : S) (d' : SC) (v : Bool), ⟨d', l, none, v⟩ = step0 d l → Ent s s' → Ret [.t 2] [.bool v] s' → agreeH (S3 bl d' ba n rows bm none) s' → R s) : awp P T T1 ac_sstep (S0 [.ptr 0 (some bl) 47 0 0] (lookH (S3 bl d ba n rows bm none))) R (fun _ _ => False) R := by
  have m1 : P.i64 (P.sub 1 d.at') := by rw [sub_eq hP]; exact i64I hP (by omega)
  have m2 : P.sub 1 d.at' = 1 - d.at' := sub_eq hP _ _
  cbv
  repeat' (first
    | (refine And.intro (by first | assumption | decide) ?_; try cbv)
    | (intro β2; try cbv))
  refine br_cases (fun g => ?_) (fun g => ?_)
  · have hod : d.old = true := g
    cbv
    repeat' (first
    | (refine And.intro (by first | assumption | decide) ?_; try cbv)
    | (intro β2; try cbv))
    refine htrm 0 bl d (.own 1000001 ba 3 n) .nil _ _ _ _ ⟨⟨.own _ _ _ _, rfl⟩, .nil, rfl⟩ rfl rfl rfl fun d2 hd2 => ?_
    have hd2 : d2 = trmS d (P.sub 1 d.at') 0 := hd2
    rw [m2] at hd2
    cbv
    repeat' (first
    | (refine And.intro (by first | assumption | decide) ?_; try cbv)
    | (intro β2; try cbv))
    exact hR _ _ { d2 with old := false } true (by unfold step0; rw [if_pos hod, hd2]) (Ent.refl _) rfl ⟨rfl, rfl, rfl, trivial⟩
  · have hod : d.old = false := g
    cbv
    repeat' (first
    | (refine And.intro (by first | assumption | decide) ?_; try cbv)
    | (intro β2; try cbv))
    exact hR _ _ d false (by unfold step0; rw [if_neg (by rw [hod]; simp)]) (Ent.refl _) rfl ⟨rfl, rfl, rfl, trivial⟩
def step1 (d : SC) (l : List Rev) (f : Int) (w : Bool) (t : List UInt8) : StR := ⟨putS (trmS d (1 - d.at') 0) (1 - d.at') t, l, some ⟨f, 0, w⟩, true⟩
theorem vc_sstep1 (P : Prim) (hP : P = std) (T T1 : CallT) (htrm : STrmC T) (hput : SPutC T) (htx : STextC T) (htab : STabC T1) (bl : Nat) (d : SC) (ba : Option Nat) (l : List Rev) (hl : RevsOk l) (n : Nat) (hn : n = l.length) (rows : List (List V)) (hrows : rows = l.map encRev) (bm : Nat) (f c : Int) (w : Bool) (hc : c < 0) (hat : d.at' = 0 ∨ d.at' = 1)
    (hb : 0 ≤ d.b ∧ d.b ≤ 4294967295) (hn2 : n ≤ 1000) (hwho : ∀ r ∈ l, 0 ≤ r.who ∧ r.who ≤ 7) (hf : d.b ≤ f ∧ f ≤ d.b + (l.length : Int)) (hgn : 0 ≤ d.gn ∧ d.gn ≤ 4294967295) (t1 : List UInt8) (e1 : Int) (ht1 : t1.length ≤ 140737488355328)
    (h1 : ∀ x tb g, x = (stextT d l f).1 → tb = tabG d.fs d.b (l.take (f - d.b).toNat) → g = d.gn + 1 → Ans T1 57 [.int .i64 g, .int .i64 f, .str x, tabV tb] (.tup [.str t1, .int .i64 e1]))
    (R : S → Prop) (hR : ∀ (s s' : S) (d' : SC), ⟨d', l, some ⟨f, 0, w⟩, true⟩ = step1 d l f w t1 → Ent s s' → Ret [.t 2] [.bool true] s' → agreeH (S3 bl d' ba n rows bm (some ⟨f, 0, w⟩)) s' → R s) : awp P T T1 ac_sstep (S0 [.ptr 0 (some bl) 47 0 0] (lookH (S3 bl d ba n rows bm (some ⟨f, c, w⟩)))) R (fun _ _ => False) R := by
  have m1 : P.i64 (P.sub 1 d.at') := by rw [sub_eq hP]; exact i64I hP (by omega)
  have m2 : P.sub 1 d.at' = 1 - d.at' := sub_eq hP _ _
  have m3 : P.i64 (P.add d.gn 1) := by rw [add_eq hP]; exact i64I hP (by omega)
  have m4 : P.add d.gn 1 = d.gn + 1 := add_eq hP _ _
  have hq : MQ (.ptr 1 (some bm) 3 0 0) := mvN_mq 1 bm (some ⟨f, c, w⟩)
  cbv
  repeat' (first
    | (refine And.intro (by first | assumption | decide) ?_; try cbv)
    | (intro β2; try cbv))
  refine br_cases (fun g => ?_) (fun g => ?_)
  · cbv
    repeat' (first
    | (refine And.intro (by first | assumption | decide) ?_; try cbv)
    | (intro β2; try cbv))
    refine htx 0 1000001 bl d ba n rows l (.ptr 1 (some bm) 3 0 0) f _ _ hrows hn hl hb (by omega) hq rfl rfl rfl rfl fun x y hx hy => ?_
    cbv
    repeat' (first
    | (refine And.intro (by first | assumption | decide) ?_; try cbv)
    | (intro β2; try cbv))
    refine htab 0 1000001 bl d ba n rows l (.ptr 1 (some bm) 3 0 0) f _ _ hrows hn hb (by omega) hwho hf hq rfl rfl rfl rfl fun tb htb => ?_
    cbv
    repeat' (first
    | (refine And.intro (by first | assumption | decide) ?_; try cbv)
    | (intro β2; try cbv))
    refine h1 x tb _ hx htb m4 _ _ ?_
    cbv
    repeat' (first
    | (refine And.intro (by first | assumption | decide) ?_; try cbv)
    | (intro β2; try cbv))
    refine htrm 0 bl d (.own 1000001 ba 3 n) (.ptr 1 (some bm) 3 0 0) _ _ _ _ ⟨⟨.own _ _ _ _, rfl⟩, .ptr _ _ _ _ _, rfl⟩ rfl rfl rfl fun d2 hd2 => ?_
    have hd2 : d2 = trmS d (P.sub 1 d.at') 0 := hd2
    rw [m2] at hd2
    cbv
    repeat' (first
    | (refine And.intro (by first | assumption | decide) ?_; try cbv)
    | (intro β2; try cbv))
    refine hput 0 bl d2 (.own 1000001 ba 3 n) (.ptr 1 (some bm) 3 0 0) _ _ _ _ ht1 ⟨⟨.own _ _ _ _, rfl⟩, .ptr _ _ _ _ _, rfl⟩ rfl rfl rfl fun d3 hd3 => ?_
    have hd3 : d3 = putS d2 (P.sub 1 d.at') t1 := hd3
    rw [m2, hd2] at hd3
    cbv
    repeat' (first
    | (refine And.intro (by first | assumption | decide) ?_; try cbv)
    | (intro β2; try cbv))
    exact hR _ _ d3 (by rw [hd3]; rfl) (Ent.refl _) rfl ⟨rfl, rfl, rfl, trivial⟩
  · exact absurd hc (lt_f hP g)
def rev0 : Rev := ⟨0, 0, []⟩
def step2 (d : SC) (l : List Rev) (f c : Int) (tF : Rev → List UInt8) (t3 : List UInt8) : StR := if f + c < d.b + (l.length : Int) then ⟨putS d (1 - d.at') (tF (l.getD (f + c - d.b).toNat rev0)), l, some ⟨f, c + 1, false⟩, true⟩ else ⟨putS d (1 - d.at') t3, l, some ⟨f, c, true⟩, true⟩
theorem vc_sstep2 (P : Prim) (hP : P = std) (T T1 : CallT) (hput : SPutC T) (hhd : SHeadC T1) (bl : Nat) (d : SC) (ba : Option Nat) (l : List Rev) (n : Nat) (hn : n = l.length) (rows : List (List V)) (hrows : rows = l.map encRev) (bm : Nat) (f c : Int) (hc : 0 ≤ c ∧ c ≤ 4294967295) (hat : d.at' = 0 ∨ d.at' = 1)
    (hb : 0 ≤ d.b ∧ d.b ≤ 4294967295) (hn2 : n ≤ 1000) (hf : d.b ≤ f ∧ f ≤ d.b + (l.length : Int)) (tF : Rev → List UInt8) (eF : Rev → Int) (htF : ∀ r, (tF r).length ≤ 140737488355328) (t3 : List UInt8) (ht3 : t3.length ≤ 140737488355328)
    (h2 : ∀ r ∈ l, Ans T1 61 [.agg [.int .i64 r.who, .int .i64 r.seq, .sl false 3 (r.delta.map encPart)]] (.tup [.str (tF r), .int .i64 (eF r)])) (h3 : Ans T 59 [] (.str t3))
    (R : S → Prop) (hR : ∀ (s s' : S) (d' : SC) (m' : Mv), ⟨d', l, some m', true⟩ = step2 d l f c tF t3 → Ent s s' → Ret [.t 2] [.bool true] s' → agreeH (S3 bl d' ba n rows bm (some m')) s' → R s) : awp P T T1 ac_sstep (S0 [.ptr 0 (some bl) 47 0 0] (lookH (S3 bl d ba n rows bm (some ⟨f, c, false⟩)))) R (fun _ _ => False) R := by
  have m1 : P.i64 (P.sub 1 d.at') := by rw [sub_eq hP]; exact i64I hP (by omega)
  have m2 : P.sub 1 d.at' = 1 - d.at' := sub_eq hP _ _
  have m3 : P.i64 (P.add f c) := by rw [add_eq hP]; exact i64I hP (by omega)
  have m4 : P.add f c = f + c := add_eq hP _ _
  have m5 : P.i64 (P.sub (P.add f c) d.b) := by rw [sub_eq hP, add_eq hP]; exact i64I hP (by omega)
  have m6 : P.i64 (P.add c 1) := by rw [add_eq hP]; exact i64I hP (by omega)
  have m7 : P.add c 1 = c + 1 := add_eq hP _ _
  have hq : MQ (.ptr 1 (some bm) 3 0 0) := mvN_mq 1 bm (some ⟨f, c, false⟩)
  cbv
  repeat' (first
    | (refine And.intro (by first | assumption | decide) ?_; try cbv)
    | (intro β2; try cbv))
  refine br_cases (fun g => ?_) (fun g => ?_)
  · exact absurd (lt_t hP g) (by omega)
  cbv
  repeat' (first
    | (refine And.intro (by first | assumption | decide) ?_; try cbv)
    | (intro β2; try cbv))
  refine hhd 0 bl d 1000001 ba n (.ptr 1 (some bm) 3 0 0) _ _ hb hn2 hq.1 rfl rfl rfl fun q hq' => ?_
  cbv
  repeat' (first
    | (refine And.intro (by first | assumption | decide) ?_; try cbv)
    | (intro β2; try cbv))
  refine br_cases (fun g => ?_) (fun g => ?_)
  · have g1 : P.add f c < q := lt_t hP g
    rw [m4, hq', hn] at g1
    obtain ⟨i, hi⟩ : ∃ i : Nat, f + c - d.b = (i : Int) := ⟨(f + c - d.b).toNat, by omega⟩
    have hil : i < l.length := by ((try simp only [nc] at *); omega)
    obtain ⟨r, hrr⟩ : ∃ r, l[i]? = some r := ⟨_, List.getElem?_eq_getElem hil⟩
    have hra : P.sub (P.add f c) d.b = (i : Int) := by rw [sub_eq hP, add_eq hP]; exact hi
    have hrow : P.row rows (P.nat (P.sub (P.add f c) d.b)) [.int .i64 r.who, .int .i64 r.seq, .sl false 3 (r.delta.map encPart)] := row_of hP hra (by rw [hrows, List.getElem?_map, hrr]; rfl)
    have h2r := h2 r (List.mem_of_getElem? hrr)
    have hst : step2 d l f c tF t3 = ⟨putS d (1 - d.at') (tF r), l, some ⟨f, c + 1, false⟩, true⟩ := by
      unfold step2
      rw [if_pos g1, hi, Int.toNat_natCast, List.getD_eq_getElem?_getD, hrr]; rfl
    have htr := htF r
    generalize r.delta.map encPart = dr at hrow h2r
    obtain ⟨wi, hwi⟩ : ∃ w, r.who = w := ⟨_, rfl⟩
    obtain ⟨sq, hsq⟩ : ∃ w, r.seq = w := ⟨_, rfl⟩
    obtain ⟨tr, htr2⟩ : ∃ t, tF r = t := ⟨_, rfl⟩
    obtain ⟨er, her⟩ : ∃ t, eF r = t := ⟨_, rfl⟩
    rw [hwi, hsq] at hrow h2r
    rw [htr2] at htr hst h2r
    rw [her] at h2r
    have q1 : P.leP 0 (P.sub (P.add f c) d.b) := le0 hP (by rw [hra]; exact Int.natCast_nonneg _)
    have q2 : P.ltP (P.sub (P.add f c) d.b) (P.int n) := ltI hP (by rw [hra, int_eq hP]; omega)
    cbv
    repeat' (first
    | (refine And.intro (by first | assumption | decide) ?_; try cbv)
    | (intro β2; try cbv))
    refine ⟨_, hrow, ?_⟩
    cbv
    repeat' (first
    | (refine And.intro (by first | assumption | decide) ?_; try cbv)
    | (intro β2; try cbv))
    refine h2r _ _ ?_
    cbv
    repeat' (first
    | (refine And.intro (by first | assumption | decide) ?_; try cbv)
    | (intro β2; try cbv))
    refine hput 0 bl d (.own 1000001 ba 3 n) (.ptr 1 (some bm) 3 0 0) _ _ _ _ htr ⟨⟨.own _ _ _ _, rfl⟩, .ptr _ _ _ _ _, rfl⟩ rfl rfl rfl fun d3 hd3 => ?_
    have hd3 : d3 = putS d (P.sub 1 d.at') tr := hd3
    rw [m2] at hd3
    cbv
    repeat' (first
    | (refine And.intro (by first | assumption | decide) ?_; try cbv)
    | (intro β2; try cbv))
    exact hR _ _ d3 ⟨f, P.add c 1, false⟩ (by rw [hst, hd3, m7]) (Ent.refl _) rfl ⟨rfl, rfl, rfl, trivial⟩
  · have g1 : ¬ P.add f c < q := lt_f hP g
    rw [m4, hq', hn] at g1
    have hst : step2 d l f c tF t3 = ⟨putS d (1 - d.at') t3, l, some ⟨f, c, true⟩, true⟩ := by
      unfold step2
      rw [if_neg g1]
    cbv
    repeat' (first
    | (refine And.intro (by first | assumption | decide) ?_; try cbv)
    | (intro β2; try cbv))
    refine h3 _ _ ?_
    cbv
    repeat' (first
    | (refine And.intro (by first | assumption | decide) ?_; try cbv)
    | (intro β2; try cbv))
    refine hput 0 bl d (.own 1000001 ba 3 n) (.ptr 1 (some bm) 3 0 0) _ _ _ _ ht3 ⟨⟨.own _ _ _ _, rfl⟩, .ptr _ _ _ _ _, rfl⟩ rfl rfl rfl fun d3 hd3 => ?_
    have hd3 : d3 = putS d (P.sub 1 d.at') t3 := hd3
    rw [m2] at hd3
    cbv
    repeat' (first
    | (refine And.intro (by first | assumption | decide) ?_; try cbv)
    | (intro β2; try cbv))
    exact hR _ _ d3 ⟨f, c, true⟩ (by rw [hst, hd3]) (Ent.refl _) rfl ⟨rfl, rfl, rfl, trivial⟩
end Go.Proofs.Ytobngncjflogcaa.AM

set_option linter.unusedVariables false
set_option linter.unusedSimpArgs false
namespace Go.Proofs.Ytobngncjflogcaa.AM
open Go Go.RowKit
set_option maxRecDepth 100000
set_option maxHeartbeats 2000000
def datOf (d : SC) (i : Int) : List UInt8 := if i = 0 then d.x1 else d.x3
def step3 (d : SC) (L : LogD) : StR := ⟨{ synS d (1 - d.at') with at' := 1 - d.at', gn := L.gen, b := L.base, tx := L.text, fs := L.first, tb := L.table, wh := L.whole, gd := L.good, sf := L.base + (L.revs.length : Int), old := true }, L.revs, none, true⟩
theorem vc_sstep3 (P : Prim) (hP : P = std) (T T1 : CallT) (hsyn : SSynC T) (hrd : HReadC T) (hhd : SHeadC T) (bl : Nat) (d : SC) (ba : Option Nat) (n : Nat) (rows : List (List V)) (bm : Nat) (f c : Int) (hc : 0 ≤ c) (hat : d.at' = 0 ∨ d.at' = 1)
    (hlen : (datOf (synS d (1 - d.at')) (1 - d.at')).length ≤ 1048576) (L : LogD) (hL : readL (scanF (datOf (synS d (1 - d.at')) (1 - d.at'))).1 = (L, 0)) (hLb : 0 ≤ L.base ∧ L.base ≤ 4294967295) (hLn : L.revs.length ≤ 1000)
    (hhd1 : SHeadC T1)
    (R : S → Prop) (hR : ∀ (s s' : S) (d' : SC) (ba' : Option Nat) (n' : Nat) (rows' : List (List V)), n' = L.revs.length → rows' = L.revs.map encRev → ⟨d', L.revs, none, true⟩ = step3 d L → Ent s s' → Ret [.t 2] [.bool true] s' → agreeH (S3 bl d' ba' n' rows' bm none) s' → R s) : awp P T T1 ac_sstep (S0 [.ptr 0 (some bl) 47 0 0] (lookH (S3 bl d ba n rows bm (some ⟨f, c, true⟩)))) R (fun _ _ => False) R := by
  have m1 : P.i64 (P.sub 1 d.at') := by rw [sub_eq hP]; exact i64I hP (by omega)
  have m2 : P.sub 1 d.at' = 1 - d.at' := sub_eq hP _ _
  have q1 : P.leP 0 (P.sub 1 d.at') := le0 hP (by rw [m2]; omega)
  have q2 : P.ltP (P.sub 1 d.at') 2 := ltI hP (by rw [m2]; omega)
  cbv
  repeat' (first
    | (refine And.intro (by first | assumption | decide) ?_; try cbv)
    | (intro β2; try cbv))
  refine br_cases (fun g => ?_) (fun g => ?_)
  · exact absurd (lt_t hP g) (by omega)
  cbv
  repeat' (first
    | (refine And.intro (by first | assumption | decide) ?_; try cbv)
    | (intro β2; try cbv))
  refine hsyn 0 bl d (.own 1000001 ba 3 n) (.ptr 1 (some bm) 3 0 0) _ _ _ ⟨⟨.own _ _ _ _, rfl⟩, .ptr _ _ _ _ _, rfl⟩ rfl rfl rfl fun d2 hd2 => ?_
  have hd2 : d2 = synS d (P.sub 1 d.at') := hd2
  rw [m2] at hd2
  cbv
  repeat' (first
    | (refine And.intro (by first | assumption | decide) ?_; try cbv)
    | (intro β2; try cbv))
  rcases hat with hat | hat
  · have hN : P.nat (P.sub 1 d.at') = 1 := by rw [m2, hat]; subst hP; rfl
    have hdat : datOf (synS d (1 - d.at')) (1 - d.at') = d2.x3 := by rw [← hd2, hat]; rfl
    rw [hdat] at hlen hL
    refine ⟨1, hN, ?_⟩
    cbv
    repeat' (first
      | (refine And.intro (by first | assumption | decide) ?_; try cbv)
      | (intro β5; try cbv))
    refine hrd 1000033 _ _ _ hlen rfl fun L' e ba' n' rows' hLe hn' hrows' => ?_
    have hLe : (L', e) = readL (scanF d2.x3).1 := hLe
    rw [hL] at hLe
    obtain ⟨rfl, rfl⟩ : L' = L ∧ e = 0 := ⟨congrArg Prod.fst hLe, congrArg Prod.snd hLe⟩
    refine ⟨fun _ => ?_, fun he => absurd rfl he, fun he => absurd rfl he⟩
    cbv
    repeat' (first
      | (refine And.intro (by first | assumption | decide) ?_; try cbv)
      | (intro β5; try cbv))
    refine hhd 0 bl { d2 with gn := L'.gen, b := L'.base, tx := L'.text, fs := L'.first, tb := L'.table, wh := L'.whole, gd := L'.good } 1000033 ba' n' (.ptr 1 (some bm) 3 0 0) _ _ hLb (by rw [hn']; exact hLn) ⟨.ptr _ _ _ _ _, rfl⟩ rfl rfl rfl fun q hq => ?_
    have hq2 : q = L'.base + (L'.revs.length : Int) := by rw [hq, hn']
    cbv
    repeat' (first
      | (refine And.intro (by first | assumption | decide) ?_; try cbv)
      | (intro β5; try cbv))
    refine hR _ _ { d2 with at' := P.sub 1 d.at', gn := L'.gen, b := L'.base, tx := L'.text, fs := L'.first, tb := L'.table, wh := L'.whole, gd := L'.good, sf := q, old := true } ba' n' rows' hn' hrows' (by rw [hd2, hq2, m2]; rfl)
      (Ent.trans (Ent.nilOb _ 999 124 3) (Ent.renL [(0, 0, obSh bl (rowS { d2 with at' := P.sub 1 d.at', gn := L'.gen, b := L'.base, tx := L'.text, fs := L'.first, tb := L'.table, wh := L'.whole, gd := L'.good, sf := q, old := true } (.own 1000001 ba' 3 n') .nil)), (1000001, 1000033, obV ba' rows'), (1, 999, obMv bm none)] (by show ([0, 1000033, 999] : List Nat).Nodup; decide) ⟨⟨_, rfl, rfl, rfl⟩, ⟨_, rfl, rfl, rfl⟩, ⟨_, rfl, rfl, rfl⟩, trivial⟩)) rfl ⟨rfl, rfl, rfl, trivial⟩
  · have hN : P.nat (P.sub 1 d.at') = 0 := by rw [m2, hat]; subst hP; rfl
    have hdat : datOf (synS d (1 - d.at')) (1 - d.at') = d2.x1 := by rw [← hd2, hat]; rfl
    rw [hdat] at hlen hL
    refine ⟨0, hN, ?_⟩
    cbv
    repeat' (first
      | (refine And.intro (by first | assumption | decide) ?_; try cbv)
      | (intro β5; try cbv))
    refine hrd 1000033 _ _ _ hlen rfl fun L' e ba' n' rows' hLe hn' hrows' => ?_
    have hLe : (L', e) = readL (scanF d2.x1).1 := hLe
    rw [hL] at hLe
    obtain ⟨rfl, rfl⟩ : L' = L ∧ e = 0 := ⟨congrArg Prod.fst hLe, congrArg Prod.snd hLe⟩
    refine ⟨fun _ => ?_, fun he => absurd rfl he, fun he => absurd rfl he⟩
    cbv
    repeat' (first
      | (refine And.intro (by first | assumption | decide) ?_; try cbv)
      | (intro β5; try cbv))
    refine hhd 0 bl { d2 with gn := L'.gen, b := L'.base, tx := L'.text, fs := L'.first, tb := L'.table, wh := L'.whole, gd := L'.good } 1000033 ba' n' (.ptr 1 (some bm) 3 0 0) _ _ hLb (by rw [hn']; exact hLn) ⟨.ptr _ _ _ _ _, rfl⟩ rfl rfl rfl fun q hq => ?_
    have hq2 : q = L'.base + (L'.revs.length : Int) := by rw [hq, hn']
    cbv
    repeat' (first
      | (refine And.intro (by first | assumption | decide) ?_; try cbv)
      | (intro β5; try cbv))
    refine hR _ _ { d2 with at' := P.sub 1 d.at', gn := L'.gen, b := L'.base, tx := L'.text, fs := L'.first, tb := L'.table, wh := L'.whole, gd := L'.good, sf := q, old := true } ba' n' rows' hn' hrows' (by rw [hd2, hq2, m2]; rfl)
      (Ent.trans (Ent.nilOb _ 999 124 3) (Ent.renL [(0, 0, obSh bl (rowS { d2 with at' := P.sub 1 d.at', gn := L'.gen, b := L'.base, tx := L'.text, fs := L'.first, tb := L'.table, wh := L'.whole, gd := L'.good, sf := q, old := true } (.own 1000001 ba' 3 n') .nil)), (1000001, 1000033, obV ba' rows'), (1, 999, obMv bm none)] (by show ([0, 1000033, 999] : List Nat).Nodup; decide) ⟨⟨_, rfl, rfl, rfl⟩, ⟨_, rfl, rfl, rfl⟩, ⟨_, rfl, rfl, rfl⟩, trivial⟩)) rfl ⟨rfl, rfl, rfl, trivial⟩
def shStep (d : SC) (l : List Rev) : Option Mv → StR
  | none => step0 d l
  | some m => if m.c < 0 then step1 d l m.f m.w (headF (d.gn + 1) m.f (stextT d l m.f).1 (tabG d.fs d.b (l.take (m.f - d.b).toNat))).1
    else if m.w = false then step2 d l m.f m.c (fun r => (revF r).1) (putFr 3 []).1
    else step3 d (readL (scanF (datOf (synS d (1 - d.at')) (1 - d.at'))).1).1
structure ShOk (d : SC) (l : List Rev) : Prop where
  at' : d.at' = 0 ∨ d.at' = 1
  b : 0 ≤ d.b ∧ d.b ≤ 2147483647
  gn : 0 ≤ d.gn ∧ d.gn ≤ 4294967295
  len : l.length ≤ 64
  rv : RevsOk l
  who : ∀ r ∈ l, 0 ≤ r.who ∧ r.who ≤ 7
  dl : ∀ r ∈ l, r.delta.length ≤ 1000000000
structure StepOk (d : SC) (l : List Rev) (m : Option Mv) : Prop extends ShOk d l where
  mv : ∀ f c w, m = some ⟨f, c, w⟩ → (d.b ≤ f ∧ f ≤ d.b + (l.length : Int)) ∧ c ≤ 4294967295 ∧ (0 ≤ c → w = true → (datOf (synS d (1 - d.at')) (1 - d.at')).length ≤ 1048576 ∧ (readL (scanF (datOf (synS d (1 - d.at')) (1 - d.at'))).1).2 = 0 ∧
    (0 ≤ (readL (scanF (datOf (synS d (1 - d.at')) (1 - d.at'))).1).1.base ∧ (readL (scanF (datOf (synS d (1 - d.at')) (1 - d.at'))).1).1.base ≤ 2147483647) ∧ (readL (scanF (datOf (synS d (1 - d.at')) (1 - d.at'))).1).1.revs.length ≤ 64)
theorem stext_len (d : SC) (l : List Rev) (j : Int) (hd : d.tx.length ≤ maxLen) : (stextT d l j).1.length ≤ maxLen := by
  have hm : (500 : Nat) ≤ maxLen := by decide
  unfold stextT
  split
  · exact Nat.zero_le _
  · unfold textF
    split
    · exact Nat.zero_le _
    · rename_i h
      have h2 := textsF_ok (Decidable.of_not_not h)
      split
      · exact Nat.zero_le _
      · rw [h2.2.2.2.1]
        simp only
        have h3 : ∀ (l : List Rev) (now : List UInt8), now.length ≤ 500 → (goT now l).2 = 0 → ∀ i, ((now :: (goT now l).1).getD i []).length ≤ 500 := by
          intro l
          induction l with
          | nil => intro now hn _ i; cases i with | zero => exact hn | succ i => simp [goT]
          | cons r l ih =>
            intro now hn hg i
            cases i with
            | zero => exact hn
            | succ i =>
              obtain ⟨_, c2, c3, c4⟩ := goT_cons hg
              rw [c4, List.getD_cons_succ]
              refine ih _ ?_ c3 i
              obtain ⟨k1, _, k3, _⟩ := doF_chain c2
              have := checkF_all k1
              have := out_of k1
              omega
        exact Nat.le_trans (h3 l d.tx h2.1 h2.2.2.1 _) hm
theorem sp_sstep (bl : Nat) (d : SC) (ba : Option Nat) (l : List Rev) (bm : Nat) (m : Option Mv) (hok : StepOk d l m) (htx : d.tx.length ≤ maxLen) : Spec Try.prog 24 [.ptr 0 (some bl) 47 0 0] (lookH (S3 bl d ba l.length (l.map encRev) bm m))
    fun x h' => ∃ L', (∃ ba' bm' d' l' m', (∃ v, x = .bool v ∧ ⟨d', l', m', v⟩ = shStep d l m) ∧ L' = S3 bl d' ba' l'.length (l'.map encRev) bm' m') ∧ h' = lookH L' := by
  have hb := hok.b
  have hb2 : 0 ≤ d.b ∧ d.b ≤ 4294967295 := ⟨hb.1, by omega⟩
  have hn2 : l.length ≤ 1000 := Nat.le_trans hok.len (by decide)
  refine spec_meth dOk ok_sstep (L := S3 bl d ba l.length (l.map encRev) bm m) (fun x L' => ∃ ba' bm' d' l' m', (∃ v, x = .bool v ∧ ⟨d', l', m', v⟩ = shStep d l m) ∧ L' = S3 bl d' ba' l'.length (l'.map encRev) bm' m') fun R hR => ?_
  obtain _ | ⟨f, c, w⟩ := m
  · exact vc_sstep0 std rfl _ _ strmC bl d ba l l.length (l.map encRev) bm hok.at' R fun s s' d' v hd he hr ha => hR s s' (.bool v) _ he (resV_mono _ _ _ (fun x hx => by rw [hx]; rfl) hr) ha (.bool _) S3_fz ⟨ba, bm, d', l, none, ⟨v, rfl, hd⟩, rfl⟩
  · obtain ⟨hf, hc2, hw⟩ := hok.mv f c w rfl
    by_cases hc : c < 0
    · have hst : shStep d l (some ⟨f, c, w⟩) = step1 d l f w (headF (d.gn + 1) f (stextT d l f).1 (tabG d.fs d.b (l.take (f - d.b).toNat))).1 := by
        show (if c < 0 then _ else _) = _
        rw [if_pos hc]
      exact vc_sstep1 std rfl _ _ strmC sputC stextE stabP bl d ba l hok.rv l.length rfl (l.map encRev) rfl bm f c w hc hok.at' hb2 hn2 hok.who hf hok.gn (headF (d.gn + 1) f (stextT d l f).1 (tabG d.fs d.b (l.take (f - d.b).toNat))).1 (headF (d.gn + 1) f (stextT d l f).1 (tabG d.fs d.b (l.take (f - d.b).toNat))).2 (by have := headF_len (d.gn + 1) f (stextT d l f).1 (tabG d.fs d.b (l.take (f - d.b).toNat)); omega)
        (fun x tb g hx htb hg => by subst hx htb hg; exact ansP (sp_hhead (d.gn + 1) f _ (stext_len d l f htx) _) (fun _ => .cons (.same _) (.cons (.same _) (.cons (.same _) (.cons (.same _) .nil)))) rfl) R
        fun s s' d' hd he hr ha => hR s s' (.bool true) _ he (resV_mono _ _ _ (fun x hx => by rw [hx]; rfl) hr) ha (.bool _) S3_fz ⟨ba, bm, d', l, some ⟨f, 0, w⟩, ⟨true, rfl, by rw [hst]; exact hd⟩, rfl⟩
    · cases w with
      | false =>
        have hst : shStep d l (some ⟨f, c, false⟩) = step2 d l f c (fun r => (revF r).1) (putFr 3 []).1 := by
          show (if c < 0 then _ else _) = _
          rw [if_neg hc, if_pos rfl]
        exact vc_sstep2 std rfl _ _ sputC sheadP bl d ba l l.length rfl (l.map encRev) rfl bm f c ⟨by omega, hc2⟩ hok.at' hb2 hn2 hf (fun r => (revF r).1) (fun r => (revF r).2) (fun r => by have := revF_len r; omega) (putFr 3 []).1 (by have := putFr_len 3 []; omega)
          (fun r hr => ansP (sp_hrevT r (hok.rv.2 r hr).2.2) (fun h => .cons (by
            obtain ⟨a1, a2⟩ := arg_agg (h := h) (m := []) (l := [.int .i64 r.who, .int .i64 r.seq, .sl false 3 (r.delta.map encPart)]) (l' := encRevT r) (.cons (.same _) (.cons (.same _) (.cons (.weak _ _) .nil)))
            exact .agg _ _ a1 a2) .nil) rfl) (ansSame sp_hdone rfl rfl) R
          fun s s' d' m' hd he hr ha => hR s s' (.bool true) _ he (resV_mono _ _ _ (fun x hx => by rw [hx]; rfl) hr) ha (.bool _) S3_fz ⟨ba, bm, d', l, some m', ⟨true, rfl, by rw [hst]; exact hd⟩, rfl⟩
      | true =>
        obtain ⟨w1, w2, w3, w4⟩ := hw (by omega) rfl
        obtain ⟨L, hL⟩ : ∃ L, (readL (scanF (datOf (synS d (1 - d.at')) (1 - d.at'))).1).1 = L := ⟨_, rfl⟩
        have hst : shStep d l (some ⟨f, c, true⟩) = step3 d L := by
          show (if c < 0 then _ else _) = _
          rw [if_neg hc, if_neg (by simp), hL]
        rw [hL] at w3 w4
        exact vc_sstep3 std rfl _ _ ssynC hreadC sheadE bl d ba l.length (l.map encRev) bm f c (by omega) hok.at' w1 L (Prod.ext hL w2) ⟨w3.1, by omega⟩ (by omega) sheadP R
          fun s s' d' ba' n' rows' hn' hrows' hd he hr ha => by
            subst hn' hrows'
            exact hR s s' (.bool true) _ he (resV_mono _ _ _ (fun x hx => by rw [hx]; rfl) hr) ha (.bool _) S3_fz ⟨ba', bm, d', L.revs, none, ⟨true, rfl, by rw [hst]; exact hd⟩, rfl⟩
end Go.Proofs.Ytobngncjflogcaa.AM

set_option linter.unusedVariables false
set_option linter.unusedSimpArgs false
namespace Go.Proofs.Ytobngncjflogcaa.AM
open Go Go.RowKit
set_option maxRecDepth 100000
set_option maxHeartbeats 2000000
def put2 (d : SC) (m : Option Mv) (t : List UInt8) : SC := match m with
  | none => putS d d.at' t
  | some m => if m.w = true then putS (putS d d.at' t) (1 - d.at') t else putS d d.at' t
theorem vc_saddN (P : Prim) (hP : P = std) (T T1 : CallT) (hpre : ∀ f vs h h' K, HEnt h h' → T f vs h' K → T f vs h K) (hput : SPutC T) (hadd : HAddC T) (hhd : SHeadC T) (bl bm : Nat) (d : SC) (ba : Option Nat) (l : List Rev) (n : Nat) (hn : n = l.length) (rows : List (List V)) (hrows : rows = l.map encRev) (hat : d.at' = 0 ∨ d.at' = 1)
    (r : Rev) (w q : Int) (dr : List (List V)) (hwq : w = r.who ∧ q = r.seq ∧ dr = r.delta.map encPart) (hdz : ∀ x ∈ dr, ∀ v ∈ x, Fz v) (hb : 0 ≤ d.b ∧ d.b ≤ 2147483647)
    (e1 : Int) (hdl : e1 = 0 → dr.length ≤ 1000000000) (h1 : ∀ (h : Hp) (K : V → Hp → Prop), h 1000001 = some ⟨ba, 45, 3, rows⟩ → K (.int .i64 e1) h → T1 60 [.agg [.int .i64 d.gn, .int .i64 d.b, .str d.tx, .int .i64 (d.fs 0), .int .i64 (d.fs 1), .int .i64 (d.fs 2), .int .i64 (d.fs 3), .int .i64 (d.fs 4), .int .i64 (d.fs 5), .int .i64 (d.fs 6), .int .i64 (d.fs 7), .int .i64 (d.fs 8), .int .i64 (d.fs 9), .int .i64 (d.fs 10), .int .i64 (d.fs 11), .int .i64 (d.fs 12), .int .i64 (d.fs 13), .int .i64 (d.fs 14), .int .i64 (d.fs 15), .int .i64 (d.tb 0), .int .i64 (d.tb 1), .int .i64 (d.tb 2), .int .i64 (d.tb 3), .int .i64 (d.tb 4), .int .i64 (d.tb 5), .int .i64 (d.tb 6), .int .i64 (d.tb 7), .int .i64 (d.tb 8), .int .i64 (d.tb 9), .int .i64 (d.tb 10), .int .i64 (d.tb 11), .int .i64 (d.tb 12), .int .i64 (d.tb 13), .int .i64 (d.tb 14), .int .i64 (d.tb 15), .own 1000001 ba 3 n, .bool d.wh, .int .i64 d.gd], .int .i64 (P.slen d.now), .agg [.int .i64 w, .int .i64 q, .sl false 3 dr]] h K)
    (he1 : e1 = 0 → (0 ≤ r.who ∧ r.who ≤ 7) ∧ l.length < 64) (t : List UInt8) (e : Int) (htl : t.length ≤ 140737488355328)
    (h2 : e1 = 0 → ∀ (k : Nat) (b : Option Nat) (n' : Nat) (h : Hp) (K : V → Hp → Prop), n' = dr.length → h k = some ⟨b, 108, 3, dr⟩ → K (.tup [.str t, .int .i64 e]) h → T 61 [.agg [.int .i64 w, .int .i64 q, .own k b 3 n']] h K)
    (u : List UInt8) (f : Int) (h3 : e1 = 0 → Ans T1 16 [.sl false 3 dr, .str d.now] (.tup [.str u, .int .i64 f]))
    (Y : AddR) (hY : Y = (if e1 ≠ 0 then ⟨d, l, 0, e1⟩ else if e ≠ 0 then ⟨d, l, 0, e⟩ else ⟨addD { put2 d (none : Option Mv) t with now := u } l r, l ++ [r], d.b + (l.length + 1 : Nat), 0⟩))
    (R : S → Prop) (hR : ∀ s s' ba' n' rows', n' = Y.l.length → rows' = Y.l.map encRev → Ent s s' → Ret [.t 4, .t 5] [.int .i64 Y.v, .int .i64 Y.e] s' → agreeH (S3 bl Y.d ba' n' rows' bm (none : Option Mv)) s' → R s) :
    awp P T T1 ac_sadd (S0 [.ptr 0 (some bl) 47 0 0, .agg [.int .i64 w, .int .i64 q, .sl false 3 dr]] (lookH (S3 bl d ba n rows bm (none : Option Mv)))) R (fun _ _ => False) R := by
  have f2 : dr.length = P.rlenN dr := by subst hP; rfl
  have m1 : P.i64 (P.sub 1 d.at') := by rw [sub_eq hP]; exact i64I hP (by omega)
  have m2 : P.sub 1 d.at' = 1 - d.at' := sub_eq hP _ _
  cbv
  repeat' (first
    | (refine And.intro (by first | assumption | decide) ?_; try cbv)
    | (intro β2; try cbv))
  refine h1 _ _ rfl ?_
  cbv
  repeat' (first
    | (refine And.intro (by first | assumption | decide) ?_; try cbv)
    | (intro β2; try cbv))
  refine br_cases (fun g => ?_) (fun g => ?_)
  · have g1 : e1 ≠ 0 := ne_t hP g
    rw [if_pos g1] at hY
    cbv
    repeat' (first
    | (refine And.intro (by first | assumption | decide) ?_; try cbv)
    | (intro β2; try cbv))
    subst hY
    exact hR _ _ ba n rows hn hrows (Ent.refl _) rfl ⟨rfl, rfl, rfl, trivial⟩
  have g1 : e1 = 0 := ne_f hP g
  rw [if_neg (fun hh => hh g1)] at hY
  obtain ⟨hw, hl64⟩ := he1 g1
  have hdl := hdl g1
  have f1 : P.bytes (P.rlen dr) 32 := by subst hP; show (dr.length : Int) * 32 ≤ _; ((try simp only [nc] at *); omega)
  cbv
  repeat' (first
    | (refine And.intro (by first | assumption | decide) ?_; try cbv)
    | (intro β2; try cbv))
  refine h2 g1 1000025 _ _ _ _ f2.symm rfl ?_
  cbv
  repeat' (first
    | (refine And.intro (by first | assumption | decide) ?_; try cbv)
    | (intro β2; try cbv))
  refine br_cases (fun g => ?_) (fun g => ?_)
  · have g2 : e ≠ 0 := ne_t hP g
    rw [if_pos g2] at hY
    cbv
    repeat' (first
    | (refine And.intro (by first | assumption | decide) ?_; try cbv)
    | (intro β2; try cbv))
    subst hY
    exact hR _ _ ba n rows hn hrows (Ent.refl _) rfl ⟨rfl, rfl, rfl, trivial⟩
  have g2 : e = 0 := ne_f hP g
  rw [if_neg (fun hh => hh g2)] at hY
  cbv
  repeat' (first
    | (refine And.intro (by first | assumption | decide) ?_; try cbv)
    | (intro β2; try cbv))
  refine hpre _ _ _ _ _ (HEnt.frzC (k := 1000025) (q := 3) (c := 2) rfl rfl rfl rfl rfl rfl f2 hdz) ?_
  refine hput 0 bl d (.own 1000001 ba 3 n) .nil _ _ _ _ htl ⟨⟨.own _ _ _ _, rfl⟩, .nil, rfl⟩ rfl rfl rfl fun d0 hd0 => ?_
  obtain ⟨d1, hd1⟩ : ∃ d1, d1 = d0 := ⟨_, rfl⟩
  rw [← hd1]
  rw [hd0] at hd1
  have hb1 : d1.b = d.b := by rw [hd1]; rfl
  have hnow1 : d1.now = d.now := by rw [hd1]; rfl
  have h3' : Ans T1 16 [.sl false 3 dr, .str d1.now] (.tup [.str u, .int .i64 f]) := by rw [hnow1]; exact h3 g1
  cbv
  repeat' (first
    | (refine And.intro (by first | assumption | decide) ?_; try cbv)
    | (intro β2; try cbv))
  refine h3' _ _ ?_
  cbv
  repeat' (first
    | (refine And.intro (by first | assumption | decide) ?_; try cbv)
    | (intro β2; try cbv))
  refine hadd 0 1000001 bl { d1 with now := u } ba n rows l .nil w q dr r _ _ hrows hn (by omega) hwq hw (by show 0 ≤ d1.b ∧ d1.b ≤ _; rw [hb1]; omega) ⟨⟨.nil, rfl⟩, rfl⟩ rfl rfl rfl rfl fun ba2 d2 n2 rows2 hd2 hn2 hrows2 => ?_
  have hb2 : d2.b = d.b := by rw [hd2]; exact hb1
  cbv
  repeat' (first
    | (refine And.intro (by first | assumption | decide) ?_; try cbv)
    | (intro β2; try cbv))
  refine hhd 0 bl d2 1000001 ba2 n2 .nil _ _ (by rw [hb2]; omega) (by omega) ⟨.nil, rfl⟩ rfl rfl rfl fun v hv => ?_
  cbv
  repeat' (first
    | (refine And.intro (by first | assumption | decide) ?_; try cbv)
    | (intro β2; try cbv))
  have hv2 : v = Y.v := by rw [hY, hv, hb2, hn2]
  have hYd : Y.d = d2 := by rw [hY, hd2, hd1]; rfl
  have hYl : Y.l = l ++ [r] := by rw [hY]
  have hYe : Y.e = 0 := by rw [hY]
  subst hv2
  refine hR _ _ ba2 n2 rows2 (by rw [hYl, hn2]; simp) (by rw [hYl, hrows2]) (Ent.refl _) (by rw [hYe]; rfl) ?_
  rw [hYd]
  exact ⟨rfl, rfl, rfl, trivial⟩
theorem vc_saddF (P : Prim) (hP : P = std) (T T1 : CallT) (hpre : ∀ f vs h h' K, HEnt h h' → T f vs h' K → T f vs h K) (hput : SPutC T) (hadd : HAddC T) (hhd : SHeadC T) (bl bm : Nat) (fm cm : Int) (d : SC) (ba : Option Nat) (l : List Rev) (n : Nat) (hn : n = l.length) (rows : List (List V)) (hrows : rows = l.map encRev) (hat : d.at' = 0 ∨ d.at' = 1)
    (r : Rev) (w q : Int) (dr : List (List V)) (hwq : w = r.who ∧ q = r.seq ∧ dr = r.delta.map encPart) (hdz : ∀ x ∈ dr, ∀ v ∈ x, Fz v) (hb : 0 ≤ d.b ∧ d.b ≤ 2147483647)
    (e1 : Int) (hdl : e1 = 0 → dr.length ≤ 1000000000) (h1 : ∀ (h : Hp) (K : V → Hp → Prop), h 1000001 = some ⟨ba, 45, 3, rows⟩ → K (.int .i64 e1) h → T1 60 [.agg [.int .i64 d.gn, .int .i64 d.b, .str d.tx, .int .i64 (d.fs 0), .int .i64 (d.fs 1), .int .i64 (d.fs 2), .int .i64 (d.fs 3), .int .i64 (d.fs 4), .int .i64 (d.fs 5), .int .i64 (d.fs 6), .int .i64 (d.fs 7), .int .i64 (d.fs 8), .int .i64 (d.fs 9), .int .i64 (d.fs 10), .int .i64 (d.fs 11), .int .i64 (d.fs 12), .int .i64 (d.fs 13), .int .i64 (d.fs 14), .int .i64 (d.fs 15), .int .i64 (d.tb 0), .int .i64 (d.tb 1), .int .i64 (d.tb 2), .int .i64 (d.tb 3), .int .i64 (d.tb 4), .int .i64 (d.tb 5), .int .i64 (d.tb 6), .int .i64 (d.tb 7), .int .i64 (d.tb 8), .int .i64 (d.tb 9), .int .i64 (d.tb 10), .int .i64 (d.tb 11), .int .i64 (d.tb 12), .int .i64 (d.tb 13), .int .i64 (d.tb 14), .int .i64 (d.tb 15), .own 1000001 ba 3 n, .bool d.wh, .int .i64 d.gd], .int .i64 (P.slen d.now), .agg [.int .i64 w, .int .i64 q, .sl false 3 dr]] h K)
    (he1 : e1 = 0 → (0 ≤ r.who ∧ r.who ≤ 7) ∧ l.length < 64) (t : List UInt8) (e : Int) (htl : t.length ≤ 140737488355328)
    (h2 : e1 = 0 → ∀ (k : Nat) (b : Option Nat) (n' : Nat) (h : Hp) (K : V → Hp → Prop), n' = dr.length → h k = some ⟨b, 108, 3, dr⟩ → K (.tup [.str t, .int .i64 e]) h → T 61 [.agg [.int .i64 w, .int .i64 q, .own k b 3 n']] h K)
    (u : List UInt8) (f : Int) (h3 : e1 = 0 → Ans T1 16 [.sl false 3 dr, .str d.now] (.tup [.str u, .int .i64 f]))
    (Y : AddR) (hY : Y = (if e1 ≠ 0 then ⟨d, l, 0, e1⟩ else if e ≠ 0 then ⟨d, l, 0, e⟩ else ⟨addD { put2 d (some ⟨fm, cm, false⟩ : Option Mv) t with now := u } l r, l ++ [r], d.b + (l.length + 1 : Nat), 0⟩))
    (R : S → Prop) (hR : ∀ s s' ba' n' rows', n' = Y.l.length → rows' = Y.l.map encRev → Ent s s' → Ret [.t 4, .t 5] [.int .i64 Y.v, .int .i64 Y.e] s' → agreeH (S3 bl Y.d ba' n' rows' bm (some ⟨fm, cm, false⟩ : Option Mv)) s' → R s) :
    awp P T T1 ac_sadd (S0 [.ptr 0 (some bl) 47 0 0, .agg [.int .i64 w, .int .i64 q, .sl false 3 dr]] (lookH (S3 bl d ba n rows bm (some ⟨fm, cm, false⟩ : Option Mv)))) R (fun _ _ => False) R := by
  have f2 : dr.length = P.rlenN dr := by subst hP; rfl
  have m1 : P.i64 (P.sub 1 d.at') := by rw [sub_eq hP]; exact i64I hP (by omega)
  have m2 : P.sub 1 d.at' = 1 - d.at' := sub_eq hP _ _
  cbv
  repeat' (first
    | (refine And.intro (by first | assumption | decide) ?_; try cbv)
    | (intro β2; try cbv))
  refine h1 _ _ rfl ?_
  cbv
  repeat' (first
    | (refine And.intro (by first | assumption | decide) ?_; try cbv)
    | (intro β2; try cbv))
  refine br_cases (fun g => ?_) (fun g => ?_)
  · have g1 : e1 ≠ 0 := ne_t hP g
    rw [if_pos g1] at hY
    cbv
    repeat' (first
    | (refine And.intro (by first | assumption | decide) ?_; try cbv)
    | (intro β2; try cbv))
    subst hY
    exact hR _ _ ba n rows hn hrows (Ent.refl _) rfl ⟨rfl, rfl, rfl, trivial⟩
  have g1 : e1 = 0 := ne_f hP g
  rw [if_neg (fun hh => hh g1)] at hY
  obtain ⟨hw, hl64⟩ := he1 g1
  have hdl := hdl g1
  have f1 : P.bytes (P.rlen dr) 32 := by subst hP; show (dr.length : Int) * 32 ≤ _; ((try simp only [nc] at *); omega)
  cbv
  repeat' (first
    | (refine And.intro (by first | assumption | decide) ?_; try cbv)
    | (intro β2; try cbv))
  refine h2 g1 1000025 _ _ _ _ f2.symm rfl ?_
  cbv
  repeat' (first
    | (refine And.intro (by first | assumption | decide) ?_; try cbv)
    | (intro β2; try cbv))
  refine br_cases (fun g => ?_) (fun g => ?_)
  · have g2 : e ≠ 0 := ne_t hP g
    rw [if_pos g2] at hY
    cbv
    repeat' (first
    | (refine And.intro (by first | assumption | decide) ?_; try cbv)
    | (intro β2; try cbv))
    subst hY
    exact hR _ _ ba n rows hn hrows (Ent.refl _) rfl ⟨rfl, rfl, rfl, trivial⟩
  have g2 : e = 0 := ne_f hP g
  rw [if_neg (fun hh => hh g2)] at hY
  cbv
  repeat' (first
    | (refine And.intro (by first | assumption | decide) ?_; try cbv)
    | (intro β2; try cbv))
  refine hpre _ _ _ _ _ (HEnt.frzC (k := 1000025) (q := 3) (c := 2) rfl rfl rfl rfl rfl rfl f2 hdz) ?_
  refine hput 0 bl d (.own 1000001 ba 3 n) (.ptr 1 (some bm) 3 0 0) _ _ _ _ htl ⟨⟨.own _ _ _ _, rfl⟩, .ptr _ _ _ _ _, rfl⟩ rfl rfl rfl fun d0 hd0 => ?_
  obtain ⟨d1, hd1⟩ : ∃ d1, d1 = d0 := ⟨_, rfl⟩
  rw [← hd1]
  rw [hd0] at hd1
  have hb1 : d1.b = d.b := by rw [hd1]; rfl
  have hnow1 : d1.now = d.now := by rw [hd1]; rfl
  have h3' : Ans T1 16 [.sl false 3 dr, .str d1.now] (.tup [.str u, .int .i64 f]) := by rw [hnow1]; exact h3 g1
  cbv
  repeat' (first
    | (refine And.intro (by first | assumption | decide) ?_; try cbv)
    | (intro β2; try cbv))
  refine h3' _ _ ?_
  cbv
  repeat' (first
    | (refine And.intro (by first | assumption | decide) ?_; try cbv)
    | (intro β2; try cbv))
  refine hadd 0 1000001 bl { d1 with now := u } ba n rows l (.ptr 1 (some bm) 3 0 0) w q dr r _ _ hrows hn (by omega) hwq hw (by show 0 ≤ d1.b ∧ d1.b ≤ _; rw [hb1]; omega) ⟨⟨.ptr _ _ _ _ _, rfl⟩, rfl⟩ rfl rfl rfl rfl fun ba2 d2 n2 rows2 hd2 hn2 hrows2 => ?_
  have hb2 : d2.b = d.b := by rw [hd2]; exact hb1
  cbv
  repeat' (first
    | (refine And.intro (by first | assumption | decide) ?_; try cbv)
    | (intro β2; try cbv))
  refine hhd 0 bl d2 1000001 ba2 n2 (.ptr 1 (some bm) 3 0 0) _ _ (by rw [hb2]; omega) (by omega) ⟨.ptr _ _ _ _ _, rfl⟩ rfl rfl rfl fun v hv => ?_
  cbv
  repeat' (first
    | (refine And.intro (by first | assumption | decide) ?_; try cbv)
    | (intro β2; try cbv))
  have hv2 : v = Y.v := by rw [hY, hv, hb2, hn2]
  have hYd : Y.d = d2 := by rw [hY, hd2, hd1]; rfl
  have hYl : Y.l = l ++ [r] := by rw [hY]
  have hYe : Y.e = 0 := by rw [hY]
  subst hv2
  refine hR _ _ ba2 n2 rows2 (by rw [hYl, hn2]; simp) (by rw [hYl, hrows2]) (Ent.refl _) (by rw [hYe]; rfl) ?_
  rw [hYd]
  exact ⟨rfl, rfl, rfl, trivial⟩
theorem vc_saddT (P : Prim) (hP : P = std) (T T1 : CallT) (hpre : ∀ f vs h h' K, HEnt h h' → T f vs h' K → T f vs h K) (hput : SPutC T) (hadd : HAddC T) (hhd : SHeadC T) (bl bm : Nat) (fm cm : Int) (d : SC) (ba : Option Nat) (l : List Rev) (n : Nat) (hn : n = l.length) (rows : List (List V)) (hrows : rows = l.map encRev) (hat : d.at' = 0 ∨ d.at' = 1)
    (r : Rev) (w q : Int) (dr : List (List V)) (hwq : w = r.who ∧ q = r.seq ∧ dr = r.delta.map encPart) (hdz : ∀ x ∈ dr, ∀ v ∈ x, Fz v) (hb : 0 ≤ d.b ∧ d.b ≤ 2147483647)
    (e1 : Int) (hdl : e1 = 0 → dr.length ≤ 1000000000) (h1 : ∀ (h : Hp) (K : V → Hp → Prop), h 1000001 = some ⟨ba, 45, 3, rows⟩ → K (.int .i64 e1) h → T1 60 [.agg [.int .i64 d.gn, .int .i64 d.b, .str d.tx, .int .i64 (d.fs 0), .int .i64 (d.fs 1), .int .i64 (d.fs 2), .int .i64 (d.fs 3), .int .i64 (d.fs 4), .int .i64 (d.fs 5), .int .i64 (d.fs 6), .int .i64 (d.fs 7), .int .i64 (d.fs 8), .int .i64 (d.fs 9), .int .i64 (d.fs 10), .int .i64 (d.fs 11), .int .i64 (d.fs 12), .int .i64 (d.fs 13), .int .i64 (d.fs 14), .int .i64 (d.fs 15), .int .i64 (d.tb 0), .int .i64 (d.tb 1), .int .i64 (d.tb 2), .int .i64 (d.tb 3), .int .i64 (d.tb 4), .int .i64 (d.tb 5), .int .i64 (d.tb 6), .int .i64 (d.tb 7), .int .i64 (d.tb 8), .int .i64 (d.tb 9), .int .i64 (d.tb 10), .int .i64 (d.tb 11), .int .i64 (d.tb 12), .int .i64 (d.tb 13), .int .i64 (d.tb 14), .int .i64 (d.tb 15), .own 1000001 ba 3 n, .bool d.wh, .int .i64 d.gd], .int .i64 (P.slen d.now), .agg [.int .i64 w, .int .i64 q, .sl false 3 dr]] h K)
    (he1 : e1 = 0 → (0 ≤ r.who ∧ r.who ≤ 7) ∧ l.length < 64) (t : List UInt8) (e : Int) (htl : t.length ≤ 140737488355328)
    (h2 : e1 = 0 → ∀ (k : Nat) (b : Option Nat) (n' : Nat) (h : Hp) (K : V → Hp → Prop), n' = dr.length → h k = some ⟨b, 108, 3, dr⟩ → K (.tup [.str t, .int .i64 e]) h → T 61 [.agg [.int .i64 w, .int .i64 q, .own k b 3 n']] h K)
    (u : List UInt8) (f : Int) (h3 : e1 = 0 → Ans T1 16 [.sl false 3 dr, .str d.now] (.tup [.str u, .int .i64 f]))
    (Y : AddR) (hY : Y = (if e1 ≠ 0 then ⟨d, l, 0, e1⟩ else if e ≠ 0 then ⟨d, l, 0, e⟩ else ⟨addD { put2 d (some ⟨fm, cm, true⟩ : Option Mv) t with now := u } l r, l ++ [r], d.b + (l.length + 1 : Nat), 0⟩))
    (R : S → Prop) (hR : ∀ s s' ba' n' rows', n' = Y.l.length → rows' = Y.l.map encRev → Ent s s' → Ret [.t 4, .t 5] [.int .i64 Y.v, .int .i64 Y.e] s' → agreeH (S3 bl Y.d ba' n' rows' bm (some ⟨fm, cm, true⟩ : Option Mv)) s' → R s) :
    awp P T T1 ac_sadd (S0 [.ptr 0 (some bl) 47 0 0, .agg [.int .i64 w, .int .i64 q, .sl false 3 dr]] (lookH (S3 bl d ba n rows bm (some ⟨fm, cm, true⟩ : Option Mv)))) R (fun _ _ => False) R := by
  have f2 : dr.length = P.rlenN dr := by subst hP; rfl
  have m1 : P.i64 (P.sub 1 d.at') := by rw [sub_eq hP]; exact i64I hP (by omega)
  have m2 : P.sub 1 d.at' = 1 - d.at' := sub_eq hP _ _
  cbv
  repeat' (first
    | (refine And.intro (by first | assumption | decide) ?_; try cbv)
    | (intro β2; try cbv))
  refine h1 _ _ rfl ?_
  cbv
  repeat' (first
    | (refine And.intro (by first | assumption | decide) ?_; try cbv)
    | (intro β2; try cbv))
  refine br_cases (fun g => ?_) (fun g => ?_)
  · have g1 : e1 ≠ 0 := ne_t hP g
    rw [if_pos g1] at hY
    cbv
    repeat' (first
    | (refine And.intro (by first | assumption | decide) ?_; try cbv)
    | (intro β2; try cbv))
    subst hY
    exact hR _ _ ba n rows hn hrows (Ent.refl _) rfl ⟨rfl, rfl, rfl, trivial⟩
  have g1 : e1 = 0 := ne_f hP g
  rw [if_neg (fun hh => hh g1)] at hY
  obtain ⟨hw, hl64⟩ := he1 g1
  have hdl := hdl g1
  have f1 : P.bytes (P.rlen dr) 32 := by subst hP; show (dr.length : Int) * 32 ≤ _; ((try simp only [nc] at *); omega)
  cbv
  repeat' (first
    | (refine And.intro (by first | assumption | decide) ?_; try cbv)
    | (intro β2; try cbv))
  refine h2 g1 1000025 _ _ _ _ f2.symm rfl ?_
  cbv
  repeat' (first
    | (refine And.intro (by first | assumption | decide) ?_; try cbv)
    | (intro β2; try cbv))
  refine br_cases (fun g => ?_) (fun g => ?_)
  · have g2 : e ≠ 0 := ne_t hP g
    rw [if_pos g2] at hY
    cbv
    repeat' (first
    | (refine And.intro (by first | assumption | decide) ?_; try cbv)
    | (intro β2; try cbv))
    subst hY
    exact hR _ _ ba n rows hn hrows (Ent.refl _) rfl ⟨rfl, rfl, rfl, trivial⟩
  have g2 : e = 0 := ne_f hP g
  rw [if_neg (fun hh => hh g2)] at hY
  cbv
  repeat' (first
    | (refine And.intro (by first | assumption | decide) ?_; try cbv)
    | (intro β2; try cbv))
  refine hpre _ _ _ _ _ (HEnt.frzC (k := 1000025) (q := 3) (c := 2) rfl rfl rfl rfl rfl rfl f2 hdz) ?_
  refine hput 0 bl d (.own 1000001 ba 3 n) (.ptr 1 (some bm) 3 0 0) _ _ _ _ htl ⟨⟨.own _ _ _ _, rfl⟩, .ptr _ _ _ _ _, rfl⟩ rfl rfl rfl fun d0 hd0 => ?_
  have hat0 : d0.at' = d.at' := by rw [hd0]; rfl
  have m3 : P.i64 (P.sub 1 d0.at') := by rw [hat0]; exact m1
  cbv
  repeat' (first
    | (refine And.intro (by first | assumption | decide) ?_; try cbv)
    | (intro β2; try cbv))
  refine hput 0 bl d0 (.own 1000001 ba 3 n) (.ptr 1 (some bm) 3 0 0) _ _ _ _ htl ⟨⟨.own _ _ _ _, rfl⟩, .ptr _ _ _ _ _, rfl⟩ rfl rfl rfl fun d1 hd1 => ?_
  have hd1 : d1 = putS d0 (P.sub 1 d0.at') t := hd1
  rw [hat0, m2, hd0] at hd1
  have hb1 : d1.b = d.b := by rw [hd1]; rfl
  have hnow1 : d1.now = d.now := by rw [hd1]; rfl
  have h3' : Ans T1 16 [.sl false 3 dr, .str d1.now] (.tup [.str u, .int .i64 f]) := by rw [hnow1]; exact h3 g1
  cbv
  repeat' (first
    | (refine And.intro (by first | assumption | decide) ?_; try cbv)
    | (intro β2; try cbv))
  refine h3' _ _ ?_
  cbv
  repeat' (first
    | (refine And.intro (by first | assumption | decide) ?_; try cbv)
    | (intro β2; try cbv))
  refine hadd 0 1000001 bl { d1 with now := u } ba n rows l (.ptr 1 (some bm) 3 0 0) w q dr r _ _ hrows hn (by omega) hwq hw (by show 0 ≤ d1.b ∧ d1.b ≤ _; rw [hb1]; omega) ⟨⟨.ptr _ _ _ _ _, rfl⟩, rfl⟩ rfl rfl rfl rfl fun ba2 d2 n2 rows2 hd2 hn2 hrows2 => ?_
  have hb2 : d2.b = d.b := by rw [hd2]; exact hb1
  cbv
  repeat' (first
    | (refine And.intro (by first | assumption | decide) ?_; try cbv)
    | (intro β2; try cbv))
  refine hhd 0 bl d2 1000001 ba2 n2 (.ptr 1 (some bm) 3 0 0) _ _ (by rw [hb2]; omega) (by omega) ⟨.ptr _ _ _ _ _, rfl⟩ rfl rfl rfl fun v hv => ?_
  cbv
  repeat' (first
    | (refine And.intro (by first | assumption | decide) ?_; try cbv)
    | (intro β2; try cbv))
  have hv2 : v = Y.v := by rw [hY, hv, hb2, hn2]
  have hYd : Y.d = d2 := by rw [hY, hd2, hd1]; rfl
  have hYl : Y.l = l ++ [r] := by rw [hY]
  have hYe : Y.e = 0 := by rw [hY]
  subst hv2
  refine hR _ _ ba2 n2 rows2 (by rw [hYl, hn2]; simp) (by rw [hYl, hrows2]) (Ent.refl _) (by rw [hYe]; rfl) ?_
  rw [hYd]
  exact ⟨rfl, rfl, rfl, trivial⟩
def shAddM (d : SC) (l : List Rev) (m : Option Mv) (r : Rev) : AddR := if nextF d.b d.tb l.length d.now.length r ≠ 0 then ⟨d, l, 0, nextF d.b d.tb l.length d.now.length r⟩ else if (revF r).2 ≠ 0 then ⟨d, l, 0, (revF r).2⟩
  else ⟨addD { put2 d m (revF r).1 with now := (doF r.delta d.now).1 } l r, l ++ [r], d.b + (l.length + 1 : Nat), 0⟩
theorem sp_saddM (bl bm : Nat) (d : SC) (ba : Option Nat) (l : List Rev) (m : Option Mv) (r : Rev) (hr : PartsOk r.delta) (hb : 0 ≤ d.b ∧ d.b ≤ 2147483647) (hat : d.at' = 0 ∨ d.at' = 1) : Spec Try.prog 18 [.ptr 0 (some bl) 47 0 0, .agg (encRev r)] (lookH (S3 bl d ba l.length (l.map encRev) bm m))
    fun x h' => ∃ L', (∃ ba' bm' d' l' m', (∃ v e, x = .tup [.int .i64 v, .int .i64 e] ∧ ⟨d', l', v, e⟩ = shAddM d l m r ∧ m' = m) ∧ L' = S3 bl d' ba' l'.length (l'.map encRev) bm' m') ∧ h' = lookH L' := by
  refine spec_meth dOk ok_sadd (L := S3 bl d ba l.length (l.map encRev) bm m) (fun x L' => ∃ ba' bm' d' l' m', (∃ v e, x = .tup [.int .i64 v, .int .i64 e] ∧ ⟨d', l', v, e⟩ = shAddM d l m r ∧ m' = m) ∧ L' = S3 bl d' ba' l'.length (l'.map encRev) bm' m') fun R hR => ?_
  have h1 : ∀ (h : Hp) (K : V → Hp → Prop), h 1000001 = some ⟨ba, 45, 3, l.map encRev⟩ → K (.int .i64 (nextF d.b d.tb l.length d.now.length r)) h → CallP Try.prog 60 [.agg [.int .i64 d.gn, .int .i64 d.b, .str d.tx, .int .i64 (d.fs 0), .int .i64 (d.fs 1), .int .i64 (d.fs 2), .int .i64 (d.fs 3), .int .i64 (d.fs 4), .int .i64 (d.fs 5), .int .i64 (d.fs 6), .int .i64 (d.fs 7), .int .i64 (d.fs 8), .int .i64 (d.fs 9), .int .i64 (d.fs 10), .int .i64 (d.fs 11), .int .i64 (d.fs 12), .int .i64 (d.fs 13), .int .i64 (d.fs 14), .int .i64 (d.fs 15), .int .i64 (d.tb 0), .int .i64 (d.tb 1), .int .i64 (d.tb 2), .int .i64 (d.tb 3), .int .i64 (d.tb 4), .int .i64 (d.tb 5), .int .i64 (d.tb 6), .int .i64 (d.tb 7), .int .i64 (d.tb 8), .int .i64 (d.tb 9), .int .i64 (d.tb 10), .int .i64 (d.tb 11), .int .i64 (d.tb 12), .int .i64 (d.tb 13), .int .i64 (d.tb 14), .int .i64 (d.tb 15), .own 1000001 ba 3 l.length, .bool d.wh, .int .i64 d.gd], .int .i64 (std.slen d.now), .agg [.int .i64 r.who, .int .i64 r.seq, .sl false 3 (r.delta.map encPart)]] h K :=
    fun h K h1 hK => call_pureP (sp_hnextT d.gn d.b d.tx d.fs d.tb l d.wh d.gd d.now.length r hb hr) (.cons (arg_log h1) (.cons (.same _) (.cons (.same _) .nil))) hK
  have he1 : nextF d.b d.tb l.length d.now.length r = 0 → (0 ≤ r.who ∧ r.who ≤ 7) ∧ l.length < 64 := fun h => ⟨⟨(one_who (nextF_ok h).1).1, (one_who (nextF_ok h).1).2.1⟩, (nextF_ok h).2⟩
  have hdl : nextF d.b d.tb l.length d.now.length r = 0 → (r.delta.map encPart).length ≤ 1000000000 := fun h => by
    rw [List.length_map]; exact (rev_ok (nextF_ok h).1).2
  have htl : (revF r).1.length ≤ 140737488355328 := by have := revF_len r; omega
  have h2 : nextF d.b d.tb l.length d.now.length r = 0 → ∀ (k : Nat) (b : Option Nat) (n' : Nat) (h : Hp) (K : V → Hp → Prop), n' = (r.delta.map encPart).length → h k = some ⟨b, 108, 3, r.delta.map encPart⟩ → K (.tup [.str (revF r).1, .int .i64 (revF r).2]) h → CallE Try.prog 61 [.agg [.int .i64 r.who, .int .i64 r.seq, .own k b 3 n']] h K :=
    fun _ k b n' h K hn hk hK => by
        subst hn
        refine ⟨h, HEnt.refl h, call_pure (sp_hrevT r hr) (.cons ?_ .nil) hK⟩
        obtain ⟨a1, a2⟩ := arg_agg (h := h) (m := []) (l := [.int .i64 r.who, .int .i64 r.seq, .own k b 3 (r.delta.map encPart).length]) (l' := encRevT r) (.cons (.same _) (.cons (.same _) (.cons (.own k b 3 _ _ (rowsOf_own rfl hk) (by simp)) .nil)))
        exact .agg _ _ a1 a2
  have h3 : nextF d.b d.tb l.length d.now.length r = 0 → Ans (CallP Try.prog) 16 [.sl false 3 (r.delta.map encPart), .str d.now] (.tup [.str (doF r.delta d.now).1, .int .i64 (doF r.delta d.now).2]) := fun _ => ansPs (sp_do r.delta hr.1 d.now) rfl rfl
  have hfin : ∀ (s s' : S) (ba' : Option Nat) (n' : Nat) (rows' : List (List V)), n' = (shAddM d l m r).l.length → rows' = (shAddM d l m r).l.map encRev → Ent s s' → Ret [.t 4, .t 5] [.int .i64 (shAddM d l m r).v, .int .i64 (shAddM d l m r).e] s' → agreeH (S3 bl (shAddM d l m r).d ba' n' rows' bm m) s' → R s := by
    intro s s' ba' n' rows' hn hrows he hr ha
    subst hn hrows
    exact hR s s' _ _ he (resV_mono _ _ _ (fun x hx => by rw [hx]; rfl) hr) ha (.tup _ (by simp; exact ⟨.int _ _, .int _ _⟩)) S3_fz ⟨ba', bm, _, _, m, ⟨_, _, rfl, rfl, rfl⟩, rfl⟩
  obtain _ | ⟨fm, cm, w⟩ := m
  · exact vc_saddN std rfl _ _ callE_pre sputC haddC sheadE bl bm d ba l _ rfl _ rfl hat r r.who r.seq (r.delta.map encPart) ⟨rfl, rfl, rfl⟩ (encParts_fz _) hb _ hdl h1 he1 (revF r).1 (revF r).2 htl h2 (doF r.delta d.now).1 (doF r.delta d.now).2 h3 (shAddM d l none r) rfl R hfin
  · cases w with
    | false => exact vc_saddF std rfl _ _ callE_pre sputC haddC sheadE bl bm fm cm d ba l _ rfl _ rfl hat r r.who r.seq (r.delta.map encPart) ⟨rfl, rfl, rfl⟩ (encParts_fz _) hb _ hdl h1 he1 (revF r).1 (revF r).2 htl h2 (doF r.delta d.now).1 (doF r.delta d.now).2 h3 (shAddM d l (some ⟨fm, cm, false⟩) r) rfl R hfin
    | true => exact vc_saddT std rfl _ _ callE_pre sputC haddC sheadE bl bm fm cm d ba l _ rfl _ rfl hat r r.who r.seq (r.delta.map encPart) ⟨rfl, rfl, rfl⟩ (encParts_fz _) hb _ hdl h1 he1 (revF r).1 (revF r).2 htl h2 (doF r.delta d.now).1 (doF r.delta d.now).2 h3 (shAddM d l (some ⟨fm, cm, true⟩) r) rfl R hfin
theorem rt2_mv {k ka km bm : Nat} {m : Option Mv} (h : (!(Nat.beq km 0) && !(Nat.beq km 1000001)) = true) : rt2B k ka (mvN km bm m) = true := by
  cases m
  · rfl
  · show ((!(Nat.beq km 0) && !(Nat.beq km 1000001)) || _) = true
    rw [h]; rfl
theorem rt_mv {k km bm : Nat} {m : Option Mv} (h : (!(Nat.beq km 0)) = true) : rtB k (mvN km bm m) = true := by
  cases m
  · rfl
  · show ((!(Nat.beq km 0)) || _) = true
    rw [h]; rfl
/-- a shop in a caller's memory -/
structure InH (h : Hp) (k ka km bl : Nat) (d : SC) (ba : Option Nat) (n : Nat) (rows : List (List V)) (l : List Rev) (mv : V) (mo : Ob) (bm : Nat) (m : Option Mv) : Prop where
  h1 : n = l.length
  h2 : rows = l.map encRev
  h3 : mv = mvN km bm m
  h4 : mo = obMv bm m
  h5 : h k = some (obSh bl (rowS d (.own ka ba 3 n) mv))
  h6 : h ka = some (obV ba rows)
  h7 : h km = some mo
  h8 : N3 k ka km
def SAddC (T : CallT) : Prop := ∀ (k ka km bl : Nat) (d : SC) (ba : Option Nat) (n : Nat) (rows : List (List V)) (l : List Rev) (mv : V) (mo : Ob) (bm : Nat) (m : Option Mv) (r : Rev) (w q : Int) (dr : List (List V)) (h : Hp) (K : V → Hp → Prop), InH h k ka km bl d ba n rows l mv mo bm m → (w = r.who ∧ q = r.seq ∧ dr = r.delta.map encPart) → PartsOk r.delta → (0 ≤ d.b ∧ d.b ≤ 2147483647) → (d.at' = 0 ∨ d.at' = 1) →
  (∀ v e ba' d' l' n' rows' bm' mv' mo', ⟨d', l', v, e⟩ = shAddM d l m r → n' = l'.length → rows' = l'.map encRev → mv' = mvN km bm' m → mo' = obMv bm' m → K (.tup [.int .i64 v, .int .i64 e]) (h.puts [(k, obSh bl (rowS d' (.own ka ba' 3 n') mv')), (ka, obV ba' rows'), (km, mo')])) → T 18 [.ptr k (some bl) 47 0 0, .agg [.int .i64 w, .int .i64 q, .sl false 3 dr]] h K
theorem saddC : SAddC (CallE Try.prog) := by
  rintro k ka km bl d ba n rows l mv mo bm m r w q dr h K ⟨rfl, rfl, rfl, rfl, hk, hka, hkm, hN⟩ ⟨rfl, rfl, rfl⟩ hr hb hat hK
  refine callS3 (rest := [.agg (encRev r)]) (post := fun x d' l' m' => ∃ v e, x = .tup [.int .i64 v, .int .i64 e] ∧ ⟨d', l', v, e⟩ = shAddM d l m r ∧ m' = m) (sp_saddM bl bm d ba l m r hr hb hat) (fun h m => .cons (.same _) .nil) (fun x d' l' m' g hp => ?_) hN hk hka hkm ?_
  · obtain ⟨v, e, rfl, _⟩ := hp; rfl
  · rintro x ba' bm' d' l' m' ⟨v, e, rfl, hp, rfl⟩
    exact hK v e ba' d' l' _ _ bm' _ _ hp rfl rfl rfl rfl
def SSync3C (T : CallT) : Prop := ∀ (k ka km bl : Nat) (d : SC) (ba : Option Nat) (n : Nat) (rows : List (List V)) (l : List Rev) (mv : V) (mo : Ob) (bm : Nat) (m : Option Mv) (h : Hp) (K : V → Hp → Prop), InH h k ka km bl d ba n rows l mv mo bm m → (0 ≤ d.b ∧ d.b ≤ 4294967295) → l.length ≤ 1000 → (d.at' = 0 ∨ d.at' = 1) →
  (∀ ba' d' n' rows' bm' mv' mo', d' = shSync d l.length m → n' = l.length → rows' = l.map encRev → mv' = mvN km bm' m → mo' = obMv bm' m → K (.tup []) (h.puts [(k, obSh bl (rowS d' (.own ka ba' 3 n') mv')), (ka, obV ba' rows'), (km, mo')])) → T 29 [.ptr k (some bl) 47 0 0] h K
theorem ssync3C : SSync3C (CallE Try.prog) := by
  rintro k ka km bl d ba n rows l mv mo bm m h K ⟨rfl, rfl, rfl, rfl, hk, hka, hkm, hN⟩ hb hn hat hK
  refine callS3 (rest := []) (post := fun x d' l' m' => x = .tup [] ∧ d' = shSync d l.length m ∧ l' = l ∧ m' = m) (sp_ssyn2 bl d ba l bm m hb hn hat) (fun h m => .nil) (fun x d' l' m' g hp => ?_) hN hk hka hkm ?_
  · rw [hp.1]; rfl
  · rintro x ba' bm' d' l' m' ⟨rfl, hd, rfl, rfl⟩
    exact hK ba' d' _ _ bm' _ _ hd rfl rfl rfl rfl
def SKeep3C (T : CallT) : Prop := ∀ (k ka km bl : Nat) (d : SC) (ba : Option Nat) (n : Nat) (rows : List (List V)) (l : List Rev) (mv : V) (mo : Ob) (bm : Nat) (m : Option Mv) (j : Int) (h : Hp) (K : V → Hp → Prop), InH h k ka km bl d ba n rows l mv mo bm m → (0 ≤ d.b ∧ d.b ≤ 4294967295) → l.length ≤ 1000 →
  (∀ e ba' n' rows' bm' m' mv' mo', (m', e) = shKeep d l.length m j → n' = l.length → rows' = l.map encRev → mv' = mvN km bm' m' → mo' = obMv bm' m' → K (.int .i64 e) (h.puts [(k, obSh bl (rowS d (.own ka ba' 3 n') mv')), (ka, obV ba' rows'), (km, mo')])) → T 23 [.ptr k (some bl) 47 0 0, .int .i64 j] h K
theorem skeep3C : SKeep3C (CallE Try.prog) := by
  rintro k ka km bl d ba n rows l mv mo bm m j h K ⟨rfl, rfl, rfl, rfl, hk, hka, hkm, hN⟩ hb hn hK
  refine callS3 (rest := [.int .i64 j]) (post := fun x d' l' m' => x = .int .i64 (shKeep d l.length m j).2 ∧ d' = d ∧ l' = l ∧ m' = (shKeep d l.length m j).1) (sp_skeep bl d ba l bm m hb hn j) (fun h m => .cons (.same _) .nil) (fun x d' l' m' g hp => ?_) hN hk hka hkm ?_
  · rw [hp.1]; rfl
  · rintro x ba' bm' d' l' m' ⟨rfl, rfl, rfl, rfl⟩
    exact hK _ ba' _ _ bm' _ _ _ rfl rfl rfl rfl rfl
def SStep3C (T : CallT) : Prop := ∀ (k ka km bl : Nat) (d : SC) (ba : Option Nat) (n : Nat) (rows : List (List V)) (l : List Rev) (mv : V) (mo : Ob) (bm : Nat) (m : Option Mv) (h : Hp) (K : V → Hp → Prop), InH h k ka km bl d ba n rows l mv mo bm m → StepOk d l m → d.tx.length ≤ maxLen →
  (∀ v ba' d' l' m' n' rows' bm' mv' mo', ⟨d', l', m', v⟩ = shStep d l m → n' = l'.length → rows' = l'.map encRev → mv' = mvN km bm' m' → mo' = obMv bm' m' → K (.bool v) (h.puts [(k, obSh bl (rowS d' (.own ka ba' 3 n') mv')), (ka, obV ba' rows'), (km, mo')])) → T 24 [.ptr k (some bl) 47 0 0] h K
theorem sstep3C : SStep3C (CallE Try.prog) := by
  rintro k ka km bl d ba n rows l mv mo bm m h K ⟨rfl, rfl, rfl, rfl, hk, hka, hkm, hN⟩ hok htx hK
  refine callS3 (rest := []) (post := fun x d' l' m' => ∃ v, x = .bool v ∧ ⟨d', l', m', v⟩ = shStep d l m) (sp_sstep bl d ba l bm m hok htx) (fun h m => .nil) (fun x d' l' m' g hp => ?_) hN hk hka hkm ?_
  · obtain ⟨v, rfl, _⟩ := hp; rfl
  · rintro x ba' bm' d' l' m' ⟨v, rfl, hp⟩
    exact hK v ba' d' l' m' _ _ bm' _ _ hp rfl rfl rfl rfl
end Go.Proofs.Ytobngncjflogcaa.AM

set_option linter.unusedVariables false
set_option linter.unusedSimpArgs false
namespace Go.Proofs.Ytobngncjflogcaa.AM
open Go Go.RowKit
set_option maxRecDepth 100000
set_option maxHeartbeats 2000000
def atL (l : List Int) (i : Nat) : Int := if i < l.length then l.getD i 0 else 0
def ac_tat : AC := .seq (.region false [
    ⟨some 4, none, .mov (.c (.int .i64 0))⟩])
  (.seq (.seq (.region false [
    ⟨some 5, none, .mov (.t 1)⟩,
    ⟨some 6, none, .mov (.t 0)⟩,
    ⟨some 7, none, .len false (.t 6)⟩,
    ⟨some 8, none, .bin .lss (.t 5) (.t 7)⟩])
  (.cond (.t 8)
    (.seq (.region false [
      ⟨some 9, none, .mov (.t 0)⟩,
      ⟨some 10, none, .mov (.t 1)⟩,
      ⟨some 11, none, .iaddr 1 (.t 9) (.t 10)⟩,
      ⟨some 12, none, .load1 (.t 11)⟩,
      ⟨some 4, none, .mov (.t 12)⟩])
    (.ret))
    (.skip)))
  (.seq (.region false [
    ⟨some 4, none, .mov (.c (.int .i64 0))⟩])
  (.ret)))
theorem ok_tat : FnOk Try.prog 27 Try.f27 ac_tat [.t 4] 2 drawD := ⟨Try.func27, by decide +kernel, by kernel_rfl, by kernel_rfl, by decide +kernel⟩
theorem vc_tat (P : Prim) (hP : P = std) (T T1 : CallT) (l : List Int) (rows : List (List V)) (hrows : rows = iRows l) (i : Nat) (k : Int) (hk : k = (i : Int)) (r : Int) (hr : atL l i = r)
    (R : S → Prop) (hR : ∀ s s' q, q = r → Ent s s' → Ret [.t 4] [.int .i64 q] s' → R s) : awp P T T1 ac_tat (S0 [.sl true 1 rows, .int .i64 k] Hp.emp) R (fun _ _ => False) R := by
  have hl : P.rlen rows = (l.length : Int) := by rw [rlen_eq hP, hrows]; simp [iRows]
  unfold atL at hr
  cbv
  repeat' (first
    | (refine And.intro (by first | assumption | decide) ?_; try cbv)
    | (intro β2; try cbv))
  refine br_cases (fun g => ?_) (fun g => ?_)
  · have g1 : k < P.rlen rows := lt_t hP g
    rw [hl, hk] at g1
    have g2 : i < l.length := by ((try simp only [nc] at *); omega)
    rw [if_pos g2] at hr
    have q1 : P.leP 0 k := le0 hP (by rw [hk]; exact Int.natCast_nonneg _)
    have q2 : P.ltP k (P.rlen rows) := ltI hP (lt_t hP g)
    have hrow : P.row rows (P.nat k) [.int .i64 r] := row_of hP hk (by rw [hrows, iRows, List.getElem?_map, List.getElem?_eq_getElem g2, ← hr, List.getD_eq_getElem?_getD, List.getElem?_eq_getElem g2]; rfl)
    cbv
    repeat' (first
    | (refine And.intro (by first | assumption | decide) ?_; try cbv)
    | (intro β2; try cbv))
    refine ⟨_, hrow, ?_⟩
    cbv
    repeat' (first
    | (refine And.intro (by first | assumption | decide) ?_; try cbv)
    | (intro β2; try cbv))
    exact hR _ _ _ rfl (Ent.refl _) rfl
  · have g1 : ¬ k < P.rlen rows := lt_f hP g
    rw [hl, hk] at g1
    rw [if_neg (by ((try simp only [nc] at *); omega))] at hr
    cbv
    repeat' (first
    | (refine And.intro (by first | assumption | decide) ?_; try cbv)
    | (intro β2; try cbv))
    exact hR _ _ _ hr (Ent.refl _) rfl
theorem sp_tat (l : List Int) (i : Nat) : Spec Try.prog 27 [.sl true 1 (iRows l), .int .i64 (i : Int)] Hp.emp (Is (.int .i64 (atL l i))) :=
  spec_pure dOk ok_tat [.int .i64 (atL l i)] (.int _ _) fun R hR => vc_tat std rfl _ _ l _ rfl i _ rfl _ rfl R fun s s' q h he hr => by subst h; exact hR s s' he hr
def withF (n m : Int) : Int := IntKind.i64.wrap (IntKind.u64.wrap n % IntKind.u64.wrap m)
theorem withF_bd (n : Int) {m : Int} (h0 : 0 < m) (h1 : m ≤ 4611686018427387904) : 0 ≤ withF n m ∧ withF n m < m := by
  have e1 : IntKind.u64.wrap n = n % 18446744073709551616 := rfl
  have e2 : IntKind.u64.wrap m = m % 18446744073709551616 := rfl
  have e3 : m % 18446744073709551616 = m := Int.emod_eq_of_lt (by omega) (by omega)
  unfold withF
  rw [e1, e2, e3]
  have h2 := Int.emod_nonneg (n % 18446744073709551616) (show m ≠ 0 by omega)
  have h3 := Int.emod_lt_of_pos (n % 18446744073709551616) h0
  have e4 : IntKind.i64.wrap (n % 18446744073709551616 % m) = n % 18446744073709551616 % m := by
    exact wrap_id (by have : IntKind.i64.min = -9223372036854775808 := rfl
                      omega) (by have : IntKind.i64.max = 9223372036854775807 := rfl
                                 omega)
  rw [e4]
  exact ⟨h2, h3⟩
def ac_with : AC := .seq (.region false [
    ⟨some 4, none, .mov (.c (.int .i64 0))⟩])
  (.seq (.region false [
    ⟨some 5, none, .mov (.t 0)⟩,
    ⟨some 6, none, .conv .u64 (.t 5)⟩,
    ⟨some 7, none, .mov (.t 1)⟩,
    ⟨some 8, none, .conv .u64 (.t 7)⟩,
    ⟨some 9, none, .bin .rem (.t 6) (.t 8)⟩,
    ⟨some 10, none, .conv .i64 (.t 9)⟩,
    ⟨some 4, none, .mov (.t 10)⟩])
  (.ret))
theorem ok_with : FnOk Try.prog 26 Try.f26 ac_with [.t 4] 2 drawD := ⟨Try.func26, by decide +kernel, by kernel_rfl, by kernel_rfl, by decide +kernel⟩
theorem vc_with (P : Prim) (hP : P = std) (T T1 : CallT) (n m : Int) (q1 : P.leP 0 (P.wrap .u64 n)) (q2 : P.ltP 0 (P.wrap .u64 m))
    (R : S → Prop) (hR : ∀ s s' q, q = P.wrap .i64 (P.mod (P.wrap .u64 n) (P.wrap .u64 m)) → Ent s s' → Ret [.t 4] [.int .i64 q] s' → R s) : awp P T T1 ac_with (S0 [.int .i64 n, .int .i64 m] Hp.emp) R (fun _ _ => False) R := by
  cbv
  repeat' (first
    | (refine And.intro (by first | assumption | decide) ?_; try cbv)
    | (intro β2; try cbv))
  exact hR _ _ _ rfl (Ent.refl _) rfl
theorem sp_with (n m : Int) (h0 : 0 < m) (h1 : m ≤ 4611686018427387904) : Spec Try.prog 26 [.int .i64 n, .int .i64 m] Hp.emp (Is (.int .i64 (withF n m))) :=
  spec_pure dOk ok_with [.int .i64 (withF n m)] (.int _ _) fun R hR => vc_with std rfl _ _ n m (le0 rfl (Int.emod_nonneg n (by decide))) (ltI rfl (by
    have e2 : IntKind.u64.wrap m = m % 18446744073709551616 := rfl
    show 0 < IntKind.u64.wrap m
    rw [e2, Int.emod_eq_of_lt (by omega) (by omega)]; exact h0)) R fun s s' q h he hr => by subst h; exact hR s s' he hr
def cutN (x : List UInt8) (s k : Int) : Int := s + max 0 (min k ((x.length : Int) - s))
inductive YCr where
  | y0
  | y1
  | y2
def ac_dcr : AC := .seq (.region false [
    ⟨some 2, none, .box 26 4 (.t 0)⟩,
    ⟨some 3, none, .box 74 2 (.t 1)⟩,
    ⟨some 4, none, .alloc 26 [(.string ⟨#[]⟩), (.int .i64 0), (.string ⟨#[]⟩), (.int .i64 0)]⟩,
    ⟨some 5, none, .mov (.c (.int .i64 0))⟩])
  (.seq (.seq (.region false [
    ⟨some 10, none, .loadn 4 (.t 2)⟩,
    ⟨some 11, none, .call 33 [(.t 10)]⟩,
    ⟨some 6, none, .mov (.t 11)⟩])
  (.seq (.region false [
    ⟨some 12, none, .mov (.t 6)⟩,
    ⟨some 13, none, .bin .neq (.t 12) (.c (.int .i64 0))⟩])
  (.cond (.t 13)
    (.seq (.region false [
      ⟨some 14, none, .build [(.string ⟨#[]⟩), (.int .i64 0), (.string ⟨#[]⟩), (.int .i64 0)] []⟩,
      ⟨some 15, none, .mov (.t 6)⟩,
      ⟨none, none, .store 4 (.t 4) (.t 14)⟩,
      ⟨some 5, none, .mov (.t 15)⟩])
    (.ret))
    (.skip))))
  (.seq (.seq (.region false [
    ⟨some 16, none, .mov (.c (.int .i64 0))⟩])
  (.block 0 (.loop (.seq (.region false [
      ⟨some 17, none, .bin .lss (.t 16) (.c (.int .i64 2))⟩])
    (.seq (.cond (.t 17)
      (.skip)
      (.exit 0))
    (.seq (.block 1 (.seq (.region false [
      ⟨some 18, none, .mov (.t 16)⟩,
      ⟨some 7, none, .mov (.t 18)⟩])
    (.seq (.region false [
      ⟨some 19, none, .mov (.t 7)⟩,
      ⟨some 20, none, .faddr 0 (.t 2)⟩,
      ⟨some 21, none, .iarr 2 2 (.t 20) (.t 19)⟩,
      ⟨some 8, none, .mov (.t 21)⟩])
    (.seq (.region true [
      ⟨some 22, none, .mov (.t 8)⟩,
      ⟨some 23, none, .nilchk (.t 22)⟩,
      ⟨some 24, none, .faddr 1 (.t 23)⟩,
      ⟨some 25, none, .load1 (.t 24)⟩,
      ⟨some 26, none, .mov (.t 7)⟩,
      ⟨some 27, none, .iarr 2 1 (.t 3) (.t 26)⟩,
      ⟨some 28, none, .load1 (.t 27)⟩,
      ⟨some 29, none, .mov (.t 8)⟩,
      ⟨some 30, none, .nilchk (.t 29)⟩,
      ⟨some 31, none, .faddr 0 (.t 30)⟩,
      ⟨some 32, none, .load1 (.t 31)⟩,
      ⟨some 33, none, .len true (.t 32)⟩,
      ⟨some 34, none, .mov (.t 8)⟩,
      ⟨some 35, none, .nilchk (.t 34)⟩,
      ⟨some 36, none, .faddr 1 (.t 35)⟩,
      ⟨some 37, none, .load1 (.t 36)⟩,
      ⟨some 38, none, .bin .sub (.t 33) (.t 37)⟩,
      ⟨some 39, none, .mm false (.t 28) (.t 38)⟩,
      ⟨some 40, none, .mm true (.c (.int .i64 0)) (.t 39)⟩,
      ⟨some 41, none, .bin .add (.t 25) (.t 40)⟩,
      ⟨some 9, none, .mov (.t 41)⟩])
    (.region false [
      ⟨some 42, none, .mov (.t 8)⟩,
      ⟨some 43, none, .mov (.t 8)⟩,
      ⟨some 44, none, .mov (.t 8)⟩,
      ⟨some 45, none, .nilchk (.t 44)⟩,
      ⟨some 46, none, .faddr 0 (.t 45)⟩,
      ⟨some 47, none, .load1 (.t 46)⟩,
      ⟨some 48, none, .mov (.t 9)⟩,
      ⟨some 49, none, .slstr (.t 47) none (some (.t 48))⟩,
      ⟨some 50, none, .mov (.t 9)⟩,
      ⟨some 51, none, .nilchk (.t 42)⟩,
      ⟨some 52, none, .faddr 0 (.t 51)⟩,
      ⟨none, none, .store 1 (.t 52) (.t 49)⟩,
      ⟨some 53, none, .nilchk (.t 43)⟩,
      ⟨some 54, none, .faddr 1 (.t 53)⟩,
      ⟨none, none, .store 1 (.t 54) (.t 50)⟩])))))
    (.region false [
      ⟨some 55, none, .bin .add (.t 16) (.c (.int .i64 1))⟩,
      ⟨some 16, none, .mov (.t 55)⟩])))))))
  (.seq (.region false [
    ⟨some 56, none, .loadn 4 (.t 2)⟩,
    ⟨none, none, .store 4 (.t 4) (.t 56)⟩,
    ⟨some 5, none, .mov (.c (.int .i64 0))⟩])
  (.ret))))
theorem ok_dcr : FnOk Try.prog 30 Try.f30 ac_dcr [.cn 4 4, .t 5] 2 drawD := ⟨Try.func30, by decide +kernel, by kernel_rfl, by kernel_rfl, by decide +kernel⟩
theorem vc_dcr (P : Prim) (hP : P = std) (T T1 : CallT) (a1 : List UInt8) (a2 : Int) (b1 : List UInt8) (b2 k0 k1 : Int) (h1 : Ans T 33 [.agg [.str a1, .int .i64 a2, .str b1, .int .i64 b2]] (.int .i64 0)) (ha : slotT a1 a2 = 0) (hb : slotT b1 b2 = 0)
    (y1 : List UInt8) (y2 : Int) (y3 : List UInt8) (y4 : Int) (hy2 : y2 = cutN a1 a2 k0) (hy1 : y1 = a1.take y2.toNat) (hy4 : y4 = cutN b1 b2 k1) (hy3 : y3 = b1.take y4.toNat)
    (R : S → Prop) (hR : ∀ s0 s' x1 x2 x3 x4, x1 = y1 → x2 = y2 → x3 = y3 → x4 = y4 → Ent s0 s' → Ret [.cn 4 4, .t 5] [.agg [.str x1, .int .i64 x2, .str x3, .int .i64 x4], .int .i64 0] s' → R s0) : awp P T T1 ac_dcr (S0 [.agg [.str a1, .int .i64 a2, .str b1, .int .i64 b2], .agg [.int .i64 k0, .int .i64 k1]] Hp.emp) R (fun _ _ => False) R := by
  have a0 : P.leP 0 0 := le0 hP (by decide)
  have a01 : P.leP 0 1 := le0 hP (by decide)
  have l0 : P.ltP 0 2 := ltI hP (by decide)
  have l1 : P.ltP 1 2 := ltI hP (by decide)
  have n0 : P.nat 0 = 0 := by subst hP; rfl
  have n1 : P.nat 1 = 1 := by subst hP; rfl
  obtain ⟨ha1, ha2, ha3⟩ := slot_ok ha
  obtain ⟨hb1, hb2, hb3⟩ := slot_ok hb
  have c1 : P.i64 (P.add 0 1) := by rw [add_eq hP]; exact i64I hP (by decide)
  have c2 : P.i64 (P.add 1 1) := by rw [add_eq hP]; exact i64I hP (by decide)
  have c3 : P.add 0 1 = 1 := by rw [add_eq hP]; rfl
  have c4 : P.add 1 1 = 2 := by rw [add_eq hP]; rfl
  cbv
  repeat' (first
    | (refine And.intro (by first | assumption | decide) ?_; try cbv)
    | (intro β2; try cbv))
  rename_i βa βb
  refine h1 _ _ ?_
  cbv
  repeat' (first
    | (refine And.intro (by first | assumption | decide) ?_; try cbv)
    | (intro β2; try cbv))
  refine br_ff (ne_F hP rfl) ?_
  cbv
  repeat' (first
    | (refine And.intro (by first | assumption | decide) ?_; try cbv)
    | (intro β2; try cbv))
  refine ⟨YCr, fun y => match y with
      | .y0 => [(2, .ptr 2 (some βa) 4 0 0), (3, .ptr 3 (some βb) 2 0 0), (4, .ptr 4 (some β2) 4 0 0), (16, .int .i64 0)]
      | .y1 => [(2, .ptr 2 (some βa) 4 0 0), (3, .ptr 3 (some βb) 2 0 0), (4, .ptr 4 (some β2) 4 0 0), (16, .int .i64 1)]
      | .y2 => [(2, .ptr 2 (some βa) 4 0 0), (3, .ptr 3 (some βb) 2 0 0), (4, .ptr 4 (some β2) 4 0 0), (16, .int .i64 2)],
    fun y => match y with
      | .y0 => [(2, ⟨some βa, 26, 4, [[.str a1, .int .i64 a2, .str b1, .int .i64 b2]]⟩), (3, ⟨some βb, 74, 2, [[.int .i64 k0, .int .i64 k1]]⟩), (4, ⟨some β2, 26, 4, [[.str [], .int .i64 0, .str [], .int .i64 0]]⟩)]
      | .y1 => [(2, ⟨some βa, 26, 4, [[.str y1, .int .i64 y2, .str b1, .int .i64 b2]]⟩), (3, ⟨some βb, 74, 2, [[.int .i64 k0, .int .i64 k1]]⟩), (4, ⟨some β2, 26, 4, [[.str [], .int .i64 0, .str [], .int .i64 0]]⟩)]
      | .y2 => [(2, ⟨some βa, 26, 4, [[.str y1, .int .i64 y2, .str y3, .int .i64 y4]]⟩), (3, ⟨some βb, 74, 2, [[.int .i64 k0, .int .i64 k1]]⟩), (4, ⟨some β2, 26, 4, [[.str [], .int .i64 0, .str [], .int .i64 0]]⟩)],
    fun y => match y with | .y0 => 2 | .y1 => 1 | .y2 => 0,
    ⟨_, Ent.refl _, .y0, ⟨rfl, rfl, rfl, rfl, trivial⟩, ⟨rfl, rfl, rfl, trivial⟩⟩, ?_⟩
  rintro (_ | _ | _)
  · have m1 : P.i64 (P.sub (P.slen a1) a2) := by rw [sub_eq hP, slen_eq hP]; exact i64I hP (by ((try simp only [nc] at *); omega))
    have hv : P.add a2 (P.mx 0 (P.mn k0 (P.sub (P.slen a1) a2))) = y2 := by rw [hy2, add_eq hP, sub_eq hP, slen_eq hP]; subst hP; rfl
    have m2 : 0 ≤ y2 ∧ y2 ≤ (a1.length : Int) := by rw [hy2]; unfold cutN; ((try simp only [nc] at *); omega)
    have m3 : P.i64 (P.add a2 (P.mx 0 (P.mn k0 (P.sub (P.slen a1) a2)))) := by rw [hv]; exact i64I hP (by ((try simp only [nc] at *); omega))
    have m4 : P.leP 0 (P.add a2 (P.mx 0 (P.mn k0 (P.sub (P.slen a1) a2)))) := le0 hP (by rw [hv]; exact m2.1)
    have m5 : P.leP (P.add a2 (P.mx 0 (P.mn k0 (P.sub (P.slen a1) a2)))) (P.slen a1) := leI hP (by rw [hv, slen_eq hP]; exact m2.2)
    have e1 : P.ssub a1 0 y2 = a1.take y2.toNat := by subst hP; rfl
    cbv
    refine br_tt (lt_T hP (by decide)) ?_
    cbv
    repeat' (first
      | (refine And.intro (by first | assumption | decide) ?_; try cbv)
      | (refine ⟨0, n0, ?_⟩; try cbv)
      | (intro β3; try cbv))
    rw [hv, e1, ← hy1, c3]
    exact ⟨_, Ent.refl _, .y1, ⟨rfl, rfl, rfl, rfl, trivial⟩, ⟨rfl, rfl, rfl, trivial⟩, by decide⟩
  · have m1 : P.i64 (P.sub (P.slen b1) b2) := by rw [sub_eq hP, slen_eq hP]; exact i64I hP (by ((try simp only [nc] at *); omega))
    have hv : P.add b2 (P.mx 0 (P.mn k1 (P.sub (P.slen b1) b2))) = y4 := by rw [hy4, add_eq hP, sub_eq hP, slen_eq hP]; subst hP; rfl
    have m2 : 0 ≤ y4 ∧ y4 ≤ (b1.length : Int) := by rw [hy4]; unfold cutN; ((try simp only [nc] at *); omega)
    have m3 : P.i64 (P.add b2 (P.mx 0 (P.mn k1 (P.sub (P.slen b1) b2)))) := by rw [hv]; exact i64I hP (by ((try simp only [nc] at *); omega))
    have m4 : P.leP 0 (P.add b2 (P.mx 0 (P.mn k1 (P.sub (P.slen b1) b2)))) := le0 hP (by rw [hv]; exact m2.1)
    have m5 : P.leP (P.add b2 (P.mx 0 (P.mn k1 (P.sub (P.slen b1) b2)))) (P.slen b1) := leI hP (by rw [hv, slen_eq hP]; exact m2.2)
    have e1 : P.ssub b1 0 y4 = b1.take y4.toNat := by subst hP; rfl
    cbv
    refine br_tt (lt_T hP (by decide)) ?_
    cbv
    repeat' (first
      | (refine And.intro (by first | assumption | decide) ?_; try cbv)
      | (refine ⟨1, n1, ?_⟩; try cbv)
      | (intro β3; try cbv))
    rw [hv, e1, ← hy3, c4]
    exact ⟨_, Ent.refl _, .y2, ⟨rfl, rfl, rfl, rfl, trivial⟩, ⟨rfl, rfl, rfl, trivial⟩, by decide⟩
  · cbv
    refine br_ff (lt_F hP (by decide)) ?_
    cbv
    repeat' (first
    | (refine And.intro (by first | assumption | decide) ?_; try cbv)
    | (intro β2; try cbv))
    exact hR _ _ _ _ _ _ rfl rfl rfl rfl (Ent.refl _) ⟨rfl, rfl, Nat.zero_lt_succ 0, Nat.le_refl 4, rfl⟩
theorem sp_dcr (a1 : List UInt8) (a2 : Int) (b1 : List UInt8) (b2 k0 k1 : Int) (hd : diskT a1 a2 b1 b2 = 0) : Spec Try.prog 30 [.agg [.str a1, .int .i64 a2, .str b1, .int .i64 b2], .agg [.int .i64 k0, .int .i64 k1]] Hp.emp
    (Is (.tup [.agg [.str (a1.take (cutN a1 a2 k0).toNat), .int .i64 (cutN a1 a2 k0), .str (b1.take (cutN b1 b2 k1).toNat), .int .i64 (cutN b1 b2 k1)], .int .i64 0])) := by
  obtain ⟨ha, hb⟩ := disk_ok hd
  refine spec_pure dOk ok_dcr [.agg [.str (a1.take (cutN a1 a2 k0).toNat), .int .i64 (cutN a1 a2 k0), .str (b1.take (cutN b1 b2 k1).toNat), .int .i64 (cutN b1 b2 k1)], .int .i64 0] (.tup _ (by simp; exact ⟨.agg _ (by simp; exact ⟨.str _, .int _ _, .str _, .int _ _⟩), .int _ _⟩)) fun R hR =>
    vc_dcr std rfl _ _ a1 a2 b1 b2 k0 k1 (by
      have : Ans (CallE Try.prog) 33 [.agg [.str a1, .int .i64 a2, .str b1, .int .i64 b2]] (.int .i64 (diskT a1 a2 b1 b2)) := ansW (sp_dck a1 a2 b1 b2) (fun h => .cons (.same _) .nil) rfl
      rw [hd] at this; exact this) ha hb _ _ _ _ rfl rfl rfl rfl R fun s0 s' x1 x2 x3 x4 e1 e2 e3 e4 he hr => by subst e1 e2 e3 e4; exact hR s0 s' he hr
end Go.Proofs.Ytobngncjflogcaa.AM
