/-
  Two deltas of one text: the document's way, and the law MeetSays.
-/
import Derived.Test.YtcdldpjmdelebaaMMeet
import Derived.Test.YtcdldpjmdelebaaMMade
import Derived.Test.YtcdldpjmdelebaaMSpot
set_option linter.unusedVariables false
set_option linter.unusedSimpArgs false
namespace Go.Proofs.Ytcdldpjmdelebaa.AM
open Go
set_option maxRecDepth 100000
set_option maxHeartbeats 2000000
/-! plain -/
def POk (d : List Part) : Prop := d.length ≤ 1600 ∧ ∀ p ∈ d, 0 ≤ p.n ∧ p.n ≤ 500 ∧ p.text.length ≤ 500
theorem toks_cons2 (p q : List UInt8) : toks [⟨2, 0, p⟩, ⟨1, (q.length : Int), []⟩] = p.map .put ++ List.replicate q.length .keep := by simp [toks, toks1]
theorem toks_cons2' (p q : List UInt8) : toks [⟨1, (p.length : Int), []⟩, ⟨2, 0, q⟩] = List.replicate p.length .keep ++ q.map .put := by simp [toks, toks1]
theorem toks_kind (k : Bool) : toks [⟨if k then 1 else 3, 1, []⟩] = [if k then .keep else .cut] := by cases k <;> simp [toks, toks1]
def addL (l : List Part) (p q : List UInt8) : List Part := l ++ [⟨2, 0, p⟩, ⟨1, (q.length : Int), []⟩]
def addR (l : List Part) (p q : List UInt8) : List Part := l ++ [⟨1, (p.length : Int), []⟩, ⟨2, 0, q⟩]
def addK (l : List Part) (m k : Bool) : List Part := if m then l ++ [⟨if k then 1 else 3, 1, []⟩] else l
theorem puts_bdO (ts : List Tok) : ∀ p ∈ puts ts, p.length ≤ outT ts := by
  have key : (puts ts).flatten.length ≤ outT ts := by
    induction ts with
    | nil => simp [puts, outT]
    | cons t ts ih =>
      cases t
      · simp [puts, outT] at *; omega
      · obtain ⟨p, r, h⟩ := puts_ne ts
        rw [h] at ih
        simp [puts, h, consHead, outT] at *; omega
      · simp [puts, outT] at *; omega
  intro p hp
  have : p.length ≤ (puts ts).flatten.length := by
    obtain ⟨a, b, hab⟩ := List.append_of_mem hp
    rw [hab]; simp; omega
  omega

def ac_rmeet : AC := .seq (.region false [
    ⟨some 4, none, .mov (.c (.slice none 0 0))⟩,
    ⟨some 5, none, .mov (.c (.slice none 0 0))⟩,
    ⟨some 6, none, .mov (.c (.int .i64 0))⟩])
  (.seq (.seq (.region false [
    ⟨some 20, none, .mov (.t 0)⟩,
    ⟨some 21, none, .mov (.t 1)⟩,
    ⟨some 22, none, .bslice 22 1 [(.t 20), (.t 21)]⟩,
    ⟨some 23, none, .len false (.t 22)⟩,
    ⟨some 24, none, .mov (.c (.int .i64 0))⟩])
  (.block 0 (.loop (.seq (.region false [
      ⟨some 25, none, .bin .lss (.t 24) (.t 23)⟩])
    (.seq (.cond (.t 25)
      (.skip)
      (.exit 0))
    (.seq (.block 1 (.seq (.region false [
      ⟨some 26, none, .iaddr 1 (.t 22) (.t 24)⟩,
      ⟨some 27, none, .load1 (.t 26)⟩,
      ⟨some 8, none, .mov (.t 27)⟩])
    (.seq (.region false [
      ⟨some 28, none, .mov (.t 8)⟩,
      ⟨some 29, none, .call 19 [(.t 28)]⟩,
      ⟨some 9, none, .mov (.t 29)⟩])
    (.seq (.region false [
      ⟨some 30, none, .mov (.t 9)⟩,
      ⟨some 31, none, .bin .neq (.t 30) (.c (.int .i64 0))⟩])
    (.cond (.t 31)
      (.seq (.region false [
        ⟨some 32, none, .mov (.t 9)⟩,
        ⟨some 4, none, .mov (.c (.slice none 0 0))⟩,
        ⟨some 5, none, .mov (.c (.slice none 0 0))⟩,
        ⟨some 6, none, .mov (.t 32)⟩])
      (.ret))
      (.skip))))))
    (.region false [
      ⟨some 33, none, .bin .add (.t 24) (.c (.int .i64 1))⟩,
      ⟨some 24, none, .mov (.t 33)⟩])))))))
  (.seq (.seq (.region false [
    ⟨some 34, none, .mov (.t 0)⟩,
    ⟨some 35, none, .call 56 [(.t 34)]⟩,
    ⟨some 36, none, .mov (.t 1)⟩,
    ⟨some 37, none, .call 56 [(.t 36)]⟩,
    ⟨some 38, none, .bin .neq (.t 35) (.t 37)⟩])
  (.cond (.t 38)
    (.seq (.region false [
      ⟨some 4, none, .mov (.c (.slice none 0 0))⟩,
      ⟨some 5, none, .mov (.c (.slice none 0 0))⟩,
      ⟨some 6, none, .mov (.c (.int .i64 4))⟩])
    (.ret))
    (.skip)))
  (.seq (.region false [
    ⟨some 39, none, .mov (.t 0)⟩,
    ⟨some 40, none, .call 59 [(.t 39)]⟩,
    ⟨some 41, none, .mov (.t 1)⟩,
    ⟨some 42, none, .call 59 [(.t 41)]⟩,
    ⟨some 10, none, .alloc 119 [(.slice none 0 0), (.slice none 0 0)]⟩,
    ⟨some 11, none, .alloc 119 [(.slice none 0 0), (.slice none 0 0)]⟩,
    ⟨none, none, .store 2 (.t 10) (.t 40)⟩,
    ⟨none, none, .store 2 (.t 11) (.t 42)⟩])
  (.seq (.region false [
    ⟨some 12, none, .mov (.c (.slice none 0 0))⟩,
    ⟨some 13, none, .mov (.c (.slice none 0 0))⟩])
  (.seq (.seq (.region false [
    ⟨some 43, none, .faddr 0 (.t 10)⟩,
    ⟨some 44, none, .load1 (.t 43)⟩,
    ⟨some 45, none, .len false (.t 44)⟩,
    ⟨some 46, none, .mov (.c (.int .i64 0))⟩])
  (.block 2 (.loop (.seq (.region false [
      ⟨some 47, none, .bin .lss (.t 46) (.t 45)⟩])
    (.seq (.cond (.t 47)
      (.skip)
      (.exit 2))
    (.seq (.block 3 (.seq (.region false [
      ⟨some 48, none, .mov (.t 46)⟩,
      ⟨some 14, none, .mov (.t 48)⟩])
    (.seq (.region true [
      ⟨some 49, none, .mov (.t 12)⟩,
      ⟨some 50, none, .faddr 0 (.t 10)⟩,
      ⟨some 51, none, .load1 (.t 50)⟩,
      ⟨some 52, none, .mov (.t 14)⟩,
      ⟨some 53, none, .iaddr 1 (.t 51) (.t 52)⟩,
      ⟨some 54, none, .load1 (.t 53)⟩,
      ⟨some 55, none, .build [(.int .i64 0), (.int .i64 0), (.string ⟨#[]⟩)] [(0, 1, (.c (.int .i64 2))), (2, 1, (.t 54))]⟩,
      ⟨some 56, none, .faddr 0 (.t 11)⟩,
      ⟨some 57, none, .load1 (.t 56)⟩,
      ⟨some 58, none, .mov (.t 14)⟩,
      ⟨some 59, none, .iaddr 1 (.t 57) (.t 58)⟩,
      ⟨some 60, none, .load1 (.t 59)⟩,
      ⟨some 61, none, .len true (.t 60)⟩,
      ⟨some 62, none, .build [(.int .i64 0), (.int .i64 0), (.string ⟨#[]⟩)] [(0, 1, (.c (.int .i64 1))), (1, 1, (.t 61))]⟩,
      ⟨some 63, none, .bslice 112 3 [(.t 55), (.t 62)]⟩,
      ⟨some 64, none, .append 112 3 32 (.t 49) (.t 63)⟩,
      ⟨some 12, none, .mov (.t 64)⟩])
    (.seq (.region true [
      ⟨some 65, none, .mov (.t 13)⟩,
      ⟨some 66, none, .faddr 0 (.t 10)⟩,
      ⟨some 67, none, .load1 (.t 66)⟩,
      ⟨some 68, none, .mov (.t 14)⟩,
      ⟨some 69, none, .iaddr 1 (.t 67) (.t 68)⟩,
      ⟨some 70, none, .load1 (.t 69)⟩,
      ⟨some 71, none, .len true (.t 70)⟩,
      ⟨some 72, none, .build [(.int .i64 0), (.int .i64 0), (.string ⟨#[]⟩)] [(0, 1, (.c (.int .i64 1))), (1, 1, (.t 71))]⟩,
      ⟨some 73, none, .faddr 0 (.t 11)⟩,
      ⟨some 74, none, .load1 (.t 73)⟩,
      ⟨some 75, none, .mov (.t 14)⟩,
      ⟨some 76, none, .iaddr 1 (.t 74) (.t 75)⟩,
      ⟨some 77, none, .load1 (.t 76)⟩,
      ⟨some 78, none, .build [(.int .i64 0), (.int .i64 0), (.string ⟨#[]⟩)] [(0, 1, (.c (.int .i64 2))), (2, 1, (.t 77))]⟩,
      ⟨some 79, none, .bslice 112 3 [(.t 72), (.t 78)]⟩,
      ⟨some 80, none, .append 112 3 32 (.t 65) (.t 79)⟩,
      ⟨some 13, none, .mov (.t 80)⟩])
    (.seq (.seq (.region false [
      ⟨some 81, none, .mov (.t 14)⟩,
      ⟨some 82, none, .faddr 1 (.t 10)⟩,
      ⟨some 83, none, .load1 (.t 82)⟩,
      ⟨some 84, none, .len false (.t 83)⟩,
      ⟨some 85, none, .bin .eql (.t 81) (.t 84)⟩])
    (.cond (.t 85)
      (.exit 2)
      (.skip)))
    (.seq (.seq (.region false [
      ⟨some 86, none, .faddr 1 (.t 11)⟩,
      ⟨some 87, none, .load1 (.t 86)⟩,
      ⟨some 88, none, .mov (.t 14)⟩,
      ⟨some 89, none, .iaddr 1 (.t 87) (.t 88)⟩,
      ⟨some 90, none, .load1 (.t 89)⟩])
    (.cond (.t 90)
      (.region false [
        ⟨some 91, none, .mov (.t 12)⟩,
        ⟨some 92, none, .faddr 1 (.t 10)⟩,
        ⟨some 93, none, .load1 (.t 92)⟩,
        ⟨some 94, none, .mov (.t 14)⟩,
        ⟨some 95, none, .iaddr 1 (.t 93) (.t 94)⟩,
        ⟨some 96, none, .load1 (.t 95)⟩,
        ⟨some 97, none, .call 74 [(.t 96)]⟩,
        ⟨some 98, none, .bin .mul (.c (.int .i64 2)) (.t 97)⟩,
        ⟨some 99, none, .bin .sub (.c (.int .i64 3)) (.t 98)⟩,
        ⟨some 100, none, .build [(.int .i64 0), (.int .i64 0), (.string ⟨#[]⟩)] [(0, 1, (.t 99)), (1, 1, (.c (.int .i64 1)))]⟩,
        ⟨some 101, none, .bslice 112 3 [(.t 100)]⟩,
        ⟨some 102, none, .append 112 3 32 (.t 91) (.t 101)⟩,
        ⟨some 12, none, .mov (.t 102)⟩])
      (.skip)))
    (.seq (.region false [
      ⟨some 103, none, .faddr 1 (.t 10)⟩,
      ⟨some 104, none, .load1 (.t 103)⟩,
      ⟨some 105, none, .mov (.t 14)⟩,
      ⟨some 106, none, .iaddr 1 (.t 104) (.t 105)⟩,
      ⟨some 107, none, .load1 (.t 106)⟩])
    (.cond (.t 107)
      (.region false [
        ⟨some 108, none, .mov (.t 13)⟩,
        ⟨some 109, none, .faddr 1 (.t 11)⟩,
        ⟨some 110, none, .load1 (.t 109)⟩,
        ⟨some 111, none, .mov (.t 14)⟩,
        ⟨some 112, none, .iaddr 1 (.t 110) (.t 111)⟩,
        ⟨some 113, none, .load1 (.t 112)⟩,
        ⟨some 114, none, .call 74 [(.t 113)]⟩,
        ⟨some 115, none, .bin .mul (.c (.int .i64 2)) (.t 114)⟩,
        ⟨some 116, none, .bin .sub (.c (.int .i64 3)) (.t 115)⟩,
        ⟨some 117, none, .build [(.int .i64 0), (.int .i64 0), (.string ⟨#[]⟩)] [(0, 1, (.t 116)), (1, 1, (.c (.int .i64 1)))]⟩,
        ⟨some 118, none, .bslice 112 3 [(.t 117)]⟩,
        ⟨some 119, none, .append 112 3 32 (.t 108) (.t 118)⟩,
        ⟨some 13, none, .mov (.t 119)⟩])
      (.skip)))))))))
    (.region false [
      ⟨some 120, none, .bin .add (.t 46) (.c (.int .i64 1))⟩,
      ⟨some 46, none, .mov (.t 120)⟩])))))))
  (.seq (.region false [
    ⟨some 121, none, .mov (.t 12)⟩,
    ⟨some 122, none, .call 59 [(.t 121)]⟩,
    ⟨some 123, none, .call 75 [(.t 122)]⟩,
    ⟨some 124, none, .mov (.t 13)⟩,
    ⟨some 125, none, .call 59 [(.t 124)]⟩,
    ⟨some 126, none, .call 75 [(.t 125)]⟩,
    ⟨some 15, none, .mov (.t 123)⟩,
    ⟨some 16, none, .mov (.t 126)⟩])
  (.seq (.seq (.region false [
    ⟨some 127, none, .mov (.t 15)⟩,
    ⟨some 128, none, .mov (.t 16)⟩,
    ⟨some 129, none, .bslice 22 1 [(.t 127), (.t 128)]⟩,
    ⟨some 130, none, .len false (.t 129)⟩,
    ⟨some 131, none, .mov (.c (.int .i64 0))⟩])
  (.block 4 (.loop (.seq (.region false [
      ⟨some 132, none, .bin .lss (.t 131) (.t 130)⟩])
    (.seq (.cond (.t 132)
      (.skip)
      (.exit 4))
    (.seq (.block 5 (.seq (.region false [
      ⟨some 133, none, .iaddr 1 (.t 129) (.t 131)⟩,
      ⟨some 134, none, .load1 (.t 133)⟩,
      ⟨some 18, none, .mov (.t 134)⟩])
    (.seq (.region false [
      ⟨some 135, none, .mov (.t 18)⟩,
      ⟨some 136, none, .call 19 [(.t 135)]⟩,
      ⟨some 19, none, .mov (.t 136)⟩])
    (.seq (.region false [
      ⟨some 137, none, .mov (.t 19)⟩,
      ⟨some 138, none, .bin .neq (.t 137) (.c (.int .i64 0))⟩])
    (.cond (.t 138)
      (.seq (.region false [
        ⟨some 139, none, .mov (.t 19)⟩,
        ⟨some 4, none, .mov (.c (.slice none 0 0))⟩,
        ⟨some 5, none, .mov (.c (.slice none 0 0))⟩,
        ⟨some 6, none, .mov (.t 139)⟩])
      (.ret))
      (.skip))))))
    (.region false [
      ⟨some 140, none, .bin .add (.t 131) (.c (.int .i64 1))⟩,
      ⟨some 131, none, .mov (.t 140)⟩])))))))
  (.seq (.region false [
    ⟨some 141, none, .mov (.t 15)⟩,
    ⟨some 142, none, .mov (.t 16)⟩,
    ⟨some 4, none, .mov (.t 141)⟩,
    ⟨some 5, none, .mov (.t 142)⟩,
    ⟨some 6, none, .mov (.c (.int .i64 0))⟩])
  (.ret)))))))))
theorem ok_rmeet : FnOk Try.prog 32 Try.f32 ac_rmeet [.t 4, .t 5, .t 6] 2 drawD := ⟨Try.func32, by decide +kernel, by kernel_rfl, by kernel_rfl, by decide +kernel⟩
structure YH2 where
  k : Int
  h0 : k = 0 ∨ k = 1 ∨ k = 2
structure YRm (ps qs : List (List UInt8)) (ks ms : List Bool) where
  i : Nat
  k : Int
  p1 : List (List UInt8)
  r1 : List (List UInt8)
  p2 : List (List UInt8)
  r2 : List (List UInt8)
  k1 : List Bool
  s1 : List Bool
  k2 : List Bool
  s2 : List Bool
  l : List Part
  r : List Part
  nl : Nat
  nr : Nat
  rl : List (List V)
  rr : List (List V)
  bl : Option Nat
  br : Option Nat
  h1 : ps = p1 ++ r1 ∧ p1.length = i
  h2 : qs = p2 ++ r2 ∧ p2.length = i
  h3 : ks = k1 ++ s1 ∧ k1.length = i
  h4 : ms = k2 ++ s2 ∧ k2.length = i
  hk : k = (i : Int)
  hrl : rl = l.map encPart ∧ nl = l.length
  hrr : rr = r.map encPart ∧ nr = r.length
  hl : l.length ≤ 3 * i ∧ ∀ p ∈ l, 0 ≤ p.n ∧ p.n ≤ 500 ∧ p.text.length ≤ 500
  hr : r.length ≤ 3 * i ∧ ∀ p ∈ r, 0 ≤ p.n ∧ p.n ≤ 500 ∧ p.text.length ≤ 500
  hm1 : (meetP ps ks qs ms).1 = toks l ++ (meetP r1 s1 r2 s2).1
  hm2 : (meetP ps ks qs ms).2 = toks r ++ (meetP r1 s1 r2 s2).2
theorem vc_rmeet (P : Prim) (hP : P = std) (T T1 : CallT) (ra rb : List (List V)) (c1 c2 i1 i2 e3 e4 : Int) (ps qs : List (List UInt8)) (ks ms : List Bool) (hps : ps.length = ks.length + 1) (hqs : qs.length = ks.length + 1) (hms : ms.length = ks.length) (hks : ks.length ≤ 500) (hpb : ∀ p ∈ ps, p.length ≤ 500) (hqb : ∀ p ∈ qs, p.length ≤ 500)
    (xp xk yp yk : List (List V)) (hxp : xp = strRows ps) (hxk : xk = boolRows ks) (hyp : yp = strRows qs) (hyk : yk = boolRows ms) (pv : List Part → V) (rc rd : List (List V))
    (hd1 : Ans T 19 [.sl false 3 ra] (.int .i64 c1)) (hd2 : Ans T 19 [.sl false 3 rb] (.int .i64 c2))
    (hi1 : c1 = 0 → Ans T 56 [.sl false 3 ra] (.int .i64 i1)) (hi2 : c2 = 0 → Ans T 56 [.sl false 3 rb] (.int .i64 i2))
    (hofa : c1 = 0 → c2 = 0 → i1 = i2 → Ans T 59 [.sl false 3 ra] (.agg [.sl false 1 xp, .sl false 1 xk])) (hofb : c1 = 0 → c2 = 0 → i1 = i2 → Ans T 59 [.sl false 3 rb] (.agg [.sl false 1 yp, .sl false 1 yk]))
    (fB : Bool → Int) (hfB : ∀ k, fB k = b2iF k) (hb2i : ∀ k : Bool, Ans T 74 [.bool k] (.int .i64 (fB k)))
    (hof : ∀ (d : List Part) (h : Hp) (K : V → Hp → Prop) (k : Nat) (b : Option Nat) (n : Nat) (rs : List (List V)), POk d → rs = d.map encPart → n = rs.length → h k = some ⟨b, 112, 3, rs⟩ → K (pv d) h → T 59 [.own k b 3 n] h K)
    (hpd : ∀ (d : List Part), POk d → ∀ r, (c1 = 0 → c2 = 0 → i1 = i2 → (toks d = (meetP ps ks qs ms).1 ∧ r = rc) ∨ (toks d = (meetP ps ks qs ms).2 ∧ r = rd)) → c1 = 0 → c2 = 0 → i1 = i2 → Ans T 75 [pv d] (.sl false 3 r))
    (hd3 : c1 = 0 → c2 = 0 → i1 = i2 → Ans T 19 [.sl false 3 rc] (.int .i64 e3)) (hd4 : c1 = 0 → c2 = 0 → i1 = i2 → Ans T 19 [.sl false 3 rd] (.int .i64 e4))
    (rr1 rr2 : List (List V)) (e : Int) (b1 : c1 ≠ 0 → rr1 = [] ∧ rr2 = [] ∧ c1 = e) (b2 : c1 = 0 → c2 ≠ 0 → rr1 = [] ∧ rr2 = [] ∧ c2 = e) (b3 : c1 = 0 → c2 = 0 → i1 ≠ i2 → rr1 = [] ∧ rr2 = [] ∧ 4 = e)
    (b4 : c1 = 0 → c2 = 0 → i1 = i2 → e3 ≠ 0 → rr1 = [] ∧ rr2 = [] ∧ e3 = e) (b5 : c1 = 0 → c2 = 0 → i1 = i2 → e3 = 0 → e4 ≠ 0 → rr1 = [] ∧ rr2 = [] ∧ e4 = e) (b6 : c1 = 0 → c2 = 0 → i1 = i2 → e3 = 0 → e4 = 0 → rc = rr1 ∧ rd = rr2 ∧ 0 = e)
    (R : S → Prop) (hR : RetSl2 [.t 4, .t 5, .t 6] rr1 rr2 e R) : awp P T T1 ac_rmeet (S0 [.sl false 3 ra, .sl false 3 rb] Hp.emp) R (fun _ _ => False) R := by
  have lxp : P.rlen xp = (ps.length : Int) := by rw [rlen_eq hP, hxp]; simp [strRows]
  have lxk : P.rlen xk = (ks.length : Int) := by rw [rlen_eq hP, hxk]; simp [boolRows]
  have hi2' : P.int 2 = 2 := by rw [int_eq hP]; rfl
  cbv
  intro β17
  cbv
  refine ⟨{ y : YH2 // (y.k ≠ 0 → c1 = 0) ∧ (y.k = 2 → c2 = 0) }, fun y => [(0, .sl false 3 ra), (1, .sl false 3 rb), (22, .own 1000022 (some β17) 1 2), (23, .int .i64 (P.int 2)), (24, .int .i64 y.1.k)],
    fun y => [(1000022, ⟨some β17, 22, 1, [[.sl false 3 ra], [.sl false 3 rb]]⟩)], fun y => (2 - y.1.k).toNat,
    ⟨_, Ent.refl _, ⟨⟨0, .inl rfl⟩, fun h => absurd rfl h, fun h => by cases h⟩, ⟨rfl, rfl, rfl, rfl, rfl, trivial⟩, ⟨rfl, trivial⟩⟩, ?_⟩
  rintro ⟨⟨k, hk⟩, hk1, hk2⟩
  simp only [] at hk1 hk2
  have ho1 : P.leP 0 k := le0 hP (by omega)
  cbv
  refine br_cases (fun h => ?_) (fun h => ?_)
  · have h2 : k < P.int 2 := lt_t hP h
    rw [hi2'] at h2
    have ho2 : P.ltP k (P.int 2) := ltI hP (by rw [hi2']; exact h2)
    have ho3 : P.i64 (P.add k 1) := by rw [add_eq hP]; exact i64I hP (by omega)
    clear hi1 hi2 hofa hofb hof hpd hd3 hd4 hb2i
    by_cases hk0 : k = 0
    · have hrow : P.row [[.sl false 3 ra], [.sl false 3 rb]] (P.nat k) [.sl false 3 ra] := row_of hP (i := 0) hk0 rfl
      cbv
      refine ⟨ho1, ho2, _, hrow, ?_⟩
      cbv
      refine hd1 _ _ ?_
      cbv
      refine br_cases (fun h => ?_) (fun h => ?_)
      · have hc : c1 ≠ 0 := ne_t hP h
        cbv
        exact hR.1 _ _ _ (Ent.refl _) rfl (b1 hc)
      · have hc : c1 = 0 := ne_f hP h
        cbv
        refine ⟨ho3, ?_⟩
        have e1 : P.add k 1 = 1 := by rw [add_eq hP, hk0]; rfl
        refine ⟨_, Ent.refl _, ⟨⟨_, .inr (.inl e1)⟩, fun _ => hc, fun h => ?_⟩, ⟨rfl, rfl, rfl, rfl, rfl, trivial⟩, ⟨rfl, trivial⟩, ?_⟩
        · have h : P.add k 1 = 2 := h
          omega
        · show (2 - P.add k 1).toNat < (2 - k).toNat
          omega
    · have hk1' : k = 1 := by omega
      have hc1 := hk1 hk0
      have hrow : P.row [[.sl false 3 ra], [.sl false 3 rb]] (P.nat k) [.sl false 3 rb] := row_of hP (i := 1) hk1' rfl
      cbv
      refine ⟨ho1, ho2, _, hrow, ?_⟩
      cbv
      refine hd2 _ _ ?_
      cbv
      refine br_cases (fun h => ?_) (fun h => ?_)
      · have hc : c2 ≠ 0 := ne_t hP h
        cbv
        exact hR.1 _ _ _ (Ent.refl _) rfl (b2 hc1 hc)
      · have hc : c2 = 0 := ne_f hP h
        cbv
        refine ⟨ho3, ?_⟩
        have e1 : P.add k 1 = 2 := by rw [add_eq hP, hk1']; rfl
        refine ⟨_, Ent.refl _, ⟨⟨_, .inr (.inr e1)⟩, fun _ => hc1, fun _ => hc⟩, ⟨rfl, rfl, rfl, rfl, rfl, trivial⟩, ⟨rfl, trivial⟩, ?_⟩
        show (2 - P.add k 1).toNat < (2 - k).toNat
        omega
  have h2 : ¬ k < P.int 2 := lt_f hP h
  rw [hi2'] at h2
  have hk2' : k = 2 := by omega
  have hc1 := hk1 (by omega)
  have hc2 := hk2 hk2'
  have f1 := hi1 hc1
  have f2 := hi2 hc2
  replace b3 := b3 hc1 hc2
  replace b4 := b4 hc1 hc2
  replace b5 := b5 hc1 hc2
  replace b6 := b6 hc1 hc2
  clear hi1 hi2 hd1 hd2 b1 b2 ho1 h
  cbv
  refine f1 _ _ ?_
  cbv
  refine f2 _ _ ?_
  clear f1 f2
  cbv
  refine br_cases (fun h => ?_) (fun h => ?_)
  · have hc : i1 ≠ i2 := ne_t hP h
    cbv
    exact hR.1 _ _ _ (Ent.refl _) rfl (b3 hc)
  have hii : i1 = i2 := ne_f hP h
  clear b3 h
  replace b4 := b4 hii
  replace b5 := b5 hii
  replace b6 := b6 hii
  have f1 := hofa hc1 hc2 hii
  have f2 := hofb hc1 hc2 hii
  have f3 := hd3 hc1 hc2 hii
  have f4 := hd4 hc1 hc2 hii
  have hpd1 : ∀ (d : List Part), POk d → toks d = (meetP ps ks qs ms).1 → Ans T 75 [pv d] (.sl false 3 rc) := fun d hd ht => hpd d hd rc (fun _ _ _ => .inl ⟨ht, rfl⟩) hc1 hc2 hii
  have hpd2 : ∀ (d : List Part), POk d → toks d = (meetP ps ks qs ms).2 → Ans T 75 [pv d] (.sl false 3 rd) := fun d hd ht => hpd d hd rd (fun _ _ _ => .inr ⟨ht, rfl⟩) hc1 hc2 hii
  clear hofa hofb hd3 hd4 hpd
  cbv
  refine f1 _ _ ?_
  cbv
  refine f2 _ _ ?_
  clear f1 f2
  cbv
  intro β10
  cbv
  intro β11
  cbv
  refine ⟨YRm ps qs ks ms, fun y => [(10, .ptr 10 (some β10) 2 0 0), (11, .ptr 11 (some β11) 2 0 0), (12, .own 1000064 y.bl 3 y.nl), (13, .own 1000080 y.br 3 y.nr), (45, .int .i64 (P.rlen xp)), (46, .int .i64 y.k)],
    fun y => [(10, ⟨some β10, 119, 2, [[.sl false 1 xp, .sl false 1 xk]]⟩), (11, ⟨some β11, 119, 2, [[.sl false 1 yp, .sl false 1 yk]]⟩), (1000064, ⟨y.bl, 112, 3, y.rl⟩), (1000080, ⟨y.br, 112, 3, y.rr⟩)], fun y => y.r1.length,
    ⟨_, Ent.trans (Ent.nil (i := 12) (k := 1000064) (ty := 112) (sz := 3) rfl rfl) (Ent.nil (i := 13) (k := 1000080) (ty := 112) (sz := 3) rfl rfl),
      ⟨0, 0, [], ps, [], qs, [], ks, [], ms, [], [], _, _, _, _, _, _, ⟨rfl, rfl⟩, ⟨rfl, rfl⟩, ⟨rfl, rfl⟩, ⟨rfl, rfl⟩, rfl, ⟨rfl, rfl⟩, ⟨rfl, rfl⟩, ⟨by simp, by simp⟩, ⟨by simp, by simp⟩, rfl, rfl⟩, ⟨rfl, rfl, rfl, rfl, rfl, rfl, trivial⟩, ⟨rfl, rfl, rfl, rfl, trivial⟩⟩, ?_⟩
  rintro ⟨i, k, p1, r1, p2, r2, k1, s1, kk2, s2, l, r, nl, nr, rl, rr, bl, br_, ⟨h1, h1l⟩, ⟨h2', h2l⟩, ⟨h3, h3l⟩, ⟨h4, h4l⟩, hk', ⟨hrl, hnl⟩, ⟨hrr, hnr⟩, ⟨hl1, hl2⟩, ⟨hr1, hr2⟩, hm1, hm2⟩
  have el1 : r1.length = s1.length + 1 := by rw [h1, h3] at hps; simp at hps; omega
  have el2 : r2.length = s1.length + 1 := by rw [h2', h3] at hqs; simp at hqs; omega
  have el3 : s2.length = s1.length := by rw [h3, h4] at hms; simp at hms; omega
  have el4 : i + s1.length = ks.length := by rw [h3]; simp; omega
  rcases r1 with _ | ⟨p, r1⟩
  · simp at el1
  rcases r2 with _ | ⟨q, r2⟩
  · simp at el2
  have hpl : p.length ≤ 500 := hpb p (by rw [h1]; simp)
  have hql : q.length ≤ 500 := hqb q (by rw [h2']; simp)
  have hrow1 : P.row xp (P.nat k) [.str p] := row_of hP hk' (by rw [hxp, strRows, List.getElem?_map, h1, ← h1l]; simp)
  have hrow2 : P.row yp (P.nat k) [.str q] := row_of hP hk' (by rw [hyp, strRows, List.getElem?_map, h2', ← h2l]; simp)
  have ho1 : P.leP 0 k := le0 hP (by omega)
  have ho2 : P.i64 (P.add k 1) := by rw [add_eq hP]; exact i64I hP (by omega)
  have a1 : P.neP rl nl := by subst hP; show rl.length = nl; rw [hrl, hnl]; simp
  have a2 : P.neP rr nr := by subst hP; show rr.length = nr; rw [hrr, hnr]; simp
  have a3 : ∀ x y, P.bytes (P.add (P.int nl) (P.rlen [x, y])) 32 := by intro x y; subst hP; show ((nl : Int) + 2) * 32 ≤ _; omega
  have a4 : ∀ x y, P.bytes (P.add (P.int nr) (P.rlen [x, y])) 32 := by intro x y; subst hP; show ((nr : Int) + 2) * 32 ≤ _; omega
  have a5 : ∀ x y, P.neP [x, y] 2 := by intro x y; subst hP; rfl
  have hokL : POk (addL l p q) := by
    refine ⟨by simp [addL]; omega, fun x hx => ?_⟩
    simp only [addL, List.mem_append, List.mem_cons, List.not_mem_nil, or_false] at hx
    rcases hx with hx | rfl | rfl
    · exact hl2 x hx
    · simp; omega
    · simp; omega
  have hokR : POk (addR r p q) := by
    refine ⟨by simp [addR]; omega, fun x hx => ?_⟩
    simp only [addR, List.mem_append, List.mem_cons, List.not_mem_nil, or_false] at hx
    rcases hx with hx | rfl | rfl
    · exact hr2 x hx
    · simp; omega
    · simp; omega
  have erl : P.rapp rl [[.int .i64 2, .int .i64 0, .str p], [.int .i64 1, .int .i64 (P.slen q), .str []]] = (addL l p q).map encPart := by
    rw [hrl]; subst hP; simp [std, addL, encPart]
  have err' : P.rapp rr [[.int .i64 1, .int .i64 (P.slen p), .str []], [.int .i64 2, .int .i64 0, .str q]] = (addR r p q).map encPart := by
    rw [hrr]; subst hP; simp [std, addR, encPart]
  have enl : ∀ x y, P.nadd nl (P.rlenN [x, y]) = (addL l p q).length := by intro x y; subst hP; simp [std, addL, hnl]
  have enr : ∀ x y, P.nadd nr (P.rlenN [x, y]) = (addR r p q).length := by intro x y; subst hP; simp [std, addR, hnr]
  cbv
  refine br_cases (fun h => ?_) (fun h => ?_)
  rotate_left
  · exfalso
    have h5 : ¬ k < P.rlen xp := lt_f hP h
    rw [lxp] at h5
    rw [h1] at h5
    simp at h5
    ((try simp only [nc] at *); omega)
  cbv
  repeat' (first
    | (refine And.intro (by assumption) ?_; try cbv)
    | (refine And.intro (a5 _ _) ?_; try cbv)
    | (refine And.intro (a3 _ _) ?_; try cbv)
    | (refine And.intro (a4 _ _) ?_; try cbv)
    | (intro β; try cbv)
    | (refine Exists.intro _ (And.intro (by assumption) ?_); try cbv))
  refine br_cases (fun h => ?_) (fun h => ?_)
  · have h5 : k = P.rlen xk := eq_t hP h
    rw [lxk] at h5
    have hs1 : s1 = [] := List.eq_nil_of_length_eq_zero (by ((try simp only [nc] at *); omega))
    have hs2 : s2 = [] := List.eq_nil_of_length_eq_zero (by ((try simp only [nc] at *); omega))
    subst hs1 hs2
    have t1 : toks (addL l p q) = (meetP ps ks qs ms).1 := by rw [hm1, addL, toks_app, toks_cons2]; simp [meetP]
    have t2 : toks (addR r p q) = (meetP ps ks qs ms).2 := by rw [hm2, addR, toks_app, toks_cons2']; simp [meetP]
    have g1 := hpd1 _ hokL t1
    have g2 := hpd2 _ hokR t2
    clear hpd1 hpd2 hb2i
    cbv
    refine hof (addL l p q) _ _ _ _ _ _ hokL erl ((enl _ _).trans (by rw [erl]; simp)) rfl ?_
    cbv
    refine g1 _ _ ?_
    cbv
    refine hof (addR r p q) _ _ _ _ _ _ hokR err' ((enr _ _).trans (by rw [err']; simp)) rfl ?_
    cbv
    refine g2 _ _ ?_
    clear g1 g2 hof erl err' enl enr a1 a2 a3 a4 a5
    cbv
    intro β129
    cbv
    refine ⟨{ y : YH2 // (y.k ≠ 0 → e3 = 0) ∧ (y.k = 2 → e4 = 0) }, fun y => [(15, .sl false 3 rc), (16, .sl false 3 rd), (129, .own 1000129 (some β129) 1 2), (130, .int .i64 (P.int 2)), (131, .int .i64 y.1.k)],
      fun y => [(1000129, ⟨some β129, 22, 1, [[.sl false 3 rc], [.sl false 3 rd]]⟩)], fun y => (2 - y.1.k).toNat,
      ⟨_, Ent.refl _, ⟨⟨0, .inl rfl⟩, fun h => absurd rfl h, fun h => by cases h⟩, ⟨rfl, rfl, rfl, rfl, rfl, trivial⟩, ⟨rfl, trivial⟩⟩, ?_⟩
    rintro ⟨⟨k, hk⟩, hk1, hk2⟩
    simp only [] at hk1 hk2
    have ho1 : P.leP 0 k := le0 hP (by omega)
    cbv
    refine br_cases (fun h => ?_) (fun h => ?_)
    · have h2 : k < P.int 2 := lt_t hP h
      rw [hi2'] at h2
      have ho2 : P.ltP k (P.int 2) := ltI hP (by rw [hi2']; exact h2)
      have ho3 : P.i64 (P.add k 1) := by rw [add_eq hP]; exact i64I hP (by omega)
      by_cases hk0 : k = 0
      · have hrow : P.row [[.sl false 3 rc], [.sl false 3 rd]] (P.nat k) [.sl false 3 rc] := row_of hP (i := 0) hk0 rfl
        cbv
        refine ⟨ho1, ho2, _, hrow, ?_⟩
        cbv
        refine f3 _ _ ?_
        cbv
        refine br_cases (fun h => ?_) (fun h => ?_)
        · have hc : e3 ≠ 0 := ne_t hP h
          cbv
          exact hR.1 _ _ _ (Ent.refl _) rfl (b4 hc)
        · have hc : e3 = 0 := ne_f hP h
          cbv
          refine ⟨ho3, ?_⟩
          have e1 : P.add k 1 = 1 := by rw [add_eq hP, hk0]; rfl
          refine ⟨_, Ent.refl _, ⟨⟨_, .inr (.inl e1)⟩, fun _ => hc, fun h => ?_⟩, ⟨rfl, rfl, rfl, rfl, rfl, trivial⟩, ⟨rfl, trivial⟩, ?_⟩
          · have h : P.add k 1 = 2 := h
            omega
          · show (2 - P.add k 1).toNat < (2 - k).toNat
            omega
      · have hk1' : k = 1 := by omega
        have hc1 := hk1 hk0
        have hrow : P.row [[.sl false 3 rc], [.sl false 3 rd]] (P.nat k) [.sl false 3 rd] := row_of hP (i := 1) hk1' rfl
        cbv
        refine ⟨ho1, ho2, _, hrow, ?_⟩
        cbv
        refine f4 _ _ ?_
        cbv
        refine br_cases (fun h => ?_) (fun h => ?_)
        · have hc : e4 ≠ 0 := ne_t hP h
          cbv
          exact hR.1 _ _ _ (Ent.refl _) rfl (b5 hc1 hc)
        · have hc : e4 = 0 := ne_f hP h
          cbv
          refine ⟨ho3, ?_⟩
          have e1 : P.add k 1 = 2 := by rw [add_eq hP, hk1']; rfl
          refine ⟨_, Ent.refl _, ⟨⟨_, .inr (.inr e1)⟩, fun _ => hc1, fun _ => hc⟩, ⟨rfl, rfl, rfl, rfl, rfl, trivial⟩, ⟨rfl, trivial⟩, ?_⟩
          show (2 - P.add k 1).toNat < (2 - k).toNat
          omega
    have h2 : ¬ k < P.int 2 := lt_f hP h
    rw [hi2'] at h2
    have hk2' : k = 2 := by omega
    have hc1 := hk1 (by omega)
    have hc2 := hk2 hk2'
    cbv
    exact hR.2.2 _ _ _ _ _ (Ent.refl _) rfl (b6 hc1 hc2)
  · have h5 : ¬ k = P.rlen xk := eq_f hP h
    rw [lxk] at h5
    rcases s1 with _ | ⟨x1, s1⟩
    · exfalso; simp at el4; ((try simp only [nc] at *); omega)
    rcases s2 with _ | ⟨y1, s2⟩
    · simp at el3
    have hrow3 : P.row xk (P.nat k) [.bool x1] := row_of hP hk' (by rw [hxk, boolRows, List.getElem?_map, h3, ← h3l]; simp)
    have hrow4 : P.row yk (P.nat k) [.bool y1] := row_of hP hk' (by rw [hyk, boolRows, List.getElem?_map, h4, ← h4l]; simp)
    have nm1 : (meetP ps ks qs ms).1 = toks (addK (addL l p q) y1 x1) ++ (meetP r1 s1 r2 s2).1 := by
      rw [hm1]; cases x1 <;> cases y1 <;> simp [addK, addL, toks_app, toks_cons2, meetP, stepP, toks, toks1]
    have nm2 : (meetP ps ks qs ms).2 = toks (addK (addR r p q) x1 y1) ++ (meetP r1 s1 r2 s2).2 := by
      rw [hm2]; cases x1 <;> cases y1 <;> simp [addK, addR, toks_app, toks_cons2', meetP, stepP, toks, toks1]
    have okK : ∀ (l : List Part) (m k : Bool), (∀ p ∈ l, 0 ≤ p.n ∧ p.n ≤ 500 ∧ p.text.length ≤ 500) → ∀ p ∈ addK l m k, 0 ≤ p.n ∧ p.n ≤ 500 ∧ p.text.length ≤ 500 := by
      intro l m k hl x hx
      unfold addK at hx
      split at hx
      · simp only [List.mem_append, List.mem_cons, List.not_mem_nil, or_false] at hx
        rcases hx with hx | rfl
        · exact hl x hx
        · simp
      · exact hl x hx
    have lenK : ∀ (l : List Part) (m k : Bool), (addK l m k).length ≤ l.length + 1 := by
      intro l m k; unfold addK; split <;> simp
    have nl1 := lenK (addL l p q) y1 x1
    have nr1 := lenK (addR r p q) x1 y1
    have nl2 := okK _ y1 x1 hokL.2
    have nr2 := okK _ x1 y1 hokR.2
    have nl3 : (addL l p q).length = l.length + 2 := by simp [addL]
    have nr3 : (addR r p q).length = r.length + 2 := by simp [addR]
    have g1 : ∀ x y, P.neP (P.rapp rl [x, y]) (P.nadd nl (P.rlenN [x, y])) := by intro x y; subst hP; show (rl ++ [x, y]).length = nl + 2; rw [hrl, hnl]; simp
    have g2 : ∀ x y, P.neP (P.rapp rr [x, y]) (P.nadd nr (P.rlenN [x, y])) := by intro x y; subst hP; show (rr ++ [x, y]).length = nr + 2; rw [hrr, hnr]; simp
    have g3 : ∀ x y z, P.bytes (P.add (P.int (P.nadd nl (P.rlenN [x, y]))) (P.rlen [z])) 32 := by intro x y z; subst hP; show (((nl + 2 : Nat) : Int) + 1) * 32 ≤ _; omega
    have g4 : ∀ x y z, P.bytes (P.add (P.int (P.nadd nr (P.rlenN [x, y]))) (P.rlen [z])) 32 := by intro x y z; subst hP; show (((nr + 2 : Nat) : Int) + 1) * 32 ≤ _; omega
    have g5 : ∀ z, P.neP [z] 1 := by intro z; subst hP; rfl
    have kv : ∀ x : Bool, P.sub 3 (P.mul 2 (fB x)) = if x then 1 else 3 := by intro x; rw [hfB]; subst hP; cases x <;> rfl
    have j1 : ∀ x : Bool, P.i64 (P.mul 2 (fB x)) := by intro x; rw [hfB]; subst hP; cases x <;> exact ⟨by decide, by decide⟩
    have j2 : ∀ x : Bool, P.i64 (P.sub 3 (P.mul 2 (fB x))) := by intro x; rw [kv]; exact i64I hP (by split <;> omega)
    have eL1 : P.rapp (P.rapp rl [[.int .i64 2, .int .i64 0, .str p], [.int .i64 1, .int .i64 (P.slen q), .str []]]) [[.int .i64 (P.sub 3 (P.mul 2 (fB x1))), .int .i64 1, .str []]] = (addK (addL l p q) true x1).map encPart := by
      rw [erl, kv]; subst hP; simp [std, addK, encPart]
    have eR1 : P.rapp (P.rapp rr [[.int .i64 1, .int .i64 (P.slen p), .str []], [.int .i64 2, .int .i64 0, .str q]]) [[.int .i64 (P.sub 3 (P.mul 2 (fB y1))), .int .i64 1, .str []]] = (addK (addR r p q) true y1).map encPart := by
      rw [err', kv]; subst hP; simp [std, addK, encPart]
    have nL1 : ∀ x y z, P.nadd (P.nadd nl (P.rlenN [x, y])) (P.rlenN [z]) = (addK (addL l p q) true x1).length := by intro x y z; rw [enl]; subst hP; simp [std, addK]
    have nR1 : ∀ x y z, P.nadd (P.nadd nr (P.rlenN [x, y])) (P.rlenN [z]) = (addK (addR r p q) true y1).length := by intro x y z; rw [enr]; subst hP; simp [std, addK]
    have hbx := hb2i x1
    have hby := hb2i y1
    have hkk : P.add k 1 = ((i + 1 : Nat) : Int) := by rw [add_eq hP, hk']; ((try simp only [nc] at *); omega)
    have hll : (addK (addL l p q) y1 x1).length ≤ 3 * (i + 1) := by omega
    have hrl' : (addK (addR r p q) x1 y1).length ≤ 3 * (i + 1) := by omega
    clear hpd1 hpd2 hb2i hof hR f3 f4 b4 b5 b6
    cbv
    refine ⟨ho1, _, hrow4, ?_⟩
    cbv
    refine br_cases (fun hy => ?_) (fun hy => ?_)
    · cbv
      refine ⟨ho1, _, hrow3, ?_⟩
      cbv
      refine hbx _ _ ?_
      cbv
      refine ⟨j1 _, j2 _, ?_⟩
      try cbv
      repeat' (first
        | (refine And.intro (by assumption) ?_; try cbv)
        | (refine And.intro (g5 _) ?_; try cbv)
        | (refine And.intro (g1 _ _) ?_; try cbv)
        | (refine And.intro (g3 _ _ _) ?_; try cbv)
        | (intro β; try cbv)
        | (refine Exists.intro _ (And.intro (by assumption) ?_); try cbv))
      refine br_cases (fun hx => ?_) (fun hx => ?_)
      · cbv
        refine ⟨ho1, _, hrow4, ?_⟩
        cbv
        refine hby _ _ ?_
        cbv
        refine ⟨j1 _, j2 _, ?_⟩
        try cbv
        repeat' (first
          | (refine And.intro (by assumption) ?_; try cbv)
          | (refine And.intro (g5 _) ?_; try cbv)
          | (refine And.intro (g2 _ _) ?_; try cbv)
          | (refine And.intro (g4 _ _ _) ?_; try cbv)
          | (intro β; try cbv)
          | (refine Exists.intro _ (And.intro (by assumption) ?_); try cbv))
        rw [hy] at nm1 hll nl2; rw [hx] at nm2 hrl' nr2
        refine ⟨_, Ent.refl _, ⟨i + 1, _, p1 ++ [p], r1, p2 ++ [q], r2, k1 ++ [x1], s1, kk2 ++ [y1], s2, _, _, _, _, _, _, _, _, ⟨by simp [h1], by simp [h1l]⟩, ⟨by simp [h2'], by simp [h2l]⟩, ⟨by simp [h3], by simp [h3l]⟩, ⟨by simp [h4], by simp [h4l]⟩, hkk, ⟨eL1, nL1 _ _ _⟩, ⟨eR1, nR1 _ _ _⟩, ⟨hll, nl2⟩, ⟨hrl', nr2⟩, nm1, nm2⟩, ⟨rfl, rfl, rfl, rfl, rfl, rfl, trivial⟩, ⟨rfl, rfl, rfl, rfl, trivial⟩, by simp⟩
      · cbv
        try refine ⟨ho2, ?_⟩
        rw [hy] at nm1 hll nl2; rw [hx] at nm2 hrl' nr2
        refine ⟨_, Ent.refl _, ⟨i + 1, _, p1 ++ [p], r1, p2 ++ [q], r2, k1 ++ [x1], s1, kk2 ++ [y1], s2, _, _, _, _, _, _, _, _, ⟨by simp [h1], by simp [h1l]⟩, ⟨by simp [h2'], by simp [h2l]⟩, ⟨by simp [h3], by simp [h3l]⟩, ⟨by simp [h4], by simp [h4l]⟩, hkk, ⟨eL1, nL1 _ _ _⟩, ⟨err', enr _ _⟩, ⟨hll, nl2⟩, ⟨hrl', nr2⟩, nm1, nm2⟩, ⟨rfl, rfl, rfl, rfl, rfl, rfl, trivial⟩, ⟨rfl, rfl, rfl, rfl, trivial⟩, by simp⟩
    · cbv
      refine ⟨ho1, _, hrow3, ?_⟩
      cbv
      refine br_cases (fun hx => ?_) (fun hx => ?_)
      · cbv
        refine ⟨ho1, _, hrow4, ?_⟩
        cbv
        refine hby _ _ ?_
        cbv
        refine ⟨j1 _, j2 _, ?_⟩
        try cbv
        repeat' (first
          | (refine And.intro (by assumption) ?_; try cbv)
          | (refine And.intro (g5 _) ?_; try cbv)
          | (refine And.intro (g2 _ _) ?_; try cbv)
          | (refine And.intro (g4 _ _ _) ?_; try cbv)
          | (intro β; try cbv)
          | (refine Exists.intro _ (And.intro (by assumption) ?_); try cbv))
        rw [hy] at nm1 hll nl2; rw [hx] at nm2 hrl' nr2
        refine ⟨_, Ent.refl _, ⟨i + 1, _, p1 ++ [p], r1, p2 ++ [q], r2, k1 ++ [x1], s1, kk2 ++ [y1], s2, _, _, _, _, _, _, _, _, ⟨by simp [h1], by simp [h1l]⟩, ⟨by simp [h2'], by simp [h2l]⟩, ⟨by simp [h3], by simp [h3l]⟩, ⟨by simp [h4], by simp [h4l]⟩, hkk, ⟨erl, enl _ _⟩, ⟨eR1, nR1 _ _ _⟩, ⟨hll, nl2⟩, ⟨hrl', nr2⟩, nm1, nm2⟩, ⟨rfl, rfl, rfl, rfl, rfl, rfl, trivial⟩, ⟨rfl, rfl, rfl, rfl, trivial⟩, by simp⟩
      · cbv
        try refine ⟨ho2, ?_⟩
        rw [hy] at nm1 hll nl2; rw [hx] at nm2 hrl' nr2
        refine ⟨_, Ent.refl _, ⟨i + 1, _, p1 ++ [p], r1, p2 ++ [q], r2, k1 ++ [x1], s1, kk2 ++ [y1], s2, _, _, _, _, _, _, _, _, ⟨by simp [h1], by simp [h1l]⟩, ⟨by simp [h2'], by simp [h2l]⟩, ⟨by simp [h3], by simp [h3l]⟩, ⟨by simp [h4], by simp [h4l]⟩, hkk, ⟨erl, enl _ _⟩, ⟨err', enr _ _⟩, ⟨hll, nl2⟩, ⟨hrl', nr2⟩, nm1, nm2⟩, ⟨rfl, rfl, rfl, rfl, rfl, rfl, trivial⟩, ⟨rfl, rfl, rfl, rfl, trivial⟩, by simp⟩
theorem toks_all (d : List Part) (h : checkF d = 0) : (toks d).length ≤ 1000 := by
  obtain ⟨h1, h2, h3, h4, h5, h6⟩ := checkF_all h
  have e1 := inT_toks d h2
  have e2 := outT_toks d h2
  have : ∀ ts : List Tok, ts.length ≤ inT ts + outT ts := by
    intro ts
    induction ts with
    | nil => simp
    | cons t ts ih => cases t <;> simp [inT, kepts, outT] at * <;> omega
  have := this (toks d)
  omega
theorem meet_lens (a b : List Part) (ha : checkF a = 0) (hb : checkF b = 0) : (meetC a b).length ≤ 10000000 ∧ (meetD a b).length ≤ 10000000 := by
  have h1 := toks_all a ha
  have h2 := toks_all b hb
  have h3 := meetT_len ((toks a).length + (toks b).length) (toks a) (toks b)
  exact ⟨mkD_len _ (by show (meetT _ _ _).1.length ≤ _; omega), mkD_len _ (by show (meetT _ _ _).2.length ≤ _; omega)⟩
theorem meetF_len (a b : List Part) : (meetF a b).1.length ≤ 10000000 ∧ (meetF a b).2.1.length ≤ 10000000 := by
  unfold meetF
  split
  · rename_i h
    unfold meetE at h
    by_cases za : checkF a = 0
    · by_cases zb : checkF b = 0
      · exact meet_lens a b za zb
      · rw [if_neg (fun h => h za), if_pos zb] at h; exact absurd h zb
    · rw [if_pos za] at h; exact absurd h za
  · simp
theorem meetF_of {a b : List Part} {e : Int} (h : meetE a b = e) (h0 : e ≠ 0) : meetF a b = ([], [], e) := by unfold meetF; rw [h, if_neg h0]
theorem meetF_0 {a b : List Part} (h : meetE a b = 0) : meetF a b = (meetC a b, meetD a b, 0) := by unfold meetF; rw [if_pos h]
theorem sp_meet (a b : List Part) (ha : a.length ≤ maxLen) (hb : b.length ≤ maxLen) : Spec Try.prog 39 [encParts a, encParts b] Hp.emp (Is (.tup [encParts (meetF a b).1, encParts (meetF a b).2.1, .int .i64 (meetF a b).2.2])) :=
  spec_frz dOk ok_meet fun R hR => vc_meet std rfl _ _ a b _ _ rfl rfl (fun k hk => keepC k hk) (fun s hs => putC s hs) (fun k hk => cutC k hk) doneC walkC kindE_call leftE_call takeC
    (fun d h K k b n rs q hd hrs hn hq hk hK => ⟨h, HEnt.refl h, call_pure (sp_check d (by have : maxLen = 9223372036854775807 := by decide
                                                                                           omega)) (.cons (.own k b 3 n _ (by rw [rowsOf_own hn hk, hrs]) (by simp)) .nil) (by rw [hq] at hK; exact hK)⟩)
    _ _ _ _ _ _ rfl rfl (ansL (sp_szs a ha) rfl) (ansL (sp_szs b hb) rfl) _ _ _ rfl _ _ rfl rfl R (retSl2_of hR)
theorem meetP_mt (a b : List Part) (h : inT (toks a) = inT (toks b)) : meetP (puts (toks a)) (kepts (toks a)) (puts (toks b)) (kepts (toks b)) = mt (toks a) (toks b) := meet_eq _ _ _ (Nat.le_refl _) h
theorem sp_rmeet (a b : List Part) (ha : a.length ≤ maxLen) (hb : b.length ≤ maxLen) : Spec Try.prog 32 [encParts a, encParts b] Hp.emp (Is (.tup [encParts (meetF a b).1, encParts (meetF a b).2.1, .int .i64 (meetF a b).2.2])) := by
  have big : maxLen = 9223372036854775807 := by decide
  by_cases hok : checkF a = 0 ∧ checkF b = 0 ∧ inF a = inF b
  · obtain ⟨za, zb, hii⟩ := hok
    obtain ⟨hla, hoka, ha1, ha2, _, _⟩ := checkF_all za
    obtain ⟨hlb, hokb, hb1, hb2, _, _⟩ := checkF_all zb
    have e1 := inT_toks a hoka
    have e2 := inT_toks b hokb
    have e3 := outT_toks a hoka
    have e4 := outT_toks b hokb
    have hio : inT (toks a) = inT (toks b) := by omega
    obtain ⟨l1, l2⟩ := meet_lens a b za zb
    have hm := meetP_mt a b hio
    have k1 : (kepts (toks b)).length = (kepts (toks a)).length := hio.symm
    have hE : meetE a b = if checkF (meetC a b) ≠ 0 then checkF (meetC a b) else checkF (meetD a b) := by
      unfold meetE; rw [if_neg (fun h => h za), if_neg (fun h => h zb), if_neg (fun h => h hii)]
    exact spec_frz dOk ok_rmeet fun R hR => vc_rmeet std rfl _ _ (a.map encPart) (b.map encPart) (checkF a) (checkF b) (inF a) (inF b) (checkF (meetC a b)) (checkF (meetD a b)) (puts (toks a)) (puts (toks b)) (kepts (toks a)) (kepts (toks b)) (puts_len _) (by rw [puts_len, k1]) k1 (by show inT (toks a) ≤ 500; omega)
      (fun p hp => by have := puts_bdO _ p hp; omega) (fun p hp => by have := puts_bdO _ p hp; omega) _ _ _ _ rfl rfl rfl rfl (fun d => encPl (puts (toks d)) (kepts (toks d))) ((meetC a b).map encPart) ((meetD a b).map encPart)
      (ansL (sp_rdelta a ha) rfl) (ansL (sp_rdelta b hb) rfl) (fun _ => ansL (sp_rin a hla hoka) rfl) (fun _ => ansL (sp_rin b hlb hokb) rfl) (fun _ _ _ => ansL (sp_rof a hla (ok_bd hoka)) rfl) (fun _ _ _ => ansL (sp_rof b hlb (ok_bd hokb)) rfl)
      b2iF (fun _ => rfl) (fun k => ansW (sp_b2i k) (fun h => .cons (.same _) .nil) rfl)
      (fun d h K k b n rs hd hrs hn hk hK => ⟨h, HEnt.refl h, call_pure (sp_rof d hd.1 hd.2) (.cons (.own k b 3 n _ (by rw [rowsOf_own hn hk, hrs]) (by simp)) .nil) hK⟩)
      (fun d hd r hr z1 z2 z3 => by
        have hl := toks_le d hd.1 hd.2
        have h1 := ansW (sp_pd (puts (toks d)) (kepts (toks d)) (puts_len _) (by have := kepts_le (toks d); omega) (by have := puts_flat (toks d); omega)) (args' := _) (args := [encPl (puts (toks d)) (kepts (toks d))]) (fun h => .cons (arg_pl h _ _) .nil) rfl
        have h2 : plD (puts (toks d)) (kepts (toks d)) = mkD (toks d) := by unfold plD mkD; rw [plRun_eq]
        rcases hr z1 z2 z3 with ⟨h3, rfl⟩ | ⟨h3, rfl⟩
        · rw [h2, show mkD (toks d) = meetC a b by rw [h3, hm]; rfl] at h1; exact h1
        · rw [h2, show mkD (toks d) = meetD a b by rw [h3, hm]; rfl] at h1; exact h1)
      (fun _ _ _ => ansL (sp_rdelta (meetC a b) (by omega)) rfl) (fun _ _ _ => ansL (sp_rdelta (meetD a b) (by omega)) rfl)
      ((meetF a b).1.map encPart) ((meetF a b).2.1.map encPart) (meetF a b).2.2 (fun h => absurd za h) (fun _ h => absurd zb h) (fun _ _ h => absurd hii h)
      (fun _ _ _ h => by rw [meetF_of (hE.trans (if_pos h)) h]; exact ⟨rfl, rfl, rfl⟩)
      (fun _ _ _ h h' => by rw [meetF_of (hE.trans (if_neg (fun g => g h))) h']; exact ⟨rfl, rfl, rfl⟩)
      (fun _ _ _ h h' => by rw [meetF_0 ((hE.trans (if_neg (fun g => g h))).trans h')]; exact ⟨rfl, rfl, rfl⟩) R (retSl2_of hR)
  · have hE : meetE a b = if checkF a ≠ 0 then checkF a else if checkF b ≠ 0 then checkF b else 4 := by
      unfold meetE
      split
      · rfl
      · split
        · rfl
        · rw [if_pos (fun h => hok ⟨Decidable.of_not_not (by assumption), Decidable.of_not_not (by assumption), h⟩)]
    exact spec_frz dOk ok_rmeet fun R hR => vc_rmeet std rfl _ _ (a.map encPart) (b.map encPart) (checkF a) (checkF b) (inF a) (inF b) 0 0 [[]] [[]] [] [] rfl rfl rfl (by simp) (by simp) (by simp) _ _ _ _ rfl rfl rfl rfl (fun d => encPl (puts (toks d)) (kepts (toks d))) [] []
      (ansL (sp_rdelta a ha) rfl) (ansL (sp_rdelta b hb) rfl) (fun z => ansL (sp_rin a (checkF_all z).1 (checkF_all z).2.1) rfl) (fun z => ansL (sp_rin b (checkF_all z).1 (checkF_all z).2.1) rfl) (fun z1 z2 z3 => absurd ⟨z1, z2, z3⟩ hok) (fun z1 z2 z3 => absurd ⟨z1, z2, z3⟩ hok)
      b2iF (fun _ => rfl) (fun k => ansW (sp_b2i k) (fun h => .cons (.same _) .nil) rfl)
      (fun d h K k b n rs hd hrs hn hk hK => ⟨h, HEnt.refl h, call_pure (sp_rof d hd.1 hd.2) (.cons (.own k b 3 n _ (by rw [rowsOf_own hn hk, hrs]) (by simp)) .nil) hK⟩)
      (fun d hd r hr z1 z2 z3 => absurd ⟨z1, z2, z3⟩ hok) (fun z1 z2 z3 => absurd ⟨z1, z2, z3⟩ hok) (fun z1 z2 z3 => absurd ⟨z1, z2, z3⟩ hok)
      ((meetF a b).1.map encPart) ((meetF a b).2.1.map encPart) (meetF a b).2.2
      (fun h => by rw [meetF_of (hE.trans (if_pos h)) h]; exact ⟨rfl, rfl, rfl⟩) (fun z h => by rw [meetF_of (hE.trans ((if_neg (fun g => g z)).trans (if_pos h))) h]; exact ⟨rfl, rfl, rfl⟩)
      (fun z1 z2 _ => by rw [meetF_of (hE.trans ((if_neg (fun g => g z1)).trans (if_neg (fun g => g z2)))) (by decide)]; exact ⟨rfl, rfl, rfl⟩)
      (fun z1 z2 z3 _ => absurd ⟨z1, z2, z3⟩ hok) (fun z1 z2 z3 _ _ => absurd ⟨z1, z2, z3⟩ hok) (fun z1 z2 z3 _ _ => absurd ⟨z1, z2, z3⟩ hok) R (retSl2_of hR)

end Go.Proofs.Ytcdldpjmdelebaa.AM
