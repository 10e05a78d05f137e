/-
  Texts of the plain machine, put together: what the law TopArchive reaches.
-/
import Derived.Test.YtobngncjflogcaaTopArchive6
import Derived.Test.YtobngncjflogcaaTopArchive4
import Derived.Test.YtobngncjflogcaaTopArchive5
import Derived.WalkKit
import Derived.Laws.BitsAllLaws
import Derived.Test.YtobngncjflogcaaRows
import Derived.WalkSpells
import Derived.WalkLawsBesides
import Derived.Lib.Hide
import Derived.Laws.ResultCell
import Derived.Deep.LoopGhost
import Derived.Deep.WholeRow
set_option linter.unusedVariables false
set_option linter.unusedSimpArgs false
namespace Go.Proofs.Ytobngncjflogcaa
open Go.RowKit

set_option maxRecDepth 100000 in
set_option maxHeartbeats 1000000 in
theorem get_any (s : ByteArray) (w : World) (hs : s.size ≤ maxLen) :
    Calls Try.prog 118 #[.string s] w fun e w' => e = .returned (.tuple #[.int .i64 (getS s.data.toList).1, .int .i64 (getS s.data.toList).2.1, .int .i64 (getS s.data.toList).2.2]) ∧ w = w' := by
  unfold maxLen at hs
  go_enter Try.func118, Try.ntmps118
  go_wp2
  go_loop [5, 10] (fun n i => ∃ k : Nat, k ≤ s.size ∧ k ≤ 4 ∧ i = .int .i64 k ∧ n = .int .i64 (val (s.data.toList.take k)) ∧ HiTo s k) (fun _ i => s.size - (intOf i).toNat)
  case atStart => exact ⟨0, Nat.zero_le _, by omega, rfl, rfl, fun j h hj => by omega⟩
  case round =>
    obtain ⟨k, hk, hk4, rfl, rfl, HH⟩ := hrel
    by_cases hlt : k < s.size
    · have hbyte : s[k].toNat < 256 := s[k].toNat_lt
      have h127 := i64_and127 (s[k].toNat : Int)
      have hN := get_word s k hlt hk4
      have hvl : val (s.data.toList.take (k + 1)) < 34359738368 := by
        have h1 := val_lt (s.data.toList.take (k + 1))
        have h2 : (s.data.toList.take (k + 1)).length ≤ 5 := by simp; omega
        have h3 := Nat.pow_le_pow_right (show 0 < 128 by decide) h2
        omega
      by_cases hb : s[k].toNat < 128
      · by_cases hz : s[k].toNat = 0 ∧ k ≠ 0
        · have HF := Lib.hid (getS_zero s k hlt hk4 HH hz.1 hz.2)
          have t1 : ((s[k].toNat : Int) == 0) = true := by rw [beq_iff_eq]; omega
          have t2 : (0 : Int) < k := by omega
          clear hz
          generalize val (s.data.toList.take (k + 1)) = N at hN hvl
          go_wp2
          go_ret3
          exact ⟨by rw [HF.out]; rfl, rfl⟩
        · by_cases hv : val (s.data.toList.take (k + 1)) ≤ 2147483647
          · have HF := Lib.hid (getS_ok s k hlt hk4 HH hb (by omega) hv)
            generalize val (s.data.toList.take (k + 1)) = N at hN hvl HF hv
            by_cases h0 : s[k].toNat = 0
            · have hk0 : k = 0 := by omega
              subst hk0
              have HF2 : Hid (getS s.data.toList = ((N : Int), 1, 0)) := HF.out
              have t1 : ((s[0].toNat : Int) == 0) = true := by rw [beq_iff_eq]; omega
              have hN0 : bits BinOp.or IntKind.i64 (val [] : Int) ((s[0].toNat : Int) % 128) = (N : Int) := by
                rw [← hN]
                have e : ((s[0].toNat : Int) % (128 : Int) * (2 : Int) ^ (7 * 0)) = (s[0].toNat : Int) % (128 : Int) := by simp
                rw [e, IntWalk.wrap64_in _ ⟨by omega, by omega⟩]
                rfl
              clear hz h0 HF hN
              go_wp2
              go_ret3
              exact ⟨by rw [HF2.out]; rfl, rfl⟩
            · have t1 : ((s[k].toNat : Int) == 0) = false := by rw [beq_eq_false_iff_ne]; omega
              clear hz h0
              go_wp2
              go_ret3
              exact ⟨by rw [HF.out]; rfl, rfl⟩
          · have HF := Lib.hid (getS_big s k hlt hk4 HH hb (by omega))
            by_cases h0 : s[k].toNat = 0
            · have hk0 : k = 0 := by omega
              have h1 := val_lt (s.data.toList.take (k + 1))
              have h2 : (s.data.toList.take (k + 1)).length ≤ 1 := by simp; omega
              have h3 := Nat.pow_le_pow_right (show 0 < 128 by decide) h2
              omega
            · have t1 : ((s[k].toNat : Int) == 0) = false := by rw [beq_eq_false_iff_ne]; omega
              generalize val (s.data.toList.take (k + 1)) = N at hN hvl HF hv
              clear hz h0
              go_wp2
              go_ret3
              exact ⟨by rw [HF.out]; rfl, rfl⟩
      · have HS := Lib.hid (HH.snoc hlt (by omega))
        by_cases h4 : k = 4
        · have HF := Lib.hid (getS_five s (by omega) (by have := HS.out; rwa [h4] at this))
          have t1 : ((k : Int) == 4) = true := by rw [beq_iff_eq]; omega
          clear h4
          generalize val (s.data.toList.take (k + 1)) = N at hN hvl
          go_wp2
          go_ret3
          exact ⟨by rw [HF.out]; rfl, rfl⟩
        · have t1 : ((k : Int) == 4) = false := by rw [beq_eq_false_iff_ne]; omega
          have hk3 : k ≤ 3 := by omega
          clear h4
          generalize hV : val (s.data.toList.take (k + 1)) = N at hN hvl
          have HV := Lib.hid hV
          clear hV
          go_wp2
          go_round
          case rel => exact ⟨k + 1, by omega, by omega, by go_num, congrArg _ (congrArg _ HV.out.symm), HS.out⟩
          case measure => simp [intOf]; omega
    · have HF := Lib.hid (getS_short s (by omega) (fun j hj _ => HH j hj (by omega)))
      go_wp2
      go_ret3
      exact ⟨by rw [HF.out]; rfl, rfl⟩
end Go.Proofs.Ytobngncjflogcaa

set_option linter.unusedVariables false
set_option linter.unusedSimpArgs false
namespace Go.Proofs.Ytobngncjflogcaa.AM
open Go Go.RowKit
theorem us_one {f : Value → Prop} {F B : Nat → Prop} {w : World} {us : Array Value} {v : V} {u0 : Value} (hl : us.size = [v].length) (hr : ∀ (i : Nat) (x : V) (u : Value), [v][i]? = some x → us[i]? = some u → Rel F B w x u) (h : ∀ u, Rel F B w v u → u = u0) : us = #[u0] := by
  match us, hl with
  | ⟨[u]⟩, _ =>
    have := h u (hr 0 v u rfl rfl)
    rw [this]
theorem rel_int {F B : Nat → Prop} {w : World} {k : IntKind} {n : Int} {u : Value} (h : Rel F B w (.int k n) u) : u = .int k n := by cases h; rfl
theorem rel_str {F B : Nat → Prop} {w : World} {l : List UInt8} {u : Value} (h : Rel F B w (.str l) u) : u = .string ⟨l.toArray⟩ := by cases h; rfl
def putF (n : Int) : List UInt8 × Int := if n < 0 ∨ 2147483647 < n then ([], 1) else (numL n.toNat, 0)
theorem below_rfl (w : World) : Below w.heap.size w w := by (repeat (first | (with_reducible exact Below.refl _ _) | (with_reducible assumption) | (with_reducible refine Below.drew ?_) | (with_reducible refine below_drewN ?_ _) | ((with_reducible refine Below.alloc ?_ ?_ _); rotate_left; (focus (first | omega | (simp; done) | (simp; omega)))) | ((with_reducible refine Below.setCell ?_ ?_ _); rotate_left; (focus (first | omega | (simp; done) | (simp; omega)))) | ((with_reducible refine below_ob ?_ ?_ _ _); rotate_left; (focus (first | omega | (simp; done) | (simp; omega))))))
theorem sp_nput (n : Int) : Spec Try.prog 114 [.int .i64 n] Hp.emp (Is (.tup [.str (putF n).1, .int .i64 (putF n).2])) :=
  spec_of_calls (us0 := #[.int .i64 n]) ⟨Try.f114, Try.func114, by decide +kernel, Option.isSome_iff_exists.1 (by decide +kernel)⟩
    (fun F B w us hl hr => us_one (f := fun _ => True) hl hr fun u h => rel_int h)
    (u0 := .tuple #[.string ⟨(putF n).1.toArray⟩, .int .i64 (putF n).2])
    (fun F B w => .tup _ _ rfl fun i v u hv hu => by
      match i with
      | 0 => simp at hv hu; subst hv hu; exact .str _
      | 1 => simp at hv hu; subst hv hu; exact .int _ _
      | i + 2 => simp at hv)
    (fun w => by
      unfold putF
      split
      · rename_i h
        refine (put_bad n w h).mono ?_
        rintro e w' ⟨rfl, rfl⟩
        exact ⟨rfl, below_rfl _⟩
      · rename_i h
        exact put_ok n w (by omega) (by omega))
theorem tri_rel {F B : Nat → Prop} {w : World} (a b c : Int) : Rel F B w (.tup [.int .i64 a, .int .i64 b, .int .i64 c]) (.tuple #[.int .i64 a, .int .i64 b, .int .i64 c]) := .tup _ _ rfl fun i v u hv hu => by
  match i with
  | 0 => simp at hv hu; subst hv hu; exact .int _ _
  | 1 => simp at hv hu; subst hv hu; exact .int _ _
  | 2 => simp at hv hu; subst hv hu; exact .int _ _
  | i + 3 => simp at hv
theorem sp_nget (s : List UInt8) (hs : s.length ≤ maxLen) : Spec Try.prog 118 [.str s] Hp.emp (Is (.tup [.int .i64 (getS s).1, .int .i64 (getS s).2.1, .int .i64 (getS s).2.2])) :=
  spec_of_calls (us0 := #[.string ⟨s.toArray⟩]) ⟨Try.f118, Try.func118, by decide +kernel, Option.isSome_iff_exists.1 (by decide +kernel)⟩
    (fun F B w us hl hr => us_one (f := fun _ => True) hl hr fun u h => rel_str h) (fun F B w => tri_rel _ _ _)
    (fun w => by
      refine (get_any ⟨s.toArray⟩ w (by simpa [ByteArray.size] using hs)).mono ?_
      rintro e w' ⟨rfl, rfl⟩
      exact ⟨rfl, below_rfl _⟩)
theorem numL_len (n : Nat) : (numL n).length ≤ 5 := numF_len 5 n
/-- what was read was written so, and no other way -/
theorem getS_num {s : List UInt8} (h : (getS s).2.2 = 0) : ∃ k : Nat, (getS s).2.1 = k ∧ 0 < k ∧ k ≤ s.length ∧ k ≤ 5 ∧ 0 ≤ (getS s).1 ∧ (getS s).1 ≤ 2147483647 ∧ numL (getS s).1.toNat = s.take k := by
  unfold getS at h ⊢
  by_cases h1 : 5 ≤ lead s
  · rw [if_pos h1] at h; exact absurd h (by decide)
  rw [if_neg h1] at h ⊢
  by_cases h2 : lead s = s.length
  · rw [if_pos h2] at h; exact absurd h (by decide)
  rw [if_neg h2] at h ⊢
  by_cases h3 : 2147483647 < val (s.take (lead s + 1)) ∨ (0 < lead s ∧ s[lead s]? = some 0)
  · rw [if_pos h3] at h; exact absurd h (by decide)
  rw [if_neg h3]
  have hle := lead_le s
  have hlt : lead s < s.length := by omega
  refine ⟨lead s + 1, by simp, by omega, by omega, by omega, Int.natCast_nonneg _, by simp only []; omega, ?_⟩
  have hw := word_take s hlt
  have hl : (s.take (lead s + 1)).length = lead s + 1 := by rw [List.length_take]; omega
  have hg : (s.take (lead s + 1)).getLast? = s[lead s]? := by
    rw [List.getLast?_eq_getElem?, hl, List.getElem?_take, if_pos (by omega)]; rfl
  have := (num_of_word 5 hw (by omega)).2 (by
    rw [hl, hg]
    by_cases h0 : lead s = 0
    · left; omega
    · right; intro g; exact h3 (.inr ⟨by omega, g⟩))
  simpa [numL] using this
end Go.Proofs.Ytobngncjflogcaa.AM

set_option linter.unusedVariables false
set_option linter.unusedSimpArgs false
namespace Go.Proofs.Ytobngncjflogcaa.AM
open Go
set_option maxRecDepth 100000
set_option maxHeartbeats 2000000
def pcode (p : Part) : List UInt8 := numL (4 * (p.n + p.text.length) + p.kind).toNat ++ p.text
def codeF (d : List Part) : List UInt8 := numL d.length ++ (d.map pcode).flatten
def pcR : Nat → List UInt8 → List Part → Option (List UInt8 × List Part)
  | 0, s, out => some (s, out)
  | n + 1, s, out => if (getS s).2.2 ≠ 0 then none
    else if (getS s).1 % 4 = 2 then (if ((s.drop (getS s).2.1.toNat).length : Int) < (getS s).1 / 4 then none else pcR n ((s.drop (getS s).2.1.toNat).drop ((getS s).1 / 4).toNat) (out ++ [⟨2, 0, (s.drop (getS s).2.1.toNat).take ((getS s).1 / 4).toNat⟩]))
    else pcR n (s.drop (getS s).2.1.toNat) (out ++ [⟨(getS s).1 % 4, (getS s).1 / 4, []⟩])
def parseF (s : List UInt8) : Option (List UInt8 × List Part) := if (getS s).2.2 ≠ 0 then none else pcR (getS s).1.toNat (s.drop (getS s).2.1.toNat) []
def readF (s : List UInt8) : List Part × Int := match parseF s with
  | none => ([], 3)
  | some (r, d) => if r = [] ∧ checkF d = 0 then (d, 0) else ([], 3)
def ac_cput : AC := .seq (.region false [
    ⟨some 2, none, .mov (.c (.string ⟨#[]⟩))⟩])
  (.seq (.region false [
    ⟨some 6, none, .mov (.t 0)⟩,
    ⟨some 7, none, .call 114 [(.t 6)]⟩,
    ⟨some 5, none, .mov (.t 7)⟩,
    ⟨some 8, none, .ext 0 (.t 5)⟩,
    ⟨some 9, none, .ext 1 (.t 5)⟩,
    ⟨some 3, none, .mov (.t 8)⟩,
    ⟨some 4, none, .mov (.t 9)⟩])
  (.seq (.region false [
    ⟨some 10, none, .mov (.t 3)⟩,
    ⟨some 2, none, .mov (.t 10)⟩])
  (.ret)))
theorem ok_cput : FnOk Try.prog 117 Try.f117 ac_cput [.t 2] 1 drawD := ⟨Try.func117, by decide +kernel, by kernel_rfl, by kernel_rfl, by decide +kernel⟩
theorem vc_cput (P : Prim) (hP : P = std) (T T1 : CallT) (n e : Int) (s : List UInt8) (h1 : Ans T 114 [.int .i64 n] (.tup [.str s, .int .i64 e]))
    (R : S → Prop) (hR : ∀ s0 s', Ent s0 s' → Ret [.t 2] [.str s] s' → R s0) : awp P T T1 ac_cput (S0 [.int .i64 n] Hp.emp) R (fun _ _ => False) R := by
  cbv
  refine h1 _ _ ?_
  cbv
  exact hR _ _ (Ent.refl _) rfl
theorem sp_cput (n : Int) : Spec Try.prog 117 [.int .i64 n] Hp.emp (Is (.str (putF n).1)) :=
  spec_pure dOk ok_cput [.str (putF n).1] (.str _) fun R hR => vc_cput std rfl _ _ n _ _ (ansW (sp_nput n) (fun _ => args_plain rfl) rfl) R hR
def ac_cwrite : AC := .seq (.region false [
    ⟨some 2, none, .mov (.c (.string ⟨#[]⟩))⟩,
    ⟨some 3, none, .mov (.c (.int .i64 0))⟩])
  (.seq (.seq (.region false [
    ⟨some 8, none, .mov (.t 0)⟩,
    ⟨some 9, none, .call 89 [(.t 8)]⟩,
    ⟨some 4, none, .mov (.t 9)⟩])
  (.seq (.region false [
    ⟨some 10, none, .mov (.t 4)⟩,
    ⟨some 11, none, .bin .neq (.t 10) (.c (.int .i64 0))⟩])
  (.cond (.t 11)
    (.seq (.region false [
      ⟨some 12, none, .mov (.t 4)⟩,
      ⟨some 2, none, .mov (.c (.string ⟨#[]⟩))⟩,
      ⟨some 3, none, .mov (.t 12)⟩])
    (.ret))
    (.skip))))
  (.seq (.region false [
    ⟨some 13, none, .mov (.t 0)⟩,
    ⟨some 14, none, .len false (.t 13)⟩,
    ⟨some 15, none, .call 117 [(.t 14)]⟩,
    ⟨some 5, none, .mov (.t 15)⟩])
  (.seq (.seq (.region false [
    ⟨some 16, none, .mov (.t 0)⟩,
    ⟨some 17, none, .len false (.t 16)⟩,
    ⟨some 18, none, .mov (.c (.int .i64 0))⟩])
  (.block 0 (.loop (.seq (.region false [
      ⟨some 19, none, .bin .lss (.t 18) (.t 17)⟩])
    (.seq (.cond (.t 19)
      (.skip)
      (.exit 0))
    (.seq (.block 1 (.seq (.region false [
      ⟨some 20, none, .iaddr 3 (.t 16) (.t 18)⟩,
      ⟨some 21, none, .loadn 3 (.t 20)⟩,
      ⟨some 7, none, .alloc 108 [(.int .i64 0), (.int .i64 0), (.string ⟨#[]⟩)]⟩,
      ⟨none, none, .store 3 (.t 7) (.t 21)⟩])
    (.seq (.region false [
      ⟨some 22, none, .faddr 0 (.t 7)⟩,
      ⟨some 23, none, .load1 (.t 22)⟩,
      ⟨some 24, none, .bin .eql (.t 23) (.c (.int .i64 2))⟩])
    (.cond (.t 24)
      (.region true [
        ⟨some 25, none, .mov (.t 5)⟩,
        ⟨some 26, none, .faddr 2 (.t 7)⟩,
        ⟨some 27, none, .load1 (.t 26)⟩,
        ⟨some 28, none, .len true (.t 27)⟩,
        ⟨some 29, none, .bin .mul (.c (.int .i64 4)) (.t 28)⟩,
        ⟨some 30, none, .bin .add (.t 29) (.c (.int .i64 2))⟩,
        ⟨some 31, none, .call 117 [(.t 30)]⟩,
        ⟨some 32, none, .faddr 2 (.t 7)⟩,
        ⟨some 33, none, .load1 (.t 32)⟩,
        ⟨some 34, none, .bin .add (.t 31) (.t 33)⟩,
        ⟨some 35, none, .bin .add (.t 25) (.t 34)⟩,
        ⟨some 5, none, .mov (.t 35)⟩])
      (.region false [
        ⟨some 36, none, .mov (.t 5)⟩,
        ⟨some 37, none, .faddr 1 (.t 7)⟩,
        ⟨some 38, none, .load1 (.t 37)⟩,
        ⟨some 39, none, .bin .mul (.c (.int .i64 4)) (.t 38)⟩,
        ⟨some 40, none, .faddr 0 (.t 7)⟩,
        ⟨some 41, none, .load1 (.t 40)⟩,
        ⟨some 42, none, .bin .add (.t 39) (.t 41)⟩,
        ⟨some 43, none, .call 117 [(.t 42)]⟩,
        ⟨some 44, none, .bin .add (.t 36) (.t 43)⟩,
        ⟨some 5, none, .mov (.t 44)⟩])))))
    (.region false [
      ⟨some 45, none, .bin .add (.t 18) (.c (.int .i64 1))⟩,
      ⟨some 18, none, .mov (.t 45)⟩])))))))
  (.seq (.region false [
    ⟨some 46, none, .mov (.t 5)⟩,
    ⟨some 2, none, .mov (.t 46)⟩,
    ⟨some 3, none, .mov (.c (.int .i64 0))⟩])
  (.ret)))))
theorem ok_cwrite : FnOk Try.prog 96 Try.f96 ac_cwrite [.t 2, .t 3] 1 drawD := ⟨Try.func96, by decide +kernel, by kernel_rfl, by kernel_rfl, by decide +kernel⟩
structure YCw (d : List Part) (a : List UInt8) where
  k : Int
  pre : List Part
  rest : List Part
  o : List UInt8
  hd : d = pre ++ rest
  hk : k = (pre.length : Int)
  ho : o = a ++ (pre.map pcode).flatten
  hol : o.length ≤ 5 + 505 * pre.length
theorem vc_cwrite (P : Prim) (hP : P = std) (T T1 : CallT) (tf : Bool) (d : List Part) (rows : List (List V)) (hrows : rows = d.map encPart) (c : Int) (pF : Int → List UInt8)
    (h1 : Ans T 89 [.sl tf 3 rows] (.int .i64 c)) (hc : c = 0 → d.length ≤ 1600 ∧ ∀ p ∈ d, okP p)
    (h2 : ∀ n, 0 ≤ n → n ≤ 100000 → Ans T 117 [.int .i64 n] (.str (pF n))) (h3 : ∀ n, 0 ≤ n → n ≤ 100000 → Ans T1 117 [.int .i64 n] (.str (pF n)))
    (hpF : ∀ n, 0 ≤ n → n ≤ 100000 → pF n = numL n.toNat) (r : List UInt8) (re : Int) (g1 : c ≠ 0 → [] = r ∧ c = re) (g2 : c = 0 → codeF d = r ∧ 0 = re)
    (R : S → Prop) (hR : ∀ s0 s' x y, x = r ∧ y = re → Ent s0 s' → Ret [.t 2, .t 3] [.str x, .int .i64 y] s' → R s0) : awp P T T1 ac_cwrite (S0 [.sl tf 3 rows] Hp.emp) R (fun _ _ => False) R := by
  have hl1 : P.rlen rows = (d.length : Int) := by rw [rlen_eq hP, hrows]; simp
  cbv
  refine h1 _ _ ?_
  clear h1
  cbv
  refine br_cases (fun h => ?_) (fun h => ?_)
  · have hx := g1 (ne_t hP h)
    cbv
    exact hR _ _ _ _ hx (Ent.refl _) rfl
  have hz := ne_f hP h
  obtain ⟨hd16, hdok⟩ := hc hz
  obtain ⟨hres, hre⟩ := g2 hz
  have f1 := h2 (P.rlen rows) (by rw [hl1]; exact Int.natCast_nonneg _) (by rw [hl1]; ((try simp only [nc] at *); omega))
  have f1e : pF (P.rlen rows) = numL d.length := by rw [hpF _ (by rw [hl1]; exact Int.natCast_nonneg _) (by rw [hl1]; ((try simp only [nc] at *); omega)), hl1]; rfl
  clear g1 g2 h hc
  cbv
  refine f1 _ _ ?_
  cbv
  refine ⟨YCw d (numL d.length), fun y => [(5, .str y.o), (16, .sl tf 3 rows), (17, .int .i64 (P.rlen rows)), (18, .int .i64 y.k)], fun y => [], fun y => y.rest.length,
    ⟨_, Ent.refl _, ⟨0, [], d, pF (P.rlen rows), rfl, rfl, by rw [f1e]; simp, by rw [f1e]; have := numL_len d.length; simp; omega⟩, ⟨rfl, rfl, rfl, rfl, trivial⟩, trivial⟩, ?_⟩
  rintro ⟨k, pre, rest, o, hd, hk, ho, hol⟩
  have hso : P.slen o = (o.length : Int) := by subst hP; rfl
  replace hk : k = (pre.length : Int) := hk
  have hlp : pre.length + rest.length = d.length := by rw [hd]; simp
  cbv
  refine br_cases (fun h => ?_) (fun h => ?_)
  · have h6 : k < P.rlen rows := lt_t hP h
    rw [hl1] at h6
    rcases rest with _ | ⟨⟨kd, pn, tx⟩, rest⟩
    · exfalso; simp at hlp; ((try simp only [nc] at *); omega)
    have hrow : P.row rows (P.nat k) [.int .i64 kd, .int .i64 pn, .str tx] := row_of hP hk (by rw [hrows, List.getElem?_map, hd]; simp [encPart])
    have hp := okP_bd (hdok ⟨kd, pn, tx⟩ (by rw [hd]; simp))
    obtain ⟨hp1, hp2, hp3, hp4⟩ := hp
    simp only [] at hp1 hp2 hp3 hp4
    have k1 : P.leP 0 k := le0 hP (by ((try simp only [nc] at *); omega))
    have k2 : P.i64 (P.add k 1) := by rw [add_eq hP]; exact i64I hP (by ((try simp only [nc] at *); omega))
    have k3 : P.add k 1 = (((pre ++ [(⟨kd, pn, tx⟩ : Part)]).length : Nat) : Int) := by rw [add_eq hP, hk]; simp
    have hst : P.slen tx = (tx.length : Int) := by subst hP; rfl
    cbv
    refine ⟨k1, _, hrow, ?_⟩
    cbv
    intro β
    cbv
    by_cases hk2 : kd = 2
    · have e1 : P.add (P.mul 4 (P.slen tx)) 2 = 4 * (tx.length : Int) + 2 := by rw [add_eq hP, hst]; subst hP; rfl
      have i1 : P.i64 (P.mul 4 (P.slen tx)) := by rw [hst]; subst hP; show I64 (4 * (tx.length : Int)); unfold I64; omega
      have i2 : P.i64 (P.add (P.mul 4 (P.slen tx)) 2) := by rw [e1]; exact i64I hP (by omega)
      have f2 := h3 (P.add (P.mul 4 (P.slen tx)) 2) (by rw [e1]; omega) (by rw [e1]; omega)
      have f2e := hpF (P.add (P.mul 4 (P.slen tx)) 2) (by rw [e1]; omega) (by rw [e1]; omega)
      have hn0 : pn = 0 := by omega
      have hpl : (pF (P.add (P.mul 4 (P.slen tx)) 2)).length ≤ 5 := by rw [f2e]; exact numL_len _
      have hsp : ∀ x : List UInt8, P.slen x = (x.length : Int) := by intro x; subst hP; rfl
      have hap : ∀ x y : List UInt8, (P.sapp x y).length = x.length + y.length := by intro x y; subst hP; exact List.length_append
      have j1 : P.i64 (P.add (P.slen (pF (P.add (P.mul 4 (P.slen tx)) 2))) (P.slen tx)) := by have hq := hpl; generalize pF (P.add (P.mul 4 (P.slen tx)) 2) = z at hq ⊢; rw [add_eq hP, hsp z, hsp tx]; exact i64I hP (by ((try simp only [nc] at *); omega))
      have j2 : P.i64 (P.add (P.slen o) (P.slen (P.sapp (pF (P.add (P.mul 4 (P.slen tx)) 2)) tx))) := by have hq := hpl; generalize pF (P.add (P.mul 4 (P.slen tx)) 2) = z at hq ⊢; rw [add_eq hP, hsp o, hsp, hap]; exact i64I hP (by ((try simp only [nc] at *); omega))
      have j3 : (P.sapp o (P.sapp (pF (P.add (P.mul 4 (P.slen tx)) 2)) tx)).length ≤ 5 + 505 * (pre ++ [(⟨kd, pn, tx⟩ : Part)]).length := by rw [hap, hap]; simp; omega
      have e2 : P.sapp o (P.sapp (pF (P.add (P.mul 4 (P.slen tx)) 2)) tx) = numL d.length ++ ((pre ++ [(⟨kd, pn, tx⟩ : Part)]).map pcode).flatten := by
        rw [f2e, e1, ho]
        subst hP
        show (_ ++ _) ++ (_ ++ tx) = _
        simp [pcode, hn0, hk2]
      refine br_tt (eq_T hP hk2) ?_
      cbv
      repeat' (first
        | (refine And.intro (by assumption) ?_; try cbv)
        | (intro β; try cbv))
      refine f2 _ _ ?_
      cbv
      repeat' (first
        | (refine And.intro (by assumption) ?_; try cbv)
        | (intro β; try cbv))
      exact ⟨_, Ent.refl _, ⟨_, pre ++ [⟨kd, pn, tx⟩], rest, _, by simp [hd], k3, e2, j3⟩, ⟨rfl, rfl, rfl, rfl, trivial⟩, trivial, by simp⟩
    · have hte : tx = [] := by rcases hp4 with g | g; exact absurd g.1 hk2; exact g.2.2
      have e1 : P.add (P.mul 4 pn) kd = 4 * pn + kd := by rw [add_eq hP]; subst hP; rfl
      have i1 : P.i64 (P.mul 4 pn) := by subst hP; show I64 (4 * pn); unfold I64; omega
      have i2 : P.i64 (P.add (P.mul 4 pn) kd) := by rw [e1]; exact i64I hP (by omega)
      have f2 := h2 (P.add (P.mul 4 pn) kd) (by rw [e1]; omega) (by rw [e1]; omega)
      have f2e := hpF (P.add (P.mul 4 pn) kd) (by rw [e1]; omega) (by rw [e1]; omega)
      have hpl : (pF (P.add (P.mul 4 pn) kd)).length ≤ 5 := by rw [f2e]; exact numL_len _
      have hsp : ∀ x : List UInt8, P.slen x = (x.length : Int) := by intro x; subst hP; rfl
      have hap : ∀ x y : List UInt8, (P.sapp x y).length = x.length + y.length := by intro x y; subst hP; exact List.length_append
      have j2 : P.i64 (P.add (P.slen o) (P.slen (pF (P.add (P.mul 4 pn) kd)))) := by rw [add_eq hP, hsp, hsp]; exact i64I hP (by ((try simp only [nc] at *); omega))
      have j3 : (P.sapp o (pF (P.add (P.mul 4 pn) kd))).length ≤ 5 + 505 * (pre ++ [(⟨kd, pn, tx⟩ : Part)]).length := by rw [hap]; simp; omega
      have e2 : P.sapp o (pF (P.add (P.mul 4 pn) kd)) = numL d.length ++ ((pre ++ [(⟨kd, pn, tx⟩ : Part)]).map pcode).flatten := by
        rw [f2e, e1, ho]
        subst hP
        show (_ ++ _) ++ _ = _
        simp [pcode, hte]
      refine br_ff (eq_F hP hk2) ?_
      cbv
      repeat' (first
        | (refine And.intro (by assumption) ?_; try cbv)
        | (intro β; try cbv))
      refine f2 _ _ ?_
      cbv
      repeat' (first
        | (refine And.intro (by assumption) ?_; try cbv)
        | (intro β; try cbv))
      exact ⟨_, Ent.refl _, ⟨_, pre ++ [⟨kd, pn, tx⟩], rest, _, by simp [hd], k3, e2, j3⟩, ⟨rfl, rfl, rfl, rfl, trivial⟩, trivial, by simp⟩
  · have h6 : ¬ k < P.rlen rows := lt_f hP h
    rw [hl1] at h6
    rcases rest with _ | ⟨y, rest⟩
    rotate_left
    · exfalso; simp at hlp; ((try simp only [nc] at *); omega)
    have : o = r := by rw [ho, ← hres, hd]; simp [codeF, hlp]
    cbv
    exact hR _ _ _ _ ⟨this, hre⟩ (Ent.refl _) rfl
theorem sp_cwriteT (d : List Part) (hd : d.length ≤ maxLen) : Spec Try.prog 96 [.sl true 3 (d.map encPart)] Hp.emp (Is (.tup [.str (if checkF d = 0 then codeF d else []), .int .i64 (checkF d)])) :=
  spec_pure dOk ok_cwrite [.str (if checkF d = 0 then codeF d else []), .int .i64 (checkF d)] (.tup _ (by simp; exact ⟨.str _, .int _ _⟩)) fun R hR => vc_cwrite std rfl _ _ true d _ rfl (checkF d) (fun n => (putF n).1)
    (ansW (sp_check d hd) (fun _ => .cons (.same _) .nil) rfl) (fun h => ⟨(checkF_all h).1, (checkF_all h).2.1⟩) (fun n _ _ => ansW (sp_cput n) (fun _ => args_plain rfl) rfl) (fun n _ _ => ansP (sp_cput n) (fun _ => args_plain rfl) rfl)
    (fun n h0 h1 => by unfold putF; rw [if_neg (by omega)]) (if checkF d = 0 then codeF d else []) (checkF d) (fun h => by rw [if_neg h]; exact ⟨rfl, rfl⟩) (fun h => by rw [if_pos h]; exact ⟨rfl, h.symm⟩) R
    fun s0 s' x y h he hr => by obtain ⟨rfl, rfl⟩ := h; exact hR s0 s' he hr
def obR (b : Nat) (s : List UInt8) (bad : Bool) : Ob := ⟨some b, 192, 2, [[.str s, .bool bad]]⟩
theorem obR_fz (b : Nat) (s : List UInt8) (bad : Bool) : (obR b s bad).Fz := by
  intro r hr v hv
  simp only [obR, List.mem_singleton] at hr
  subst hr
  simp only [List.mem_cons, List.not_mem_nil, or_false] at hv
  rcases hv with rfl | rfl
  · exact .str _
  · exact .bool _
def rnumF (s : List UInt8) (bad : Bool) : List UInt8 × Bool × Int := if (getS s).2.2 ≠ 0 then (s, true, 0) else (s.drop (getS s).2.1.toNat, bad, (getS s).1)
def rtextF (s : List UInt8) (bad : Bool) (n : Int) : List UInt8 × Bool × List UInt8 := if (s.length : Int) < n then (s, true, []) else (s.drop n.toNat, bad, s.take n.toNat)
def ac_rdn : AC := .seq (.region false [
    ⟨some 2, none, .mov (.c (.int .i64 0))⟩])
  (.seq (.region false [
    ⟨some 7, none, .mov (.t 0)⟩,
    ⟨some 8, none, .nilchk (.t 7)⟩,
    ⟨some 9, none, .faddr 0 (.t 8)⟩,
    ⟨some 10, none, .load1 (.t 9)⟩,
    ⟨some 11, none, .call 118 [(.t 10)]⟩,
    ⟨some 6, none, .mov (.t 11)⟩,
    ⟨some 12, none, .ext 0 (.t 6)⟩,
    ⟨some 13, none, .ext 1 (.t 6)⟩,
    ⟨some 14, none, .ext 2 (.t 6)⟩,
    ⟨some 3, none, .mov (.t 12)⟩,
    ⟨some 4, none, .mov (.t 13)⟩,
    ⟨some 5, none, .mov (.t 14)⟩])
  (.seq (.seq (.region false [
    ⟨some 15, none, .mov (.t 5)⟩,
    ⟨some 16, none, .bin .neq (.t 15) (.c (.int .i64 0))⟩])
  (.cond (.t 16)
    (.seq (.region false [
      ⟨some 17, none, .mov (.t 0)⟩,
      ⟨some 18, none, .nilchk (.t 17)⟩,
      ⟨some 19, none, .faddr 1 (.t 18)⟩,
      ⟨none, none, .store 1 (.t 19) (.c (.bool true))⟩])
    (.seq (.region false [
      ⟨some 2, none, .mov (.c (.int .i64 0))⟩])
    (.ret)))
    (.skip)))
  (.seq (.region false [
    ⟨some 20, none, .mov (.t 0)⟩,
    ⟨some 21, none, .mov (.t 0)⟩,
    ⟨some 22, none, .nilchk (.t 21)⟩,
    ⟨some 23, none, .faddr 0 (.t 22)⟩,
    ⟨some 24, none, .load1 (.t 23)⟩,
    ⟨some 25, none, .mov (.t 4)⟩,
    ⟨some 26, none, .slstr (.t 24) (some (.t 25)) none⟩,
    ⟨some 27, none, .nilchk (.t 20)⟩,
    ⟨some 28, none, .faddr 0 (.t 27)⟩,
    ⟨none, none, .store 1 (.t 28) (.t 26)⟩])
  (.seq (.region false [
    ⟨some 29, none, .mov (.t 3)⟩,
    ⟨some 2, none, .mov (.t 29)⟩])
  (.ret)))))
theorem ok_rdn : FnOk Try.prog 119 Try.f119 ac_rdn [.t 2] 1 drawD := ⟨Try.func119, by decide +kernel, by kernel_rfl, by kernel_rfl, by decide +kernel⟩
theorem vc_rdn (P : Prim) (hP : P = std) (T T1 : CallT) (b : Nat) (s : List UInt8) (bad : Bool) (n k e : Int) (h1 : Ans T 118 [.str s] (.tup [.int .i64 n, .int .i64 k, .int .i64 e])) (hk : e = 0 → 0 ≤ k ∧ k ≤ s.length)
    (s2 : List UInt8) (bad2 : Bool) (v : Int) (g1 : e ≠ 0 → s = s2 ∧ true = bad2 ∧ 0 = v) (g2 : e = 0 → s.drop k.toNat = s2 ∧ bad = bad2 ∧ n = v)
    (R : S → Prop) (hR : ∀ s0 s' x y z, x = s2 ∧ y = bad2 ∧ z = v → Ent s0 s' → resV s' [.t 2] (fun q => oneV q = .int .i64 z) → agreeH [(0, ⟨some b, 192, 2, [[.str x, .bool y]]⟩)] s' → R s0) :
    awp P T T1 ac_rdn (S0 [.ptr 0 (some b) 2 0 0] (lookH [(0, ⟨some b, 192, 2, [[.str s, .bool bad]]⟩)])) R (fun _ _ => False) R := by
  have hsp : P.slen s = (s.length : Int) := by subst hP; rfl
  cbv
  refine h1 _ _ ?_
  cbv
  refine br_cases (fun h => ?_) (fun h => ?_)
  · have hx := g1 (ne_t hP h)
    cbv
    repeat' (first
      | (refine And.intro (by assumption) ?_; try cbv)
      | (intro β; try cbv))
    exact hR _ _ _ _ _ hx (Ent.refl _) rfl ⟨rfl, trivial⟩
  · have he := ne_f hP h
    obtain ⟨x1, x2, x3⟩ := g2 he
    obtain ⟨y1, y2⟩ := hk he
    have l1 : P.leP 0 k := le0 hP y1
    have l2 : P.leP k (P.slen s) := leI hP (by rw [hsp]; exact y2)
    have l3 : P.leP (P.slen s) (P.slen s) := leI hP (Int.le_refl _)
    have e1 : P.ssub s k (P.slen s) = s2 := by
      rw [hsp, ← x1]; subst hP
      show (s.take ((s.length : Int)).toNat).drop k.toNat = _
      rw [Int.toNat_natCast, List.take_length]
    cbv
    repeat' (first
      | (refine And.intro (by assumption) ?_; try cbv)
      | (intro β; try cbv))
    exact hR _ _ _ _ _ ⟨e1, x2, x3⟩ (Ent.refl _) rfl ⟨rfl, trivial⟩
def ac_rdt : AC := .seq (.region false [
    ⟨some 4, none, .mov (.c (.string ⟨#[]⟩))⟩])
  (.seq (.seq (.region false [
    ⟨some 6, none, .mov (.t 1)⟩,
    ⟨some 7, none, .mov (.t 0)⟩,
    ⟨some 8, none, .nilchk (.t 7)⟩,
    ⟨some 9, none, .faddr 0 (.t 8)⟩,
    ⟨some 10, none, .load1 (.t 9)⟩,
    ⟨some 11, none, .len true (.t 10)⟩,
    ⟨some 12, none, .bin .gtr (.t 6) (.t 11)⟩])
  (.cond (.t 12)
    (.seq (.region false [
      ⟨some 13, none, .mov (.t 0)⟩,
      ⟨some 14, none, .nilchk (.t 13)⟩,
      ⟨some 15, none, .faddr 1 (.t 14)⟩,
      ⟨none, none, .store 1 (.t 15) (.c (.bool true))⟩])
    (.seq (.region false [
      ⟨some 4, none, .mov (.c (.string ⟨#[]⟩))⟩])
    (.ret)))
    (.skip)))
  (.seq (.region false [
    ⟨some 16, none, .mov (.t 0)⟩,
    ⟨some 17, none, .nilchk (.t 16)⟩,
    ⟨some 18, none, .faddr 0 (.t 17)⟩,
    ⟨some 19, none, .load1 (.t 18)⟩,
    ⟨some 20, none, .mov (.t 1)⟩,
    ⟨some 21, none, .slstr (.t 19) none (some (.t 20))⟩,
    ⟨some 5, none, .mov (.t 21)⟩])
  (.seq (.region false [
    ⟨some 22, none, .mov (.t 0)⟩,
    ⟨some 23, none, .mov (.t 0)⟩,
    ⟨some 24, none, .nilchk (.t 23)⟩,
    ⟨some 25, none, .faddr 0 (.t 24)⟩,
    ⟨some 26, none, .load1 (.t 25)⟩,
    ⟨some 27, none, .mov (.t 1)⟩,
    ⟨some 28, none, .slstr (.t 26) (some (.t 27)) none⟩,
    ⟨some 29, none, .nilchk (.t 22)⟩,
    ⟨some 30, none, .faddr 0 (.t 29)⟩,
    ⟨none, none, .store 1 (.t 30) (.t 28)⟩])
  (.seq (.region false [
    ⟨some 31, none, .mov (.t 5)⟩,
    ⟨some 4, none, .mov (.t 31)⟩])
  (.ret)))))
theorem ok_rdt : FnOk Try.prog 120 Try.f120 ac_rdt [.t 4] 2 drawD := ⟨Try.func120, by decide +kernel, by kernel_rfl, by kernel_rfl, by decide +kernel⟩
theorem vc_rdt (P : Prim) (hP : P = std) (T T1 : CallT) (b : Nat) (s : List UInt8) (bad : Bool) (n : Int) (hn : 0 ≤ n)
    (s2 : List UInt8) (bad2 : Bool) (v : List UInt8) (g1 : (s.length : Int) < n → s = s2 ∧ true = bad2 ∧ [] = v) (g2 : n ≤ s.length → s.drop n.toNat = s2 ∧ bad = bad2 ∧ s.take n.toNat = v)
    (R : S → Prop) (hR : ∀ s0 s' x y z, x = s2 ∧ y = bad2 ∧ z = v → Ent s0 s' → resV s' [.t 4] (fun q => oneV q = .str z) → agreeH [(0, ⟨some b, 192, 2, [[.str x, .bool y]]⟩)] s' → R s0) :
    awp P T T1 ac_rdt (S0 [.ptr 0 (some b) 2 0 0, .int .i64 n] (lookH [(0, ⟨some b, 192, 2, [[.str s, .bool bad]]⟩)])) R (fun _ _ => False) R := by
  have hsp : P.slen s = (s.length : Int) := by subst hP; rfl
  cbv
  refine br_cases (fun h => ?_) (fun h => ?_)
  · have hq : P.slen s < n := lt_t hP h
    rw [hsp] at hq
    have hx := g1 hq
    cbv
    repeat' (first
      | (refine And.intro (by assumption) ?_; try cbv)
      | (intro β; try cbv))
    exact hR _ _ _ _ _ hx (Ent.refl _) rfl ⟨rfl, trivial⟩
  · have hq : ¬ P.slen s < n := lt_f hP h
    rw [hsp] at hq
    obtain ⟨x1, x2, x3⟩ := g2 (by omega)
    have l0 : P.leP 0 0 := le0 hP (Int.le_refl 0)
    have l1 : P.leP 0 n := le0 hP hn
    have l2 : P.leP n (P.slen s) := leI hP (by rw [hsp]; omega)
    have l3 : P.leP (P.slen s) (P.slen s) := leI hP (Int.le_refl _)
    have e1 : P.ssub s n (P.slen s) = s2 := by
      rw [hsp, ← x1]; subst hP
      show (s.take ((s.length : Int)).toNat).drop n.toNat = _
      rw [Int.toNat_natCast, List.take_length]
    have e2 : P.ssub s 0 n = v := by
      rw [← x3]; subst hP
      show (s.take n.toNat).drop (0 : Int).toNat = _
      simp
    cbv
    repeat' (first
      | (refine And.intro (by assumption) ?_; try cbv)
      | (intro β; try cbv))
    exact hR _ _ _ _ _ ⟨e1, x2, e2⟩ (Ent.refl _) rfl ⟨rfl, trivial⟩
theorem getS_k {s : List UInt8} (h : (getS s).2.2 = 0) : 0 ≤ (getS s).2.1 ∧ (getS s).2.1 ≤ s.length := by
  obtain ⟨k, g1, _, g3, _⟩ := getS_num h
  omega
theorem sp_rdn (b : Nat) (s : List UInt8) (bad : Bool) (hs : s.length ≤ maxLen) : Spec Try.prog 119 [.ptr 0 (some b) 2 0 0] (lookH [(0, obR b s bad)]) (fun v h' => ∃ L', (v = .int .i64 (rnumF s bad).2.2 ∧ L' = [(0, obR b (rnumF s bad).1 (rnumF s bad).2.1)]) ∧ h' = lookH L') :=
  spec_meth dOk ok_rdn (L := [(0, obR b s bad)]) (fun v L' => v = .int .i64 (rnumF s bad).2.2 ∧ L' = [(0, obR b (rnumF s bad).1 (rnumF s bad).2.1)]) fun R hR =>
    vc_rdn std rfl _ _ b s bad (getS s).1 (getS s).2.1 (getS s).2.2 (ansW (sp_nget s hs) (fun _ => args_plain rfl) rfl) getS_k (rnumF s bad).1 (rnumF s bad).2.1 (rnumF s bad).2.2
      (fun h => by unfold rnumF; rw [if_pos h]; exact ⟨rfl, rfl, rfl⟩) (fun h => by unfold rnumF; rw [if_neg (fun g => g h)]; exact ⟨rfl, rfl, rfl⟩) R
      fun s0 s' x y z h he hr ha => by
        obtain ⟨rfl, rfl, rfl⟩ := h
        exact hR s0 s' _ [(0, _)] he hr ha (.int _ _) (by intro p hp; simp at hp; subst hp; exact obR_fz _ _ _) ⟨rfl, rfl⟩
theorem sp_rdt (b : Nat) (s : List UInt8) (bad : Bool) (n : Int) (hn : 0 ≤ n) : Spec Try.prog 120 [.ptr 0 (some b) 2 0 0, .int .i64 n] (lookH [(0, obR b s bad)]) (fun v h' => ∃ L', (v = .str (rtextF s bad n).2.2 ∧ L' = [(0, obR b (rtextF s bad n).1 (rtextF s bad n).2.1)]) ∧ h' = lookH L') :=
  spec_meth dOk ok_rdt (L := [(0, obR b s bad)]) (fun v L' => v = .str (rtextF s bad n).2.2 ∧ L' = [(0, obR b (rtextF s bad n).1 (rtextF s bad n).2.1)]) fun R hR =>
    vc_rdt std rfl _ _ b s bad n hn (rtextF s bad n).1 (rtextF s bad n).2.1 (rtextF s bad n).2.2
      (fun h => by unfold rtextF; rw [if_pos h]; exact ⟨rfl, rfl, rfl⟩) (fun h => by unfold rtextF; rw [if_neg (by omega)]; exact ⟨rfl, rfl, rfl⟩) R
      fun s0 s' x y z h he hr ha => by
        obtain ⟨rfl, rfl, rfl⟩ := h
        exact hR s0 s' _ [(0, _)] he hr ha (.str _) (by intro p hp; simp at hp; subst hp; exact obR_fz _ _ _) ⟨rfl, rfl⟩
def RnC (T : CallT) : Prop := ∀ (k b : Nat) (s : List UInt8) (bad : Bool) (h : Hp) (K : V → Hp → Prop), s.length ≤ maxLen → h k = some ⟨some b, 192, 2, [[.str s, .bool bad]]⟩ →
  (∀ (s2 : List UInt8) (bad2 : Bool) (v : Int), s2 = (rnumF s bad).1 ∧ bad2 = (rnumF s bad).2.1 ∧ v = (rnumF s bad).2.2 → K (.int .i64 v) (Hp.put h k ⟨some b, 192, 2, [[.str s2, .bool bad2]]⟩)) → T 119 [.ptr k (some b) 2 0 0] h K
def RtC (T : CallT) : Prop := ∀ (k b : Nat) (s : List UInt8) (bad : Bool) (n : Int) (h : Hp) (K : V → Hp → Prop), 0 ≤ n → h k = some ⟨some b, 192, 2, [[.str s, .bool bad]]⟩ →
  (∀ (s2 : List UInt8) (bad2 : Bool) (v : List UInt8), s2 = (rtextF s bad n).1 ∧ bad2 = (rtextF s bad n).2.1 ∧ v = (rtextF s bad n).2.2 → K (.str v) (Hp.put h k ⟨some b, 192, 2, [[.str s2, .bool bad2]]⟩)) → T 120 [.ptr k (some b) 2 0 0, .int .i64 n] h K
theorem obR_ren (b : Nat) (s : List UInt8) (bad : Bool) (f : Nat → Nat) : (obR b s bad).ren f = obR b s bad := by simp [Ob.ren, obR, V.rl]
theorem rnC : RnC (CallE Try.prog) := by
  intro k b s bad h K hs hk hK
  refine call1 (sp_rdn b s bad hs) (fun v L' h => ⟨_, h.2⟩) rfl (obR_ren _ _ _) (obR_fz _ _ _) hk ?_
  rintro v o' ⟨rfl, h2⟩
  simp only [List.cons.injEq, Prod.mk.injEq, and_true, true_and] at h2
  subst h2
  rw [obR_ren]
  exact hK _ _ _ ⟨rfl, rfl, rfl⟩
theorem rtC : RtC (CallE Try.prog) := by
  intro k b s bad n h K hn hk hK
  refine call1 (sp_rdt b s bad n hn) (fun v L' h => ⟨_, h.2⟩) rfl (obR_ren _ _ _) (obR_fz _ _ _) hk ?_
  rintro v o' ⟨rfl, h2⟩
  simp only [List.cons.injEq, Prod.mk.injEq, and_true, true_and] at h2
  subst h2
  rw [obR_ren]
  exact hK _ _ _ ⟨rfl, rfl, rfl⟩
def ac_cread : AC := .seq (.region false [
    ⟨some 2, none, .mov (.c (.slice none 0 0))⟩,
    ⟨some 3, none, .mov (.c (.int .i64 0))⟩])
  (.seq (.region false [
    ⟨some 9, none, .mov (.t 0)⟩,
    ⟨some 10, none, .build [(.string ⟨#[]⟩), (.bool false)] [(0, 1, (.t 9))]⟩,
    ⟨some 11, none, .box 192 2 (.t 10)⟩,
    ⟨some 4, none, .mov (.t 11)⟩])
  (.seq (.region false [
    ⟨some 5, none, .mov (.c (.slice none 0 0))⟩])
  (.seq (.seq (.region false [
    ⟨some 12, none, .mov (.t 4)⟩,
    ⟨some 13, none, .call 119 [(.t 12)]⟩,
    ⟨some 6, none, .mov (.t 13)⟩])
  (.block 0 (.loop (.seq (.seq (.region false [
      ⟨some 14, none, .mov (.t 6)⟩,
      ⟨some 15, none, .bin .gtr (.t 14) (.c (.int .i64 0))⟩,
      ⟨some 16, none, .mov (.t 15)⟩,
      ⟨some 17, some (16, true), .mov (.t 4)⟩,
      ⟨some 18, some (16, true), .nilchk (.t 17)⟩,
      ⟨some 19, some (16, true), .faddr 1 (.t 18)⟩,
      ⟨some 20, some (16, true), .load1 (.t 19)⟩,
      ⟨some 21, some (16, true), .not (.t 20)⟩,
      ⟨some 22, none, .pick (.t 16) (.t 21) (.c (.bool false))⟩])
    (.cond (.t 22)
      (.skip)
      (.exit 0)))
    (.seq (.block 1 (.seq (.region false [
      ⟨some 25, none, .mov (.t 4)⟩,
      ⟨some 26, none, .call 119 [(.t 25)]⟩,
      ⟨some 7, none, .mov (.t 26)⟩])
    (.seq (.region false [
      ⟨some 27, none, .mov (.t 7)⟩,
      ⟨some 28, none, .bin .rem (.t 27) (.c (.int .i64 4))⟩,
      ⟨some 29, none, .build [(.int .i64 0), (.int .i64 0), (.string ⟨#[]⟩)] [(0, 1, (.t 28))]⟩,
      ⟨some 8, none, .alloc 108 [(.int .i64 0), (.int .i64 0), (.string ⟨#[]⟩)]⟩,
      ⟨none, none, .store 3 (.t 8) (.t 29)⟩])
    (.seq (.seq (.region false [
      ⟨some 30, none, .faddr 0 (.t 8)⟩,
      ⟨some 31, none, .load1 (.t 30)⟩,
      ⟨some 32, none, .bin .eql (.t 31) (.c (.int .i64 2))⟩])
    (.cond (.t 32)
      (.region false [
        ⟨some 33, none, .mov (.t 4)⟩,
        ⟨some 34, none, .mov (.t 7)⟩,
        ⟨some 35, none, .bin .quo (.t 34) (.c (.int .i64 4))⟩,
        ⟨some 36, none, .call 120 [(.t 33), (.t 35)]⟩,
        ⟨some 37, none, .faddr 2 (.t 8)⟩,
        ⟨none, none, .store 1 (.t 37) (.t 36)⟩])
      (.region false [
        ⟨some 38, none, .mov (.t 7)⟩,
        ⟨some 39, none, .bin .quo (.t 38) (.c (.int .i64 4))⟩,
        ⟨some 40, none, .faddr 1 (.t 8)⟩,
        ⟨none, none, .store 1 (.t 40) (.t 39)⟩])))
    (.region false [
      ⟨some 41, none, .mov (.t 5)⟩,
      ⟨some 42, none, .loadn 3 (.t 8)⟩,
      ⟨some 43, none, .bslice 108 3 [(.t 42)]⟩,
      ⟨some 44, none, .append 108 3 32 (.t 41) (.t 43)⟩,
      ⟨some 5, none, .mov (.t 44)⟩])))))
    (.region false [
      ⟨some 23, none, .mov (.t 6)⟩,
      ⟨some 24, none, .bin .sub (.t 23) (.c (.int .i64 1))⟩,
      ⟨some 6, none, .mov (.t 24)⟩]))))))
  (.seq (.seq (.region false [
    ⟨some 45, none, .mov (.t 4)⟩,
    ⟨some 46, none, .nilchk (.t 45)⟩,
    ⟨some 47, none, .faddr 1 (.t 46)⟩,
    ⟨some 48, none, .load1 (.t 47)⟩,
    ⟨some 49, none, .mov (.t 48)⟩,
    ⟨some 50, some (49, false), .mov (.t 4)⟩,
    ⟨some 51, some (49, false), .nilchk (.t 50)⟩,
    ⟨some 52, some (49, false), .faddr 0 (.t 51)⟩,
    ⟨some 53, some (49, false), .load1 (.t 52)⟩,
    ⟨some 54, some (49, false), .bin .neq (.t 53) (.c (.string ⟨#[]⟩))⟩,
    ⟨some 55, none, .pick (.t 49) (.c (.bool true)) (.t 54)⟩,
    ⟨some 56, none, .mov (.t 55)⟩,
    ⟨some 57, some (56, false), .mov (.t 5)⟩,
    ⟨some 58, some (56, false), .call 89 [(.t 57)]⟩,
    ⟨some 59, some (56, false), .bin .neq (.t 58) (.c (.int .i64 0))⟩,
    ⟨some 60, none, .pick (.t 56) (.c (.bool true)) (.t 59)⟩])
  (.cond (.t 60)
    (.seq (.region false [
      ⟨some 2, none, .mov (.c (.slice none 0 0))⟩,
      ⟨some 3, none, .mov (.c (.int .i64 3))⟩])
    (.ret))
    (.skip)))
  (.seq (.region false [
    ⟨some 61, none, .mov (.t 5)⟩,
    ⟨some 2, none, .mov (.t 61)⟩,
    ⟨some 3, none, .mov (.c (.int .i64 0))⟩])
  (.ret))))))
theorem ok_cread : FnOk Try.prog 100 Try.f100 ac_cread [.t 2, .t 3] 1 drawD := ⟨Try.func100, by decide +kernel, by kernel_rfl, by kernel_rfl, by decide +kernel⟩
structure YRe (Q : List UInt8) where
  n : Nat
  nn : Int
  s : List UInt8
  bad : Bool
  out : List Part
  b : Option Nat
  c : Nat
  rows : List (List V)
  hnn : nn = (n : Int)
  hs : s.length ≤ maxLen
  good : bad = false → parseF Q = pcR n s out
  badd : bad = true → parseF Q = none
  hln : out.length + n ≤ 2147483647
  hrows : rows = out.map encPart
  hc : c = out.length
theorem vc_cread (P : Prim) (hP : P = std) (T T1 : CallT) (Q : List UInt8) (hQ : Q.length ≤ maxLen) (hrn : RnC T) (hrt : RtC T)
    (hck : ∀ (d : List Part) (h : Hp) (K : V → Hp → Prop) (k : Nat) (b : Option Nat) (n : Nat) (rs : List (List V)), d.length ≤ maxLen → rs = d.map encPart → n = rs.length → h k = some ⟨b, 108, 3, rs⟩ → K (.int .i64 (checkF d)) h → T 89 [.own k b 3 n] h K)
    (cF : List Part → Int) (hcF : ∀ d, cF d = checkF d)
    (r : List Part) (e : Int) (hr : readF Q = (r, e)) (rr : List (List V)) (hrr : rr = r.map encPart)
    (R : S → Prop) (hR : ∀ e2, e2 = e → RetSl [.t 2, .t 3] 3 rr [.int .i64 e2] R) : awp P T T1 ac_cread (S0 [.str Q] Hp.emp) R (fun _ _ => False) R := by
  have hml : maxLen = 9223372036854775807 := by decide
  have bad3 : r = [] ∧ 3 = e → ∀ s s', Ent s s' → Ret [.t 2, .t 3] [.nilsl, .int .i64 3] s' → R s := fun hx s s' he hret => (hR _ hx.2).1 _ _ he hret (by rw [hrr, hx.1]; rfl)
  have z4 : P.ltP 0 4 := ltI hP (by decide)
  cbv
  intro β
  cbv
  refine hrn _ _ _ _ _ _ hQ rfl fun s1 bad1 v1 hv1 => ?_
  cbv
  refine ⟨YRe Q, fun y => [(4, .ptr 11 (some β) 2 0 0), (5, .own 1000044 y.b 3 y.c), (6, .int .i64 y.nn)], fun y => [(11, ⟨some β, 192, 2, [[.str y.s, .bool y.bad]]⟩), (1000044, ⟨y.b, 108, 3, y.rows⟩)], fun y => y.n,
    ⟨_, Ent.nil (i := 5) (k := 1000044) (ty := 108) (sz := 3) rfl rfl, ⟨v1.toNat, v1, s1, bad1, [], _, _, _, ?_, ?_, ?_, ?_, ?_, rfl, rfl⟩, ⟨rfl, rfl, rfl, trivial⟩, ⟨rfl, rfl, trivial⟩⟩, ?_⟩
  · obtain ⟨_, _, h3⟩ := hv1
    have : 0 ≤ v1 := by
      rw [h3]; unfold rnumF
      split
      · exact Int.le_refl 0
      · rename_i hx
        obtain ⟨k, _, _, _, _, g4, _⟩ := getS_num (Decidable.of_not_not hx)
        exact g4
    ((try simp only [nc] at *); omega)
  · obtain ⟨h1, _, _⟩ := hv1
    rw [h1]; unfold rnumF
    split
    · exact hQ
    · simp only [List.length_drop]; omega
  · intro hb
    obtain ⟨h1, h2, h3⟩ := hv1
    unfold rnumF at h1 h2 h3
    split at h2
    · rw [h2] at hb; cases hb
    · rename_i hx
      rw [if_neg hx] at h1 h3
      dsimp only at h1 h3
      unfold parseF
      rw [if_neg hx, h1, h3]
  · intro hb
    obtain ⟨h1, h2, h3⟩ := hv1
    unfold rnumF at h2
    split at h2
    · rename_i hx; unfold parseF; rw [if_pos hx]
    · rw [h2] at hb; cases hb
  · obtain ⟨_, _, h3⟩ := hv1
    have : v1 ≤ 2147483647 := by
      rw [h3]; unfold rnumF
      split
      · exact (by decide : (0 : Int) ≤ 2147483647)
      · rename_i hx
        obtain ⟨k, _, _, _, _, _, g5, _⟩ := getS_num (Decidable.of_not_not hx)
        exact g5
    simp only [List.length_nil]; omega
  clear hv1
  rintro ⟨n, nn, s, bad, out, b, c, rows, hnn, hs, good, badd, hln, hrows, hc⟩
  replace hnn : nn = (n : Int) := hnn
  cases bad with
  | true =>
    have hx := badd rfl
    have hre : r = [] ∧ 3 = e := by unfold readF at hr; rw [hx] at hr; simp only [Prod.mk.injEq] at hr; exact ⟨hr.1.symm, hr.2⟩
    cbv
    refine br_cases (fun h => ?_) (fun h => ?_)
    · cbv
      exact bad3 hre _ _ (Ent.refl _) rfl
    · cbv
      exact bad3 hre _ _ (Ent.refl _) rfl
  | false =>
    have hpa := good rfl
    cbv
    refine br_cases (fun h => ?_) (fun h => ?_)
    · have h6 : 0 < nn := lt_t hP h
      obtain ⟨n, rfl⟩ : ∃ n', n = n' + 1 := ⟨n - 1, by ((try simp only [nc] at *); omega)⟩
      cbv
      refine hrn _ _ _ _ _ _ hs rfl fun s2 bad2 x hx => ?_
      obtain ⟨x1, x2, x3⟩ := hx
      have hx0 : 0 ≤ x ∧ x ≤ 2147483647 := by
        rw [x3]; unfold rnumF
        split
        · exact ⟨(by decide : (0 : Int) ≤ 0), (by decide : (0 : Int) ≤ 2147483647)⟩
        · rename_i hx
          obtain ⟨k, _, _, _, _, g4, g5, _⟩ := getS_num (Decidable.of_not_not hx)
          exact ⟨g4, g5⟩
      have hs2 : s2.length ≤ maxLen := by
        rw [x1]; unfold rnumF
        split
        · exact hs
        · simp only [List.length_drop]; omega
      have a1 : P.leP 0 x := le0 hP hx0.1
      have a2 : P.div x 4 = x / 4 := by subst hP; rfl
      have a3 : P.mod x 4 = x % 4 := by subst hP; rfl
      have a4 : P.i64 (P.div x 4) := by rw [a2]; exact i64I hP (by omega)
      have a5 : P.i64 (P.sub nn 1) := by rw [sub_eq hP]; exact i64I hP (by ((try simp only [nc] at *); omega))
      have a6 : P.sub nn 1 = (n : Int) := by rw [sub_eq hP]; ((try simp only [nc] at *); omega)
      have f4 : P.neP rows c := by subst hP; show rows.length = c; rw [hrows, hc]; simp
      have f5 : ∀ r, P.bytes (P.add (P.int c) (P.rlen [r])) 32 := by intro r; subst hP; show ((c : Int) + 1) * 32 ≤ _; rw [hc]; ((try simp only [nc] at *); omega)
      have f6 : ∀ r, P.neP [r] 1 := by intro r; subst hP; rfl
      have f7 : ∀ p : Part, P.rapp rows [encPart p] = (out ++ [p]).map encPart := by intro p; rw [hrows]; subst hP; simp [std]
      have f8 : ∀ (r : List V) (p : Part), P.nadd c (P.rlenN [r]) = (out ++ [p]).length := by intro r p; rw [hc]; subst hP; simp [std]
      have f9 : ∀ p : Part, (out ++ [p]).length + n ≤ 2147483647 := by intro p; simp; omega
      cbv
      refine ⟨a1, z4, ?_⟩
      intro β8
      cbv
      refine br_cases (fun h => ?_) (fun h => ?_)
      · have hk2 : P.mod x 4 = 2 := eq_t hP h
        cbv
        refine ⟨a1, z4, a4, ?_⟩
        refine hrt _ _ _ _ _ _ _ (by show 0 ≤ P.div x 4; rw [a2]; omega) rfl fun s3 bad3' v hv => ?_
        obtain ⟨w1, w2, w3⟩ := hv
        cbv
        repeat' (first
          | (refine And.intro (by assumption) ?_; try cbv)
          | (refine And.intro (f6 _) ?_; try cbv)
          | (refine And.intro (f5 _) ?_; try cbv)
          | (intro β; try cbv))
        refine ⟨_, Ent.refl _, ⟨n, _, s3, bad3', out ++ [⟨P.mod x 4, 0, v⟩], _, _, _, a6, ?_, ?_, ?_, f9 _, f7 ⟨P.mod x 4, 0, v⟩, f8 _ _⟩, ⟨rfl, rfl, rfl, trivial⟩, ⟨rfl, rfl, trivial⟩, Nat.lt_succ_self n⟩
        · rw [w1]; unfold rtextF
          split
          · exact hs2
          · simp only [List.length_drop]; omega
        · intro hb
          rw [hpa]
          unfold rtextF at w1 w2 w3
          split at w2
          · rw [w2] at hb; cases hb
          · rename_i hl
            rw [if_neg hl] at w1 w3
            dsimp only at w1 w3
            unfold rnumF at x1 x2 x3
            split at x2
            · rename_i he
              rw [if_pos he] at x3
              rw [a3, x3] at hk2
              exact absurd hk2 (by show ¬ (0 : Int) % 4 = 2; decide)
            · rename_i he
              rw [if_neg he] at x1 x3
              dsimp only at x1 x3
              rw [pcR, if_neg he, if_pos (by rw [← x3, ← a3]; exact hk2), if_neg (by rw [← x1, ← x3, ← a2]; exact hl), w1, w3, hk2, a2, x1, x3]
        · intro hb
          rw [hpa]
          unfold rtextF at w2
          split at w2
          · rename_i hl
            unfold rnumF at x1 x2 x3
            split at x2
            · rename_i he
              rw [pcR, if_pos he]
            · rename_i he
              rw [if_neg he] at x1 x3
              dsimp only at x1 x3
              rw [pcR, if_neg he, if_pos (by rw [← x3, ← a3]; exact hk2), if_pos (by rw [← x1, ← x3, ← a2]; exact hl)]
          · unfold rnumF at x2
            split at x2
            · rename_i he
              rw [pcR, if_pos he]
            · rw [w2, x2] at hb; cases hb
      · have hk2 : ¬ P.mod x 4 = 2 := eq_f hP h
        cbv
        refine ⟨a1, z4, a4, ?_⟩
        repeat' (first
          | (refine And.intro (by assumption) ?_; try cbv)
          | (refine And.intro (f6 _) ?_; try cbv)
          | (refine And.intro (f5 _) ?_; try cbv)
          | (intro β; try cbv))
        refine ⟨_, Ent.refl _, ⟨n, _, s2, bad2, out ++ [⟨P.mod x 4, P.div x 4, []⟩], _, _, _, a6, hs2, ?_, ?_, f9 _, f7 ⟨P.mod x 4, P.div x 4, []⟩, f8 _ _⟩, ⟨rfl, rfl, rfl, trivial⟩, ⟨rfl, rfl, trivial⟩, Nat.lt_succ_self n⟩
        · intro hb
          rw [hpa]
          unfold rnumF at x1 x2 x3
          split at x2
          · rw [x2] at hb; cases hb
          · rename_i he
            rw [if_neg he] at x1 x3
            dsimp only at x1 x3
            rw [pcR, if_neg he, if_neg (by rw [← x3, ← a3]; exact hk2), x1, a2, a3, x3]
        · intro hb
          rw [hpa]
          unfold rnumF at x2
          split at x2
          · rename_i he
            rw [pcR, if_pos he]
          · rw [x2] at hb; cases hb
    · have h6 : ¬ 0 < nn := lt_f hP h
      have hn0 : n = 0 := by ((try simp only [nc] at *); omega)
      subst hn0
      have hpr : parseF Q = some (s, out) := hpa
      unfold readF at hr
      rw [hpr] at hr
      simp only [] at hr
      have hol : out.length ≤ maxLen := by omega
      have hcl : c = rows.length := by rw [hc, hrows]; simp
      cbv
      refine br_cases (fun h => ?_) (fun h => ?_)
      · have hne : ¬ s = [] := sne_t hP h
        rw [if_neg (fun g => hne g.1)] at hr
        simp only [Prod.mk.injEq] at hr
        cbv
        exact bad3 ⟨hr.1.symm, hr.2⟩ _ _ (Ent.refl _) rfl
      · have hne : s = [] := sne_f hP h
        cbv
        refine hck out _ _ _ _ _ _ hol hrows hcl rfl ?_
        rw [← hcF]
        cbv
        refine br_cases (fun h => ?_) (fun h => ?_)
        · have hc0 := ne_t hP h
          rw [hcF] at hc0
          rw [if_neg (fun g => hc0 g.2)] at hr
          simp only [Prod.mk.injEq] at hr
          cbv
          exact bad3 ⟨hr.1.symm, hr.2⟩ _ _ (Ent.refl _) rfl
        · have hc0 := ne_f hP h
          rw [hcF] at hc0
          rw [if_pos ⟨hne, hc0⟩] at hr
          simp only [Prod.mk.injEq] at hr
          cbv
          exact (hR _ hr.2).2.1 _ _ _ _ _ _ _ (Ent.refl _) rfl rfl ⟨by rw [hcl, hrr, hrows, hr.1], by rw [hrr, hrows, hr.1]⟩
theorem sp_cread (Q : List UInt8) (hQ : Q.length ≤ maxLen) : Spec Try.prog 100 [.str Q] Hp.emp (Is (.tup [encParts (readF Q).1, .int .i64 (readF Q).2])) :=
  spec_frz dOk ok_cread fun R hR => vc_cread std rfl _ _ Q hQ rnC rtC (fun d h K k b n rs hd hrs hn hk hK => ownCall (sp_check d hd) rfl h K k b n rs hrs hn hk hK) checkF (fun _ => rfl) (readF Q).1 (readF Q).2 rfl _ rfl R
    fun x hx => by subst hx; exact retSl_of (parts_sz _) (encParts_fz _) (int_fz _) hR
end Go.Proofs.Ytobngncjflogcaa.AM

set_option linter.unusedVariables false
set_option linter.unusedSimpArgs false
namespace Go.Proofs.Ytobngncjflogcaa

theorem bv_xlc (x y z : BitVec 32) : x ^^^ (y ^^^ z) = y ^^^ (x ^^^ z) := by rw [← BitVec.xor_assoc, BitVec.xor_comm x y, BitVec.xor_assoc]

/-- one bit -/
def crc1 (x : BitVec 32) : BitVec 32 := (x >>> 1) ^^^ (bif x.getLsbD 0 then 0x82f63b78#32 else 0#32)
def crcN : Nat → BitVec 32 → BitVec 32
  | 0, x => x
  | n + 1, x => crc1 (crcN n x)

theorem crc1_xor (x y : BitVec 32) : crc1 (x ^^^ y) = crc1 x ^^^ crc1 y := by
  unfold crc1
  rw [BitVec.ushiftRight_xor_distrib, BitVec.getLsbD_xor]
  cases x.getLsbD 0 <;> cases y.getLsbD 0
  · simp
  · simp only [Bool.false_bne, cond_true, cond_false, BitVec.xor_zero, BitVec.xor_assoc]
  · simp only [Bool.true_bne, Bool.not_false, cond_true, cond_false, BitVec.xor_zero, BitVec.xor_assoc]
    rw [BitVec.xor_comm (y >>> 1)]
  · simp only [Bool.true_bne, Bool.not_true, cond_true, cond_false, BitVec.xor_zero, BitVec.xor_assoc]
    rw [bv_xlc _ (y >>> 1), BitVec.xor_self, BitVec.xor_zero]

theorem crcN_xor (n : Nat) (x y : BitVec 32) : crcN n (x ^^^ y) = crcN n x ^^^ crcN n y := by
  induction n with
  | zero => rfl
  | succ n ih => simp only [crcN]; rw [ih, crc1_xor]

/-- what has no low bits is only shifted -/
theorem crcN_high (n : Nat) (z : BitVec 32) (h : ∀ i, i < n → z.getLsbD i = false) : crcN n z = z >>> n := by
  induction n with
  | zero => simp [crcN]
  | succ n ih =>
    simp only [crcN]
    rw [ih (fun i hi => h i (by omega))]
    unfold crc1
    have h0 : (z >>> n).getLsbD 0 = false := by
      rw [BitVec.getLsbD_ushiftRight]; exact h n (by omega)
    rw [h0]
    simp only [cond_false, BitVec.xor_zero]
    rw [← BitVec.shiftRight_add]

def lowByte (x : BitVec 32) : BitVec 32 := x &&& 255#32

theorem crc8_split (y : BitVec 32) : crcN 8 y = (y >>> 8) ^^^ crcN 8 (lowByte y) := by
  have e : y = (y &&& ~~~255#32) ^^^ lowByte y := by
    unfold lowByte
    apply BitVec.eq_of_getLsbD_eq
    intro i hi
    simp only [BitVec.getLsbD_xor, BitVec.getLsbD_and, BitVec.getLsbD_not, hi, decide_true, Bool.true_and]
    cases y.getLsbD i <;> cases (255#32).getLsbD i <;> rfl
  conv => lhs; rw [e]
  rw [crcN_xor, crcN_high]
  · congr 1
    apply BitVec.eq_of_getLsbD_eq
    intro i hi
    simp only [BitVec.getLsbD_ushiftRight, BitVec.getLsbD_and, BitVec.getLsbD_not]
    have : (255#32).getLsbD (8 + i) = false := by
      rw [BitVec.getLsbD_ofNat]
      simp only [Bool.and_eq_false_iff]
      right
      exact Nat.testBit_lt_two_pow (Nat.lt_of_lt_of_le (show 255 < 2 ^ 8 by decide) (Nat.pow_le_pow_right (by decide) (by omega)))
    rw [this]
    by_cases h8 : 8 + i < 32
    · simp [h8]
    · rw [BitVec.getLsbD_of_ge y _ (by omega)]; simp
  · intro i hi
    have : (255#32).getLsbD i = true := by
      match i, hi with
      | 0, _ | 1, _ | 2, _ | 3, _ | 4, _ | 5, _ | 6, _ | 7, _ => decide
    rw [BitVec.getLsbD_and, BitVec.getLsbD_not, this]; simp



def byte32 (c : UInt8) : BitVec 32 := BitVec.ofNat 32 c.toNat

theorem byte32_shift (c : UInt8) : byte32 c >>> 8 = 0#32 := by
  apply BitVec.eq_of_toNat_eq
  have := c.toNat_lt
  simp [byte32, Nat.shiftRight_eq_div_pow]
  omega

def crcByte (x : BitVec 32) (c : UInt8) : BitVec 32 := crcN 8 (x ^^^ byte32 c)


/-- by the table -/
theorem tab_eq (x : BitVec 32) (c : UInt8) : (x >>> 8) ^^^ crcN 8 (lowByte (x ^^^ byte32 c)) = crcByte x c := by
  unfold crcByte
  rw [crc8_split (x ^^^ byte32 c), BitVec.ushiftRight_xor_distrib, byte32_shift, BitVec.xor_zero]

def crcL (l : List UInt8) : BitVec 32 := l.foldl crcByte 0xffffffff#32
theorem crcL_snoc (l : List UInt8) (c : UInt8) : crcL (l ++ [c]) = crcByte (crcL l) c := by simp [crcL]

/-- the sum as the programs hand it out -/
def crcNat (l : List UInt8) : Nat := (~~~ crcL l).toNat

theorem bxor32 (x y : BitVec 32) : bits .xor .u32 (x.toNat : Int) (y.toNat : Int) = ((x ^^^ y).toNat : Int) := by
  rw [u32_xor_nat _ _ x.isLt y.isLt, BitVec.toNat_xor]
theorem band32 (x y : BitVec 32) : bits .and .u32 (x.toNat : Int) (y.toNat : Int) = ((x &&& y).toNat : Int) := by
  rw [u32_and_nat _ _ x.isLt y.isLt, BitVec.toNat_and]



theorem half32 (y : BitVec 32) : (y.toNat : Int) / (2 : Int) = ((y >>> 1).toNat : Int) := by
  rw [BitVec.toNat_ushiftRight, Nat.shiftRight_eq_div_pow]; omega



theorem not32 (x : BitVec 32) : bits .xor .u32 IntKind.u32.max (x.toNat : Int) = ((~~~x).toNat : Int) := by
  have h := bxor32 (BitVec.allOnes 32) x
  rw [BitVec.allOnes_xor] at h
  exact h

/-- the table, as far as it is made -/
def tabV (j : Nat) : Value := .int .u32 ((crcN 8 (BitVec.ofNat 32 j)).toNat : Int)
def tabCells (i : Nat) : Array Value := Array.ofFn (n := 256) (fun j => if j.val < i then tabV j.val else .int .u32 0)
theorem tabCells_size (i : Nat) : (tabCells i).size = 256 := by simp [tabCells]
theorem tabCells_nil : tabCells 0 = Array.replicate 256 (.int .u32 0) := by
  apply Array.ext
  · simp [tabCells]
  · intro j h1 h2; simp [tabCells]
theorem tabCells_set (i : Nat) (v : Value) (hv : v = tabV i) : (tabCells i).setIfInBounds i v = tabCells (i + 1) := by
  subst hv
  apply Array.ext
  · simp [tabCells]
  · intro j h1 h2
    rw [Array.getElem_setIfInBounds]
    · simp only [tabCells, Array.getElem_ofFn]
      by_cases e : i = j
      · subst e; simp
      · rw [if_neg e]
        by_cases hj : j < i
        · rw [if_pos hj, if_pos (by omega)]
        · rw [if_neg hj, if_neg (by omega)]
    · simpa using h1
theorem tabCells_zero (i : Nat) (h : i < 256) : (tabCells i)[i]? = some (.int .u32 0) := by
  rw [Array.getElem?_eq_getElem (by rw [tabCells_size]; exact h)]
  simp [tabCells]
theorem tabCells_one (i : Nat) : (tabCells i).all (·.oneCell') = true := by
  rw [Array.all_eq_true]
  intro j hj
  simp only [tabCells, Array.getElem_ofFn]
  split <;> rfl
theorem tabCells_at (j : Nat) (h : j < 256) : (tabCells 256)[j]? = some (tabV j) := by
  rw [Array.getElem?_eq_getElem (by rw [tabCells_size]; exact h)]
  simp only [tabCells, Array.getElem_ofFn]
  rw [if_pos h]

theorem crc1_word (X : BitVec 32) : bits .xor .u32 ((X.toNat : Int) / (2 : Int)) (bits .and .u32 (-bits .and .u32 (X.toNat : Int) 1 % 4294967296) 2197175160) = ((crc1 X).toNat : Int) := by
  have h1 := band32 X 1#32
  rw [show (((1#32).toNat : Nat) : Int) = 1 by rfl] at h1
  have e : (X &&& 1#32).toNat = X.toNat % 2 := by
    rw [BitVec.toNat_and]; exact Nat.and_one_is_mod _
  rw [e] at h1
  rw [h1, half32]
  unfold crc1
  have e2 : X.getLsbD 0 = decide (X.toNat % 2 = 1) := by simp [BitVec.getLsbD, Nat.testBit_zero]
  rw [e2]
  rcases Nat.mod_two_eq_zero_or_one X.toNat with h | h
  · rw [h]
    have a := band32 0#32 0x82f63b78#32
    have b := bxor32 (X >>> 1) (0#32 &&& 0x82f63b78#32)
    rw [← a] at b
    exact b
  · rw [h]
    have a := band32 0xffffffff#32 0x82f63b78#32
    have b := bxor32 (X >>> 1) (0xffffffff#32 &&& 0x82f63b78#32)
    rw [← a] at b
    exact b

theorem low_word (x : BitVec 32) (c : UInt8) : bits .xor .u8 ((x.toNat : Int) % 256) (c.toNat : Int) = (((lowByte (x ^^^ byte32 c)).toNat : Nat) : Int) ∧ (lowByte (x ^^^ byte32 c)).toNat < 256 := by
  have hc := c.toNat_lt
  have e : (lowByte (x ^^^ byte32 c)).toNat = (x.toNat % 256) ^^^ c.toNat := by
    unfold lowByte byte32
    rw [BitVec.toNat_and, BitVec.toNat_xor, BitVec.toNat_ofNat, Nat.mod_eq_of_lt (show c.toNat < 2 ^ 32 by omega)]
    have : (255#32).toNat = 2 ^ 8 - 1 := by decide
    rw [this, Nat.and_two_pow_sub_one_eq_mod, Nat.xor_mod_two_pow]
    have h2 : c.toNat % 2 ^ 8 = c.toNat := Nat.mod_eq_of_lt (by omega)
    rw [h2]
  have hlt : (x.toNat % 256) ^^^ c.toNat < 256 := Nat.xor_lt_two_pow (n := 8) (by omega) (by omega)
  refine ⟨?_, by rw [e]; exact hlt⟩
  have h1 : ((x.toNat : Int) % 256) = ((x.toNat % 256 : Nat) : Int) := by omega
  rw [h1, u8_xor_nat _ _ (by omega) (by omega), e]

theorem tab_word (x : BitVec 32) (c : UInt8) : bits .xor .u32 ((x.toNat : Int) / (256 : Int)) ((crcN 8 (BitVec.ofNat 32 (lowByte (x ^^^ byte32 c)).toNat)).toNat : Int) = ((crcByte x c).toNat : Int) := by
  rw [BitVec.ofNat_toNat, BitVec.setWidth_eq]
  have h : (x.toNat : Int) / (256 : Int) = ((x >>> 8).toNat : Int) := by
    rw [BitVec.toNat_ushiftRight, Nat.shiftRight_eq_div_pow]; omega
  rw [h, bxor32, tab_eq]
end Go.Proofs.Ytobngncjflogcaa

set_option linter.unusedVariables false
set_option linter.unusedSimpArgs false
namespace Go.Proofs.Ytobngncjflogcaa
open Go.RowKit

theorem Try.info_table : (Try.prog.info? 194).map (fun i => (i.zero, i.size)) = some (some (.agg (Array.replicate 256 (.int .u32 0))), 256) := by kernel_rfl

theorem wpList_store_new {P : Program} {ops : Array Oper} {rest : List Oper} {op : Oper} {a : Act} {Q : Exit → Act → World → Prop} (hgd : op.guard = none) (ty : TypeId) (x y : Operand) (ho : op.op = .store ty x y)
    (w : World) (c c' : Array Value) (hx : a.eval x = .pointer (some ⟨w.heap.size, 0, none⟩)) (hy : a.eval y = .agg c') (hi : (P.info? ty).map (·.size) = some c'.size) (hs : c.size = c'.size) (h1 : c'.all (·.oneCell') = true)
    (h : wpList P ops Q rest (a.put op.dst undef) (w.alloc (.cells c' ty))) : wpList P ops Q (op :: rest) a (w.alloc (.cells c ty)) :=
  wpList_plain hgd fun K hK => by
    unfold Oper.wp execOp
    simp only [ho, hx, hy, run_storeAt_new w ty c c' hi hs h1, Sem.run_bind, Sem.run_pure, Result.andThen_ok]
    exact hK _ _ h

set_option maxRecDepth 1000000 in
set_option maxHeartbeats 2000000 in
theorem table_any (w : World) :
    Calls Try.prog 127 #[] w fun e w' => e = .returned (.agg (tabCells 256)) ∧ Below w.heap.size w w' := by
  obtain ⟨hz, hi⟩ := zero_of_info Try.info_table
  go_enter Try.func127, Try.ntmps127
  go_wp2
  rw [← tabCells_nil]
  go_loopg [3] 256 (fun g s3 wx => ∃ i : Nat, i + g = 256 ∧ s3 = .int .i64 i ∧ wx = w.alloc (.cells (tabCells i) 194))
  case atStart => exact ⟨0, by omega, rfl, rfl⟩
  case round =>
    obtain ⟨i, hig, rfl, rfl⟩ := hrel
    cases gk with
    | zero =>
      have h256 : ¬ ((i : Int) < 256) := by omega
      obtain rfl : 256 = i := by omega
      have hsz : (Try.prog.info? 194).map (·.size) = some (tabCells 256).size := by rw [tabCells_size]; exact hi
      go_wp2_with (first
        | (refine wpList_load_row rfl 194 (.tmp 0) rfl w.heap.size rfl 194 (tabCells 256) (0, 0) _ (heap_alloc_last w _) Try.underlying194 rfl hsz ?_)
        | (refine wpList_store_new rfl 194 (.tmp 0) (.tmp 22) rfl w (tabCells 256) (tabCells 256) rfl rfl hsz rfl (tabCells_one _) ?_))
      refine bodyPost_ret (v := .agg (tabCells 256)) (results_cell_row rfl _ _ w.heap.size 194 (tabCells 256) (0, 0) _ rfl (heap_alloc_last w _) Try.underlying194 rfl hsz) rfl ⟨rfl, (Below.refl _ _).alloc (Nat.le_refl _) _⟩
    | succ g =>
      have hi : i < 256 := by omega
      have hi2 : (i : Int) < 256 := by omega
      have HI : Hid (i + 1 + g = 256) := by show _ = _; omega
      clear hig
      go_wp2
      go_loopg [2, 8] 8 (fun g x k wx => ∃ m : Nat, m + g = 8 ∧ k = .int .i64 m ∧ wx = w.alloc (.cells (tabCells i) 194) ∧ ∃ X : BitVec 32, x = .int .u32 (X.toNat : Int) ∧ Hid (X = crcN m (BitVec.ofNat 32 i)))
      case atStart => exact ⟨0, by omega, rfl, rfl, BitVec.ofNat 32 i, congrArg _ (by rw [BitVec.toNat_ofNat, Nat.mod_eq_of_lt (by omega)]), rfl⟩
      case round =>
        obtain ⟨m, hm, rfl, rfl, X, rfl, HX⟩ := hrel
        cases gk with
        | zero =>
          have H8 : Hid (m = 8) := by show _ = _; omega
          have hm8 : ¬ ((m : Int) < 8) := by omega
          clear hm
          have hcell : (tabCells i)[i]? = some (.int .u32 0) := tabCells_zero i hi
          have HV := Lib.hid (tabCells_set i (.int .u32 (X.toNat : Int)) (by show _ = Value.int _ _; rw [HX.out, H8.out]))
          go_wp2
          go_roundg g
          case measure => omega
          case rel => exact ⟨i + 1, by have := HI.out; omega, by go_num, by rw [HV.out]⟩
        | succ g2 =>
          have hm8 : m < 8 := by omega
          have hm82 : (m : Int) < 8 := by omega
          have H8 : Hid (m + 1 + g2 = 8) := by show _ = _; omega
          clear hm
          have HW := Lib.hid (crc1_word X)
          go_wp2
          go_roundg g2
          case measure => omega
          case rel => exact ⟨m + 1, by have := H8.out; omega, by go_num, rfl, crc1 X, congrArg _ HW.out, by show _ = crc1 _; rw [HX.out]⟩
end Go.Proofs.Ytobngncjflogcaa

set_option linter.unusedVariables false
set_option linter.unusedSimpArgs false
namespace Go.Proofs.Ytobngncjflogcaa
open Go.RowKit

set_option maxRecDepth 1000000 in
set_option maxHeartbeats 2000000 in
theorem crcOf_any (s : ByteArray) (w : World) (hs : s.size ≤ maxLen) :
    Calls Try.prog 116 #[.string s] w fun e w' => e = .returned (.int .u32 (crcNat s.data.toList)) ∧ Below w.heap.size w w' := by
  unfold maxLen at hs
  obtain ⟨hz, hi⟩ := zero_of_info Try.info_table
  have hsz : (Try.prog.info? 194).map (·.size) = some (tabCells 256).size := by rw [tabCells_size]; exact hi
  have hs0 : (tabCells 0).size = (tabCells 256).size := by rw [tabCells_size, tabCells_size]
  have HI := Lib.hid hi
  have HSZ := Lib.hid hsz
  have HS0 := Lib.hid hs0
  clear hi hsz hs0
  go_enter Try.func116, Try.ntmps116
  go_wp2_with fail
  refine (table_any _).mono ?_
  rintro e w1 ⟨rfl, hb1⟩
  rw [← tabCells_nil] at hz
  go_wp2_with (refine wpList_store_new rfl 194 (.tmp 3) (.tmp 6) rfl w1 (tabCells 0) (tabCells 256) rfl rfl HSZ.out HS0.out (tabCells_one _) ?_)
  have hcell : ∀ n, n < 256 → (w1.alloc (.cells (tabCells 256) 194)).cell? ⟨w1.heap.size, n, none⟩ = some (tabV n) := fun n hn => by
    rw [World.cell?_alloc_new]; exact tabCells_at n hn
  have HC := Lib.hid hcell
  clear hcell
  go_loop [4, 9] (fun h i => ∃ k : Nat, k ≤ s.size ∧ i = .int .i64 k ∧ ∃ x : BitVec 32, h = .int .u32 (x.toNat : Int) ∧ Hid (x = crcL (s.data.toList.take k))) (fun _ i => s.size - (intOf i).toNat)
  case atStart => exact ⟨0, Nat.zero_le _, rfl, 0xffffffff#32, rfl, rfl⟩
  case round =>
    obtain ⟨k, hk, rfl, x, rfl, HX⟩ := hrel
    by_cases hlt : k < s.size
    · have hbyte : s[k].toNat < 256 := s[k].toNat_lt
      obtain ⟨hw, hn⟩ := low_word x s[k]
      have HT := Lib.hid (tab_word x s[k])
      have hc := HC.out _ hn
      generalize (lowByte (x ^^^ byte32 s[k])).toNat = n at hw hn hc HT
      have ht := tabCells_at n hn
      unfold tabV at hc ht
      clear HC
      generalize crcN 8 (BitVec.ofNat 32 n) = T at hc ht HT
      go_wp2
      go_round
      case rel => exact ⟨k + 1, by omega, by go_num, crcByte x s[k], congrArg _ HT.out, by show _ = _; rw [take_snoc s k hlt, crcL_snoc, HX.out]⟩
      case measure => simp [intOf]; omega
    · go_wp2
      go_ret
      exact ⟨ret_int (by rw [not32, HX.out, List.take_of_length_le (by simp; omega)]; rfl), (hb1.alloc hb1.size _)⟩
end Go.Proofs.Ytobngncjflogcaa

set_option linter.unusedVariables false
set_option linter.unusedSimpArgs false
namespace Go.Proofs.Ytobngncjflogcaa.AM
open Go Go.RowKit
set_option maxRecDepth 100000
set_option maxHeartbeats 2000000
def by8 (n : Int) : UInt8 := UInt8.ofNat (n % 256).toNat
theorem by8_wrap (n : Int) : IntKind.u8.wrap n = ((by8 n).toNat : Int) := by
  have h1 : IntKind.u8.wrap n = n % 256 := rfl
  rw [h1, by8, UInt8.toNat_ofNat']
  omega
theorem by8_mod (n : Int) : by8 (n % 256) = by8 n := by unfold by8; rw [Int.emod_emod_of_dvd n (Int.dvd_refl 256)]
def fourL (c : Int) : List UInt8 := [by8 c, by8 (c / 256), by8 (c / 65536), by8 (c / 16777216)]
section
variable {P : Prim} (hP : P = std)
include hP
theorem bstr3 (a b c : Int) : P.bstr [[.int .u8 (P.wrap .u8 a)], [.int .u8 (P.wrap .u8 b)], [.int .u8 (P.wrap .u8 c)]] [by8 a, by8 b, by8 c] := by
  subst hP
  simp [std, by8_wrap]
theorem bstr4 (a b c d : Int) : P.bstr [[.int .u8 (P.wrap .u8 a)], [.int .u8 (P.wrap .u8 b)], [.int .u8 (P.wrap .u8 c)], [.int .u8 (P.wrap .u8 d)]] [by8 a, by8 b, by8 c, by8 d] := by
  subst hP
  simp [std, by8_wrap]
theorem neP_of (rows : List (List V)) (n : Nat) (h : rows.length = n) : P.neP rows n := by subst hP; exact h
theorem shr8 (c : Int) : P.shr c 8 = c / 256 := by subst hP; rfl
theorem shr16 (c : Int) : P.shr c 16 = c / 65536 := by subst hP; rfl
theorem shr24 (c : Int) : P.shr c 24 = c / 16777216 := by subst hP; rfl
theorem bits32 : P.bits .u32 = 32 := by subst hP; rfl
theorem bits64 : P.bits .i64 = 64 := by subst hP; rfl
theorem sapp_eq (a b : List UInt8) : P.sapp a b = a ++ b := by subst hP; rfl
theorem w64 {n : Int} (h : 0 ≤ n ∧ n ≤ 255) : P.wrap .i64 n = n := by
  subst hP
  show IntKind.i64.wrap n = n
  exact wrap_id (by have : IntKind.i64.min = -9223372036854775808 := rfl
                    omega) (by have : IntKind.i64.max = 9223372036854775807 := rfl
                               omega)
theorem shl8 (c : Int) : P.shl c 8 = c * 256 := by subst hP; rfl
theorem bor8 (b c : UInt8) : P.bor .i64 (((b.toNat : Nat) : Int) * 256) ((c.toNat : Nat) : Int) = 256 * ((b.toNat : Nat) : Int) + ((c.toNat : Nat) : Int) := by
  subst hP
  have h1 := b.toNat_lt
  have h2 := c.toNat_lt
  show IntKind.i64.wrap (((BitVec.ofInt 64 (((b.toNat : Nat) : Int) * 256) ||| BitVec.ofInt 64 ((c.toNat : Nat) : Int)).toNat : Nat) : Int) = _
  have e1 : BitVec.ofInt 64 (((b.toNat : Nat) : Int) * 256) = BitVec.ofNat 64 (b.toNat * 256) := by
    rw [show ((b.toNat : Nat) : Int) * 256 = ((b.toNat * 256 : Nat) : Int) by push_cast; rfl]; exact BitVec.ofInt_natCast 64 _
  have e2 : BitVec.ofInt 64 ((c.toNat : Nat) : Int) = BitVec.ofNat 64 c.toNat := BitVec.ofInt_natCast 64 _
  rw [e1, e2, BitVec.toNat_or, BitVec.toNat_ofNat, BitVec.toNat_ofNat, Nat.mod_eq_of_lt (by omega), Nat.mod_eq_of_lt (by omega)]
  have e3 : b.toNat * 256 ||| c.toNat = b.toNat * 256 + c.toNat := by
    have := Nat.shiftLeft_add_eq_or_of_lt (i := 8) (b := c.toNat) (by omega) b.toNat
    rw [Nat.shiftLeft_eq] at this
    exact this.symm
  rw [e3, wrap_id (by have : IntKind.i64.min = -9223372036854775808 := rfl
                      omega) (by have : IntKind.i64.max = 9223372036854775807 := rfl
                                 omega)]
  omega
theorem four_b (c : Int) : P.bstr [[.int .u8 (P.wrap .u8 c)], [.int .u8 (P.wrap .u8 (P.shr c 8))], [.int .u8 (P.wrap .u8 (P.shr c 16))], [.int .u8 (P.wrap .u8 (P.shr c 24))]] (fourL c) := by
  have h := bstr4 hP c (P.shr c 8) (P.shr c 16) (P.shr c 24)
  have e : [by8 c, by8 (P.shr c 8), by8 (P.shr c 16), by8 (P.shr c 24)] = fourL c := by rw [shr8 hP, shr16 hP, shr24 hP]; rfl
  rwa [e] at h
end
theorem sp_crc (s : List UInt8) (hs : s.length ≤ maxLen) : Spec Try.prog 116 [.str s] Hp.emp (Is (.int .u32 (crcNat s))) :=
  spec_of_calls (us0 := #[.string ⟨s.toArray⟩]) ⟨Try.f116, Try.func116, by decide +kernel, Option.isSome_iff_exists.1 (by decide +kernel)⟩
    (fun F B w us hl hr => us_one (f := fun _ => True) hl hr fun u h => rel_str h) (u0 := .int .u32 (crcNat s)) (fun F B w => .int _ _)
    (fun w => by simpa using crcOf_any ⟨s.toArray⟩ w (by simpa [ByteArray.size] using hs))
def headL (k : Int) (b : List UInt8) : List UInt8 := [by8 k, by8 ((b.length : Int) / 256), by8 (b.length : Int)] ++ b
def frameL (k : Int) (b : List UInt8) : List UInt8 := headL k b ++ fourL (crcNat (headL k b))
def putFr (k : Int) (b : List UInt8) : List UInt8 × Int := if k < 1 ∨ 255 < k then ([], 1) else if 4000 < b.length then ([], 2) else (frameL k b, 0)
def frN (s : List UInt8) : Nat := 256 * (s.getD 1 0).toNat + (s.getD 2 0).toNat
def getFr (s : List UInt8) : Frame × Int × Int := if s.length < 7 then (⟨0, []⟩, 0, 5)
  else if (s.getD 0 0).toNat = 0 ∨ 4000 < frN s then (⟨0, []⟩, 0, 3)
  else if s.length < frN s + 7 then (⟨0, []⟩, 0, 5)
  else if (s.take (frN s + 7)).drop (frN s + 3) ≠ fourL (crcNat (s.take (frN s + 3))) then (⟨0, []⟩, 0, 6)
  else (⟨(s.getD 0 0).toNat, (s.take (frN s + 3)).drop 3⟩, (frN s : Int) + 7, 0)
def ac_four : AC := .seq (.region false [
    ⟨some 2, none, .mov (.c (.string ⟨#[]⟩))⟩])
  (.seq (.region false [
    ⟨some 3, none, .mov (.t 0)⟩,
    ⟨some 4, none, .conv .u8 (.t 3)⟩,
    ⟨some 5, none, .mov (.t 0)⟩,
    ⟨some 6, none, .bin .shr (.t 5) (.c (.int .u64 8))⟩,
    ⟨some 7, none, .conv .u8 (.t 6)⟩,
    ⟨some 8, none, .mov (.t 0)⟩,
    ⟨some 9, none, .bin .shr (.t 8) (.c (.int .u64 16))⟩,
    ⟨some 10, none, .conv .u8 (.t 9)⟩,
    ⟨some 11, none, .mov (.t 0)⟩,
    ⟨some 12, none, .bin .shr (.t 11) (.c (.int .u64 24))⟩,
    ⟨some 13, none, .conv .u8 (.t 12)⟩,
    ⟨some 14, none, .bslice 5 1 [(.t 4), (.t 7), (.t 10), (.t 13)]⟩,
    ⟨some 15, none, .convbs (.t 14)⟩,
    ⟨some 2, none, .mov (.t 15)⟩])
  (.ret))
theorem ok_four : FnOk Try.prog 115 Try.f115 ac_four [.t 2] 1 drawD := ⟨Try.func115, by decide +kernel, by kernel_rfl, by kernel_rfl, by decide +kernel⟩
theorem vc_four (P : Prim) (hP : P = std) (T T1 : CallT) (c : Int)
    (R : S → Prop) (hR : ∀ s0 s' x, x = fourL c → Ent s0 s' → Ret [.t 2] [.str x] s' → R s0) : awp P T T1 ac_four (S0 [.int .u32 c] Hp.emp) R (fun _ _ => False) R := by
  have a1 : P.leP 0 8 := le0 hP (by decide)
  have a2 : P.leP 0 16 := le0 hP (by decide)
  have a3 : P.leP 0 24 := le0 hP (by decide)
  have b1 : P.ltP 8 (P.bits .u32) := ltI hP (by rw [bits32 hP]; decide)
  have b2 : P.ltP 16 (P.bits .u32) := ltI hP (by rw [bits32 hP]; decide)
  have b3 : P.ltP 24 (P.bits .u32) := ltI hP (by rw [bits32 hP]; decide)
  have f1 := four_b hP c
  generalize fourL c = L at f1 hR
  cbv
  repeat' (first
    | (refine And.intro (by assumption) ?_; try cbv)
    | (intro β; try cbv))
  refine ⟨neP_of hP _ _ rfl, _, f1, ?_⟩
  cbv
  exact hR _ _ _ rfl (Ent.refl _) rfl
theorem sp_four (c : Int) : Spec Try.prog 115 [.int .u32 c] Hp.emp (Is (.str (fourL c))) :=
  spec_pure dOk ok_four [.str (fourL c)] (.str _) fun R hR => vc_four std rfl _ _ c R fun s s' x h he hr => by subst h; exact hR s s' he hr
def ac_fput : AC := .seq (.region false [
    ⟨some 1, none, .box 139 2 (.t 0)⟩,
    ⟨some 2, none, .mov (.c (.string ⟨#[]⟩))⟩,
    ⟨some 3, none, .mov (.c (.int .i64 0))⟩])
  (.seq (.seq (.region false [
    ⟨some 6, none, .faddr 0 (.t 1)⟩,
    ⟨some 7, none, .load1 (.t 6)⟩,
    ⟨some 8, none, .bin .lss (.t 7) (.c (.int .i64 1))⟩,
    ⟨some 9, none, .mov (.t 8)⟩,
    ⟨some 10, some (9, false), .faddr 0 (.t 1)⟩,
    ⟨some 11, some (9, false), .load1 (.t 10)⟩,
    ⟨some 12, some (9, false), .bin .gtr (.t 11) (.c (.int .i64 255))⟩,
    ⟨some 13, none, .pick (.t 9) (.c (.bool true)) (.t 12)⟩])
  (.cond (.t 13)
    (.seq (.region false [
      ⟨some 2, none, .mov (.c (.string ⟨#[]⟩))⟩,
      ⟨some 3, none, .mov (.c (.int .i64 1))⟩])
    (.ret))
    (.skip)))
  (.seq (.seq (.region false [
    ⟨some 14, none, .faddr 1 (.t 1)⟩,
    ⟨some 15, none, .load1 (.t 14)⟩,
    ⟨some 16, none, .len true (.t 15)⟩,
    ⟨some 17, none, .bin .gtr (.t 16) (.c (.int .i64 4000))⟩])
  (.cond (.t 17)
    (.seq (.region false [
      ⟨some 2, none, .mov (.c (.string ⟨#[]⟩))⟩,
      ⟨some 3, none, .mov (.c (.int .i64 2))⟩])
    (.ret))
    (.skip)))
  (.seq (.region false [
    ⟨some 18, none, .faddr 1 (.t 1)⟩,
    ⟨some 19, none, .load1 (.t 18)⟩,
    ⟨some 20, none, .len true (.t 19)⟩,
    ⟨some 4, none, .mov (.t 20)⟩])
  (.seq (.region false [
    ⟨some 21, none, .faddr 0 (.t 1)⟩,
    ⟨some 22, none, .load1 (.t 21)⟩,
    ⟨some 23, none, .conv .u8 (.t 22)⟩,
    ⟨some 24, none, .mov (.t 4)⟩,
    ⟨some 25, none, .bin .shr (.t 24) (.c (.int .u64 8))⟩,
    ⟨some 26, none, .conv .u8 (.t 25)⟩,
    ⟨some 27, none, .mov (.t 4)⟩,
    ⟨some 28, none, .conv .u8 (.t 27)⟩,
    ⟨some 29, none, .bslice 5 1 [(.t 23), (.t 26), (.t 28)]⟩,
    ⟨some 30, none, .convbs (.t 29)⟩,
    ⟨some 31, none, .faddr 1 (.t 1)⟩,
    ⟨some 32, none, .load1 (.t 31)⟩,
    ⟨some 33, none, .bin .add (.t 30) (.t 32)⟩,
    ⟨some 5, none, .mov (.t 33)⟩])
  (.seq (.region false [
    ⟨some 34, none, .mov (.t 5)⟩,
    ⟨some 35, none, .mov (.t 5)⟩,
    ⟨some 36, none, .call 116 [(.t 35)]⟩,
    ⟨some 37, none, .call 115 [(.t 36)]⟩,
    ⟨some 38, none, .bin .add (.t 34) (.t 37)⟩,
    ⟨some 2, none, .mov (.t 38)⟩,
    ⟨some 3, none, .mov (.c (.int .i64 0))⟩])
  (.ret))))))
theorem ok_fput : FnOk Try.prog 94 Try.f94 ac_fput [.t 2, .t 3] 1 drawD := ⟨Try.func94, by decide +kernel, by kernel_rfl, by kernel_rfl, by decide +kernel⟩
theorem vc_fput (P : Prim) (hP : P = std) (T T1 : CallT) (k : Int) (b : List UInt8) (cF : List UInt8 → Int) (h1 : ∀ s, s.length ≤ 5000 → Ans T 116 [.str s] (.int .u32 (cF s)))
    (fF : Int → List UInt8) (hfF : ∀ c, (fF c).length = 4) (h2 : ∀ c, Ans T 115 [.int .u32 c] (.str (fF c))) (r : List UInt8) (e : Int)
    (hr : (if k < 1 ∨ 255 < k then ([], 1) else if 4000 < b.length then ([], 2) else (headL k b ++ fF (cF (headL k b)), 0)) = (r, e))
    (R : S → Prop) (hR : ∀ s0 s' x y, x = r ∧ y = e → Ent s0 s' → Ret [.t 2, .t 3] [.str x, .int .i64 y] s' → R s0) : awp P T T1 ac_fput (S0 [.agg [.int .i64 k, .str b]] Hp.emp) R (fun _ _ => False) R := by
  have hsp : P.slen b = (b.length : Int) := slen_eq hP b
  have bad : k < 1 ∨ 255 < k → [] = r ∧ 1 = e := fun h => by rw [if_pos h] at hr; simpa using hr
  cbv
  intro β
  cbv
  refine br_cases (fun h => ?_) (fun h => ?_)
  · have h6 : k < 1 := lt_t hP h
    cbv
    exact hR _ _ _ _ (bad (.inl h6)) (Ent.refl _) rfl
  have h6 : ¬ k < 1 := lt_f hP h
  cbv
  refine br_cases (fun h => ?_) (fun h => ?_)
  · have h7 : 255 < k := lt_t hP h
    cbv
    exact hR _ _ _ _ (bad (.inr h7)) (Ent.refl _) rfl
  have h7 : ¬ 255 < k := lt_f hP h
  rw [if_neg (by ((try simp only [nc] at *); omega))] at hr
  cbv
  refine br_cases (fun h => ?_) (fun h => ?_)
  · have h8 : 4000 < P.slen b := lt_t hP h
    rw [hsp] at h8
    rw [if_pos (by ((try simp only [nc] at *); omega))] at hr
    cbv
    exact hR _ _ _ _ (by simpa using hr) (Ent.refl _) rfl
  have h8 : ¬ 4000 < P.slen b := lt_f hP h
  rw [hsp] at h8
  rw [if_neg (by ((try simp only [nc] at *); omega))] at hr
  simp only [Prod.mk.injEq] at hr
  have a1 : P.leP 0 8 := le0 hP (by decide)
  have b1 : P.ltP 8 (P.bits .i64) := ltI hP (by rw [bits64 hP]; decide)
  have f1 := bstr3 hP k (P.shr (P.slen b) 8) (P.slen b)
  have hd : P.sapp [by8 k, by8 (P.shr (P.slen b) 8), by8 (P.slen b)] b = headL k b := by rw [shr8 hP, hsp, sapp_eq hP]; rfl
  have i1 : P.i64 (P.add (P.slen [by8 k, by8 (P.shr (P.slen b) 8), by8 (P.slen b)]) (P.slen b)) := by
    rw [add_eq hP, hsp, slen_eq hP]; exact i64I hP (by simp only [List.length_cons, List.length_nil]; ((try simp only [nc] at *); omega))
  generalize [by8 k, by8 (P.shr (P.slen b) 8), by8 (P.slen b)] = L at f1 hd i1
  have hl : (headL k b).length = b.length + 3 := by simp [headL]
  have c1 := h1 (headL k b) (by ((try simp only [nc] at *); omega))
  have c2 := h2 (cF (headL k b))
  have i2 : P.i64 (P.add (P.slen (headL k b)) (P.slen (fF (cF (headL k b))))) := by rw [add_eq hP, slen_eq hP, slen_eq hP, hl, hfF]; exact i64I hP (by ((try simp only [nc] at *); omega))
  have e1 := sapp_eq hP (headL k b) (fF (cF (headL k b)))
  rw [← hd] at c1 c2 i2 e1 hr
  clear h1 h2
  cbv
  repeat' (first
    | (refine And.intro (by assumption) ?_; try cbv)
    | (intro β; try cbv))
  refine ⟨neP_of hP _ _ rfl, _, f1, ?_⟩
  cbv
  refine ⟨i1, ?_⟩
  cbv
  refine c1 _ _ ?_
  cbv
  refine c2 _ _ ?_
  cbv
  refine ⟨i2, ?_⟩
  cbv
  exact hR _ _ _ _ ⟨by rw [e1]; exact hr.1, hr.2⟩ (Ent.refl _) rfl
theorem sp_fput (f : Frame) : Spec Try.prog 94 [.agg (encFrame f)] Hp.emp (Is (.tup [.str (putFr f.kind f.body).1, .int .i64 (putFr f.kind f.body).2])) :=
  spec_pure dOk ok_fput [.str (putFr f.kind f.body).1, .int .i64 (putFr f.kind f.body).2] (.tup _ (by simp; exact ⟨.str _, .int _ _⟩)) fun R hR => vc_fput std rfl _ _ f.kind f.body (fun s => crcNat s)
    (fun s hs => ansSame (sp_crc s (by have : maxLen = 9223372036854775807 := by decide
                                       ((try simp only [nc] at *); omega))) rfl rfl) fourL (fun _ => rfl) (fun c => ansSame (sp_four c) rfl rfl) _ _ rfl R fun s0 s' x y h he hr => by obtain ⟨rfl, rfl⟩ := h; exact hR s0 s' he hr
theorem fr_facts {P : Prim} (hP : P = std) {s : List UInt8} {nn : Int} (h : frN s + 7 ≤ s.length) (hn : nn = (frN s : Int)) :
    P.leP 0 (P.add nn 3) ∧ P.leP (P.add nn 3) (P.add nn 7) ∧ P.leP (P.add nn 7) (P.slen s) ∧ P.leP (P.add nn 3) (P.slen s) ∧ P.leP 3 (P.add nn 3) ∧ P.leP 0 3 ∧ P.leP 0 0
    ∧ P.ssub s (P.add nn 3) (P.add nn 7) = (s.take (frN s + 7)).drop (frN s + 3) ∧ P.ssub s 0 (P.add nn 3) = s.take (frN s + 3) ∧ P.ssub s 3 (P.add nn 3) = (s.take (frN s + 3)).drop 3 := by
  have n3 : P.add nn 3 = ((frN s + 3 : Nat) : Int) := by rw [add_eq hP, hn]; rfl
  have n7 : P.add nn 7 = ((frN s + 7 : Nat) : Int) := by rw [add_eq hP, hn]; rfl
  rw [n3, n7]
  generalize frN s = N at h
  have hsp : P.slen s = (s.length : Int) := slen_eq hP s
  refine ⟨le0 hP (by omega), leI hP (by omega), leI hP (by rw [hsp]; omega), leI hP (by rw [hsp]; omega), leI hP (by omega), le0 hP (by decide), le0 hP (by decide), ?_, ?_, ?_⟩
  · subst hP; rfl
  · subst hP; rfl
  · subst hP; rfl
def ac_fget : AC := .seq (.region false [
    ⟨some 2, none, .alloc 139 [(.int .i64 0), (.string ⟨#[]⟩)]⟩,
    ⟨some 3, none, .mov (.c (.int .i64 0))⟩,
    ⟨some 4, none, .mov (.c (.int .i64 0))⟩])
  (.seq (.seq (.region false [
    ⟨some 6, none, .mov (.t 0)⟩,
    ⟨some 7, none, .len true (.t 6)⟩,
    ⟨some 8, none, .bin .lss (.t 7) (.c (.int .i64 7))⟩])
  (.cond (.t 8)
    (.seq (.region false [
      ⟨some 9, none, .build [(.int .i64 0), (.string ⟨#[]⟩)] []⟩,
      ⟨none, none, .store 2 (.t 2) (.t 9)⟩,
      ⟨some 3, none, .mov (.c (.int .i64 0))⟩,
      ⟨some 4, none, .mov (.c (.int .i64 5))⟩])
    (.ret))
    (.skip)))
  (.seq (.region true [
    ⟨some 10, none, .mov (.t 0)⟩,
    ⟨some 11, none, .ixs (.t 10) (.c (.int .i64 1))⟩,
    ⟨some 12, none, .conv .i64 (.t 11)⟩,
    ⟨some 13, none, .bin .shl (.t 12) (.c (.int .u64 8))⟩,
    ⟨some 14, none, .mov (.t 0)⟩,
    ⟨some 15, none, .ixs (.t 14) (.c (.int .i64 2))⟩,
    ⟨some 16, none, .conv .i64 (.t 15)⟩,
    ⟨some 17, none, .bin .or (.t 13) (.t 16)⟩,
    ⟨some 5, none, .mov (.t 17)⟩])
  (.seq (.seq (.region false [
    ⟨some 18, none, .mov (.t 0)⟩,
    ⟨some 19, none, .ixs (.t 18) (.c (.int .i64 0))⟩,
    ⟨some 20, none, .bin .eql (.t 19) (.c (.int .u8 0))⟩,
    ⟨some 21, none, .mov (.t 20)⟩,
    ⟨some 22, some (21, false), .mov (.t 5)⟩,
    ⟨some 23, some (21, false), .bin .gtr (.t 22) (.c (.int .i64 4000))⟩,
    ⟨some 24, none, .pick (.t 21) (.c (.bool true)) (.t 23)⟩])
  (.cond (.t 24)
    (.seq (.region false [
      ⟨some 25, none, .build [(.int .i64 0), (.string ⟨#[]⟩)] []⟩,
      ⟨none, none, .store 2 (.t 2) (.t 25)⟩,
      ⟨some 3, none, .mov (.c (.int .i64 0))⟩,
      ⟨some 4, none, .mov (.c (.int .i64 3))⟩])
    (.ret))
    (.skip)))
  (.seq (.seq (.region false [
    ⟨some 26, none, .mov (.t 0)⟩,
    ⟨some 27, none, .len true (.t 26)⟩,
    ⟨some 28, none, .mov (.t 5)⟩,
    ⟨some 29, none, .bin .add (.t 28) (.c (.int .i64 7))⟩,
    ⟨some 30, none, .bin .lss (.t 27) (.t 29)⟩])
  (.cond (.t 30)
    (.seq (.region false [
      ⟨some 31, none, .build [(.int .i64 0), (.string ⟨#[]⟩)] []⟩,
      ⟨none, none, .store 2 (.t 2) (.t 31)⟩,
      ⟨some 3, none, .mov (.c (.int .i64 0))⟩,
      ⟨some 4, none, .mov (.c (.int .i64 5))⟩])
    (.ret))
    (.skip)))
  (.seq (.seq (.region true [
    ⟨some 32, none, .mov (.t 0)⟩,
    ⟨some 33, none, .mov (.t 5)⟩,
    ⟨some 34, none, .bin .add (.t 33) (.c (.int .i64 3))⟩,
    ⟨some 35, none, .mov (.t 5)⟩,
    ⟨some 36, none, .bin .add (.t 35) (.c (.int .i64 7))⟩,
    ⟨some 37, none, .slstr (.t 32) (some (.t 34)) (some (.t 36))⟩,
    ⟨some 38, none, .mov (.t 0)⟩,
    ⟨some 39, none, .mov (.t 5)⟩,
    ⟨some 40, none, .bin .add (.t 39) (.c (.int .i64 3))⟩,
    ⟨some 41, none, .slstr (.t 38) none (some (.t 40))⟩,
    ⟨some 42, none, .call 116 [(.t 41)]⟩,
    ⟨some 43, none, .call 115 [(.t 42)]⟩,
    ⟨some 44, none, .bin .neq (.t 37) (.t 43)⟩])
  (.cond (.t 44)
    (.seq (.region false [
      ⟨some 45, none, .build [(.int .i64 0), (.string ⟨#[]⟩)] []⟩,
      ⟨none, none, .store 2 (.t 2) (.t 45)⟩,
      ⟨some 3, none, .mov (.c (.int .i64 0))⟩,
      ⟨some 4, none, .mov (.c (.int .i64 6))⟩])
    (.ret))
    (.skip)))
  (.seq (.region true [
    ⟨some 46, none, .mov (.t 0)⟩,
    ⟨some 47, none, .ixs (.t 46) (.c (.int .i64 0))⟩,
    ⟨some 48, none, .conv .i64 (.t 47)⟩,
    ⟨some 49, none, .mov (.t 0)⟩,
    ⟨some 50, none, .mov (.t 5)⟩,
    ⟨some 51, none, .bin .add (.t 50) (.c (.int .i64 3))⟩,
    ⟨some 52, none, .slstr (.t 49) (some (.c (.int .i64 3))) (some (.t 51))⟩,
    ⟨some 53, none, .build [(.int .i64 0), (.string ⟨#[]⟩)] [(0, 1, (.t 48)), (1, 1, (.t 52))]⟩,
    ⟨some 54, none, .mov (.t 5)⟩,
    ⟨some 55, none, .bin .add (.t 54) (.c (.int .i64 7))⟩,
    ⟨none, none, .store 2 (.t 2) (.t 53)⟩,
    ⟨some 3, none, .mov (.t 55)⟩,
    ⟨some 4, none, .mov (.c (.int .i64 0))⟩])
  (.ret)))))))
theorem ok_fget : FnOk Try.prog 98 Try.f98 ac_fget [.cn 2 2, .t 3, .t 4] 1 drawD := ⟨Try.func98, by decide +kernel, by kernel_rfl, by kernel_rfl, by decide +kernel⟩
theorem vc_fget (P : Prim) (hP : P = std) (T T1 : CallT) (s : List UInt8) (hs : s.length ≤ maxLen) (cF : List UInt8 → Int) (h1 : ∀ s, s.length ≤ 5000 → Ans T1 116 [.str s] (.int .u32 (cF s)))
    (hcF : ∀ s, cF s = crcNat s) (fF : Int → List UInt8) (hfF : ∀ c, fF c = fourL c) (h2 : ∀ c, Ans T1 115 [.int .u32 c] (.str (fF c))) (rk : Int) (rb : List UInt8) (rn re : Int) (hr : getFr s = (⟨rk, rb⟩, rn, re))
    (R : S → Prop) (hR : ∀ s0 s' k b n e, (k = rk ∧ b = rb ∧ n = rn ∧ e = re) → Ent s0 s' → Ret [.cn 2 2, .t 3, .t 4] [.agg [.int .i64 k, .str b], .int .i64 n, .int .i64 e] s' → R s0) : awp P T T1 ac_fget (S0 [.str s] Hp.emp) R (fun _ _ => False) R := by
  have hml : maxLen = 9223372036854775807 := by decide
  have hsp : P.slen s = (s.length : Int) := slen_eq hP s
  have q0 : P.sat s 0 = ((s.getD 0 0).toNat : Int) := by subst hP; rfl
  have q1 : P.sat s 1 = ((s.getD 1 0).toNat : Int) := by subst hP; rfl
  have q2 : P.sat s 2 = ((s.getD 2 0).toNat : Int) := by subst hP; rfl
  have u0 := (s.getD 0 0).toNat_lt
  have u1 := (s.getD 1 0).toNat_lt
  have u2 := (s.getD 2 0).toNat_lt
  have w1 : P.wrap .i64 (P.sat s 1) = ((s.getD 1 0).toNat : Int) := by rw [q1]; exact w64 hP (by ((try simp only [nc] at *); omega))
  have w2 : P.wrap .i64 (P.sat s 2) = ((s.getD 2 0).toNat : Int) := by rw [q2]; exact w64 hP (by ((try simp only [nc] at *); omega))
  have w0 : P.wrap .i64 (P.sat s 0) = ((s.getD 0 0).toNat : Int) := by rw [q0]; exact w64 hP (by ((try simp only [nc] at *); omega))
  unfold getFr at hr
  cbv
  intro β
  cbv
  refine br_cases (fun h => ?_) (fun h => ?_)
  · have h7 : P.slen s < 7 := lt_t hP h
    rw [hsp] at h7
    rw [if_pos (by ((try simp only [nc] at *); omega))] at hr
    cbv
    exact hR _ _ _ _ _ _ (by simpa [and_assoc] using hr) (Ent.refl _) ⟨rfl, rfl, Nat.zero_lt_succ 0, Nat.le_refl 2, rfl⟩
  have h7 : ¬ P.slen s < 7 := lt_f hP h
  rw [hsp] at h7
  rw [if_neg (by ((try simp only [nc] at *); omega))] at hr
  have a0 : P.leP 0 0 := le0 hP (by decide)
  have a1 : P.leP 0 1 := le0 hP (by decide)
  have a2 : P.leP 0 2 := le0 hP (by decide)
  have a3 : P.ltP 0 (P.slen s) := ltI hP (by rw [hsp]; ((try simp only [nc] at *); omega))
  have a4 : P.ltP 1 (P.slen s) := ltI hP (by rw [hsp]; ((try simp only [nc] at *); omega))
  have a5 : P.ltP 2 (P.slen s) := ltI hP (by rw [hsp]; ((try simp only [nc] at *); omega))
  have a6 : P.leP 0 8 := le0 hP (by decide)
  have a7 : P.ltP 8 64 := ltI hP (by decide)
  have a8 : P.i64 (P.shl (P.wrap .i64 (P.sat s 1)) 8) := by rw [w1, shl8 hP]; exact i64I hP (by ((try simp only [nc] at *); omega))
  obtain ⟨nn, hnn⟩ : ∃ nn, nn = P.bor .i64 (P.shl (P.wrap .i64 (P.sat s 1)) 8) (P.wrap .i64 (P.sat s 2)) := ⟨_, rfl⟩
  have hn : nn = (frN s : Int) := by rw [hnn, w1, w2, shl8 hP, bor8 hP]; unfold frN; ((try simp only [nc] at *); omega)
  have n3 : P.add nn 3 = (frN s : Int) + 3 := by rw [add_eq hP, hn]
  have n7 : P.add nn 7 = (frN s : Int) + 7 := by rw [add_eq hP, hn]
  have hnb : frN s ≤ 70000 := by unfold frN; omega
  have i3 : P.i64 (P.add nn 3) := by rw [n3]; exact i64I hP (by ((try simp only [nc] at *); omega))
  have i7 : P.i64 (P.add nn 7) := by rw [n7]; exact i64I hP (by ((try simp only [nc] at *); omega))
  rw [hnn] at hn n3 n7 i3 i7
  clear hnn
  cbv
  repeat' (first
    | (refine And.intro (by assumption) ?_; try cbv)
    | (intro β; try cbv))
  have badf : (s.getD 0 0).toNat = 0 ∨ 4000 < frN s → (0 : Int) = rk ∧ ([] : List UInt8) = rb ∧ (0 : Int) = rn ∧ (3 : Int) = re := fun h => by rw [if_pos h] at hr; simpa [and_assoc] using hr
  refine br_cases (fun h => ?_) (fun h => ?_)
  · have h8 : P.sat s 0 = 0 := eq_t hP h
    rw [q0] at h8
    cbv
    exact hR _ _ _ _ _ _ (badf (.inl (by ((try simp only [nc] at *); omega)))) (Ent.refl _) ⟨rfl, rfl, Nat.zero_lt_succ 0, Nat.le_refl 2, rfl⟩
  have h8 : ¬ P.sat s 0 = 0 := eq_f hP h
  rw [q0] at h8
  cbv
  refine br_cases (fun h => ?_) (fun h => ?_)
  · have h9 := Int.lt_of_lt_of_le (lt_t hP h) (Int.le_of_eq hn)
    cbv
    exact hR _ _ _ _ _ _ (badf (.inr (by ((try simp only [nc] at *); omega)))) (Ent.refl _) ⟨rfl, rfl, Nat.zero_lt_succ 0, Nat.le_refl 2, rfl⟩
  have h9 : ¬ (4000 : Int) < (frN s : Int) := fun g => lt_f hP h (Int.lt_of_lt_of_le g (Int.le_of_eq hn.symm))
  clear badf
  rw [if_neg (by ((try simp only [nc] at *); omega))] at hr
  cbv
  refine ⟨i7, ?_⟩
  refine br_cases (fun h => ?_) (fun h => ?_)
  · have h10 : P.slen s < (frN s : Int) + 7 := Int.lt_of_lt_of_le (lt_t hP h) (Int.le_of_eq n7)
    rw [hsp] at h10
    rw [if_pos (by ((try simp only [nc] at *); omega))] at hr
    cbv
    exact hR _ _ _ _ _ _ (by simpa [and_assoc] using hr) (Ent.refl _) ⟨rfl, rfl, Nat.zero_lt_succ 0, Nat.le_refl 2, rfl⟩
  have h10 : ¬ P.slen s < (frN s : Int) + 7 := fun g => lt_f hP h (Int.lt_of_lt_of_le g (Int.le_of_eq n7.symm))
  rw [hsp] at h10
  rw [if_neg (by ((try simp only [nc] at *); omega))] at hr
  clear h h7 h8
  obtain ⟨F1, F2, F3, F4, F5, F6, F7, F8, F9, F10⟩ := fr_facts hP (by ((try simp only [nc] at *); omega)) hn
  rw [← F8, ← F10, ← F9] at hr
  have c1 := h1 (P.ssub s 0 (P.add (P.bor .i64 (P.shl (P.wrap .i64 (P.sat s 1)) 8) (P.wrap .i64 (P.sat s 2))) 3)) (by rw [F9, List.length_take]; ((try simp only [nc] at *); omega))
  have c2 := h2 (cF (P.ssub s 0 (P.add (P.bor .i64 (P.shl (P.wrap .i64 (P.sat s 1)) 8) (P.wrap .i64 (P.sat s 2))) 3)))
  clear h1 h2 h9
  cbv
  repeat' (first
    | (refine And.intro (by assumption) ?_; try cbv)
    | (intro β; try cbv))
  refine c1 _ _ ?_
  cbv
  refine c2 _ _ ?_
  cbv
  refine br_cases (fun h => ?_) (fun h => ?_)
  · have g := sne_t hP h
    rw [hfF, hcF] at g
    rw [if_pos g] at hr
    cbv
    exact hR _ _ _ _ _ _ (by simpa [and_assoc] using hr) (Ent.refl _) ⟨rfl, rfl, Nat.zero_lt_succ 0, Nat.le_refl 2, rfl⟩
  · have g := sne_f hP h
    rw [hfF, hcF] at g
    rw [if_neg (fun x => x g)] at hr
    simp only [Prod.mk.injEq, Frame.mk.injEq] at hr
    cbv
    repeat' (first
      | (refine And.intro (by assumption) ?_; try cbv)
      | (intro β; try cbv))
    exact hR _ _ _ _ _ _ ⟨w0.trans hr.1.1, hr.1.2, n7.trans hr.2.1, hr.2.2⟩ (Ent.refl _) ⟨rfl, rfl, Nat.zero_lt_succ 0, Nat.le_refl 2, rfl⟩
theorem sp_fget (s : List UInt8) (hs : s.length ≤ maxLen) : Spec Try.prog 98 [.str s] Hp.emp (Is (.tup [.agg (encFrame (getFr s).1), .int .i64 (getFr s).2.1, .int .i64 (getFr s).2.2])) :=
  spec_pure dOk ok_fget [.agg (encFrame (getFr s).1), .int .i64 (getFr s).2.1, .int .i64 (getFr s).2.2] (.tup _ (by simp [encFrame]; exact ⟨.agg _ (by simp; exact ⟨.int _ _, .str _⟩), .int _ _, .int _ _⟩)) fun R hR => vc_fget std rfl _ _ s hs (fun s => crcNat s)
    (fun s hs => ansP (sp_crc s (by have : maxLen = 9223372036854775807 := by decide
                                    omega)) (fun _ => args_plain rfl) rfl) (fun _ => rfl) fourL (fun _ => rfl) (fun c => ansP (sp_four c) (fun _ => args_plain rfl) rfl) _ _ _ _ rfl R
    fun s0 s' k b n e h he hr => by obtain ⟨rfl, rfl, rfl, rfl⟩ := h; exact hR s0 s' he hr
end Go.Proofs.Ytobngncjflogcaa.AM

set_option linter.unusedVariables false
set_option linter.unusedSimpArgs false
namespace Go.Proofs.Ytobngncjflogcaa.AM
open Go Go.RowKit
set_option maxRecDepth 100000
set_option maxHeartbeats 2000000
def frRows (l : List Frame) : List (List V) := l.map encFrame
def scanG : Nat → List UInt8 → List Frame × Int
  | 0, _ => ([], 0)
  | m + 1, s => if (getFr s).2.2 ≠ 0 then ([], 0) else ((getFr s).1 :: (scanG m (s.drop (getFr s).2.1.toNat)).1, (getFr s).2.1 + (scanG m (s.drop (getFr s).2.1.toNat)).2)
def scanF (s : List UInt8) : List Frame × Int := scanG (s.length + 1) s
theorem getFr_ok {s : List UInt8} (h : (getFr s).2.2 = 0) : 7 ≤ (getFr s).2.1 ∧ (getFr s).2.1 ≤ (s.length : Int) ∧ 1 ≤ (getFr s).1.kind ∧ (getFr s).1.kind ≤ 255 ∧ (getFr s).2.1 = ((getFr s).1.body.length : Int) + 7 ∧ (getFr s).1.body.length ≤ 4000 := by
  unfold getFr at h ⊢
  by_cases h1 : s.length < 7
  · rw [if_pos h1] at h; exact absurd h (by decide)
  rw [if_neg h1] at h ⊢
  by_cases h2 : (s.getD 0 0).toNat = 0 ∨ 4000 < frN s
  · rw [if_pos h2] at h; exact absurd h (by decide)
  rw [if_neg h2] at h ⊢
  by_cases h3 : s.length < frN s + 7
  · rw [if_pos h3] at h; exact absurd h (by decide)
  rw [if_neg h3] at h ⊢
  by_cases h4 : (s.take (frN s + 7)).drop (frN s + 3) ≠ fourL (crcNat (s.take (frN s + 3)))
  · rw [if_pos h4] at h; exact absurd h (by decide)
  rw [if_neg h4]
  have := (s.getD 0 0).toNat_lt
  simp only [List.length_drop, List.length_take]
  omega
theorem scanG_eq : ∀ (m : Nat) (s : List UInt8), s.length < m → scanG m s = scanF s
  | 0, s, h => absurd h (Nat.not_lt_zero _)
  | m + 1, s, h => by
    unfold scanF
    rw [scanG, scanG]
    by_cases he : (getFr s).2.2 ≠ 0
    · rw [if_pos he, if_pos he]
    · have hg := getFr_ok (Decidable.of_not_not he)
      have hl : (s.drop (getFr s).2.1.toNat).length < s.length := by rw [List.length_drop]; omega
      rw [if_neg he, if_neg he, scanG_eq m _ (by omega)]
      by_cases hm : m + 1 = s.length + 1
      · have : m = s.length := by omega
        subst this
        rw [scanG_eq s.length _ hl]
      · rw [scanG_eq s.length _ hl]
  termination_by m s => (s.length, m)
  decreasing_by all_goals (simp_wf; rw [Prod.lex_def]; simp only []; omega)
theorem scan_step (s : List UInt8) : scanF s = if (getFr s).2.2 ≠ 0 then ([], 0) else ((getFr s).1 :: (scanF (s.drop (getFr s).2.1.toNat)).1, (getFr s).2.1 + (scanF (s.drop (getFr s).2.1.toNat)).2) := by
  show scanG (s.length + 1) s = _
  rw [scanG]
  by_cases he : (getFr s).2.2 ≠ 0
  · rw [if_pos he, if_pos he]
  · have hg := getFr_ok (Decidable.of_not_not he)
    rw [if_neg he, if_neg he, scanG_eq s.length _ (by rw [List.length_drop]; omega)]
theorem scan_len : ∀ (n : Nat) (s : List UInt8), s.length ≤ n → (scanF s).1.length * 7 ≤ s.length ∧ 0 ≤ (scanF s).2 ∧ (scanF s).2 ≤ (s.length : Int)
  | 0, s, h => by
    rw [scan_step]
    have : (getFr s).2.2 ≠ 0 := by
      intro hg
      have := getFr_ok hg
      omega
    rw [if_pos this]
    simp
  | n + 1, s, h => by
    rw [scan_step]
    by_cases he : (getFr s).2.2 ≠ 0
    · rw [if_pos he]; simp
    · have hg := getFr_ok (Decidable.of_not_not he)
      rw [if_neg he]
      have hd : (s.drop (getFr s).2.1.toNat).length = s.length - (getFr s).2.1.toNat := List.length_drop ..
      have ih := scan_len n (s.drop (getFr s).2.1.toNat) (by omega)
      simp only [List.length_cons]
      omega
theorem frRows_sz (l : List Frame) : ∀ r ∈ frRows l, r.length = 2 := by
  intro r hr
  obtain ⟨f, _, rfl⟩ := List.mem_map.1 hr
  rfl
theorem frRows_fz (l : List Frame) : ∀ r ∈ frRows l, ∀ v ∈ r, Fz v := by
  intro r hr v hv
  obtain ⟨f, _, rfl⟩ := List.mem_map.1 hr
  simp [encFrame] at hv
  rcases hv with rfl | rfl
  · exact .int _ _
  · exact .str _
def ac_scan : AC := .seq (.region false [
    ⟨some 2, none, .mov (.c (.slice none 0 0))⟩,
    ⟨some 3, none, .mov (.c (.int .i64 0))⟩])
  (.seq (.region false [
    ⟨some 4, none, .mov (.c (.slice none 0 0))⟩])
  (.seq (.region false [
    ⟨some 5, none, .mov (.c (.int .i64 0))⟩])
  (.block 0 (.loop (.block 1 (.seq (.region false [
      ⟨some 10, none, .mov (.t 0)⟩,
      ⟨some 11, none, .mov (.t 5)⟩,
      ⟨some 12, none, .slstr (.t 10) (some (.t 11)) none⟩,
      ⟨some 13, none, .call 98 [(.t 12)]⟩,
      ⟨some 9, none, .mov (.t 13)⟩,
      ⟨some 14, none, .ext 0 (.t 9)⟩,
      ⟨some 15, none, .ext 1 (.t 9)⟩,
      ⟨some 16, none, .ext 2 (.t 9)⟩,
      ⟨some 6, none, .alloc 139 [(.int .i64 0), (.string ⟨#[]⟩)]⟩,
      ⟨none, none, .store 2 (.t 6) (.t 14)⟩,
      ⟨some 7, none, .mov (.t 15)⟩,
      ⟨some 8, none, .mov (.t 16)⟩])
    (.seq (.seq (.region false [
      ⟨some 17, none, .mov (.t 8)⟩,
      ⟨some 18, none, .bin .neq (.t 17) (.c (.int .i64 0))⟩])
    (.cond (.t 18)
      (.seq (.region false [
        ⟨some 19, none, .mov (.t 4)⟩,
        ⟨some 20, none, .mov (.t 5)⟩,
        ⟨some 2, none, .mov (.t 19)⟩,
        ⟨some 3, none, .mov (.t 20)⟩])
      (.ret))
      (.skip)))
    (.seq (.region false [
      ⟨some 21, none, .mov (.t 4)⟩,
      ⟨some 22, none, .loadn 2 (.t 6)⟩,
      ⟨some 23, none, .bslice 139 2 [(.t 22)]⟩,
      ⟨some 24, none, .append 139 2 24 (.t 21) (.t 23)⟩,
      ⟨some 4, none, .mov (.t 24)⟩])
    (.region false [
      ⟨some 25, none, .mov (.t 5)⟩,
      ⟨some 26, none, .mov (.t 7)⟩,
      ⟨some 27, none, .bin .add (.t 25) (.t 26)⟩,
      ⟨some 5, none, .mov (.t 27)⟩])))))))))
theorem ok_scan : FnOk Try.prog 68 Try.f68 ac_scan [.t 2, .t 3] 1 drawD := ⟨Try.func68, by decide +kernel, by kernel_rfl, by kernel_rfl, by decide +kernel⟩
structure YSc (s : List UInt8) where
  good : Int
  out : List Frame
  b : Option Nat
  c : Nat
  rows : List (List V)
  hg : 0 ≤ good ∧ good ≤ (s.length : Int)
  hs : scanF s = (out ++ (scanF (s.drop good.toNat)).1, good + (scanF (s.drop good.toNat)).2)
  ho : (out.length : Int) * 7 ≤ good
  hrows : rows = frRows out
  hc : c = out.length
theorem vc_scan (P : Prim) (hP : P = std) (T T1 : CallT) (s : List UInt8) (hs : s.length ≤ 1048576) (fk : List UInt8 → Int) (fb : List UInt8 → List UInt8) (fn fe : List UInt8 → Int)
    (hf : ∀ s, getFr s = (⟨fk s, fb s⟩, fn s, fe s)) (h1 : ∀ s, s.length ≤ 1048576 → Ans T 98 [.str s] (.tup [.agg [.int .i64 (fk s), .str (fb s)], .int .i64 (fn s), .int .i64 (fe s)]))
    (rl : List Frame) (rg : Int) (hr : scanF s = (rl, rg)) (rr : List (List V)) (hrr : rr = frRows rl)
    (R : S → Prop) (hR : ∀ x, x = rg → RetSl [.t 2, .t 3] 2 rr [.int .i64 x] R) : awp P T T1 ac_scan (S0 [.str s] Hp.emp) R (fun _ _ => False) R := by
  have hsp : P.slen s = (s.length : Int) := slen_eq hP s
  cbv
  refine ⟨YSc s, fun y => [(0, .str s), (4, .own 1000024 y.b 2 y.c), (5, .int .i64 y.good)], fun y => [(1000024, ⟨y.b, 139, 2, y.rows⟩)], fun y => s.length - y.good.toNat,
    ⟨_, Ent.nil (i := 4) (k := 1000024) (ty := 139) (sz := 2) rfl rfl, ⟨0, [], _, _, _, by omega, by simp, by simp, rfl, rfl⟩, ⟨rfl, rfl, rfl, trivial⟩, ⟨rfl, trivial⟩⟩, ?_⟩
  rintro ⟨good, out, b, c, rows, hg, hsc, ho, hrows, hc⟩
  replace hg : 0 ≤ good ∧ good ≤ (s.length : Int) := hg
  have l1 : P.leP 0 good := le0 hP hg.1
  have l2 : P.leP good (P.slen s) := leI hP (by rw [hsp]; exact hg.2)
  have l3 : P.leP (P.slen s) (P.slen s) := leI hP (Int.le_refl _)
  have e1 : P.ssub s good (P.slen s) = s.drop good.toNat := by
    rw [hsp]; subst hP
    show (s.take ((s.length : Int)).toNat).drop good.toNat = _
    rw [Int.toNat_natCast, List.take_length]
  have hdl : ((s.drop good.toNat).length : Int) = (s.length : Int) - good := by rw [List.length_drop]; ((try simp only [nc] at *); omega)
  have c1 := h1 (s.drop good.toNat) (by ((try simp only [nc] at *); omega))
  have f1 := hf (s.drop good.toNat)
  have hst := scan_step (s.drop good.toNat)
  have hok := @getFr_ok (s.drop good.toNat)
  rw [f1] at hst hok
  simp only [] at hst hok
  rw [← e1] at c1
  clear h1
  cbv
  refine ⟨l1, l2, l3, ?_⟩
  refine c1 _ _ ?_
  rw [e1]
  clear c1 f1 hf
  generalize fk (s.drop good.toNat) = k1 at hst hok ⊢
  generalize fb (s.drop good.toNat) = b1 at hst hok ⊢
  generalize fn (s.drop good.toNat) = n1 at hst hok ⊢
  generalize fe (s.drop good.toNat) = e1 at hst hok ⊢
  cbv
  repeat' (first
    | (refine And.intro (by first | assumption | decide) ?_; try cbv)
    | (intro β; try cbv))
  refine br_cases (fun h => ?_) (fun h => ?_)
  · have hx := ne_t hP h
    rw [if_pos hx] at hst
    rw [hst] at hsc
    simp only [List.append_nil, Int.add_zero] at hsc
    rw [hr] at hsc
    simp only [Prod.mk.injEq] at hsc
    cbv
    exact (hR _ hsc.2.symm).2.1 _ _ _ _ _ _ _ (Ent.refl _) rfl rfl ⟨by rw [hc, hrr, hsc.1]; simp [frRows], by rw [hrows, hrr, hsc.1]⟩
  have hx := ne_f hP h
  rw [if_neg (fun x => x hx)] at hst
  have hg1 := hok hx
  rw [hdl] at hg1
  have hoL : (out.length : Int) ≤ 1048576 := by ((try simp only [nc] at *); omega)
  have f4 : P.neP rows c := neP_of hP _ _ (by rw [hrows, hc]; simp [frRows])
  have f5 : ∀ r, P.bytes (P.add (P.int c) (P.rlen [r])) 24 := by intro r; subst hP; show ((c : Int) + 1) * 24 ≤ _; rw [hc]; ((try simp only [nc] at *); omega)
  have f6 : ∀ r, P.neP [r] 1 := by intro r; subst hP; rfl
  have f7 : P.rapp rows [[.int .i64 k1, .str b1]] = frRows (out ++ [⟨k1, b1⟩]) := by rw [hrows]; subst hP; simp [std, frRows, encFrame]
  have f8 : ∀ r : List V, P.nadd c (P.rlenN [r]) = (out ++ [(⟨k1, b1⟩ : Frame)]).length := by intro r; rw [hc]; subst hP; simp [std]
  have a1 : P.add good n1 = good + n1 := add_eq hP _ _
  have a2 : P.i64 (P.add good n1) := by rw [a1]; exact i64I hP (by ((try simp only [nc] at *); omega))
  have a3 : (s.drop good.toNat).drop n1.toNat = s.drop (P.add good n1).toNat := by rw [List.drop_drop, a1]; congr 1; ((try simp only [nc] at *); omega)
  have hsc2 : scanF s = ((out ++ [⟨k1, b1⟩]) ++ (scanF (s.drop (P.add good n1).toNat)).1, P.add good n1 + (scanF (s.drop (P.add good n1).toNat)).2) := by
    rw [hsc, hst, a3, a1]
    simp only [List.append_assoc, List.singleton_append, Prod.mk.injEq, true_and]
    ((try simp only [nc] at *); omega)
  have hg2 : 0 ≤ P.add good n1 ∧ P.add good n1 ≤ (s.length : Int) := by rw [a1]; ((try simp only [nc] at *); omega)
  have ho2 : ((out ++ [(⟨k1, b1⟩ : Frame)]).length : Int) * 7 ≤ P.add good n1 := by rw [a1, List.length_append]; simp only [List.length_cons, List.length_nil]; ((try simp only [nc] at *); omega)
  have hm : s.length - (P.add good n1).toNat < s.length - good.toNat := by rw [a1]; ((try simp only [nc] at *); omega)
  cbv
  repeat' (first
    | (refine And.intro (by first | assumption | decide | exact f6 _ | exact f5 _) ?_; try cbv)
    | (intro β2; try cbv))
  exact ⟨_, Ent.refl _, ⟨_, out ++ [⟨k1, b1⟩], _, _, _, hg2, hsc2, ho2, f7, f8 _⟩, ⟨rfl, rfl, rfl, trivial⟩, ⟨rfl, trivial⟩, hm⟩
theorem sp_scan (s : List UInt8) (hs : s.length ≤ 1048576) : Spec Try.prog 68 [.str s] Hp.emp (Is (.tup [.sl false 2 (frRows (scanF s).1), .int .i64 (scanF s).2])) :=
  spec_frz dOk ok_scan fun R hR => vc_scan std rfl _ _ s hs (fun s => (getFr s).1.kind) (fun s => (getFr s).1.body) (fun s => (getFr s).2.1) (fun s => (getFr s).2.2) (fun _ => rfl)
    (fun s hs => ansSame (sp_fget s (by have : maxLen = 9223372036854775807 := by decide
                                        omega)) rfl rfl) (scanF s).1 (scanF s).2 rfl _ rfl R fun x hx => by subst hx; exact retSl_of (frRows_sz _) (frRows_fz _) (int_fz _) hR
end Go.Proofs.Ytobngncjflogcaa.AM
