/-
  Texts of the plain machine, put together: what the law ShopOpens reaches.
-/
import Derived.Test.YtobngncjflogcaaShopOpens7
import Derived.Test.YtobngncjflogcaaShopOpens4
import Derived.Test.YtobngncjflogcaaShopOpens5
import Derived.WalkKit
import Derived.Laws.BitsAllLaws
import Derived.Test.YtobngncjflogcaaRows
import Derived.WalkSpells
import Derived.WalkLawsBesides
import Derived.Lib.Hide
import Derived.Laws.ResultCell
import Derived.Deep.LoopGhost
import Derived.Deep.WholeRow
set_option linter.unusedVariables false
set_option linter.unusedSimpArgs false
namespace Go.Proofs.Ytobngncjflogcaa
open Go.RowKit


set_option maxRecDepth 100000 in
set_option maxHeartbeats 1000000 in
theorem unnum_any (s : ByteArray) (w : World) (hs : s.size ≤ maxLen) :
    Calls Try.prog 103 #[.string s] w fun e w' => e = .returned (.tuple #[.int .i64 (getS s.data.toList).1, .int .i64 (getS s.data.toList).2.1, .int .i64 (getS s.data.toList).2.2]) ∧ Below w.heap.size w w' := by
  unfold maxLen at hs
  go_enter Try.func103, Try.ntmps103
  go_wp2_with fail
  go_loop [5] (fun i => ∃ k : Nat, k ≤ s.size ∧ i = .int .i64 k ∧ Hid (HiTo s k)) (fun i => s.size - (intOf i).toNat)
  case atStart => exact ⟨0, Nat.zero_le _, rfl, fun j h hj => by omega⟩
  case round =>
    obtain ⟨k, hk, rfl, HH⟩ := hrel
    by_cases hlt : k < s.size
    · have hbyte : s[k].toNat < 256 := s[k].toNat_lt
      by_cases hb : 128 ≤ s[k].toNat
      · have HS := Lib.hid (HH.out.snoc hlt hb)
        have hb2 : (128 : Int) ≤ (s[k].toNat : Int) := by omega
        go_wp2_with fail
        go_round
        case rel => exact ⟨k + 1, by omega, by go_num, HS.out⟩
        case measure => simp [intOf]; omega
      · have hb2 : (s[k].toNat : Int) < 128 := by omega
        by_cases h5 : 5 ≤ k
        · have HF := Lib.hid (getS_five s (by omega) (fun j hj h => HH.out j hj (by omega)))
          go_wp2_with fail
          go_ret3
          exact ⟨by rw [HF.out]; rfl, Below.refl _ _⟩
        · have hne : ((k : Int) == (s.size : Int)) = false := by rw [beq_eq_false_iff_ne]; omega
          go_wp2_with fail
          go_loop [6, 7] (fun n i => ∃ j : Nat, j ≤ k + 1 ∧ i = .int .i64 ((j : Int) - 1) ∧ n = .int .i64 (valFrom s k j)) (fun _ i => (intOf i + 1).toNat)
          case atStart => exact ⟨k + 1, by omega, by go_num, by rw [valFrom_end s k hlt]; rfl⟩
          case round =>
            obtain ⟨j, hj, rfl, rfl⟩ := hrel
            have hvl := valFrom_lt s k j (by omega)
            by_cases hj0 : 1 ≤ j
            · obtain ⟨i, rfl⟩ : ∃ i, j = i + 1 := ⟨j - 1, by omega⟩
              have hi : i < s.size := by omega
              have hbi : s[i].toNat < 256 := s[i].toNat_lt
              have HV := Lib.hid (valFrom_step s k i hlt (by omega))
              have ei : ((i + 1 : Nat) : Int) - 1 = (i : Int) := by omega
              rw [ei]
              clear ei
              generalize hN : valFrom s k (i + 1) = N at hvl HV ⊢
              clear hN
              go_wp2_with fail
              go_round
              case rel => exact ⟨i, by omega, rfl, congrArg _ (by rw [HV.out]; omega)⟩
              case measure => simp [intOf]
            · have hj1 : j = 0 := by omega
              subst hj1
              have HE := Lib.hid (unnum_eq s k hlt (by omega) HH.out (by omega))
              have ev : valFrom s k 0 = val (s.data.toList.take (k + 1)) := rfl
              rw [ev] at hvl ⊢
              clear ev
              by_cases hbig : 2147483647 < val (s.data.toList.take (k + 1))
              · have HF := Lib.hid (getS_big s k hlt (by omega) HH.out (by omega) hbig)
                generalize val (s.data.toList.take (k + 1)) = N at hvl hbig ⊢
                have hd : decide ((2147483647 : Int) < (N : Int)) = true := by simp; omega
                go_wp2_with fail
                go_quiet (fail)
                go_wp2_with fail
                go_ret3
                exact ⟨by rw [HF.out]; rfl, below_drewN (Below.refl _ _) _⟩
              · have hd : decide ((2147483647 : Int) < (val (s.data.toList.take (k + 1)) : Int)) = false := by simp; omega
                have HNUM := Lib.hid (fun w => num_any 4 (by omega) (val (s.data.toList.take (k + 1)) : Int) w (by omega) (by omega) (by omega))
                generalize hV : val (s.data.toList.take (k + 1)) = N at hvl hbig hd HNUM HE ⊢
                have HV := Lib.hid hV
                have hw1 : IntKind.i64.wrap ((k : Int) + 1) = (k : Int) + 1 := IntWalk.i64_in _ (by omega)
                have hw2 : ((k : Int) + 1).toNat = k + 1 := by omega
                have hw3 : (0 : Int) ≤ (k : Int) + 1 := by omega
                have hw4 : (k : Int) + 1 ≤ (s.size : Int) := by omega
                have hn0 : (N : Int) ≤ 2147483647 := by omega
                rw [Int.toNat_natCast] at HNUM
                clear hV
                have hx := ext_take s (k + 1)
                have hq : (numF 5 N == (s.extract 0 (k + 1)).toList) = decide (k = 0 ∨ s[k].toNat ≠ 0) := by
                  rw [hx, Bool.eq_iff_iff, beq_iff_eq, decide_eq_true_eq]
                  exact HE.out
                clear hx
                have hF : ∃ b : Bool, decide (k = 0 ∨ s[k].toNat ≠ 0) = b ∧ Hid (getS s.data.toList = bif b then ((N : Int), (k : Int) + 1, 0) else (0, 0, 3)) := by
                  by_cases hz : k = 0 ∨ s[k].toNat ≠ 0
                  · refine ⟨true, by simp [hz], ?_⟩
                    show _ = _
                    rw [getS_ok s k hlt (by omega) HH.out (by omega) hz.symm (by rw [HV.out]; omega), HV.out]; rfl
                  · refine ⟨false, by simp [hz], ?_⟩
                    show _ = _
                    rw [getS_zero s k hlt (by omega) HH.out (by omega) (by omega)]; rfl
                obtain ⟨b, hb', HF⟩ := hF
                rw [hb'] at hq
                clear hb'
                go_wp2_with fail
                have hne := BW.ne w.heap.size w
                refine wp_region_below_lit w.heap.size (by kernel_rfl) (by kernel_rfl) ?_
                repeat (go_big_quiet_step ((go_at_call 122; exact BW.call (Nat.le_refl _) (HNUM.out _))))
                refine wpQuiet_nil ?_
                rintro _ ⟨x, rfl⟩
                have hbx := x.below
                generalize x.val = w1 at hbx ⊢
                cases b
                all_goals
                  go_wp2_with fail
                  go_ret3
                  exact ⟨by rw [HF.out]; rfl, hbx⟩
    · have hsz : k = s.size := by omega
      subst hsz
      by_cases h5 : 5 ≤ s.size
      · have HF := Lib.hid (getS_five s (by omega) (fun j hj h => HH.out j hj (by omega)))
        go_wp2_with fail
        go_ret3
        exact ⟨by rw [HF.out]; rfl, Below.refl _ _⟩
      · have HF := Lib.hid (getS_short s (by omega) HH.out)
        have hne : ((s.size : Int) == (s.size : Int)) = true := by rw [beq_iff_eq]
        go_wp2_with fail
        go_ret3
        exact ⟨by rw [HF.out]; rfl, Below.refl _ _⟩
end Go.Proofs.Ytobngncjflogcaa

set_option linter.unusedVariables false
set_option linter.unusedSimpArgs false
namespace Go.Proofs.Ytobngncjflogcaa.AM
open Go Go.RowKit
theorem us_one {f : Value → Prop} {F B : Nat → Prop} {w : World} {us : Array Value} {v : V} {u0 : Value} (hl : us.size = [v].length) (hr : ∀ (i : Nat) (x : V) (u : Value), [v][i]? = some x → us[i]? = some u → Rel F B w x u) (h : ∀ u, Rel F B w v u → u = u0) : us = #[u0] := by
  match us, hl with
  | ⟨[u]⟩, _ =>
    have := h u (hr 0 v u rfl rfl)
    rw [this]
theorem rel_int {F B : Nat → Prop} {w : World} {k : IntKind} {n : Int} {u : Value} (h : Rel F B w (.int k n) u) : u = .int k n := by cases h; rfl
theorem rel_str {F B : Nat → Prop} {w : World} {l : List UInt8} {u : Value} (h : Rel F B w (.str l) u) : u = .string ⟨l.toArray⟩ := by cases h; rfl
theorem below_rfl (w : World) : Below w.heap.size w w := by (repeat (first | (with_reducible exact Below.refl _ _) | (with_reducible assumption) | (with_reducible refine Below.drew ?_) | (with_reducible refine below_drewN ?_ _) | ((with_reducible refine Below.alloc ?_ ?_ _); rotate_left; (focus (first | omega | (simp; done) | (simp; omega)))) | ((with_reducible refine Below.setCell ?_ ?_ _); rotate_left; (focus (first | omega | (simp; done) | (simp; omega)))) | ((with_reducible refine below_ob ?_ ?_ _ _); rotate_left; (focus (first | omega | (simp; done) | (simp; omega))))))
theorem tri_rel {F B : Nat → Prop} {w : World} (a b c : Int) : Rel F B w (.tup [.int .i64 a, .int .i64 b, .int .i64 c]) (.tuple #[.int .i64 a, .int .i64 b, .int .i64 c]) := .tup _ _ rfl fun i v u hv hu => by
  match i with
  | 0 => simp at hv hu; subst hv hu; exact .int _ _
  | 1 => simp at hv hu; subst hv hu; exact .int _ _
  | 2 => simp at hv hu; subst hv hu; exact .int _ _
  | i + 3 => simp at hv
theorem sp_nget (s : List UInt8) (hs : s.length ≤ maxLen) : Spec Try.prog 118 [.str s] Hp.emp (Is (.tup [.int .i64 (getS s).1, .int .i64 (getS s).2.1, .int .i64 (getS s).2.2])) :=
  spec_of_calls (us0 := #[.string ⟨s.toArray⟩]) ⟨Try.f118, Try.func118, by decide +kernel, Option.isSome_iff_exists.1 (by decide +kernel)⟩
    (fun F B w us hl hr => us_one (f := fun _ => True) hl hr fun u h => rel_str h) (fun F B w => tri_rel _ _ _)
    (fun w => by
      refine (get_any ⟨s.toArray⟩ w (by simpa [ByteArray.size] using hs)).mono ?_
      rintro e w' ⟨rfl, rfl⟩
      exact ⟨rfl, below_rfl _⟩)
theorem sp_runnum (s : List UInt8) (hs : s.length ≤ maxLen) : Spec Try.prog 103 [.str s] Hp.emp (Is (.tup [.int .i64 (getS s).1, .int .i64 (getS s).2.1, .int .i64 (getS s).2.2])) :=
  spec_of_calls (us0 := #[.string ⟨s.toArray⟩]) ⟨Try.f103, Try.func103, by decide +kernel, Option.isSome_iff_exists.1 (by decide +kernel)⟩
    (fun F B w us hl hr => us_one (f := fun _ => True) hl hr fun u h => rel_str h) (fun F B w => tri_rel _ _ _)
    (fun w => unnum_any ⟨s.toArray⟩ w (by simpa [ByteArray.size] using hs))
theorem sp_rnum (n : Int) (h0 : 0 ≤ n) (h1 : n ≤ 2147483647) : Spec Try.prog 122 [.int .i64 n] Hp.emp (Is (.str (numL n.toNat))) :=
  spec_of_calls (us0 := #[.int .i64 n]) ⟨Try.f122, Try.func122, by decide +kernel, Option.isSome_iff_exists.1 (by decide +kernel)⟩
    (fun F B w us hl hr => us_one (f := fun _ => True) hl hr fun u h => rel_int h) (u0 := .string ⟨(numL n.toNat).toArray⟩) (fun F B w => .str _)
    (fun w => num_any 4 (Nat.le_refl _) n w h0 (by have : (128 : Int) ^ (4 + 1) = 34359738368 := by decide
                                                   omega) h1)
theorem numL_len (n : Nat) : (numL n).length ≤ 5 := numF_len 5 n
/-- what was read was written so, and no other way -/
theorem getS_num {s : List UInt8} (h : (getS s).2.2 = 0) : ∃ k : Nat, (getS s).2.1 = k ∧ 0 < k ∧ k ≤ s.length ∧ k ≤ 5 ∧ 0 ≤ (getS s).1 ∧ (getS s).1 ≤ 2147483647 ∧ numL (getS s).1.toNat = s.take k := by
  unfold getS at h ⊢
  by_cases h1 : 5 ≤ lead s
  · rw [if_pos h1] at h; exact absurd h (by decide)
  rw [if_neg h1] at h ⊢
  by_cases h2 : lead s = s.length
  · rw [if_pos h2] at h; exact absurd h (by decide)
  rw [if_neg h2] at h ⊢
  by_cases h3 : 2147483647 < val (s.take (lead s + 1)) ∨ (0 < lead s ∧ s[lead s]? = some 0)
  · rw [if_pos h3] at h; exact absurd h (by decide)
  rw [if_neg h3]
  have hle := lead_le s
  have hlt : lead s < s.length := by omega
  refine ⟨lead s + 1, by simp, by omega, by omega, by omega, Int.natCast_nonneg _, by simp only []; omega, ?_⟩
  have hw := word_take s hlt
  have hl : (s.take (lead s + 1)).length = lead s + 1 := by rw [List.length_take]; omega
  have hg : (s.take (lead s + 1)).getLast? = s[lead s]? := by
    rw [List.getLast?_eq_getElem?, hl, List.getElem?_take, if_pos (by omega)]; rfl
  have := (num_of_word 5 hw (by omega)).2 (by
    rw [hl, hg]
    by_cases h0 : lead s = 0
    · left; omega
    · right; intro g; exact h3 (.inr ⟨by omega, g⟩))
  simpa [numL] using this
end Go.Proofs.Ytobngncjflogcaa.AM

set_option linter.unusedVariables false
set_option linter.unusedSimpArgs false
namespace Go.Proofs.Ytobngncjflogcaa.AM
open Go
set_option maxRecDepth 100000
set_option maxHeartbeats 2000000
def pcode (p : Part) : List UInt8 := numL (4 * (p.n + p.text.length) + p.kind).toNat ++ p.text
def codeF (d : List Part) : List UInt8 := numL d.length ++ (d.map pcode).flatten
def pcR : Nat → List UInt8 → List Part → Option (List UInt8 × List Part)
  | 0, s, out => some (s, out)
  | n + 1, s, out => if (getS s).2.2 ≠ 0 then none
    else if (getS s).1 % 4 = 2 then (if ((s.drop (getS s).2.1.toNat).length : Int) < (getS s).1 / 4 then none else pcR n ((s.drop (getS s).2.1.toNat).drop ((getS s).1 / 4).toNat) (out ++ [⟨2, 0, (s.drop (getS s).2.1.toNat).take ((getS s).1 / 4).toNat⟩]))
    else pcR n (s.drop (getS s).2.1.toNat) (out ++ [⟨(getS s).1 % 4, (getS s).1 / 4, []⟩])
def parseF (s : List UInt8) : Option (List UInt8 × List Part) := if (getS s).2.2 ≠ 0 then none else pcR (getS s).1.toNat (s.drop (getS s).2.1.toNat) []
def readF (s : List UInt8) : List Part × Int := match parseF s with
  | none => ([], 3)
  | some (r, d) => if r = [] ∧ checkF d = 0 then (d, 0) else ([], 3)
theorem pcR_spec : ∀ (n : Nat) (s : List UInt8) (out : List Part) (r : List UInt8) (d : List Part), pcR n s out = some (r, d) → ∃ e, d = out ++ e ∧ e.length = n ∧ s = (e.map pcode).flatten ++ r
  | 0, s, out, r, d, h => by
    simp only [pcR, Option.some.injEq, Prod.mk.injEq] at h
    exact ⟨[], by simp [h.2], rfl, by simp [h.1]⟩
  | n + 1, s, out, r, d, h => by
    unfold pcR at h
    split at h
    · cases h
    · rename_i h1
      obtain ⟨k, g1, g2, g3, _, g4, g5, g6⟩ := getS_num (Decidable.of_not_not h1)
      have hk : (getS s).2.1.toNat = k := by omega
      rw [hk] at h
      split at h
      · rename_i h2
        split at h
        · cases h
        · rename_i h3
          obtain ⟨e, e1, e2, e3⟩ := pcR_spec n _ _ r d h
          refine ⟨⟨2, 0, (s.drop k).take ((getS s).1 / 4).toNat⟩ :: e, by rw [e1]; simp, by simp [e2], ?_⟩
          have hl : ((s.drop k).take ((getS s).1 / 4).toNat).length = ((getS s).1 / 4).toNat := by rw [List.length_take]; omega
          have hx : (4 * (0 + (((s.drop k).take ((getS s).1 / 4).toNat).length : Int)) + 2).toNat = (getS s).1.toNat := by rw [hl]; omega
          rw [List.map_cons, List.flatten_cons, pcode]
          simp only []
          rw [hx, g6, List.append_assoc, List.append_assoc, ← e3, List.take_append_drop, List.take_append_drop]
      · rename_i h2
        obtain ⟨e, e1, e2, e3⟩ := pcR_spec n _ _ r d h
        refine ⟨⟨(getS s).1 % 4, (getS s).1 / 4, []⟩ :: e, by rw [e1]; simp, by simp [e2], ?_⟩
        have hx : (4 * ((getS s).1 / 4 + (([] : List UInt8).length : Int)) + (getS s).1 % 4).toNat = (getS s).1.toNat := by
          simp only [List.length_nil]; omega
        rw [List.map_cons, List.flatten_cons, pcode]
        simp only []
        rw [hx, g6, List.append_nil, List.append_assoc, ← e3, List.take_append_drop]
theorem parse_spec {s : List UInt8} {r : List UInt8} {d : List Part} (h : parseF s = some (r, d)) : s = codeF d ++ r := by
  unfold parseF at h
  split at h
  · cases h
  · rename_i h1
    obtain ⟨k, g1, g2, g3, _, g4, g5, g6⟩ := getS_num (Decidable.of_not_not h1)
    rw [show (getS s).2.1.toNat = k by omega] at h
    obtain ⟨e, e1, e2, e3⟩ := pcR_spec _ _ _ r d h
    rw [List.nil_append] at e1
    subst e1
    unfold codeF
    rw [e2, g6, List.append_assoc, ← e3, List.take_append_drop]
theorem read_code {s : List UInt8} {r : List UInt8} {d : List Part} (h : parseF s = some (r, d)) : r = [] ↔ codeF d = s := by
  have := parse_spec h
  constructor
  · rintro rfl; rw [this]; simp
  · intro g; rw [g] at this; exact List.append_right_eq_self.1 this.symm
structure YCw (d : List Part) (a : List UInt8) where
  k : Int
  pre : List Part
  rest : List Part
  o : List UInt8
  hd : d = pre ++ rest
  hk : k = (pre.length : Int)
  ho : o = a ++ (pre.map pcode).flatten
  hol : o.length ≤ 5 + 505 * pre.length
def ac_rcode : AC := .seq (.region false [
    ⟨some 2, none, .mov (.c (.string ⟨#[]⟩))⟩])
  (.seq (.region false [
    ⟨some 6, none, .mov (.t 0)⟩,
    ⟨some 7, none, .len false (.t 6)⟩,
    ⟨some 8, none, .call 122 [(.t 7)]⟩,
    ⟨some 3, none, .mov (.t 8)⟩])
  (.seq (.seq (.region false [
    ⟨some 9, none, .mov (.t 0)⟩,
    ⟨some 10, none, .len false (.t 9)⟩,
    ⟨some 11, none, .mov (.c (.int .i64 0))⟩])
  (.block 0 (.loop (.seq (.region false [
      ⟨some 12, none, .bin .lss (.t 11) (.t 10)⟩])
    (.seq (.cond (.t 12)
      (.skip)
      (.exit 0))
    (.seq (.block 1 (.seq (.region false [
      ⟨some 13, none, .iaddr 3 (.t 9) (.t 11)⟩,
      ⟨some 14, none, .loadn 3 (.t 13)⟩,
      ⟨some 5, none, .alloc 108 [(.int .i64 0), (.int .i64 0), (.string ⟨#[]⟩)]⟩,
      ⟨none, none, .store 3 (.t 5) (.t 14)⟩])
    (.region true [
      ⟨some 15, none, .mov (.t 3)⟩,
      ⟨some 16, none, .faddr 1 (.t 5)⟩,
      ⟨some 17, none, .load1 (.t 16)⟩,
      ⟨some 18, none, .faddr 2 (.t 5)⟩,
      ⟨some 19, none, .load1 (.t 18)⟩,
      ⟨some 20, none, .len true (.t 19)⟩,
      ⟨some 21, none, .bin .add (.t 17) (.t 20)⟩,
      ⟨some 22, none, .bin .mul (.c (.int .i64 4)) (.t 21)⟩,
      ⟨some 23, none, .faddr 0 (.t 5)⟩,
      ⟨some 24, none, .load1 (.t 23)⟩,
      ⟨some 25, none, .bin .add (.t 22) (.t 24)⟩,
      ⟨some 26, none, .call 122 [(.t 25)]⟩,
      ⟨some 27, none, .faddr 2 (.t 5)⟩,
      ⟨some 28, none, .load1 (.t 27)⟩,
      ⟨some 29, none, .bin .add (.t 26) (.t 28)⟩,
      ⟨some 30, none, .bin .add (.t 15) (.t 29)⟩,
      ⟨some 3, none, .mov (.t 30)⟩])))
    (.region false [
      ⟨some 31, none, .bin .add (.t 11) (.c (.int .i64 1))⟩,
      ⟨some 11, none, .mov (.t 31)⟩])))))))
  (.seq (.region false [
    ⟨some 32, none, .mov (.t 3)⟩,
    ⟨some 2, none, .mov (.t 32)⟩])
  (.ret))))
theorem ok_rcode : FnOk Try.prog 105 Try.f105 ac_rcode [.t 2] 1 drawD := ⟨Try.func105, by decide +kernel, by kernel_rfl, by kernel_rfl, by decide +kernel⟩
theorem vc_rcode (P : Prim) (hP : P = std) (T T1 : CallT) (d : List Part) (rows : List (List V)) (hrows : rows = d.map encPart) (pF : Int → List UInt8) (hd16 : d.length ≤ 1600) (hdok : ∀ p ∈ d, okP p)
    (h2 : ∀ n, 0 ≤ n → n ≤ 100000 → Ans T 122 [.int .i64 n] (.str (pF n))) (h3 : ∀ n, 0 ≤ n → n ≤ 100000 → Ans T1 122 [.int .i64 n] (.str (pF n)))
    (hpF : ∀ n, 0 ≤ n → n ≤ 100000 → pF n = numL n.toNat) (r : List UInt8) (hres : codeF d = r)
    (R : S → Prop) (hR : ∀ s0 s' x, x = r → Ent s0 s' → Ret [.t 2] [.str x] s' → R s0) : awp P T T1 ac_rcode (S0 [.sl true 3 rows] Hp.emp) R (fun _ _ => False) R := by
  have hl1 : P.rlen rows = (d.length : Int) := by rw [rlen_eq hP, hrows]; simp
  have f1 := h2 (P.rlen rows) (by rw [hl1]; exact Int.natCast_nonneg _) (by rw [hl1]; ((try simp only [nc] at *); omega))
  have f1e : pF (P.rlen rows) = numL d.length := by rw [hpF _ (by rw [hl1]; exact Int.natCast_nonneg _) (by rw [hl1]; ((try simp only [nc] at *); omega)), hl1]; rfl
  cbv
  refine f1 _ _ ?_
  cbv
  refine ⟨YCw d (numL d.length), fun y => [(3, .str y.o), (9, .sl true 3 rows), (10, .int .i64 (P.rlen rows)), (11, .int .i64 y.k)], fun y => [], fun y => y.rest.length,
    ⟨_, Ent.refl _, ⟨0, [], d, pF (P.rlen rows), rfl, rfl, by rw [f1e]; simp, by rw [f1e]; have := numL_len d.length; simp; omega⟩, ⟨rfl, rfl, rfl, rfl, trivial⟩, trivial⟩, ?_⟩
  rintro ⟨k, pre, rest, o, hd, hk, ho, hol⟩
  have hsp : ∀ x : List UInt8, P.slen x = (x.length : Int) := by intro x; subst hP; rfl
  have hap : ∀ x y : List UInt8, (P.sapp x y).length = x.length + y.length := by intro x y; subst hP; exact List.length_append
  replace hk : k = (pre.length : Int) := hk
  have hlp : pre.length + rest.length = d.length := by rw [hd]; simp
  cbv
  refine br_cases (fun h => ?_) (fun h => ?_)
  · have h6 : k < P.rlen rows := lt_t hP h
    rw [hl1] at h6
    rcases rest with _ | ⟨⟨kd, pn, tx⟩, rest⟩
    · exfalso; simp at hlp; ((try simp only [nc] at *); omega)
    have hrow : P.row rows (P.nat k) [.int .i64 kd, .int .i64 pn, .str tx] := row_of hP hk (by rw [hrows, List.getElem?_map, hd]; simp [encPart])
    have hp := okP_bd (hdok ⟨kd, pn, tx⟩ (by rw [hd]; simp))
    obtain ⟨hp1, hp2, hp3, hp4⟩ := hp
    simp only [] at hp1 hp2 hp3 hp4
    have k1 : P.leP 0 k := le0 hP (by ((try simp only [nc] at *); omega))
    have k2 : P.i64 (P.add k 1) := by rw [add_eq hP]; exact i64I hP (by ((try simp only [nc] at *); omega))
    have k3 : P.add k 1 = (((pre ++ [(⟨kd, pn, tx⟩ : Part)]).length : Nat) : Int) := by rw [add_eq hP, hk]; simp
    have hst := hsp tx
    have a1 : P.add pn (P.slen tx) = pn + (tx.length : Int) := by rw [add_eq hP, hst]
    have i1 : P.i64 (P.add pn (P.slen tx)) := by rw [a1]; exact i64I hP (by omega)
    have a2 : P.mul 4 (P.add pn (P.slen tx)) = 4 * (pn + (tx.length : Int)) := by rw [a1]; subst hP; rfl
    have i2 : P.i64 (P.mul 4 (P.add pn (P.slen tx))) := by rw [a2]; exact i64I hP (by omega)
    have a3 : P.add (P.mul 4 (P.add pn (P.slen tx))) kd = 4 * (pn + (tx.length : Int)) + kd := by rw [add_eq hP, a2]
    have i3 : P.i64 (P.add (P.mul 4 (P.add pn (P.slen tx))) kd) := by rw [a3]; exact i64I hP (by omega)
    have f2 := h3 (P.add (P.mul 4 (P.add pn (P.slen tx))) kd) (by rw [a3]; omega) (by rw [a3]; omega)
    have f2e := hpF (P.add (P.mul 4 (P.add pn (P.slen tx))) kd) (by rw [a3]; omega) (by rw [a3]; omega)
    have hpl : (pF (P.add (P.mul 4 (P.add pn (P.slen tx))) kd)).length ≤ 5 := by rw [f2e]; exact numL_len _
    have e2 : P.sapp o (P.sapp (pF (P.add (P.mul 4 (P.add pn (P.slen tx))) kd)) tx) = numL d.length ++ ((pre ++ [(⟨kd, pn, tx⟩ : Part)]).map pcode).flatten := by
      rw [f2e, a3, ho]
      subst hP
      show (_ ++ _) ++ (_ ++ tx) = _
      simp [pcode]
    generalize pF (P.add (P.mul 4 (P.add pn (P.slen tx))) kd) = z at f2 hpl e2
    have j1 : P.i64 (P.add (P.slen z) (P.slen tx)) := by rw [add_eq hP, hsp z, hsp tx]; exact i64I hP (by ((try simp only [nc] at *); omega))
    have j2 : P.i64 (P.add (P.slen o) (P.slen (P.sapp z tx))) := by rw [add_eq hP, hsp o, hsp, hap]; exact i64I hP (by ((try simp only [nc] at *); omega))
    have j3 : (P.sapp o (P.sapp z tx)).length ≤ 5 + 505 * (pre ++ [(⟨kd, pn, tx⟩ : Part)]).length := by rw [hap, hap]; simp; omega
    cbv
    refine ⟨k1, _, hrow, ?_⟩
    cbv
    intro β
    cbv
    repeat' (first
      | (refine And.intro (by assumption) ?_; try cbv)
      | (intro β; try cbv))
    refine f2 _ _ ?_
    cbv
    repeat' (first
      | (refine And.intro (by assumption) ?_; try cbv)
      | (intro β; try cbv))
    exact ⟨_, Ent.refl _, ⟨_, pre ++ [⟨kd, pn, tx⟩], rest, _, by simp [hd], k3, e2, j3⟩, ⟨rfl, rfl, rfl, rfl, trivial⟩, trivial, by simp⟩
  · have h6 : ¬ k < P.rlen rows := lt_f hP h
    rw [hl1] at h6
    rcases rest with _ | ⟨y, rest⟩
    rotate_left
    · exfalso; simp at hlp; ((try simp only [nc] at *); omega)
    have : o = r := by rw [ho, ← hres, hd]; simp [codeF, hlp]
    cbv
    exact hR _ _ _ this (Ent.refl _) rfl
theorem sp_rcode (d : List Part) (h : checkF d = 0) : Spec Try.prog 105 [.sl true 3 (d.map encPart)] Hp.emp (Is (.str (codeF d))) :=
  spec_pure dOk ok_rcode [.str (codeF d)] (.str _) fun R hR => vc_rcode std rfl _ _ d _ rfl (fun n => numL n.toNat) (checkF_all h).1 (checkF_all h).2.1
    (fun n h0 h1 => ansW (sp_rnum n h0 (by omega)) (fun _ => args_plain rfl) rfl) (fun n h0 h1 => ansP (sp_rnum n h0 (by omega)) (fun _ => args_plain rfl) rfl) (fun n _ _ => rfl) _ rfl R
    fun s0 s' x h he hr => by subst h; exact hR s0 s' he hr
def obR (b : Nat) (s : List UInt8) (bad : Bool) : Ob := ⟨some b, 192, 2, [[.str s, .bool bad]]⟩
theorem obR_fz (b : Nat) (s : List UInt8) (bad : Bool) : (obR b s bad).Fz := by
  intro r hr v hv
  simp only [obR, List.mem_singleton] at hr
  subst hr
  simp only [List.mem_cons, List.not_mem_nil, or_false] at hv
  rcases hv with rfl | rfl
  · exact .str _
  · exact .bool _
def rnumF (s : List UInt8) (bad : Bool) : List UInt8 × Bool × Int := if (getS s).2.2 ≠ 0 then (s, true, 0) else (s.drop (getS s).2.1.toNat, bad, (getS s).1)
def rtextF (s : List UInt8) (bad : Bool) (n : Int) : List UInt8 × Bool × List UInt8 := if (s.length : Int) < n then (s, true, []) else (s.drop n.toNat, bad, s.take n.toNat)
def ac_rdn : AC := .seq (.region false [
    ⟨some 2, none, .mov (.c (.int .i64 0))⟩])
  (.seq (.region false [
    ⟨some 7, none, .mov (.t 0)⟩,
    ⟨some 8, none, .nilchk (.t 7)⟩,
    ⟨some 9, none, .faddr 0 (.t 8)⟩,
    ⟨some 10, none, .load1 (.t 9)⟩,
    ⟨some 11, none, .call 118 [(.t 10)]⟩,
    ⟨some 6, none, .mov (.t 11)⟩,
    ⟨some 12, none, .ext 0 (.t 6)⟩,
    ⟨some 13, none, .ext 1 (.t 6)⟩,
    ⟨some 14, none, .ext 2 (.t 6)⟩,
    ⟨some 3, none, .mov (.t 12)⟩,
    ⟨some 4, none, .mov (.t 13)⟩,
    ⟨some 5, none, .mov (.t 14)⟩])
  (.seq (.seq (.region false [
    ⟨some 15, none, .mov (.t 5)⟩,
    ⟨some 16, none, .bin .neq (.t 15) (.c (.int .i64 0))⟩])
  (.cond (.t 16)
    (.seq (.region false [
      ⟨some 17, none, .mov (.t 0)⟩,
      ⟨some 18, none, .nilchk (.t 17)⟩,
      ⟨some 19, none, .faddr 1 (.t 18)⟩,
      ⟨none, none, .store 1 (.t 19) (.c (.bool true))⟩])
    (.seq (.region false [
      ⟨some 2, none, .mov (.c (.int .i64 0))⟩])
    (.ret)))
    (.skip)))
  (.seq (.region false [
    ⟨some 20, none, .mov (.t 0)⟩,
    ⟨some 21, none, .mov (.t 0)⟩,
    ⟨some 22, none, .nilchk (.t 21)⟩,
    ⟨some 23, none, .faddr 0 (.t 22)⟩,
    ⟨some 24, none, .load1 (.t 23)⟩,
    ⟨some 25, none, .mov (.t 4)⟩,
    ⟨some 26, none, .slstr (.t 24) (some (.t 25)) none⟩,
    ⟨some 27, none, .nilchk (.t 20)⟩,
    ⟨some 28, none, .faddr 0 (.t 27)⟩,
    ⟨none, none, .store 1 (.t 28) (.t 26)⟩])
  (.seq (.region false [
    ⟨some 29, none, .mov (.t 3)⟩,
    ⟨some 2, none, .mov (.t 29)⟩])
  (.ret)))))
theorem ok_rdn : FnOk Try.prog 119 Try.f119 ac_rdn [.t 2] 1 drawD := ⟨Try.func119, by decide +kernel, by kernel_rfl, by kernel_rfl, by decide +kernel⟩
theorem vc_rdn (P : Prim) (hP : P = std) (T T1 : CallT) (b : Nat) (s : List UInt8) (bad : Bool) (n k e : Int) (h1 : Ans T 118 [.str s] (.tup [.int .i64 n, .int .i64 k, .int .i64 e])) (hk : e = 0 → 0 ≤ k ∧ k ≤ s.length)
    (s2 : List UInt8) (bad2 : Bool) (v : Int) (g1 : e ≠ 0 → s = s2 ∧ true = bad2 ∧ 0 = v) (g2 : e = 0 → s.drop k.toNat = s2 ∧ bad = bad2 ∧ n = v)
    (R : S → Prop) (hR : ∀ s0 s' x y z, x = s2 ∧ y = bad2 ∧ z = v → Ent s0 s' → resV s' [.t 2] (fun q => oneV q = .int .i64 z) → agreeH [(0, ⟨some b, 192, 2, [[.str x, .bool y]]⟩)] s' → R s0) :
    awp P T T1 ac_rdn (S0 [.ptr 0 (some b) 2 0 0] (lookH [(0, ⟨some b, 192, 2, [[.str s, .bool bad]]⟩)])) R (fun _ _ => False) R := by
  have hsp : P.slen s = (s.length : Int) := by subst hP; rfl
  cbv
  refine h1 _ _ ?_
  cbv
  refine br_cases (fun h => ?_) (fun h => ?_)
  · have hx := g1 (ne_t hP h)
    cbv
    repeat' (first
      | (refine And.intro (by assumption) ?_; try cbv)
      | (intro β; try cbv))
    exact hR _ _ _ _ _ hx (Ent.refl _) rfl ⟨rfl, trivial⟩
  · have he := ne_f hP h
    obtain ⟨x1, x2, x3⟩ := g2 he
    obtain ⟨y1, y2⟩ := hk he
    have l1 : P.leP 0 k := le0 hP y1
    have l2 : P.leP k (P.slen s) := leI hP (by rw [hsp]; exact y2)
    have l3 : P.leP (P.slen s) (P.slen s) := leI hP (Int.le_refl _)
    have e1 : P.ssub s k (P.slen s) = s2 := by
      rw [hsp, ← x1]; subst hP
      show (s.take ((s.length : Int)).toNat).drop k.toNat = _
      rw [Int.toNat_natCast, List.take_length]
    cbv
    repeat' (first
      | (refine And.intro (by assumption) ?_; try cbv)
      | (intro β; try cbv))
    exact hR _ _ _ _ _ ⟨e1, x2, x3⟩ (Ent.refl _) rfl ⟨rfl, trivial⟩
def ac_rdt : AC := .seq (.region false [
    ⟨some 4, none, .mov (.c (.string ⟨#[]⟩))⟩])
  (.seq (.seq (.region false [
    ⟨some 6, none, .mov (.t 1)⟩,
    ⟨some 7, none, .mov (.t 0)⟩,
    ⟨some 8, none, .nilchk (.t 7)⟩,
    ⟨some 9, none, .faddr 0 (.t 8)⟩,
    ⟨some 10, none, .load1 (.t 9)⟩,
    ⟨some 11, none, .len true (.t 10)⟩,
    ⟨some 12, none, .bin .gtr (.t 6) (.t 11)⟩])
  (.cond (.t 12)
    (.seq (.region false [
      ⟨some 13, none, .mov (.t 0)⟩,
      ⟨some 14, none, .nilchk (.t 13)⟩,
      ⟨some 15, none, .faddr 1 (.t 14)⟩,
      ⟨none, none, .store 1 (.t 15) (.c (.bool true))⟩])
    (.seq (.region false [
      ⟨some 4, none, .mov (.c (.string ⟨#[]⟩))⟩])
    (.ret)))
    (.skip)))
  (.seq (.region false [
    ⟨some 16, none, .mov (.t 0)⟩,
    ⟨some 17, none, .nilchk (.t 16)⟩,
    ⟨some 18, none, .faddr 0 (.t 17)⟩,
    ⟨some 19, none, .load1 (.t 18)⟩,
    ⟨some 20, none, .mov (.t 1)⟩,
    ⟨some 21, none, .slstr (.t 19) none (some (.t 20))⟩,
    ⟨some 5, none, .mov (.t 21)⟩])
  (.seq (.region false [
    ⟨some 22, none, .mov (.t 0)⟩,
    ⟨some 23, none, .mov (.t 0)⟩,
    ⟨some 24, none, .nilchk (.t 23)⟩,
    ⟨some 25, none, .faddr 0 (.t 24)⟩,
    ⟨some 26, none, .load1 (.t 25)⟩,
    ⟨some 27, none, .mov (.t 1)⟩,
    ⟨some 28, none, .slstr (.t 26) (some (.t 27)) none⟩,
    ⟨some 29, none, .nilchk (.t 22)⟩,
    ⟨some 30, none, .faddr 0 (.t 29)⟩,
    ⟨none, none, .store 1 (.t 30) (.t 28)⟩])
  (.seq (.region false [
    ⟨some 31, none, .mov (.t 5)⟩,
    ⟨some 4, none, .mov (.t 31)⟩])
  (.ret)))))
theorem ok_rdt : FnOk Try.prog 120 Try.f120 ac_rdt [.t 4] 2 drawD := ⟨Try.func120, by decide +kernel, by kernel_rfl, by kernel_rfl, by decide +kernel⟩
theorem vc_rdt (P : Prim) (hP : P = std) (T T1 : CallT) (b : Nat) (s : List UInt8) (bad : Bool) (n : Int) (hn : 0 ≤ n)
    (s2 : List UInt8) (bad2 : Bool) (v : List UInt8) (g1 : (s.length : Int) < n → s = s2 ∧ true = bad2 ∧ [] = v) (g2 : n ≤ s.length → s.drop n.toNat = s2 ∧ bad = bad2 ∧ s.take n.toNat = v)
    (R : S → Prop) (hR : ∀ s0 s' x y z, x = s2 ∧ y = bad2 ∧ z = v → Ent s0 s' → resV s' [.t 4] (fun q => oneV q = .str z) → agreeH [(0, ⟨some b, 192, 2, [[.str x, .bool y]]⟩)] s' → R s0) :
    awp P T T1 ac_rdt (S0 [.ptr 0 (some b) 2 0 0, .int .i64 n] (lookH [(0, ⟨some b, 192, 2, [[.str s, .bool bad]]⟩)])) R (fun _ _ => False) R := by
  have hsp : P.slen s = (s.length : Int) := by subst hP; rfl
  cbv
  refine br_cases (fun h => ?_) (fun h => ?_)
  · have hq : P.slen s < n := lt_t hP h
    rw [hsp] at hq
    have hx := g1 hq
    cbv
    repeat' (first
      | (refine And.intro (by assumption) ?_; try cbv)
      | (intro β; try cbv))
    exact hR _ _ _ _ _ hx (Ent.refl _) rfl ⟨rfl, trivial⟩
  · have hq : ¬ P.slen s < n := lt_f hP h
    rw [hsp] at hq
    obtain ⟨x1, x2, x3⟩ := g2 (by omega)
    have l0 : P.leP 0 0 := le0 hP (Int.le_refl 0)
    have l1 : P.leP 0 n := le0 hP hn
    have l2 : P.leP n (P.slen s) := leI hP (by rw [hsp]; omega)
    have l3 : P.leP (P.slen s) (P.slen s) := leI hP (Int.le_refl _)
    have e1 : P.ssub s n (P.slen s) = s2 := by
      rw [hsp, ← x1]; subst hP
      show (s.take ((s.length : Int)).toNat).drop n.toNat = _
      rw [Int.toNat_natCast, List.take_length]
    have e2 : P.ssub s 0 n = v := by
      rw [← x3]; subst hP
      show (s.take n.toNat).drop (0 : Int).toNat = _
      simp
    cbv
    repeat' (first
      | (refine And.intro (by assumption) ?_; try cbv)
      | (intro β; try cbv))
    exact hR _ _ _ _ _ ⟨e1, x2, e2⟩ (Ent.refl _) rfl ⟨rfl, trivial⟩
theorem getS_k {s : List UInt8} (h : (getS s).2.2 = 0) : 0 ≤ (getS s).2.1 ∧ (getS s).2.1 ≤ s.length := by
  obtain ⟨k, g1, _, g3, _⟩ := getS_num h
  omega
theorem sp_rdn (b : Nat) (s : List UInt8) (bad : Bool) (hs : s.length ≤ maxLen) : Spec Try.prog 119 [.ptr 0 (some b) 2 0 0] (lookH [(0, obR b s bad)]) (fun v h' => ∃ L', (v = .int .i64 (rnumF s bad).2.2 ∧ L' = [(0, obR b (rnumF s bad).1 (rnumF s bad).2.1)]) ∧ h' = lookH L') :=
  spec_meth dOk ok_rdn (L := [(0, obR b s bad)]) (fun v L' => v = .int .i64 (rnumF s bad).2.2 ∧ L' = [(0, obR b (rnumF s bad).1 (rnumF s bad).2.1)]) fun R hR =>
    vc_rdn std rfl _ _ b s bad (getS s).1 (getS s).2.1 (getS s).2.2 (ansW (sp_nget s hs) (fun _ => args_plain rfl) rfl) getS_k (rnumF s bad).1 (rnumF s bad).2.1 (rnumF s bad).2.2
      (fun h => by unfold rnumF; rw [if_pos h]; exact ⟨rfl, rfl, rfl⟩) (fun h => by unfold rnumF; rw [if_neg (fun g => g h)]; exact ⟨rfl, rfl, rfl⟩) R
      fun s0 s' x y z h he hr ha => by
        obtain ⟨rfl, rfl, rfl⟩ := h
        exact hR s0 s' _ [(0, _)] he hr ha (.int _ _) (by intro p hp; simp at hp; subst hp; exact obR_fz _ _ _) ⟨rfl, rfl⟩
theorem sp_rdt (b : Nat) (s : List UInt8) (bad : Bool) (n : Int) (hn : 0 ≤ n) : Spec Try.prog 120 [.ptr 0 (some b) 2 0 0, .int .i64 n] (lookH [(0, obR b s bad)]) (fun v h' => ∃ L', (v = .str (rtextF s bad n).2.2 ∧ L' = [(0, obR b (rtextF s bad n).1 (rtextF s bad n).2.1)]) ∧ h' = lookH L') :=
  spec_meth dOk ok_rdt (L := [(0, obR b s bad)]) (fun v L' => v = .str (rtextF s bad n).2.2 ∧ L' = [(0, obR b (rtextF s bad n).1 (rtextF s bad n).2.1)]) fun R hR =>
    vc_rdt std rfl _ _ b s bad n hn (rtextF s bad n).1 (rtextF s bad n).2.1 (rtextF s bad n).2.2
      (fun h => by unfold rtextF; rw [if_pos h]; exact ⟨rfl, rfl, rfl⟩) (fun h => by unfold rtextF; rw [if_neg (by omega)]; exact ⟨rfl, rfl, rfl⟩) R
      fun s0 s' x y z h he hr ha => by
        obtain ⟨rfl, rfl, rfl⟩ := h
        exact hR s0 s' _ [(0, _)] he hr ha (.str _) (by intro p hp; simp at hp; subst hp; exact obR_fz _ _ _) ⟨rfl, rfl⟩
def RnC (T : CallT) : Prop := ∀ (k b : Nat) (s : List UInt8) (bad : Bool) (h : Hp) (K : V → Hp → Prop), s.length ≤ maxLen → h k = some ⟨some b, 192, 2, [[.str s, .bool bad]]⟩ →
  (∀ (s2 : List UInt8) (bad2 : Bool) (v : Int), s2 = (rnumF s bad).1 ∧ bad2 = (rnumF s bad).2.1 ∧ v = (rnumF s bad).2.2 → K (.int .i64 v) (Hp.put h k ⟨some b, 192, 2, [[.str s2, .bool bad2]]⟩)) → T 119 [.ptr k (some b) 2 0 0] h K
def RtC (T : CallT) : Prop := ∀ (k b : Nat) (s : List UInt8) (bad : Bool) (n : Int) (h : Hp) (K : V → Hp → Prop), 0 ≤ n → h k = some ⟨some b, 192, 2, [[.str s, .bool bad]]⟩ →
  (∀ (s2 : List UInt8) (bad2 : Bool) (v : List UInt8), s2 = (rtextF s bad n).1 ∧ bad2 = (rtextF s bad n).2.1 ∧ v = (rtextF s bad n).2.2 → K (.str v) (Hp.put h k ⟨some b, 192, 2, [[.str s2, .bool bad2]]⟩)) → T 120 [.ptr k (some b) 2 0 0, .int .i64 n] h K
theorem obR_ren (b : Nat) (s : List UInt8) (bad : Bool) (f : Nat → Nat) : (obR b s bad).ren f = obR b s bad := by simp [Ob.ren, obR, V.rl]
theorem rnC : RnC (CallE Try.prog) := by
  intro k b s bad h K hs hk hK
  refine call1 (sp_rdn b s bad hs) (fun v L' h => ⟨_, h.2⟩) rfl (obR_ren _ _ _) (obR_fz _ _ _) hk ?_
  rintro v o' ⟨rfl, h2⟩
  simp only [List.cons.injEq, Prod.mk.injEq, and_true, true_and] at h2
  subst h2
  rw [obR_ren]
  exact hK _ _ _ ⟨rfl, rfl, rfl⟩
theorem rtC : RtC (CallE Try.prog) := by
  intro k b s bad n h K hn hk hK
  refine call1 (sp_rdt b s bad n hn) (fun v L' h => ⟨_, h.2⟩) rfl (obR_ren _ _ _) (obR_fz _ _ _) hk ?_
  rintro v o' ⟨rfl, h2⟩
  simp only [List.cons.injEq, Prod.mk.injEq, and_true, true_and] at h2
  subst h2
  rw [obR_ren]
  exact hK _ _ _ ⟨rfl, rfl, rfl⟩
def ac_cread : AC := .seq (.region false [
    ⟨some 2, none, .mov (.c (.slice none 0 0))⟩,
    ⟨some 3, none, .mov (.c (.int .i64 0))⟩])
  (.seq (.region false [
    ⟨some 9, none, .mov (.t 0)⟩,
    ⟨some 10, none, .build [(.string ⟨#[]⟩), (.bool false)] [(0, 1, (.t 9))]⟩,
    ⟨some 11, none, .box 192 2 (.t 10)⟩,
    ⟨some 4, none, .mov (.t 11)⟩])
  (.seq (.region false [
    ⟨some 5, none, .mov (.c (.slice none 0 0))⟩])
  (.seq (.seq (.region false [
    ⟨some 12, none, .mov (.t 4)⟩,
    ⟨some 13, none, .call 119 [(.t 12)]⟩,
    ⟨some 6, none, .mov (.t 13)⟩])
  (.block 0 (.loop (.seq (.seq (.region false [
      ⟨some 14, none, .mov (.t 6)⟩,
      ⟨some 15, none, .bin .gtr (.t 14) (.c (.int .i64 0))⟩,
      ⟨some 16, none, .mov (.t 15)⟩,
      ⟨some 17, some (16, true), .mov (.t 4)⟩,
      ⟨some 18, some (16, true), .nilchk (.t 17)⟩,
      ⟨some 19, some (16, true), .faddr 1 (.t 18)⟩,
      ⟨some 20, some (16, true), .load1 (.t 19)⟩,
      ⟨some 21, some (16, true), .not (.t 20)⟩,
      ⟨some 22, none, .pick (.t 16) (.t 21) (.c (.bool false))⟩])
    (.cond (.t 22)
      (.skip)
      (.exit 0)))
    (.seq (.block 1 (.seq (.region false [
      ⟨some 25, none, .mov (.t 4)⟩,
      ⟨some 26, none, .call 119 [(.t 25)]⟩,
      ⟨some 7, none, .mov (.t 26)⟩])
    (.seq (.region false [
      ⟨some 27, none, .mov (.t 7)⟩,
      ⟨some 28, none, .bin .rem (.t 27) (.c (.int .i64 4))⟩,
      ⟨some 29, none, .build [(.int .i64 0), (.int .i64 0), (.string ⟨#[]⟩)] [(0, 1, (.t 28))]⟩,
      ⟨some 8, none, .alloc 108 [(.int .i64 0), (.int .i64 0), (.string ⟨#[]⟩)]⟩,
      ⟨none, none, .store 3 (.t 8) (.t 29)⟩])
    (.seq (.seq (.region false [
      ⟨some 30, none, .faddr 0 (.t 8)⟩,
      ⟨some 31, none, .load1 (.t 30)⟩,
      ⟨some 32, none, .bin .eql (.t 31) (.c (.int .i64 2))⟩])
    (.cond (.t 32)
      (.region false [
        ⟨some 33, none, .mov (.t 4)⟩,
        ⟨some 34, none, .mov (.t 7)⟩,
        ⟨some 35, none, .bin .quo (.t 34) (.c (.int .i64 4))⟩,
        ⟨some 36, none, .call 120 [(.t 33), (.t 35)]⟩,
        ⟨some 37, none, .faddr 2 (.t 8)⟩,
        ⟨none, none, .store 1 (.t 37) (.t 36)⟩])
      (.region false [
        ⟨some 38, none, .mov (.t 7)⟩,
        ⟨some 39, none, .bin .quo (.t 38) (.c (.int .i64 4))⟩,
        ⟨some 40, none, .faddr 1 (.t 8)⟩,
        ⟨none, none, .store 1 (.t 40) (.t 39)⟩])))
    (.region false [
      ⟨some 41, none, .mov (.t 5)⟩,
      ⟨some 42, none, .loadn 3 (.t 8)⟩,
      ⟨some 43, none, .bslice 108 3 [(.t 42)]⟩,
      ⟨some 44, none, .append 108 3 32 (.t 41) (.t 43)⟩,
      ⟨some 5, none, .mov (.t 44)⟩])))))
    (.region false [
      ⟨some 23, none, .mov (.t 6)⟩,
      ⟨some 24, none, .bin .sub (.t 23) (.c (.int .i64 1))⟩,
      ⟨some 6, none, .mov (.t 24)⟩]))))))
  (.seq (.seq (.region false [
    ⟨some 45, none, .mov (.t 4)⟩,
    ⟨some 46, none, .nilchk (.t 45)⟩,
    ⟨some 47, none, .faddr 1 (.t 46)⟩,
    ⟨some 48, none, .load1 (.t 47)⟩,
    ⟨some 49, none, .mov (.t 48)⟩,
    ⟨some 50, some (49, false), .mov (.t 4)⟩,
    ⟨some 51, some (49, false), .nilchk (.t 50)⟩,
    ⟨some 52, some (49, false), .faddr 0 (.t 51)⟩,
    ⟨some 53, some (49, false), .load1 (.t 52)⟩,
    ⟨some 54, some (49, false), .bin .neq (.t 53) (.c (.string ⟨#[]⟩))⟩,
    ⟨some 55, none, .pick (.t 49) (.c (.bool true)) (.t 54)⟩,
    ⟨some 56, none, .mov (.t 55)⟩,
    ⟨some 57, some (56, false), .mov (.t 5)⟩,
    ⟨some 58, some (56, false), .call 89 [(.t 57)]⟩,
    ⟨some 59, some (56, false), .bin .neq (.t 58) (.c (.int .i64 0))⟩,
    ⟨some 60, none, .pick (.t 56) (.c (.bool true)) (.t 59)⟩])
  (.cond (.t 60)
    (.seq (.region false [
      ⟨some 2, none, .mov (.c (.slice none 0 0))⟩,
      ⟨some 3, none, .mov (.c (.int .i64 3))⟩])
    (.ret))
    (.skip)))
  (.seq (.region false [
    ⟨some 61, none, .mov (.t 5)⟩,
    ⟨some 2, none, .mov (.t 61)⟩,
    ⟨some 3, none, .mov (.c (.int .i64 0))⟩])
  (.ret))))))
theorem ok_cread : FnOk Try.prog 100 Try.f100 ac_cread [.t 2, .t 3] 1 drawD := ⟨Try.func100, by decide +kernel, by kernel_rfl, by kernel_rfl, by decide +kernel⟩
structure YRe (Q : List UInt8) where
  n : Nat
  nn : Int
  s : List UInt8
  bad : Bool
  out : List Part
  b : Option Nat
  c : Nat
  rows : List (List V)
  hnn : nn = (n : Int)
  hs : s.length ≤ maxLen
  good : bad = false → parseF Q = pcR n s out
  badd : bad = true → parseF Q = none
  hln : out.length + n ≤ 2147483647
  hrows : rows = out.map encPart
  hc : c = out.length
theorem vc_cread (P : Prim) (hP : P = std) (T T1 : CallT) (Q : List UInt8) (hQ : Q.length ≤ maxLen) (hrn : RnC T) (hrt : RtC T)
    (hck : ∀ (d : List Part) (h : Hp) (K : V → Hp → Prop) (k : Nat) (b : Option Nat) (n : Nat) (rs : List (List V)), d.length ≤ maxLen → rs = d.map encPart → n = rs.length → h k = some ⟨b, 108, 3, rs⟩ → K (.int .i64 (checkF d)) h → T 89 [.own k b 3 n] h K)
    (cF : List Part → Int) (hcF : ∀ d, cF d = checkF d)
    (r : List Part) (e : Int) (hr : readF Q = (r, e)) (rr : List (List V)) (hrr : rr = r.map encPart)
    (R : S → Prop) (hR : ∀ e2, e2 = e → RetSl [.t 2, .t 3] 3 rr [.int .i64 e2] R) : awp P T T1 ac_cread (S0 [.str Q] Hp.emp) R (fun _ _ => False) R := by
  have hml : maxLen = 9223372036854775807 := by decide
  have bad3 : r = [] ∧ 3 = e → ∀ s s', Ent s s' → Ret [.t 2, .t 3] [.nilsl, .int .i64 3] s' → R s := fun hx s s' he hret => (hR _ hx.2).1 _ _ he hret (by rw [hrr, hx.1]; rfl)
  have z4 : P.ltP 0 4 := ltI hP (by decide)
  cbv
  intro β
  cbv
  refine hrn _ _ _ _ _ _ hQ rfl fun s1 bad1 v1 hv1 => ?_
  cbv
  refine ⟨YRe Q, fun y => [(4, .ptr 11 (some β) 2 0 0), (5, .own 1000044 y.b 3 y.c), (6, .int .i64 y.nn)], fun y => [(11, ⟨some β, 192, 2, [[.str y.s, .bool y.bad]]⟩), (1000044, ⟨y.b, 108, 3, y.rows⟩)], fun y => y.n,
    ⟨_, Ent.nil (i := 5) (k := 1000044) (ty := 108) (sz := 3) rfl rfl, ⟨v1.toNat, v1, s1, bad1, [], _, _, _, ?_, ?_, ?_, ?_, ?_, rfl, rfl⟩, ⟨rfl, rfl, rfl, trivial⟩, ⟨rfl, rfl, trivial⟩⟩, ?_⟩
  · obtain ⟨_, _, h3⟩ := hv1
    have : 0 ≤ v1 := by
      rw [h3]; unfold rnumF
      split
      · exact Int.le_refl 0
      · rename_i hx
        obtain ⟨k, _, _, _, _, g4, _⟩ := getS_num (Decidable.of_not_not hx)
        exact g4
    ((try simp only [nc] at *); omega)
  · obtain ⟨h1, _, _⟩ := hv1
    rw [h1]; unfold rnumF
    split
    · exact hQ
    · simp only [List.length_drop]; omega
  · intro hb
    obtain ⟨h1, h2, h3⟩ := hv1
    unfold rnumF at h1 h2 h3
    split at h2
    · rw [h2] at hb; cases hb
    · rename_i hx
      rw [if_neg hx] at h1 h3
      dsimp only at h1 h3
      unfold parseF
      rw [if_neg hx, h1, h3]
  · intro hb
    obtain ⟨h1, h2, h3⟩ := hv1
    unfold rnumF at h2
    split at h2
    · rename_i hx; unfold parseF; rw [if_pos hx]
    · rw [h2] at hb; cases hb
  · obtain ⟨_, _, h3⟩ := hv1
    have : v1 ≤ 2147483647 := by
      rw [h3]; unfold rnumF
      split
      · exact (by decide : (0 : Int) ≤ 2147483647)
      · rename_i hx
        obtain ⟨k, _, _, _, _, _, g5, _⟩ := getS_num (Decidable.of_not_not hx)
        exact g5
    simp only [List.length_nil]; omega
  clear hv1
  rintro ⟨n, nn, s, bad, out, b, c, rows, hnn, hs, good, badd, hln, hrows, hc⟩
  replace hnn : nn = (n : Int) := hnn
  cases bad with
  | true =>
    have hx := badd rfl
    have hre : r = [] ∧ 3 = e := by unfold readF at hr; rw [hx] at hr; simp only [Prod.mk.injEq] at hr; exact ⟨hr.1.symm, hr.2⟩
    cbv
    refine br_cases (fun h => ?_) (fun h => ?_)
    · cbv
      exact bad3 hre _ _ (Ent.refl _) rfl
    · cbv
      exact bad3 hre _ _ (Ent.refl _) rfl
  | false =>
    have hpa := good rfl
    cbv
    refine br_cases (fun h => ?_) (fun h => ?_)
    · have h6 : 0 < nn := lt_t hP h
      obtain ⟨n, rfl⟩ : ∃ n', n = n' + 1 := ⟨n - 1, by ((try simp only [nc] at *); omega)⟩
      cbv
      refine hrn _ _ _ _ _ _ hs rfl fun s2 bad2 x hx => ?_
      obtain ⟨x1, x2, x3⟩ := hx
      have hx0 : 0 ≤ x ∧ x ≤ 2147483647 := by
        rw [x3]; unfold rnumF
        split
        · exact ⟨(by decide : (0 : Int) ≤ 0), (by decide : (0 : Int) ≤ 2147483647)⟩
        · rename_i hx
          obtain ⟨k, _, _, _, _, g4, g5, _⟩ := getS_num (Decidable.of_not_not hx)
          exact ⟨g4, g5⟩
      have hs2 : s2.length ≤ maxLen := by
        rw [x1]; unfold rnumF
        split
        · exact hs
        · simp only [List.length_drop]; omega
      have a1 : P.leP 0 x := le0 hP hx0.1
      have a2 : P.div x 4 = x / 4 := by subst hP; rfl
      have a3 : P.mod x 4 = x % 4 := by subst hP; rfl
      have a4 : P.i64 (P.div x 4) := by rw [a2]; exact i64I hP (by omega)
      have a5 : P.i64 (P.sub nn 1) := by rw [sub_eq hP]; exact i64I hP (by ((try simp only [nc] at *); omega))
      have a6 : P.sub nn 1 = (n : Int) := by rw [sub_eq hP]; ((try simp only [nc] at *); omega)
      have f4 : P.neP rows c := by subst hP; show rows.length = c; rw [hrows, hc]; simp
      have f5 : ∀ r, P.bytes (P.add (P.int c) (P.rlen [r])) 32 := by intro r; subst hP; show ((c : Int) + 1) * 32 ≤ _; rw [hc]; ((try simp only [nc] at *); omega)
      have f6 : ∀ r, P.neP [r] 1 := by intro r; subst hP; rfl
      have f7 : ∀ p : Part, P.rapp rows [encPart p] = (out ++ [p]).map encPart := by intro p; rw [hrows]; subst hP; simp [std]
      have f8 : ∀ (r : List V) (p : Part), P.nadd c (P.rlenN [r]) = (out ++ [p]).length := by intro r p; rw [hc]; subst hP; simp [std]
      have f9 : ∀ p : Part, (out ++ [p]).length + n ≤ 2147483647 := by intro p; simp; omega
      cbv
      refine ⟨a1, z4, ?_⟩
      intro β8
      cbv
      refine br_cases (fun h => ?_) (fun h => ?_)
      · have hk2 : P.mod x 4 = 2 := eq_t hP h
        cbv
        refine ⟨a1, z4, a4, ?_⟩
        refine hrt _ _ _ _ _ _ _ (by show 0 ≤ P.div x 4; rw [a2]; omega) rfl fun s3 bad3' v hv => ?_
        obtain ⟨w1, w2, w3⟩ := hv
        cbv
        repeat' (first
          | (refine And.intro (by assumption) ?_; try cbv)
          | (refine And.intro (f6 _) ?_; try cbv)
          | (refine And.intro (f5 _) ?_; try cbv)
          | (intro β; try cbv))
        refine ⟨_, Ent.refl _, ⟨n, _, s3, bad3', out ++ [⟨P.mod x 4, 0, v⟩], _, _, _, a6, ?_, ?_, ?_, f9 _, f7 ⟨P.mod x 4, 0, v⟩, f8 _ _⟩, ⟨rfl, rfl, rfl, trivial⟩, ⟨rfl, rfl, trivial⟩, Nat.lt_succ_self n⟩
        · rw [w1]; unfold rtextF
          split
          · exact hs2
          · simp only [List.length_drop]; omega
        · intro hb
          rw [hpa]
          unfold rtextF at w1 w2 w3
          split at w2
          · rw [w2] at hb; cases hb
          · rename_i hl
            rw [if_neg hl] at w1 w3
            dsimp only at w1 w3
            unfold rnumF at x1 x2 x3
            split at x2
            · rename_i he
              rw [if_pos he] at x3
              rw [a3, x3] at hk2
              exact absurd hk2 (by show ¬ (0 : Int) % 4 = 2; decide)
            · rename_i he
              rw [if_neg he] at x1 x3
              dsimp only at x1 x3
              rw [pcR, if_neg he, if_pos (by rw [← x3, ← a3]; exact hk2), if_neg (by rw [← x1, ← x3, ← a2]; exact hl), w1, w3, hk2, a2, x1, x3]
        · intro hb
          rw [hpa]
          unfold rtextF at w2
          split at w2
          · rename_i hl
            unfold rnumF at x1 x2 x3
            split at x2
            · rename_i he
              rw [pcR, if_pos he]
            · rename_i he
              rw [if_neg he] at x1 x3
              dsimp only at x1 x3
              rw [pcR, if_neg he, if_pos (by rw [← x3, ← a3]; exact hk2), if_pos (by rw [← x1, ← x3, ← a2]; exact hl)]
          · unfold rnumF at x2
            split at x2
            · rename_i he
              rw [pcR, if_pos he]
            · rw [w2, x2] at hb; cases hb
      · have hk2 : ¬ P.mod x 4 = 2 := eq_f hP h
        cbv
        refine ⟨a1, z4, a4, ?_⟩
        repeat' (first
          | (refine And.intro (by assumption) ?_; try cbv)
          | (refine And.intro (f6 _) ?_; try cbv)
          | (refine And.intro (f5 _) ?_; try cbv)
          | (intro β; try cbv))
        refine ⟨_, Ent.refl _, ⟨n, _, s2, bad2, out ++ [⟨P.mod x 4, P.div x 4, []⟩], _, _, _, a6, hs2, ?_, ?_, f9 _, f7 ⟨P.mod x 4, P.div x 4, []⟩, f8 _ _⟩, ⟨rfl, rfl, rfl, trivial⟩, ⟨rfl, rfl, trivial⟩, Nat.lt_succ_self n⟩
        · intro hb
          rw [hpa]
          unfold rnumF at x1 x2 x3
          split at x2
          · rw [x2] at hb; cases hb
          · rename_i he
            rw [if_neg he] at x1 x3
            dsimp only at x1 x3
            rw [pcR, if_neg he, if_neg (by rw [← x3, ← a3]; exact hk2), x1, a2, a3, x3]
        · intro hb
          rw [hpa]
          unfold rnumF at x2
          split at x2
          · rename_i he
            rw [pcR, if_pos he]
          · rw [x2] at hb; cases hb
    · have h6 : ¬ 0 < nn := lt_f hP h
      have hn0 : n = 0 := by ((try simp only [nc] at *); omega)
      subst hn0
      have hpr : parseF Q = some (s, out) := hpa
      unfold readF at hr
      rw [hpr] at hr
      simp only [] at hr
      have hol : out.length ≤ maxLen := by omega
      have hcl : c = rows.length := by rw [hc, hrows]; simp
      cbv
      refine br_cases (fun h => ?_) (fun h => ?_)
      · have hne : ¬ s = [] := sne_t hP h
        rw [if_neg (fun g => hne g.1)] at hr
        simp only [Prod.mk.injEq] at hr
        cbv
        exact bad3 ⟨hr.1.symm, hr.2⟩ _ _ (Ent.refl _) rfl
      · have hne : s = [] := sne_f hP h
        cbv
        refine hck out _ _ _ _ _ _ hol hrows hcl rfl ?_
        rw [← hcF]
        cbv
        refine br_cases (fun h => ?_) (fun h => ?_)
        · have hc0 := ne_t hP h
          rw [hcF] at hc0
          rw [if_neg (fun g => hc0 g.2)] at hr
          simp only [Prod.mk.injEq] at hr
          cbv
          exact bad3 ⟨hr.1.symm, hr.2⟩ _ _ (Ent.refl _) rfl
        · have hc0 := ne_f hP h
          rw [hcF] at hc0
          rw [if_pos ⟨hne, hc0⟩] at hr
          simp only [Prod.mk.injEq] at hr
          cbv
          exact (hR _ hr.2).2.1 _ _ _ _ _ _ _ (Ent.refl _) rfl rfl ⟨by rw [hcl, hrr, hrows, hr.1], by rw [hrr, hrows, hr.1]⟩
theorem sp_cread (Q : List UInt8) (hQ : Q.length ≤ maxLen) : Spec Try.prog 100 [.str Q] Hp.emp (Is (.tup [encParts (readF Q).1, .int .i64 (readF Q).2])) :=
  spec_frz dOk ok_cread fun R hR => vc_cread std rfl _ _ Q hQ rnC rtC (fun d h K k b n rs hd hrs hn hk hK => ownCall (sp_check d hd) rfl h K k b n rs hrs hn hk hK) checkF (fun _ => rfl) (readF Q).1 (readF Q).2 rfl _ rfl R
    fun x hx => by subst hx; exact retSl_of (parts_sz _) (encParts_fz _) (int_fz _) hR
def ac_rdec : AC := .seq (.region false [
    ⟨some 2, none, .mov (.c (.slice none 0 0))⟩,
    ⟨some 3, none, .mov (.c (.int .i64 0))⟩])
  (.seq (.region false [
    ⟨some 13, none, .mov (.t 0)⟩,
    ⟨some 14, none, .call 103 [(.t 13)]⟩,
    ⟨some 12, none, .mov (.t 14)⟩,
    ⟨some 15, none, .ext 0 (.t 12)⟩,
    ⟨some 16, none, .ext 1 (.t 12)⟩,
    ⟨some 17, none, .ext 2 (.t 12)⟩,
    ⟨some 4, none, .mov (.t 15)⟩,
    ⟨some 5, none, .mov (.t 16)⟩,
    ⟨some 6, none, .mov (.t 17)⟩])
  (.seq (.seq (.region false [
    ⟨some 18, none, .mov (.t 6)⟩,
    ⟨some 19, none, .bin .neq (.t 18) (.c (.int .i64 0))⟩])
  (.cond (.t 19)
    (.seq (.region false [
      ⟨some 2, none, .mov (.c (.slice none 0 0))⟩,
      ⟨some 3, none, .mov (.c (.int .i64 3))⟩])
    (.ret))
    (.skip)))
  (.seq (.region false [
    ⟨some 7, none, .mov (.c (.slice none 0 0))⟩])
  (.seq (.seq (.region false [
    ⟨some 20, none, .mov (.t 4)⟩,
    ⟨some 21, none, .mov (.c (.int .i64 0))⟩])
  (.block 0 (.loop (.seq (.region false [
      ⟨some 22, none, .bin .lss (.t 21) (.t 20)⟩])
    (.seq (.cond (.t 22)
      (.skip)
      (.exit 0))
    (.seq (.block 1 (.seq (.region false [
      ⟨some 24, none, .mov (.t 0)⟩,
      ⟨some 25, none, .mov (.t 5)⟩,
      ⟨some 26, none, .slstr (.t 24) (some (.t 25)) none⟩,
      ⟨some 27, none, .call 103 [(.t 26)]⟩,
      ⟨some 23, none, .mov (.t 27)⟩,
      ⟨some 28, none, .ext 0 (.t 23)⟩,
      ⟨some 29, none, .ext 1 (.t 23)⟩,
      ⟨some 30, none, .ext 2 (.t 23)⟩,
      ⟨some 8, none, .mov (.t 28)⟩,
      ⟨some 9, none, .mov (.t 29)⟩,
      ⟨some 10, none, .mov (.t 30)⟩])
    (.seq (.seq (.region false [
      ⟨some 31, none, .mov (.t 10)⟩,
      ⟨some 32, none, .bin .neq (.t 31) (.c (.int .i64 0))⟩])
    (.cond (.t 32)
      (.seq (.region false [
        ⟨some 2, none, .mov (.c (.slice none 0 0))⟩,
        ⟨some 3, none, .mov (.c (.int .i64 3))⟩])
      (.ret))
      (.skip)))
    (.seq (.region false [
      ⟨some 33, none, .mov (.t 5)⟩,
      ⟨some 34, none, .mov (.t 9)⟩,
      ⟨some 35, none, .bin .add (.t 33) (.t 34)⟩,
      ⟨some 5, none, .mov (.t 35)⟩])
    (.seq (.region false [
      ⟨some 36, none, .mov (.t 8)⟩,
      ⟨some 37, none, .bin .rem (.t 36) (.c (.int .i64 4))⟩,
      ⟨some 38, none, .mov (.t 8)⟩,
      ⟨some 39, none, .bin .quo (.t 38) (.c (.int .i64 4))⟩,
      ⟨some 40, none, .build [(.int .i64 0), (.int .i64 0), (.string ⟨#[]⟩)] [(0, 1, (.t 37)), (1, 1, (.t 39))]⟩,
      ⟨some 11, none, .alloc 108 [(.int .i64 0), (.int .i64 0), (.string ⟨#[]⟩)]⟩,
      ⟨none, none, .store 3 (.t 11) (.t 40)⟩])
    (.seq (.seq (.region false [
      ⟨some 41, none, .faddr 0 (.t 11)⟩,
      ⟨some 42, none, .load1 (.t 41)⟩,
      ⟨some 43, none, .bin .eql (.t 42) (.c (.int .i64 2))⟩])
    (.cond (.t 43)
      (.seq (.seq (.region false [
        ⟨some 44, none, .faddr 1 (.t 11)⟩,
        ⟨some 45, none, .load1 (.t 44)⟩,
        ⟨some 46, none, .mov (.t 0)⟩,
        ⟨some 47, none, .len true (.t 46)⟩,
        ⟨some 48, none, .mov (.t 5)⟩,
        ⟨some 49, none, .bin .sub (.t 47) (.t 48)⟩,
        ⟨some 50, none, .bin .gtr (.t 45) (.t 49)⟩])
      (.cond (.t 50)
        (.seq (.region false [
          ⟨some 2, none, .mov (.c (.slice none 0 0))⟩,
          ⟨some 3, none, .mov (.c (.int .i64 3))⟩])
        (.ret))
        (.skip)))
      (.seq (.region false [
        ⟨some 51, none, .mov (.t 0)⟩,
        ⟨some 52, none, .mov (.t 5)⟩,
        ⟨some 53, none, .mov (.t 5)⟩,
        ⟨some 54, none, .faddr 1 (.t 11)⟩,
        ⟨some 55, none, .load1 (.t 54)⟩,
        ⟨some 56, none, .bin .add (.t 53) (.t 55)⟩,
        ⟨some 57, none, .slstr (.t 51) (some (.t 52)) (some (.t 56))⟩,
        ⟨some 58, none, .faddr 2 (.t 11)⟩,
        ⟨none, none, .store 1 (.t 58) (.t 57)⟩,
        ⟨some 59, none, .faddr 1 (.t 11)⟩,
        ⟨none, none, .store 1 (.t 59) (.c (.int .i64 0))⟩])
      (.region false [
        ⟨some 60, none, .mov (.t 5)⟩,
        ⟨some 61, none, .faddr 2 (.t 11)⟩,
        ⟨some 62, none, .load1 (.t 61)⟩,
        ⟨some 63, none, .len true (.t 62)⟩,
        ⟨some 64, none, .bin .add (.t 60) (.t 63)⟩,
        ⟨some 5, none, .mov (.t 64)⟩])))
      (.skip)))
    (.region false [
      ⟨some 65, none, .mov (.t 7)⟩,
      ⟨some 66, none, .loadn 3 (.t 11)⟩,
      ⟨some 67, none, .bslice 108 3 [(.t 66)]⟩,
      ⟨some 68, none, .append 108 3 32 (.t 65) (.t 67)⟩,
      ⟨some 7, none, .mov (.t 68)⟩])))))))
    (.region false [
      ⟨some 69, none, .bin .add (.t 21) (.c (.int .i64 1))⟩,
      ⟨some 21, none, .mov (.t 69)⟩])))))))
  (.seq (.seq (.region false [
    ⟨some 70, none, .mov (.t 7)⟩,
    ⟨some 71, none, .call 104 [(.t 70)]⟩,
    ⟨some 72, none, .bin .neq (.t 71) (.c (.int .i64 0))⟩,
    ⟨some 73, none, .mov (.t 72)⟩,
    ⟨some 74, some (73, false), .mov (.t 7)⟩,
    ⟨some 75, some (73, false), .call 105 [(.t 74)]⟩,
    ⟨some 76, some (73, false), .mov (.t 0)⟩,
    ⟨some 77, some (73, false), .bin .neq (.t 75) (.t 76)⟩,
    ⟨some 78, none, .pick (.t 73) (.c (.bool true)) (.t 77)⟩])
  (.cond (.t 78)
    (.seq (.region false [
      ⟨some 2, none, .mov (.c (.slice none 0 0))⟩,
      ⟨some 3, none, .mov (.c (.int .i64 3))⟩])
    (.ret))
    (.skip)))
  (.seq (.region false [
    ⟨some 79, none, .mov (.t 7)⟩,
    ⟨some 2, none, .mov (.t 79)⟩,
    ⟨some 3, none, .mov (.c (.int .i64 0))⟩])
  (.ret)))))))
theorem ok_rdec : FnOk Try.prog 75 Try.f75 ac_rdec [.t 2, .t 3] 1 drawD := ⟨Try.func75, by decide +kernel, by kernel_rfl, by kernel_rfl, by decide +kernel⟩
structure YDe (Q : List UInt8) (N : Int) where
  n : Nat
  m : Nat
  j : Int
  k : Int
  s : List UInt8
  out : List Part
  b : Option Nat
  c : Nat
  rows : List (List V)
  hj : j = (m : Int)
  hN : N = (m : Int) + (n : Int)
  hk : 0 ≤ k ∧ k ≤ (Q.length : Int)
  hs : s = Q.drop k.toNat
  hp : parseF Q = pcR n s out
  hm : out.length = m
  hrows : rows = out.map encPart
  hc : c = out.length
theorem vc_rdec (P : Prim) (hP : P = std) (T T1 : CallT) (Q : List UInt8) (hQ : Q.length ≤ maxLen) (uN uK uE : List UInt8 → Int) (huN : ∀ s, uN s = (getS s).1) (huK : ∀ s, uK s = (getS s).2.1) (huE : ∀ s, uE s = (getS s).2.2)
    (hun : ∀ s, s.length ≤ maxLen → Ans T 103 [.str s] (.tup [.int .i64 (uN s), .int .i64 (uK s), .int .i64 (uE s)]))
    (hck : ∀ (d : List Part) (h : Hp) (K : V → Hp → Prop) (k : Nat) (b : Option Nat) (n : Nat) (rs : List (List V)), d.length ≤ maxLen → rs = d.map encPart → n = rs.length → h k = some ⟨b, 108, 3, rs⟩ → K (.int .i64 (checkF d)) h → T 104 [.own k b 3 n] h K)
    (cF : List Part → Int) (hcF : ∀ d, cF d = checkF d) (cd : List Part → List UInt8) (hcd : ∀ d, cd d = codeF d)
    (hcode : ∀ (d : List Part) (h : Hp) (K : V → Hp → Prop) (k : Nat) (b : Option Nat) (n : Nat) (rs : List (List V)), checkF d = 0 → rs = d.map encPart → n = rs.length → h k = some ⟨b, 108, 3, rs⟩ → K (.str (cd d)) h → T 105 [.own k b 3 n] h K)
    (r : List Part) (e : Int) (hr : readF Q = (r, e)) (rr : List (List V)) (hrr : rr = r.map encPart)
    (R : S → Prop) (hR : ∀ e2, e2 = e → RetSl [.t 2, .t 3] 3 rr [.int .i64 e2] R) : awp P T T1 ac_rdec (S0 [.str Q] Hp.emp) R (fun _ _ => False) R := by
  have hml : maxLen = 9223372036854775807 := by decide
  have bad3 : parseF Q = none → ∀ s s', Ent s s' → Ret [.t 2, .t 3] [.nilsl, .int .i64 3] s' → R s := fun hx s s' he hret => by
    have hre : r = [] ∧ 3 = e := by unfold readF at hr; rw [hx] at hr; simp only [Prod.mk.injEq] at hr; exact ⟨hr.1.symm, hr.2⟩
    exact (hR _ hre.2).1 _ _ he hret (by rw [hrr, hre.1]; rfl)
  have z4 : P.ltP 0 4 := ltI hP (by decide)
  have hsp : ∀ x : List UInt8, P.slen x = (x.length : Int) := by intro x; subst hP; rfl
  have c0 := hun Q hQ
  cbv
  refine c0 _ _ ?_
  cbv
  refine br_cases (fun h => ?_) (fun h => ?_)
  · have hx := ne_t hP h
    rw [huE] at hx
    cbv
    exact bad3 (by unfold parseF; rw [if_pos hx]) _ _ (Ent.refl _) rfl
  have he0 := ne_f hP h
  rw [huE] at he0
  obtain ⟨k0, w1, w2, w3, w4, w5, w6, w7⟩ := getS_num he0
  have w8 := getS_k he0
  rw [← huK] at w1 w8
  rw [← huN] at w5 w6 w7
  have hp0 : parseF Q = pcR (uN Q).toNat (Q.drop (uK Q).toNat) [] := by unfold parseF; rw [if_neg (fun g => g he0), huN, huK]
  generalize hNq : uN Q = N at w5 w6 w7 hp0 ⊢
  generalize hKq : uK Q = K0 at w1 w8 hp0 ⊢
  clear h c0
  cbv
  refine ⟨YDe Q N, fun y => [(0, .str Q), (5, .int .i64 y.k), (7, .own 1000068 y.b 3 y.c), (20, .int .i64 N), (21, .int .i64 y.j)], fun y => [(1000068, ⟨y.b, 108, 3, y.rows⟩)], fun y => y.n,
    ⟨_, Ent.nil (i := 7) (k := 1000068) (ty := 108) (sz := 3) rfl rfl, ⟨N.toNat, 0, 0, K0, _, [], _, _, _, rfl, by omega, w8, rfl, hp0, rfl, rfl, rfl⟩, ⟨rfl, rfl, rfl, rfl, rfl, trivial⟩, ⟨rfl, trivial⟩⟩, ?_⟩
  rintro ⟨n, m, j, k, s, out, b, c, rows, hj, hN, hk, hs, hp, hm, hrows, hc⟩
  replace hj : j = (m : Int) := hj
  replace hN : N = (m : Int) + (n : Int) := hN
  replace hk : 0 ≤ k ∧ k ≤ (Q.length : Int) := hk
  cbv
  refine br_cases (fun h => ?_) (fun h => ?_)
  · have h6 : j < N := lt_t hP h
    obtain ⟨n, rfl⟩ : ∃ n', n = n' + 1 := ⟨n - 1, by ((try simp only [nc] at *); omega)⟩
    have hsl : s.length ≤ maxLen := by rw [hs, List.length_drop]; omega
    have hsl2 : (s.length : Int) = (Q.length : Int) - k := by rw [hs, List.length_drop]; ((try simp only [nc] at *); omega)
    have l1 : P.leP 0 k := le0 hP hk.1
    have l2 : P.leP k (P.slen Q) := leI hP (by rw [hsp]; exact hk.2)
    have l3 : P.leP (P.slen Q) (P.slen Q) := leI hP (Int.le_refl _)
    have e1 : P.ssub Q k (P.slen Q) = s := by
      rw [hsp, hs]; subst hP
      show (Q.take ((Q.length : Int)).toNat).drop k.toNat = _
      rw [Int.toNat_natCast, List.take_length]
    have c1 := hun s hsl
    rw [← e1] at c1
    have b1 : P.i64 (P.add j 1) := by rw [add_eq hP]; exact i64I hP (by ((try simp only [nc] at *); omega))
    have b2 : P.add j 1 = ((m + 1 : Nat) : Int) := by rw [add_eq hP]; ((try simp only [nc] at *); omega)
    have f4 : P.neP rows c := by subst hP; show rows.length = c; rw [hrows, hc]; simp
    have f5 : ∀ r, P.bytes (P.add (P.int c) (P.rlen [r])) 32 := by intro r; subst hP; show ((c : Int) + 1) * 32 ≤ _; rw [hc]; ((try simp only [nc] at *); omega)
    have f6 : ∀ r, P.neP [r] 1 := by intro r; subst hP; rfl
    have f7 : ∀ p : Part, P.rapp rows [encPart p] = (out ++ [p]).map encPart := by intro p; rw [hrows]; subst hP; simp [std]
    have f8 : ∀ (r : List V) (p : Part), P.nadd c (P.rlenN [r]) = (out ++ [p]).length := by intro r p; rw [hc]; subst hP; simp [std]
    have f9 : ∀ p : Part, (out ++ [p]).length = m + 1 := by intro p; simp [hm]
    have f10 : N = ((m + 1 : Nat) : Int) + (n : Int) := by ((try simp only [nc] at *); omega)
    cbv
    refine ⟨l1, l2, l3, ?_⟩
    refine c1 _ _ ?_
    rw [e1]
    cbv
    refine br_cases (fun h => ?_) (fun h => ?_)
    · have hx := ne_t hP h
      rw [huE] at hx
      cbv
      exact bad3 (by rw [hp, pcR, if_pos hx]) _ _ (Ent.refl _) rfl
    have he1 := ne_f hP h
    rw [huE] at he1
    obtain ⟨k1, y1, y2, y3, y4, y5, y6, y7⟩ := getS_num he1
    have y8 := getS_k he1
    rw [← huK] at y1 y8
    rw [← huN] at y5 y6 y7
    rw [pcR, if_neg (fun g => g he1), ← huN, ← huK] at hp
    clear c1
    generalize uN s = x at y5 y6 y7 hp ⊢
    generalize uK s = u at y1 y8 hp ⊢
    clear y1
    have y9 : u ≤ (Q.length : Int) - k := by rw [← hsl2]; exact y8.2
    have y10 : 0 ≤ u := y8.1
    have a1 : P.leP 0 x := le0 hP y5
    have a2 : P.div x 4 = x / 4 := by subst hP; rfl
    have a3 : P.mod x 4 = x % 4 := by subst hP; rfl
    have a4 : P.i64 (P.div x 4) := by rw [a2]; exact i64I hP (by omega)
    have a5 : P.add k u = k + u := add_eq hP _ _
    have a6 : P.i64 (P.add k u) := by rw [a5]; exact i64I hP (by omega)
    have a7 : s.drop u.toNat = Q.drop (P.add k u).toNat := by rw [hs, List.drop_drop, a5]; congr 1; omega
    have a8 : 0 ≤ P.add k u ∧ P.add k u ≤ (Q.length : Int) := by rw [a5]; omega
    have a9 : (((s.drop u.toNat).length : Nat) : Int) = (Q.length : Int) - P.add k u := by rw [List.length_drop, a5]; ((try simp only [nc] at *); omega)
    cbv
    refine ⟨a6, ?_⟩
    cbv
    refine ⟨a1, z4, a1, z4, a4, ?_⟩
    intro β
    cbv
    refine br_cases (fun h => ?_) (fun h => ?_)
    · have hk2 : P.mod x 4 = 2 := eq_t hP h
      rw [if_pos (by rw [← a3]; exact hk2), a9] at hp
      have s1 : P.i64 (P.sub (P.slen Q) (P.add k u)) := by rw [sub_eq hP, hsp]; exact i64I hP (by ((try simp only [nc] at *); omega))
      cbv
      refine ⟨s1, ?_⟩
      refine br_cases (fun h => ?_) (fun h => ?_)
      · have hl : P.sub (P.slen Q) (P.add k u) < P.div x 4 := lt_t hP h
        rw [sub_eq hP, hsp, a2] at hl
        rw [if_pos hl] at hp
        cbv
        exact bad3 hp _ _ (Ent.refl _) rfl
      · have hl : ¬ P.sub (P.slen Q) (P.add k u) < P.div x 4 := lt_f hP h
        rw [sub_eq hP, hsp, a2] at hl
        rw [if_neg hl] at hp
        have t1 : P.add (P.add k u) (P.div x 4) = P.add k u + x / 4 := by rw [add_eq hP (P.add k u), a2]
        have t2 : P.i64 (P.add (P.add k u) (P.div x 4)) := by rw [t1]; exact i64I hP (by ((try simp only [nc] at *); omega))
        have t3 : P.leP 0 (P.add k u) := le0 hP a8.1
        have t4 : P.leP (P.add k u) (P.add (P.add k u) (P.div x 4)) := leI hP (by rw [t1]; ((try simp only [nc] at *); omega))
        have t5 : P.leP (P.add (P.add k u) (P.div x 4)) (P.slen Q) := leI hP (by rw [t1, hsp]; ((try simp only [nc] at *); omega))
        have t6 : P.ssub Q (P.add k u) (P.add (P.add k u) (P.div x 4)) = (s.drop u.toNat).take (x / 4).toNat := by
          rw [t1, a7]
          have ha := a8
          generalize P.add k u = A at ha ⊢
          subst hP
          show (Q.take (A + x / 4).toNat).drop A.toNat = _
          rw [List.drop_take]; congr 1; ((try simp only [nc] at *); omega)
        have t7 : P.slen ((s.drop u.toNat).take (x / 4).toNat) = x / 4 := by rw [hsp, List.length_take]; ((try simp only [nc] at *); omega)
        have t8 : P.add (P.add k u) (P.slen (P.ssub Q (P.add k u) (P.add (P.add k u) (P.div x 4)))) = P.add k u + x / 4 := by rw [t6, t7, add_eq hP (P.add k u)]
        have t9 : P.i64 (P.add (P.add k u) (P.slen (P.ssub Q (P.add k u) (P.add (P.add k u) (P.div x 4))))) := by rw [t8]; exact i64I hP (by ((try simp only [nc] at *); omega))
        cbv
        repeat' (first
          | (refine And.intro (by assumption) ?_; try cbv)
          | (refine And.intro (f6 _) ?_; try cbv)
          | (refine And.intro (f5 _) ?_; try cbv)
          | (intro β; try cbv))
        refine ⟨_, Ent.refl _, ⟨n, m + 1, _, _, (s.drop u.toNat).drop (x / 4).toNat, out ++ [⟨P.mod x 4, 0, P.ssub Q (P.add k u) (P.add (P.add k u) (P.div x 4))⟩], _, _, _, b2, f10, ?_, ?_, ?_, f9 _, f7 ⟨P.mod x 4, 0, P.ssub Q (P.add k u) (P.add (P.add k u) (P.div x 4))⟩, f8 _ _⟩, ⟨rfl, rfl, rfl, rfl, rfl, trivial⟩, ⟨rfl, trivial⟩, Nat.lt_succ_self n⟩
        · show 0 ≤ P.add (P.add k u) (P.slen (P.ssub Q (P.add k u) (P.add (P.add k u) (P.div x 4)))) ∧ P.add (P.add k u) (P.slen (P.ssub Q (P.add k u) (P.add (P.add k u) (P.div x 4)))) ≤ (Q.length : Int)
          rw [t8]; ((try simp only [nc] at *); omega)
        · show _ = Q.drop (P.add (P.add k u) (P.slen (P.ssub Q (P.add k u) (P.add (P.add k u) (P.div x 4))))).toNat
          rw [t8, a7, List.drop_drop]; congr 1; ((try simp only [nc] at *); omega)
        · rw [hp, hk2, t6]
    · have hk2 : ¬ P.mod x 4 = 2 := eq_f hP h
      rw [if_neg (by rw [← a3]; exact hk2)] at hp
      cbv
      repeat' (first
        | (refine And.intro (by assumption) ?_; try cbv)
        | (refine And.intro (f6 _) ?_; try cbv)
        | (refine And.intro (f5 _) ?_; try cbv)
        | (intro β; try cbv))
      exact ⟨_, Ent.refl _, ⟨n, m + 1, _, _, s.drop u.toNat, out ++ [⟨P.mod x 4, P.div x 4, []⟩], _, _, _, b2, f10, a8, a7, by rw [hp, a2, a3], f9 _, f7 ⟨P.mod x 4, P.div x 4, []⟩, f8 _ _⟩, ⟨rfl, rfl, rfl, rfl, rfl, trivial⟩, ⟨rfl, trivial⟩, Nat.lt_succ_self n⟩
  · have h6 : ¬ j < N := lt_f hP h
    have hn0 : n = 0 := by ((try simp only [nc] at *); omega)
    subst hn0
    have hpr : parseF Q = some (s, out) := hp
    have hrc := read_code hpr
    unfold readF at hr
    rw [hpr] at hr
    simp only [] at hr
    have hol : out.length ≤ maxLen := by ((try simp only [nc] at *); omega)
    have hcl : c = rows.length := by rw [hc, hrows]; simp
    have bad4 : ¬ (s = [] ∧ checkF out = 0) → ∀ s s', Ent s s' → Ret [.t 2, .t 3] [.nilsl, .int .i64 3] s' → R s := fun hx s s' he hret => by
      rw [if_neg hx] at hr
      simp only [Prod.mk.injEq] at hr
      exact (hR _ hr.2).1 _ _ he hret (by rw [hrr, ← hr.1]; rfl)
    cbv
    refine hck out _ _ _ _ _ _ hol hrows hcl rfl ?_
    rw [← hcF]
    cbv
    refine br_cases (fun h => ?_) (fun h => ?_)
    · have hc0 := ne_t hP h
      rw [hcF] at hc0
      cbv
      exact bad4 (fun g => hc0 g.2) _ _ (Ent.refl _) rfl
    · have hc0 := ne_f hP h
      rw [hcF] at hc0
      cbv
      refine hcode out _ _ _ _ _ _ hc0 hrows hcl rfl ?_
      cbv
      refine br_cases (fun h => ?_) (fun h => ?_)
      · have hne := sne_t hP h
        rw [hcd] at hne
        cbv
        exact bad4 (fun g => hne (hrc.1 g.1)) _ _ (Ent.refl _) rfl
      · have hne := sne_f hP h
        rw [hcd] at hne
        rw [if_pos ⟨hrc.2 hne, hc0⟩] at hr
        simp only [Prod.mk.injEq] at hr
        cbv
        exact (hR _ hr.2).2.1 _ _ _ _ _ _ _ (Ent.refl _) rfl rfl ⟨by rw [hcl, hrr, hrows, hr.1], by rw [hrr, hrows, hr.1]⟩
theorem sp_rdec (Q : List UInt8) (hQ : Q.length ≤ maxLen) : Spec Try.prog 75 [.str Q] Hp.emp (Is (.tup [encParts (readF Q).1, .int .i64 (readF Q).2])) :=
  spec_frz dOk ok_rdec fun R hR => vc_rdec std rfl _ _ Q hQ (fun s => (getS s).1) (fun s => (getS s).2.1) (fun s => (getS s).2.2) (fun _ => rfl) (fun _ => rfl) (fun _ => rfl) (fun s hs => ansW (sp_runnum s hs) (fun _ => args_plain rfl) rfl)
    (fun d h K k b n rs hd hrs hn hk hK => ownCall (sp_rdelta d hd) rfl h K k b n rs hrs hn hk hK) checkF (fun _ => rfl) codeF (fun _ => rfl)
    (fun d h K k b n rs hd hrs hn hk hK => ownCall (sp_rcode d hd) rfl h K k b n rs hrs hn hk hK) (readF Q).1 (readF Q).2 rfl _ rfl R
    fun x hx => by subst hx; exact retSl_of (parts_sz _) (encParts_fz _) (int_fz _) hR
end Go.Proofs.Ytobngncjflogcaa.AM

set_option linter.unusedVariables false
set_option linter.unusedSimpArgs false
namespace Go.Proofs.Ytobngncjflogcaa

theorem bv_xlc (x y z : BitVec 32) : x ^^^ (y ^^^ z) = y ^^^ (x ^^^ z) := by rw [← BitVec.xor_assoc, BitVec.xor_comm x y, BitVec.xor_assoc]

/-- one bit -/
def crc1 (x : BitVec 32) : BitVec 32 := (x >>> 1) ^^^ (bif x.getLsbD 0 then 0x82f63b78#32 else 0#32)
def crcN : Nat → BitVec 32 → BitVec 32
  | 0, x => x
  | n + 1, x => crc1 (crcN n x)

theorem crc1_xor (x y : BitVec 32) : crc1 (x ^^^ y) = crc1 x ^^^ crc1 y := by
  unfold crc1
  rw [BitVec.ushiftRight_xor_distrib, BitVec.getLsbD_xor]
  cases x.getLsbD 0 <;> cases y.getLsbD 0
  · simp
  · simp only [Bool.false_bne, cond_true, cond_false, BitVec.xor_zero, BitVec.xor_assoc]
  · simp only [Bool.true_bne, Bool.not_false, cond_true, cond_false, BitVec.xor_zero, BitVec.xor_assoc]
    rw [BitVec.xor_comm (y >>> 1)]
  · simp only [Bool.true_bne, Bool.not_true, cond_true, cond_false, BitVec.xor_zero, BitVec.xor_assoc]
    rw [bv_xlc _ (y >>> 1), BitVec.xor_self, BitVec.xor_zero]

theorem crcN_xor (n : Nat) (x y : BitVec 32) : crcN n (x ^^^ y) = crcN n x ^^^ crcN n y := by
  induction n with
  | zero => rfl
  | succ n ih => simp only [crcN]; rw [ih, crc1_xor]

/-- what has no low bits is only shifted -/
theorem crcN_high (n : Nat) (z : BitVec 32) (h : ∀ i, i < n → z.getLsbD i = false) : crcN n z = z >>> n := by
  induction n with
  | zero => simp [crcN]
  | succ n ih =>
    simp only [crcN]
    rw [ih (fun i hi => h i (by omega))]
    unfold crc1
    have h0 : (z >>> n).getLsbD 0 = false := by
      rw [BitVec.getLsbD_ushiftRight]; exact h n (by omega)
    rw [h0]
    simp only [cond_false, BitVec.xor_zero]
    rw [← BitVec.shiftRight_add]

def lowByte (x : BitVec 32) : BitVec 32 := x &&& 255#32

theorem crc8_split (y : BitVec 32) : crcN 8 y = (y >>> 8) ^^^ crcN 8 (lowByte y) := by
  have e : y = (y &&& ~~~255#32) ^^^ lowByte y := by
    unfold lowByte
    apply BitVec.eq_of_getLsbD_eq
    intro i hi
    simp only [BitVec.getLsbD_xor, BitVec.getLsbD_and, BitVec.getLsbD_not, hi, decide_true, Bool.true_and]
    cases y.getLsbD i <;> cases (255#32).getLsbD i <;> rfl
  conv => lhs; rw [e]
  rw [crcN_xor, crcN_high]
  · congr 1
    apply BitVec.eq_of_getLsbD_eq
    intro i hi
    simp only [BitVec.getLsbD_ushiftRight, BitVec.getLsbD_and, BitVec.getLsbD_not]
    have : (255#32).getLsbD (8 + i) = false := by
      rw [BitVec.getLsbD_ofNat]
      simp only [Bool.and_eq_false_iff]
      right
      exact Nat.testBit_lt_two_pow (Nat.lt_of_lt_of_le (show 255 < 2 ^ 8 by decide) (Nat.pow_le_pow_right (by decide) (by omega)))
    rw [this]
    by_cases h8 : 8 + i < 32
    · simp [h8]
    · rw [BitVec.getLsbD_of_ge y _ (by omega)]; simp
  · intro i hi
    have : (255#32).getLsbD i = true := by
      match i, hi with
      | 0, _ | 1, _ | 2, _ | 3, _ | 4, _ | 5, _ | 6, _ | 7, _ => decide
    rw [BitVec.getLsbD_and, BitVec.getLsbD_not, this]; simp

/-- bit by bit, with the byte's bits drawn in one after the other -/
def bitStep (b : BitVec 32) (k : Nat) (x : BitVec 32) : BitVec 32 := (x >>> 1) ^^^ (bif (x ^^^ (b >>> k)).getLsbD 0 then 0x82f63b78#32 else 0#32)
def bitN (b : BitVec 32) : Nat → BitVec 32 → BitVec 32
  | 0, x => x
  | n + 1, x => bitStep b n (bitN b n x)

theorem bitN_eq (b x : BitVec 32) (n : Nat) : bitN b n x = crcN n (x ^^^ b) ^^^ (b >>> n) := by
  induction n with
  | zero => simp [bitN, crcN, BitVec.xor_assoc]
  | succ n ih =>
    simp only [bitN, crcN]
    rw [ih]
    unfold bitStep crc1
    rw [BitVec.xor_assoc (crcN n (x ^^^ b)), BitVec.xor_self, BitVec.xor_zero, BitVec.ushiftRight_xor_distrib, ← BitVec.shiftRight_add]
    simp only [BitVec.xor_assoc]
    rw [BitVec.xor_comm (b >>> (n + 1))]

def byte32 (c : UInt8) : BitVec 32 := BitVec.ofNat 32 c.toNat

theorem byte32_shift (c : UInt8) : byte32 c >>> 8 = 0#32 := by
  apply BitVec.eq_of_toNat_eq
  have := c.toNat_lt
  simp [byte32, Nat.shiftRight_eq_div_pow]
  omega

def crcByte (x : BitVec 32) (c : UInt8) : BitVec 32 := crcN 8 (x ^^^ byte32 c)

theorem bit8_eq (x : BitVec 32) (c : UInt8) : bitN (byte32 c) 8 x = crcByte x c := by
  rw [bitN_eq, byte32_shift, BitVec.xor_zero]; rfl

/-- by the table -/
theorem tab_eq (x : BitVec 32) (c : UInt8) : (x >>> 8) ^^^ crcN 8 (lowByte (x ^^^ byte32 c)) = crcByte x c := by
  unfold crcByte
  rw [crc8_split (x ^^^ byte32 c), BitVec.ushiftRight_xor_distrib, byte32_shift, BitVec.xor_zero]

def crcL (l : List UInt8) : BitVec 32 := l.foldl crcByte 0xffffffff#32
theorem crcL_snoc (l : List UInt8) (c : UInt8) : crcL (l ++ [c]) = crcByte (crcL l) c := by simp [crcL]

/-- the sum as the programs hand it out -/
def crcNat (l : List UInt8) : Nat := (~~~ crcL l).toNat

theorem bxor32 (x y : BitVec 32) : bits .xor .u32 (x.toNat : Int) (y.toNat : Int) = ((x ^^^ y).toNat : Int) := by
  rw [u32_xor_nat _ _ x.isLt y.isLt, BitVec.toNat_xor]
theorem band32 (x y : BitVec 32) : bits .and .u32 (x.toNat : Int) (y.toNat : Int) = ((x &&& y).toNat : Int) := by
  rw [u32_and_nat _ _ x.isLt y.isLt, BitVec.toNat_and]

theorem byte_shift (c : UInt8) (m : Nat) : (c.toNat : Int) / 2 ^ m % 4294967296 = ((byte32 c >>> m).toNat : Int) := by
  have hc := c.toNat_lt
  have h1 : c.toNat / 2 ^ m ≤ c.toNat := Nat.div_le_self _ _
  have e : (byte32 c >>> m).toNat = c.toNat / 2 ^ m := by
    simp only [byte32, BitVec.toNat_ushiftRight, BitVec.toNat_ofNat, Nat.shiftRight_eq_div_pow]
    rw [Nat.mod_eq_of_lt (by omega)]
  rw [e]
  have e2 : (c.toNat : Int) / 2 ^ m = ((c.toNat / 2 ^ m : Nat) : Int) := by
    rw [Int.natCast_ediv, Int.natCast_pow]; rfl
  rw [e2]
  omega

theorem lsb_test (y : BitVec 32) : (bits .and .u32 (y.toNat : Int) 1 == 1) = y.getLsbD 0 := by
  have h := band32 y 1#32
  rw [show (((1#32).toNat : Nat) : Int) = 1 by rfl] at h
  rw [h]
  have e : (y &&& 1#32).toNat = y.toNat % 2 := by
    rw [BitVec.toNat_and]; exact Nat.and_one_is_mod _
  rw [e]
  have e2 : y.getLsbD 0 = decide (y.toNat % 2 = 1) := by
    simp [BitVec.getLsbD, Nat.testBit_zero]
  rw [e2, Bool.eq_iff_iff, beq_iff_eq, decide_eq_true_eq]
  omega

theorem half32 (y : BitVec 32) : (y.toNat : Int) / (2 : Int) = ((y >>> 1).toNat : Int) := by
  rw [BitVec.toNat_ushiftRight, Nat.shiftRight_eq_div_pow]; omega

theorem poly32 (y : BitVec 32) : bits .xor .u32 ((y.toNat : Int) / (2 : Int)) 2197175160 = (((y >>> 1) ^^^ 0x82f63b78#32).toNat : Int) := by
  rw [half32]; exact bxor32 (y >>> 1) 0x82f63b78#32

theorem bitStep_true (b : BitVec 32) (k : Nat) (x : BitVec 32) (h : (x ^^^ (b >>> k)).getLsbD 0 = true) : bitStep b k x = (x >>> 1) ^^^ 0x82f63b78#32 := by
  unfold bitStep; rw [h]; rfl
theorem bitStep_false (b : BitVec 32) (k : Nat) (x : BitVec 32) (h : (x ^^^ (b >>> k)).getLsbD 0 = false) : bitStep b k x = x >>> 1 := by
  unfold bitStep; rw [h]; simp

theorem not32 (x : BitVec 32) : bits .xor .u32 IntKind.u32.max (x.toNat : Int) = ((~~~x).toNat : Int) := by
  have h := bxor32 (BitVec.allOnes 32) x
  rw [BitVec.allOnes_xor] at h
  exact h

/-- the table, as far as it is made -/
def tabV (j : Nat) : Value := .int .u32 ((crcN 8 (BitVec.ofNat 32 j)).toNat : Int)
def tabCells (i : Nat) : Array Value := Array.ofFn (n := 256) (fun j => if j.val < i then tabV j.val else .int .u32 0)
theorem tabCells_size (i : Nat) : (tabCells i).size = 256 := by simp [tabCells]
theorem tabCells_nil : tabCells 0 = Array.replicate 256 (.int .u32 0) := by
  apply Array.ext
  · simp [tabCells]
  · intro j h1 h2; simp [tabCells]
theorem tabCells_set (i : Nat) (v : Value) (hv : v = tabV i) : (tabCells i).setIfInBounds i v = tabCells (i + 1) := by
  subst hv
  apply Array.ext
  · simp [tabCells]
  · intro j h1 h2
    rw [Array.getElem_setIfInBounds]
    · simp only [tabCells, Array.getElem_ofFn]
      by_cases e : i = j
      · subst e; simp
      · rw [if_neg e]
        by_cases hj : j < i
        · rw [if_pos hj, if_pos (by omega)]
        · rw [if_neg hj, if_neg (by omega)]
    · simpa using h1
theorem tabCells_zero (i : Nat) (h : i < 256) : (tabCells i)[i]? = some (.int .u32 0) := by
  rw [Array.getElem?_eq_getElem (by rw [tabCells_size]; exact h)]
  simp [tabCells]
theorem tabCells_one (i : Nat) : (tabCells i).all (·.oneCell') = true := by
  rw [Array.all_eq_true]
  intro j hj
  simp only [tabCells, Array.getElem_ofFn]
  split <;> rfl
theorem tabCells_at (j : Nat) (h : j < 256) : (tabCells 256)[j]? = some (tabV j) := by
  rw [Array.getElem?_eq_getElem (by rw [tabCells_size]; exact h)]
  simp only [tabCells, Array.getElem_ofFn]
  rw [if_pos h]

theorem crc1_word (X : BitVec 32) : bits .xor .u32 ((X.toNat : Int) / (2 : Int)) (bits .and .u32 (-bits .and .u32 (X.toNat : Int) 1 % 4294967296) 2197175160) = ((crc1 X).toNat : Int) := by
  have h1 := band32 X 1#32
  rw [show (((1#32).toNat : Nat) : Int) = 1 by rfl] at h1
  have e : (X &&& 1#32).toNat = X.toNat % 2 := by
    rw [BitVec.toNat_and]; exact Nat.and_one_is_mod _
  rw [e] at h1
  rw [h1, half32]
  unfold crc1
  have e2 : X.getLsbD 0 = decide (X.toNat % 2 = 1) := by simp [BitVec.getLsbD, Nat.testBit_zero]
  rw [e2]
  rcases Nat.mod_two_eq_zero_or_one X.toNat with h | h
  · rw [h]
    have a := band32 0#32 0x82f63b78#32
    have b := bxor32 (X >>> 1) (0#32 &&& 0x82f63b78#32)
    rw [← a] at b
    exact b
  · rw [h]
    have a := band32 0xffffffff#32 0x82f63b78#32
    have b := bxor32 (X >>> 1) (0xffffffff#32 &&& 0x82f63b78#32)
    rw [← a] at b
    exact b

theorem low_word (x : BitVec 32) (c : UInt8) : bits .xor .u8 ((x.toNat : Int) % 256) (c.toNat : Int) = (((lowByte (x ^^^ byte32 c)).toNat : Nat) : Int) ∧ (lowByte (x ^^^ byte32 c)).toNat < 256 := by
  have hc := c.toNat_lt
  have e : (lowByte (x ^^^ byte32 c)).toNat = (x.toNat % 256) ^^^ c.toNat := by
    unfold lowByte byte32
    rw [BitVec.toNat_and, BitVec.toNat_xor, BitVec.toNat_ofNat, Nat.mod_eq_of_lt (show c.toNat < 2 ^ 32 by omega)]
    have : (255#32).toNat = 2 ^ 8 - 1 := by decide
    rw [this, Nat.and_two_pow_sub_one_eq_mod, Nat.xor_mod_two_pow]
    have h2 : c.toNat % 2 ^ 8 = c.toNat := Nat.mod_eq_of_lt (by omega)
    rw [h2]
  have hlt : (x.toNat % 256) ^^^ c.toNat < 256 := Nat.xor_lt_two_pow (n := 8) (by omega) (by omega)
  refine ⟨?_, by rw [e]; exact hlt⟩
  have h1 : ((x.toNat : Int) % 256) = ((x.toNat % 256 : Nat) : Int) := by omega
  rw [h1, u8_xor_nat _ _ (by omega) (by omega), e]

theorem tab_word (x : BitVec 32) (c : UInt8) : bits .xor .u32 ((x.toNat : Int) / (256 : Int)) ((crcN 8 (BitVec.ofNat 32 (lowByte (x ^^^ byte32 c)).toNat)).toNat : Int) = ((crcByte x c).toNat : Int) := by
  rw [BitVec.ofNat_toNat, BitVec.setWidth_eq]
  have h : (x.toNat : Int) / (256 : Int) = ((x >>> 8).toNat : Int) := by
    rw [BitVec.toNat_ushiftRight, Nat.shiftRight_eq_div_pow]; omega
  rw [h, bxor32, tab_eq]
end Go.Proofs.Ytobngncjflogcaa

set_option linter.unusedVariables false
set_option linter.unusedSimpArgs false
namespace Go.Proofs.Ytobngncjflogcaa
open Go.RowKit

set_option maxRecDepth 100000 in
set_option maxHeartbeats 400000 in
theorem refCrc_any (s : ByteArray) (w : World) (hs : s.size ≤ maxLen) :
    Calls Try.prog 128 #[.string s] w fun e w' => e = .returned (.int .u32 (crcNat s.data.toList)) ∧ w = w' := by
  unfold maxLen at hs
  go_enter Try.func128, Try.ntmps128
  go_wp2
  go_loop [3, 9] (fun h i => ∃ k : Nat, k ≤ s.size ∧ i = .int .i64 k ∧ ∃ x : BitVec 32, h = .int .u32 x.toNat ∧ Hid (x = crcL (s.data.toList.take k))) (fun _ i => s.size - (intOf i).toNat)
  case atStart => exact ⟨0, Nat.zero_le _, rfl, 0xffffffff#32, rfl, rfl⟩
  case round =>
    obtain ⟨k, hk, rfl, x, rfl, HX⟩ := hrel
    by_cases hlt : k < s.size
    · have hbyte : s[k].toNat < 256 := s[k].toNat_lt
      go_wp2
      go_loop [3, 12] (fun h i => ∃ m : Nat, m ≤ 8 ∧ i = .int .i64 m ∧ ∃ y : BitVec 32, h = .int .u32 y.toNat ∧ Hid (y = bitN (byte32 s[k]) m x)) (fun _ i => 8 - (intOf i).toNat)
      case atStart => exact ⟨0, Nat.zero_le _, rfl, x, rfl, rfl⟩
      case round =>
        obtain ⟨m, hm, rfl, y, rfl, HY⟩ := hrel
        by_cases hlt8 : m < 8
        · have hb := byte_shift s[k] m
          have HT := Lib.hid (lsb_test (y ^^^ byte32 s[k] >>> m))
          have HX2 := Lib.hid (bxor32 y (byte32 s[k] >>> m))
          have HP := Lib.hid (poly32 y)
          have HH := Lib.hid (half32 y)
          cases hc : (y ^^^ byte32 s[k] >>> m).getLsbD 0
          · have HS := Lib.hid (bitStep_false _ _ _ hc)
            have ht : (bits .and .u32 (bits .xor .u32 (y.toNat : Int) ((s[k].toNat : Int) / 2 ^ m % 4294967296)) 1 == 1) = false := by
              rw [hb, HX2.out, HT.out, hc]
            clear hb hc
            go_wp2
            go_round
            case rel => exact ⟨m + 1, by omega, by go_num, y >>> 1, congrArg _ HH.out, by show _ = bitStep _ _ _; rw [← HY.out, HS.out]⟩
            case measure => simp [intOf]; omega
          · have HS := Lib.hid (bitStep_true _ _ _ hc)
            have ht : (bits .and .u32 (bits .xor .u32 (y.toNat : Int) ((s[k].toNat : Int) / 2 ^ m % 4294967296)) 1 == 1) = true := by
              rw [hb, HX2.out, HT.out, hc]
            clear hb hc
            go_wp2
            go_round
            case rel => exact ⟨m + 1, by omega, by go_num, (y >>> 1) ^^^ 0x82f63b78#32, congrArg _ HP.out, by show _ = bitStep _ _ _; rw [← HY.out, HS.out]⟩
            case measure => simp [intOf]; omega
        · have HM : Hid (m = 8) := by show _ = _; omega
          go_wp2
          go_round
          case rel => exact ⟨k + 1, by omega, by go_num, y, rfl, by show _ = _; rw [HY.out, HM.out, bit8_eq, take_snoc s k hlt, crcL_snoc, HX.out]⟩
          case measure => simp [intOf]; omega
    · go_wp2
      go_ret
      exact ⟨ret_int (by rw [not32, HX.out, List.take_of_length_le (by simp; omega)]; rfl), rfl⟩
end Go.Proofs.Ytobngncjflogcaa

set_option linter.unusedVariables false
set_option linter.unusedSimpArgs false
namespace Go.Proofs.Ytobngncjflogcaa
open Go.RowKit

theorem Try.info_table : (Try.prog.info? 194).map (fun i => (i.zero, i.size)) = some (some (.agg (Array.replicate 256 (.int .u32 0))), 256) := by kernel_rfl

theorem wpList_store_new {P : Program} {ops : Array Oper} {rest : List Oper} {op : Oper} {a : Act} {Q : Exit → Act → World → Prop} (hgd : op.guard = none) (ty : TypeId) (x y : Operand) (ho : op.op = .store ty x y)
    (w : World) (c c' : Array Value) (hx : a.eval x = .pointer (some ⟨w.heap.size, 0, none⟩)) (hy : a.eval y = .agg c') (hi : (P.info? ty).map (·.size) = some c'.size) (hs : c.size = c'.size) (h1 : c'.all (·.oneCell') = true)
    (h : wpList P ops Q rest (a.put op.dst undef) (w.alloc (.cells c' ty))) : wpList P ops Q (op :: rest) a (w.alloc (.cells c ty)) :=
  wpList_plain hgd fun K hK => by
    unfold Oper.wp execOp
    simp only [ho, hx, hy, run_storeAt_new w ty c c' hi hs h1, Sem.run_bind, Sem.run_pure, Result.andThen_ok]
    exact hK _ _ h

set_option maxRecDepth 1000000 in
set_option maxHeartbeats 2000000 in
theorem table_any (w : World) :
    Calls Try.prog 127 #[] w fun e w' => e = .returned (.agg (tabCells 256)) ∧ Below w.heap.size w w' := by
  obtain ⟨hz, hi⟩ := zero_of_info Try.info_table
  go_enter Try.func127, Try.ntmps127
  go_wp2
  rw [← tabCells_nil]
  go_loopg [3] 256 (fun g s3 wx => ∃ i : Nat, i + g = 256 ∧ s3 = .int .i64 i ∧ wx = w.alloc (.cells (tabCells i) 194))
  case atStart => exact ⟨0, by omega, rfl, rfl⟩
  case round =>
    obtain ⟨i, hig, rfl, rfl⟩ := hrel
    cases gk with
    | zero =>
      have h256 : ¬ ((i : Int) < 256) := by omega
      obtain rfl : 256 = i := by omega
      have hsz : (Try.prog.info? 194).map (·.size) = some (tabCells 256).size := by rw [tabCells_size]; exact hi
      go_wp2_with (first
        | (refine wpList_load_row rfl 194 (.tmp 0) rfl w.heap.size rfl 194 (tabCells 256) (0, 0) _ (heap_alloc_last w _) Try.underlying194 rfl hsz ?_)
        | (refine wpList_store_new rfl 194 (.tmp 0) (.tmp 22) rfl w (tabCells 256) (tabCells 256) rfl rfl hsz rfl (tabCells_one _) ?_))
      refine bodyPost_ret (v := .agg (tabCells 256)) (results_cell_row rfl _ _ w.heap.size 194 (tabCells 256) (0, 0) _ rfl (heap_alloc_last w _) Try.underlying194 rfl hsz) rfl ⟨rfl, (Below.refl _ _).alloc (Nat.le_refl _) _⟩
    | succ g =>
      have hi : i < 256 := by omega
      have hi2 : (i : Int) < 256 := by omega
      have HI : Hid (i + 1 + g = 256) := by show _ = _; omega
      clear hig
      go_wp2
      go_loopg [2, 8] 8 (fun g x k wx => ∃ m : Nat, m + g = 8 ∧ k = .int .i64 m ∧ wx = w.alloc (.cells (tabCells i) 194) ∧ ∃ X : BitVec 32, x = .int .u32 (X.toNat : Int) ∧ Hid (X = crcN m (BitVec.ofNat 32 i)))
      case atStart => exact ⟨0, by omega, rfl, rfl, BitVec.ofNat 32 i, congrArg _ (by rw [BitVec.toNat_ofNat, Nat.mod_eq_of_lt (by omega)]), rfl⟩
      case round =>
        obtain ⟨m, hm, rfl, rfl, X, rfl, HX⟩ := hrel
        cases gk with
        | zero =>
          have H8 : Hid (m = 8) := by show _ = _; omega
          have hm8 : ¬ ((m : Int) < 8) := by omega
          clear hm
          have hcell : (tabCells i)[i]? = some (.int .u32 0) := tabCells_zero i hi
          have HV := Lib.hid (tabCells_set i (.int .u32 (X.toNat : Int)) (by show _ = Value.int _ _; rw [HX.out, H8.out]))
          go_wp2
          go_roundg g
          case measure => omega
          case rel => exact ⟨i + 1, by have := HI.out; omega, by go_num, by rw [HV.out]⟩
        | succ g2 =>
          have hm8 : m < 8 := by omega
          have hm82 : (m : Int) < 8 := by omega
          have H8 : Hid (m + 1 + g2 = 8) := by show _ = _; omega
          clear hm
          have HW := Lib.hid (crc1_word X)
          go_wp2
          go_roundg g2
          case measure => omega
          case rel => exact ⟨m + 1, by have := H8.out; omega, by go_num, rfl, crc1 X, congrArg _ HW.out, by show _ = crc1 _; rw [HX.out]⟩
end Go.Proofs.Ytobngncjflogcaa

set_option linter.unusedVariables false
set_option linter.unusedSimpArgs false
namespace Go.Proofs.Ytobngncjflogcaa
open Go.RowKit

set_option maxRecDepth 1000000 in
set_option maxHeartbeats 2000000 in
theorem crcOf_any (s : ByteArray) (w : World) (hs : s.size ≤ maxLen) :
    Calls Try.prog 116 #[.string s] w fun e w' => e = .returned (.int .u32 (crcNat s.data.toList)) ∧ Below w.heap.size w w' := by
  unfold maxLen at hs
  obtain ⟨hz, hi⟩ := zero_of_info Try.info_table
  have hsz : (Try.prog.info? 194).map (·.size) = some (tabCells 256).size := by rw [tabCells_size]; exact hi
  have hs0 : (tabCells 0).size = (tabCells 256).size := by rw [tabCells_size, tabCells_size]
  have HI := Lib.hid hi
  have HSZ := Lib.hid hsz
  have HS0 := Lib.hid hs0
  clear hi hsz hs0
  go_enter Try.func116, Try.ntmps116
  go_wp2_with fail
  refine (table_any _).mono ?_
  rintro e w1 ⟨rfl, hb1⟩
  rw [← tabCells_nil] at hz
  go_wp2_with (refine wpList_store_new rfl 194 (.tmp 3) (.tmp 6) rfl w1 (tabCells 0) (tabCells 256) rfl rfl HSZ.out HS0.out (tabCells_one _) ?_)
  have hcell : ∀ n, n < 256 → (w1.alloc (.cells (tabCells 256) 194)).cell? ⟨w1.heap.size, n, none⟩ = some (tabV n) := fun n hn => by
    rw [World.cell?_alloc_new]; exact tabCells_at n hn
  have HC := Lib.hid hcell
  clear hcell
  go_loop [4, 9] (fun h i => ∃ k : Nat, k ≤ s.size ∧ i = .int .i64 k ∧ ∃ x : BitVec 32, h = .int .u32 (x.toNat : Int) ∧ Hid (x = crcL (s.data.toList.take k))) (fun _ i => s.size - (intOf i).toNat)
  case atStart => exact ⟨0, Nat.zero_le _, rfl, 0xffffffff#32, rfl, rfl⟩
  case round =>
    obtain ⟨k, hk, rfl, x, rfl, HX⟩ := hrel
    by_cases hlt : k < s.size
    · have hbyte : s[k].toNat < 256 := s[k].toNat_lt
      obtain ⟨hw, hn⟩ := low_word x s[k]
      have HT := Lib.hid (tab_word x s[k])
      have hc := HC.out _ hn
      generalize (lowByte (x ^^^ byte32 s[k])).toNat = n at hw hn hc HT
      have ht := tabCells_at n hn
      unfold tabV at hc ht
      clear HC
      generalize crcN 8 (BitVec.ofNat 32 n) = T at hc ht HT
      go_wp2
      go_round
      case rel => exact ⟨k + 1, by omega, by go_num, crcByte x s[k], congrArg _ HT.out, by show _ = _; rw [take_snoc s k hlt, crcL_snoc, HX.out]⟩
      case measure => simp [intOf]; omega
    · go_wp2
      go_ret
      exact ⟨ret_int (by rw [not32, HX.out, List.take_of_length_le (by simp; omega)]; rfl), (hb1.alloc hb1.size _)⟩
end Go.Proofs.Ytobngncjflogcaa
