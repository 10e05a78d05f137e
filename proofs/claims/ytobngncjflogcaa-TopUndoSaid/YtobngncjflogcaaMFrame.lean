/-
  Frames: frame.Put and frame.Get, the document's Frame and Unframe, and the law FrameSays.
-/
import Derived.Test.YtobngncjflogcaaMNum
import Derived.Test.YtobngncjflogcaaMU
import Derived.Test.YtobngncjflogcaaBC
import Derived.Test.YtobngncjflogcaaCrc1
import Derived.Test.YtobngncjflogcaaCrc3
set_option linter.unusedVariables false
set_option linter.unusedSimpArgs false
namespace Go.Proofs.Ytobngncjflogcaa.AM
open Go Go.RowKit
set_option maxRecDepth 100000
set_option maxHeartbeats 2000000
/-! bytes -/
def by8 (n : Int) : UInt8 := UInt8.ofNat (n % 256).toNat
theorem by8_wrap (n : Int) : IntKind.u8.wrap n = ((by8 n).toNat : Int) := by
  have h1 : IntKind.u8.wrap n = n % 256 := rfl
  rw [h1, by8, UInt8.toNat_ofNat']
  omega
theorem by8_mod (n : Int) : by8 (n % 256) = by8 n := by unfold by8; rw [Int.emod_emod_of_dvd n (Int.dvd_refl 256)]
theorem by8_nat (b : UInt8) : by8 ((b.toNat : Nat) : Int) = b := by
  have := b.toNat_lt
  apply UInt8.toNat.inj
  rw [by8, UInt8.toNat_ofNat']
  omega
theorem by8_hi (b c : UInt8) : by8 ((256 * ((b.toNat : Nat) : Int) + ((c.toNat : Nat) : Int)) / 256) = b := by
  have h := b.toNat_lt
  have := c.toNat_lt
  rw [show (256 * ((b.toNat : Nat) : Int) + ((c.toNat : Nat) : Int)) / 256 = ((b.toNat : Nat) : Int) by omega]
  exact by8_nat b
theorem by8_lo (b c : UInt8) : by8 (256 * ((b.toNat : Nat) : Int) + ((c.toNat : Nat) : Int)) = c := by
  have h := b.toNat_lt
  have := c.toNat_lt
  rw [← by8_mod, show (256 * ((b.toNat : Nat) : Int) + ((c.toNat : Nat) : Int)) % 256 = ((c.toNat : Nat) : Int) by omega]
  exact by8_nat c
def fourL (c : Int) : List UInt8 := [by8 c, by8 (c / 256), by8 (c / 65536), by8 (c / 16777216)]
section
variable {P : Prim} (hP : P = std)
include hP
theorem bstr3 (a b c : Int) : P.bstr [[.int .u8 (P.wrap .u8 a)], [.int .u8 (P.wrap .u8 b)], [.int .u8 (P.wrap .u8 c)]] [by8 a, by8 b, by8 c] := by
  subst hP
  simp [std, by8_wrap]
theorem bstr4 (a b c d : Int) : P.bstr [[.int .u8 (P.wrap .u8 a)], [.int .u8 (P.wrap .u8 b)], [.int .u8 (P.wrap .u8 c)], [.int .u8 (P.wrap .u8 d)]] [by8 a, by8 b, by8 c, by8 d] := by
  subst hP
  simp [std, by8_wrap]
theorem neP_of (rows : List (List V)) (n : Nat) (h : rows.length = n) : P.neP rows n := by subst hP; exact h
theorem shr8 (c : Int) : P.shr c 8 = c / 256 := by subst hP; rfl
theorem shr16 (c : Int) : P.shr c 16 = c / 65536 := by subst hP; rfl
theorem shr24 (c : Int) : P.shr c 24 = c / 16777216 := by subst hP; rfl
theorem bits32 : P.bits .u32 = 32 := by subst hP; rfl
theorem bits64 : P.bits .i64 = 64 := by subst hP; rfl
theorem sapp_eq (a b : List UInt8) : P.sapp a b = a ++ b := by subst hP; rfl
theorem w64 {n : Int} (h : 0 ≤ n ∧ n ≤ 255) : P.wrap .i64 n = n := by
  subst hP
  show IntKind.i64.wrap n = n
  exact wrap_id (by have : IntKind.i64.min = -9223372036854775808 := rfl
                    omega) (by have : IntKind.i64.max = 9223372036854775807 := rfl
                               omega)
theorem shl8 (c : Int) : P.shl c 8 = c * 256 := by subst hP; rfl
theorem bor8 (b c : UInt8) : P.bor .i64 (((b.toNat : Nat) : Int) * 256) ((c.toNat : Nat) : Int) = 256 * ((b.toNat : Nat) : Int) + ((c.toNat : Nat) : Int) := by
  subst hP
  have h1 := b.toNat_lt
  have h2 := c.toNat_lt
  show IntKind.i64.wrap (((BitVec.ofInt 64 (((b.toNat : Nat) : Int) * 256) ||| BitVec.ofInt 64 ((c.toNat : Nat) : Int)).toNat : Nat) : Int) = _
  have e1 : BitVec.ofInt 64 (((b.toNat : Nat) : Int) * 256) = BitVec.ofNat 64 (b.toNat * 256) := by
    rw [show ((b.toNat : Nat) : Int) * 256 = ((b.toNat * 256 : Nat) : Int) by push_cast; rfl]; exact BitVec.ofInt_natCast 64 _
  have e2 : BitVec.ofInt 64 ((c.toNat : Nat) : Int) = BitVec.ofNat 64 c.toNat := BitVec.ofInt_natCast 64 _
  rw [e1, e2, BitVec.toNat_or, BitVec.toNat_ofNat, BitVec.toNat_ofNat, Nat.mod_eq_of_lt (by omega), Nat.mod_eq_of_lt (by omega)]
  have e3 : b.toNat * 256 ||| c.toNat = b.toNat * 256 + c.toNat := by
    have := Nat.shiftLeft_add_eq_or_of_lt (i := 8) (b := c.toNat) (by omega) b.toNat
    rw [Nat.shiftLeft_eq] at this
    exact this.symm
  rw [e3, wrap_id (by have : IntKind.i64.min = -9223372036854775808 := rfl
                      omega) (by have : IntKind.i64.max = 9223372036854775807 := rfl
                                 omega)]
  omega
theorem four_b (c : Int) : P.bstr [[.int .u8 (P.wrap .u8 c)], [.int .u8 (P.wrap .u8 (P.shr c 8))], [.int .u8 (P.wrap .u8 (P.shr c 16))], [.int .u8 (P.wrap .u8 (P.shr c 24))]] (fourL c) := by
  have h := bstr4 hP c (P.shr c 8) (P.shr c 16) (P.shr c 24)
  have e : [by8 c, by8 (P.shr c 8), by8 (P.shr c 16), by8 (P.shr c 24)] = fourL c := by rw [shr8 hP, shr16 hP, shr24 hP]; rfl
  rwa [e] at h
end
/-! sums -/
theorem sp_crc (s : List UInt8) (hs : s.length ≤ maxLen) : Spec Try.prog 116 [.str s] Hp.emp (Is (.int .u32 (crcNat s))) :=
  spec_of_calls (us0 := #[.string ⟨s.toArray⟩]) ⟨Try.f116, Try.func116, by decide +kernel, Option.isSome_iff_exists.1 (by decide +kernel)⟩
    (fun F B w us hl hr => us_one (f := fun _ => True) hl hr fun u h => rel_str h) (u0 := .int .u32 (crcNat s)) (fun F B w => .int _ _)
    (fun w => by simpa using crcOf_any ⟨s.toArray⟩ w (by simpa [ByteArray.size] using hs))
theorem sp_rcrc (s : List UInt8) (hs : s.length ≤ maxLen) : Spec Try.prog 128 [.str s] Hp.emp (Is (.int .u32 (crcNat s))) :=
  spec_of_calls (us0 := #[.string ⟨s.toArray⟩]) ⟨Try.f128, Try.func128, by decide +kernel, Option.isSome_iff_exists.1 (by decide +kernel)⟩
    (fun F B w us hl hr => us_one (f := fun _ => True) hl hr fun u h => rel_str h) (u0 := .int .u32 (crcNat s)) (fun F B w => .int _ _)
    (fun w => by
      refine (refCrc_any ⟨s.toArray⟩ w (by simpa [ByteArray.size] using hs)).mono ?_
      rintro e w' ⟨rfl, rfl⟩
      exact ⟨by simp, below_rfl _⟩)
/-! the plain law -/
def headL (k : Int) (b : List UInt8) : List UInt8 := [by8 k, by8 ((b.length : Int) / 256), by8 (b.length : Int)] ++ b
def frameL (k : Int) (b : List UInt8) : List UInt8 := headL k b ++ fourL (crcNat (headL k b))
def putFr (k : Int) (b : List UInt8) : List UInt8 × Int := if k < 1 ∨ 255 < k then ([], 1) else if 4000 < b.length then ([], 2) else (frameL k b, 0)
def frN (s : List UInt8) : Nat := 256 * (s.getD 1 0).toNat + (s.getD 2 0).toNat
def getFr (s : List UInt8) : Frame × Int × Int := if s.length < 7 then (⟨0, []⟩, 0, 5)
  else if (s.getD 0 0).toNat = 0 ∨ 4000 < frN s then (⟨0, []⟩, 0, 3)
  else if s.length < frN s + 7 then (⟨0, []⟩, 0, 5)
  else if (s.take (frN s + 7)).drop (frN s + 3) ≠ fourL (crcNat (s.take (frN s + 3))) then (⟨0, []⟩, 0, 6)
  else (⟨(s.getD 0 0).toNat, (s.take (frN s + 3)).drop 3⟩, (frN s : Int) + 7, 0)
/-! four -/
def ac_four : AC := .seq (.region false [
    ⟨some 2, none, .mov (.c (.string ⟨#[]⟩))⟩])
  (.seq (.region false [
    ⟨some 3, none, .mov (.t 0)⟩,
    ⟨some 4, none, .conv .u8 (.t 3)⟩,
    ⟨some 5, none, .mov (.t 0)⟩,
    ⟨some 6, none, .bin .shr (.t 5) (.c (.int .u64 8))⟩,
    ⟨some 7, none, .conv .u8 (.t 6)⟩,
    ⟨some 8, none, .mov (.t 0)⟩,
    ⟨some 9, none, .bin .shr (.t 8) (.c (.int .u64 16))⟩,
    ⟨some 10, none, .conv .u8 (.t 9)⟩,
    ⟨some 11, none, .mov (.t 0)⟩,
    ⟨some 12, none, .bin .shr (.t 11) (.c (.int .u64 24))⟩,
    ⟨some 13, none, .conv .u8 (.t 12)⟩,
    ⟨some 14, none, .bslice 5 1 [(.t 4), (.t 7), (.t 10), (.t 13)]⟩,
    ⟨some 15, none, .convbs (.t 14)⟩,
    ⟨some 2, none, .mov (.t 15)⟩])
  (.ret))
theorem ok_four : FnOk Try.prog 115 Try.f115 ac_four [.t 2] 1 drawD := ⟨Try.func115, by decide +kernel, by kernel_rfl, by kernel_rfl, by decide +kernel⟩
theorem vc_four (P : Prim) (hP : P = std) (T T1 : CallT) (c : Int)
    (R : S → Prop) (hR : ∀ s0 s' x, x = fourL c → Ent s0 s' → Ret [.t 2] [.str x] s' → R s0) : awp P T T1 ac_four (S0 [.int .u32 c] Hp.emp) R (fun _ _ => False) R := by
  have a1 : P.leP 0 8 := le0 hP (by decide)
  have a2 : P.leP 0 16 := le0 hP (by decide)
  have a3 : P.leP 0 24 := le0 hP (by decide)
  have b1 : P.ltP 8 (P.bits .u32) := ltI hP (by rw [bits32 hP]; decide)
  have b2 : P.ltP 16 (P.bits .u32) := ltI hP (by rw [bits32 hP]; decide)
  have b3 : P.ltP 24 (P.bits .u32) := ltI hP (by rw [bits32 hP]; decide)
  have f1 := four_b hP c
  generalize fourL c = L at f1 hR
  cbv
  repeat' (first
    | (refine And.intro (by assumption) ?_; try cbv)
    | (intro β; try cbv))
  refine ⟨neP_of hP _ _ rfl, _, f1, ?_⟩
  cbv
  exact hR _ _ _ rfl (Ent.refl _) rfl
theorem sp_four (c : Int) : Spec Try.prog 115 [.int .u32 c] Hp.emp (Is (.str (fourL c))) :=
  spec_pure dOk ok_four [.str (fourL c)] (.str _) fun R hR => vc_four std rfl _ _ c R fun s s' x h he hr => by subst h; exact hR s s' he hr
/-! Put -/
def ac_fput : AC := .seq (.region false [
    ⟨some 1, none, .box 139 2 (.t 0)⟩,
    ⟨some 2, none, .mov (.c (.string ⟨#[]⟩))⟩,
    ⟨some 3, none, .mov (.c (.int .i64 0))⟩])
  (.seq (.seq (.region false [
    ⟨some 6, none, .faddr 0 (.t 1)⟩,
    ⟨some 7, none, .load1 (.t 6)⟩,
    ⟨some 8, none, .bin .lss (.t 7) (.c (.int .i64 1))⟩,
    ⟨some 9, none, .mov (.t 8)⟩,
    ⟨some 10, some (9, false), .faddr 0 (.t 1)⟩,
    ⟨some 11, some (9, false), .load1 (.t 10)⟩,
    ⟨some 12, some (9, false), .bin .gtr (.t 11) (.c (.int .i64 255))⟩,
    ⟨some 13, none, .pick (.t 9) (.c (.bool true)) (.t 12)⟩])
  (.cond (.t 13)
    (.seq (.region false [
      ⟨some 2, none, .mov (.c (.string ⟨#[]⟩))⟩,
      ⟨some 3, none, .mov (.c (.int .i64 1))⟩])
    (.ret))
    (.skip)))
  (.seq (.seq (.region false [
    ⟨some 14, none, .faddr 1 (.t 1)⟩,
    ⟨some 15, none, .load1 (.t 14)⟩,
    ⟨some 16, none, .len true (.t 15)⟩,
    ⟨some 17, none, .bin .gtr (.t 16) (.c (.int .i64 4000))⟩])
  (.cond (.t 17)
    (.seq (.region false [
      ⟨some 2, none, .mov (.c (.string ⟨#[]⟩))⟩,
      ⟨some 3, none, .mov (.c (.int .i64 2))⟩])
    (.ret))
    (.skip)))
  (.seq (.region false [
    ⟨some 18, none, .faddr 1 (.t 1)⟩,
    ⟨some 19, none, .load1 (.t 18)⟩,
    ⟨some 20, none, .len true (.t 19)⟩,
    ⟨some 4, none, .mov (.t 20)⟩])
  (.seq (.region false [
    ⟨some 21, none, .faddr 0 (.t 1)⟩,
    ⟨some 22, none, .load1 (.t 21)⟩,
    ⟨some 23, none, .conv .u8 (.t 22)⟩,
    ⟨some 24, none, .mov (.t 4)⟩,
    ⟨some 25, none, .bin .shr (.t 24) (.c (.int .u64 8))⟩,
    ⟨some 26, none, .conv .u8 (.t 25)⟩,
    ⟨some 27, none, .mov (.t 4)⟩,
    ⟨some 28, none, .conv .u8 (.t 27)⟩,
    ⟨some 29, none, .bslice 5 1 [(.t 23), (.t 26), (.t 28)]⟩,
    ⟨some 30, none, .convbs (.t 29)⟩,
    ⟨some 31, none, .faddr 1 (.t 1)⟩,
    ⟨some 32, none, .load1 (.t 31)⟩,
    ⟨some 33, none, .bin .add (.t 30) (.t 32)⟩,
    ⟨some 5, none, .mov (.t 33)⟩])
  (.seq (.region false [
    ⟨some 34, none, .mov (.t 5)⟩,
    ⟨some 35, none, .mov (.t 5)⟩,
    ⟨some 36, none, .call 116 [(.t 35)]⟩,
    ⟨some 37, none, .call 115 [(.t 36)]⟩,
    ⟨some 38, none, .bin .add (.t 34) (.t 37)⟩,
    ⟨some 2, none, .mov (.t 38)⟩,
    ⟨some 3, none, .mov (.c (.int .i64 0))⟩])
  (.ret))))))
theorem ok_fput : FnOk Try.prog 94 Try.f94 ac_fput [.t 2, .t 3] 1 drawD := ⟨Try.func94, by decide +kernel, by kernel_rfl, by kernel_rfl, by decide +kernel⟩
theorem vc_fput (P : Prim) (hP : P = std) (T T1 : CallT) (k : Int) (b : List UInt8) (cF : List UInt8 → Int) (h1 : ∀ s, s.length ≤ 5000 → Ans T 116 [.str s] (.int .u32 (cF s)))
    (fF : Int → List UInt8) (hfF : ∀ c, (fF c).length = 4) (h2 : ∀ c, Ans T 115 [.int .u32 c] (.str (fF c))) (r : List UInt8) (e : Int)
    (hr : (if k < 1 ∨ 255 < k then ([], 1) else if 4000 < b.length then ([], 2) else (headL k b ++ fF (cF (headL k b)), 0)) = (r, e))
    (R : S → Prop) (hR : ∀ s0 s' x y, x = r ∧ y = e → Ent s0 s' → Ret [.t 2, .t 3] [.str x, .int .i64 y] s' → R s0) : awp P T T1 ac_fput (S0 [.agg [.int .i64 k, .str b]] Hp.emp) R (fun _ _ => False) R := by
  have hsp : P.slen b = (b.length : Int) := slen_eq hP b
  have bad : k < 1 ∨ 255 < k → [] = r ∧ 1 = e := fun h => by rw [if_pos h] at hr; simpa using hr
  cbv
  intro β
  cbv
  refine br_cases (fun h => ?_) (fun h => ?_)
  · have h6 : k < 1 := lt_t hP h
    cbv
    exact hR _ _ _ _ (bad (.inl h6)) (Ent.refl _) rfl
  have h6 : ¬ k < 1 := lt_f hP h
  cbv
  refine br_cases (fun h => ?_) (fun h => ?_)
  · have h7 : 255 < k := lt_t hP h
    cbv
    exact hR _ _ _ _ (bad (.inr h7)) (Ent.refl _) rfl
  have h7 : ¬ 255 < k := lt_f hP h
  rw [if_neg (by ((try simp only [nc] at *); omega))] at hr
  cbv
  refine br_cases (fun h => ?_) (fun h => ?_)
  · have h8 : 4000 < P.slen b := lt_t hP h
    rw [hsp] at h8
    rw [if_pos (by ((try simp only [nc] at *); omega))] at hr
    cbv
    exact hR _ _ _ _ (by simpa using hr) (Ent.refl _) rfl
  have h8 : ¬ 4000 < P.slen b := lt_f hP h
  rw [hsp] at h8
  rw [if_neg (by ((try simp only [nc] at *); omega))] at hr
  simp only [Prod.mk.injEq] at hr
  have a1 : P.leP 0 8 := le0 hP (by decide)
  have b1 : P.ltP 8 (P.bits .i64) := ltI hP (by rw [bits64 hP]; decide)
  have f1 := bstr3 hP k (P.shr (P.slen b) 8) (P.slen b)
  have hd : P.sapp [by8 k, by8 (P.shr (P.slen b) 8), by8 (P.slen b)] b = headL k b := by rw [shr8 hP, hsp, sapp_eq hP]; rfl
  have i1 : P.i64 (P.add (P.slen [by8 k, by8 (P.shr (P.slen b) 8), by8 (P.slen b)]) (P.slen b)) := by
    rw [add_eq hP, hsp, slen_eq hP]; exact i64I hP (by simp only [List.length_cons, List.length_nil]; ((try simp only [nc] at *); omega))
  generalize [by8 k, by8 (P.shr (P.slen b) 8), by8 (P.slen b)] = L at f1 hd i1
  have hl : (headL k b).length = b.length + 3 := by simp [headL]
  have c1 := h1 (headL k b) (by ((try simp only [nc] at *); omega))
  have c2 := h2 (cF (headL k b))
  have i2 : P.i64 (P.add (P.slen (headL k b)) (P.slen (fF (cF (headL k b))))) := by rw [add_eq hP, slen_eq hP, slen_eq hP, hl, hfF]; exact i64I hP (by ((try simp only [nc] at *); omega))
  have e1 := sapp_eq hP (headL k b) (fF (cF (headL k b)))
  rw [← hd] at c1 c2 i2 e1 hr
  clear h1 h2
  cbv
  repeat' (first
    | (refine And.intro (by assumption) ?_; try cbv)
    | (intro β; try cbv))
  refine ⟨neP_of hP _ _ rfl, _, f1, ?_⟩
  cbv
  refine ⟨i1, ?_⟩
  cbv
  refine c1 _ _ ?_
  cbv
  refine c2 _ _ ?_
  cbv
  refine ⟨i2, ?_⟩
  cbv
  exact hR _ _ _ _ ⟨by rw [e1]; exact hr.1, hr.2⟩ (Ent.refl _) rfl
theorem sp_fput (f : Frame) : Spec Try.prog 94 [.agg (encFrame f)] Hp.emp (Is (.tup [.str (putFr f.kind f.body).1, .int .i64 (putFr f.kind f.body).2])) :=
  spec_pure dOk ok_fput [.str (putFr f.kind f.body).1, .int .i64 (putFr f.kind f.body).2] (.tup _ (by simp; exact ⟨.str _, .int _ _⟩)) fun R hR => vc_fput std rfl _ _ f.kind f.body (fun s => crcNat s)
    (fun s hs => ansSame (sp_crc s (by have : maxLen = 9223372036854775807 := by decide
                                       ((try simp only [nc] at *); omega))) rfl rfl) fourL (fun _ => rfl) (fun c => ansSame (sp_four c) rfl rfl) _ _ rfl R fun s0 s' x y h he hr => by obtain ⟨rfl, rfl⟩ := h; exact hR s0 s' he hr
/-! the document's Frame -/
def ac_rframe : AC := .seq (.region false [
    ⟨some 1, none, .box 139 2 (.t 0)⟩,
    ⟨some 2, none, .mov (.c (.string ⟨#[]⟩))⟩,
    ⟨some 3, none, .mov (.c (.int .i64 0))⟩])
  (.seq (.seq (.region false [
    ⟨some 7, none, .faddr 0 (.t 1)⟩,
    ⟨some 8, none, .load1 (.t 7)⟩,
    ⟨some 9, none, .bin .lss (.t 8) (.c (.int .i64 1))⟩,
    ⟨some 10, none, .mov (.t 9)⟩,
    ⟨some 11, some (10, false), .faddr 0 (.t 1)⟩,
    ⟨some 12, some (10, false), .load1 (.t 11)⟩,
    ⟨some 13, some (10, false), .bin .gtr (.t 12) (.c (.int .i64 255))⟩,
    ⟨some 14, none, .pick (.t 10) (.c (.bool true)) (.t 13)⟩])
  (.cond (.t 14)
    (.seq (.region false [
      ⟨some 2, none, .mov (.c (.string ⟨#[]⟩))⟩,
      ⟨some 3, none, .mov (.c (.int .i64 1))⟩])
    (.ret))
    (.skip)))
  (.seq (.seq (.region false [
    ⟨some 15, none, .faddr 1 (.t 1)⟩,
    ⟨some 16, none, .load1 (.t 15)⟩,
    ⟨some 17, none, .len true (.t 16)⟩,
    ⟨some 18, none, .bin .gtr (.t 17) (.c (.int .i64 4000))⟩])
  (.cond (.t 18)
    (.seq (.region false [
      ⟨some 2, none, .mov (.c (.string ⟨#[]⟩))⟩,
      ⟨some 3, none, .mov (.c (.int .i64 2))⟩])
    (.ret))
    (.skip)))
  (.seq (.region false [
    ⟨some 19, none, .faddr 1 (.t 1)⟩,
    ⟨some 20, none, .load1 (.t 19)⟩,
    ⟨some 21, none, .len true (.t 20)⟩,
    ⟨some 4, none, .mov (.t 21)⟩])
  (.seq (.region false [
    ⟨some 22, none, .faddr 0 (.t 1)⟩,
    ⟨some 23, none, .load1 (.t 22)⟩,
    ⟨some 24, none, .conv .u8 (.t 23)⟩,
    ⟨some 25, none, .mov (.t 4)⟩,
    ⟨some 26, none, .bin .quo (.t 25) (.c (.int .i64 256))⟩,
    ⟨some 27, none, .conv .u8 (.t 26)⟩,
    ⟨some 28, none, .mov (.t 4)⟩,
    ⟨some 29, none, .bin .rem (.t 28) (.c (.int .i64 256))⟩,
    ⟨some 30, none, .conv .u8 (.t 29)⟩,
    ⟨some 31, none, .bslice 5 1 [(.t 24), (.t 27), (.t 30)]⟩,
    ⟨some 32, none, .convbs (.t 31)⟩,
    ⟨some 33, none, .faddr 1 (.t 1)⟩,
    ⟨some 34, none, .load1 (.t 33)⟩,
    ⟨some 35, none, .bin .add (.t 32) (.t 34)⟩,
    ⟨some 5, none, .mov (.t 35)⟩])
  (.seq (.region false [
    ⟨some 36, none, .mov (.t 5)⟩,
    ⟨some 37, none, .call 128 [(.t 36)]⟩,
    ⟨some 6, none, .mov (.t 37)⟩])
  (.seq (.region false [
    ⟨some 38, none, .mov (.t 5)⟩,
    ⟨some 39, none, .mov (.t 6)⟩,
    ⟨some 40, none, .conv .u8 (.t 39)⟩,
    ⟨some 41, none, .mov (.t 6)⟩,
    ⟨some 42, none, .bin .shr (.t 41) (.c (.int .u64 8))⟩,
    ⟨some 43, none, .conv .u8 (.t 42)⟩,
    ⟨some 44, none, .mov (.t 6)⟩,
    ⟨some 45, none, .bin .shr (.t 44) (.c (.int .u64 16))⟩,
    ⟨some 46, none, .conv .u8 (.t 45)⟩,
    ⟨some 47, none, .mov (.t 6)⟩,
    ⟨some 48, none, .bin .shr (.t 47) (.c (.int .u64 24))⟩,
    ⟨some 49, none, .conv .u8 (.t 48)⟩,
    ⟨some 50, none, .bslice 5 1 [(.t 40), (.t 43), (.t 46), (.t 49)]⟩,
    ⟨some 51, none, .convbs (.t 50)⟩,
    ⟨some 52, none, .bin .add (.t 38) (.t 51)⟩,
    ⟨some 2, none, .mov (.t 52)⟩,
    ⟨some 3, none, .mov (.c (.int .i64 0))⟩])
  (.ret)))))))
theorem ok_rframe : FnOk Try.prog 121 Try.f121 ac_rframe [.t 2, .t 3] 1 drawD := ⟨Try.func121, by decide +kernel, by kernel_rfl, by kernel_rfl, by decide +kernel⟩
theorem vc_rframe (P : Prim) (hP : P = std) (T T1 : CallT) (k : Int) (b : List UInt8) (cF : List UInt8 → Int) (h1 : ∀ s, s.length ≤ 5000 → Ans T 128 [.str s] (.int .u32 (cF s)))
    (r : List UInt8) (e : Int)
    (hr : (if k < 1 ∨ 255 < k then ([], 1) else if 4000 < b.length then ([], 2) else (headL k b ++ fourL (cF (headL k b)), 0)) = (r, e))
    (R : S → Prop) (hR : ∀ s0 s' x y, x = r ∧ y = e → Ent s0 s' → Ret [.t 2, .t 3] [.str x, .int .i64 y] s' → R s0) : awp P T T1 ac_rframe (S0 [.agg [.int .i64 k, .str b]] Hp.emp) R (fun _ _ => False) R := by
  have hsp : P.slen b = (b.length : Int) := slen_eq hP b
  have bad : k < 1 ∨ 255 < k → [] = r ∧ 1 = e := fun h => by rw [if_pos h] at hr; simpa using hr
  cbv
  intro β
  cbv
  refine br_cases (fun h => ?_) (fun h => ?_)
  · have h6 : k < 1 := lt_t hP h
    cbv
    exact hR _ _ _ _ (bad (.inl h6)) (Ent.refl _) rfl
  have h6 : ¬ k < 1 := lt_f hP h
  cbv
  refine br_cases (fun h => ?_) (fun h => ?_)
  · have h7 : 255 < k := lt_t hP h
    cbv
    exact hR _ _ _ _ (bad (.inr h7)) (Ent.refl _) rfl
  have h7 : ¬ 255 < k := lt_f hP h
  rw [if_neg (by ((try simp only [nc] at *); omega))] at hr
  cbv
  refine br_cases (fun h => ?_) (fun h => ?_)
  · have h8 : 4000 < P.slen b := lt_t hP h
    rw [hsp] at h8
    rw [if_pos (by ((try simp only [nc] at *); omega))] at hr
    cbv
    exact hR _ _ _ _ (by simpa using hr) (Ent.refl _) rfl
  have h8 : ¬ 4000 < P.slen b := lt_f hP h
  rw [hsp] at h8
  rw [if_neg (by ((try simp only [nc] at *); omega))] at hr
  simp only [Prod.mk.injEq] at hr
  have z0 : P.leP 0 (P.slen b) := le0 hP (by rw [hsp]; ((try simp only [nc] at *); omega))
  have z1 : P.ltP 0 256 := ltI hP (by decide)
  have z2 : P.div (P.slen b) 256 = (b.length : Int) / 256 := by rw [hsp]; subst hP; rfl
  have z3 : P.mod (P.slen b) 256 = (b.length : Int) % 256 := by rw [hsp]; subst hP; rfl
  have z4 : P.i64 (P.div (P.slen b) 256) := by rw [z2]; exact i64I hP (by ((try simp only [nc] at *); omega))
  have f1 := bstr3 hP k (P.div (P.slen b) 256) (P.mod (P.slen b) 256)
  have hd : P.sapp [by8 k, by8 (P.div (P.slen b) 256), by8 (P.mod (P.slen b) 256)] b = headL k b := by rw [z2, z3, by8_mod, sapp_eq hP]; rfl
  have i1 : P.i64 (P.add (P.slen [by8 k, by8 (P.div (P.slen b) 256), by8 (P.mod (P.slen b) 256)]) (P.slen b)) := by
    rw [add_eq hP, hsp, slen_eq hP]; exact i64I hP (by simp only [List.length_cons, List.length_nil]; ((try simp only [nc] at *); omega))
  generalize [by8 k, by8 (P.div (P.slen b) 256), by8 (P.mod (P.slen b) 256)] = L at f1 hd i1
  have hl : (headL k b).length = b.length + 3 := by simp [headL]
  have c1 := h1 (headL k b) (by ((try simp only [nc] at *); omega))
  rw [← hd] at c1 hr hl
  clear h1
  generalize cF (P.sapp L b) = c at c1 hr
  have a1 : P.leP 0 8 := le0 hP (by decide)
  have a2 : P.leP 0 16 := le0 hP (by decide)
  have a3 : P.leP 0 24 := le0 hP (by decide)
  have b1 : P.ltP 8 (P.bits .u32) := ltI hP (by rw [bits32 hP]; decide)
  have b2 : P.ltP 16 (P.bits .u32) := ltI hP (by rw [bits32 hP]; decide)
  have b3 : P.ltP 24 (P.bits .u32) := ltI hP (by rw [bits32 hP]; decide)
  have f2 := four_b hP c
  have i2 : P.i64 (P.add (P.slen (P.sapp L b)) (P.slen (fourL c))) := by
    rw [add_eq hP, slen_eq hP, slen_eq hP, hl]; exact i64I hP (by simp only [fourL, List.length_cons, List.length_nil]; ((try simp only [nc] at *); omega))
  have e1 : P.sapp (P.sapp L b) (fourL c) = P.sapp L b ++ fourL c := sapp_eq hP _ _
  rw [← e1] at hr
  generalize fourL c = M at f2 i2 hr
  clear e1
  cbv
  repeat' (first
    | (refine And.intro (by assumption) ?_; try cbv)
    | (intro β; try cbv))
  refine ⟨neP_of hP _ _ rfl, _, f1, ?_⟩
  cbv
  refine ⟨i1, ?_⟩
  cbv
  refine c1 _ _ ?_
  cbv
  repeat' (first
    | (refine And.intro (by assumption) ?_; try cbv)
    | (intro β; try cbv))
  refine ⟨neP_of hP _ _ rfl, _, f2, ?_⟩
  cbv
  refine ⟨i2, ?_⟩
  cbv
  exact hR _ _ _ _ hr (Ent.refl _) rfl
theorem sp_rframe (f : Frame) : Spec Try.prog 121 [.agg (encFrame f)] Hp.emp (Is (.tup [.str (putFr f.kind f.body).1, .int .i64 (putFr f.kind f.body).2])) :=
  spec_pure dOk ok_rframe [.str (putFr f.kind f.body).1, .int .i64 (putFr f.kind f.body).2] (.tup _ (by simp; exact ⟨.str _, .int _ _⟩)) fun R hR => vc_rframe std rfl _ _ f.kind f.body (fun s => crcNat s)
    (fun s hs => ansSame (sp_rcrc s (by have : maxLen = 9223372036854775807 := by decide
                                        ((try simp only [nc] at *); omega))) rfl rfl) _ _ rfl R fun s0 s' x y h he hr => by obtain ⟨rfl, rfl⟩ := h; exact hR s0 s' he hr
/-! Get -/
theorem head_take {s : List UInt8} (h : frN s + 7 ≤ s.length) : headL ((s.getD 0 0).toNat : Int) ((s.take (frN s + 3)).drop 3) = s.take (frN s + 3) := by
  match s, h with
  | [], h => simp at h
  | [_], h => simp at h
  | [_, _], h => simp at h
  | a :: b :: c :: t, h =>
    have hb : ((((a :: b :: c :: t).take (frN (a :: b :: c :: t) + 3)).drop 3).length : Int) = 256 * ((b.toNat : Nat) : Int) + ((c.toNat : Nat) : Int) := by
      rw [List.length_drop, List.length_take]
      have : frN (a :: b :: c :: t) = 256 * b.toNat + c.toNat := rfl
      omega
    unfold headL
    rw [hb, by8_hi, by8_lo]
    show [by8 ((a.toNat : Nat) : Int), b, c] ++ _ = _
    rw [by8_nat]
    generalize frN (a :: b :: c :: t) = m
    rfl
theorem take_split (s : List UInt8) (n : Nat) (h : n + 7 ≤ s.length) : s.take (n + 7) = s.take (n + 3) ++ (s.take (n + 7)).drop (n + 3) := by
  have := List.take_append_drop (n + 3) (s.take (n + 7))
  rw [List.take_take, Nat.min_eq_left (by omega)] at this
  exact this.symm
theorem frame_take {s : List UInt8} (h : frN s + 7 ≤ s.length) : frameL ((s.getD 0 0).toNat : Int) ((s.take (frN s + 3)).drop 3) = s.take (frN s + 7) ↔ (s.take (frN s + 7)).drop (frN s + 3) = fourL (crcNat (s.take (frN s + 3))) := by
  unfold frameL
  rw [head_take h]
  constructor
  · intro g
    rw [← g]
    exact (List.drop_left' (by rw [List.length_take]; omega))
  · intro g
    rw [← g]
    exact (take_split s _ h).symm
theorem fr_facts {P : Prim} (hP : P = std) {s : List UInt8} {nn : Int} (h : frN s + 7 ≤ s.length) (hn : nn = (frN s : Int)) :
    P.leP 0 (P.add nn 3) ∧ P.leP (P.add nn 3) (P.add nn 7) ∧ P.leP (P.add nn 7) (P.slen s) ∧ P.leP (P.add nn 3) (P.slen s) ∧ P.leP 3 (P.add nn 3) ∧ P.leP 0 3 ∧ P.leP 0 0
    ∧ P.ssub s (P.add nn 3) (P.add nn 7) = (s.take (frN s + 7)).drop (frN s + 3) ∧ P.ssub s 0 (P.add nn 3) = s.take (frN s + 3) ∧ P.ssub s 3 (P.add nn 3) = (s.take (frN s + 3)).drop 3 := by
  have n3 : P.add nn 3 = ((frN s + 3 : Nat) : Int) := by rw [add_eq hP, hn]; rfl
  have n7 : P.add nn 7 = ((frN s + 7 : Nat) : Int) := by rw [add_eq hP, hn]; rfl
  rw [n3, n7]
  generalize frN s = N at h
  have hsp : P.slen s = (s.length : Int) := slen_eq hP s
  refine ⟨le0 hP (by omega), leI hP (by omega), leI hP (by rw [hsp]; omega), leI hP (by rw [hsp]; omega), leI hP (by omega), le0 hP (by decide), le0 hP (by decide), ?_, ?_, ?_⟩
  · subst hP; rfl
  · subst hP; rfl
  · subst hP; rfl
def ac_fget : AC := .seq (.region false [
    ⟨some 2, none, .alloc 139 [(.int .i64 0), (.string ⟨#[]⟩)]⟩,
    ⟨some 3, none, .mov (.c (.int .i64 0))⟩,
    ⟨some 4, none, .mov (.c (.int .i64 0))⟩])
  (.seq (.seq (.region false [
    ⟨some 6, none, .mov (.t 0)⟩,
    ⟨some 7, none, .len true (.t 6)⟩,
    ⟨some 8, none, .bin .lss (.t 7) (.c (.int .i64 7))⟩])
  (.cond (.t 8)
    (.seq (.region false [
      ⟨some 9, none, .build [(.int .i64 0), (.string ⟨#[]⟩)] []⟩,
      ⟨none, none, .store 2 (.t 2) (.t 9)⟩,
      ⟨some 3, none, .mov (.c (.int .i64 0))⟩,
      ⟨some 4, none, .mov (.c (.int .i64 5))⟩])
    (.ret))
    (.skip)))
  (.seq (.region true [
    ⟨some 10, none, .mov (.t 0)⟩,
    ⟨some 11, none, .ixs (.t 10) (.c (.int .i64 1))⟩,
    ⟨some 12, none, .conv .i64 (.t 11)⟩,
    ⟨some 13, none, .bin .shl (.t 12) (.c (.int .u64 8))⟩,
    ⟨some 14, none, .mov (.t 0)⟩,
    ⟨some 15, none, .ixs (.t 14) (.c (.int .i64 2))⟩,
    ⟨some 16, none, .conv .i64 (.t 15)⟩,
    ⟨some 17, none, .bin .or (.t 13) (.t 16)⟩,
    ⟨some 5, none, .mov (.t 17)⟩])
  (.seq (.seq (.region false [
    ⟨some 18, none, .mov (.t 0)⟩,
    ⟨some 19, none, .ixs (.t 18) (.c (.int .i64 0))⟩,
    ⟨some 20, none, .bin .eql (.t 19) (.c (.int .u8 0))⟩,
    ⟨some 21, none, .mov (.t 20)⟩,
    ⟨some 22, some (21, false), .mov (.t 5)⟩,
    ⟨some 23, some (21, false), .bin .gtr (.t 22) (.c (.int .i64 4000))⟩,
    ⟨some 24, none, .pick (.t 21) (.c (.bool true)) (.t 23)⟩])
  (.cond (.t 24)
    (.seq (.region false [
      ⟨some 25, none, .build [(.int .i64 0), (.string ⟨#[]⟩)] []⟩,
      ⟨none, none, .store 2 (.t 2) (.t 25)⟩,
      ⟨some 3, none, .mov (.c (.int .i64 0))⟩,
      ⟨some 4, none, .mov (.c (.int .i64 3))⟩])
    (.ret))
    (.skip)))
  (.seq (.seq (.region false [
    ⟨some 26, none, .mov (.t 0)⟩,
    ⟨some 27, none, .len true (.t 26)⟩,
    ⟨some 28, none, .mov (.t 5)⟩,
    ⟨some 29, none, .bin .add (.t 28) (.c (.int .i64 7))⟩,
    ⟨some 30, none, .bin .lss (.t 27) (.t 29)⟩])
  (.cond (.t 30)
    (.seq (.region false [
      ⟨some 31, none, .build [(.int .i64 0), (.string ⟨#[]⟩)] []⟩,
      ⟨none, none, .store 2 (.t 2) (.t 31)⟩,
      ⟨some 3, none, .mov (.c (.int .i64 0))⟩,
      ⟨some 4, none, .mov (.c (.int .i64 5))⟩])
    (.ret))
    (.skip)))
  (.seq (.seq (.region true [
    ⟨some 32, none, .mov (.t 0)⟩,
    ⟨some 33, none, .mov (.t 5)⟩,
    ⟨some 34, none, .bin .add (.t 33) (.c (.int .i64 3))⟩,
    ⟨some 35, none, .mov (.t 5)⟩,
    ⟨some 36, none, .bin .add (.t 35) (.c (.int .i64 7))⟩,
    ⟨some 37, none, .slstr (.t 32) (some (.t 34)) (some (.t 36))⟩,
    ⟨some 38, none, .mov (.t 0)⟩,
    ⟨some 39, none, .mov (.t 5)⟩,
    ⟨some 40, none, .bin .add (.t 39) (.c (.int .i64 3))⟩,
    ⟨some 41, none, .slstr (.t 38) none (some (.t 40))⟩,
    ⟨some 42, none, .call 116 [(.t 41)]⟩,
    ⟨some 43, none, .call 115 [(.t 42)]⟩,
    ⟨some 44, none, .bin .neq (.t 37) (.t 43)⟩])
  (.cond (.t 44)
    (.seq (.region false [
      ⟨some 45, none, .build [(.int .i64 0), (.string ⟨#[]⟩)] []⟩,
      ⟨none, none, .store 2 (.t 2) (.t 45)⟩,
      ⟨some 3, none, .mov (.c (.int .i64 0))⟩,
      ⟨some 4, none, .mov (.c (.int .i64 6))⟩])
    (.ret))
    (.skip)))
  (.seq (.region true [
    ⟨some 46, none, .mov (.t 0)⟩,
    ⟨some 47, none, .ixs (.t 46) (.c (.int .i64 0))⟩,
    ⟨some 48, none, .conv .i64 (.t 47)⟩,
    ⟨some 49, none, .mov (.t 0)⟩,
    ⟨some 50, none, .mov (.t 5)⟩,
    ⟨some 51, none, .bin .add (.t 50) (.c (.int .i64 3))⟩,
    ⟨some 52, none, .slstr (.t 49) (some (.c (.int .i64 3))) (some (.t 51))⟩,
    ⟨some 53, none, .build [(.int .i64 0), (.string ⟨#[]⟩)] [(0, 1, (.t 48)), (1, 1, (.t 52))]⟩,
    ⟨some 54, none, .mov (.t 5)⟩,
    ⟨some 55, none, .bin .add (.t 54) (.c (.int .i64 7))⟩,
    ⟨none, none, .store 2 (.t 2) (.t 53)⟩,
    ⟨some 3, none, .mov (.t 55)⟩,
    ⟨some 4, none, .mov (.c (.int .i64 0))⟩])
  (.ret)))))))
theorem ok_fget : FnOk Try.prog 98 Try.f98 ac_fget [.cn 2 2, .t 3, .t 4] 1 drawD := ⟨Try.func98, by decide +kernel, by kernel_rfl, by kernel_rfl, by decide +kernel⟩
theorem vc_fget (P : Prim) (hP : P = std) (T T1 : CallT) (s : List UInt8) (hs : s.length ≤ maxLen) (cF : List UInt8 → Int) (h1 : ∀ s, s.length ≤ 5000 → Ans T1 116 [.str s] (.int .u32 (cF s)))
    (hcF : ∀ s, cF s = crcNat s) (fF : Int → List UInt8) (hfF : ∀ c, fF c = fourL c) (h2 : ∀ c, Ans T1 115 [.int .u32 c] (.str (fF c))) (rk : Int) (rb : List UInt8) (rn re : Int) (hr : getFr s = (⟨rk, rb⟩, rn, re))
    (R : S → Prop) (hR : ∀ s0 s' k b n e, (k = rk ∧ b = rb ∧ n = rn ∧ e = re) → Ent s0 s' → Ret [.cn 2 2, .t 3, .t 4] [.agg [.int .i64 k, .str b], .int .i64 n, .int .i64 e] s' → R s0) : awp P T T1 ac_fget (S0 [.str s] Hp.emp) R (fun _ _ => False) R := by
  have hml : maxLen = 9223372036854775807 := by decide
  have hsp : P.slen s = (s.length : Int) := slen_eq hP s
  have q0 : P.sat s 0 = ((s.getD 0 0).toNat : Int) := by subst hP; rfl
  have q1 : P.sat s 1 = ((s.getD 1 0).toNat : Int) := by subst hP; rfl
  have q2 : P.sat s 2 = ((s.getD 2 0).toNat : Int) := by subst hP; rfl
  have u0 := (s.getD 0 0).toNat_lt
  have u1 := (s.getD 1 0).toNat_lt
  have u2 := (s.getD 2 0).toNat_lt
  have w1 : P.wrap .i64 (P.sat s 1) = ((s.getD 1 0).toNat : Int) := by rw [q1]; exact w64 hP (by ((try simp only [nc] at *); omega))
  have w2 : P.wrap .i64 (P.sat s 2) = ((s.getD 2 0).toNat : Int) := by rw [q2]; exact w64 hP (by ((try simp only [nc] at *); omega))
  have w0 : P.wrap .i64 (P.sat s 0) = ((s.getD 0 0).toNat : Int) := by rw [q0]; exact w64 hP (by ((try simp only [nc] at *); omega))
  unfold getFr at hr
  cbv
  intro β
  cbv
  refine br_cases (fun h => ?_) (fun h => ?_)
  · have h7 : P.slen s < 7 := lt_t hP h
    rw [hsp] at h7
    rw [if_pos (by ((try simp only [nc] at *); omega))] at hr
    cbv
    exact hR _ _ _ _ _ _ (by simpa [and_assoc] using hr) (Ent.refl _) ⟨rfl, rfl, Nat.zero_lt_succ 0, Nat.le_refl 2, rfl⟩
  have h7 : ¬ P.slen s < 7 := lt_f hP h
  rw [hsp] at h7
  rw [if_neg (by ((try simp only [nc] at *); omega))] at hr
  have a0 : P.leP 0 0 := le0 hP (by decide)
  have a1 : P.leP 0 1 := le0 hP (by decide)
  have a2 : P.leP 0 2 := le0 hP (by decide)
  have a3 : P.ltP 0 (P.slen s) := ltI hP (by rw [hsp]; ((try simp only [nc] at *); omega))
  have a4 : P.ltP 1 (P.slen s) := ltI hP (by rw [hsp]; ((try simp only [nc] at *); omega))
  have a5 : P.ltP 2 (P.slen s) := ltI hP (by rw [hsp]; ((try simp only [nc] at *); omega))
  have a6 : P.leP 0 8 := le0 hP (by decide)
  have a7 : P.ltP 8 64 := ltI hP (by decide)
  have a8 : P.i64 (P.shl (P.wrap .i64 (P.sat s 1)) 8) := by rw [w1, shl8 hP]; exact i64I hP (by ((try simp only [nc] at *); omega))
  obtain ⟨nn, hnn⟩ : ∃ nn, nn = P.bor .i64 (P.shl (P.wrap .i64 (P.sat s 1)) 8) (P.wrap .i64 (P.sat s 2)) := ⟨_, rfl⟩
  have hn : nn = (frN s : Int) := by rw [hnn, w1, w2, shl8 hP, bor8 hP]; unfold frN; ((try simp only [nc] at *); omega)
  have n3 : P.add nn 3 = (frN s : Int) + 3 := by rw [add_eq hP, hn]
  have n7 : P.add nn 7 = (frN s : Int) + 7 := by rw [add_eq hP, hn]
  have hnb : frN s ≤ 70000 := by unfold frN; omega
  have i3 : P.i64 (P.add nn 3) := by rw [n3]; exact i64I hP (by ((try simp only [nc] at *); omega))
  have i7 : P.i64 (P.add nn 7) := by rw [n7]; exact i64I hP (by ((try simp only [nc] at *); omega))
  rw [hnn] at hn n3 n7 i3 i7
  clear hnn
  cbv
  repeat' (first
    | (refine And.intro (by assumption) ?_; try cbv)
    | (intro β; try cbv))
  have badf : (s.getD 0 0).toNat = 0 ∨ 4000 < frN s → (0 : Int) = rk ∧ ([] : List UInt8) = rb ∧ (0 : Int) = rn ∧ (3 : Int) = re := fun h => by rw [if_pos h] at hr; simpa [and_assoc] using hr
  refine br_cases (fun h => ?_) (fun h => ?_)
  · have h8 : P.sat s 0 = 0 := eq_t hP h
    rw [q0] at h8
    cbv
    exact hR _ _ _ _ _ _ (badf (.inl (by ((try simp only [nc] at *); omega)))) (Ent.refl _) ⟨rfl, rfl, Nat.zero_lt_succ 0, Nat.le_refl 2, rfl⟩
  have h8 : ¬ P.sat s 0 = 0 := eq_f hP h
  rw [q0] at h8
  cbv
  refine br_cases (fun h => ?_) (fun h => ?_)
  · have h9 := Int.lt_of_lt_of_le (lt_t hP h) (Int.le_of_eq hn)
    cbv
    exact hR _ _ _ _ _ _ (badf (.inr (by ((try simp only [nc] at *); omega)))) (Ent.refl _) ⟨rfl, rfl, Nat.zero_lt_succ 0, Nat.le_refl 2, rfl⟩
  have h9 : ¬ (4000 : Int) < (frN s : Int) := fun g => lt_f hP h (Int.lt_of_lt_of_le g (Int.le_of_eq hn.symm))
  clear badf
  rw [if_neg (by ((try simp only [nc] at *); omega))] at hr
  cbv
  refine ⟨i7, ?_⟩
  refine br_cases (fun h => ?_) (fun h => ?_)
  · have h10 : P.slen s < (frN s : Int) + 7 := Int.lt_of_lt_of_le (lt_t hP h) (Int.le_of_eq n7)
    rw [hsp] at h10
    rw [if_pos (by ((try simp only [nc] at *); omega))] at hr
    cbv
    exact hR _ _ _ _ _ _ (by simpa [and_assoc] using hr) (Ent.refl _) ⟨rfl, rfl, Nat.zero_lt_succ 0, Nat.le_refl 2, rfl⟩
  have h10 : ¬ P.slen s < (frN s : Int) + 7 := fun g => lt_f hP h (Int.lt_of_lt_of_le g (Int.le_of_eq n7.symm))
  rw [hsp] at h10
  rw [if_neg (by ((try simp only [nc] at *); omega))] at hr
  clear h h7 h8
  obtain ⟨F1, F2, F3, F4, F5, F6, F7, F8, F9, F10⟩ := fr_facts hP (by ((try simp only [nc] at *); omega)) hn
  rw [← F8, ← F10, ← F9] at hr
  have c1 := h1 (P.ssub s 0 (P.add (P.bor .i64 (P.shl (P.wrap .i64 (P.sat s 1)) 8) (P.wrap .i64 (P.sat s 2))) 3)) (by rw [F9, List.length_take]; ((try simp only [nc] at *); omega))
  have c2 := h2 (cF (P.ssub s 0 (P.add (P.bor .i64 (P.shl (P.wrap .i64 (P.sat s 1)) 8) (P.wrap .i64 (P.sat s 2))) 3)))
  clear h1 h2 h9
  cbv
  repeat' (first
    | (refine And.intro (by assumption) ?_; try cbv)
    | (intro β; try cbv))
  refine c1 _ _ ?_
  cbv
  refine c2 _ _ ?_
  cbv
  refine br_cases (fun h => ?_) (fun h => ?_)
  · have g := sne_t hP h
    rw [hfF, hcF] at g
    rw [if_pos g] at hr
    cbv
    exact hR _ _ _ _ _ _ (by simpa [and_assoc] using hr) (Ent.refl _) ⟨rfl, rfl, Nat.zero_lt_succ 0, Nat.le_refl 2, rfl⟩
  · have g := sne_f hP h
    rw [hfF, hcF] at g
    rw [if_neg (fun x => x g)] at hr
    simp only [Prod.mk.injEq, Frame.mk.injEq] at hr
    cbv
    repeat' (first
      | (refine And.intro (by assumption) ?_; try cbv)
      | (intro β; try cbv))
    exact hR _ _ _ _ _ _ ⟨w0.trans hr.1.1, hr.1.2, n7.trans hr.2.1, hr.2.2⟩ (Ent.refl _) ⟨rfl, rfl, Nat.zero_lt_succ 0, Nat.le_refl 2, rfl⟩
theorem sp_fget (s : List UInt8) (hs : s.length ≤ maxLen) : Spec Try.prog 98 [.str s] Hp.emp (Is (.tup [.agg (encFrame (getFr s).1), .int .i64 (getFr s).2.1, .int .i64 (getFr s).2.2])) :=
  spec_pure dOk ok_fget [.agg (encFrame (getFr s).1), .int .i64 (getFr s).2.1, .int .i64 (getFr s).2.2] (.tup _ (by simp [encFrame]; exact ⟨.agg _ (by simp; exact ⟨.int _ _, .str _⟩), .int _ _, .int _ _⟩)) fun R hR => vc_fget std rfl _ _ s hs (fun s => crcNat s)
    (fun s hs => ansP (sp_crc s (by have : maxLen = 9223372036854775807 := by decide
                                    omega)) (fun _ => args_plain rfl) rfl) (fun _ => rfl) fourL (fun _ => rfl) (fun c => ansP (sp_four c) (fun _ => args_plain rfl) rfl) _ _ _ _ rfl R
    fun s0 s' k b n e h he hr => by obtain ⟨rfl, rfl, rfl, rfl⟩ := h; exact hR s0 s' he hr
/-! the document's Unframe -/
def ac_unfr : AC := .seq (.region false [
    ⟨some 2, none, .alloc 139 [(.int .i64 0), (.string ⟨#[]⟩)]⟩,
    ⟨some 3, none, .mov (.c (.int .i64 0))⟩,
    ⟨some 4, none, .mov (.c (.int .i64 0))⟩])
  (.seq (.seq (.region false [
    ⟨some 9, none, .mov (.t 0)⟩,
    ⟨some 10, none, .len true (.t 9)⟩,
    ⟨some 11, none, .bin .lss (.t 10) (.c (.int .i64 7))⟩])
  (.cond (.t 11)
    (.seq (.region false [
      ⟨some 12, none, .build [(.int .i64 0), (.string ⟨#[]⟩)] []⟩,
      ⟨none, none, .store 2 (.t 2) (.t 12)⟩,
      ⟨some 3, none, .mov (.c (.int .i64 0))⟩,
      ⟨some 4, none, .mov (.c (.int .i64 5))⟩])
    (.ret))
    (.skip)))
  (.seq (.region true [
    ⟨some 13, none, .mov (.t 0)⟩,
    ⟨some 14, none, .ixs (.t 13) (.c (.int .i64 1))⟩,
    ⟨some 15, none, .conv .i64 (.t 14)⟩,
    ⟨some 16, none, .bin .mul (.c (.int .i64 256)) (.t 15)⟩,
    ⟨some 17, none, .mov (.t 0)⟩,
    ⟨some 18, none, .ixs (.t 17) (.c (.int .i64 2))⟩,
    ⟨some 19, none, .conv .i64 (.t 18)⟩,
    ⟨some 20, none, .bin .add (.t 16) (.t 19)⟩,
    ⟨some 5, none, .mov (.t 20)⟩])
  (.seq (.seq (.region false [
    ⟨some 21, none, .mov (.t 0)⟩,
    ⟨some 22, none, .ixs (.t 21) (.c (.int .i64 0))⟩,
    ⟨some 23, none, .bin .eql (.t 22) (.c (.int .u8 0))⟩,
    ⟨some 24, none, .mov (.t 23)⟩,
    ⟨some 25, some (24, false), .mov (.t 5)⟩,
    ⟨some 26, some (24, false), .bin .gtr (.t 25) (.c (.int .i64 4000))⟩,
    ⟨some 27, none, .pick (.t 24) (.c (.bool true)) (.t 26)⟩])
  (.cond (.t 27)
    (.seq (.region false [
      ⟨some 28, none, .build [(.int .i64 0), (.string ⟨#[]⟩)] []⟩,
      ⟨none, none, .store 2 (.t 2) (.t 28)⟩,
      ⟨some 3, none, .mov (.c (.int .i64 0))⟩,
      ⟨some 4, none, .mov (.c (.int .i64 3))⟩])
    (.ret))
    (.skip)))
  (.seq (.seq (.region false [
    ⟨some 29, none, .mov (.t 0)⟩,
    ⟨some 30, none, .len true (.t 29)⟩,
    ⟨some 31, none, .mov (.t 5)⟩,
    ⟨some 32, none, .bin .add (.c (.int .i64 7)) (.t 31)⟩,
    ⟨some 33, none, .bin .lss (.t 30) (.t 32)⟩])
  (.cond (.t 33)
    (.seq (.region false [
      ⟨some 34, none, .build [(.int .i64 0), (.string ⟨#[]⟩)] []⟩,
      ⟨none, none, .store 2 (.t 2) (.t 34)⟩,
      ⟨some 3, none, .mov (.c (.int .i64 0))⟩,
      ⟨some 4, none, .mov (.c (.int .i64 5))⟩])
    (.ret))
    (.skip)))
  (.seq (.region true [
    ⟨some 35, none, .mov (.t 0)⟩,
    ⟨some 36, none, .ixs (.t 35) (.c (.int .i64 0))⟩,
    ⟨some 37, none, .conv .i64 (.t 36)⟩,
    ⟨some 38, none, .mov (.t 0)⟩,
    ⟨some 39, none, .mov (.t 5)⟩,
    ⟨some 40, none, .bin .add (.c (.int .i64 3)) (.t 39)⟩,
    ⟨some 41, none, .slstr (.t 38) (some (.c (.int .i64 3))) (some (.t 40))⟩,
    ⟨some 42, none, .build [(.int .i64 0), (.string ⟨#[]⟩)] [(0, 1, (.t 37)), (1, 1, (.t 41))]⟩,
    ⟨some 6, none, .alloc 139 [(.int .i64 0), (.string ⟨#[]⟩)]⟩,
    ⟨none, none, .store 2 (.t 6) (.t 42)⟩])
  (.seq (.seq (.region false [
    ⟨some 44, none, .loadn 2 (.t 6)⟩,
    ⟨some 45, none, .call 121 [(.t 44)]⟩,
    ⟨some 43, none, .mov (.t 45)⟩,
    ⟨some 46, none, .ext 0 (.t 43)⟩,
    ⟨some 47, none, .ext 1 (.t 43)⟩,
    ⟨some 7, none, .mov (.t 46)⟩,
    ⟨some 8, none, .mov (.t 47)⟩])
  (.seq (.region false [
    ⟨some 48, none, .mov (.t 7)⟩,
    ⟨some 49, none, .mov (.t 0)⟩,
    ⟨some 50, none, .mov (.t 5)⟩,
    ⟨some 51, none, .bin .add (.c (.int .i64 7)) (.t 50)⟩,
    ⟨some 52, none, .slstr (.t 49) none (some (.t 51))⟩,
    ⟨some 53, none, .bin .neq (.t 48) (.t 52)⟩])
  (.cond (.t 53)
    (.seq (.region false [
      ⟨some 54, none, .build [(.int .i64 0), (.string ⟨#[]⟩)] []⟩,
      ⟨none, none, .store 2 (.t 2) (.t 54)⟩,
      ⟨some 3, none, .mov (.c (.int .i64 0))⟩,
      ⟨some 4, none, .mov (.c (.int .i64 6))⟩])
    (.ret))
    (.skip))))
  (.seq (.region false [
    ⟨some 55, none, .loadn 2 (.t 6)⟩,
    ⟨some 56, none, .mov (.t 5)⟩,
    ⟨some 57, none, .bin .add (.c (.int .i64 7)) (.t 56)⟩,
    ⟨none, none, .store 2 (.t 2) (.t 55)⟩,
    ⟨some 3, none, .mov (.t 57)⟩,
    ⟨some 4, none, .mov (.c (.int .i64 0))⟩])
  (.ret))))))))
theorem ok_unfr : FnOk Try.prog 102 Try.f102 ac_unfr [.cn 2 2, .t 3, .t 4] 1 drawD := ⟨Try.func102, by decide +kernel, by kernel_rfl, by kernel_rfl, by decide +kernel⟩
theorem fr_factsR {P : Prim} (hP : P = std) {s : List UInt8} {nn : Int} (h : frN s + 7 ≤ s.length) (hn : nn = (frN s : Int)) :
    P.leP 0 (P.add 7 nn) ∧ P.leP (P.add 7 nn) (P.slen s) ∧ P.leP (P.add 3 nn) (P.slen s) ∧ P.leP 3 (P.add 3 nn) ∧ P.leP 0 3 ∧ P.leP 0 0
    ∧ P.ssub s 0 (P.add 7 nn) = s.take (frN s + 7) ∧ P.ssub s 3 (P.add 3 nn) = (s.take (frN s + 3)).drop 3 := by
  have n3 : P.add 3 nn = ((frN s + 3 : Nat) : Int) := by rw [add_eq hP, hn]; ((try simp only [nc] at *); omega)
  have n7 : P.add 7 nn = ((frN s + 7 : Nat) : Int) := by rw [add_eq hP, hn]; ((try simp only [nc] at *); omega)
  rw [n3, n7]
  generalize frN s = N at h
  have hsp : P.slen s = (s.length : Int) := slen_eq hP s
  refine ⟨le0 hP (by omega), leI hP (by rw [hsp]; omega), leI hP (by rw [hsp]; omega), leI hP (by omega), le0 hP (by decide), le0 hP (by decide), ?_, ?_⟩
  · subst hP; rfl
  · subst hP; rfl
theorem vc_unfr (P : Prim) (hP : P = std) (T T1 : CallT) (s : List UInt8) (hs : s.length ≤ maxLen) (uF : Int → List UInt8 → List UInt8) (eF : Int → List UInt8 → Int)
    (h1 : ∀ k b, Ans T 121 [.agg [.int .i64 k, .str b]] (.tup [.str (uF k b), .int .i64 (eF k b)])) (huF : ∀ k b, 1 ≤ k → k ≤ 255 → b.length ≤ 4000 → uF k b = frameL k b)
    (rk : Int) (rb : List UInt8) (rn re : Int) (hr : getFr s = (⟨rk, rb⟩, rn, re))
    (R : S → Prop) (hR : ∀ s0 s' k b n e, (k = rk ∧ b = rb ∧ n = rn ∧ e = re) → Ent s0 s' → Ret [.cn 2 2, .t 3, .t 4] [.agg [.int .i64 k, .str b], .int .i64 n, .int .i64 e] s' → R s0) : awp P T T1 ac_unfr (S0 [.str s] Hp.emp) R (fun _ _ => False) R := by
  have hml : maxLen = 9223372036854775807 := by decide
  have hsp : P.slen s = (s.length : Int) := slen_eq hP s
  have q0 : P.sat s 0 = ((s.getD 0 0).toNat : Int) := by subst hP; rfl
  have q1 : P.sat s 1 = ((s.getD 1 0).toNat : Int) := by subst hP; rfl
  have q2 : P.sat s 2 = ((s.getD 2 0).toNat : Int) := by subst hP; rfl
  have u0 := (s.getD 0 0).toNat_lt
  have u1 := (s.getD 1 0).toNat_lt
  have u2 := (s.getD 2 0).toNat_lt
  have w1 : P.wrap .i64 (P.sat s 1) = ((s.getD 1 0).toNat : Int) := by rw [q1]; exact w64 hP (by ((try simp only [nc] at *); omega))
  have w2 : P.wrap .i64 (P.sat s 2) = ((s.getD 2 0).toNat : Int) := by rw [q2]; exact w64 hP (by ((try simp only [nc] at *); omega))
  have w0 : P.wrap .i64 (P.sat s 0) = ((s.getD 0 0).toNat : Int) := by rw [q0]; exact w64 hP (by ((try simp only [nc] at *); omega))
  unfold getFr at hr
  cbv
  intro β
  cbv
  refine br_cases (fun h => ?_) (fun h => ?_)
  · have h7 : P.slen s < 7 := lt_t hP h
    rw [hsp] at h7
    rw [if_pos (by ((try simp only [nc] at *); omega))] at hr
    cbv
    exact hR _ _ _ _ _ _ (by simpa [and_assoc] using hr) (Ent.refl _) ⟨rfl, rfl, Nat.zero_lt_succ 0, Nat.le_refl 2, rfl⟩
  have h7 : ¬ P.slen s < 7 := lt_f hP h
  rw [hsp] at h7
  rw [if_neg (by ((try simp only [nc] at *); omega))] at hr
  have a0 : P.leP 0 0 := le0 hP (by decide)
  have a1 : P.leP 0 1 := le0 hP (by decide)
  have a2 : P.leP 0 2 := le0 hP (by decide)
  have a3 : P.ltP 0 (P.slen s) := ltI hP (by rw [hsp]; ((try simp only [nc] at *); omega))
  have a4 : P.ltP 1 (P.slen s) := ltI hP (by rw [hsp]; ((try simp only [nc] at *); omega))
  have a5 : P.ltP 2 (P.slen s) := ltI hP (by rw [hsp]; ((try simp only [nc] at *); omega))
  have m1 : P.mul 256 (P.wrap .i64 (P.sat s 1)) = 256 * ((s.getD 1 0).toNat : Int) := by rw [w1]; subst hP; rfl
  have a8 : P.i64 (P.mul 256 (P.wrap .i64 (P.sat s 1))) := by rw [m1]; exact i64I hP (by ((try simp only [nc] at *); omega))
  have hn : P.add (P.mul 256 (P.wrap .i64 (P.sat s 1))) (P.wrap .i64 (P.sat s 2)) = (frN s : Int) := by rw [add_eq hP, m1, w2]; unfold frN; ((try simp only [nc] at *); omega)
  have hnb : frN s ≤ 70000 := by unfold frN; omega
  have a9 : P.i64 (P.add (P.mul 256 (P.wrap .i64 (P.sat s 1))) (P.wrap .i64 (P.sat s 2))) := by rw [hn]; exact i64I hP (by ((try simp only [nc] at *); omega))
  have n3 : P.add 3 (P.add (P.mul 256 (P.wrap .i64 (P.sat s 1))) (P.wrap .i64 (P.sat s 2))) = (frN s : Int) + 3 := by rw [add_eq hP 3, hn]; ((try simp only [nc] at *); omega)
  have n7 : P.add 7 (P.add (P.mul 256 (P.wrap .i64 (P.sat s 1))) (P.wrap .i64 (P.sat s 2))) = (frN s : Int) + 7 := by rw [add_eq hP 7, hn]; ((try simp only [nc] at *); omega)
  have i3 : P.i64 (P.add 3 (P.add (P.mul 256 (P.wrap .i64 (P.sat s 1))) (P.wrap .i64 (P.sat s 2)))) := by rw [n3]; exact i64I hP (by ((try simp only [nc] at *); omega))
  have i7 : P.i64 (P.add 7 (P.add (P.mul 256 (P.wrap .i64 (P.sat s 1))) (P.wrap .i64 (P.sat s 2)))) := by rw [n7]; exact i64I hP (by ((try simp only [nc] at *); omega))
  cbv
  repeat' (first
    | (refine And.intro (by assumption) ?_; try cbv)
    | (intro β; try cbv))
  have badf : (s.getD 0 0).toNat = 0 ∨ 4000 < frN s → (0 : Int) = rk ∧ ([] : List UInt8) = rb ∧ (0 : Int) = rn ∧ (3 : Int) = re := fun h => by rw [if_pos h] at hr; simpa [and_assoc] using hr
  refine br_cases (fun h => ?_) (fun h => ?_)
  · have h8 : P.sat s 0 = 0 := eq_t hP h
    rw [q0] at h8
    cbv
    exact hR _ _ _ _ _ _ (badf (.inl (by ((try simp only [nc] at *); omega)))) (Ent.refl _) ⟨rfl, rfl, Nat.zero_lt_succ 0, Nat.le_refl 2, rfl⟩
  have h8 : ¬ P.sat s 0 = 0 := eq_f hP h
  rw [q0] at h8
  cbv
  refine br_cases (fun h => ?_) (fun h => ?_)
  · have h9 := Int.lt_of_lt_of_le (lt_t hP h) (Int.le_of_eq hn)
    cbv
    exact hR _ _ _ _ _ _ (badf (.inr (by ((try simp only [nc] at *); omega)))) (Ent.refl _) ⟨rfl, rfl, Nat.zero_lt_succ 0, Nat.le_refl 2, rfl⟩
  have h9 : ¬ (4000 : Int) < (frN s : Int) := fun g => lt_f hP h (Int.lt_of_lt_of_le g (Int.le_of_eq hn.symm))
  clear badf
  rw [if_neg (by ((try simp only [nc] at *); omega))] at hr
  cbv
  refine ⟨i7, ?_⟩
  refine br_cases (fun h => ?_) (fun h => ?_)
  · have h10 : P.slen s < (frN s : Int) + 7 := Int.lt_of_lt_of_le (lt_t hP h) (Int.le_of_eq n7)
    rw [hsp] at h10
    rw [if_pos (by ((try simp only [nc] at *); omega))] at hr
    cbv
    exact hR _ _ _ _ _ _ (by simpa [and_assoc] using hr) (Ent.refl _) ⟨rfl, rfl, Nat.zero_lt_succ 0, Nat.le_refl 2, rfl⟩
  have h10 : ¬ P.slen s < (frN s : Int) + 7 := fun g => lt_f hP h (Int.lt_of_lt_of_le g (Int.le_of_eq n7.symm))
  rw [hsp] at h10
  rw [if_neg (by ((try simp only [nc] at *); omega))] at hr
  clear h
  have hlen : frN s + 7 ≤ s.length := by ((try simp only [nc] at *); omega)
  obtain ⟨F1, F2, F3, F4, F5, F6, F7, F8⟩ := fr_factsR hP hlen hn
  have c1 := h1 (P.wrap .i64 (P.sat s 0)) (P.ssub s 3 (P.add 3 (P.add (P.mul 256 (P.wrap .i64 (P.sat s 1))) (P.wrap .i64 (P.sat s 2)))))
  have e1 := huF (P.wrap .i64 (P.sat s 0)) (P.ssub s 3 (P.add 3 (P.add (P.mul 256 (P.wrap .i64 (P.sat s 1))) (P.wrap .i64 (P.sat s 2))))) (by rw [w0]; ((try simp only [nc] at *); omega)) (by rw [w0]; ((try simp only [nc] at *); omega)) (by rw [F8, List.length_drop, List.length_take]; ((try simp only [nc] at *); omega))
  have e2 := frame_take hlen
  replace e1 := e1.trans (show _ = frameL ((s.getD 0 0).toNat : Int) ((s.take (frN s + 3)).drop 3) by rw [w0, F8])
  clear h1 huF h8 h9
  cbv
  repeat' (first
    | (refine And.intro (by assumption) ?_; try cbv)
    | (intro β; try cbv))
  refine c1 _ _ ?_
  cbv
  repeat' (first
    | (refine And.intro (by assumption) ?_; try cbv)
    | (intro β; try cbv))
  refine br_cases (fun h => ?_) (fun h => ?_)
  · rw [if_pos (fun x => sne_t hP h ((e1.trans (e2.2 x)).trans F7.symm))] at hr
    cbv
    exact hR _ _ _ _ _ _ (by simpa [and_assoc] using hr) (Ent.refl _) ⟨rfl, rfl, Nat.zero_lt_succ 0, Nat.le_refl 2, rfl⟩
  · rw [if_neg (fun x => x (e2.1 ((e1.symm.trans (sne_f hP h)).trans F7))), ← F8] at hr
    simp only [Prod.mk.injEq, Frame.mk.injEq] at hr
    cbv
    repeat' (first
      | (refine And.intro (by assumption) ?_; try cbv)
      | (intro β; try cbv))
    exact hR _ _ _ _ _ _ ⟨w0.trans hr.1.1, hr.1.2, n7.trans hr.2.1, hr.2.2⟩ (Ent.refl _) ⟨rfl, rfl, Nat.zero_lt_succ 0, Nat.le_refl 2, rfl⟩
theorem sp_unfr (s : List UInt8) (hs : s.length ≤ maxLen) : Spec Try.prog 102 [.str s] Hp.emp (Is (.tup [.agg (encFrame (getFr s).1), .int .i64 (getFr s).2.1, .int .i64 (getFr s).2.2])) :=
  spec_pure dOk ok_unfr [.agg (encFrame (getFr s).1), .int .i64 (getFr s).2.1, .int .i64 (getFr s).2.2] (.tup _ (by simp [encFrame]; exact ⟨.agg _ (by simp; exact ⟨.int _ _, .str _⟩), .int _ _, .int _ _⟩)) fun R hR => vc_unfr std rfl _ _ s hs (fun k b => (putFr k b).1) (fun k b => (putFr k b).2)
    (fun k b => ansW (sp_rframe ⟨k, b⟩) (fun h => .cons (.same _) .nil) rfl) (fun k b h1 h2 h3 => by unfold putFr; rw [if_neg (by omega), if_neg (by omega)]) _ _ _ _ rfl R
    fun s0 s' k b n e h he hr => by obtain ⟨rfl, rfl, rfl, rfl⟩ := h; exact hR s0 s' he hr
/-! the law -/
end Go.Proofs.Ytobngncjflogcaa.AM
