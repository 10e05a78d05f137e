/-
  Texts of the plain machine, put together: what the law ShopOpens reaches.
-/
import Derived.Test.YtobngncjflogcaaShopOpens8
import Derived.Test.YtobngncjflogcaaShopOpens5
import Derived.Test.YtobngncjflogcaaShopOpens4
import Derived.Test.YtobngncjflogcaaShopOpens7
set_option linter.unusedVariables false
set_option linter.unusedSimpArgs false
namespace Go.Proofs.Ytobngncjflogcaa.AM
open Go Go.RowKit
set_option maxRecDepth 100000
set_option maxHeartbeats 2000000
def by8 (n : Int) : UInt8 := UInt8.ofNat (n % 256).toNat
theorem by8_wrap (n : Int) : IntKind.u8.wrap n = ((by8 n).toNat : Int) := by
  have h1 : IntKind.u8.wrap n = n % 256 := rfl
  rw [h1, by8, UInt8.toNat_ofNat']
  omega
theorem by8_mod (n : Int) : by8 (n % 256) = by8 n := by unfold by8; rw [Int.emod_emod_of_dvd n (Int.dvd_refl 256)]
theorem by8_nat (b : UInt8) : by8 ((b.toNat : Nat) : Int) = b := by
  have := b.toNat_lt
  apply UInt8.toNat.inj
  rw [by8, UInt8.toNat_ofNat']
  omega
theorem by8_hi (b c : UInt8) : by8 ((256 * ((b.toNat : Nat) : Int) + ((c.toNat : Nat) : Int)) / 256) = b := by
  have h := b.toNat_lt
  have := c.toNat_lt
  rw [show (256 * ((b.toNat : Nat) : Int) + ((c.toNat : Nat) : Int)) / 256 = ((b.toNat : Nat) : Int) by omega]
  exact by8_nat b
theorem by8_lo (b c : UInt8) : by8 (256 * ((b.toNat : Nat) : Int) + ((c.toNat : Nat) : Int)) = c := by
  have h := b.toNat_lt
  have := c.toNat_lt
  rw [← by8_mod, show (256 * ((b.toNat : Nat) : Int) + ((c.toNat : Nat) : Int)) % 256 = ((c.toNat : Nat) : Int) by omega]
  exact by8_nat c
def fourL (c : Int) : List UInt8 := [by8 c, by8 (c / 256), by8 (c / 65536), by8 (c / 16777216)]
section
variable {P : Prim} (hP : P = std)
include hP
theorem bstr3 (a b c : Int) : P.bstr [[.int .u8 (P.wrap .u8 a)], [.int .u8 (P.wrap .u8 b)], [.int .u8 (P.wrap .u8 c)]] [by8 a, by8 b, by8 c] := by
  subst hP
  simp [std, by8_wrap]
theorem bstr4 (a b c d : Int) : P.bstr [[.int .u8 (P.wrap .u8 a)], [.int .u8 (P.wrap .u8 b)], [.int .u8 (P.wrap .u8 c)], [.int .u8 (P.wrap .u8 d)]] [by8 a, by8 b, by8 c, by8 d] := by
  subst hP
  simp [std, by8_wrap]
theorem neP_of (rows : List (List V)) (n : Nat) (h : rows.length = n) : P.neP rows n := by subst hP; exact h
theorem shr8 (c : Int) : P.shr c 8 = c / 256 := by subst hP; rfl
theorem shr16 (c : Int) : P.shr c 16 = c / 65536 := by subst hP; rfl
theorem shr24 (c : Int) : P.shr c 24 = c / 16777216 := by subst hP; rfl
theorem bits32 : P.bits .u32 = 32 := by subst hP; rfl
theorem sapp_eq (a b : List UInt8) : P.sapp a b = a ++ b := by subst hP; rfl
theorem w64 {n : Int} (h : 0 ≤ n ∧ n ≤ 255) : P.wrap .i64 n = n := by
  subst hP
  show IntKind.i64.wrap n = n
  exact wrap_id (by have : IntKind.i64.min = -9223372036854775808 := rfl
                    omega) (by have : IntKind.i64.max = 9223372036854775807 := rfl
                               omega)
theorem shl8 (c : Int) : P.shl c 8 = c * 256 := by subst hP; rfl
theorem bor8 (b c : UInt8) : P.bor .i64 (((b.toNat : Nat) : Int) * 256) ((c.toNat : Nat) : Int) = 256 * ((b.toNat : Nat) : Int) + ((c.toNat : Nat) : Int) := by
  subst hP
  have h1 := b.toNat_lt
  have h2 := c.toNat_lt
  show IntKind.i64.wrap (((BitVec.ofInt 64 (((b.toNat : Nat) : Int) * 256) ||| BitVec.ofInt 64 ((c.toNat : Nat) : Int)).toNat : Nat) : Int) = _
  have e1 : BitVec.ofInt 64 (((b.toNat : Nat) : Int) * 256) = BitVec.ofNat 64 (b.toNat * 256) := by
    rw [show ((b.toNat : Nat) : Int) * 256 = ((b.toNat * 256 : Nat) : Int) by push_cast; rfl]; exact BitVec.ofInt_natCast 64 _
  have e2 : BitVec.ofInt 64 ((c.toNat : Nat) : Int) = BitVec.ofNat 64 c.toNat := BitVec.ofInt_natCast 64 _
  rw [e1, e2, BitVec.toNat_or, BitVec.toNat_ofNat, BitVec.toNat_ofNat, Nat.mod_eq_of_lt (by omega), Nat.mod_eq_of_lt (by omega)]
  have e3 : b.toNat * 256 ||| c.toNat = b.toNat * 256 + c.toNat := by
    have := Nat.shiftLeft_add_eq_or_of_lt (i := 8) (b := c.toNat) (by omega) b.toNat
    rw [Nat.shiftLeft_eq] at this
    exact this.symm
  rw [e3, wrap_id (by have : IntKind.i64.min = -9223372036854775808 := rfl
                      omega) (by have : IntKind.i64.max = 9223372036854775807 := rfl
                                 omega)]
  omega
theorem four_b (c : Int) : P.bstr [[.int .u8 (P.wrap .u8 c)], [.int .u8 (P.wrap .u8 (P.shr c 8))], [.int .u8 (P.wrap .u8 (P.shr c 16))], [.int .u8 (P.wrap .u8 (P.shr c 24))]] (fourL c) := by
  have h := bstr4 hP c (P.shr c 8) (P.shr c 16) (P.shr c 24)
  have e : [by8 c, by8 (P.shr c 8), by8 (P.shr c 16), by8 (P.shr c 24)] = fourL c := by rw [shr8 hP, shr16 hP, shr24 hP]; rfl
  rwa [e] at h
end
theorem sp_crc (s : List UInt8) (hs : s.length ≤ maxLen) : Spec Try.prog 116 [.str s] Hp.emp (Is (.int .u32 (crcNat s))) :=
  spec_of_calls (us0 := #[.string ⟨s.toArray⟩]) ⟨Try.f116, Try.func116, by decide +kernel, Option.isSome_iff_exists.1 (by decide +kernel)⟩
    (fun F B w us hl hr => us_one (f := fun _ => True) hl hr fun u h => rel_str h) (u0 := .int .u32 (crcNat s)) (fun F B w => .int _ _)
    (fun w => by simpa using crcOf_any ⟨s.toArray⟩ w (by simpa [ByteArray.size] using hs))
theorem sp_rcrc (s : List UInt8) (hs : s.length ≤ maxLen) : Spec Try.prog 128 [.str s] Hp.emp (Is (.int .u32 (crcNat s))) :=
  spec_of_calls (us0 := #[.string ⟨s.toArray⟩]) ⟨Try.f128, Try.func128, by decide +kernel, Option.isSome_iff_exists.1 (by decide +kernel)⟩
    (fun F B w us hl hr => us_one (f := fun _ => True) hl hr fun u h => rel_str h) (u0 := .int .u32 (crcNat s)) (fun F B w => .int _ _)
    (fun w => by
      refine (refCrc_any ⟨s.toArray⟩ w (by simpa [ByteArray.size] using hs)).mono ?_
      rintro e w' ⟨rfl, rfl⟩
      exact ⟨by simp, below_rfl _⟩)
def headL (k : Int) (b : List UInt8) : List UInt8 := [by8 k, by8 ((b.length : Int) / 256), by8 (b.length : Int)] ++ b
def frameL (k : Int) (b : List UInt8) : List UInt8 := headL k b ++ fourL (crcNat (headL k b))
def putFr (k : Int) (b : List UInt8) : List UInt8 × Int := if k < 1 ∨ 255 < k then ([], 1) else if 4000 < b.length then ([], 2) else (frameL k b, 0)
def frN (s : List UInt8) : Nat := 256 * (s.getD 1 0).toNat + (s.getD 2 0).toNat
def getFr (s : List UInt8) : Frame × Int × Int := if s.length < 7 then (⟨0, []⟩, 0, 5)
  else if (s.getD 0 0).toNat = 0 ∨ 4000 < frN s then (⟨0, []⟩, 0, 3)
  else if s.length < frN s + 7 then (⟨0, []⟩, 0, 5)
  else if (s.take (frN s + 7)).drop (frN s + 3) ≠ fourL (crcNat (s.take (frN s + 3))) then (⟨0, []⟩, 0, 6)
  else (⟨(s.getD 0 0).toNat, (s.take (frN s + 3)).drop 3⟩, (frN s : Int) + 7, 0)
def ac_four : AC := .seq (.region false [
    ⟨some 2, none, .mov (.c (.string ⟨#[]⟩))⟩])
  (.seq (.region false [
    ⟨some 3, none, .mov (.t 0)⟩,
    ⟨some 4, none, .conv .u8 (.t 3)⟩,
    ⟨some 5, none, .mov (.t 0)⟩,
    ⟨some 6, none, .bin .shr (.t 5) (.c (.int .u64 8))⟩,
    ⟨some 7, none, .conv .u8 (.t 6)⟩,
    ⟨some 8, none, .mov (.t 0)⟩,
    ⟨some 9, none, .bin .shr (.t 8) (.c (.int .u64 16))⟩,
    ⟨some 10, none, .conv .u8 (.t 9)⟩,
    ⟨some 11, none, .mov (.t 0)⟩,
    ⟨some 12, none, .bin .shr (.t 11) (.c (.int .u64 24))⟩,
    ⟨some 13, none, .conv .u8 (.t 12)⟩,
    ⟨some 14, none, .bslice 5 1 [(.t 4), (.t 7), (.t 10), (.t 13)]⟩,
    ⟨some 15, none, .convbs (.t 14)⟩,
    ⟨some 2, none, .mov (.t 15)⟩])
  (.ret))
theorem ok_four : FnOk Try.prog 115 Try.f115 ac_four [.t 2] 1 drawD := ⟨Try.func115, by decide +kernel, by kernel_rfl, by kernel_rfl, by decide +kernel⟩
theorem vc_four (P : Prim) (hP : P = std) (T T1 : CallT) (c : Int)
    (R : S → Prop) (hR : ∀ s0 s' x, x = fourL c → Ent s0 s' → Ret [.t 2] [.str x] s' → R s0) : awp P T T1 ac_four (S0 [.int .u32 c] Hp.emp) R (fun _ _ => False) R := by
  have a1 : P.leP 0 8 := le0 hP (by decide)
  have a2 : P.leP 0 16 := le0 hP (by decide)
  have a3 : P.leP 0 24 := le0 hP (by decide)
  have b1 : P.ltP 8 (P.bits .u32) := ltI hP (by rw [bits32 hP]; decide)
  have b2 : P.ltP 16 (P.bits .u32) := ltI hP (by rw [bits32 hP]; decide)
  have b3 : P.ltP 24 (P.bits .u32) := ltI hP (by rw [bits32 hP]; decide)
  have f1 := four_b hP c
  generalize fourL c = L at f1 hR
  cbv
  repeat' (first
    | (refine And.intro (by assumption) ?_; try cbv)
    | (intro β; try cbv))
  refine ⟨neP_of hP _ _ rfl, _, f1, ?_⟩
  cbv
  exact hR _ _ _ rfl (Ent.refl _) rfl
theorem sp_four (c : Int) : Spec Try.prog 115 [.int .u32 c] Hp.emp (Is (.str (fourL c))) :=
  spec_pure dOk ok_four [.str (fourL c)] (.str _) fun R hR => vc_four std rfl _ _ c R fun s s' x h he hr => by subst h; exact hR s s' he hr
def ac_rframe : AC := .seq (.region false [
    ⟨some 1, none, .box 139 2 (.t 0)⟩,
    ⟨some 2, none, .mov (.c (.string ⟨#[]⟩))⟩,
    ⟨some 3, none, .mov (.c (.int .i64 0))⟩])
  (.seq (.seq (.region false [
    ⟨some 7, none, .faddr 0 (.t 1)⟩,
    ⟨some 8, none, .load1 (.t 7)⟩,
    ⟨some 9, none, .bin .lss (.t 8) (.c (.int .i64 1))⟩,
    ⟨some 10, none, .mov (.t 9)⟩,
    ⟨some 11, some (10, false), .faddr 0 (.t 1)⟩,
    ⟨some 12, some (10, false), .load1 (.t 11)⟩,
    ⟨some 13, some (10, false), .bin .gtr (.t 12) (.c (.int .i64 255))⟩,
    ⟨some 14, none, .pick (.t 10) (.c (.bool true)) (.t 13)⟩])
  (.cond (.t 14)
    (.seq (.region false [
      ⟨some 2, none, .mov (.c (.string ⟨#[]⟩))⟩,
      ⟨some 3, none, .mov (.c (.int .i64 1))⟩])
    (.ret))
    (.skip)))
  (.seq (.seq (.region false [
    ⟨some 15, none, .faddr 1 (.t 1)⟩,
    ⟨some 16, none, .load1 (.t 15)⟩,
    ⟨some 17, none, .len true (.t 16)⟩,
    ⟨some 18, none, .bin .gtr (.t 17) (.c (.int .i64 4000))⟩])
  (.cond (.t 18)
    (.seq (.region false [
      ⟨some 2, none, .mov (.c (.string ⟨#[]⟩))⟩,
      ⟨some 3, none, .mov (.c (.int .i64 2))⟩])
    (.ret))
    (.skip)))
  (.seq (.region false [
    ⟨some 19, none, .faddr 1 (.t 1)⟩,
    ⟨some 20, none, .load1 (.t 19)⟩,
    ⟨some 21, none, .len true (.t 20)⟩,
    ⟨some 4, none, .mov (.t 21)⟩])
  (.seq (.region false [
    ⟨some 22, none, .faddr 0 (.t 1)⟩,
    ⟨some 23, none, .load1 (.t 22)⟩,
    ⟨some 24, none, .conv .u8 (.t 23)⟩,
    ⟨some 25, none, .mov (.t 4)⟩,
    ⟨some 26, none, .bin .quo (.t 25) (.c (.int .i64 256))⟩,
    ⟨some 27, none, .conv .u8 (.t 26)⟩,
    ⟨some 28, none, .mov (.t 4)⟩,
    ⟨some 29, none, .bin .rem (.t 28) (.c (.int .i64 256))⟩,
    ⟨some 30, none, .conv .u8 (.t 29)⟩,
    ⟨some 31, none, .bslice 5 1 [(.t 24), (.t 27), (.t 30)]⟩,
    ⟨some 32, none, .convbs (.t 31)⟩,
    ⟨some 33, none, .faddr 1 (.t 1)⟩,
    ⟨some 34, none, .load1 (.t 33)⟩,
    ⟨some 35, none, .bin .add (.t 32) (.t 34)⟩,
    ⟨some 5, none, .mov (.t 35)⟩])
  (.seq (.region false [
    ⟨some 36, none, .mov (.t 5)⟩,
    ⟨some 37, none, .call 128 [(.t 36)]⟩,
    ⟨some 6, none, .mov (.t 37)⟩])
  (.seq (.region false [
    ⟨some 38, none, .mov (.t 5)⟩,
    ⟨some 39, none, .mov (.t 6)⟩,
    ⟨some 40, none, .conv .u8 (.t 39)⟩,
    ⟨some 41, none, .mov (.t 6)⟩,
    ⟨some 42, none, .bin .shr (.t 41) (.c (.int .u64 8))⟩,
    ⟨some 43, none, .conv .u8 (.t 42)⟩,
    ⟨some 44, none, .mov (.t 6)⟩,
    ⟨some 45, none, .bin .shr (.t 44) (.c (.int .u64 16))⟩,
    ⟨some 46, none, .conv .u8 (.t 45)⟩,
    ⟨some 47, none, .mov (.t 6)⟩,
    ⟨some 48, none, .bin .shr (.t 47) (.c (.int .u64 24))⟩,
    ⟨some 49, none, .conv .u8 (.t 48)⟩,
    ⟨some 50, none, .bslice 5 1 [(.t 40), (.t 43), (.t 46), (.t 49)]⟩,
    ⟨some 51, none, .convbs (.t 50)⟩,
    ⟨some 52, none, .bin .add (.t 38) (.t 51)⟩,
    ⟨some 2, none, .mov (.t 52)⟩,
    ⟨some 3, none, .mov (.c (.int .i64 0))⟩])
  (.ret)))))))
theorem ok_rframe : FnOk Try.prog 121 Try.f121 ac_rframe [.t 2, .t 3] 1 drawD := ⟨Try.func121, by decide +kernel, by kernel_rfl, by kernel_rfl, by decide +kernel⟩
theorem vc_rframe (P : Prim) (hP : P = std) (T T1 : CallT) (k : Int) (b : List UInt8) (cF : List UInt8 → Int) (h1 : ∀ s, s.length ≤ 5000 → Ans T 128 [.str s] (.int .u32 (cF s)))
    (r : List UInt8) (e : Int)
    (hr : (if k < 1 ∨ 255 < k then ([], 1) else if 4000 < b.length then ([], 2) else (headL k b ++ fourL (cF (headL k b)), 0)) = (r, e))
    (R : S → Prop) (hR : ∀ s0 s' x y, x = r ∧ y = e → Ent s0 s' → Ret [.t 2, .t 3] [.str x, .int .i64 y] s' → R s0) : awp P T T1 ac_rframe (S0 [.agg [.int .i64 k, .str b]] Hp.emp) R (fun _ _ => False) R := by
  have hsp : P.slen b = (b.length : Int) := slen_eq hP b
  have bad : k < 1 ∨ 255 < k → [] = r ∧ 1 = e := fun h => by rw [if_pos h] at hr; simpa using hr
  cbv
  intro β
  cbv
  refine br_cases (fun h => ?_) (fun h => ?_)
  · have h6 : k < 1 := lt_t hP h
    cbv
    exact hR _ _ _ _ (bad (.inl h6)) (Ent.refl _) rfl
  have h6 : ¬ k < 1 := lt_f hP h
  cbv
  refine br_cases (fun h => ?_) (fun h => ?_)
  · have h7 : 255 < k := lt_t hP h
    cbv
    exact hR _ _ _ _ (bad (.inr h7)) (Ent.refl _) rfl
  have h7 : ¬ 255 < k := lt_f hP h
  rw [if_neg (by ((try simp only [nc] at *); omega))] at hr
  cbv
  refine br_cases (fun h => ?_) (fun h => ?_)
  · have h8 : 4000 < P.slen b := lt_t hP h
    rw [hsp] at h8
    rw [if_pos (by ((try simp only [nc] at *); omega))] at hr
    cbv
    exact hR _ _ _ _ (by simpa using hr) (Ent.refl _) rfl
  have h8 : ¬ 4000 < P.slen b := lt_f hP h
  rw [hsp] at h8
  rw [if_neg (by ((try simp only [nc] at *); omega))] at hr
  simp only [Prod.mk.injEq] at hr
  have z0 : P.leP 0 (P.slen b) := le0 hP (by rw [hsp]; ((try simp only [nc] at *); omega))
  have z1 : P.ltP 0 256 := ltI hP (by decide)
  have z2 : P.div (P.slen b) 256 = (b.length : Int) / 256 := by rw [hsp]; subst hP; rfl
  have z3 : P.mod (P.slen b) 256 = (b.length : Int) % 256 := by rw [hsp]; subst hP; rfl
  have z4 : P.i64 (P.div (P.slen b) 256) := by rw [z2]; exact i64I hP (by ((try simp only [nc] at *); omega))
  have f1 := bstr3 hP k (P.div (P.slen b) 256) (P.mod (P.slen b) 256)
  have hd : P.sapp [by8 k, by8 (P.div (P.slen b) 256), by8 (P.mod (P.slen b) 256)] b = headL k b := by rw [z2, z3, by8_mod, sapp_eq hP]; rfl
  have i1 : P.i64 (P.add (P.slen [by8 k, by8 (P.div (P.slen b) 256), by8 (P.mod (P.slen b) 256)]) (P.slen b)) := by
    rw [add_eq hP, hsp, slen_eq hP]; exact i64I hP (by simp only [List.length_cons, List.length_nil]; ((try simp only [nc] at *); omega))
  generalize [by8 k, by8 (P.div (P.slen b) 256), by8 (P.mod (P.slen b) 256)] = L at f1 hd i1
  have hl : (headL k b).length = b.length + 3 := by simp [headL]
  have c1 := h1 (headL k b) (by ((try simp only [nc] at *); omega))
  rw [← hd] at c1 hr hl
  clear h1
  generalize cF (P.sapp L b) = c at c1 hr
  have a1 : P.leP 0 8 := le0 hP (by decide)
  have a2 : P.leP 0 16 := le0 hP (by decide)
  have a3 : P.leP 0 24 := le0 hP (by decide)
  have b1 : P.ltP 8 (P.bits .u32) := ltI hP (by rw [bits32 hP]; decide)
  have b2 : P.ltP 16 (P.bits .u32) := ltI hP (by rw [bits32 hP]; decide)
  have b3 : P.ltP 24 (P.bits .u32) := ltI hP (by rw [bits32 hP]; decide)
  have f2 := four_b hP c
  have i2 : P.i64 (P.add (P.slen (P.sapp L b)) (P.slen (fourL c))) := by
    rw [add_eq hP, slen_eq hP, slen_eq hP, hl]; exact i64I hP (by simp only [fourL, List.length_cons, List.length_nil]; ((try simp only [nc] at *); omega))
  have e1 : P.sapp (P.sapp L b) (fourL c) = P.sapp L b ++ fourL c := sapp_eq hP _ _
  rw [← e1] at hr
  generalize fourL c = M at f2 i2 hr
  clear e1
  cbv
  repeat' (first
    | (refine And.intro (by assumption) ?_; try cbv)
    | (intro β; try cbv))
  refine ⟨neP_of hP _ _ rfl, _, f1, ?_⟩
  cbv
  refine ⟨i1, ?_⟩
  cbv
  refine c1 _ _ ?_
  cbv
  repeat' (first
    | (refine And.intro (by assumption) ?_; try cbv)
    | (intro β; try cbv))
  refine ⟨neP_of hP _ _ rfl, _, f2, ?_⟩
  cbv
  refine ⟨i2, ?_⟩
  cbv
  exact hR _ _ _ _ hr (Ent.refl _) rfl
theorem sp_rframe (f : Frame) : Spec Try.prog 121 [.agg (encFrame f)] Hp.emp (Is (.tup [.str (putFr f.kind f.body).1, .int .i64 (putFr f.kind f.body).2])) :=
  spec_pure dOk ok_rframe [.str (putFr f.kind f.body).1, .int .i64 (putFr f.kind f.body).2] (.tup _ (by simp; exact ⟨.str _, .int _ _⟩)) fun R hR => vc_rframe std rfl _ _ f.kind f.body (fun s => crcNat s)
    (fun s hs => ansSame (sp_rcrc s (by have : maxLen = 9223372036854775807 := by decide
                                        ((try simp only [nc] at *); omega))) rfl rfl) _ _ rfl R fun s0 s' x y h he hr => by obtain ⟨rfl, rfl⟩ := h; exact hR s0 s' he hr
theorem head_take {s : List UInt8} (h : frN s + 7 ≤ s.length) : headL ((s.getD 0 0).toNat : Int) ((s.take (frN s + 3)).drop 3) = s.take (frN s + 3) := by
  match s, h with
  | [], h => simp at h
  | [_], h => simp at h
  | [_, _], h => simp at h
  | a :: b :: c :: t, h =>
    have hb : ((((a :: b :: c :: t).take (frN (a :: b :: c :: t) + 3)).drop 3).length : Int) = 256 * ((b.toNat : Nat) : Int) + ((c.toNat : Nat) : Int) := by
      rw [List.length_drop, List.length_take]
      have : frN (a :: b :: c :: t) = 256 * b.toNat + c.toNat := rfl
      omega
    unfold headL
    rw [hb, by8_hi, by8_lo]
    show [by8 ((a.toNat : Nat) : Int), b, c] ++ _ = _
    rw [by8_nat]
    generalize frN (a :: b :: c :: t) = m
    rfl
theorem take_split (s : List UInt8) (n : Nat) (h : n + 7 ≤ s.length) : s.take (n + 7) = s.take (n + 3) ++ (s.take (n + 7)).drop (n + 3) := by
  have := List.take_append_drop (n + 3) (s.take (n + 7))
  rw [List.take_take, Nat.min_eq_left (by omega)] at this
  exact this.symm
theorem frame_take {s : List UInt8} (h : frN s + 7 ≤ s.length) : frameL ((s.getD 0 0).toNat : Int) ((s.take (frN s + 3)).drop 3) = s.take (frN s + 7) ↔ (s.take (frN s + 7)).drop (frN s + 3) = fourL (crcNat (s.take (frN s + 3))) := by
  unfold frameL
  rw [head_take h]
  constructor
  · intro g
    rw [← g]
    exact (List.drop_left' (by rw [List.length_take]; omega))
  · intro g
    rw [← g]
    exact (take_split s _ h).symm
theorem fr_facts {P : Prim} (hP : P = std) {s : List UInt8} {nn : Int} (h : frN s + 7 ≤ s.length) (hn : nn = (frN s : Int)) :
    P.leP 0 (P.add nn 3) ∧ P.leP (P.add nn 3) (P.add nn 7) ∧ P.leP (P.add nn 7) (P.slen s) ∧ P.leP (P.add nn 3) (P.slen s) ∧ P.leP 3 (P.add nn 3) ∧ P.leP 0 3 ∧ P.leP 0 0
    ∧ P.ssub s (P.add nn 3) (P.add nn 7) = (s.take (frN s + 7)).drop (frN s + 3) ∧ P.ssub s 0 (P.add nn 3) = s.take (frN s + 3) ∧ P.ssub s 3 (P.add nn 3) = (s.take (frN s + 3)).drop 3 := by
  have n3 : P.add nn 3 = ((frN s + 3 : Nat) : Int) := by rw [add_eq hP, hn]; rfl
  have n7 : P.add nn 7 = ((frN s + 7 : Nat) : Int) := by rw [add_eq hP, hn]; rfl
  rw [n3, n7]
  generalize frN s = N at h
  have hsp : P.slen s = (s.length : Int) := slen_eq hP s
  refine ⟨le0 hP (by omega), leI hP (by omega), leI hP (by rw [hsp]; omega), leI hP (by rw [hsp]; omega), leI hP (by omega), le0 hP (by decide), le0 hP (by decide), ?_, ?_, ?_⟩
  · subst hP; rfl
  · subst hP; rfl
  · subst hP; rfl
def ac_fget : AC := .seq (.region false [
    ⟨some 2, none, .alloc 139 [(.int .i64 0), (.string ⟨#[]⟩)]⟩,
    ⟨some 3, none, .mov (.c (.int .i64 0))⟩,
    ⟨some 4, none, .mov (.c (.int .i64 0))⟩])
  (.seq (.seq (.region false [
    ⟨some 6, none, .mov (.t 0)⟩,
    ⟨some 7, none, .len true (.t 6)⟩,
    ⟨some 8, none, .bin .lss (.t 7) (.c (.int .i64 7))⟩])
  (.cond (.t 8)
    (.seq (.region false [
      ⟨some 9, none, .build [(.int .i64 0), (.string ⟨#[]⟩)] []⟩,
      ⟨none, none, .store 2 (.t 2) (.t 9)⟩,
      ⟨some 3, none, .mov (.c (.int .i64 0))⟩,
      ⟨some 4, none, .mov (.c (.int .i64 5))⟩])
    (.ret))
    (.skip)))
  (.seq (.region true [
    ⟨some 10, none, .mov (.t 0)⟩,
    ⟨some 11, none, .ixs (.t 10) (.c (.int .i64 1))⟩,
    ⟨some 12, none, .conv .i64 (.t 11)⟩,
    ⟨some 13, none, .bin .shl (.t 12) (.c (.int .u64 8))⟩,
    ⟨some 14, none, .mov (.t 0)⟩,
    ⟨some 15, none, .ixs (.t 14) (.c (.int .i64 2))⟩,
    ⟨some 16, none, .conv .i64 (.t 15)⟩,
    ⟨some 17, none, .bin .or (.t 13) (.t 16)⟩,
    ⟨some 5, none, .mov (.t 17)⟩])
  (.seq (.seq (.region false [
    ⟨some 18, none, .mov (.t 0)⟩,
    ⟨some 19, none, .ixs (.t 18) (.c (.int .i64 0))⟩,
    ⟨some 20, none, .bin .eql (.t 19) (.c (.int .u8 0))⟩,
    ⟨some 21, none, .mov (.t 20)⟩,
    ⟨some 22, some (21, false), .mov (.t 5)⟩,
    ⟨some 23, some (21, false), .bin .gtr (.t 22) (.c (.int .i64 4000))⟩,
    ⟨some 24, none, .pick (.t 21) (.c (.bool true)) (.t 23)⟩])
  (.cond (.t 24)
    (.seq (.region false [
      ⟨some 25, none, .build [(.int .i64 0), (.string ⟨#[]⟩)] []⟩,
      ⟨none, none, .store 2 (.t 2) (.t 25)⟩,
      ⟨some 3, none, .mov (.c (.int .i64 0))⟩,
      ⟨some 4, none, .mov (.c (.int .i64 3))⟩])
    (.ret))
    (.skip)))
  (.seq (.seq (.region false [
    ⟨some 26, none, .mov (.t 0)⟩,
    ⟨some 27, none, .len true (.t 26)⟩,
    ⟨some 28, none, .mov (.t 5)⟩,
    ⟨some 29, none, .bin .add (.t 28) (.c (.int .i64 7))⟩,
    ⟨some 30, none, .bin .lss (.t 27) (.t 29)⟩])
  (.cond (.t 30)
    (.seq (.region false [
      ⟨some 31, none, .build [(.int .i64 0), (.string ⟨#[]⟩)] []⟩,
      ⟨none, none, .store 2 (.t 2) (.t 31)⟩,
      ⟨some 3, none, .mov (.c (.int .i64 0))⟩,
      ⟨some 4, none, .mov (.c (.int .i64 5))⟩])
    (.ret))
    (.skip)))
  (.seq (.seq (.region true [
    ⟨some 32, none, .mov (.t 0)⟩,
    ⟨some 33, none, .mov (.t 5)⟩,
    ⟨some 34, none, .bin .add (.t 33) (.c (.int .i64 3))⟩,
    ⟨some 35, none, .mov (.t 5)⟩,
    ⟨some 36, none, .bin .add (.t 35) (.c (.int .i64 7))⟩,
    ⟨some 37, none, .slstr (.t 32) (some (.t 34)) (some (.t 36))⟩,
    ⟨some 38, none, .mov (.t 0)⟩,
    ⟨some 39, none, .mov (.t 5)⟩,
    ⟨some 40, none, .bin .add (.t 39) (.c (.int .i64 3))⟩,
    ⟨some 41, none, .slstr (.t 38) none (some (.t 40))⟩,
    ⟨some 42, none, .call 116 [(.t 41)]⟩,
    ⟨some 43, none, .call 115 [(.t 42)]⟩,
    ⟨some 44, none, .bin .neq (.t 37) (.t 43)⟩])
  (.cond (.t 44)
    (.seq (.region false [
      ⟨some 45, none, .build [(.int .i64 0), (.string ⟨#[]⟩)] []⟩,
      ⟨none, none, .store 2 (.t 2) (.t 45)⟩,
      ⟨some 3, none, .mov (.c (.int .i64 0))⟩,
      ⟨some 4, none, .mov (.c (.int .i64 6))⟩])
    (.ret))
    (.skip)))
  (.seq (.region true [
    ⟨some 46, none, .mov (.t 0)⟩,
    ⟨some 47, none, .ixs (.t 46) (.c (.int .i64 0))⟩,
    ⟨some 48, none, .conv .i64 (.t 47)⟩,
    ⟨some 49, none, .mov (.t 0)⟩,
    ⟨some 50, none, .mov (.t 5)⟩,
    ⟨some 51, none, .bin .add (.t 50) (.c (.int .i64 3))⟩,
    ⟨some 52, none, .slstr (.t 49) (some (.c (.int .i64 3))) (some (.t 51))⟩,
    ⟨some 53, none, .build [(.int .i64 0), (.string ⟨#[]⟩)] [(0, 1, (.t 48)), (1, 1, (.t 52))]⟩,
    ⟨some 54, none, .mov (.t 5)⟩,
    ⟨some 55, none, .bin .add (.t 54) (.c (.int .i64 7))⟩,
    ⟨none, none, .store 2 (.t 2) (.t 53)⟩,
    ⟨some 3, none, .mov (.t 55)⟩,
    ⟨some 4, none, .mov (.c (.int .i64 0))⟩])
  (.ret)))))))
theorem ok_fget : FnOk Try.prog 98 Try.f98 ac_fget [.cn 2 2, .t 3, .t 4] 1 drawD := ⟨Try.func98, by decide +kernel, by kernel_rfl, by kernel_rfl, by decide +kernel⟩
theorem vc_fget (P : Prim) (hP : P = std) (T T1 : CallT) (s : List UInt8) (hs : s.length ≤ maxLen) (cF : List UInt8 → Int) (h1 : ∀ s, s.length ≤ 5000 → Ans T1 116 [.str s] (.int .u32 (cF s)))
    (hcF : ∀ s, cF s = crcNat s) (fF : Int → List UInt8) (hfF : ∀ c, fF c = fourL c) (h2 : ∀ c, Ans T1 115 [.int .u32 c] (.str (fF c))) (rk : Int) (rb : List UInt8) (rn re : Int) (hr : getFr s = (⟨rk, rb⟩, rn, re))
    (R : S → Prop) (hR : ∀ s0 s' k b n e, (k = rk ∧ b = rb ∧ n = rn ∧ e = re) → Ent s0 s' → Ret [.cn 2 2, .t 3, .t 4] [.agg [.int .i64 k, .str b], .int .i64 n, .int .i64 e] s' → R s0) : awp P T T1 ac_fget (S0 [.str s] Hp.emp) R (fun _ _ => False) R := by
  have hml : maxLen = 9223372036854775807 := by decide
  have hsp : P.slen s = (s.length : Int) := slen_eq hP s
  have q0 : P.sat s 0 = ((s.getD 0 0).toNat : Int) := by subst hP; rfl
  have q1 : P.sat s 1 = ((s.getD 1 0).toNat : Int) := by subst hP; rfl
  have q2 : P.sat s 2 = ((s.getD 2 0).toNat : Int) := by subst hP; rfl
  have u0 := (s.getD 0 0).toNat_lt
  have u1 := (s.getD 1 0).toNat_lt
  have u2 := (s.getD 2 0).toNat_lt
  have w1 : P.wrap .i64 (P.sat s 1) = ((s.getD 1 0).toNat : Int) := by rw [q1]; exact w64 hP (by ((try simp only [nc] at *); omega))
  have w2 : P.wrap .i64 (P.sat s 2) = ((s.getD 2 0).toNat : Int) := by rw [q2]; exact w64 hP (by ((try simp only [nc] at *); omega))
  have w0 : P.wrap .i64 (P.sat s 0) = ((s.getD 0 0).toNat : Int) := by rw [q0]; exact w64 hP (by ((try simp only [nc] at *); omega))
  unfold getFr at hr
  cbv
  intro β
  cbv
  refine br_cases (fun h => ?_) (fun h => ?_)
  · have h7 : P.slen s < 7 := lt_t hP h
    rw [hsp] at h7
    rw [if_pos (by ((try simp only [nc] at *); omega))] at hr
    cbv
    exact hR _ _ _ _ _ _ (by simpa [and_assoc] using hr) (Ent.refl _) ⟨rfl, rfl, Nat.zero_lt_succ 0, Nat.le_refl 2, rfl⟩
  have h7 : ¬ P.slen s < 7 := lt_f hP h
  rw [hsp] at h7
  rw [if_neg (by ((try simp only [nc] at *); omega))] at hr
  have a0 : P.leP 0 0 := le0 hP (by decide)
  have a1 : P.leP 0 1 := le0 hP (by decide)
  have a2 : P.leP 0 2 := le0 hP (by decide)
  have a3 : P.ltP 0 (P.slen s) := ltI hP (by rw [hsp]; ((try simp only [nc] at *); omega))
  have a4 : P.ltP 1 (P.slen s) := ltI hP (by rw [hsp]; ((try simp only [nc] at *); omega))
  have a5 : P.ltP 2 (P.slen s) := ltI hP (by rw [hsp]; ((try simp only [nc] at *); omega))
  have a6 : P.leP 0 8 := le0 hP (by decide)
  have a7 : P.ltP 8 64 := ltI hP (by decide)
  have a8 : P.i64 (P.shl (P.wrap .i64 (P.sat s 1)) 8) := by rw [w1, shl8 hP]; exact i64I hP (by ((try simp only [nc] at *); omega))
  obtain ⟨nn, hnn⟩ : ∃ nn, nn = P.bor .i64 (P.shl (P.wrap .i64 (P.sat s 1)) 8) (P.wrap .i64 (P.sat s 2)) := ⟨_, rfl⟩
  have hn : nn = (frN s : Int) := by rw [hnn, w1, w2, shl8 hP, bor8 hP]; unfold frN; ((try simp only [nc] at *); omega)
  have n3 : P.add nn 3 = (frN s : Int) + 3 := by rw [add_eq hP, hn]
  have n7 : P.add nn 7 = (frN s : Int) + 7 := by rw [add_eq hP, hn]
  have hnb : frN s ≤ 70000 := by unfold frN; omega
  have i3 : P.i64 (P.add nn 3) := by rw [n3]; exact i64I hP (by ((try simp only [nc] at *); omega))
  have i7 : P.i64 (P.add nn 7) := by rw [n7]; exact i64I hP (by ((try simp only [nc] at *); omega))
  rw [hnn] at hn n3 n7 i3 i7
  clear hnn
  cbv
  repeat' (first
    | (refine And.intro (by assumption) ?_; try cbv)
    | (intro β; try cbv))
  have badf : (s.getD 0 0).toNat = 0 ∨ 4000 < frN s → (0 : Int) = rk ∧ ([] : List UInt8) = rb ∧ (0 : Int) = rn ∧ (3 : Int) = re := fun h => by rw [if_pos h] at hr; simpa [and_assoc] using hr
  refine br_cases (fun h => ?_) (fun h => ?_)
  · have h8 : P.sat s 0 = 0 := eq_t hP h
    rw [q0] at h8
    cbv
    exact hR _ _ _ _ _ _ (badf (.inl (by ((try simp only [nc] at *); omega)))) (Ent.refl _) ⟨rfl, rfl, Nat.zero_lt_succ 0, Nat.le_refl 2, rfl⟩
  have h8 : ¬ P.sat s 0 = 0 := eq_f hP h
  rw [q0] at h8
  cbv
  refine br_cases (fun h => ?_) (fun h => ?_)
  · have h9 := Int.lt_of_lt_of_le (lt_t hP h) (Int.le_of_eq hn)
    cbv
    exact hR _ _ _ _ _ _ (badf (.inr (by ((try simp only [nc] at *); omega)))) (Ent.refl _) ⟨rfl, rfl, Nat.zero_lt_succ 0, Nat.le_refl 2, rfl⟩
  have h9 : ¬ (4000 : Int) < (frN s : Int) := fun g => lt_f hP h (Int.lt_of_lt_of_le g (Int.le_of_eq hn.symm))
  clear badf
  rw [if_neg (by ((try simp only [nc] at *); omega))] at hr
  cbv
  refine ⟨i7, ?_⟩
  refine br_cases (fun h => ?_) (fun h => ?_)
  · have h10 : P.slen s < (frN s : Int) + 7 := Int.lt_of_lt_of_le (lt_t hP h) (Int.le_of_eq n7)
    rw [hsp] at h10
    rw [if_pos (by ((try simp only [nc] at *); omega))] at hr
    cbv
    exact hR _ _ _ _ _ _ (by simpa [and_assoc] using hr) (Ent.refl _) ⟨rfl, rfl, Nat.zero_lt_succ 0, Nat.le_refl 2, rfl⟩
  have h10 : ¬ P.slen s < (frN s : Int) + 7 := fun g => lt_f hP h (Int.lt_of_lt_of_le g (Int.le_of_eq n7.symm))
  rw [hsp] at h10
  rw [if_neg (by ((try simp only [nc] at *); omega))] at hr
  clear h h7 h8
  obtain ⟨F1, F2, F3, F4, F5, F6, F7, F8, F9, F10⟩ := fr_facts hP (by ((try simp only [nc] at *); omega)) hn
  rw [← F8, ← F10, ← F9] at hr
  have c1 := h1 (P.ssub s 0 (P.add (P.bor .i64 (P.shl (P.wrap .i64 (P.sat s 1)) 8) (P.wrap .i64 (P.sat s 2))) 3)) (by rw [F9, List.length_take]; ((try simp only [nc] at *); omega))
  have c2 := h2 (cF (P.ssub s 0 (P.add (P.bor .i64 (P.shl (P.wrap .i64 (P.sat s 1)) 8) (P.wrap .i64 (P.sat s 2))) 3)))
  clear h1 h2 h9
  cbv
  repeat' (first
    | (refine And.intro (by assumption) ?_; try cbv)
    | (intro β; try cbv))
  refine c1 _ _ ?_
  cbv
  refine c2 _ _ ?_
  cbv
  refine br_cases (fun h => ?_) (fun h => ?_)
  · have g := sne_t hP h
    rw [hfF, hcF] at g
    rw [if_pos g] at hr
    cbv
    exact hR _ _ _ _ _ _ (by simpa [and_assoc] using hr) (Ent.refl _) ⟨rfl, rfl, Nat.zero_lt_succ 0, Nat.le_refl 2, rfl⟩
  · have g := sne_f hP h
    rw [hfF, hcF] at g
    rw [if_neg (fun x => x g)] at hr
    simp only [Prod.mk.injEq, Frame.mk.injEq] at hr
    cbv
    repeat' (first
      | (refine And.intro (by assumption) ?_; try cbv)
      | (intro β; try cbv))
    exact hR _ _ _ _ _ _ ⟨w0.trans hr.1.1, hr.1.2, n7.trans hr.2.1, hr.2.2⟩ (Ent.refl _) ⟨rfl, rfl, Nat.zero_lt_succ 0, Nat.le_refl 2, rfl⟩
theorem sp_fget (s : List UInt8) (hs : s.length ≤ maxLen) : Spec Try.prog 98 [.str s] Hp.emp (Is (.tup [.agg (encFrame (getFr s).1), .int .i64 (getFr s).2.1, .int .i64 (getFr s).2.2])) :=
  spec_pure dOk ok_fget [.agg (encFrame (getFr s).1), .int .i64 (getFr s).2.1, .int .i64 (getFr s).2.2] (.tup _ (by simp [encFrame]; exact ⟨.agg _ (by simp; exact ⟨.int _ _, .str _⟩), .int _ _, .int _ _⟩)) fun R hR => vc_fget std rfl _ _ s hs (fun s => crcNat s)
    (fun s hs => ansP (sp_crc s (by have : maxLen = 9223372036854775807 := by decide
                                    omega)) (fun _ => args_plain rfl) rfl) (fun _ => rfl) fourL (fun _ => rfl) (fun c => ansP (sp_four c) (fun _ => args_plain rfl) rfl) _ _ _ _ rfl R
    fun s0 s' k b n e h he hr => by obtain ⟨rfl, rfl, rfl, rfl⟩ := h; exact hR s0 s' he hr
def ac_unfr : AC := .seq (.region false [
    ⟨some 2, none, .alloc 139 [(.int .i64 0), (.string ⟨#[]⟩)]⟩,
    ⟨some 3, none, .mov (.c (.int .i64 0))⟩,
    ⟨some 4, none, .mov (.c (.int .i64 0))⟩])
  (.seq (.seq (.region false [
    ⟨some 9, none, .mov (.t 0)⟩,
    ⟨some 10, none, .len true (.t 9)⟩,
    ⟨some 11, none, .bin .lss (.t 10) (.c (.int .i64 7))⟩])
  (.cond (.t 11)
    (.seq (.region false [
      ⟨some 12, none, .build [(.int .i64 0), (.string ⟨#[]⟩)] []⟩,
      ⟨none, none, .store 2 (.t 2) (.t 12)⟩,
      ⟨some 3, none, .mov (.c (.int .i64 0))⟩,
      ⟨some 4, none, .mov (.c (.int .i64 5))⟩])
    (.ret))
    (.skip)))
  (.seq (.region true [
    ⟨some 13, none, .mov (.t 0)⟩,
    ⟨some 14, none, .ixs (.t 13) (.c (.int .i64 1))⟩,
    ⟨some 15, none, .conv .i64 (.t 14)⟩,
    ⟨some 16, none, .bin .mul (.c (.int .i64 256)) (.t 15)⟩,
    ⟨some 17, none, .mov (.t 0)⟩,
    ⟨some 18, none, .ixs (.t 17) (.c (.int .i64 2))⟩,
    ⟨some 19, none, .conv .i64 (.t 18)⟩,
    ⟨some 20, none, .bin .add (.t 16) (.t 19)⟩,
    ⟨some 5, none, .mov (.t 20)⟩])
  (.seq (.seq (.region false [
    ⟨some 21, none, .mov (.t 0)⟩,
    ⟨some 22, none, .ixs (.t 21) (.c (.int .i64 0))⟩,
    ⟨some 23, none, .bin .eql (.t 22) (.c (.int .u8 0))⟩,
    ⟨some 24, none, .mov (.t 23)⟩,
    ⟨some 25, some (24, false), .mov (.t 5)⟩,
    ⟨some 26, some (24, false), .bin .gtr (.t 25) (.c (.int .i64 4000))⟩,
    ⟨some 27, none, .pick (.t 24) (.c (.bool true)) (.t 26)⟩])
  (.cond (.t 27)
    (.seq (.region false [
      ⟨some 28, none, .build [(.int .i64 0), (.string ⟨#[]⟩)] []⟩,
      ⟨none, none, .store 2 (.t 2) (.t 28)⟩,
      ⟨some 3, none, .mov (.c (.int .i64 0))⟩,
      ⟨some 4, none, .mov (.c (.int .i64 3))⟩])
    (.ret))
    (.skip)))
  (.seq (.seq (.region false [
    ⟨some 29, none, .mov (.t 0)⟩,
    ⟨some 30, none, .len true (.t 29)⟩,
    ⟨some 31, none, .mov (.t 5)⟩,
    ⟨some 32, none, .bin .add (.c (.int .i64 7)) (.t 31)⟩,
    ⟨some 33, none, .bin .lss (.t 30) (.t 32)⟩])
  (.cond (.t 33)
    (.seq (.region false [
      ⟨some 34, none, .build [(.int .i64 0), (.string ⟨#[]⟩)] []⟩,
      ⟨none, none, .store 2 (.t 2) (.t 34)⟩,
      ⟨some 3, none, .mov (.c (.int .i64 0))⟩,
      ⟨some 4, none, .mov (.c (.int .i64 5))⟩])
    (.ret))
    (.skip)))
  (.seq (.region true [
    ⟨some 35, none, .mov (.t 0)⟩,
    ⟨some 36, none, .ixs (.t 35) (.c (.int .i64 0))⟩,
    ⟨some 37, none, .conv .i64 (.t 36)⟩,
    ⟨some 38, none, .mov (.t 0)⟩,
    ⟨some 39, none, .mov (.t 5)⟩,
    ⟨some 40, none, .bin .add (.c (.int .i64 3)) (.t 39)⟩,
    ⟨some 41, none, .slstr (.t 38) (some (.c (.int .i64 3))) (some (.t 40))⟩,
    ⟨some 42, none, .build [(.int .i64 0), (.string ⟨#[]⟩)] [(0, 1, (.t 37)), (1, 1, (.t 41))]⟩,
    ⟨some 6, none, .alloc 139 [(.int .i64 0), (.string ⟨#[]⟩)]⟩,
    ⟨none, none, .store 2 (.t 6) (.t 42)⟩])
  (.seq (.seq (.region false [
    ⟨some 44, none, .loadn 2 (.t 6)⟩,
    ⟨some 45, none, .call 121 [(.t 44)]⟩,
    ⟨some 43, none, .mov (.t 45)⟩,
    ⟨some 46, none, .ext 0 (.t 43)⟩,
    ⟨some 47, none, .ext 1 (.t 43)⟩,
    ⟨some 7, none, .mov (.t 46)⟩,
    ⟨some 8, none, .mov (.t 47)⟩])
  (.seq (.region false [
    ⟨some 48, none, .mov (.t 7)⟩,
    ⟨some 49, none, .mov (.t 0)⟩,
    ⟨some 50, none, .mov (.t 5)⟩,
    ⟨some 51, none, .bin .add (.c (.int .i64 7)) (.t 50)⟩,
    ⟨some 52, none, .slstr (.t 49) none (some (.t 51))⟩,
    ⟨some 53, none, .bin .neq (.t 48) (.t 52)⟩])
  (.cond (.t 53)
    (.seq (.region false [
      ⟨some 54, none, .build [(.int .i64 0), (.string ⟨#[]⟩)] []⟩,
      ⟨none, none, .store 2 (.t 2) (.t 54)⟩,
      ⟨some 3, none, .mov (.c (.int .i64 0))⟩,
      ⟨some 4, none, .mov (.c (.int .i64 6))⟩])
    (.ret))
    (.skip))))
  (.seq (.region false [
    ⟨some 55, none, .loadn 2 (.t 6)⟩,
    ⟨some 56, none, .mov (.t 5)⟩,
    ⟨some 57, none, .bin .add (.c (.int .i64 7)) (.t 56)⟩,
    ⟨none, none, .store 2 (.t 2) (.t 55)⟩,
    ⟨some 3, none, .mov (.t 57)⟩,
    ⟨some 4, none, .mov (.c (.int .i64 0))⟩])
  (.ret))))))))
theorem ok_unfr : FnOk Try.prog 102 Try.f102 ac_unfr [.cn 2 2, .t 3, .t 4] 1 drawD := ⟨Try.func102, by decide +kernel, by kernel_rfl, by kernel_rfl, by decide +kernel⟩
theorem fr_factsR {P : Prim} (hP : P = std) {s : List UInt8} {nn : Int} (h : frN s + 7 ≤ s.length) (hn : nn = (frN s : Int)) :
    P.leP 0 (P.add 7 nn) ∧ P.leP (P.add 7 nn) (P.slen s) ∧ P.leP (P.add 3 nn) (P.slen s) ∧ P.leP 3 (P.add 3 nn) ∧ P.leP 0 3 ∧ P.leP 0 0
    ∧ P.ssub s 0 (P.add 7 nn) = s.take (frN s + 7) ∧ P.ssub s 3 (P.add 3 nn) = (s.take (frN s + 3)).drop 3 := by
  have n3 : P.add 3 nn = ((frN s + 3 : Nat) : Int) := by rw [add_eq hP, hn]; ((try simp only [nc] at *); omega)
  have n7 : P.add 7 nn = ((frN s + 7 : Nat) : Int) := by rw [add_eq hP, hn]; ((try simp only [nc] at *); omega)
  rw [n3, n7]
  generalize frN s = N at h
  have hsp : P.slen s = (s.length : Int) := slen_eq hP s
  refine ⟨le0 hP (by omega), leI hP (by rw [hsp]; omega), leI hP (by rw [hsp]; omega), leI hP (by omega), le0 hP (by decide), le0 hP (by decide), ?_, ?_⟩
  · subst hP; rfl
  · subst hP; rfl
theorem vc_unfr (P : Prim) (hP : P = std) (T T1 : CallT) (s : List UInt8) (hs : s.length ≤ maxLen) (uF : Int → List UInt8 → List UInt8) (eF : Int → List UInt8 → Int)
    (h1 : ∀ k b, Ans T 121 [.agg [.int .i64 k, .str b]] (.tup [.str (uF k b), .int .i64 (eF k b)])) (huF : ∀ k b, 1 ≤ k → k ≤ 255 → b.length ≤ 4000 → uF k b = frameL k b)
    (rk : Int) (rb : List UInt8) (rn re : Int) (hr : getFr s = (⟨rk, rb⟩, rn, re))
    (R : S → Prop) (hR : ∀ s0 s' k b n e, (k = rk ∧ b = rb ∧ n = rn ∧ e = re) → Ent s0 s' → Ret [.cn 2 2, .t 3, .t 4] [.agg [.int .i64 k, .str b], .int .i64 n, .int .i64 e] s' → R s0) : awp P T T1 ac_unfr (S0 [.str s] Hp.emp) R (fun _ _ => False) R := by
  have hml : maxLen = 9223372036854775807 := by decide
  have hsp : P.slen s = (s.length : Int) := slen_eq hP s
  have q0 : P.sat s 0 = ((s.getD 0 0).toNat : Int) := by subst hP; rfl
  have q1 : P.sat s 1 = ((s.getD 1 0).toNat : Int) := by subst hP; rfl
  have q2 : P.sat s 2 = ((s.getD 2 0).toNat : Int) := by subst hP; rfl
  have u0 := (s.getD 0 0).toNat_lt
  have u1 := (s.getD 1 0).toNat_lt
  have u2 := (s.getD 2 0).toNat_lt
  have w1 : P.wrap .i64 (P.sat s 1) = ((s.getD 1 0).toNat : Int) := by rw [q1]; exact w64 hP (by ((try simp only [nc] at *); omega))
  have w2 : P.wrap .i64 (P.sat s 2) = ((s.getD 2 0).toNat : Int) := by rw [q2]; exact w64 hP (by ((try simp only [nc] at *); omega))
  have w0 : P.wrap .i64 (P.sat s 0) = ((s.getD 0 0).toNat : Int) := by rw [q0]; exact w64 hP (by ((try simp only [nc] at *); omega))
  unfold getFr at hr
  cbv
  intro β
  cbv
  refine br_cases (fun h => ?_) (fun h => ?_)
  · have h7 : P.slen s < 7 := lt_t hP h
    rw [hsp] at h7
    rw [if_pos (by ((try simp only [nc] at *); omega))] at hr
    cbv
    exact hR _ _ _ _ _ _ (by simpa [and_assoc] using hr) (Ent.refl _) ⟨rfl, rfl, Nat.zero_lt_succ 0, Nat.le_refl 2, rfl⟩
  have h7 : ¬ P.slen s < 7 := lt_f hP h
  rw [hsp] at h7
  rw [if_neg (by ((try simp only [nc] at *); omega))] at hr
  have a0 : P.leP 0 0 := le0 hP (by decide)
  have a1 : P.leP 0 1 := le0 hP (by decide)
  have a2 : P.leP 0 2 := le0 hP (by decide)
  have a3 : P.ltP 0 (P.slen s) := ltI hP (by rw [hsp]; ((try simp only [nc] at *); omega))
  have a4 : P.ltP 1 (P.slen s) := ltI hP (by rw [hsp]; ((try simp only [nc] at *); omega))
  have a5 : P.ltP 2 (P.slen s) := ltI hP (by rw [hsp]; ((try simp only [nc] at *); omega))
  have m1 : P.mul 256 (P.wrap .i64 (P.sat s 1)) = 256 * ((s.getD 1 0).toNat : Int) := by rw [w1]; subst hP; rfl
  have a8 : P.i64 (P.mul 256 (P.wrap .i64 (P.sat s 1))) := by rw [m1]; exact i64I hP (by ((try simp only [nc] at *); omega))
  have hn : P.add (P.mul 256 (P.wrap .i64 (P.sat s 1))) (P.wrap .i64 (P.sat s 2)) = (frN s : Int) := by rw [add_eq hP, m1, w2]; unfold frN; ((try simp only [nc] at *); omega)
  have hnb : frN s ≤ 70000 := by unfold frN; omega
  have a9 : P.i64 (P.add (P.mul 256 (P.wrap .i64 (P.sat s 1))) (P.wrap .i64 (P.sat s 2))) := by rw [hn]; exact i64I hP (by ((try simp only [nc] at *); omega))
  have n3 : P.add 3 (P.add (P.mul 256 (P.wrap .i64 (P.sat s 1))) (P.wrap .i64 (P.sat s 2))) = (frN s : Int) + 3 := by rw [add_eq hP 3, hn]; ((try simp only [nc] at *); omega)
  have n7 : P.add 7 (P.add (P.mul 256 (P.wrap .i64 (P.sat s 1))) (P.wrap .i64 (P.sat s 2))) = (frN s : Int) + 7 := by rw [add_eq hP 7, hn]; ((try simp only [nc] at *); omega)
  have i3 : P.i64 (P.add 3 (P.add (P.mul 256 (P.wrap .i64 (P.sat s 1))) (P.wrap .i64 (P.sat s 2)))) := by rw [n3]; exact i64I hP (by ((try simp only [nc] at *); omega))
  have i7 : P.i64 (P.add 7 (P.add (P.mul 256 (P.wrap .i64 (P.sat s 1))) (P.wrap .i64 (P.sat s 2)))) := by rw [n7]; exact i64I hP (by ((try simp only [nc] at *); omega))
  cbv
  repeat' (first
    | (refine And.intro (by assumption) ?_; try cbv)
    | (intro β; try cbv))
  have badf : (s.getD 0 0).toNat = 0 ∨ 4000 < frN s → (0 : Int) = rk ∧ ([] : List UInt8) = rb ∧ (0 : Int) = rn ∧ (3 : Int) = re := fun h => by rw [if_pos h] at hr; simpa [and_assoc] using hr
  refine br_cases (fun h => ?_) (fun h => ?_)
  · have h8 : P.sat s 0 = 0 := eq_t hP h
    rw [q0] at h8
    cbv
    exact hR _ _ _ _ _ _ (badf (.inl (by ((try simp only [nc] at *); omega)))) (Ent.refl _) ⟨rfl, rfl, Nat.zero_lt_succ 0, Nat.le_refl 2, rfl⟩
  have h8 : ¬ P.sat s 0 = 0 := eq_f hP h
  rw [q0] at h8
  cbv
  refine br_cases (fun h => ?_) (fun h => ?_)
  · have h9 := Int.lt_of_lt_of_le (lt_t hP h) (Int.le_of_eq hn)
    cbv
    exact hR _ _ _ _ _ _ (badf (.inr (by ((try simp only [nc] at *); omega)))) (Ent.refl _) ⟨rfl, rfl, Nat.zero_lt_succ 0, Nat.le_refl 2, rfl⟩
  have h9 : ¬ (4000 : Int) < (frN s : Int) := fun g => lt_f hP h (Int.lt_of_lt_of_le g (Int.le_of_eq hn.symm))
  clear badf
  rw [if_neg (by ((try simp only [nc] at *); omega))] at hr
  cbv
  refine ⟨i7, ?_⟩
  refine br_cases (fun h => ?_) (fun h => ?_)
  · have h10 : P.slen s < (frN s : Int) + 7 := Int.lt_of_lt_of_le (lt_t hP h) (Int.le_of_eq n7)
    rw [hsp] at h10
    rw [if_pos (by ((try simp only [nc] at *); omega))] at hr
    cbv
    exact hR _ _ _ _ _ _ (by simpa [and_assoc] using hr) (Ent.refl _) ⟨rfl, rfl, Nat.zero_lt_succ 0, Nat.le_refl 2, rfl⟩
  have h10 : ¬ P.slen s < (frN s : Int) + 7 := fun g => lt_f hP h (Int.lt_of_lt_of_le g (Int.le_of_eq n7.symm))
  rw [hsp] at h10
  rw [if_neg (by ((try simp only [nc] at *); omega))] at hr
  clear h
  have hlen : frN s + 7 ≤ s.length := by ((try simp only [nc] at *); omega)
  obtain ⟨F1, F2, F3, F4, F5, F6, F7, F8⟩ := fr_factsR hP hlen hn
  have c1 := h1 (P.wrap .i64 (P.sat s 0)) (P.ssub s 3 (P.add 3 (P.add (P.mul 256 (P.wrap .i64 (P.sat s 1))) (P.wrap .i64 (P.sat s 2)))))
  have e1 := huF (P.wrap .i64 (P.sat s 0)) (P.ssub s 3 (P.add 3 (P.add (P.mul 256 (P.wrap .i64 (P.sat s 1))) (P.wrap .i64 (P.sat s 2))))) (by rw [w0]; ((try simp only [nc] at *); omega)) (by rw [w0]; ((try simp only [nc] at *); omega)) (by rw [F8, List.length_drop, List.length_take]; ((try simp only [nc] at *); omega))
  have e2 := frame_take hlen
  replace e1 := e1.trans (show _ = frameL ((s.getD 0 0).toNat : Int) ((s.take (frN s + 3)).drop 3) by rw [w0, F8])
  clear h1 huF h8 h9
  cbv
  repeat' (first
    | (refine And.intro (by assumption) ?_; try cbv)
    | (intro β; try cbv))
  refine c1 _ _ ?_
  cbv
  repeat' (first
    | (refine And.intro (by assumption) ?_; try cbv)
    | (intro β; try cbv))
  refine br_cases (fun h => ?_) (fun h => ?_)
  · rw [if_pos (fun x => sne_t hP h ((e1.trans (e2.2 x)).trans F7.symm))] at hr
    cbv
    exact hR _ _ _ _ _ _ (by simpa [and_assoc] using hr) (Ent.refl _) ⟨rfl, rfl, Nat.zero_lt_succ 0, Nat.le_refl 2, rfl⟩
  · rw [if_neg (fun x => x (e2.1 ((e1.symm.trans (sne_f hP h)).trans F7))), ← F8] at hr
    simp only [Prod.mk.injEq, Frame.mk.injEq] at hr
    cbv
    repeat' (first
      | (refine And.intro (by assumption) ?_; try cbv)
      | (intro β; try cbv))
    exact hR _ _ _ _ _ _ ⟨w0.trans hr.1.1, hr.1.2, n7.trans hr.2.1, hr.2.2⟩ (Ent.refl _) ⟨rfl, rfl, Nat.zero_lt_succ 0, Nat.le_refl 2, rfl⟩
theorem sp_unfr (s : List UInt8) (hs : s.length ≤ maxLen) : Spec Try.prog 102 [.str s] Hp.emp (Is (.tup [.agg (encFrame (getFr s).1), .int .i64 (getFr s).2.1, .int .i64 (getFr s).2.2])) :=
  spec_pure dOk ok_unfr [.agg (encFrame (getFr s).1), .int .i64 (getFr s).2.1, .int .i64 (getFr s).2.2] (.tup _ (by simp [encFrame]; exact ⟨.agg _ (by simp; exact ⟨.int _ _, .str _⟩), .int _ _, .int _ _⟩)) fun R hR => vc_unfr std rfl _ _ s hs (fun k b => (putFr k b).1) (fun k b => (putFr k b).2)
    (fun k b => ansW (sp_rframe ⟨k, b⟩) (fun h => .cons (.same _) .nil) rfl) (fun k b h1 h2 h3 => by unfold putFr; rw [if_neg (by omega), if_neg (by omega)]) _ _ _ _ rfl R
    fun s0 s' k b n e h he hr => by obtain ⟨rfl, rfl, rfl, rfl⟩ := h; exact hR s0 s' he hr
end Go.Proofs.Ytobngncjflogcaa.AM

set_option linter.unusedVariables false
set_option linter.unusedSimpArgs false
namespace Go.Proofs.Ytobngncjflogcaa.AM
open Go Go.RowKit
set_option maxRecDepth 100000
set_option maxHeartbeats 2000000
def frRows (l : List Frame) : List (List V) := l.map encFrame
def scanG : Nat → List UInt8 → List Frame × Int
  | 0, _ => ([], 0)
  | m + 1, s => if (getFr s).2.2 ≠ 0 then ([], 0) else ((getFr s).1 :: (scanG m (s.drop (getFr s).2.1.toNat)).1, (getFr s).2.1 + (scanG m (s.drop (getFr s).2.1.toNat)).2)
def scanF (s : List UInt8) : List Frame × Int := scanG (s.length + 1) s
theorem getFr_ok {s : List UInt8} (h : (getFr s).2.2 = 0) : 7 ≤ (getFr s).2.1 ∧ (getFr s).2.1 ≤ (s.length : Int) ∧ 1 ≤ (getFr s).1.kind ∧ (getFr s).1.kind ≤ 255 ∧ (getFr s).2.1 = ((getFr s).1.body.length : Int) + 7 ∧ (getFr s).1.body.length ≤ 4000 := by
  unfold getFr at h ⊢
  by_cases h1 : s.length < 7
  · rw [if_pos h1] at h; exact absurd h (by decide)
  rw [if_neg h1] at h ⊢
  by_cases h2 : (s.getD 0 0).toNat = 0 ∨ 4000 < frN s
  · rw [if_pos h2] at h; exact absurd h (by decide)
  rw [if_neg h2] at h ⊢
  by_cases h3 : s.length < frN s + 7
  · rw [if_pos h3] at h; exact absurd h (by decide)
  rw [if_neg h3] at h ⊢
  by_cases h4 : (s.take (frN s + 7)).drop (frN s + 3) ≠ fourL (crcNat (s.take (frN s + 3)))
  · rw [if_pos h4] at h; exact absurd h (by decide)
  rw [if_neg h4]
  have := (s.getD 0 0).toNat_lt
  simp only [List.length_drop, List.length_take]
  omega
theorem scanG_eq : ∀ (m : Nat) (s : List UInt8), s.length < m → scanG m s = scanF s
  | 0, s, h => absurd h (Nat.not_lt_zero _)
  | m + 1, s, h => by
    unfold scanF
    rw [scanG, scanG]
    by_cases he : (getFr s).2.2 ≠ 0
    · rw [if_pos he, if_pos he]
    · have hg := getFr_ok (Decidable.of_not_not he)
      have hl : (s.drop (getFr s).2.1.toNat).length < s.length := by rw [List.length_drop]; omega
      rw [if_neg he, if_neg he, scanG_eq m _ (by omega)]
      by_cases hm : m + 1 = s.length + 1
      · have : m = s.length := by omega
        subst this
        rw [scanG_eq s.length _ hl]
      · rw [scanG_eq s.length _ hl]
  termination_by m s => (s.length, m)
  decreasing_by all_goals (simp_wf; rw [Prod.lex_def]; simp only []; omega)
theorem scan_step (s : List UInt8) : scanF s = if (getFr s).2.2 ≠ 0 then ([], 0) else ((getFr s).1 :: (scanF (s.drop (getFr s).2.1.toNat)).1, (getFr s).2.1 + (scanF (s.drop (getFr s).2.1.toNat)).2) := by
  show scanG (s.length + 1) s = _
  rw [scanG]
  by_cases he : (getFr s).2.2 ≠ 0
  · rw [if_pos he, if_pos he]
  · have hg := getFr_ok (Decidable.of_not_not he)
    rw [if_neg he, if_neg he, scanG_eq s.length _ (by rw [List.length_drop]; omega)]
theorem scan_len : ∀ (n : Nat) (s : List UInt8), s.length ≤ n → (scanF s).1.length * 7 ≤ s.length ∧ 0 ≤ (scanF s).2 ∧ (scanF s).2 ≤ (s.length : Int)
  | 0, s, h => by
    rw [scan_step]
    have : (getFr s).2.2 ≠ 0 := by
      intro hg
      have := getFr_ok hg
      omega
    rw [if_pos this]
    simp
  | n + 1, s, h => by
    rw [scan_step]
    by_cases he : (getFr s).2.2 ≠ 0
    · rw [if_pos he]; simp
    · have hg := getFr_ok (Decidable.of_not_not he)
      rw [if_neg he]
      have hd : (s.drop (getFr s).2.1.toNat).length = s.length - (getFr s).2.1.toNat := List.length_drop ..
      have ih := scan_len n (s.drop (getFr s).2.1.toNat) (by omega)
      simp only [List.length_cons]
      omega
theorem frRows_sz (l : List Frame) : ∀ r ∈ frRows l, r.length = 2 := by
  intro r hr
  obtain ⟨f, _, rfl⟩ := List.mem_map.1 hr
  rfl
theorem frRows_fz (l : List Frame) : ∀ r ∈ frRows l, ∀ v ∈ r, Fz v := by
  intro r hr v hv
  obtain ⟨f, _, rfl⟩ := List.mem_map.1 hr
  simp [encFrame] at hv
  rcases hv with rfl | rfl
  · exact .int _ _
  · exact .str _
def ac_scan : AC := .seq (.region false [
    ⟨some 2, none, .mov (.c (.slice none 0 0))⟩,
    ⟨some 3, none, .mov (.c (.int .i64 0))⟩])
  (.seq (.region false [
    ⟨some 4, none, .mov (.c (.slice none 0 0))⟩])
  (.seq (.region false [
    ⟨some 5, none, .mov (.c (.int .i64 0))⟩])
  (.block 0 (.loop (.block 1 (.seq (.region false [
      ⟨some 10, none, .mov (.t 0)⟩,
      ⟨some 11, none, .mov (.t 5)⟩,
      ⟨some 12, none, .slstr (.t 10) (some (.t 11)) none⟩,
      ⟨some 13, none, .call 98 [(.t 12)]⟩,
      ⟨some 9, none, .mov (.t 13)⟩,
      ⟨some 14, none, .ext 0 (.t 9)⟩,
      ⟨some 15, none, .ext 1 (.t 9)⟩,
      ⟨some 16, none, .ext 2 (.t 9)⟩,
      ⟨some 6, none, .alloc 139 [(.int .i64 0), (.string ⟨#[]⟩)]⟩,
      ⟨none, none, .store 2 (.t 6) (.t 14)⟩,
      ⟨some 7, none, .mov (.t 15)⟩,
      ⟨some 8, none, .mov (.t 16)⟩])
    (.seq (.seq (.region false [
      ⟨some 17, none, .mov (.t 8)⟩,
      ⟨some 18, none, .bin .neq (.t 17) (.c (.int .i64 0))⟩])
    (.cond (.t 18)
      (.seq (.region false [
        ⟨some 19, none, .mov (.t 4)⟩,
        ⟨some 20, none, .mov (.t 5)⟩,
        ⟨some 2, none, .mov (.t 19)⟩,
        ⟨some 3, none, .mov (.t 20)⟩])
      (.ret))
      (.skip)))
    (.seq (.region false [
      ⟨some 21, none, .mov (.t 4)⟩,
      ⟨some 22, none, .loadn 2 (.t 6)⟩,
      ⟨some 23, none, .bslice 139 2 [(.t 22)]⟩,
      ⟨some 24, none, .append 139 2 24 (.t 21) (.t 23)⟩,
      ⟨some 4, none, .mov (.t 24)⟩])
    (.region false [
      ⟨some 25, none, .mov (.t 5)⟩,
      ⟨some 26, none, .mov (.t 7)⟩,
      ⟨some 27, none, .bin .add (.t 25) (.t 26)⟩,
      ⟨some 5, none, .mov (.t 27)⟩])))))))))
theorem ok_scan : FnOk Try.prog 68 Try.f68 ac_scan [.t 2, .t 3] 1 drawD := ⟨Try.func68, by decide +kernel, by kernel_rfl, by kernel_rfl, by decide +kernel⟩
structure YSc (s : List UInt8) where
  good : Int
  out : List Frame
  b : Option Nat
  c : Nat
  rows : List (List V)
  hg : 0 ≤ good ∧ good ≤ (s.length : Int)
  hs : scanF s = (out ++ (scanF (s.drop good.toNat)).1, good + (scanF (s.drop good.toNat)).2)
  ho : (out.length : Int) * 7 ≤ good
  hrows : rows = frRows out
  hc : c = out.length
theorem vc_scan (P : Prim) (hP : P = std) (T T1 : CallT) (s : List UInt8) (hs : s.length ≤ 1048576) (fk : List UInt8 → Int) (fb : List UInt8 → List UInt8) (fn fe : List UInt8 → Int)
    (hf : ∀ s, getFr s = (⟨fk s, fb s⟩, fn s, fe s)) (h1 : ∀ s, s.length ≤ 1048576 → Ans T 98 [.str s] (.tup [.agg [.int .i64 (fk s), .str (fb s)], .int .i64 (fn s), .int .i64 (fe s)]))
    (rl : List Frame) (rg : Int) (hr : scanF s = (rl, rg)) (rr : List (List V)) (hrr : rr = frRows rl)
    (R : S → Prop) (hR : ∀ x, x = rg → RetSl [.t 2, .t 3] 2 rr [.int .i64 x] R) : awp P T T1 ac_scan (S0 [.str s] Hp.emp) R (fun _ _ => False) R := by
  have hsp : P.slen s = (s.length : Int) := slen_eq hP s
  cbv
  refine ⟨YSc s, fun y => [(0, .str s), (4, .own 1000024 y.b 2 y.c), (5, .int .i64 y.good)], fun y => [(1000024, ⟨y.b, 139, 2, y.rows⟩)], fun y => s.length - y.good.toNat,
    ⟨_, Ent.nil (i := 4) (k := 1000024) (ty := 139) (sz := 2) rfl rfl, ⟨0, [], _, _, _, by omega, by simp, by simp, rfl, rfl⟩, ⟨rfl, rfl, rfl, trivial⟩, ⟨rfl, trivial⟩⟩, ?_⟩
  rintro ⟨good, out, b, c, rows, hg, hsc, ho, hrows, hc⟩
  replace hg : 0 ≤ good ∧ good ≤ (s.length : Int) := hg
  have l1 : P.leP 0 good := le0 hP hg.1
  have l2 : P.leP good (P.slen s) := leI hP (by rw [hsp]; exact hg.2)
  have l3 : P.leP (P.slen s) (P.slen s) := leI hP (Int.le_refl _)
  have e1 : P.ssub s good (P.slen s) = s.drop good.toNat := by
    rw [hsp]; subst hP
    show (s.take ((s.length : Int)).toNat).drop good.toNat = _
    rw [Int.toNat_natCast, List.take_length]
  have hdl : ((s.drop good.toNat).length : Int) = (s.length : Int) - good := by rw [List.length_drop]; ((try simp only [nc] at *); omega)
  have c1 := h1 (s.drop good.toNat) (by ((try simp only [nc] at *); omega))
  have f1 := hf (s.drop good.toNat)
  have hst := scan_step (s.drop good.toNat)
  have hok := @getFr_ok (s.drop good.toNat)
  rw [f1] at hst hok
  simp only [] at hst hok
  rw [← e1] at c1
  clear h1
  cbv
  refine ⟨l1, l2, l3, ?_⟩
  refine c1 _ _ ?_
  rw [e1]
  clear c1 f1 hf
  generalize fk (s.drop good.toNat) = k1 at hst hok ⊢
  generalize fb (s.drop good.toNat) = b1 at hst hok ⊢
  generalize fn (s.drop good.toNat) = n1 at hst hok ⊢
  generalize fe (s.drop good.toNat) = e1 at hst hok ⊢
  cbv
  repeat' (first
    | (refine And.intro (by first | assumption | decide) ?_; try cbv)
    | (intro β; try cbv))
  refine br_cases (fun h => ?_) (fun h => ?_)
  · have hx := ne_t hP h
    rw [if_pos hx] at hst
    rw [hst] at hsc
    simp only [List.append_nil, Int.add_zero] at hsc
    rw [hr] at hsc
    simp only [Prod.mk.injEq] at hsc
    cbv
    exact (hR _ hsc.2.symm).2.1 _ _ _ _ _ _ _ (Ent.refl _) rfl rfl ⟨by rw [hc, hrr, hsc.1]; simp [frRows], by rw [hrows, hrr, hsc.1]⟩
  have hx := ne_f hP h
  rw [if_neg (fun x => x hx)] at hst
  have hg1 := hok hx
  rw [hdl] at hg1
  have hoL : (out.length : Int) ≤ 1048576 := by ((try simp only [nc] at *); omega)
  have f4 : P.neP rows c := neP_of hP _ _ (by rw [hrows, hc]; simp [frRows])
  have f5 : ∀ r, P.bytes (P.add (P.int c) (P.rlen [r])) 24 := by intro r; subst hP; show ((c : Int) + 1) * 24 ≤ _; rw [hc]; ((try simp only [nc] at *); omega)
  have f6 : ∀ r, P.neP [r] 1 := by intro r; subst hP; rfl
  have f7 : P.rapp rows [[.int .i64 k1, .str b1]] = frRows (out ++ [⟨k1, b1⟩]) := by rw [hrows]; subst hP; simp [std, frRows, encFrame]
  have f8 : ∀ r : List V, P.nadd c (P.rlenN [r]) = (out ++ [(⟨k1, b1⟩ : Frame)]).length := by intro r; rw [hc]; subst hP; simp [std]
  have a1 : P.add good n1 = good + n1 := add_eq hP _ _
  have a2 : P.i64 (P.add good n1) := by rw [a1]; exact i64I hP (by ((try simp only [nc] at *); omega))
  have a3 : (s.drop good.toNat).drop n1.toNat = s.drop (P.add good n1).toNat := by rw [List.drop_drop, a1]; congr 1; ((try simp only [nc] at *); omega)
  have hsc2 : scanF s = ((out ++ [⟨k1, b1⟩]) ++ (scanF (s.drop (P.add good n1).toNat)).1, P.add good n1 + (scanF (s.drop (P.add good n1).toNat)).2) := by
    rw [hsc, hst, a3, a1]
    simp only [List.append_assoc, List.singleton_append, Prod.mk.injEq, true_and]
    ((try simp only [nc] at *); omega)
  have hg2 : 0 ≤ P.add good n1 ∧ P.add good n1 ≤ (s.length : Int) := by rw [a1]; ((try simp only [nc] at *); omega)
  have ho2 : ((out ++ [(⟨k1, b1⟩ : Frame)]).length : Int) * 7 ≤ P.add good n1 := by rw [a1, List.length_append]; simp only [List.length_cons, List.length_nil]; ((try simp only [nc] at *); omega)
  have hm : s.length - (P.add good n1).toNat < s.length - good.toNat := by rw [a1]; ((try simp only [nc] at *); omega)
  cbv
  repeat' (first
    | (refine And.intro (by first | assumption | decide | exact f6 _ | exact f5 _) ?_; try cbv)
    | (intro β2; try cbv))
  exact ⟨_, Ent.refl _, ⟨_, out ++ [⟨k1, b1⟩], _, _, _, hg2, hsc2, ho2, f7, f8 _⟩, ⟨rfl, rfl, rfl, trivial⟩, ⟨rfl, trivial⟩, hm⟩
theorem sp_scan (s : List UInt8) (hs : s.length ≤ 1048576) : Spec Try.prog 68 [.str s] Hp.emp (Is (.tup [.sl false 2 (frRows (scanF s).1), .int .i64 (scanF s).2])) :=
  spec_frz dOk ok_scan fun R hR => vc_scan std rfl _ _ s hs (fun s => (getFr s).1.kind) (fun s => (getFr s).1.body) (fun s => (getFr s).2.1) (fun s => (getFr s).2.2) (fun _ => rfl)
    (fun s hs => ansSame (sp_fget s (by have : maxLen = 9223372036854775807 := by decide
                                        omega)) rfl rfl) (scanF s).1 (scanF s).2 rfl _ rfl R fun x hx => by subst hx; exact retSl_of (frRows_sz _) (frRows_fz _) (int_fz _) hR
end Go.Proofs.Ytobngncjflogcaa.AM

set_option linter.unusedVariables false
set_option linter.unusedSimpArgs false
namespace Go.Proofs.Ytobngncjflogcaa.AM
open Go Go.RowKit
set_option maxRecDepth 100000
set_option maxHeartbeats 2000000
def ac_rfr : AC := .seq (.region false [
    ⟨some 2, none, .mov (.c (.slice none 0 0))⟩,
    ⟨some 3, none, .mov (.c (.int .i64 0))⟩])
  (.seq (.region false [
    ⟨some 10, none, .mov (.t 0)⟩,
    ⟨some 11, none, .call 102 [(.t 10)]⟩,
    ⟨some 9, none, .mov (.t 11)⟩,
    ⟨some 12, none, .ext 0 (.t 9)⟩,
    ⟨some 13, none, .ext 1 (.t 9)⟩,
    ⟨some 14, none, .ext 2 (.t 9)⟩,
    ⟨some 4, none, .alloc 139 [(.int .i64 0), (.string ⟨#[]⟩)]⟩,
    ⟨none, none, .store 2 (.t 4) (.t 12)⟩,
    ⟨some 5, none, .mov (.t 13)⟩,
    ⟨some 6, none, .mov (.t 14)⟩])
  (.seq (.seq (.region false [
    ⟨some 15, none, .mov (.t 6)⟩,
    ⟨some 16, none, .bin .neq (.t 15) (.c (.int .i64 0))⟩])
  (.cond (.t 16)
    (.seq (.region false [
      ⟨some 2, none, .mov (.c (.slice none 0 0))⟩,
      ⟨some 3, none, .mov (.c (.int .i64 0))⟩])
    (.ret))
    (.skip)))
  (.seq (.region false [
    ⟨some 18, none, .mov (.t 0)⟩,
    ⟨some 19, none, .mov (.t 5)⟩,
    ⟨some 20, none, .slstr (.t 18) (some (.t 19)) none⟩,
    ⟨some 21, none, .call 73 [(.t 20)]⟩,
    ⟨some 17, none, .mov (.t 21)⟩,
    ⟨some 22, none, .ext 0 (.t 17)⟩,
    ⟨some 23, none, .ext 1 (.t 17)⟩,
    ⟨some 7, none, .mov (.t 22)⟩,
    ⟨some 8, none, .mov (.t 23)⟩])
  (.seq (.region false [
    ⟨some 24, none, .loadn 2 (.t 4)⟩,
    ⟨some 25, none, .bslice 139 2 [(.t 24)]⟩,
    ⟨some 26, none, .mov (.t 7)⟩,
    ⟨some 27, none, .append 139 2 24 (.t 25) (.t 26)⟩,
    ⟨some 28, none, .mov (.t 5)⟩,
    ⟨some 29, none, .mov (.t 8)⟩,
    ⟨some 30, none, .bin .add (.t 28) (.t 29)⟩,
    ⟨some 2, none, .mov (.t 27)⟩,
    ⟨some 3, none, .mov (.t 30)⟩])
  (.ret)))))
theorem ok_rfr : FnOk Try.prog 73 Try.f73 ac_rfr [.t 2, .t 3] 1 drawD := ⟨Try.func73, by decide +kernel, by kernel_rfl, by kernel_rfl, by decide +kernel⟩
theorem vc_rfr (P : Prim) (hP : P = std) (T T1 : CallT) (s : List UInt8) (hs : s.length ≤ 1048576) (k1 : Int) (b1 : List UInt8) (n1 e1 : Int)
    (h1 : Ans T 102 [.str s] (.tup [.agg [.int .i64 k1, .str b1], .int .i64 n1, .int .i64 e1])) (hn : e1 = 0 → 0 ≤ n1 ∧ n1 ≤ (s.length : Int))
    (lr : List (List V)) (k2 : Int) (hlr : lr.length ≤ 1048576) (hk2 : 0 ≤ k2 ∧ k2 ≤ 1048576)
    (h2 : e1 = 0 → Ans T 73 [.str (s.drop n1.toNat)] (.tup [.sl false 2 lr, .int .i64 k2]))
    (rr : List (List V)) (rg : Int) (hr0 : e1 ≠ 0 → rr = [] ∧ 0 = rg) (hr1 : e1 = 0 → rr = [.int .i64 k1, .str b1] :: lr ∧ n1 + k2 = rg)
    (R : S → Prop) (hR : ∀ x, x = rg → RetSl [.t 2, .t 3] 2 rr [.int .i64 x] R) : awp P T T1 ac_rfr (S0 [.str s] Hp.emp) R (fun _ _ => False) R := by
  have hsp : P.slen s = (s.length : Int) := slen_eq hP s
  cbv
  refine h1 _ _ ?_
  clear h1
  cbv
  repeat' (first
    | (refine And.intro (by first | assumption | decide) ?_; try cbv)
    | (intro β; try cbv))
  refine br_cases (fun h => ?_) (fun h => ?_)
  · have hx := hr0 (ne_t hP h)
    cbv
    exact (hR _ hx.2).1 _ _ (Ent.refl _) rfl hx.1
  have h0 : e1 = 0 := ne_f hP h
  have hx := hr1 h0
  have hn0 := hn h0
  have l1 : P.leP 0 n1 := le0 hP hn0.1
  have l2 : P.leP n1 (P.slen s) := leI hP (by rw [hsp]; exact hn0.2)
  have l3 : P.leP (P.slen s) (P.slen s) := leI hP (Int.le_refl _)
  have e2 : P.ssub s n1 (P.slen s) = s.drop n1.toNat := by
    rw [hsp]; subst hP
    show (s.take ((s.length : Int)).toNat).drop n1.toNat = _
    rw [Int.toNat_natCast, List.take_length]
  have c2 := h2 h0
  rw [← e2] at c2
  have f4 : ∀ r, P.neP [r] 1 := by intro r; subst hP; rfl
  have f5 : P.bytes (P.add (P.int 1) (P.rlen lr)) 24 := by subst hP; show ((1 : Int) + (lr.length : Int)) * 24 ≤ _; ((try simp only [nc] at *); omega)
  have a1 : P.add n1 k2 = n1 + k2 := add_eq hP _ _
  have a2 : P.i64 (P.add n1 k2) := by rw [a1]; exact i64I hP (by ((try simp only [nc] at *); omega))
  have f7 : P.rapp [[.int .i64 k1, .str b1]] lr = rr := by rw [hx.1]; subst hP; rfl
  have f8 : P.nadd 1 (P.rlenN lr) = rr.length := by rw [hx.1]; subst hP; show 1 + lr.length = lr.length + 1; omega
  clear h2 hr0 hr1 hn
  cbv
  refine ⟨l1, l2, l3, ?_⟩
  refine c2 _ _ ?_
  cbv
  repeat' (first
    | (refine And.intro (by first | assumption | decide | exact f4 _) ?_; try cbv)
    | (intro β2; try cbv))
  exact (hR _ (a1.trans hx.2)).2.1 _ _ _ _ _ _ _ (Ent.refl _) rfl rfl ⟨f8, f7⟩
theorem short_max {n : Nat} (h : n ≤ 1048576) : n ≤ maxLen := by
  have : maxLen = 9223372036854775807 := by decide
  omega
theorem sp_rfr : ∀ (m : Nat) (s : List UInt8), s.length < m → s.length ≤ 1048576 → Spec Try.prog 73 [.str s] Hp.emp (Is (.tup [.sl false 2 (frRows (scanF s).1), .int .i64 (scanF s).2]))
  | 0, s, h, _ => absurd h (Nat.not_lt_zero _)
  | m + 1, s, h, hs => by
    have hl := scan_len _ (s.drop (getFr s).2.1.toNat) (Nat.le_refl _)
    have hdl : (s.drop (getFr s).2.1.toNat).length = s.length - (getFr s).2.1.toNat := List.length_drop ..
    refine spec_frz dOk ok_rfr fun R hR => vc_rfr std rfl _ _ s hs (getFr s).1.kind (getFr s).1.body (getFr s).2.1 (getFr s).2.2 (ansSame (sp_unfr s (short_max hs)) rfl rfl)
      (fun he => by have := getFr_ok he; omega) (frRows (scanF (s.drop (getFr s).2.1.toNat)).1) (scanF (s.drop (getFr s).2.1.toNat)).2 (by rw [frRows, List.length_map]; omega) (by omega)
      (fun he => ansSame (sp_rfr m _ (by have := getFr_ok he; omega) (by omega)) rfl rfl) (frRows (scanF s).1) (scanF s).2
      (fun he => by rw [scan_step s, if_pos he]; exact ⟨rfl, rfl⟩) (fun he => by rw [scan_step s, if_neg (fun x => x he)]; exact ⟨rfl, rfl⟩) R
      fun x hx => by subst hx; exact retSl_of (frRows_sz _) (frRows_fz _) (int_fz _) hR
end Go.Proofs.Ytobngncjflogcaa.AM

set_option linter.unusedVariables false
set_option linter.unusedSimpArgs false
namespace Go.Proofs.Ytobngncjflogcaa.AM
open Go Go.RowKit
set_option maxRecDepth 100000
set_option maxHeartbeats 2000000
def tkF (st : List UInt8 × Bool) : (List UInt8 × Bool) × Int := if (getS st.1).2.2 ≠ 0 then ((st.1, false), 0) else ((st.1.drop (getS st.1).2.1.toNat, st.2), (getS st.1).1)
def tkS (s : List UInt8) : Nat → List UInt8 × Bool
  | 0 => (s, true)
  | n + 1 => (tkF (tkS s n)).1
def tkN (s : List UInt8) (i : Nat) : Int := (tkF (tkS s i)).2
theorem tkS_succ (s : List UInt8) (n : Nat) : tkS s (n + 1) = (tkF (tkS s n)).1 := rfl
theorem tkS_len (s : List UInt8) : ∀ n, (tkS s n).1.length ≤ s.length
  | 0 => Nat.le_refl _
  | n + 1 => by
    have ih := tkS_len s n
    rw [tkS_succ, tkF]
    split
    · exact ih
    · simp only [List.length_drop]; omega
theorem tkS_false (s : List UInt8) (n : Nat) : ∀ d, (tkS s n).2 = false → (tkS s (n + d)).2 = false
  | 0, h => h
  | d + 1, h => by
    have ih := tkS_false s n d h
    show (tkF (tkS s (n + d))).1.2 = false
    unfold tkF
    split
    · rfl
    · exact ih
theorem tkN_bd (s : List UInt8) (i : Nat) : 0 ≤ tkN s i ∧ tkN s i ≤ 2147483647 := by
  unfold tkN tkF
  split
  · exact ⟨Int.le_refl 0, by show (0 : Int) ≤ _; decide⟩
  · rename_i h
    obtain ⟨k, _, _, _, _, h5, h6, _⟩ := getS_num (Decidable.of_not_not h)
    exact ⟨h5, h6⟩
theorem tk_bad {s : List UInt8} {n : Nat} (h : (getS (tkS s n).1).2.2 ≠ 0) : (tkS s (n + 1)).2 = false := by
  rw [tkS_succ, tkF, if_pos h]
theorem tk_ok {s : List UInt8} {n : Nat} (h : (getS (tkS s n).1).2.2 = 0) : tkS s (n + 1) = ((tkS s n).1.drop (getS (tkS s n).1).2.1.toNat, (tkS s n).2) ∧ tkN s n = (getS (tkS s n).1).1 := by
  rw [tkS_succ]; unfold tkN tkF; rw [if_neg (fun g => g h)]; exact ⟨rfl, rfl⟩
def obS (b : Nat) (s : List UInt8) : Ob := ⟨some b, 9, 1, [[.str s]]⟩
def obB (b : Nat) (ok : Bool) : Ob := ⟨some b, 4, 1, [[.bool ok]]⟩
def ac_take : AC := .seq (.region false [
    ⟨some 4, none, .mov (.c (.int .i64 0))⟩])
  (.seq (.region false [
    ⟨some 9, none, .mov (.t 0)⟩,
    ⟨some 10, none, .nilchk (.t 9)⟩,
    ⟨some 11, none, .load1 (.t 10)⟩,
    ⟨some 12, none, .call 118 [(.t 11)]⟩,
    ⟨some 8, none, .mov (.t 12)⟩,
    ⟨some 13, none, .ext 0 (.t 8)⟩,
    ⟨some 14, none, .ext 1 (.t 8)⟩,
    ⟨some 15, none, .ext 2 (.t 8)⟩,
    ⟨some 5, none, .mov (.t 13)⟩,
    ⟨some 6, none, .mov (.t 14)⟩,
    ⟨some 7, none, .mov (.t 15)⟩])
  (.seq (.seq (.region false [
    ⟨some 16, none, .mov (.t 7)⟩,
    ⟨some 17, none, .bin .neq (.t 16) (.c (.int .i64 0))⟩])
  (.cond (.t 17)
    (.seq (.region false [
      ⟨some 18, none, .mov (.t 1)⟩,
      ⟨some 19, none, .nilchk (.t 18)⟩,
      ⟨none, none, .store 1 (.t 19) (.c (.bool false))⟩])
    (.seq (.region false [
      ⟨some 4, none, .mov (.c (.int .i64 0))⟩])
    (.ret)))
    (.skip)))
  (.seq (.region false [
    ⟨some 20, none, .mov (.t 0)⟩,
    ⟨some 21, none, .mov (.t 0)⟩,
    ⟨some 22, none, .nilchk (.t 21)⟩,
    ⟨some 23, none, .load1 (.t 22)⟩,
    ⟨some 24, none, .mov (.t 6)⟩,
    ⟨some 25, none, .slstr (.t 23) (some (.t 24)) none⟩,
    ⟨some 26, none, .nilchk (.t 20)⟩,
    ⟨none, none, .store 1 (.t 26) (.t 25)⟩])
  (.seq (.region false [
    ⟨some 27, none, .mov (.t 5)⟩,
    ⟨some 4, none, .mov (.t 27)⟩])
  (.ret)))))
theorem ok_take : FnOk Try.prog 99 Try.f99 ac_take [.t 4] 2 drawD := ⟨Try.func99, by decide +kernel, by kernel_rfl, by kernel_rfl, by decide +kernel⟩
theorem vc_take (P : Prim) (hP : P = std) (T T1 : CallT) (b b2 : Nat) (s : List UInt8) (ok : Bool) (n k e : Int) (h1 : Ans T 118 [.str s] (.tup [.int .i64 n, .int .i64 k, .int .i64 e])) (hk : e = 0 → 0 ≤ k ∧ k ≤ s.length)
    (s2 : List UInt8) (ok2 : Bool) (v : Int) (g1 : e ≠ 0 → s = s2 ∧ false = ok2 ∧ 0 = v) (g2 : e = 0 → s.drop k.toNat = s2 ∧ ok = ok2 ∧ n = v)
    (R : S → Prop) (hR : ∀ s0 s' x y z, x = s2 ∧ y = ok2 ∧ z = v → Ent s0 s' → resV s' [.t 4] (fun q => oneV q = .int .i64 z) → agreeH [(0, ⟨some b, 9, 1, [[.str x]]⟩), (1, ⟨some b2, 4, 1, [[.bool y]]⟩)] s' → R s0) :
    awp P T T1 ac_take (S0 [.ptr 0 (some b) 1 0 0, .ptr 1 (some b2) 1 0 0] (lookH [(0, ⟨some b, 9, 1, [[.str s]]⟩), (1, ⟨some b2, 4, 1, [[.bool ok]]⟩)])) R (fun _ _ => False) R := by
  have hsp : P.slen s = (s.length : Int) := slen_eq hP s
  cbv
  refine h1 _ _ ?_
  cbv
  refine br_cases (fun h => ?_) (fun h => ?_)
  · have hx := g1 (ne_t hP h)
    cbv
    repeat' (first
      | (refine And.intro (by first | assumption | decide) ?_; try cbv)
      | (intro β2; try cbv))
    exact hR _ _ _ _ _ hx (Ent.refl _) rfl ⟨rfl, rfl, trivial⟩
  · have he := ne_f hP h
    obtain ⟨x1, x2, x3⟩ := g2 he
    obtain ⟨y1, y2⟩ := hk he
    have l1 : P.leP 0 k := le0 hP y1
    have l2 : P.leP k (P.slen s) := leI hP (by rw [hsp]; exact y2)
    have l3 : P.leP (P.slen s) (P.slen s) := leI hP (Int.le_refl _)
    have e1 : P.ssub s k (P.slen s) = s2 := by
      rw [hsp, ← x1]; subst hP
      show (s.take ((s.length : Int)).toNat).drop k.toNat = _
      rw [Int.toNat_natCast, List.take_length]
    cbv
    repeat' (first
      | (refine And.intro (by first | assumption | decide) ?_; try cbv)
      | (intro β2; try cbv))
    exact hR _ _ _ _ _ ⟨e1, x2, x3⟩ (Ent.refl _) rfl ⟨rfl, rfl, trivial⟩
theorem obS_fz (b : Nat) (s : List UInt8) : (obS b s).Fz := by
  intro r hr v hv
  simp only [obS, List.mem_singleton] at hr
  subst hr
  simp only [List.mem_singleton] at hv
  subst hv; exact .str _
theorem obB_fz (b : Nat) (ok : Bool) : (obB b ok).Fz := by
  intro r hr v hv
  simp only [obB, List.mem_singleton] at hr
  subst hr
  simp only [List.mem_singleton] at hv
  subst hv; exact .bool _
theorem sp_take (b b2 : Nat) (s : List UInt8) (ok : Bool) (hs : s.length ≤ maxLen) : Spec Try.prog 99 [.ptr 0 (some b) 1 0 0, .ptr 1 (some b2) 1 0 0] (lookH [(0, obS b s), (1, obB b2 ok)])
    (fun v h' => ∃ L', (v = .int .i64 (tkF (s, ok)).2 ∧ L' = [(0, obS b (tkF (s, ok)).1.1), (1, obB b2 (tkF (s, ok)).1.2)]) ∧ h' = lookH L') :=
  spec_meth dOk ok_take (L := [(0, obS b s), (1, obB b2 ok)]) (fun v L' => v = .int .i64 (tkF (s, ok)).2 ∧ L' = [(0, obS b (tkF (s, ok)).1.1), (1, obB b2 (tkF (s, ok)).1.2)]) fun R hR =>
    vc_take std rfl _ _ b b2 s ok (getS s).1 (getS s).2.1 (getS s).2.2 (ansW (sp_nget s hs) (fun _ => args_plain rfl) rfl) getS_k (tkF (s, ok)).1.1 (tkF (s, ok)).1.2 (tkF (s, ok)).2
      (fun h => by unfold tkF; rw [if_pos h]; exact ⟨rfl, rfl, rfl⟩) (fun h => by unfold tkF; rw [if_neg (fun g => g h)]; exact ⟨rfl, rfl, rfl⟩) R
      fun s0 s' x y z h he hr ha => by
        obtain ⟨rfl, rfl, rfl⟩ := h
        exact hR s0 s' _ [(0, _), (1, _)] he hr ha (.int _ _) (by intro p hp; simp at hp; rcases hp with rfl | rfl; exact obS_fz _ _; exact obB_fz _ _) ⟨rfl, rfl⟩
theorem obS_ren (b : Nat) (s : List UInt8) (f : Nat → Nat) : (obS b s).ren f = obS b s := by simp [Ob.ren, obS, V.rl]
theorem obB_ren (b : Nat) (ok : Bool) (f : Nat → Nat) : (obB b ok).ren f = obB b ok := by simp [Ob.ren, obB, V.rl]
def TkC (T : CallT) : Prop := ∀ (k k2 b b2 : Nat) (s : List UInt8) (ok : Bool) (h : Hp) (K : V → Hp → Prop), s.length ≤ maxLen → Nat.beq k k2 = false → h k = some ⟨some b, 9, 1, [[.str s]]⟩ → h k2 = some ⟨some b2, 4, 1, [[.bool ok]]⟩ →
  (∀ (s2 : List UInt8) (ok2 : Bool) (v : Int), (s2, ok2) = (tkF (s, ok)).1 ∧ v = (tkF (s, ok)).2 → K (.int .i64 v) (Hp.put (Hp.put h k ⟨some b, 9, 1, [[.str s2]]⟩) k2 ⟨some b2, 4, 1, [[.bool ok2]]⟩)) →
  T 99 [.ptr k (some b) 1 0 0, .ptr k2 (some b2) 1 0 0] h K
theorem tkC : TkC (CallE Try.prog) := by
  intro k k2 b b2 s ok h K hs hne hk hk2 hK
  have hne' : k ≠ k2 := by intro e; subst e; rw [Nat.beq_refl] at hne; cases hne
  have hne2 : ¬ k2 = k := fun e => hne' e.symm
  refine callG (m := [(0, k), (1, k2)]) (sp_take b b2 s ok hs) (.cons ?_ (.cons ?_ .nil)) (fun j q hj => ?_) (fun p hp => ?_) ?_
  · have := Arg.same (h := h) (m := [(0, k), (1, k2)]) (.ptr k (some b) 1 0 0)
    simpa [V.ren, V.rl, bal] using this
  · have := Arg.same (h := h) (m := [(0, k), (1, k2)]) (.ptr k2 (some b2) 1 0 0)
    simpa [V.ren, V.rl, bal, hne2, hne'] using this
  · simp only [lookH] at hj
    split at hj
    · rename_i h0; exact ⟨(0, k), by simp, h0.symm⟩
    · split at hj
      · rename_i h0; exact ⟨(1, k2), by simp, h0.symm⟩
      · cases hj
  · simp only [List.mem_cons, List.not_mem_nil, or_false] at hp
    rcases hp with rfl | rfl
    · refine ⟨by simp [lab], by simp [bal], fun x hx => ?_⟩
      simp only [lookH, ↓reduceIte, Option.some.injEq] at hx
      subst hx
      exact ⟨by rw [hk, Option.map_some]; exact congrArg some (obS_ren b s _), obS_fz _ _⟩
    · refine ⟨by simp [lab], by simp [bal, hne2], fun x hx => ?_⟩
      simp [lookH] at hx
      subst hx
      exact ⟨by rw [hk2, Option.map_some]; exact congrArg some (obB_ren b2 ok _), obB_fz _ _⟩
  · rintro v L' ⟨rfl, rfl⟩
    have e : h.upd [(0, k), (1, k2)] (lookH [(0, obS b (tkF (s, ok)).1.1), (1, obB b2 (tkF (s, ok)).1.2)]) = Hp.put (Hp.put h k (obS b (tkF (s, ok)).1.1)) k2 (obB b2 (tkF (s, ok)).1.2) := by
      funext i
      simp only [Hp.upd, Hp.put, List.any_cons, List.any_nil, Bool.or_false, Bool.or_eq_true, decide_eq_true_eq]
      by_cases h1 : k2 = i
      · subst h1
        rw [if_pos (.inr rfl), if_pos rfl]
        simp [bal, lookH, hne', hne2, obB_ren]
      · by_cases h2 : k = i
        · subst h2
          rw [if_pos (.inl rfl), if_neg (fun e => h1 e.symm), if_pos rfl]
          simp [bal, lookH, obS_ren]
        · rw [if_neg (by rintro (h | h); exact h2 h; exact h1 h), if_neg (fun e => h1 e.symm), if_neg (fun e => h2 e.symm)]
    rw [e]
    exact hK _ _ _ ⟨rfl, rfl⟩
def ac_head : AC := .seq (.region false [
    ⟨some 1, none, .box 9 1 (.t 0)⟩,
    ⟨some 2, none, .alloc 81 [(.int .i64 0), (.int .i64 0), (.string ⟨#[]⟩), (.int .i64 0), (.int .i64 0), (.int .i64 0), (.int .i64 0), (.int .i64 0), (.int .i64 0), (.int .i64 0), (.int .i64 0), (.int .i64 0), (.int .i64 0), (.int .i64 0), (.int .i64 0), (.int .i64 0), (.int .i64 0), (.int .i64 0), (.int .i64 0), (.int .i64 0), (.int .i64 0), (.int .i64 0), (.int .i64 0), (.int .i64 0), (.int .i64 0), (.int .i64 0), (.int .i64 0), (.int .i64 0), (.int .i64 0), (.int .i64 0), (.int .i64 0), (.int .i64 0), (.int .i64 0), (.int .i64 0), (.int .i64 0), (.slice none 0 0), (.bool false), (.int .i64 0)]⟩,
    ⟨some 3, none, .mov (.c (.bool false))⟩])
  (.seq (.region false [
    ⟨some 4, none, .alloc 4 [(.bool false)]⟩,
    ⟨none, none, .store 1 (.t 4) (.c (.bool true))⟩])
  (.seq (.region false [
    ⟨some 7, none, .call 99 [(.t 1), (.t 4)]⟩,
    ⟨some 8, none, .call 99 [(.t 1), (.t 4)]⟩,
    ⟨some 9, none, .build [(.int .i64 0), (.int .i64 0), (.string ⟨#[]⟩), (.int .i64 0), (.int .i64 0), (.int .i64 0), (.int .i64 0), (.int .i64 0), (.int .i64 0), (.int .i64 0), (.int .i64 0), (.int .i64 0), (.int .i64 0), (.int .i64 0), (.int .i64 0), (.int .i64 0), (.int .i64 0), (.int .i64 0), (.int .i64 0), (.int .i64 0), (.int .i64 0), (.int .i64 0), (.int .i64 0), (.int .i64 0), (.int .i64 0), (.int .i64 0), (.int .i64 0), (.int .i64 0), (.int .i64 0), (.int .i64 0), (.int .i64 0), (.int .i64 0), (.int .i64 0), (.int .i64 0), (.int .i64 0), (.slice none 0 0), (.bool false), (.int .i64 0)] [(0, 1, (.t 7)), (1, 1, (.t 8))]⟩,
    ⟨some 5, none, .alloc 81 [(.int .i64 0), (.int .i64 0), (.string ⟨#[]⟩), (.int .i64 0), (.int .i64 0), (.int .i64 0), (.int .i64 0), (.int .i64 0), (.int .i64 0), (.int .i64 0), (.int .i64 0), (.int .i64 0), (.int .i64 0), (.int .i64 0), (.int .i64 0), (.int .i64 0), (.int .i64 0), (.int .i64 0), (.int .i64 0), (.int .i64 0), (.int .i64 0), (.int .i64 0), (.int .i64 0), (.int .i64 0), (.int .i64 0), (.int .i64 0), (.int .i64 0), (.int .i64 0), (.int .i64 0), (.int .i64 0), (.int .i64 0), (.int .i64 0), (.int .i64 0), (.int .i64 0), (.int .i64 0), (.slice none 0 0), (.bool false), (.int .i64 0)]⟩,
    ⟨none, none, .store 38 (.t 5) (.t 9)⟩])
  (.seq (.seq (.region false [
    ⟨some 10, none, .mov (.c (.int .i64 0))⟩])
  (.block 0 (.loop (.seq (.region false [
      ⟨some 11, none, .bin .lss (.t 10) (.c (.int .i64 8))⟩])
    (.seq (.cond (.t 11)
      (.skip)
      (.exit 0))
    (.seq (.block 1 (.seq (.region false [
      ⟨some 12, none, .mov (.t 10)⟩,
      ⟨some 6, none, .mov (.t 12)⟩])
    (.region false [
      ⟨some 13, none, .mov (.t 6)⟩,
      ⟨some 14, none, .call 99 [(.t 1), (.t 4)]⟩,
      ⟨some 15, none, .call 99 [(.t 1), (.t 4)]⟩,
      ⟨some 16, none, .build [(.int .i64 0), (.int .i64 0)] [(0, 1, (.t 14)), (1, 1, (.t 15))]⟩,
      ⟨some 17, none, .faddr 3 (.t 5)⟩,
      ⟨some 18, none, .iarr 8 2 (.t 17) (.t 13)⟩,
      ⟨none, none, .store 2 (.t 18) (.t 16)⟩])))
    (.region false [
      ⟨some 19, none, .bin .add (.t 10) (.c (.int .i64 1))⟩,
      ⟨some 10, none, .mov (.t 19)⟩])))))))
  (.seq (.region false [
    ⟨some 20, none, .faddr 3 (.t 5)⟩,
    ⟨some 21, none, .loadn 16 (.t 20)⟩,
    ⟨some 22, none, .faddr 19 (.t 5)⟩,
    ⟨none, none, .store 16 (.t 22) (.t 21)⟩])
  (.seq (.region false [
    ⟨some 23, none, .load1 (.t 1)⟩,
    ⟨some 24, none, .faddr 2 (.t 5)⟩,
    ⟨none, none, .store 1 (.t 24) (.t 23)⟩])
  (.seq (.dregion [
    (⟨some 25, none, .loadn 38 (.t 5)⟩, []),
    (⟨some 26, none, .load1 (.t 4)⟩, []),
    (⟨some 27, none, .mov (.t 26)⟩, [1]),
    (⟨some 28, some (27, true), .load1 (.t 1)⟩, [2]),
    (⟨some 29, some (27, true), .len true (.t 28)⟩, [3, 2]),
    (⟨some 30, some (27, true), .bin .leq (.t 29) (.c (.int .i64 500))⟩, [4, 2]),
    (⟨some 31, none, .pick (.t 27) (.t 30) (.c (.bool false))⟩, [2, 5]),
    (⟨none, none, .store 38 (.t 2) (.t 25)⟩, [0, 2, 0]),
    (⟨some 3, none, .mov (.t 31)⟩, [6, 7, 0, 1, 2, 3, 4, 5, 6, 7])])
  (.ret)))))))
theorem ok_head : FnOk Try.prog 69 Try.f69 ac_head [.cn 2 38, .t 3] 1 drawD := ⟨Try.func69, by decide +kernel, by kernel_rfl, by kernel_rfl, by decide +kernel⟩
structure YHd (s : List UInt8) where
  i : Nat
  k : Int
  cs : List UInt8
  ok : Bool
  f : Nat → Int
  hi : i ≤ 8
  hk : k = (i : Int)
  hs : (cs, ok) = tkS s (2 + 2 * i)
  hf : ∀ j, j < 16 → f j = if j < 2 * i then tkN s (j + 2) else 0
theorem vc_head (P : Prim) (hP : P = std) (T T1 : CallT) (s : List UInt8) (hs : s.length ≤ maxLen) (htk : TkC T)
    (g0 g1 : Int) (hg0 : g0 = tkN s 0) (hg1 : g1 = tkN s 1) (F : Nat → Int) (hF : ∀ j, j < 16 → F j = tkN s (j + 2)) (rs : List UInt8) (ro : Bool) (hrs : rs = (tkS s 18).1) (hro : ro = ((tkS s 18).2 && decide ((tkS s 18).1.length ≤ 500)))
    (R : S → Prop) (hR : ∀ s0 s' (f : Nat → Int) (cs : List UInt8) (x : Bool), (∀ j, j < 16 → f j = F j) → cs = rs → x = ro → Ent s0 s' → Ret [.cn 2 38, .t 3] [.agg [.int .i64 g0, .int .i64 g1, .str cs, .int .i64 (f 0), .int .i64 (f 1), .int .i64 (f 2), .int .i64 (f 3), .int .i64 (f 4), .int .i64 (f 5), .int .i64 (f 6), .int .i64 (f 7), .int .i64 (f 8), .int .i64 (f 9), .int .i64 (f 10), .int .i64 (f 11), .int .i64 (f 12), .int .i64 (f 13), .int .i64 (f 14), .int .i64 (f 15), .int .i64 (f 0), .int .i64 (f 1), .int .i64 (f 2), .int .i64 (f 3), .int .i64 (f 4), .int .i64 (f 5), .int .i64 (f 6), .int .i64 (f 7), .int .i64 (f 8), .int .i64 (f 9), .int .i64 (f 10), .int .i64 (f 11), .int .i64 (f 12), .int .i64 (f 13), .int .i64 (f 14), .int .i64 (f 15), .nilsl, .bool false, .int .i64 0], .bool x] s' → R s0) : awp P T T1 ac_head (S0 [.str s] Hp.emp) R (fun _ _ => False) R := by
  have hnl : ∀ i : Nat, i < 8 → P.leP 0 (i : Int) ∧ P.ltP (i : Int) 8 := fun i hi => ⟨le0 hP (by omega), ltI hP (by omega)⟩
  have hN : ∀ i : Nat, P.nat (i : Int) = i := fun i => by subst hP; rfl
  cbv
  intro β1
  cbv
  intro β2
  cbv
  intro β4
  cbv
  repeat' (first
    | (refine And.intro (by first | assumption | decide) ?_; try cbv)
    | (intro β2; try cbv))
  refine htk _ _ _ _ s true _ _ hs rfl rfl rfl fun s1 ok1 v1 h1 => ?_
  obtain ⟨h1a, h1b⟩ := h1
  have e1 : (s1, ok1) = tkS s 1 := h1a
  have l1 : s1.length ≤ maxLen := by have := tkS_len s 1; rw [← e1] at this; exact Nat.le_trans this hs
  cbv
  refine htk _ _ _ _ s1 ok1 _ _ l1 rfl rfl rfl fun s2 ok2 v2 h2 => ?_
  obtain ⟨h2a, h2b⟩ := h2
  have e2 : (s2, ok2) = tkS s 2 := by rw [h2a, e1]; rfl
  have v1e : g0 = v1 := by rw [h1b, hg0]; rfl
  have v2e : g1 = v2 := by rw [h2b, hg1, e1]; rfl
  subst v1e v2e
  clear h1a h1b h2a h2b
  cbv
  intro β5
  cbv
  repeat' (first
    | (refine And.intro (by first | assumption | decide) ?_; try cbv)
    | (intro β2; try cbv))
  refine ⟨YHd s, fun y => [(1, .ptr 1 (some β1) 1 0 0), (2, .ptr 2 (some β2) 38 0 0), (4, .ptr 4 (some β4) 1 0 0), (5, .ptr 5 (some β5) 38 0 0), (10, .int .i64 y.k)],
    fun y => [(1, ⟨some β1, 9, 1, [[.str y.cs]]⟩), (2, ⟨some β2, 81, 38, [[.int .i64 0, .int .i64 0, .str [], .int .i64 0, .int .i64 0, .int .i64 0, .int .i64 0, .int .i64 0, .int .i64 0, .int .i64 0, .int .i64 0, .int .i64 0, .int .i64 0, .int .i64 0, .int .i64 0, .int .i64 0, .int .i64 0, .int .i64 0, .int .i64 0, .int .i64 0, .int .i64 0, .int .i64 0, .int .i64 0, .int .i64 0, .int .i64 0, .int .i64 0, .int .i64 0, .int .i64 0, .int .i64 0, .int .i64 0, .int .i64 0, .int .i64 0, .int .i64 0, .int .i64 0, .int .i64 0, .nilsl, .bool false, .int .i64 0]]⟩), (4, ⟨some β4, 4, 1, [[.bool y.ok]]⟩), (5, ⟨some β5, 81, 38, [[.int .i64 g0, .int .i64 g1, .str [], .int .i64 (y.f 0), .int .i64 (y.f 1), .int .i64 (y.f 2), .int .i64 (y.f 3), .int .i64 (y.f 4), .int .i64 (y.f 5), .int .i64 (y.f 6), .int .i64 (y.f 7), .int .i64 (y.f 8), .int .i64 (y.f 9), .int .i64 (y.f 10), .int .i64 (y.f 11), .int .i64 (y.f 12), .int .i64 (y.f 13), .int .i64 (y.f 14), .int .i64 (y.f 15), .int .i64 0, .int .i64 0, .int .i64 0, .int .i64 0, .int .i64 0, .int .i64 0, .int .i64 0, .int .i64 0, .int .i64 0, .int .i64 0, .int .i64 0, .int .i64 0, .int .i64 0, .int .i64 0, .int .i64 0, .int .i64 0, .nilsl, .bool false, .int .i64 0]]⟩)], fun y => 8 - y.i,
    ⟨_, Ent.refl _, ⟨0, 0, s2, ok2, fun _ => 0, by omega, rfl, e2, fun j _ => by simp⟩, ⟨rfl, rfl, rfl, rfl, rfl, trivial⟩, ⟨rfl, rfl, rfl, rfl, trivial⟩⟩, ?_⟩
  rintro ⟨i, k, cs, ok, f, hi, hk, hcs, hf⟩
  have lc : cs.length ≤ maxLen := by have := tkS_len s (2 + 2 * i); rw [← hcs] at this; exact Nat.le_trans this hs
  cbv
  refine br_cases (fun g => ?_) (fun g => ?_)
  · have h5 : k < 8 := lt_t hP g
    have hi8 : i < 8 := by ((try simp only [nc] at *); omega)
    have q1 : P.leP 0 k := (by have := (hnl i hi8).1; rw [← hk] at this; exact this)
    have q2 : P.ltP k 8 := (by have := (hnl i hi8).2; rw [← hk] at this; exact this)
    have m3 : P.i64 (P.add k 1) := by rw [add_eq hP]; exact i64I hP (by ((try simp only [nc] at *); omega))
    have e1 : P.add k 1 = ((i + 1 : Nat) : Int) := by rw [add_eq hP, hk]; ((try simp only [nc] at *); omega)
    have hNk : P.nat k = i := by rw [hk]; exact hN i
    cbv
    refine htk _ _ _ _ cs ok _ _ lc rfl rfl rfl fun s3 ok3 v3 h3 => ?_
    obtain ⟨h3a, h3b⟩ := h3
    have e3 : (s3, ok3) = tkS s (3 + 2 * i) := by rw [h3a, hcs, show 3 + 2 * i = (2 + 2 * i) + 1 by omega]; rfl
    have l3 : s3.length ≤ maxLen := by have := tkS_len s (3 + 2 * i); rw [← e3] at this; exact Nat.le_trans this hs
    cbv
    refine htk _ _ _ _ s3 ok3 _ _ l3 rfl rfl rfl fun s4 ok4 v4 h4 => ?_
    obtain ⟨h4a, h4b⟩ := h4
    have e4 : (s4, ok4) = tkS s (2 + 2 * (i + 1)) := by rw [h4a, e3, show 2 + 2 * (i + 1) = (3 + 2 * i) + 1 by omega]; rfl
    have v3e : v3 = tkN s (2 + 2 * i) := by rw [h3b, hcs]; rfl
    have v4e : v4 = tkN s (3 + 2 * i) := by rw [h4b, e3]; rfl
    have fin : ∀ f' : Nat → Int, f' (2 * i) = v3 → f' (2 * i + 1) = v4 → (∀ j, j ≠ 2 * i → j ≠ 2 * i + 1 → f' j = f j) → ∀ j, j < 16 → f' j = if j < 2 * (i + 1) then tkN s (j + 2) else 0 := by
      intro f' a b c j hj
      by_cases j1 : j = 2 * i
      · subst j1; rw [a, if_pos (by omega), v3e]; congr 1; omega
      · by_cases j2 : j = 2 * i + 1
        · subst j2; rw [b, if_pos (by omega), v4e]; congr 1; omega
        · rw [c j j1 j2, hf j hj]
          by_cases j3 : j < 2 * i
          · rw [if_pos j3, if_pos (by omega)]
          · rw [if_neg j3, if_neg (by omega)]
    have hc : i = 0 ∨ i = 1 ∨ i = 2 ∨ i = 3 ∨ i = 4 ∨ i = 5 ∨ i = 6 ∨ i = 7 := by omega
    clear hR hF hg0 hg1 hrs hro h3a h3b h4a h4b e3 l3 v3e v4e h5 g
    cbv
    rcases hc with rfl | rfl | rfl | rfl | rfl | rfl | rfl | rfl
    · refine ⟨q1, q2, 0, hNk, ?_⟩
      cbv
      refine ⟨m3, ?_⟩
      exact ⟨_, Ent.refl _, ⟨0 + 1, _, s4, ok4, fun j => if j = 0 then v3 else if j = 1 then v4 else f j, by decide, e1, e4, fin _ rfl rfl (fun j h1 h2 => (if_neg h1).trans (if_neg h2))⟩, ⟨rfl, rfl, rfl, rfl, rfl, trivial⟩, ⟨rfl, rfl, rfl, rfl, trivial⟩, by show 8 - (0 + 1) < 8 - 0; decide⟩
    · refine ⟨q1, q2, 1, hNk, ?_⟩
      cbv
      refine ⟨m3, ?_⟩
      exact ⟨_, Ent.refl _, ⟨1 + 1, _, s4, ok4, fun j => if j = 2 then v3 else if j = 3 then v4 else f j, by decide, e1, e4, fin _ rfl rfl (fun j h1 h2 => (if_neg h1).trans (if_neg h2))⟩, ⟨rfl, rfl, rfl, rfl, rfl, trivial⟩, ⟨rfl, rfl, rfl, rfl, trivial⟩, by show 8 - (1 + 1) < 8 - 1; decide⟩
    · refine ⟨q1, q2, 2, hNk, ?_⟩
      cbv
      refine ⟨m3, ?_⟩
      exact ⟨_, Ent.refl _, ⟨2 + 1, _, s4, ok4, fun j => if j = 4 then v3 else if j = 5 then v4 else f j, by decide, e1, e4, fin _ rfl rfl (fun j h1 h2 => (if_neg h1).trans (if_neg h2))⟩, ⟨rfl, rfl, rfl, rfl, rfl, trivial⟩, ⟨rfl, rfl, rfl, rfl, trivial⟩, by show 8 - (2 + 1) < 8 - 2; decide⟩
    · refine ⟨q1, q2, 3, hNk, ?_⟩
      cbv
      refine ⟨m3, ?_⟩
      exact ⟨_, Ent.refl _, ⟨3 + 1, _, s4, ok4, fun j => if j = 6 then v3 else if j = 7 then v4 else f j, by decide, e1, e4, fin _ rfl rfl (fun j h1 h2 => (if_neg h1).trans (if_neg h2))⟩, ⟨rfl, rfl, rfl, rfl, rfl, trivial⟩, ⟨rfl, rfl, rfl, rfl, trivial⟩, by show 8 - (3 + 1) < 8 - 3; decide⟩
    · refine ⟨q1, q2, 4, hNk, ?_⟩
      cbv
      refine ⟨m3, ?_⟩
      exact ⟨_, Ent.refl _, ⟨4 + 1, _, s4, ok4, fun j => if j = 8 then v3 else if j = 9 then v4 else f j, by decide, e1, e4, fin _ rfl rfl (fun j h1 h2 => (if_neg h1).trans (if_neg h2))⟩, ⟨rfl, rfl, rfl, rfl, rfl, trivial⟩, ⟨rfl, rfl, rfl, rfl, trivial⟩, by show 8 - (4 + 1) < 8 - 4; decide⟩
    · refine ⟨q1, q2, 5, hNk, ?_⟩
      cbv
      refine ⟨m3, ?_⟩
      exact ⟨_, Ent.refl _, ⟨5 + 1, _, s4, ok4, fun j => if j = 10 then v3 else if j = 11 then v4 else f j, by decide, e1, e4, fin _ rfl rfl (fun j h1 h2 => (if_neg h1).trans (if_neg h2))⟩, ⟨rfl, rfl, rfl, rfl, rfl, trivial⟩, ⟨rfl, rfl, rfl, rfl, trivial⟩, by show 8 - (5 + 1) < 8 - 5; decide⟩
    · refine ⟨q1, q2, 6, hNk, ?_⟩
      cbv
      refine ⟨m3, ?_⟩
      exact ⟨_, Ent.refl _, ⟨6 + 1, _, s4, ok4, fun j => if j = 12 then v3 else if j = 13 then v4 else f j, by decide, e1, e4, fin _ rfl rfl (fun j h1 h2 => (if_neg h1).trans (if_neg h2))⟩, ⟨rfl, rfl, rfl, rfl, rfl, trivial⟩, ⟨rfl, rfl, rfl, rfl, trivial⟩, by show 8 - (6 + 1) < 8 - 6; decide⟩
    · refine ⟨q1, q2, 7, hNk, ?_⟩
      cbv
      refine ⟨m3, ?_⟩
      exact ⟨_, Ent.refl _, ⟨7 + 1, _, s4, ok4, fun j => if j = 14 then v3 else if j = 15 then v4 else f j, by decide, e1, e4, fin _ rfl rfl (fun j h1 h2 => (if_neg h1).trans (if_neg h2))⟩, ⟨rfl, rfl, rfl, rfl, rfl, trivial⟩, ⟨rfl, rfl, rfl, rfl, trivial⟩, by show 8 - (7 + 1) < 8 - 7; decide⟩
  · have h5 : ¬ k < 8 := lt_f hP g
    have hi8 : i = 8 := by ((try simp only [nc] at *); omega)
    subst hi8
    have hcs2 : (cs, ok) = tkS s 18 := hcs
    have r1 : cs = rs := by rw [hrs, ← hcs2]
    have hff : ∀ j, j < 16 → f j = F j := fun j hj => by rw [hf j hj, if_pos (by omega), hF j hj]
    have hle : P.le (P.slen cs) 500 = decide (cs.length ≤ 500) := by rw [slen_eq hP]; subst hP; show decide ((cs.length : Int) ≤ 500) = _; exact decide_eq_decide.2 (by omega)
    have r2 : ok = true → P.le (P.slen cs) 500 = ro := fun h => by rw [hle, hro, ← hcs2, h]; rfl
    have r3 : ok = false → false = ro := fun h => by rw [hro, ← hcs2, h]; rfl
    clear hcs2 hrs hro hF hg0 hg1
    rcases ok with _ | _
    · have r4 := r3 rfl
      cbv
      repeat' (refine Both.mk ?_ ?_)
      all_goals exact hR _ _ f cs _ hff r1 r4 (Ent.refl _) ⟨rfl, rfl, Nat.zero_lt_succ 0, Nat.le_refl 38, rfl⟩
    · have r4 := r2 rfl
      cbv
      repeat' (refine Both.mk ?_ ?_)
      all_goals exact hR _ _ f cs _ hff r1 r4 (Ent.refl _) ⟨rfl, rfl, Nat.zero_lt_succ 0, Nat.le_refl 38, rfl⟩
def headV (s : List UInt8) : V := .agg [.int .i64 (tkN s 0), .int .i64 (tkN s 1), .str (tkS s 18).1, .int .i64 (tkN s (0 + 2)), .int .i64 (tkN s (1 + 2)), .int .i64 (tkN s (2 + 2)), .int .i64 (tkN s (3 + 2)), .int .i64 (tkN s (4 + 2)), .int .i64 (tkN s (5 + 2)), .int .i64 (tkN s (6 + 2)), .int .i64 (tkN s (7 + 2)), .int .i64 (tkN s (8 + 2)), .int .i64 (tkN s (9 + 2)), .int .i64 (tkN s (10 + 2)), .int .i64 (tkN s (11 + 2)), .int .i64 (tkN s (12 + 2)), .int .i64 (tkN s (13 + 2)), .int .i64 (tkN s (14 + 2)), .int .i64 (tkN s (15 + 2)), .int .i64 (tkN s (0 + 2)), .int .i64 (tkN s (1 + 2)), .int .i64 (tkN s (2 + 2)), .int .i64 (tkN s (3 + 2)), .int .i64 (tkN s (4 + 2)), .int .i64 (tkN s (5 + 2)), .int .i64 (tkN s (6 + 2)), .int .i64 (tkN s (7 + 2)), .int .i64 (tkN s (8 + 2)), .int .i64 (tkN s (9 + 2)), .int .i64 (tkN s (10 + 2)), .int .i64 (tkN s (11 + 2)), .int .i64 (tkN s (12 + 2)), .int .i64 (tkN s (13 + 2)), .int .i64 (tkN s (14 + 2)), .int .i64 (tkN s (15 + 2)), .nilsl, .bool false, .int .i64 0]
def V.fz1 : V → Bool
  | .int _ _ => true
  | .str _ => true
  | .bool _ => true
  | .nilsl => true
  | _ => false
theorem fz_all : ∀ {l : List V}, l.all V.fz1 = true → ∀ v ∈ l, Fz v
  | [], _, v, h => by cases h
  | a :: l, h, v, hv => by
    simp only [List.all_cons, Bool.and_eq_true] at h
    rcases List.mem_cons.1 hv with rfl | hv
    · have := h.1
      cases v <;> first | exact .int _ _ | exact .str _ | exact .bool _ | exact .nilsl | (simp [V.fz1] at this)
    · exact fz_all h.2 v hv
theorem headV_fz (s : List UInt8) : Fz (headV s) := .agg _ (fz_all rfl)
def headOk (s : List UInt8) : Bool := (tkS s 18).2 && decide ((tkS s 18).1.length ≤ 500)
theorem sp_head (s : List UInt8) (hs : s.length ≤ maxLen) : Spec Try.prog 69 [.str s] Hp.emp (Is (.tup [headV s, .bool (headOk s)])) :=
  spec_pure dOk ok_head [headV s, .bool (headOk s)] (.tup _ (fun v hv => by
    rcases List.mem_cons.1 hv with rfl | hv
    · exact headV_fz s
    · rw [List.mem_singleton.1 hv]; exact .bool _)) fun R hR => vc_head std rfl _ _ s hs tkC (tkN s 0) (tkN s 1) rfl rfl (fun j => tkN s (j + 2)) (fun _ _ => rfl) (tkS s 18).1 (headOk s) rfl rfl R
    fun s0 s' f cs x hf hcs hx he hr => by
      refine hR s0 s' he ?_
      unfold headV
      rw [hcs, hx, hf 0 (by decide), hf 1 (by decide), hf 2 (by decide), hf 3 (by decide), hf 4 (by decide), hf 5 (by decide), hf 6 (by decide), hf 7 (by decide), hf 8 (by decide), hf 9 (by decide), hf 10 (by decide), hf 11 (by decide), hf 12 (by decide), hf 13 (by decide), hf 14 (by decide), hf 15 (by decide)] at hr
      exact hr
end Go.Proofs.Ytobngncjflogcaa.AM
