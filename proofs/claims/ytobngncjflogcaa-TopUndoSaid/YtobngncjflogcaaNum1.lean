/-
  The walks of num.Put and scrivref.Num.
-/
import Derived.Test.YtobngncjflogcaaRows
import Derived.Test.YtobngncjflogcaaNum0
import Derived.Test.YtobngncjflogcaaHash0
import Derived.WalkKit
import Derived.WalkSpells
import Derived.WalkLawsBesides
import Derived.Lib.Hide
import Derived.Laws.IdiomStrings
import Derived.Deep.RegionWith
set_option linter.unusedVariables false
set_option linter.unusedSimpArgs false
namespace Go.Proofs.Ytobngncjflogcaa
open Go.RowKit

theorem Try.info_byte : (Try.prog.info? 5).map (fun i => (i.zero, i.size, i.bytes)) = some (some (.int .u8 0), 1, 1) := by kernel_rfl

/-- a text of one byte -/
theorem conv_one (n : Int) (h0 : 0 ≤ n) (h1 : n < 256) (w : World) :
    (convert 111 9 (.slice (some ⟨w.heap.size, 0, none⟩) 1 1)).run Try.prog (w.alloc (.cells #[.int .u8 n] 5)) = .ok (.string ⟨[bt n.toNat].toArray⟩) (w.alloc (.cells #[.int .u8 n] 5)) := by
  have h := run_convert_bytes_back (P := Try.prog) (w.alloc (.cells #[.int .u8 n] 5)) 111 9 5 ⟨w.heap.size, 0, none⟩ 1 [bt n.toNat] Try.underlying111 Try.underlying5 Try.underlying9 (fun j hj => by
    obtain rfl : j = 0 := by simp at hj; omega
    show (w.alloc _).cell? ⟨w.heap.size, 0, none⟩ = _
    rw [World.cell?_alloc_new]
    simp only [List.getElem_cons_zero, bt_toNat n.toNat (by omega)]
    simp; omega)
  exact h

theorem conv_one_drew (n : Int) (h0 : 0 ≤ n) (h1 : n < 256) (w : World) :
    (convert 111 9 (.slice (some ⟨w.heap.size, 0, none⟩) 1 1)).run Try.prog (w.alloc (.cells #[.int .u8 n] 5)).drew = .ok (.string ⟨[bt n.toNat].toArray⟩) (w.alloc (.cells #[.int .u8 n] 5)).drew :=
  conv_one n h0 h1 w.drew

theorem conv_below (n : Int) (h0 : 0 ≤ n) (h1 : n < 256) (w w1 : World) (hb : Below (w.alloc (.cells #[.int .u8 n] 5)).drew.heap.size (w.alloc (.cells #[.int .u8 n] 5)).drew w1) :
    (convert 111 9 (.slice (some ⟨w.heap.size, 0, none⟩) 1 1)).run Try.prog w1 = .ok (.string ⟨[bt n.toNat].toArray⟩) w1 := by
  have h := run_convert_bytes_back (P := Try.prog) w1 111 9 5 ⟨w.heap.size, 0, none⟩ 1 [bt n.toNat] Try.underlying111 Try.underlying5 Try.underlying9 (fun j hj => by
    obtain rfl : j = 0 := by simp at hj; omega
    show w1.cell? ⟨w.heap.size, 0, none⟩ = _
    rw [hb.cell (by show w.heap.size < (w.alloc _).heap.size; simp)]
    show (w.alloc _).cell? _ = _
    rw [World.cell?_alloc_new]
    simp only [List.getElem_cons_zero, bt_toNat n.toNat (by omega)]
    simp; omega)
  exact h

set_option maxRecDepth 100000 in
set_option maxHeartbeats 400000 in
theorem num_any (f : Nat) : f ≤ 4 → ∀ (n : Int) (w : World), 0 ≤ n → n < 128 ^ (f + 1) → n ≤ 2147483647 →
    Calls Try.prog 122 #[.int .i64 n] w fun e w' => e = .returned (.string ⟨(numF (f + 1) n.toNat).toArray⟩) ∧ Below w.heap.size w w' := by
  induction f with
  | zero =>
    intro hf n w h0 h1 h2
    have h3 : n < 128 := by simpa using h1
    have hcv := conv_one n h0 (by omega) w
    have HF := Lib.hid (numF_small 0 n.toNat (by omega))
    clear h1
    go_enter Try.func122, Try.ntmps122
    go_wp2_with fail
    go_ret
    exact ⟨by rw [HF.out]; rfl, (Below.refl _ _).alloc (Nat.le_refl _) _⟩
  | succ f ih =>
    intro hf n w h0 h1 h2
    by_cases h3 : n < 128
    · have hcv := conv_one n h0 (by omega) w
      have HF := Lib.hid (numF_small (f + 1) n.toNat (by omega))
      clear h1 ih
      go_enter Try.func122, Try.ntmps122
      go_wp2_with fail
      go_ret
      exact ⟨by rw [HF.out]; rfl, (Below.refl _ _).alloc (Nat.le_refl _) _⟩
    · have HF := Lib.hid (numF_large (f + 1) n.toNat (by omega))
      have h4 : n / 128 < 128 ^ (f + 1) := by
        rw [Int.pow_succ] at h1
        exact Int.ediv_lt_of_lt_mul (by decide) h1
      have IH := Lib.hid (fun w => ih (by omega) (n / 128) w (by omega) h4 (by omega))
      clear h1 ih h4
      obtain ⟨r, hr, hr0, hr1, HR⟩ : ∃ r : Int, n.tmod 128 = r ∧ 0 ≤ r ∧ r < 128 ∧ Hid (r = n % 128) := ⟨n % 128, by rw [Int.tmod_eq_emod_of_nonneg h0], by omega, by omega, rfl⟩
      obtain ⟨q, hq, hq0, hq1, HQ⟩ : ∃ q : Int, n.tdiv 128 = q ∧ 0 ≤ q ∧ q ≤ 2147483647 ∧ Hid (q = n / 128) := ⟨n / 128, by rw [Int.tdiv_eq_ediv_of_nonneg h0], by omega, by omega, rfl⟩
      have hw1 : IntKind.i64.wrap (128 + r) = 128 + r := IntWalk.i64_in _ (by omega)
      have hw2 : IntKind.u8.wrap (128 + r) = 128 + r := by rw [IntKind.wrap_u8]; omega
      have hw3 : IntKind.i64.wrap q = q := IntWalk.i64_in _ (by omega)
      have hcv := conv_one (128 + r) (by omega) (by omega)
      have hcw := conv_one_drew (128 + r) (by omega) (by omega)
      rw [← HQ.out] at IH
      have hl : (numF (f + 1) q.toNat).length ≤ 5 := Nat.le_trans (numF_len _ _) (by omega)
      have hadd := fun w => run_string_add_sum (P := Try.prog) w ⟨[bt (128 + r).toNat].toArray⟩ ⟨(numF (f + 1) q.toNat).toArray⟩ (by simp [ByteArray.size]; omega)
      have HE : Hid ((⟨#[bt (128 + r).toNat]⟩ : ByteArray) ++ ⟨(numF (f + 1) q.toNat).toArray⟩ = ⟨(numF (f + 1 + 1) n.toNat).toArray⟩) := by
        show _ = _
        rw [HF.out, ByteArray.mk_append_mk, HQ.out, HR.out, show (128 + n % 128).toNat = 128 + n.toNat % 128 by omega, show (n / 128).toNat = n.toNat / 128 by omega]
        simp
      go_enter Try.func122, Try.ntmps122
      go_wp2_with fail
      go_region_with (go_at_call 122; refine (IH.out _).mono ?_; rintro e w1 ⟨rfl, hb1⟩; (first | (have hc1 := conv_below (128 + r) (by omega) (by omega) w w1 hb1) | skip))
      all_goals go_wp2_with fail
      all_goals go_ret
      all_goals refine ⟨ret_str HE.out, ?_⟩
      all_goals first
        | exact ((Below.refl _ _).drew.trans hb1).alloc hb1.size _
        | exact ((Below.refl _ _).alloc (Nat.le_refl _) _).drew.trans (hb1.mono (by show w.heap.size ≤ (w.alloc _).heap.size; simp))
end Go.Proofs.Ytobngncjflogcaa
