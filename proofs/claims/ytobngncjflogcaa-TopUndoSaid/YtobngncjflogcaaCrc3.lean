/-
  The walk of crc.Of: byte by byte, by the table.
-/
import Derived.Test.YtobngncjflogcaaCrc2
set_option linter.unusedVariables false
set_option linter.unusedSimpArgs false
namespace Go.Proofs.Ytobngncjflogcaa
open Go.RowKit

set_option maxRecDepth 1000000 in
set_option maxHeartbeats 2000000 in
theorem crcOf_any (s : ByteArray) (w : World) (hs : s.size ≤ maxLen) :
    Calls Try.prog 116 #[.string s] w fun e w' => e = .returned (.int .u32 (crcNat s.data.toList)) ∧ Below w.heap.size w w' := by
  unfold maxLen at hs
  obtain ⟨hz, hi⟩ := zero_of_info Try.info_table
  have hsz : (Try.prog.info? 194).map (·.size) = some (tabCells 256).size := by rw [tabCells_size]; exact hi
  have hs0 : (tabCells 0).size = (tabCells 256).size := by rw [tabCells_size, tabCells_size]
  have HI := Lib.hid hi
  have HSZ := Lib.hid hsz
  have HS0 := Lib.hid hs0
  clear hi hsz hs0
  go_enter Try.func116, Try.ntmps116
  go_wp2_with fail
  refine (table_any _).mono ?_
  rintro e w1 ⟨rfl, hb1⟩
  rw [← tabCells_nil] at hz
  go_wp2_with (refine wpList_store_new rfl 194 (.tmp 3) (.tmp 6) rfl w1 (tabCells 0) (tabCells 256) rfl rfl HSZ.out HS0.out (tabCells_one _) ?_)
  have hcell : ∀ n, n < 256 → (w1.alloc (.cells (tabCells 256) 194)).cell? ⟨w1.heap.size, n, none⟩ = some (tabV n) := fun n hn => by
    rw [World.cell?_alloc_new]; exact tabCells_at n hn
  have HC := Lib.hid hcell
  clear hcell
  go_loop [4, 9] (fun h i => ∃ k : Nat, k ≤ s.size ∧ i = .int .i64 k ∧ ∃ x : BitVec 32, h = .int .u32 (x.toNat : Int) ∧ Hid (x = crcL (s.data.toList.take k))) (fun _ i => s.size - (intOf i).toNat)
  case atStart => exact ⟨0, Nat.zero_le _, rfl, 0xffffffff#32, rfl, rfl⟩
  case round =>
    obtain ⟨k, hk, rfl, x, rfl, HX⟩ := hrel
    by_cases hlt : k < s.size
    · have hbyte : s[k].toNat < 256 := s[k].toNat_lt
      obtain ⟨hw, hn⟩ := low_word x s[k]
      have HT := Lib.hid (tab_word x s[k])
      have hc := HC.out _ hn
      generalize (lowByte (x ^^^ byte32 s[k])).toNat = n at hw hn hc HT
      have ht := tabCells_at n hn
      unfold tabV at hc ht
      clear HC
      generalize crcN 8 (BitVec.ofNat 32 n) = T at hc ht HT
      go_wp2
      go_round
      case rel => exact ⟨k + 1, by omega, by go_num, crcByte x s[k], congrArg _ HT.out, by show _ = _; rw [take_snoc s k hlt, crcL_snoc, HX.out]⟩
      case measure => simp [intOf]; omega
    · go_wp2
      go_ret
      exact ⟨ret_int (by rw [not32, HX.out, List.take_of_length_le (by simp; omega)]; rfl), (hb1.alloc hb1.size _)⟩
end Go.Proofs.Ytobngncjflogcaa
