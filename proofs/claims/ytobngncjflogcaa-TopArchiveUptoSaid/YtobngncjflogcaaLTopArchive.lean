/-
  TopArchive: whatever is handed in, synced, moved and crashed, in any order: what was safe is there, each text that is there is what it was when it was added, and the archive goes on from what it has. Condition: the arguments are together of bulk at most 1048576 (the second form).
-/
import Derived.Test.YtobngncjflogcaaTopArchive1
import Derived.Test.YtobngncjflogcaaTopArchive4
import Derived.JoinedCond
import Derived.Test.YtobngncjflogcaaTopArchive16
set_option linter.unusedVariables false
set_option linter.unusedSimpArgs false
namespace Go.Proofs.Ytobngncjflogcaa
open Go.ChangeShapes Go.WideShapes Go.ChangeAt Go.RowKit
open AM

set_option maxRecDepth 100000 in
theorem topArchive_lifted (os : Os) (started : os.Started) (H : Type) (enc : TypeId × Value → H) (F : Stop.Interp) :
    ReturnsInHanded {} Try.checked os 6 .any ((Rows.OpenSpec.upto Rows.topArchiveSpec).pre6 enc Try.prog Try.f6 Rows.topArchiveUptoRow.domain false) (((Rows.OpenSpec.upto Rows.topArchiveSpec).at F).post enc Try.prog Try.f6 false true false false) := by
  refine returnsInHanded_of_cond (C := Try.checked) (s := Rows.OpenSpec.upto Rows.topArchiveSpec) (k := Rows.uptoSmall) rfl Try.own started (by kernel_rfl) Try.func6
    (OpenSpec.witness (enc := enc) (C := Try.checked) (s := Rows.OpenSpec.upto Rows.topArchiveSpec) (k := Rows.uptoSmall) rfl false ⟨#[], #[.slice none 0 0, .slice none 0 0], []⟩ 8 (by kernel_rfl) (by kernel_rfl) (by kernel_rfl)
      (x := ([.nil, .nil], [], [])) (by kernel_rfl) rfl (by kernel_rfl)) ?_
  intro W base args ds gs before hval0 hW _ hk _
  have hval : ∀ (j : Nat) t v, Try.f6.params[j]? = some t → args[j]? = some v → Value.okWide Try.prog W .any base t v := hval0
  have hlt : ∀ x ∈ before, x.block < W.heap.size := fun x hx => hW.lt x hx
  have hW' : DataW.Whole enc Try.prog Try.f6.params.toList Rows.topArchiveSpec.vars false W args.toList ds gs before := hW
  obtain ⟨p, q, hA0, hV, rfl, _, _⟩ := hW
  have hA : DataW.TrodAll enc Try.prog W 0 (fun _ => true) true Try.f6.params.toList args.toList ds p := hA0
  rw [Try.params6] at hA hval
  obtain ⟨v0, v1, d0, d1, p0, p1, rfl, rfl, rfl, h0, h1⟩ := trodAll_two hA
  obtain ⟨rfl, rfl⟩ := trodVars_none hV
  obtain ⟨x0, hx0, rx0⟩ := open_one reads_intss (one_slice Try.underlying64 (hval 0 64 v0 rfl rfl)) h0
  obtain ⟨x1, hx1, rx1⟩ := open_one reads_pss (one_slice Try.underlying65 (hval 1 65 v1 rfl rfl)) h1
  have hb : Rows.uptoBulkAll [d0, d1] ≤ 1048576 := by simpa using of_decide_eq_true hk
  simp only [Rows.uptoBulkAll] at hb
  have hl0 := sl_bulk Try.underlying64 h0 rx0
  rw [List.length_map] at hl0
  have hl1 := sl_bulk Try.underlying65 h1 rx1
  rw [List.length_map] at hl1
  refine (law_calls (sp_law_topArchive x0 x1 hx0 hx1 (by omega) (by omega)) (us := #[v0, v1]) rfl (fun i v u hv hu => ?_)).mono fun e W' ⟨he, hb⟩ => ?_
  · match i with
    | 0 => simp at hv hu; subst hv hu; exact rx0
    | 1 => simp at hv hu; subst hv hu; exact rx1
    | i + 2 => simp at hv
  · subst he
    exact ⟨_, rfl, law_post rfl (by kernel_rfl) (by rw [Try.params6]; decide) hW' hlt rfl hb⟩

theorem topArchive_holds : Rows.TopArchiveUptoSaid :=
  OpenClaim.holds_of_cond 6 Try.f6 rfl rfl rfl rfl rfl rfl rfl ⟨rfl, rfl, rfl, rfl, rfl⟩ rfl rfl rfl rfl rfl (by kernel_rfl) Try.func6 (by kernel_rfl)
    (of_decide_eq_true (by kernel_rfl)) (by unfold Func.isWrapper; first | (rw [if_pos (by decide +kernel)]; kernel_rfl) | (rw [if_neg (by decide +kernel)]; exact ⟨rfl, rfl⟩))
    (fun os started H enc _ F => topArchive_lifted os started H enc F)
end Go.Proofs.Ytobngncjflogcaa
