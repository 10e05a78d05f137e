/-
  TopUndo: a revision is taken back, and that is taken back: the text is what it was; and what is taken back is blamed on nobody any longer. No condition.
-/
import Derived.Test.YtobngncjflogcaaLaw
import Derived.Test.YtobngncjflogcaaBC
import Derived.Test.YtobngncjflogcaaBE
set_option linter.unusedVariables false
set_option linter.unusedSimpArgs false
namespace Go.Proofs.Ytobngncjflogcaa
open Go.ChangeShapes Go.WideShapes Go.ChangeAt Go.RowKit
open AM

set_option maxRecDepth 100000 in
theorem topUndo_lifted (os : Os) (started : os.Started) (H : Type) (enc : TypeId × Value → H) :
    ReturnsInHanded {} Try.checked os 4 .any (Rows.topUndoSpec.pre6 enc Try.prog Try.f4 Rows.topUndoRow.domain false) (Rows.topUndoSpec.post enc Try.prog Try.f4 false true false false) := by
  refine returnsInHanded_of_change_sized (C := Try.checked) Try.own started (by kernel_rfl) Try.func4
    (ChangeSpec.witness6 (enc := enc) (C := Try.checked) false ⟨#[], #[.string ⟨#[]⟩, .slice none 0 0, .int .i64 0], []⟩ 8 (by kernel_rfl) (by kernel_rfl) (by kernel_rfl) (by kernel_rfl)) ?_
  intro W base args ds gs before hval0 hW _ _ _
  have hval : ∀ (j : Nat) t v, Try.f4.params[j]? = some t → args[j]? = some v → Value.okWide Try.prog W .any base t v := hval0
  have hlt : ∀ x ∈ before, x.block < W.heap.size := fun x hx => hW.lt x hx
  have hW' : DataW.Whole enc Try.prog Try.f4.params.toList Rows.topUndoSpec.vars false W args.toList ds gs before := hW
  obtain ⟨p, q, hA0, hV, rfl, _, _⟩ := hW
  have hA : DataW.TrodAll enc Try.prog W 0 (fun _ => true) true Try.f4.params.toList args.toList ds p := hA0
  rw [Try.params4] at hA hval
  obtain ⟨v0, v1, v2, d0, d1, d2, p0, p1, p2, rfl, rfl, rfl, h0, h1, h2⟩ := trodAll_three hA
  obtain ⟨rfl, rfl⟩ := trodVars_none hV
  obtain ⟨x0, hx0, rx0⟩ := open_one (reads_str Try.underlying9) (one_str Try.underlying9 (hval 0 9 v0 rfl rfl)) h0
  obtain ⟨x1, hx1, rx1⟩ := open_one reads_revs (one_slice Try.underlying36 (hval 1 36 v1 rfl rfl)) h1
  obtain ⟨x2, hx2, rx2⟩ := open_one (reads_int Try.underlying3) (one_int Try.underlying3 (hval 2 3 v2 rfl rfl)) h2
  refine (law_calls (sp_law_topUndo x0 x1 x2 hx0 hx1 hx2) (us := #[v0, v1, v2]) rfl (fun i v u hv hu => ?_)).mono fun e W' ⟨he, hb⟩ => ?_
  · match i with
    | 0 => simp at hv hu; subst hv hu; exact rx0
    | 1 => simp at hv hu; subst hv hu; exact rx1
    | 2 => simp at hv hu; subst hv hu; exact rx2
    | i + 3 => simp at hv
  · subst he
    exact ⟨_, rfl, law_post rfl (by kernel_rfl) (by rw [Try.params4]; decide) hW' hlt rfl hb⟩

theorem topUndo_holds : Rows.TopUndoSaid :=
  OpenClaim.holds_of_wide 4 Try.f4 rfl rfl rfl rfl rfl rfl rfl ⟨rfl, rfl, rfl, rfl, rfl⟩ rfl rfl rfl rfl rfl (by kernel_rfl) Try.func4 (by kernel_rfl)
    (of_decide_eq_true (by kernel_rfl)) (by unfold Func.isWrapper; first | (rw [if_pos (by decide +kernel)]; kernel_rfl) | (rw [if_neg (by decide +kernel)]; exact ⟨rfl, rfl⟩))
    (fun os started H enc _ => topUndo_lifted os started H enc)
end Go.Proofs.Ytobngncjflogcaa
