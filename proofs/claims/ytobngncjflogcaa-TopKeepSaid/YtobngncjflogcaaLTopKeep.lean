/-
  TopKeep: with a policy's floor kept, step by step, all that the policy keeps is there, and what is below the floor is gone. No condition.
-/
import Derived.Test.YtobngncjflogcaaTopKeep1
import Derived.Test.YtobngncjflogcaaTopKeep4
import Derived.Test.YtobngncjflogcaaTopKeep12
set_option linter.unusedVariables false
set_option linter.unusedSimpArgs false
namespace Go.Proofs.Ytobngncjflogcaa
open Go.ChangeShapes Go.WideShapes Go.ChangeAt Go.RowKit
open AM

set_option maxRecDepth 100000 in
theorem topKeep_lifted (os : Os) (started : os.Started) (H : Type) (enc : TypeId × Value → H) :
    ReturnsInHanded {} Try.checked os 5 .any (Rows.topKeepSpec.pre6 enc Try.prog Try.f5 Rows.topKeepRow.domain false) (Rows.topKeepSpec.post enc Try.prog Try.f5 false true false false) := by
  refine returnsInHanded_of_change_sized (C := Try.checked) Try.own started (by kernel_rfl) Try.func5
    (ChangeSpec.witness6 (enc := enc) (C := Try.checked) false ⟨#[], #[.slice none 0 0, .agg #[.int .i64 0, .int .i64 0, .slice none 0 0]], []⟩ 8 (by kernel_rfl) (by kernel_rfl) (by kernel_rfl) (by kernel_rfl)) ?_
  intro W base args ds gs before hval0 hW _ _ _
  have hval : ∀ (j : Nat) t v, Try.f5.params[j]? = some t → args[j]? = some v → Value.okWide Try.prog W .any base t v := hval0
  have hlt : ∀ x ∈ before, x.block < W.heap.size := fun x hx => hW.lt x hx
  have hW' : DataW.Whole enc Try.prog Try.f5.params.toList Rows.topKeepSpec.vars false W args.toList ds gs before := hW
  obtain ⟨p, q, hA0, hV, rfl, _, _⟩ := hW
  have hA : DataW.TrodAll enc Try.prog W 0 (fun _ => true) true Try.f5.params.toList args.toList ds p := hA0
  rw [Try.params5] at hA hval
  obtain ⟨v0, v1, d0, d1, p0, p1, rfl, rfl, rfl, h0, h1⟩ := trodAll_two hA
  obtain ⟨rfl, rfl⟩ := trodVars_none hV
  obtain ⟨x0, hx0, rx0⟩ := open_one reads_revs (one_slice Try.underlying36 (hval 0 36 v0 rfl rfl)) h0
  obtain ⟨x1, hx1, rx1⟩ := open_many reads_policy ((okWide_struct Try.underlying53 (hval 1 53 v1 rfl rfl)).imp fun _ h => h.1) h1
  refine (law_calls (sp_law_topKeep x0 x1 hx0 hx1) (us := #[v0, v1]) rfl (fun i v u hv hu => ?_)).mono fun e W' ⟨he, hb⟩ => ?_
  · match i with
    | 0 => simp at hv hu; subst hv hu; exact rx0
    | 1 => simp at hv hu; subst hv hu; exact rx1
    | i + 2 => simp at hv
  · subst he
    exact ⟨_, rfl, law_post rfl (by kernel_rfl) (by rw [Try.params5]; decide) hW' hlt rfl hb⟩

theorem topKeep_holds : Rows.TopKeepSaid :=
  OpenClaim.holds_of_wide 5 Try.f5 rfl rfl rfl rfl rfl rfl rfl ⟨rfl, rfl, rfl, rfl, rfl⟩ rfl rfl rfl rfl rfl (by kernel_rfl) Try.func5 (by kernel_rfl)
    (of_decide_eq_true (by kernel_rfl)) (by unfold Func.isWrapper; first | (rw [if_pos (by decide +kernel)]; kernel_rfl) | (rw [if_neg (by decide +kernel)]; exact ⟨rfl, rfl⟩))
    (fun os started H enc _ => topKeep_lifted os started H enc)
end Go.Proofs.Ytobngncjflogcaa
