/-
  Whatever is handed in, tier.Between answers what the document says. No condition.
-/
import Derived.Test.YtcdldpjmdelebaaLaw
import Derived.Test.YtcdldpjmdelebaaBC
import Derived.Test.YtcdldpjmdelebaaMTBtw
set_option linter.unusedVariables false
set_option linter.unusedSimpArgs false
namespace Go.Proofs.Ytcdldpjmdelebaa
open Go.ChangeShapes Go.WideShapes Go.ChangeAt Go.RowKit
open AM

set_option maxRecDepth 100000 in
theorem tierBetweens_lifted (os : Os) (started : os.Started) (H : Type) (enc : TypeId × Value → H) :
    ReturnsInHanded {} Try.checked os 5 .any (Rows.tierBetweensSpec.pre6 enc Try.prog Try.f5 Rows.tierBetweensRow.domain false) (Rows.tierBetweensSpec.post enc Try.prog Try.f5 false true false false) := by
  refine returnsInHanded_of_change_sized (C := Try.checked) Try.own started (by kernel_rfl) Try.func5
    (ChangeSpec.witness6 (enc := enc) (C := Try.checked) false ⟨#[], #[.slice none 0 0, .int .i64 0, .int .i64 0], []⟩ 8 (by kernel_rfl) (by kernel_rfl) (by kernel_rfl) (by kernel_rfl)) ?_
  intro W base args ds gs before hval0 hW _ _ _
  have hval : ∀ (j : Nat) t v, Try.f5.params[j]? = some t → args[j]? = some v → Value.okWide Try.prog W .any base t v := hval0
  have hlt : ∀ x ∈ before, x.block < W.heap.size := fun x hx => hW.lt x hx
  have hW' : DataW.Whole enc Try.prog Try.f5.params.toList Rows.tierBetweensSpec.vars false W args.toList ds gs before := hW
  obtain ⟨p, q, hA0, hV, rfl, _, _⟩ := hW
  have hA : DataW.TrodAll enc Try.prog W 0 (fun _ => true) true Try.f5.params.toList args.toList ds p := hA0
  rw [Try.params5] at hA hval
  obtain ⟨v0, v1, v2, d0, d1, d2, p0, p1, p2, rfl, rfl, rfl, h0, h1, h2⟩ := trodAll_three hA
  obtain ⟨rfl, rfl⟩ := trodVars_none hV
  obtain ⟨x0, hx0, rx0⟩ := open_one reads_partsss (one_slice Try.underlying42 (hval 0 42 v0 rfl rfl)) h0
  obtain ⟨x1, hx1, rx1⟩ := open_one (reads_int Try.underlying3) (one_int Try.underlying3 (hval 1 3 v1 rfl rfl)) h1
  obtain ⟨x2, hx2, rx2⟩ := open_one (reads_int Try.underlying3) (one_int Try.underlying3 (hval 2 3 v2 rfl rfl)) h2
  refine (law_calls (sp_law_tierBetweens x0 x1 x2 hx0 hx1 hx2) (us := #[v0, v1, v2]) rfl (fun i v u hv hu => ?_)).mono fun e W' ⟨he, hb⟩ => ?_
  · match i with
    | 0 => simp at hv hu; subst hv hu; exact rx0
    | 1 => simp at hv hu; subst hv hu; exact rx1
    | 2 => simp at hv hu; subst hv hu; exact rx2
    | i + 3 => simp at hv
  · subst he
    exact ⟨_, rfl, law_post rfl (by kernel_rfl) (by rw [Try.params5]; decide) hW' hlt rfl hb⟩

theorem tierBetweens_holds : Rows.TierBetweensSaid :=
  OpenClaim.holds_of_wide 5 Try.f5 rfl rfl rfl rfl rfl rfl rfl ⟨rfl, rfl, rfl, rfl, rfl⟩ rfl rfl rfl rfl rfl (by kernel_rfl) Try.func5 (by kernel_rfl)
    (of_decide_eq_true (by kernel_rfl)) (by unfold Func.isWrapper; first | (rw [if_pos (by decide +kernel)]; kernel_rfl) | (rw [if_neg (by decide +kernel)]; exact ⟨rfl, rfl⟩))
    (fun os started H enc _ => tierBetweens_lifted os started H enc)
end Go.Proofs.Ytcdldpjmdelebaa
