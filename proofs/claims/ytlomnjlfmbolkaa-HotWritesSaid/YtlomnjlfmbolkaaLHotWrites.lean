/-
  Whatever is handed in, hot.Head, hot.Rev and hot.Done answer what the document says. No condition.
-/
import Derived.Test.YtlomnjlfmbolkaaLaw
import Derived.Test.YtlomnjlfmbolkaaBC
import Derived.Test.YtlomnjlfmbolkaaMHotW
import Derived.Test.YtlomnjlfmbolkaaMFive
set_option linter.unusedVariables false
set_option linter.unusedSimpArgs false
namespace Go.Proofs.Ytlomnjlfmbolkaa
open Go.ChangeShapes Go.WideShapes Go.ChangeAt Go.RowKit
open AM

set_option maxRecDepth 100000 in
theorem hotWrites_lifted (os : Os) (started : os.Started) (H : Type) (enc : TypeId × Value → H) :
    ReturnsInHanded {} Try.checked os 10 .any (Rows.hotWritesSpec.pre6 enc Try.prog Try.f10 Rows.hotWritesRow.domain false) (Rows.hotWritesSpec.post enc Try.prog Try.f10 false true false false) := by
  refine returnsInHanded_of_change_sized (C := Try.checked) Try.own started (by kernel_rfl) Try.func10
    (ChangeSpec.witness6 (enc := enc) (C := Try.checked) false ⟨#[], #[.int .i64 0, .int .i64 0, .string ⟨#[]⟩, .slice none 0 0, .agg #[.int .i64 0, .int .i64 0, .slice none 0 0]], []⟩ 8 (by kernel_rfl) (by kernel_rfl) (by kernel_rfl) (by kernel_rfl)) ?_
  intro W base args ds gs before hval0 hW _ _ _
  have hval : ∀ (j : Nat) t v, Try.f10.params[j]? = some t → args[j]? = some v → Value.okWide Try.prog W .any base t v := hval0
  have hlt : ∀ x ∈ before, x.block < W.heap.size := fun x hx => hW.lt x hx
  have hW' : DataW.Whole enc Try.prog Try.f10.params.toList Rows.hotWritesSpec.vars false W args.toList ds gs before := hW
  obtain ⟨p, q, hA0, hV, rfl, _, _⟩ := hW
  have hA : DataW.TrodAll enc Try.prog W 0 (fun _ => true) true Try.f10.params.toList args.toList ds p := hA0
  rw [Try.params10] at hA hval
  obtain ⟨v0, v1, v2, v3, v4, d0, d1, d2, d3, d4, p0, p1, p2, p3, p4, rfl, rfl, rfl, h0, h1, h2, h3, h4⟩ := trodAll_five hA
  obtain ⟨rfl, rfl⟩ := trodVars_none hV
  obtain ⟨x0, hx0, rx0⟩ := open_one (reads_int Try.underlying3) (one_int Try.underlying3 (hval 0 3 v0 rfl rfl)) h0
  obtain ⟨x1, hx1, rx1⟩ := open_one (reads_int Try.underlying3) (one_int Try.underlying3 (hval 1 3 v1 rfl rfl)) h1
  obtain ⟨x2, hx2, rx2⟩ := open_one (reads_str Try.underlying9) (one_str Try.underlying9 (hval 2 9 v2 rfl rfl)) h2
  obtain ⟨x3, hx3, rx3⟩ := open_one reads_ints (one_slice Try.underlying49 (hval 3 49 v3 rfl rfl)) h3
  obtain ⟨x4, hx4, rx4⟩ := open_many reads_rev ((okWide_struct Try.underlying73 (hval 4 73 v4 rfl rfl)).imp fun _ h => h.1) h4
  refine (law_calls (sp_law_hotWrites x0 x1 x2 x3 x4 hx0 hx1 hx2 hx3 hx4) (us := #[v0, v1, v2, v3, v4]) rfl (fun i v u hv hu => ?_)).mono fun e W' ⟨he, hb⟩ => ?_
  · match i with
    | 0 => simp at hv hu; subst hv hu; exact rx0
    | 1 => simp at hv hu; subst hv hu; exact rx1
    | 2 => simp at hv hu; subst hv hu; exact rx2
    | 3 => simp at hv hu; subst hv hu; exact rx3
    | 4 => simp at hv hu; subst hv hu; exact rx4
    | i + 5 => simp at hv
  · subst he
    exact ⟨_, rfl, law_post rfl (by kernel_rfl) (by rw [Try.params10]; decide) hW' hlt rfl hb⟩

theorem hotWrites_holds : Rows.HotWritesSaid :=
  OpenClaim.holds_of_wide 10 Try.f10 rfl rfl rfl rfl rfl rfl rfl ⟨rfl, rfl, rfl, rfl, rfl⟩ rfl rfl rfl rfl rfl (by kernel_rfl) Try.func10 (by kernel_rfl)
    (of_decide_eq_true (by kernel_rfl)) (by unfold Func.isWrapper; first | (rw [if_pos (by decide +kernel)]; kernel_rfl) | (rw [if_neg (by decide +kernel)]; exact ⟨rfl, rfl⟩))
    (fun os started H enc _ => hotWrites_lifted os started H enc)
end Go.Proofs.Ytlomnjlfmbolkaa
