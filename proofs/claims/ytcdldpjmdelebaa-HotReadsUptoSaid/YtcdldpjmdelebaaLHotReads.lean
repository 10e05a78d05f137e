/-
  Whatever is handed in, hot.Read answers what the document says. Condition: the arguments are together of bulk at most 1048576 (the second form).
-/
import Derived.Test.YtcdldpjmdelebaaLaw
import Derived.Test.YtcdldpjmdelebaaBC
import Derived.JoinedCond
import Derived.Test.YtcdldpjmdelebaaMHotR6
set_option linter.unusedVariables false
set_option linter.unusedSimpArgs false
namespace Go.Proofs.Ytcdldpjmdelebaa
open Go.ChangeShapes Go.WideShapes Go.ChangeAt Go.RowKit
open Go.ChangeMaps (open_string)
open AM

theorem hotReads_own : ownKnob Try.prog.godebug = none := Try.own
theorem str_rel {F B : Nat → Prop} {w : World} (s : ByteArray) : Rel F B w (.str s.data.toList) (.string s) := by
  have h : Rel F B w (.str s.data.toList) (.string ⟨s.data.toList.toArray⟩) := .str _
  simpa using h
set_option maxRecDepth 100000 in
theorem hotReads_lifted (os : Os) (started : os.Started) (H : Type) (enc : TypeId × Value → H) (F : Stop.Interp) :
    ReturnsInHanded {} Try.checked os 4 .any ((Rows.OpenSpec.upto Rows.hotReadsSpec).pre6 enc Try.prog Try.f4 Rows.hotReadsUptoRow.domain false) (((Rows.OpenSpec.upto Rows.hotReadsSpec).at F).post enc Try.prog Try.f4 false true false false) := by
  refine returnsInHanded_of_cond (C := Try.checked) (s := Rows.OpenSpec.upto Rows.hotReadsSpec) (k := Rows.uptoSmall) rfl Try.own started (by kernel_rfl) Try.func4
    (OpenSpec.witness (enc := enc) (C := Try.checked) (s := Rows.OpenSpec.upto Rows.hotReadsSpec) (k := Rows.uptoSmall) rfl false ⟨#[], #[.string .empty], []⟩ 8 (by kernel_rfl) (by kernel_rfl) (by kernel_rfl)
      (x := ([.lit (.string [])], [], [])) (by kernel_rfl) rfl (by kernel_rfl)) ?_
  intro W base args ds gs before hval0 hW _ hk _
  have hval : ∀ (j : Nat) t v, Try.f4.params[j]? = some t → args[j]? = some v → Value.okWide Try.prog W .any base t v := hval0
  have hlt : ∀ x ∈ before, x.block < W.heap.size := fun x hx => hW.lt x hx
  have hW' : DataW.Whole enc Try.prog Try.f4.params.toList Rows.hotReadsSpec.vars false W args.toList ds gs before := hW
  obtain ⟨p, q, hA0, hV, rfl, _, _⟩ := hW
  have hA : DataW.TrodAll enc Try.prog W 0 (fun _ => true) true Try.f4.params.toList args.toList ds p := hA0
  rw [Try.params4] at hA hval
  obtain ⟨v0, d0, rfl, rfl, h0⟩ := trodAll_one hA
  obtain ⟨rfl, rfl⟩ := trodVars_none hV
  obtain ⟨s0, rfl, rfl, rfl, hm0⟩ := open_string Try.underlying9 (hval 0 9 v0 rfl rfl) h0
  have hb : Rows.uptoBulkAll [DataW.lit (H := H) (.string s0.data.toList)] ≤ 1048576 := by simpa using of_decide_eq_true hk
  simp only [Rows.uptoBulkAll, Rows.uptoBulk] at hb
  refine (law_calls (sp_law_hotReads s0.data.toList (by omega)) (us := #[.string s0]) rfl (fun i v u hv hu => ?_)).mono fun e W' ⟨he, hb⟩ => ?_
  · match i with
    | 0 => simp at hv hu; subst hv hu; exact str_rel s0
    | i + 1 => simp at hv
  · subst he
    exact ⟨_, rfl, law_post rfl (by kernel_rfl) (by rw [Try.params4]; decide) hW' hlt rfl hb⟩

theorem hotReads_holds : Rows.HotReadsUptoSaid :=
  OpenClaim.holds_of_cond 4 Try.f4 rfl rfl rfl rfl rfl rfl rfl ⟨rfl, rfl, rfl, rfl, rfl⟩ rfl rfl rfl rfl rfl (by kernel_rfl) Try.func4 (by kernel_rfl)
    (of_decide_eq_true (by kernel_rfl)) (by unfold Func.isWrapper; first | (rw [if_pos (by decide +kernel)]; kernel_rfl) | (rw [if_neg (by decide +kernel)]; exact ⟨rfl, rfl⟩))
    (fun os started H enc _ F => hotReads_lifted os started H enc F)
end Go.Proofs.Ytcdldpjmdelebaa
