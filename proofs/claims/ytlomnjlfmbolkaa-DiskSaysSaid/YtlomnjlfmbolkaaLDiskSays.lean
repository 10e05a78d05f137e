/-
  Whatever is handed in, disk.Check, disk.Append, disk.Sync and disk.Trim answer what the document says. No condition.
-/
import Derived.Test.YtlomnjlfmbolkaaLaw
import Derived.Test.YtlomnjlfmbolkaaBC
import Derived.Test.YtlomnjlfmbolkaaMDisk2
import Derived.Carry
set_option linter.unusedVariables false
set_option linter.unusedSimpArgs false
namespace Go.Proofs.Ytlomnjlfmbolkaa
open Go.ChangeShapes Go.WideShapes Go.ChangeAt Go.RowKit
open AM

set_option maxRecDepth 100000 in
theorem diskSays_lifted (os : Os) (started : os.Started) (H : Type) (enc : TypeId × Value → H) :
    ReturnsInHanded {} Try.checked os 5 .any (Rows.diskSaysSpec.pre6 enc Try.prog Try.f5 Rows.diskSaysRow.domain false) (Rows.diskSaysSpec.post enc Try.prog Try.f5 false true false false) := by
  refine returnsInHanded_of_change_sized (C := Try.checked) Try.own started (by kernel_rfl) Try.func5
    (ChangeSpec.witness6 (enc := enc) (C := Try.checked) false ⟨#[], #[.agg #[.string ⟨#[]⟩, .int .i64 0, .string ⟨#[]⟩, .int .i64 0], .int .i64 0, .string ⟨#[]⟩, .int .i64 0], []⟩ 8 (by kernel_rfl) (by kernel_rfl) (by kernel_rfl) (by kernel_rfl)) ?_
  intro W base args ds gs before hval0 hW _ hsz0 _
  have hsz : (DataW.weightsEach Try.prog (Try.f5.params.toList ++ Rows.diskSaysSpec.plain.varTypes Try.prog) (ds ++ gs)).all (· ≤ reachBytes) = true := hsz0
  clear hsz0
  have hval : ∀ (j : Nat) t v, Try.f5.params[j]? = some t → args[j]? = some v → Value.okWide Try.prog W .any base t v := hval0
  have hlt : ∀ x ∈ before, x.block < W.heap.size := fun x hx => hW.lt x hx
  have hW' : DataW.Whole enc Try.prog Try.f5.params.toList Rows.diskSaysSpec.vars false W args.toList ds gs before := hW
  obtain ⟨p, q, hA0, hV, rfl, _, _⟩ := hW
  have hA : DataW.TrodAll enc Try.prog W 0 (fun _ => true) true Try.f5.params.toList args.toList ds p := hA0
  rw [Try.params5] at hA hval hsz
  obtain ⟨v0, v1, v2, v3, d0, d1, d2, d3, p0, p1, p2, p3, rfl, rfl, rfl, h0, h1, h2, h3⟩ := trodAll_four hA
  obtain ⟨rfl, rfl⟩ := trodVars_none hV
  obtain ⟨x0, hx0, rx0⟩ := open_many reads_disk ((okWide_struct Try.underlying42 (hval 0 42 v0 rfl rfl)).imp fun _ h => h.1) h0
  obtain ⟨x1, hx1, rx1⟩ := open_one (reads_int Try.underlying3) (one_int Try.underlying3 (hval 1 3 v1 rfl rfl)) h1
  obtain ⟨s2, rfl, rfl, rfl, hm2⟩ := Go.ChangeMaps.open_string Try.underlying9 (hval 2 9 v2 rfl rfl) h2
  obtain ⟨x3, hx3, rx3⟩ := open_one (reads_int Try.underlying3) (one_int Try.underlying3 (hval 3 3 v3 rfl rfl)) h3
  have hx2 : s2.data.toList.length ≤ 140737488355328 := by
    have h1 := sized_string hsz (j := 2) rfl rfl
    have h2 := reachBytes_lt
    omega
  have rx2 : Rel (OldB W) (fun _ => False) W (.str s2.data.toList) (.string s2) := by
    have h : Rel (OldB W) (fun _ => False) W (.str s2.data.toList) (.string ⟨s2.data.toList.toArray⟩) := .str _
    simpa using h
  refine (law_calls (sp_law_diskSays x0 x1 s2.data.toList x3 hx0 hx1 hx2 hx3) (us := #[v0, v1, .string s2, v3]) rfl (fun i v u hv hu => ?_)).mono fun e W' ⟨he, hb⟩ => ?_
  · match i with
    | 0 => simp at hv hu; subst hv hu; exact rx0
    | 1 => simp at hv hu; subst hv hu; exact rx1
    | 2 => simp at hv hu; subst hv hu; exact rx2
    | 3 => simp at hv hu; subst hv hu; exact rx3
    | i + 4 => simp at hv
  · subst he
    exact ⟨_, rfl, law_post rfl (by kernel_rfl) (by rw [Try.params5]; decide) hW' hlt rfl hb⟩

theorem diskSays_holds : Rows.DiskSaysSaid :=
  OpenClaim.holds_of_wide 5 Try.f5 rfl rfl rfl rfl rfl rfl rfl ⟨rfl, rfl, rfl, rfl, rfl⟩ rfl rfl rfl rfl rfl (by kernel_rfl) Try.func5 (by kernel_rfl)
    (of_decide_eq_true (by kernel_rfl)) (by unfold Func.isWrapper; first | (rw [if_pos (by decide +kernel)]; kernel_rfl) | (rw [if_neg (by decide +kernel)]; exact ⟨rfl, rfl⟩))
    (fun os started H enc _ => diskSays_lifted os started H enc)
end Go.Proofs.Ytlomnjlfmbolkaa
