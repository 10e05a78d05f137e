/-
  No cell of these rows narrows 'for every input' (looked for: loops, veiled, ifaces, maps, wideKeys, modest, calm, conditions, laid).
  DERIVED. THE GIVEN ROWS OF THIS SEAT. 8 by the template 'for every input the law returns true; each argument reads behind the call as it read before'; 0 by the template 'total and deterministic' (their statements: YtcdldpjmdelebaaTotals.lean).
  GIVEN WITH THE SEED: the statements are not yours to turn. If you find one false, say at which input.
  Laid BY PROGRAM, IN A SANDBOX (cutbox-rows.mjs): the forced cells as the released guide's own fill.sh prints them over the translation 1c2d5680fc5c439f… (all of the seat's roots in one cut). By AI agents, Wed Nov 11 2026. No macro, syntax, notation, axiom, sorry.
-/
import Derived.Test.YtcdldpjmdelebaaChecked
import GoSem.Claim
import GoSem.ClaimJoined
import GoSem.ClaimMapViews
import Derived.JoinedTies
import Derived.KernelRfl
namespace Go.Proofs.Ytcdldpjmdelebaa
/- THE CELL 'sum', in the pinned program and in every row, IS THE sha256 OF THE DUMP (.gsa) THAT YtcdldpjmdelebaaProg.lean LOADS. Nothing in Lean hashes anything: it is a label: what it is worth is what the hold of that sum in a sandbox is worth. -/
noncomputable def Try.pinned : Pinned := { name := "ytcdldpjmdelebaa", sum := "1c2d5680fc5c439fd630bbde18801fc90bfa5419a49966d20afa8f87b60cfd1f", checked := Try.checked }
namespace Rows
def none {H : Type} : Left H := { results := [], args := [] }

/-- 'scrivlaw.ClientIns': WHATEVER THE INPUT: true; the input reads as it did. -/
def clientInsSpec : ChangeSpec := { name := "clientIns", fn := fun _ => fun
  | [d1, d2] => { results := [.lit (.bool true)], args := [d1, d2] }
  | _ => none }
def clientInsRow : OpenClaim := { program := "ytcdldpjmdelebaa", sum := "1c2d5680fc5c439fd630bbde18801fc90bfa5419a49966d20afa8f87b60cfd1f", func := "scrivenry/scrivlaw.ClientIns", spec := "clientIns", inPlace := ["internal/abi.NoEscape"], unfollowed := true, recurses := true, apart := false }
def ClientInsSaid : Prop := clientInsRow.holds Try.pinned (OpenSpec.ofChange clientInsSpec)

/-- ITS FALSE NEIGHBOUR: 'it returns false'. Refute it at one input. -/
def clientInsWrong : ChangeSpec := { name := "clientIns", fn := fun _ => fun
  | [d1, d2] => { results := [.lit (.bool false)], args := [d1, d2] }
  | _ => none }
def ClientInsWrongFalsely : Prop := clientInsRow.holds Try.pinned (OpenSpec.ofChange clientInsWrong)

/-- 'scrivlaw.HotReads': WHATEVER THE INPUT: true; the input reads as it did. -/
def hotReadsSpec : ChangeSpec := { name := "hotReads", fn := fun _ => fun
  | [d] => { results := [.lit (.bool true)], args := [d] }
  | _ => none }
def hotReadsRow : OpenClaim := { program := "ytcdldpjmdelebaa", sum := "1c2d5680fc5c439fd630bbde18801fc90bfa5419a49966d20afa8f87b60cfd1f", func := "scrivenry/scrivlaw.HotReads", spec := "hotReads", inPlace := ["internal/abi.NoEscape"], unfollowed := true, recurses := true, apart := false }
def HotReadsSaid : Prop := hotReadsRow.holds Try.pinned (OpenSpec.ofChange hotReadsSpec)

/-- ITS FALSE NEIGHBOUR: 'it returns false'. Refute it at one input. -/
def hotReadsWrong : ChangeSpec := { name := "hotReads", fn := fun _ => fun
  | [d] => { results := [.lit (.bool false)], args := [d] }
  | _ => none }
def HotReadsWrongFalsely : Prop := hotReadsRow.holds Try.pinned (OpenSpec.ofChange hotReadsWrong)

/-- 'scrivlaw.TierBetweens': WHATEVER THE INPUT: true; the input reads as it did. -/
def tierBetweensSpec : ChangeSpec := { name := "tierBetweens", fn := fun _ => fun
  | [d1, d2, d3] => { results := [.lit (.bool true)], args := [d1, d2, d3] }
  | _ => none }
def tierBetweensRow : OpenClaim := { program := "ytcdldpjmdelebaa", sum := "1c2d5680fc5c439fd630bbde18801fc90bfa5419a49966d20afa8f87b60cfd1f", func := "scrivenry/scrivlaw.TierBetweens", spec := "tierBetweens", inPlace := ["internal/abi.NoEscape", "internal/bytealg.MakeNoZero"], unfollowed := true, recurses := true, apart := false }
def TierBetweensSaid : Prop := tierBetweensRow.holds Try.pinned (OpenSpec.ofChange tierBetweensSpec)

/-- ITS FALSE NEIGHBOUR: 'it returns false'. Refute it at one input. -/
def tierBetweensWrong : ChangeSpec := { name := "tierBetweens", fn := fun _ => fun
  | [d1, d2, d3] => { results := [.lit (.bool false)], args := [d1, d2, d3] }
  | _ => none }
def TierBetweensWrongFalsely : Prop := tierBetweensRow.holds Try.pinned (OpenSpec.ofChange tierBetweensWrong)

/-- 'scrivlaw.RevsBetweens': WHATEVER THE INPUT: true; the input reads as it did. -/
def revsBetweensSpec : ChangeSpec := { name := "revsBetweens", fn := fun _ => fun
  | [d1, d2, d3, d4] => { results := [.lit (.bool true)], args := [d1, d2, d3, d4] }
  | _ => none }
def revsBetweensRow : OpenClaim := { program := "ytcdldpjmdelebaa", sum := "1c2d5680fc5c439fd630bbde18801fc90bfa5419a49966d20afa8f87b60cfd1f", func := "scrivenry/scrivlaw.RevsBetweens", spec := "revsBetweens", inPlace := ["internal/abi.NoEscape", "internal/bytealg.MakeNoZero"], unfollowed := true, recurses := true, apart := false }
def RevsBetweensSaid : Prop := revsBetweensRow.holds Try.pinned (OpenSpec.ofChange revsBetweensSpec)

/-- ITS FALSE NEIGHBOUR: 'it returns false'. Refute it at one input. -/
def revsBetweensWrong : ChangeSpec := { name := "revsBetweens", fn := fun _ => fun
  | [d1, d2, d3, d4] => { results := [.lit (.bool false)], args := [d1, d2, d3, d4] }
  | _ => none }
def RevsBetweensWrongFalsely : Prop := revsBetweensRow.holds Try.pinned (OpenSpec.ofChange revsBetweensWrong)

/-- 'scrivlaw.ClientEdits': WHATEVER THE INPUT: true; the input reads as it did. -/
def clientEditsSpec : ChangeSpec := { name := "clientEdits", fn := fun _ => fun
  | [d1, d2] => { results := [.lit (.bool true)], args := [d1, d2] }
  | _ => none }
def clientEditsRow : OpenClaim := { program := "ytcdldpjmdelebaa", sum := "1c2d5680fc5c439fd630bbde18801fc90bfa5419a49966d20afa8f87b60cfd1f", func := "scrivenry/scrivlaw.ClientEdits", spec := "clientEdits", inPlace := ["internal/abi.NoEscape", "internal/bytealg.MakeNoZero"], unfollowed := true, recurses := true, apart := false }
def ClientEditsSaid : Prop := clientEditsRow.holds Try.pinned (OpenSpec.ofChange clientEditsSpec)

/-- ITS FALSE NEIGHBOUR: 'it returns false'. Refute it at one input. -/
def clientEditsWrong : ChangeSpec := { name := "clientEdits", fn := fun _ => fun
  | [d1, d2] => { results := [.lit (.bool false)], args := [d1, d2] }
  | _ => none }
def ClientEditsWrongFalsely : Prop := clientEditsRow.holds Try.pinned (OpenSpec.ofChange clientEditsWrong)

/-- 'scrivlaw.TierBuilds': WHATEVER THE INPUT: true; the input reads as it did. -/
def tierBuildsSpec : ChangeSpec := { name := "tierBuilds", fn := fun _ => fun
  | [d1, d2] => { results := [.lit (.bool true)], args := [d1, d2] }
  | _ => none }
def tierBuildsRow : OpenClaim := { program := "ytcdldpjmdelebaa", sum := "1c2d5680fc5c439fd630bbde18801fc90bfa5419a49966d20afa8f87b60cfd1f", func := "scrivenry/scrivlaw.TierBuilds", spec := "tierBuilds", inPlace := ["internal/abi.NoEscape", "internal/bytealg.MakeNoZero"], unfollowed := true, recurses := true, apart := false }
def TierBuildsSaid : Prop := tierBuildsRow.holds Try.pinned (OpenSpec.ofChange tierBuildsSpec)

/-- ITS FALSE NEIGHBOUR: 'it returns false'. Refute it at one input. -/
def tierBuildsWrong : ChangeSpec := { name := "tierBuilds", fn := fun _ => fun
  | [d1, d2] => { results := [.lit (.bool false)], args := [d1, d2] }
  | _ => none }
def TierBuildsWrongFalsely : Prop := tierBuildsRow.holds Try.pinned (OpenSpec.ofChange tierBuildsWrong)

/-- 'scrivlaw.CatchSays': WHATEVER THE INPUT: true; the input reads as it did. -/
def catchSaysSpec : ChangeSpec := { name := "catchSays", fn := fun _ => fun
  | [d1, d2, d3, d4] => { results := [.lit (.bool true)], args := [d1, d2, d3, d4] }
  | _ => none }
def catchSaysRow : OpenClaim := { program := "ytcdldpjmdelebaa", sum := "1c2d5680fc5c439fd630bbde18801fc90bfa5419a49966d20afa8f87b60cfd1f", func := "scrivenry/scrivlaw.CatchSays", spec := "catchSays", inPlace := ["internal/abi.NoEscape", "internal/bytealg.MakeNoZero"], unfollowed := true, recurses := true, apart := false }
def CatchSaysSaid : Prop := catchSaysRow.holds Try.pinned (OpenSpec.ofChange catchSaysSpec)

/-- ITS FALSE NEIGHBOUR: 'it returns false'. Refute it at one input. -/
def catchSaysWrong : ChangeSpec := { name := "catchSays", fn := fun _ => fun
  | [d1, d2, d3, d4] => { results := [.lit (.bool false)], args := [d1, d2, d3, d4] }
  | _ => none }
def CatchSaysWrongFalsely : Prop := catchSaysRow.holds Try.pinned (OpenSpec.ofChange catchSaysWrong)

/-- 'scrivlaw.ShopOpens': WHATEVER THE INPUT: true; the input reads as it did. -/
def shopOpensSpec : ChangeSpec := { name := "shopOpens", fn := fun _ => fun
  | [d] => { results := [.lit (.bool true)], args := [d] }
  | _ => none }
def shopOpensRow : OpenClaim := { program := "ytcdldpjmdelebaa", sum := "1c2d5680fc5c439fd630bbde18801fc90bfa5419a49966d20afa8f87b60cfd1f", func := "scrivenry/scrivlaw.ShopOpens", spec := "shopOpens", inPlace := ["internal/abi.NoEscape"], unfollowed := true, recurses := true, apart := false }
def ShopOpensSaid : Prop := shopOpensRow.holds Try.pinned (OpenSpec.ofChange shopOpensSpec)

/-- ITS FALSE NEIGHBOUR: 'it returns false'. Refute it at one input. -/
def shopOpensWrong : ChangeSpec := { name := "shopOpens", fn := fun _ => fun
  | [d] => { results := [.lit (.bool false)], args := [d] }
  | _ => none }
def ShopOpensWrongFalsely : Prop := shopOpensRow.holds Try.pinned (OpenSpec.ofChange shopOpensWrong)

/- THE SECOND FORM. 'bulk': how many values and letters a reading holds, each counted each time it is reached (what is shared counts as often as it is met; a slice's spare places count too). A statement '..UptoSaid' is the law's where the arguments, and the package variables that the reading takes, are together of bulk at most 1048576: NARROWER than '..Said'. Prove '..Said' where nothing that the law and all that it calls make is longer than what came in: it says more and counts as full. Else prove '..UptoSaid'. A law counts once. -/
mutual
def uptoBulk {H : Type} : DataW H → Nat
  | .lit (.string bytes) => bytes.length + 1
  | .lit _ => 1
  | .nil => 1
  | .ptr d => uptoBulk d + 1
  | .slice elems spare => uptoBulkAll elems + uptoBulkAll spare + 1
  | .agg parts => uptoBulkAll parts + 1
  | .iface _ d => uptoBulk d + 1
  | .map entries => uptoBulkEntries entries + 1
  | .held _ => 1
def uptoBulkAll {H : Type} : List (DataW H) → Nat
  | [] => 0
  | d :: r => uptoBulk d + uptoBulkAll r
def uptoBulkEntries {H : Type} : List (Lit × DataW H) → Nat
  | [] => 0
  | x :: r => uptoBulkEntry x + uptoBulkEntries r
def uptoBulkEntry {H : Type} : Lit × DataW H → Nat
  | (.string bytes, d) => bytes.length + uptoBulk d + 1
  | (_, d) => uptoBulk d + 1
 end
def uptoSmall : (H : Type) → List (DataW H) → Bool := fun _ ds => decide (uptoBulkAll ds ≤ 1048576)
def OpenSpec.upto (s : _root_.Go.ChangeSpec) : _root_.Go.OpenSpec := { _root_.Go.OpenSpec.ofChange s with cond := some uptoSmall }

/-- 'scrivlaw.ClientIns', WHERE WHAT IT READS IS OF BULK AT MOST 1048576: true; the input reads as it did. -/
def clientInsUptoRow : OpenClaim := { program := "ytcdldpjmdelebaa", sum := "1c2d5680fc5c439fd630bbde18801fc90bfa5419a49966d20afa8f87b60cfd1f", func := "scrivenry/scrivlaw.ClientIns", spec := "clientIns", inPlace := ["internal/abi.NoEscape"], unfollowed := true, recurses := true, apart := false, narrowed := true }
def ClientInsUptoSaid : Prop := clientInsUptoRow.holds Try.pinned (OpenSpec.upto clientInsSpec)

/-- 'scrivlaw.HotReads', WHERE WHAT IT READS IS OF BULK AT MOST 1048576: true; the input reads as it did. -/
def hotReadsUptoRow : OpenClaim := { program := "ytcdldpjmdelebaa", sum := "1c2d5680fc5c439fd630bbde18801fc90bfa5419a49966d20afa8f87b60cfd1f", func := "scrivenry/scrivlaw.HotReads", spec := "hotReads", inPlace := ["internal/abi.NoEscape"], unfollowed := true, recurses := true, apart := false, narrowed := true }
def HotReadsUptoSaid : Prop := hotReadsUptoRow.holds Try.pinned (OpenSpec.upto hotReadsSpec)

/-- 'scrivlaw.TierBetweens', WHERE WHAT IT READS IS OF BULK AT MOST 1048576: true; the input reads as it did. -/
def tierBetweensUptoRow : OpenClaim := { program := "ytcdldpjmdelebaa", sum := "1c2d5680fc5c439fd630bbde18801fc90bfa5419a49966d20afa8f87b60cfd1f", func := "scrivenry/scrivlaw.TierBetweens", spec := "tierBetweens", inPlace := ["internal/abi.NoEscape", "internal/bytealg.MakeNoZero"], unfollowed := true, recurses := true, apart := false, narrowed := true }
def TierBetweensUptoSaid : Prop := tierBetweensUptoRow.holds Try.pinned (OpenSpec.upto tierBetweensSpec)

/-- 'scrivlaw.RevsBetweens', WHERE WHAT IT READS IS OF BULK AT MOST 1048576: true; the input reads as it did. -/
def revsBetweensUptoRow : OpenClaim := { program := "ytcdldpjmdelebaa", sum := "1c2d5680fc5c439fd630bbde18801fc90bfa5419a49966d20afa8f87b60cfd1f", func := "scrivenry/scrivlaw.RevsBetweens", spec := "revsBetweens", inPlace := ["internal/abi.NoEscape", "internal/bytealg.MakeNoZero"], unfollowed := true, recurses := true, apart := false, narrowed := true }
def RevsBetweensUptoSaid : Prop := revsBetweensUptoRow.holds Try.pinned (OpenSpec.upto revsBetweensSpec)

/-- 'scrivlaw.ClientEdits', WHERE WHAT IT READS IS OF BULK AT MOST 1048576: true; the input reads as it did. -/
def clientEditsUptoRow : OpenClaim := { program := "ytcdldpjmdelebaa", sum := "1c2d5680fc5c439fd630bbde18801fc90bfa5419a49966d20afa8f87b60cfd1f", func := "scrivenry/scrivlaw.ClientEdits", spec := "clientEdits", inPlace := ["internal/abi.NoEscape", "internal/bytealg.MakeNoZero"], unfollowed := true, recurses := true, apart := false, narrowed := true }
def ClientEditsUptoSaid : Prop := clientEditsUptoRow.holds Try.pinned (OpenSpec.upto clientEditsSpec)

/-- 'scrivlaw.TierBuilds', WHERE WHAT IT READS IS OF BULK AT MOST 1048576: true; the input reads as it did. -/
def tierBuildsUptoRow : OpenClaim := { program := "ytcdldpjmdelebaa", sum := "1c2d5680fc5c439fd630bbde18801fc90bfa5419a49966d20afa8f87b60cfd1f", func := "scrivenry/scrivlaw.TierBuilds", spec := "tierBuilds", inPlace := ["internal/abi.NoEscape", "internal/bytealg.MakeNoZero"], unfollowed := true, recurses := true, apart := false, narrowed := true }
def TierBuildsUptoSaid : Prop := tierBuildsUptoRow.holds Try.pinned (OpenSpec.upto tierBuildsSpec)

/-- 'scrivlaw.CatchSays', WHERE WHAT IT READS IS OF BULK AT MOST 1048576: true; the input reads as it did. -/
def catchSaysUptoRow : OpenClaim := { program := "ytcdldpjmdelebaa", sum := "1c2d5680fc5c439fd630bbde18801fc90bfa5419a49966d20afa8f87b60cfd1f", func := "scrivenry/scrivlaw.CatchSays", spec := "catchSays", inPlace := ["internal/abi.NoEscape", "internal/bytealg.MakeNoZero"], unfollowed := true, recurses := true, apart := false, narrowed := true }
def CatchSaysUptoSaid : Prop := catchSaysUptoRow.holds Try.pinned (OpenSpec.upto catchSaysSpec)

/-- 'scrivlaw.ShopOpens', WHERE WHAT IT READS IS OF BULK AT MOST 1048576: true; the input reads as it did. -/
def shopOpensUptoRow : OpenClaim := { program := "ytcdldpjmdelebaa", sum := "1c2d5680fc5c439fd630bbde18801fc90bfa5419a49966d20afa8f87b60cfd1f", func := "scrivenry/scrivlaw.ShopOpens", spec := "shopOpens", inPlace := ["internal/abi.NoEscape"], unfollowed := true, recurses := true, apart := false, narrowed := true }
def ShopOpensUptoSaid : Prop := shopOpensUptoRow.holds Try.pinned (OpenSpec.upto shopOpensSpec)

end Rows
end Go.Proofs.Ytcdldpjmdelebaa
