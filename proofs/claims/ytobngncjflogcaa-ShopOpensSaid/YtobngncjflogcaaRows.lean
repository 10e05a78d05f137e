/-
  No cell of these rows narrows 'for every input' (looked for: loops, veiled, ifaces, maps, wideKeys, modest, calm, conditions, laid).
  DERIVED. THE GIVEN ROWS OF THIS SEAT. 4 by the template 'for every input the law returns true; each argument reads behind the call as it read before'; 0 by the template 'total and deterministic' (their statements: YtobngncjflogcaaTotals.lean).
  GIVEN WITH THE SEED: the statements are not yours to turn. If you find one false, say at which input.
  Laid BY PROGRAM, IN A SANDBOX (cutbox-rows.mjs): the forced cells as the released guide's own fill.sh prints them over the translation 579db83f5f35d2ad… (all of the seat's roots in one cut). By AI agents, Wed Nov 11 2026. No macro, syntax, notation, axiom, sorry.
-/
import Derived.Test.YtobngncjflogcaaChecked
import GoSem.Claim
import GoSem.ClaimJoined
import GoSem.ClaimMapViews
import Derived.JoinedTies
import Derived.KernelRfl
namespace Go.Proofs.Ytobngncjflogcaa
/- THE CELL 'sum', in the pinned program and in every row, IS THE sha256 OF THE DUMP (.gsa) THAT YtobngncjflogcaaProg.lean LOADS. Nothing in Lean hashes anything: it is a label: what it is worth is what the hold of that sum in a sandbox is worth. -/
noncomputable def Try.pinned : Pinned := { name := "ytobngncjflogcaa", sum := "579db83f5f35d2adec1eb1930a5a6f440eda5253bf355d564946c3e1bf55c69f", checked := Try.checked }
namespace Rows
def none {H : Type} : Left H := { results := [], args := [] }

/-- 'scrivlaw.ShopOpens': WHATEVER THE INPUT: true; the input reads as it did. -/
def shopOpensSpec : ChangeSpec := { name := "shopOpens", fn := fun _ => fun
  | [d] => { results := [.lit (.bool true)], args := [d] }
  | _ => none }
def shopOpensRow : OpenClaim := { program := "ytobngncjflogcaa", sum := "579db83f5f35d2adec1eb1930a5a6f440eda5253bf355d564946c3e1bf55c69f", func := "scrivenry/scrivlaw.ShopOpens", spec := "shopOpens", inPlace := ["internal/abi.NoEscape"], unfollowed := true, recurses := true, apart := false }
def ShopOpensSaid : Prop := shopOpensRow.holds Try.pinned (OpenSpec.ofChange shopOpensSpec)

/-- ITS FALSE NEIGHBOUR: 'it returns false'. Refute it at one input. -/
def shopOpensWrong : ChangeSpec := { name := "shopOpens", fn := fun _ => fun
  | [d] => { results := [.lit (.bool false)], args := [d] }
  | _ => none }
def ShopOpensWrongFalsely : Prop := shopOpensRow.holds Try.pinned (OpenSpec.ofChange shopOpensWrong)

/-- 'scrivtop.TopUndo': WHATEVER THE INPUT: true; the input reads as it did. -/
def topUndoSpec : ChangeSpec := { name := "topUndo", fn := fun _ => fun
  | [d1, d2, d3] => { results := [.lit (.bool true)], args := [d1, d2, d3] }
  | _ => none }
def topUndoRow : OpenClaim := { program := "ytobngncjflogcaa", sum := "579db83f5f35d2adec1eb1930a5a6f440eda5253bf355d564946c3e1bf55c69f", func := "scrivenry/scrivtop.TopUndo", spec := "topUndo", inPlace := ["internal/abi.NoEscape"], apart := false }
def TopUndoSaid : Prop := topUndoRow.holds Try.pinned (OpenSpec.ofChange topUndoSpec)

/-- ITS FALSE NEIGHBOUR: 'it returns false'. Refute it at one input. -/
def topUndoWrong : ChangeSpec := { name := "topUndo", fn := fun _ => fun
  | [d1, d2, d3] => { results := [.lit (.bool false)], args := [d1, d2, d3] }
  | _ => none }
def TopUndoWrongFalsely : Prop := topUndoRow.holds Try.pinned (OpenSpec.ofChange topUndoWrong)

/-- 'scrivtop.TopKeep': WHATEVER THE INPUT: true; the input reads as it did. -/
def topKeepSpec : ChangeSpec := { name := "topKeep", fn := fun _ => fun
  | [d1, d2] => { results := [.lit (.bool true)], args := [d1, d2] }
  | _ => none }
def topKeepRow : OpenClaim := { program := "ytobngncjflogcaa", sum := "579db83f5f35d2adec1eb1930a5a6f440eda5253bf355d564946c3e1bf55c69f", func := "scrivenry/scrivtop.TopKeep", spec := "topKeep", inPlace := ["internal/abi.NoEscape"], apart := false }
def TopKeepSaid : Prop := topKeepRow.holds Try.pinned (OpenSpec.ofChange topKeepSpec)

/-- ITS FALSE NEIGHBOUR: 'it returns false'. Refute it at one input. -/
def topKeepWrong : ChangeSpec := { name := "topKeep", fn := fun _ => fun
  | [d1, d2] => { results := [.lit (.bool false)], args := [d1, d2] }
  | _ => none }
def TopKeepWrongFalsely : Prop := topKeepRow.holds Try.pinned (OpenSpec.ofChange topKeepWrong)

/-- 'scrivtop.TopArchive': WHATEVER THE INPUT: true; the input reads as it did. -/
def topArchiveSpec : ChangeSpec := { name := "topArchive", fn := fun _ => fun
  | [d1, d2] => { results := [.lit (.bool true)], args := [d1, d2] }
  | _ => none }
def topArchiveRow : OpenClaim := { program := "ytobngncjflogcaa", sum := "579db83f5f35d2adec1eb1930a5a6f440eda5253bf355d564946c3e1bf55c69f", func := "scrivenry/scrivtop.TopArchive", spec := "topArchive", inPlace := ["internal/abi.NoEscape"], apart := false }
def TopArchiveSaid : Prop := topArchiveRow.holds Try.pinned (OpenSpec.ofChange topArchiveSpec)

/-- ITS FALSE NEIGHBOUR: 'it returns false'. Refute it at one input. -/
def topArchiveWrong : ChangeSpec := { name := "topArchive", fn := fun _ => fun
  | [d1, d2] => { results := [.lit (.bool false)], args := [d1, d2] }
  | _ => none }
def TopArchiveWrongFalsely : Prop := topArchiveRow.holds Try.pinned (OpenSpec.ofChange topArchiveWrong)

/- THE SECOND FORM. 'bulk': how many values and letters a reading holds, each counted each time it is reached (what is shared counts as often as it is met; a slice's spare places count too). A statement '..UptoSaid' is the law's where the arguments, and the package variables that the reading takes, are together of bulk at most 1048576: NARROWER than '..Said'. Prove '..Said' where nothing that the law and all that it calls make is longer than what came in: it says more and counts as full. Else prove '..UptoSaid'. A law counts once. -/
mutual
def uptoBulk {H : Type} : DataW H → Nat
  | .lit (.string bytes) => bytes.length + 1
  | .lit _ => 1
  | .nil => 1
  | .ptr d => uptoBulk d + 1
  | .slice elems spare => uptoBulkAll elems + uptoBulkAll spare + 1
  | .agg parts => uptoBulkAll parts + 1
  | .iface _ d => uptoBulk d + 1
  | .map entries => uptoBulkEntries entries + 1
  | .held _ => 1
def uptoBulkAll {H : Type} : List (DataW H) → Nat
  | [] => 0
  | d :: r => uptoBulk d + uptoBulkAll r
def uptoBulkEntries {H : Type} : List (Lit × DataW H) → Nat
  | [] => 0
  | x :: r => uptoBulkEntry x + uptoBulkEntries r
def uptoBulkEntry {H : Type} : Lit × DataW H → Nat
  | (.string bytes, d) => bytes.length + uptoBulk d + 1
  | (_, d) => uptoBulk d + 1
 end
def uptoSmall : (H : Type) → List (DataW H) → Bool := fun _ ds => decide (uptoBulkAll ds ≤ 1048576)
def OpenSpec.upto (s : _root_.Go.ChangeSpec) : _root_.Go.OpenSpec := { _root_.Go.OpenSpec.ofChange s with cond := some uptoSmall }

/-- 'scrivlaw.ShopOpens', WHERE WHAT IT READS IS OF BULK AT MOST 1048576: true; the input reads as it did. -/
def shopOpensUptoRow : OpenClaim := { program := "ytobngncjflogcaa", sum := "579db83f5f35d2adec1eb1930a5a6f440eda5253bf355d564946c3e1bf55c69f", func := "scrivenry/scrivlaw.ShopOpens", spec := "shopOpens", inPlace := ["internal/abi.NoEscape"], unfollowed := true, recurses := true, apart := false, narrowed := true }
def ShopOpensUptoSaid : Prop := shopOpensUptoRow.holds Try.pinned (OpenSpec.upto shopOpensSpec)

/-- 'scrivtop.TopUndo', WHERE WHAT IT READS IS OF BULK AT MOST 1048576: true; the input reads as it did. -/
def topUndoUptoRow : OpenClaim := { program := "ytobngncjflogcaa", sum := "579db83f5f35d2adec1eb1930a5a6f440eda5253bf355d564946c3e1bf55c69f", func := "scrivenry/scrivtop.TopUndo", spec := "topUndo", inPlace := ["internal/abi.NoEscape"], apart := false, narrowed := true }
def TopUndoUptoSaid : Prop := topUndoUptoRow.holds Try.pinned (OpenSpec.upto topUndoSpec)

/-- 'scrivtop.TopKeep', WHERE WHAT IT READS IS OF BULK AT MOST 1048576: true; the input reads as it did. -/
def topKeepUptoRow : OpenClaim := { program := "ytobngncjflogcaa", sum := "579db83f5f35d2adec1eb1930a5a6f440eda5253bf355d564946c3e1bf55c69f", func := "scrivenry/scrivtop.TopKeep", spec := "topKeep", inPlace := ["internal/abi.NoEscape"], apart := false, narrowed := true }
def TopKeepUptoSaid : Prop := topKeepUptoRow.holds Try.pinned (OpenSpec.upto topKeepSpec)

/-- 'scrivtop.TopArchive', WHERE WHAT IT READS IS OF BULK AT MOST 1048576: true; the input reads as it did. -/
def topArchiveUptoRow : OpenClaim := { program := "ytobngncjflogcaa", sum := "579db83f5f35d2adec1eb1930a5a6f440eda5253bf355d564946c3e1bf55c69f", func := "scrivenry/scrivtop.TopArchive", spec := "topArchive", inPlace := ["internal/abi.NoEscape"], apart := false, narrowed := true }
def TopArchiveUptoSaid : Prop := topArchiveUptoRow.holds Try.pinned (OpenSpec.upto topArchiveSpec)

end Rows
end Go.Proofs.Ytobngncjflogcaa
