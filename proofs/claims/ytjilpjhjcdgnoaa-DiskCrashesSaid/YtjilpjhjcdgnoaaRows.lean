/-
  No cell of these rows narrows 'for every input' (looked for: loops, veiled, ifaces, maps, wideKeys, modest, calm, conditions, laid).
  DERIVED. THE GIVEN ROWS OF THIS SEAT. 12 by the template 'for every input the law returns true; each argument reads behind the call as it read before'; 0 by the template 'total and deterministic' (their statements: YtjilpjhjcdgnoaaTotals.lean).
  GIVEN WITH THE SEED: the statements are not yours to turn. If you find one false, say at which input.
  Laid BY PROGRAM, IN A SANDBOX (cutbox-rows.mjs): the forced cells as the released guide's own fill.sh prints them over the translation 33fe78546d7317eb… (all of the seat's roots in one cut). By AI agents, Wed Nov 11 2026. No macro, syntax, notation, axiom, sorry.
-/
import Derived.Test.YtjilpjhjcdgnoaaChecked
import GoSem.Claim
import GoSem.ClaimJoined
import GoSem.ClaimMapViews
import Derived.JoinedTies
import Derived.KernelRfl
namespace Go.Proofs.Ytjilpjhjcdgnoaa
/- THE CELL 'sum', in the pinned program and in every row, IS THE sha256 OF THE DUMP (.gsa) THAT YtjilpjhjcdgnoaaProg.lean LOADS. Nothing in Lean hashes anything: it is a label: what it is worth is what the hold of that sum in a sandbox is worth. -/
noncomputable def Try.pinned : Pinned := { name := "ytjilpjhjcdgnoaa", sum := "33fe78546d7317eb795b8a6428575fd568c6d8ada78ecf35374fdebd87622bc3", checked := Try.checked }
namespace Rows
def none {H : Type} : Left H := { results := [], args := [] }

/-- 'scrivlaw.Names': WHATEVER THE INPUT: true; the input reads as it did. -/
def namesSpec : ChangeSpec := { name := "names", fn := fun _ => fun
  | [] => { results := [.lit (.bool true)], args := [] }
  | _ => none }
def namesRow : OpenClaim := { program := "ytjilpjhjcdgnoaa", sum := "33fe78546d7317eb795b8a6428575fd568c6d8ada78ecf35374fdebd87622bc3", func := "scrivenry/scrivlaw.Names", spec := "names", apart := false }
def NamesSaid : Prop := namesRow.holds Try.pinned (OpenSpec.ofChange namesSpec)

/-- ITS FALSE NEIGHBOUR: 'it returns false'. Refute it at one input. -/
def namesWrong : ChangeSpec := { name := "names", fn := fun _ => fun
  | [] => { results := [.lit (.bool false)], args := [] }
  | _ => none }
def NamesWrongFalsely : Prop := namesRow.holds Try.pinned (OpenSpec.ofChange namesWrong)

/-- 'scrivlaw.HashSays': WHATEVER THE INPUT: true; the input reads as it did. -/
def hashSaysSpec : ChangeSpec := { name := "hashSays", fn := fun _ => fun
  | [d] => { results := [.lit (.bool true)], args := [d] }
  | _ => none }
def hashSaysRow : OpenClaim := { program := "ytjilpjhjcdgnoaa", sum := "33fe78546d7317eb795b8a6428575fd568c6d8ada78ecf35374fdebd87622bc3", func := "scrivenry/scrivlaw.HashSays", spec := "hashSays", apart := false }
def HashSaysSaid : Prop := hashSaysRow.holds Try.pinned (OpenSpec.ofChange hashSaysSpec)

/-- ITS FALSE NEIGHBOUR: 'it returns false'. Refute it at one input. -/
def hashSaysWrong : ChangeSpec := { name := "hashSays", fn := fun _ => fun
  | [d] => { results := [.lit (.bool false)], args := [d] }
  | _ => none }
def HashSaysWrongFalsely : Prop := hashSaysRow.holds Try.pinned (OpenSpec.ofChange hashSaysWrong)

/-- 'scrivlaw.HashJoins': WHATEVER THE INPUT: true; the input reads as it did. -/
def hashJoinsSpec : ChangeSpec := { name := "hashJoins", fn := fun _ => fun
  | [d1, d2, d3] => { results := [.lit (.bool true)], args := [d1, d2, d3] }
  | _ => none }
def hashJoinsRow : OpenClaim := { program := "ytjilpjhjcdgnoaa", sum := "33fe78546d7317eb795b8a6428575fd568c6d8ada78ecf35374fdebd87622bc3", func := "scrivenry/scrivlaw.HashJoins", spec := "hashJoins", recurses := true, apart := false }
def HashJoinsSaid : Prop := hashJoinsRow.holds Try.pinned (OpenSpec.ofChange hashJoinsSpec)

/-- ITS FALSE NEIGHBOUR: 'it returns false'. Refute it at one input. -/
def hashJoinsWrong : ChangeSpec := { name := "hashJoins", fn := fun _ => fun
  | [d1, d2, d3] => { results := [.lit (.bool false)], args := [d1, d2, d3] }
  | _ => none }
def HashJoinsWrongFalsely : Prop := hashJoinsRow.holds Try.pinned (OpenSpec.ofChange hashJoinsWrong)

/-- 'scrivlaw.CrcSays': WHATEVER THE INPUT: true; the input reads as it did. -/
def crcSaysSpec : ChangeSpec := { name := "crcSays", fn := fun _ => fun
  | [d] => { results := [.lit (.bool true)], args := [d] }
  | _ => none }
def crcSaysRow : OpenClaim := { program := "ytjilpjhjcdgnoaa", sum := "33fe78546d7317eb795b8a6428575fd568c6d8ada78ecf35374fdebd87622bc3", func := "scrivenry/scrivlaw.CrcSays", spec := "crcSays", apart := false }
def CrcSaysSaid : Prop := crcSaysRow.holds Try.pinned (OpenSpec.ofChange crcSaysSpec)

/-- ITS FALSE NEIGHBOUR: 'it returns false'. Refute it at one input. -/
def crcSaysWrong : ChangeSpec := { name := "crcSays", fn := fun _ => fun
  | [d] => { results := [.lit (.bool false)], args := [d] }
  | _ => none }
def CrcSaysWrongFalsely : Prop := crcSaysRow.holds Try.pinned (OpenSpec.ofChange crcSaysWrong)

/-- 'scrivlaw.DiskCrashes': WHATEVER THE INPUT: true; the input reads as it did. -/
def diskCrashesSpec : ChangeSpec := { name := "diskCrashes", fn := fun _ => fun
  | [d1, d2, d3] => { results := [.lit (.bool true)], args := [d1, d2, d3] }
  | _ => none }
def diskCrashesRow : OpenClaim := { program := "ytjilpjhjcdgnoaa", sum := "33fe78546d7317eb795b8a6428575fd568c6d8ada78ecf35374fdebd87622bc3", func := "scrivenry/scrivlaw.DiskCrashes", spec := "diskCrashes", apart := false }
def DiskCrashesSaid : Prop := diskCrashesRow.holds Try.pinned (OpenSpec.ofChange diskCrashesSpec)

/-- ITS FALSE NEIGHBOUR: 'it returns false'. Refute it at one input. -/
def diskCrashesWrong : ChangeSpec := { name := "diskCrashes", fn := fun _ => fun
  | [d1, d2, d3] => { results := [.lit (.bool false)], args := [d1, d2, d3] }
  | _ => none }
def DiskCrashesWrongFalsely : Prop := diskCrashesRow.holds Try.pinned (OpenSpec.ofChange diskCrashesWrong)

/-- 'scrivlaw.NumSays': WHATEVER THE INPUT: true; the input reads as it did. -/
def numSaysSpec : ChangeSpec := { name := "numSays", fn := fun _ => fun
  | [d1, d2] => { results := [.lit (.bool true)], args := [d1, d2] }
  | _ => none }
def numSaysRow : OpenClaim := { program := "ytjilpjhjcdgnoaa", sum := "33fe78546d7317eb795b8a6428575fd568c6d8ada78ecf35374fdebd87622bc3", func := "scrivenry/scrivlaw.NumSays", spec := "numSays", recurses := true, apart := false }
def NumSaysSaid : Prop := numSaysRow.holds Try.pinned (OpenSpec.ofChange numSaysSpec)

/-- ITS FALSE NEIGHBOUR: 'it returns false'. Refute it at one input. -/
def numSaysWrong : ChangeSpec := { name := "numSays", fn := fun _ => fun
  | [d1, d2] => { results := [.lit (.bool false)], args := [d1, d2] }
  | _ => none }
def NumSaysWrongFalsely : Prop := numSaysRow.holds Try.pinned (OpenSpec.ofChange numSaysWrong)

/-- 'scrivlaw.TierCovers': WHATEVER THE INPUT: true; the input reads as it did. -/
def tierCoversSpec : ChangeSpec := { name := "tierCovers", fn := fun _ => fun
  | [d1, d2] => { results := [.lit (.bool true)], args := [d1, d2] }
  | _ => none }
def tierCoversRow : OpenClaim := { program := "ytjilpjhjcdgnoaa", sum := "33fe78546d7317eb795b8a6428575fd568c6d8ada78ecf35374fdebd87622bc3", func := "scrivenry/scrivlaw.TierCovers", spec := "tierCovers", recurses := true, apart := false }
def TierCoversSaid : Prop := tierCoversRow.holds Try.pinned (OpenSpec.ofChange tierCoversSpec)

/-- ITS FALSE NEIGHBOUR: 'it returns false'. Refute it at one input. -/
def tierCoversWrong : ChangeSpec := { name := "tierCovers", fn := fun _ => fun
  | [d1, d2] => { results := [.lit (.bool false)], args := [d1, d2] }
  | _ => none }
def TierCoversWrongFalsely : Prop := tierCoversRow.holds Try.pinned (OpenSpec.ofChange tierCoversWrong)

/-- 'scrivlaw.FrameSays': WHATEVER THE INPUT: true; the input reads as it did. -/
def frameSaysSpec : ChangeSpec := { name := "frameSays", fn := fun _ => fun
  | [d1, d2] => { results := [.lit (.bool true)], args := [d1, d2] }
  | _ => none }
def frameSaysRow : OpenClaim := { program := "ytjilpjhjcdgnoaa", sum := "33fe78546d7317eb795b8a6428575fd568c6d8ada78ecf35374fdebd87622bc3", func := "scrivenry/scrivlaw.FrameSays", spec := "frameSays", apart := false }
def FrameSaysSaid : Prop := frameSaysRow.holds Try.pinned (OpenSpec.ofChange frameSaysSpec)

/-- ITS FALSE NEIGHBOUR: 'it returns false'. Refute it at one input. -/
def frameSaysWrong : ChangeSpec := { name := "frameSays", fn := fun _ => fun
  | [d1, d2] => { results := [.lit (.bool false)], args := [d1, d2] }
  | _ => none }
def FrameSaysWrongFalsely : Prop := frameSaysRow.holds Try.pinned (OpenSpec.ofChange frameSaysWrong)

/-- 'scrivlaw.DiskSays': WHATEVER THE INPUT: true; the input reads as it did. -/
def diskSaysSpec : ChangeSpec := { name := "diskSays", fn := fun _ => fun
  | [d1, d2, d3, d4] => { results := [.lit (.bool true)], args := [d1, d2, d3, d4] }
  | _ => none }
def diskSaysRow : OpenClaim := { program := "ytjilpjhjcdgnoaa", sum := "33fe78546d7317eb795b8a6428575fd568c6d8ada78ecf35374fdebd87622bc3", func := "scrivenry/scrivlaw.DiskSays", spec := "diskSays", apart := false }
def DiskSaysSaid : Prop := diskSaysRow.holds Try.pinned (OpenSpec.ofChange diskSaysSpec)

/-- ITS FALSE NEIGHBOUR: 'it returns false'. Refute it at one input. -/
def diskSaysWrong : ChangeSpec := { name := "diskSays", fn := fun _ => fun
  | [d1, d2, d3, d4] => { results := [.lit (.bool false)], args := [d1, d2, d3, d4] }
  | _ => none }
def DiskSaysWrongFalsely : Prop := diskSaysRow.holds Try.pinned (OpenSpec.ofChange diskSaysWrong)

/-- 'scrivlaw.HashFinds': WHATEVER THE INPUT: true; the input reads as it did. -/
def hashFindsSpec : ChangeSpec := { name := "hashFinds", fn := fun _ => fun
  | [d1, d2] => { results := [.lit (.bool true)], args := [d1, d2] }
  | _ => none }
def hashFindsRow : OpenClaim := { program := "ytjilpjhjcdgnoaa", sum := "33fe78546d7317eb795b8a6428575fd568c6d8ada78ecf35374fdebd87622bc3", func := "scrivenry/scrivlaw.HashFinds", spec := "hashFinds", apart := false }
def HashFindsSaid : Prop := hashFindsRow.holds Try.pinned (OpenSpec.ofChange hashFindsSpec)

/-- ITS FALSE NEIGHBOUR: 'it returns false'. Refute it at one input. -/
def hashFindsWrong : ChangeSpec := { name := "hashFinds", fn := fun _ => fun
  | [d1, d2] => { results := [.lit (.bool false)], args := [d1, d2] }
  | _ => none }
def HashFindsWrongFalsely : Prop := hashFindsRow.holds Try.pinned (OpenSpec.ofChange hashFindsWrong)

/-- 'scrivlaw.PartChecks': WHATEVER THE INPUT: true; the input reads as it did. -/
def partChecksSpec : ChangeSpec := { name := "partChecks", fn := fun _ => fun
  | [d] => { results := [.lit (.bool true)], args := [d] }
  | _ => none }
def partChecksRow : OpenClaim := { program := "ytjilpjhjcdgnoaa", sum := "33fe78546d7317eb795b8a6428575fd568c6d8ada78ecf35374fdebd87622bc3", func := "scrivenry/scrivlaw.PartChecks", spec := "partChecks", apart := false }
def PartChecksSaid : Prop := partChecksRow.holds Try.pinned (OpenSpec.ofChange partChecksSpec)

/-- ITS FALSE NEIGHBOUR: 'it returns false'. Refute it at one input. -/
def partChecksWrong : ChangeSpec := { name := "partChecks", fn := fun _ => fun
  | [d] => { results := [.lit (.bool false)], args := [d] }
  | _ => none }
def PartChecksWrongFalsely : Prop := partChecksRow.holds Try.pinned (OpenSpec.ofChange partChecksWrong)

/-- 'scrivlaw.FrameScans': WHATEVER THE INPUT: true; the input reads as it did. -/
def frameScansSpec : ChangeSpec := { name := "frameScans", fn := fun _ => fun
  | [d] => { results := [.lit (.bool true)], args := [d] }
  | _ => none }
def frameScansRow : OpenClaim := { program := "ytjilpjhjcdgnoaa", sum := "33fe78546d7317eb795b8a6428575fd568c6d8ada78ecf35374fdebd87622bc3", func := "scrivenry/scrivlaw.FrameScans", spec := "frameScans", recurses := true, apart := false }
def FrameScansSaid : Prop := frameScansRow.holds Try.pinned (OpenSpec.ofChange frameScansSpec)

/-- ITS FALSE NEIGHBOUR: 'it returns false'. Refute it at one input. -/
def frameScansWrong : ChangeSpec := { name := "frameScans", fn := fun _ => fun
  | [d] => { results := [.lit (.bool false)], args := [d] }
  | _ => none }
def FrameScansWrongFalsely : Prop := frameScansRow.holds Try.pinned (OpenSpec.ofChange frameScansWrong)

/- THE SECOND FORM. 'bulk': how many values and letters a reading holds, each counted each time it is reached (what is shared counts as often as it is met; a slice's spare places count too). A statement '..UptoSaid' is the law's where the arguments, and the package variables that the reading takes, are together of bulk at most 1048576: NARROWER than '..Said'. Prove '..Said' where nothing that the law and all that it calls make is longer than what came in: it says more and counts as full. Else prove '..UptoSaid'. A law counts once. -/
mutual
def uptoBulk {H : Type} : DataW H → Nat
  | .lit (.string bytes) => bytes.length + 1
  | .lit _ => 1
  | .nil => 1
  | .ptr d => uptoBulk d + 1
  | .slice elems spare => uptoBulkAll elems + uptoBulkAll spare + 1
  | .agg parts => uptoBulkAll parts + 1
  | .iface _ d => uptoBulk d + 1
  | .map entries => uptoBulkEntries entries + 1
  | .held _ => 1
def uptoBulkAll {H : Type} : List (DataW H) → Nat
  | [] => 0
  | d :: r => uptoBulk d + uptoBulkAll r
def uptoBulkEntries {H : Type} : List (Lit × DataW H) → Nat
  | [] => 0
  | x :: r => uptoBulkEntry x + uptoBulkEntries r
def uptoBulkEntry {H : Type} : Lit × DataW H → Nat
  | (.string bytes, d) => bytes.length + uptoBulk d + 1
  | (_, d) => uptoBulk d + 1
 end
def uptoSmall : (H : Type) → List (DataW H) → Bool := fun _ ds => decide (uptoBulkAll ds ≤ 1048576)
def OpenSpec.upto (s : _root_.Go.ChangeSpec) : _root_.Go.OpenSpec := { _root_.Go.OpenSpec.ofChange s with cond := some uptoSmall }

/-- 'scrivlaw.Names', WHERE WHAT IT READS IS OF BULK AT MOST 1048576: true; the input reads as it did. -/
def namesUptoRow : OpenClaim := { program := "ytjilpjhjcdgnoaa", sum := "33fe78546d7317eb795b8a6428575fd568c6d8ada78ecf35374fdebd87622bc3", func := "scrivenry/scrivlaw.Names", spec := "names", apart := false, narrowed := true }
def NamesUptoSaid : Prop := namesUptoRow.holds Try.pinned (OpenSpec.upto namesSpec)

/-- 'scrivlaw.HashSays', WHERE WHAT IT READS IS OF BULK AT MOST 1048576: true; the input reads as it did. -/
def hashSaysUptoRow : OpenClaim := { program := "ytjilpjhjcdgnoaa", sum := "33fe78546d7317eb795b8a6428575fd568c6d8ada78ecf35374fdebd87622bc3", func := "scrivenry/scrivlaw.HashSays", spec := "hashSays", apart := false, narrowed := true }
def HashSaysUptoSaid : Prop := hashSaysUptoRow.holds Try.pinned (OpenSpec.upto hashSaysSpec)

/-- 'scrivlaw.HashJoins', WHERE WHAT IT READS IS OF BULK AT MOST 1048576: true; the input reads as it did. -/
def hashJoinsUptoRow : OpenClaim := { program := "ytjilpjhjcdgnoaa", sum := "33fe78546d7317eb795b8a6428575fd568c6d8ada78ecf35374fdebd87622bc3", func := "scrivenry/scrivlaw.HashJoins", spec := "hashJoins", recurses := true, apart := false, narrowed := true }
def HashJoinsUptoSaid : Prop := hashJoinsUptoRow.holds Try.pinned (OpenSpec.upto hashJoinsSpec)

/-- 'scrivlaw.CrcSays', WHERE WHAT IT READS IS OF BULK AT MOST 1048576: true; the input reads as it did. -/
def crcSaysUptoRow : OpenClaim := { program := "ytjilpjhjcdgnoaa", sum := "33fe78546d7317eb795b8a6428575fd568c6d8ada78ecf35374fdebd87622bc3", func := "scrivenry/scrivlaw.CrcSays", spec := "crcSays", apart := false, narrowed := true }
def CrcSaysUptoSaid : Prop := crcSaysUptoRow.holds Try.pinned (OpenSpec.upto crcSaysSpec)

/-- 'scrivlaw.DiskCrashes', WHERE WHAT IT READS IS OF BULK AT MOST 1048576: true; the input reads as it did. -/
def diskCrashesUptoRow : OpenClaim := { program := "ytjilpjhjcdgnoaa", sum := "33fe78546d7317eb795b8a6428575fd568c6d8ada78ecf35374fdebd87622bc3", func := "scrivenry/scrivlaw.DiskCrashes", spec := "diskCrashes", apart := false, narrowed := true }
def DiskCrashesUptoSaid : Prop := diskCrashesUptoRow.holds Try.pinned (OpenSpec.upto diskCrashesSpec)

/-- 'scrivlaw.NumSays', WHERE WHAT IT READS IS OF BULK AT MOST 1048576: true; the input reads as it did. -/
def numSaysUptoRow : OpenClaim := { program := "ytjilpjhjcdgnoaa", sum := "33fe78546d7317eb795b8a6428575fd568c6d8ada78ecf35374fdebd87622bc3", func := "scrivenry/scrivlaw.NumSays", spec := "numSays", recurses := true, apart := false, narrowed := true }
def NumSaysUptoSaid : Prop := numSaysUptoRow.holds Try.pinned (OpenSpec.upto numSaysSpec)

/-- 'scrivlaw.TierCovers', WHERE WHAT IT READS IS OF BULK AT MOST 1048576: true; the input reads as it did. -/
def tierCoversUptoRow : OpenClaim := { program := "ytjilpjhjcdgnoaa", sum := "33fe78546d7317eb795b8a6428575fd568c6d8ada78ecf35374fdebd87622bc3", func := "scrivenry/scrivlaw.TierCovers", spec := "tierCovers", recurses := true, apart := false, narrowed := true }
def TierCoversUptoSaid : Prop := tierCoversUptoRow.holds Try.pinned (OpenSpec.upto tierCoversSpec)

/-- 'scrivlaw.FrameSays', WHERE WHAT IT READS IS OF BULK AT MOST 1048576: true; the input reads as it did. -/
def frameSaysUptoRow : OpenClaim := { program := "ytjilpjhjcdgnoaa", sum := "33fe78546d7317eb795b8a6428575fd568c6d8ada78ecf35374fdebd87622bc3", func := "scrivenry/scrivlaw.FrameSays", spec := "frameSays", apart := false, narrowed := true }
def FrameSaysUptoSaid : Prop := frameSaysUptoRow.holds Try.pinned (OpenSpec.upto frameSaysSpec)

/-- 'scrivlaw.DiskSays', WHERE WHAT IT READS IS OF BULK AT MOST 1048576: true; the input reads as it did. -/
def diskSaysUptoRow : OpenClaim := { program := "ytjilpjhjcdgnoaa", sum := "33fe78546d7317eb795b8a6428575fd568c6d8ada78ecf35374fdebd87622bc3", func := "scrivenry/scrivlaw.DiskSays", spec := "diskSays", apart := false, narrowed := true }
def DiskSaysUptoSaid : Prop := diskSaysUptoRow.holds Try.pinned (OpenSpec.upto diskSaysSpec)

/-- 'scrivlaw.HashFinds', WHERE WHAT IT READS IS OF BULK AT MOST 1048576: true; the input reads as it did. -/
def hashFindsUptoRow : OpenClaim := { program := "ytjilpjhjcdgnoaa", sum := "33fe78546d7317eb795b8a6428575fd568c6d8ada78ecf35374fdebd87622bc3", func := "scrivenry/scrivlaw.HashFinds", spec := "hashFinds", apart := false, narrowed := true }
def HashFindsUptoSaid : Prop := hashFindsUptoRow.holds Try.pinned (OpenSpec.upto hashFindsSpec)

/-- 'scrivlaw.PartChecks', WHERE WHAT IT READS IS OF BULK AT MOST 1048576: true; the input reads as it did. -/
def partChecksUptoRow : OpenClaim := { program := "ytjilpjhjcdgnoaa", sum := "33fe78546d7317eb795b8a6428575fd568c6d8ada78ecf35374fdebd87622bc3", func := "scrivenry/scrivlaw.PartChecks", spec := "partChecks", apart := false, narrowed := true }
def PartChecksUptoSaid : Prop := partChecksUptoRow.holds Try.pinned (OpenSpec.upto partChecksSpec)

/-- 'scrivlaw.FrameScans', WHERE WHAT IT READS IS OF BULK AT MOST 1048576: true; the input reads as it did. -/
def frameScansUptoRow : OpenClaim := { program := "ytjilpjhjcdgnoaa", sum := "33fe78546d7317eb795b8a6428575fd568c6d8ada78ecf35374fdebd87622bc3", func := "scrivenry/scrivlaw.FrameScans", spec := "frameScans", recurses := true, apart := false, narrowed := true }
def FrameScansUptoSaid : Prop := frameScansUptoRow.holds Try.pinned (OpenSpec.upto frameScansSpec)

end Rows
end Go.Proofs.Ytjilpjhjcdgnoaa
