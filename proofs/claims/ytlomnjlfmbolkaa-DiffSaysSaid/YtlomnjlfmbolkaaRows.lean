/-
  No cell of these rows narrows 'for every input' (looked for: loops, veiled, ifaces, maps, wideKeys, modest, calm, conditions, laid).
  DERIVED. THE GIVEN ROWS OF THIS SEAT. 9 by the template 'for every input the law returns true; each argument reads behind the call as it read before'; 0 by the template 'total and deterministic' (their statements: YtlomnjlfmbolkaaTotals.lean).
  GIVEN WITH THE SEED: the statements are not yours to turn. If you find one false, say at which input.
  Laid BY PROGRAM, IN A SANDBOX (cutbox-rows.mjs): the forced cells as the released guide's own fill.sh prints them over the translation 15a282acd3384b39… (all of the seat's roots in one cut). By AI agents, Wed Nov 11 2026. No macro, syntax, notation, axiom, sorry.
-/
import Derived.Test.YtlomnjlfmbolkaaChecked
import GoSem.Claim
import GoSem.ClaimJoined
import GoSem.ClaimMapViews
import Derived.JoinedTies
import Derived.KernelRfl
namespace Go.Proofs.Ytlomnjlfmbolkaa
/- THE CELL 'sum', in the pinned program and in every row, IS THE sha256 OF THE DUMP (.gsa) THAT YtlomnjlfmbolkaaProg.lean LOADS. Nothing in Lean hashes anything: it is a label: what it is worth is what the hold of that sum in a sandbox is worth. -/
noncomputable def Try.pinned : Pinned := { name := "ytlomnjlfmbolkaa", sum := "15a282acd3384b3920afa1f7be171a5d22a57ee9b0a49c440a8f7fce556e0649", checked := Try.checked }
namespace Rows
def none {H : Type} : Left H := { results := [], args := [] }

/-- 'scrivlaw.TierCovers': WHATEVER THE INPUT: true; the input reads as it did. -/
def tierCoversSpec : ChangeSpec := { name := "tierCovers", fn := fun _ => fun
  | [d1, d2] => { results := [.lit (.bool true)], args := [d1, d2] }
  | _ => none }
def tierCoversRow : OpenClaim := { program := "ytlomnjlfmbolkaa", sum := "15a282acd3384b3920afa1f7be171a5d22a57ee9b0a49c440a8f7fce556e0649", func := "scrivenry/scrivlaw.TierCovers", spec := "tierCovers", recurses := true, apart := false }
def TierCoversSaid : Prop := tierCoversRow.holds Try.pinned (OpenSpec.ofChange tierCoversSpec)

/-- ITS FALSE NEIGHBOUR: 'it returns false'. Refute it at one input. -/
def tierCoversWrong : ChangeSpec := { name := "tierCovers", fn := fun _ => fun
  | [d1, d2] => { results := [.lit (.bool false)], args := [d1, d2] }
  | _ => none }
def TierCoversWrongFalsely : Prop := tierCoversRow.holds Try.pinned (OpenSpec.ofChange tierCoversWrong)

/-- 'scrivlaw.FrameSays': WHATEVER THE INPUT: true; the input reads as it did. -/
def frameSaysSpec : ChangeSpec := { name := "frameSays", fn := fun _ => fun
  | [d1, d2] => { results := [.lit (.bool true)], args := [d1, d2] }
  | _ => none }
def frameSaysRow : OpenClaim := { program := "ytlomnjlfmbolkaa", sum := "15a282acd3384b3920afa1f7be171a5d22a57ee9b0a49c440a8f7fce556e0649", func := "scrivenry/scrivlaw.FrameSays", spec := "frameSays", apart := false }
def FrameSaysSaid : Prop := frameSaysRow.holds Try.pinned (OpenSpec.ofChange frameSaysSpec)

/-- ITS FALSE NEIGHBOUR: 'it returns false'. Refute it at one input. -/
def frameSaysWrong : ChangeSpec := { name := "frameSays", fn := fun _ => fun
  | [d1, d2] => { results := [.lit (.bool false)], args := [d1, d2] }
  | _ => none }
def FrameSaysWrongFalsely : Prop := frameSaysRow.holds Try.pinned (OpenSpec.ofChange frameSaysWrong)

/-- 'scrivlaw.DiskSays': WHATEVER THE INPUT: true; the input reads as it did. -/
def diskSaysSpec : ChangeSpec := { name := "diskSays", fn := fun _ => fun
  | [d1, d2, d3, d4] => { results := [.lit (.bool true)], args := [d1, d2, d3, d4] }
  | _ => none }
def diskSaysRow : OpenClaim := { program := "ytlomnjlfmbolkaa", sum := "15a282acd3384b3920afa1f7be171a5d22a57ee9b0a49c440a8f7fce556e0649", func := "scrivenry/scrivlaw.DiskSays", spec := "diskSays", apart := false }
def DiskSaysSaid : Prop := diskSaysRow.holds Try.pinned (OpenSpec.ofChange diskSaysSpec)

/-- ITS FALSE NEIGHBOUR: 'it returns false'. Refute it at one input. -/
def diskSaysWrong : ChangeSpec := { name := "diskSays", fn := fun _ => fun
  | [d1, d2, d3, d4] => { results := [.lit (.bool false)], args := [d1, d2, d3, d4] }
  | _ => none }
def DiskSaysWrongFalsely : Prop := diskSaysRow.holds Try.pinned (OpenSpec.ofChange diskSaysWrong)

/-- 'scrivlaw.HashFinds': WHATEVER THE INPUT: true; the input reads as it did. -/
def hashFindsSpec : ChangeSpec := { name := "hashFinds", fn := fun _ => fun
  | [d1, d2] => { results := [.lit (.bool true)], args := [d1, d2] }
  | _ => none }
def hashFindsRow : OpenClaim := { program := "ytlomnjlfmbolkaa", sum := "15a282acd3384b3920afa1f7be171a5d22a57ee9b0a49c440a8f7fce556e0649", func := "scrivenry/scrivlaw.HashFinds", spec := "hashFinds", apart := false }
def HashFindsSaid : Prop := hashFindsRow.holds Try.pinned (OpenSpec.ofChange hashFindsSpec)

/-- ITS FALSE NEIGHBOUR: 'it returns false'. Refute it at one input. -/
def hashFindsWrong : ChangeSpec := { name := "hashFinds", fn := fun _ => fun
  | [d1, d2] => { results := [.lit (.bool false)], args := [d1, d2] }
  | _ => none }
def HashFindsWrongFalsely : Prop := hashFindsRow.holds Try.pinned (OpenSpec.ofChange hashFindsWrong)

/-- 'scrivlaw.DiffSays': WHATEVER THE INPUT: true; the input reads as it did. -/
def diffSaysSpec : ChangeSpec := { name := "diffSays", fn := fun _ => fun
  | [d1, d2] => { results := [.lit (.bool true)], args := [d1, d2] }
  | _ => none }
def diffSaysRow : OpenClaim := { program := "ytlomnjlfmbolkaa", sum := "15a282acd3384b3920afa1f7be171a5d22a57ee9b0a49c440a8f7fce556e0649", func := "scrivenry/scrivlaw.DiffSays", spec := "diffSays", apart := false }
def DiffSaysSaid : Prop := diffSaysRow.holds Try.pinned (OpenSpec.ofChange diffSaysSpec)

/-- ITS FALSE NEIGHBOUR: 'it returns false'. Refute it at one input. -/
def diffSaysWrong : ChangeSpec := { name := "diffSays", fn := fun _ => fun
  | [d1, d2] => { results := [.lit (.bool false)], args := [d1, d2] }
  | _ => none }
def DiffSaysWrongFalsely : Prop := diffSaysRow.holds Try.pinned (OpenSpec.ofChange diffSaysWrong)

/-- 'scrivlaw.FrameScans': WHATEVER THE INPUT: true; the input reads as it did. -/
def frameScansSpec : ChangeSpec := { name := "frameScans", fn := fun _ => fun
  | [d] => { results := [.lit (.bool true)], args := [d] }
  | _ => none }
def frameScansRow : OpenClaim := { program := "ytlomnjlfmbolkaa", sum := "15a282acd3384b3920afa1f7be171a5d22a57ee9b0a49c440a8f7fce556e0649", func := "scrivenry/scrivlaw.FrameScans", spec := "frameScans", recurses := true, apart := false }
def FrameScansSaid : Prop := frameScansRow.holds Try.pinned (OpenSpec.ofChange frameScansSpec)

/-- ITS FALSE NEIGHBOUR: 'it returns false'. Refute it at one input. -/
def frameScansWrong : ChangeSpec := { name := "frameScans", fn := fun _ => fun
  | [d] => { results := [.lit (.bool false)], args := [d] }
  | _ => none }
def FrameScansWrongFalsely : Prop := frameScansRow.holds Try.pinned (OpenSpec.ofChange frameScansWrong)

/-- 'scrivlaw.CodeSays': WHATEVER THE INPUT: true; the input reads as it did. -/
def codeSaysSpec : ChangeSpec := { name := "codeSays", fn := fun _ => fun
  | [d1, d2] => { results := [.lit (.bool true)], args := [d1, d2] }
  | _ => none }
def codeSaysRow : OpenClaim := { program := "ytlomnjlfmbolkaa", sum := "15a282acd3384b3920afa1f7be171a5d22a57ee9b0a49c440a8f7fce556e0649", func := "scrivenry/scrivlaw.CodeSays", spec := "codeSays", recurses := true, apart := false }
def CodeSaysSaid : Prop := codeSaysRow.holds Try.pinned (OpenSpec.ofChange codeSaysSpec)

/-- ITS FALSE NEIGHBOUR: 'it returns false'. Refute it at one input. -/
def codeSaysWrong : ChangeSpec := { name := "codeSays", fn := fun _ => fun
  | [d1, d2] => { results := [.lit (.bool false)], args := [d1, d2] }
  | _ => none }
def CodeSaysWrongFalsely : Prop := codeSaysRow.holds Try.pinned (OpenSpec.ofChange codeSaysWrong)

/-- 'scrivlaw.HotWrites': WHATEVER THE INPUT: true; the input reads as it did. -/
def hotWritesSpec : ChangeSpec := { name := "hotWrites", fn := fun _ => fun
  | [d1, d2, d3, d4, d5] => { results := [.lit (.bool true)], args := [d1, d2, d3, d4, d5] }
  | _ => none }
def hotWritesRow : OpenClaim := { program := "ytlomnjlfmbolkaa", sum := "15a282acd3384b3920afa1f7be171a5d22a57ee9b0a49c440a8f7fce556e0649", func := "scrivenry/scrivlaw.HotWrites", spec := "hotWrites", recurses := true, apart := false }
def HotWritesSaid : Prop := hotWritesRow.holds Try.pinned (OpenSpec.ofChange hotWritesSpec)

/-- ITS FALSE NEIGHBOUR: 'it returns false'. Refute it at one input. -/
def hotWritesWrong : ChangeSpec := { name := "hotWrites", fn := fun _ => fun
  | [d1, d2, d3, d4, d5] => { results := [.lit (.bool false)], args := [d1, d2, d3, d4, d5] }
  | _ => none }
def HotWritesWrongFalsely : Prop := hotWritesRow.holds Try.pinned (OpenSpec.ofChange hotWritesWrong)

/-- 'scrivlaw.BlameSays': WHATEVER THE INPUT: true; the input reads as it did. -/
def blameSaysSpec : ChangeSpec := { name := "blameSays", fn := fun _ => fun
  | [d1, d2] => { results := [.lit (.bool true)], args := [d1, d2] }
  | _ => none }
def blameSaysRow : OpenClaim := { program := "ytlomnjlfmbolkaa", sum := "15a282acd3384b3920afa1f7be171a5d22a57ee9b0a49c440a8f7fce556e0649", func := "scrivenry/scrivlaw.BlameSays", spec := "blameSays", inPlace := ["internal/abi.NoEscape"], apart := false }
def BlameSaysSaid : Prop := blameSaysRow.holds Try.pinned (OpenSpec.ofChange blameSaysSpec)

/-- ITS FALSE NEIGHBOUR: 'it returns false'. Refute it at one input. -/
def blameSaysWrong : ChangeSpec := { name := "blameSays", fn := fun _ => fun
  | [d1, d2] => { results := [.lit (.bool false)], args := [d1, d2] }
  | _ => none }
def BlameSaysWrongFalsely : Prop := blameSaysRow.holds Try.pinned (OpenSpec.ofChange blameSaysWrong)

/- THE SECOND FORM. 'bulk': how many values and letters a reading holds, each counted each time it is reached (what is shared counts as often as it is met; a slice's spare places count too). A statement '..UptoSaid' is the law's where the arguments, and the package variables that the reading takes, are together of bulk at most 1048576: NARROWER than '..Said'. Prove '..Said' where nothing that the law and all that it calls make is longer than what came in: it says more and counts as full. Else prove '..UptoSaid'. A law counts once. -/
mutual
def uptoBulk {H : Type} : DataW H → Nat
  | .lit (.string bytes) => bytes.length + 1
  | .lit _ => 1
  | .nil => 1
  | .ptr d => uptoBulk d + 1
  | .slice elems spare => uptoBulkAll elems + uptoBulkAll spare + 1
  | .agg parts => uptoBulkAll parts + 1
  | .iface _ d => uptoBulk d + 1
  | .map entries => uptoBulkEntries entries + 1
  | .held _ => 1
def uptoBulkAll {H : Type} : List (DataW H) → Nat
  | [] => 0
  | d :: r => uptoBulk d + uptoBulkAll r
def uptoBulkEntries {H : Type} : List (Lit × DataW H) → Nat
  | [] => 0
  | x :: r => uptoBulkEntry x + uptoBulkEntries r
def uptoBulkEntry {H : Type} : Lit × DataW H → Nat
  | (.string bytes, d) => bytes.length + uptoBulk d + 1
  | (_, d) => uptoBulk d + 1
 end
def uptoSmall : (H : Type) → List (DataW H) → Bool := fun _ ds => decide (uptoBulkAll ds ≤ 1048576)
def OpenSpec.upto (s : _root_.Go.ChangeSpec) : _root_.Go.OpenSpec := { _root_.Go.OpenSpec.ofChange s with cond := some uptoSmall }

/-- 'scrivlaw.TierCovers', WHERE WHAT IT READS IS OF BULK AT MOST 1048576: true; the input reads as it did. -/
def tierCoversUptoRow : OpenClaim := { program := "ytlomnjlfmbolkaa", sum := "15a282acd3384b3920afa1f7be171a5d22a57ee9b0a49c440a8f7fce556e0649", func := "scrivenry/scrivlaw.TierCovers", spec := "tierCovers", recurses := true, apart := false, narrowed := true }
def TierCoversUptoSaid : Prop := tierCoversUptoRow.holds Try.pinned (OpenSpec.upto tierCoversSpec)

/-- 'scrivlaw.FrameSays', WHERE WHAT IT READS IS OF BULK AT MOST 1048576: true; the input reads as it did. -/
def frameSaysUptoRow : OpenClaim := { program := "ytlomnjlfmbolkaa", sum := "15a282acd3384b3920afa1f7be171a5d22a57ee9b0a49c440a8f7fce556e0649", func := "scrivenry/scrivlaw.FrameSays", spec := "frameSays", apart := false, narrowed := true }
def FrameSaysUptoSaid : Prop := frameSaysUptoRow.holds Try.pinned (OpenSpec.upto frameSaysSpec)

/-- 'scrivlaw.DiskSays', WHERE WHAT IT READS IS OF BULK AT MOST 1048576: true; the input reads as it did. -/
def diskSaysUptoRow : OpenClaim := { program := "ytlomnjlfmbolkaa", sum := "15a282acd3384b3920afa1f7be171a5d22a57ee9b0a49c440a8f7fce556e0649", func := "scrivenry/scrivlaw.DiskSays", spec := "diskSays", apart := false, narrowed := true }
def DiskSaysUptoSaid : Prop := diskSaysUptoRow.holds Try.pinned (OpenSpec.upto diskSaysSpec)

/-- 'scrivlaw.HashFinds', WHERE WHAT IT READS IS OF BULK AT MOST 1048576: true; the input reads as it did. -/
def hashFindsUptoRow : OpenClaim := { program := "ytlomnjlfmbolkaa", sum := "15a282acd3384b3920afa1f7be171a5d22a57ee9b0a49c440a8f7fce556e0649", func := "scrivenry/scrivlaw.HashFinds", spec := "hashFinds", apart := false, narrowed := true }
def HashFindsUptoSaid : Prop := hashFindsUptoRow.holds Try.pinned (OpenSpec.upto hashFindsSpec)

/-- 'scrivlaw.DiffSays', WHERE WHAT IT READS IS OF BULK AT MOST 1048576: true; the input reads as it did. -/
def diffSaysUptoRow : OpenClaim := { program := "ytlomnjlfmbolkaa", sum := "15a282acd3384b3920afa1f7be171a5d22a57ee9b0a49c440a8f7fce556e0649", func := "scrivenry/scrivlaw.DiffSays", spec := "diffSays", apart := false, narrowed := true }
def DiffSaysUptoSaid : Prop := diffSaysUptoRow.holds Try.pinned (OpenSpec.upto diffSaysSpec)

/-- 'scrivlaw.FrameScans', WHERE WHAT IT READS IS OF BULK AT MOST 1048576: true; the input reads as it did. -/
def frameScansUptoRow : OpenClaim := { program := "ytlomnjlfmbolkaa", sum := "15a282acd3384b3920afa1f7be171a5d22a57ee9b0a49c440a8f7fce556e0649", func := "scrivenry/scrivlaw.FrameScans", spec := "frameScans", recurses := true, apart := false, narrowed := true }
def FrameScansUptoSaid : Prop := frameScansUptoRow.holds Try.pinned (OpenSpec.upto frameScansSpec)

/-- 'scrivlaw.CodeSays', WHERE WHAT IT READS IS OF BULK AT MOST 1048576: true; the input reads as it did. -/
def codeSaysUptoRow : OpenClaim := { program := "ytlomnjlfmbolkaa", sum := "15a282acd3384b3920afa1f7be171a5d22a57ee9b0a49c440a8f7fce556e0649", func := "scrivenry/scrivlaw.CodeSays", spec := "codeSays", recurses := true, apart := false, narrowed := true }
def CodeSaysUptoSaid : Prop := codeSaysUptoRow.holds Try.pinned (OpenSpec.upto codeSaysSpec)

/-- 'scrivlaw.HotWrites', WHERE WHAT IT READS IS OF BULK AT MOST 1048576: true; the input reads as it did. -/
def hotWritesUptoRow : OpenClaim := { program := "ytlomnjlfmbolkaa", sum := "15a282acd3384b3920afa1f7be171a5d22a57ee9b0a49c440a8f7fce556e0649", func := "scrivenry/scrivlaw.HotWrites", spec := "hotWrites", recurses := true, apart := false, narrowed := true }
def HotWritesUptoSaid : Prop := hotWritesUptoRow.holds Try.pinned (OpenSpec.upto hotWritesSpec)

/-- 'scrivlaw.BlameSays', WHERE WHAT IT READS IS OF BULK AT MOST 1048576: true; the input reads as it did. -/
def blameSaysUptoRow : OpenClaim := { program := "ytlomnjlfmbolkaa", sum := "15a282acd3384b3920afa1f7be171a5d22a57ee9b0a49c440a8f7fce556e0649", func := "scrivenry/scrivlaw.BlameSays", spec := "blameSays", inPlace := ["internal/abi.NoEscape"], apart := false, narrowed := true }
def BlameSaysUptoSaid : Prop := blameSaysUptoRow.holds Try.pinned (OpenSpec.upto blameSaysSpec)

end Rows
end Go.Proofs.Ytlomnjlfmbolkaa
