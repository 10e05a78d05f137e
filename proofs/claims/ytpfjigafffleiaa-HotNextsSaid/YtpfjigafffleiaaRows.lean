/-
  No cell of these rows narrows 'for every input' (looked for: loops, veiled, ifaces, maps, wideKeys, modest, calm, conditions, laid).
  DERIVED. THE GIVEN ROWS OF THIS SEAT. 16 by the template 'for every input the law returns true; each argument reads behind the call as it read before'; 0 by the template 'total and deterministic' (their statements: YtpfjigafffleiaaTotals.lean).
  GIVEN WITH THE SEED: the statements are not yours to turn. If you find one false, say at which input.
  Laid BY PROGRAM, IN A SANDBOX (cutbox-rows.mjs): the forced cells as the released guide's own fill.sh prints them over the translation 932d7ad2e6c25d08… (all of the seat's roots in one cut). By AI agents, Wed Nov 11 2026. No macro, syntax, notation, axiom, sorry.
-/
import Derived.Test.YtpfjigafffleiaaChecked
import GoSem.Claim
import GoSem.ClaimJoined
import GoSem.ClaimMapViews
import Derived.JoinedTies
import Derived.KernelRfl
namespace Go.Proofs.Ytpfjigafffleiaa
/- THE CELL 'sum', in the pinned program and in every row, IS THE sha256 OF THE DUMP (.gsa) THAT YtpfjigafffleiaaProg.lean LOADS. Nothing in Lean hashes anything: it is a label: what it is worth is what the hold of that sum in a sandbox is worth. -/
noncomputable def Try.pinned : Pinned := { name := "ytpfjigafffleiaa", sum := "932d7ad2e6c25d08ccbd55ca72f039dc4bc90d648a331381ab6216718dd65faa", checked := Try.checked }
namespace Rows
def none {H : Type} : Left H := { results := [], args := [] }

/-- 'scrivlaw.TierCovers': WHATEVER THE INPUT: true; the input reads as it did. -/
def tierCoversSpec : ChangeSpec := { name := "tierCovers", fn := fun _ => fun
  | [d1, d2] => { results := [.lit (.bool true)], args := [d1, d2] }
  | _ => none }
def tierCoversRow : OpenClaim := { program := "ytpfjigafffleiaa", sum := "932d7ad2e6c25d08ccbd55ca72f039dc4bc90d648a331381ab6216718dd65faa", func := "scrivenry/scrivlaw.TierCovers", spec := "tierCovers", recurses := true, apart := false }
def TierCoversSaid : Prop := tierCoversRow.holds Try.pinned (OpenSpec.ofChange tierCoversSpec)

/-- ITS FALSE NEIGHBOUR: 'it returns false'. Refute it at one input. -/
def tierCoversWrong : ChangeSpec := { name := "tierCovers", fn := fun _ => fun
  | [d1, d2] => { results := [.lit (.bool false)], args := [d1, d2] }
  | _ => none }
def TierCoversWrongFalsely : Prop := tierCoversRow.holds Try.pinned (OpenSpec.ofChange tierCoversWrong)

/-- 'scrivlaw.FrameSays': WHATEVER THE INPUT: true; the input reads as it did. -/
def frameSaysSpec : ChangeSpec := { name := "frameSays", fn := fun _ => fun
  | [d1, d2] => { results := [.lit (.bool true)], args := [d1, d2] }
  | _ => none }
def frameSaysRow : OpenClaim := { program := "ytpfjigafffleiaa", sum := "932d7ad2e6c25d08ccbd55ca72f039dc4bc90d648a331381ab6216718dd65faa", func := "scrivenry/scrivlaw.FrameSays", spec := "frameSays", apart := false }
def FrameSaysSaid : Prop := frameSaysRow.holds Try.pinned (OpenSpec.ofChange frameSaysSpec)

/-- ITS FALSE NEIGHBOUR: 'it returns false'. Refute it at one input. -/
def frameSaysWrong : ChangeSpec := { name := "frameSays", fn := fun _ => fun
  | [d1, d2] => { results := [.lit (.bool false)], args := [d1, d2] }
  | _ => none }
def FrameSaysWrongFalsely : Prop := frameSaysRow.holds Try.pinned (OpenSpec.ofChange frameSaysWrong)

/-- 'scrivlaw.DiskSays': WHATEVER THE INPUT: true; the input reads as it did. -/
def diskSaysSpec : ChangeSpec := { name := "diskSays", fn := fun _ => fun
  | [d1, d2, d3, d4] => { results := [.lit (.bool true)], args := [d1, d2, d3, d4] }
  | _ => none }
def diskSaysRow : OpenClaim := { program := "ytpfjigafffleiaa", sum := "932d7ad2e6c25d08ccbd55ca72f039dc4bc90d648a331381ab6216718dd65faa", func := "scrivenry/scrivlaw.DiskSays", spec := "diskSays", apart := false }
def DiskSaysSaid : Prop := diskSaysRow.holds Try.pinned (OpenSpec.ofChange diskSaysSpec)

/-- ITS FALSE NEIGHBOUR: 'it returns false'. Refute it at one input. -/
def diskSaysWrong : ChangeSpec := { name := "diskSays", fn := fun _ => fun
  | [d1, d2, d3, d4] => { results := [.lit (.bool false)], args := [d1, d2, d3, d4] }
  | _ => none }
def DiskSaysWrongFalsely : Prop := diskSaysRow.holds Try.pinned (OpenSpec.ofChange diskSaysWrong)

/-- 'scrivlaw.HashFinds': WHATEVER THE INPUT: true; the input reads as it did. -/
def hashFindsSpec : ChangeSpec := { name := "hashFinds", fn := fun _ => fun
  | [d1, d2] => { results := [.lit (.bool true)], args := [d1, d2] }
  | _ => none }
def hashFindsRow : OpenClaim := { program := "ytpfjigafffleiaa", sum := "932d7ad2e6c25d08ccbd55ca72f039dc4bc90d648a331381ab6216718dd65faa", func := "scrivenry/scrivlaw.HashFinds", spec := "hashFinds", apart := false }
def HashFindsSaid : Prop := hashFindsRow.holds Try.pinned (OpenSpec.ofChange hashFindsSpec)

/-- ITS FALSE NEIGHBOUR: 'it returns false'. Refute it at one input. -/
def hashFindsWrong : ChangeSpec := { name := "hashFinds", fn := fun _ => fun
  | [d1, d2] => { results := [.lit (.bool false)], args := [d1, d2] }
  | _ => none }
def HashFindsWrongFalsely : Prop := hashFindsRow.holds Try.pinned (OpenSpec.ofChange hashFindsWrong)

/-- 'scrivlaw.DiffSays': WHATEVER THE INPUT: true; the input reads as it did. -/
def diffSaysSpec : ChangeSpec := { name := "diffSays", fn := fun _ => fun
  | [d1, d2] => { results := [.lit (.bool true)], args := [d1, d2] }
  | _ => none }
def diffSaysRow : OpenClaim := { program := "ytpfjigafffleiaa", sum := "932d7ad2e6c25d08ccbd55ca72f039dc4bc90d648a331381ab6216718dd65faa", func := "scrivenry/scrivlaw.DiffSays", spec := "diffSays", apart := false }
def DiffSaysSaid : Prop := diffSaysRow.holds Try.pinned (OpenSpec.ofChange diffSaysSpec)

/-- ITS FALSE NEIGHBOUR: 'it returns false'. Refute it at one input. -/
def diffSaysWrong : ChangeSpec := { name := "diffSays", fn := fun _ => fun
  | [d1, d2] => { results := [.lit (.bool false)], args := [d1, d2] }
  | _ => none }
def DiffSaysWrongFalsely : Prop := diffSaysRow.holds Try.pinned (OpenSpec.ofChange diffSaysWrong)

/-- 'scrivlaw.FrameScans': WHATEVER THE INPUT: true; the input reads as it did. -/
def frameScansSpec : ChangeSpec := { name := "frameScans", fn := fun _ => fun
  | [d] => { results := [.lit (.bool true)], args := [d] }
  | _ => none }
def frameScansRow : OpenClaim := { program := "ytpfjigafffleiaa", sum := "932d7ad2e6c25d08ccbd55ca72f039dc4bc90d648a331381ab6216718dd65faa", func := "scrivenry/scrivlaw.FrameScans", spec := "frameScans", recurses := true, apart := false }
def FrameScansSaid : Prop := frameScansRow.holds Try.pinned (OpenSpec.ofChange frameScansSpec)

/-- ITS FALSE NEIGHBOUR: 'it returns false'. Refute it at one input. -/
def frameScansWrong : ChangeSpec := { name := "frameScans", fn := fun _ => fun
  | [d] => { results := [.lit (.bool false)], args := [d] }
  | _ => none }
def FrameScansWrongFalsely : Prop := frameScansRow.holds Try.pinned (OpenSpec.ofChange frameScansWrong)

/-- 'scrivlaw.KeepSays': WHATEVER THE INPUT: true; the input reads as it did. -/
def keepSaysSpec : ChangeSpec := { name := "keepSays", fn := fun _ => fun
  | [d1, d2] => { results := [.lit (.bool true)], args := [d1, d2] }
  | _ => none }
def keepSaysRow : OpenClaim := { program := "ytpfjigafffleiaa", sum := "932d7ad2e6c25d08ccbd55ca72f039dc4bc90d648a331381ab6216718dd65faa", func := "scrivenry/scrivlaw.KeepSays", spec := "keepSays", unfollowed := true, recurses := true, apart := false }
def KeepSaysSaid : Prop := keepSaysRow.holds Try.pinned (OpenSpec.ofChange keepSaysSpec)

/-- ITS FALSE NEIGHBOUR: 'it returns false'. Refute it at one input. -/
def keepSaysWrong : ChangeSpec := { name := "keepSays", fn := fun _ => fun
  | [d1, d2] => { results := [.lit (.bool false)], args := [d1, d2] }
  | _ => none }
def KeepSaysWrongFalsely : Prop := keepSaysRow.holds Try.pinned (OpenSpec.ofChange keepSaysWrong)

/-- 'scrivlaw.HotNexts': WHATEVER THE INPUT: true; the input reads as it did. -/
def hotNextsSpec : ChangeSpec := { name := "hotNexts", fn := fun _ => fun
  | [d1, d2, d3, d4, d5] => { results := [.lit (.bool true)], args := [d1, d2, d3, d4, d5] }
  | _ => none }
def hotNextsRow : OpenClaim := { program := "ytpfjigafffleiaa", sum := "932d7ad2e6c25d08ccbd55ca72f039dc4bc90d648a331381ab6216718dd65faa", func := "scrivenry/scrivlaw.HotNexts", spec := "hotNexts", apart := false }
def HotNextsSaid : Prop := hotNextsRow.holds Try.pinned (OpenSpec.ofChange hotNextsSpec)

/-- ITS FALSE NEIGHBOUR: 'it returns false'. Refute it at one input. -/
def hotNextsWrong : ChangeSpec := { name := "hotNexts", fn := fun _ => fun
  | [d1, d2, d3, d4, d5] => { results := [.lit (.bool false)], args := [d1, d2, d3, d4, d5] }
  | _ => none }
def HotNextsWrongFalsely : Prop := hotNextsRow.holds Try.pinned (OpenSpec.ofChange hotNextsWrong)

/-- 'scrivlaw.ApplyDoes': WHATEVER THE INPUT: true; the input reads as it did. -/
def applyDoesSpec : ChangeSpec := { name := "applyDoes", fn := fun _ => fun
  | [d1, d2, d3] => { results := [.lit (.bool true)], args := [d1, d2, d3] }
  | _ => none }
def applyDoesRow : OpenClaim := { program := "ytpfjigafffleiaa", sum := "932d7ad2e6c25d08ccbd55ca72f039dc4bc90d648a331381ab6216718dd65faa", func := "scrivenry/scrivlaw.ApplyDoes", spec := "applyDoes", inPlace := ["internal/abi.NoEscape"], apart := false }
def ApplyDoesSaid : Prop := applyDoesRow.holds Try.pinned (OpenSpec.ofChange applyDoesSpec)

/-- ITS FALSE NEIGHBOUR: 'it returns false'. Refute it at one input. -/
def applyDoesWrong : ChangeSpec := { name := "applyDoes", fn := fun _ => fun
  | [d1, d2, d3] => { results := [.lit (.bool false)], args := [d1, d2, d3] }
  | _ => none }
def ApplyDoesWrongFalsely : Prop := applyDoesRow.holds Try.pinned (OpenSpec.ofChange applyDoesWrong)

/-- 'scrivlaw.ClientChecks': WHATEVER THE INPUT: true; the input reads as it did. -/
def clientChecksSpec : ChangeSpec := { name := "clientChecks", fn := fun _ => fun
  | [d] => { results := [.lit (.bool true)], args := [d] }
  | _ => none }
def clientChecksRow : OpenClaim := { program := "ytpfjigafffleiaa", sum := "932d7ad2e6c25d08ccbd55ca72f039dc4bc90d648a331381ab6216718dd65faa", func := "scrivenry/scrivlaw.ClientChecks", spec := "clientChecks", apart := false }
def ClientChecksSaid : Prop := clientChecksRow.holds Try.pinned (OpenSpec.ofChange clientChecksSpec)

/-- ITS FALSE NEIGHBOUR: 'it returns false'. Refute it at one input. -/
def clientChecksWrong : ChangeSpec := { name := "clientChecks", fn := fun _ => fun
  | [d] => { results := [.lit (.bool false)], args := [d] }
  | _ => none }
def ClientChecksWrongFalsely : Prop := clientChecksRow.holds Try.pinned (OpenSpec.ofChange clientChecksWrong)

/-- 'scrivlaw.RevsChecks': WHATEVER THE INPUT: true; the input reads as it did. -/
def revsChecksSpec : ChangeSpec := { name := "revsChecks", fn := fun _ => fun
  | [d1, d2, d3] => { results := [.lit (.bool true)], args := [d1, d2, d3] }
  | _ => none }
def revsChecksRow : OpenClaim := { program := "ytpfjigafffleiaa", sum := "932d7ad2e6c25d08ccbd55ca72f039dc4bc90d648a331381ab6216718dd65faa", func := "scrivenry/scrivlaw.RevsChecks", spec := "revsChecks", inPlace := ["internal/abi.NoEscape"], apart := false }
def RevsChecksSaid : Prop := revsChecksRow.holds Try.pinned (OpenSpec.ofChange revsChecksSpec)

/-- ITS FALSE NEIGHBOUR: 'it returns false'. Refute it at one input. -/
def revsChecksWrong : ChangeSpec := { name := "revsChecks", fn := fun _ => fun
  | [d1, d2, d3] => { results := [.lit (.bool false)], args := [d1, d2, d3] }
  | _ => none }
def RevsChecksWrongFalsely : Prop := revsChecksRow.holds Try.pinned (OpenSpec.ofChange revsChecksWrong)

/-- 'scrivlaw.CodeSays': WHATEVER THE INPUT: true; the input reads as it did. -/
def codeSaysSpec : ChangeSpec := { name := "codeSays", fn := fun _ => fun
  | [d1, d2] => { results := [.lit (.bool true)], args := [d1, d2] }
  | _ => none }
def codeSaysRow : OpenClaim := { program := "ytpfjigafffleiaa", sum := "932d7ad2e6c25d08ccbd55ca72f039dc4bc90d648a331381ab6216718dd65faa", func := "scrivenry/scrivlaw.CodeSays", spec := "codeSays", recurses := true, apart := false }
def CodeSaysSaid : Prop := codeSaysRow.holds Try.pinned (OpenSpec.ofChange codeSaysSpec)

/-- ITS FALSE NEIGHBOUR: 'it returns false'. Refute it at one input. -/
def codeSaysWrong : ChangeSpec := { name := "codeSays", fn := fun _ => fun
  | [d1, d2] => { results := [.lit (.bool false)], args := [d1, d2] }
  | _ => none }
def CodeSaysWrongFalsely : Prop := codeSaysRow.holds Try.pinned (OpenSpec.ofChange codeSaysWrong)

/-- 'scrivlaw.HotWrites': WHATEVER THE INPUT: true; the input reads as it did. -/
def hotWritesSpec : ChangeSpec := { name := "hotWrites", fn := fun _ => fun
  | [d1, d2, d3, d4, d5] => { results := [.lit (.bool true)], args := [d1, d2, d3, d4, d5] }
  | _ => none }
def hotWritesRow : OpenClaim := { program := "ytpfjigafffleiaa", sum := "932d7ad2e6c25d08ccbd55ca72f039dc4bc90d648a331381ab6216718dd65faa", func := "scrivenry/scrivlaw.HotWrites", spec := "hotWrites", recurses := true, apart := false }
def HotWritesSaid : Prop := hotWritesRow.holds Try.pinned (OpenSpec.ofChange hotWritesSpec)

/-- ITS FALSE NEIGHBOUR: 'it returns false'. Refute it at one input. -/
def hotWritesWrong : ChangeSpec := { name := "hotWrites", fn := fun _ => fun
  | [d1, d2, d3, d4, d5] => { results := [.lit (.bool false)], args := [d1, d2, d3, d4, d5] }
  | _ => none }
def HotWritesWrongFalsely : Prop := hotWritesRow.holds Try.pinned (OpenSpec.ofChange hotWritesWrong)

/-- 'scrivlaw.MeetSays': WHATEVER THE INPUT: true; the input reads as it did. -/
def meetSaysSpec : ChangeSpec := { name := "meetSays", fn := fun _ => fun
  | [d1, d2] => { results := [.lit (.bool true)], args := [d1, d2] }
  | _ => none }
def meetSaysRow : OpenClaim := { program := "ytpfjigafffleiaa", sum := "932d7ad2e6c25d08ccbd55ca72f039dc4bc90d648a331381ab6216718dd65faa", func := "scrivenry/scrivlaw.MeetSays", spec := "meetSays", unfollowed := true, recurses := true, apart := false }
def MeetSaysSaid : Prop := meetSaysRow.holds Try.pinned (OpenSpec.ofChange meetSaysSpec)

/-- ITS FALSE NEIGHBOUR: 'it returns false'. Refute it at one input. -/
def meetSaysWrong : ChangeSpec := { name := "meetSays", fn := fun _ => fun
  | [d1, d2] => { results := [.lit (.bool false)], args := [d1, d2] }
  | _ => none }
def MeetSaysWrongFalsely : Prop := meetSaysRow.holds Try.pinned (OpenSpec.ofChange meetSaysWrong)

/-- 'scrivlaw.BlameSays': WHATEVER THE INPUT: true; the input reads as it did. -/
def blameSaysSpec : ChangeSpec := { name := "blameSays", fn := fun _ => fun
  | [d1, d2] => { results := [.lit (.bool true)], args := [d1, d2] }
  | _ => none }
def blameSaysRow : OpenClaim := { program := "ytpfjigafffleiaa", sum := "932d7ad2e6c25d08ccbd55ca72f039dc4bc90d648a331381ab6216718dd65faa", func := "scrivenry/scrivlaw.BlameSays", spec := "blameSays", inPlace := ["internal/abi.NoEscape"], apart := false }
def BlameSaysSaid : Prop := blameSaysRow.holds Try.pinned (OpenSpec.ofChange blameSaysSpec)

/-- ITS FALSE NEIGHBOUR: 'it returns false'. Refute it at one input. -/
def blameSaysWrong : ChangeSpec := { name := "blameSays", fn := fun _ => fun
  | [d1, d2] => { results := [.lit (.bool false)], args := [d1, d2] }
  | _ => none }
def BlameSaysWrongFalsely : Prop := blameSaysRow.holds Try.pinned (OpenSpec.ofChange blameSaysWrong)

/-- 'scrivlaw.UndoSays': WHATEVER THE INPUT: true; the input reads as it did. -/
def undoSaysSpec : ChangeSpec := { name := "undoSays", fn := fun _ => fun
  | [d1, d2, d3] => { results := [.lit (.bool true)], args := [d1, d2, d3] }
  | _ => none }
def undoSaysRow : OpenClaim := { program := "ytpfjigafffleiaa", sum := "932d7ad2e6c25d08ccbd55ca72f039dc4bc90d648a331381ab6216718dd65faa", func := "scrivenry/scrivlaw.UndoSays", spec := "undoSays", inPlace := ["internal/abi.NoEscape"], unfollowed := true, recurses := true, apart := false }
def UndoSaysSaid : Prop := undoSaysRow.holds Try.pinned (OpenSpec.ofChange undoSaysSpec)

/-- ITS FALSE NEIGHBOUR: 'it returns false'. Refute it at one input. -/
def undoSaysWrong : ChangeSpec := { name := "undoSays", fn := fun _ => fun
  | [d1, d2, d3] => { results := [.lit (.bool false)], args := [d1, d2, d3] }
  | _ => none }
def UndoSaysWrongFalsely : Prop := undoSaysRow.holds Try.pinned (OpenSpec.ofChange undoSaysWrong)

/- THE SECOND FORM. 'bulk': how many values and letters a reading holds, each counted each time it is reached (what is shared counts as often as it is met; a slice's spare places count too). A statement '..UptoSaid' is the law's where the arguments, and the package variables that the reading takes, are together of bulk at most 1048576: NARROWER than '..Said'. Prove '..Said' where nothing that the law and all that it calls make is longer than what came in: it says more and counts as full. Else prove '..UptoSaid'. A law counts once. -/
mutual
def uptoBulk {H : Type} : DataW H → Nat
  | .lit (.string bytes) => bytes.length + 1
  | .lit _ => 1
  | .nil => 1
  | .ptr d => uptoBulk d + 1
  | .slice elems spare => uptoBulkAll elems + uptoBulkAll spare + 1
  | .agg parts => uptoBulkAll parts + 1
  | .iface _ d => uptoBulk d + 1
  | .map entries => uptoBulkEntries entries + 1
  | .held _ => 1
def uptoBulkAll {H : Type} : List (DataW H) → Nat
  | [] => 0
  | d :: r => uptoBulk d + uptoBulkAll r
def uptoBulkEntries {H : Type} : List (Lit × DataW H) → Nat
  | [] => 0
  | x :: r => uptoBulkEntry x + uptoBulkEntries r
def uptoBulkEntry {H : Type} : Lit × DataW H → Nat
  | (.string bytes, d) => bytes.length + uptoBulk d + 1
  | (_, d) => uptoBulk d + 1
 end
def uptoSmall : (H : Type) → List (DataW H) → Bool := fun _ ds => decide (uptoBulkAll ds ≤ 1048576)
def OpenSpec.upto (s : _root_.Go.ChangeSpec) : _root_.Go.OpenSpec := { _root_.Go.OpenSpec.ofChange s with cond := some uptoSmall }

/-- 'scrivlaw.TierCovers', WHERE WHAT IT READS IS OF BULK AT MOST 1048576: true; the input reads as it did. -/
def tierCoversUptoRow : OpenClaim := { program := "ytpfjigafffleiaa", sum := "932d7ad2e6c25d08ccbd55ca72f039dc4bc90d648a331381ab6216718dd65faa", func := "scrivenry/scrivlaw.TierCovers", spec := "tierCovers", recurses := true, apart := false, narrowed := true }
def TierCoversUptoSaid : Prop := tierCoversUptoRow.holds Try.pinned (OpenSpec.upto tierCoversSpec)

/-- 'scrivlaw.FrameSays', WHERE WHAT IT READS IS OF BULK AT MOST 1048576: true; the input reads as it did. -/
def frameSaysUptoRow : OpenClaim := { program := "ytpfjigafffleiaa", sum := "932d7ad2e6c25d08ccbd55ca72f039dc4bc90d648a331381ab6216718dd65faa", func := "scrivenry/scrivlaw.FrameSays", spec := "frameSays", apart := false, narrowed := true }
def FrameSaysUptoSaid : Prop := frameSaysUptoRow.holds Try.pinned (OpenSpec.upto frameSaysSpec)

/-- 'scrivlaw.DiskSays', WHERE WHAT IT READS IS OF BULK AT MOST 1048576: true; the input reads as it did. -/
def diskSaysUptoRow : OpenClaim := { program := "ytpfjigafffleiaa", sum := "932d7ad2e6c25d08ccbd55ca72f039dc4bc90d648a331381ab6216718dd65faa", func := "scrivenry/scrivlaw.DiskSays", spec := "diskSays", apart := false, narrowed := true }
def DiskSaysUptoSaid : Prop := diskSaysUptoRow.holds Try.pinned (OpenSpec.upto diskSaysSpec)

/-- 'scrivlaw.HashFinds', WHERE WHAT IT READS IS OF BULK AT MOST 1048576: true; the input reads as it did. -/
def hashFindsUptoRow : OpenClaim := { program := "ytpfjigafffleiaa", sum := "932d7ad2e6c25d08ccbd55ca72f039dc4bc90d648a331381ab6216718dd65faa", func := "scrivenry/scrivlaw.HashFinds", spec := "hashFinds", apart := false, narrowed := true }
def HashFindsUptoSaid : Prop := hashFindsUptoRow.holds Try.pinned (OpenSpec.upto hashFindsSpec)

/-- 'scrivlaw.DiffSays', WHERE WHAT IT READS IS OF BULK AT MOST 1048576: true; the input reads as it did. -/
def diffSaysUptoRow : OpenClaim := { program := "ytpfjigafffleiaa", sum := "932d7ad2e6c25d08ccbd55ca72f039dc4bc90d648a331381ab6216718dd65faa", func := "scrivenry/scrivlaw.DiffSays", spec := "diffSays", apart := false, narrowed := true }
def DiffSaysUptoSaid : Prop := diffSaysUptoRow.holds Try.pinned (OpenSpec.upto diffSaysSpec)

/-- 'scrivlaw.FrameScans', WHERE WHAT IT READS IS OF BULK AT MOST 1048576: true; the input reads as it did. -/
def frameScansUptoRow : OpenClaim := { program := "ytpfjigafffleiaa", sum := "932d7ad2e6c25d08ccbd55ca72f039dc4bc90d648a331381ab6216718dd65faa", func := "scrivenry/scrivlaw.FrameScans", spec := "frameScans", recurses := true, apart := false, narrowed := true }
def FrameScansUptoSaid : Prop := frameScansUptoRow.holds Try.pinned (OpenSpec.upto frameScansSpec)

/-- 'scrivlaw.KeepSays', WHERE WHAT IT READS IS OF BULK AT MOST 1048576: true; the input reads as it did. -/
def keepSaysUptoRow : OpenClaim := { program := "ytpfjigafffleiaa", sum := "932d7ad2e6c25d08ccbd55ca72f039dc4bc90d648a331381ab6216718dd65faa", func := "scrivenry/scrivlaw.KeepSays", spec := "keepSays", unfollowed := true, recurses := true, apart := false, narrowed := true }
def KeepSaysUptoSaid : Prop := keepSaysUptoRow.holds Try.pinned (OpenSpec.upto keepSaysSpec)

/-- 'scrivlaw.HotNexts', WHERE WHAT IT READS IS OF BULK AT MOST 1048576: true; the input reads as it did. -/
def hotNextsUptoRow : OpenClaim := { program := "ytpfjigafffleiaa", sum := "932d7ad2e6c25d08ccbd55ca72f039dc4bc90d648a331381ab6216718dd65faa", func := "scrivenry/scrivlaw.HotNexts", spec := "hotNexts", apart := false, narrowed := true }
def HotNextsUptoSaid : Prop := hotNextsUptoRow.holds Try.pinned (OpenSpec.upto hotNextsSpec)

/-- 'scrivlaw.ApplyDoes', WHERE WHAT IT READS IS OF BULK AT MOST 1048576: true; the input reads as it did. -/
def applyDoesUptoRow : OpenClaim := { program := "ytpfjigafffleiaa", sum := "932d7ad2e6c25d08ccbd55ca72f039dc4bc90d648a331381ab6216718dd65faa", func := "scrivenry/scrivlaw.ApplyDoes", spec := "applyDoes", inPlace := ["internal/abi.NoEscape"], apart := false, narrowed := true }
def ApplyDoesUptoSaid : Prop := applyDoesUptoRow.holds Try.pinned (OpenSpec.upto applyDoesSpec)

/-- 'scrivlaw.ClientChecks', WHERE WHAT IT READS IS OF BULK AT MOST 1048576: true; the input reads as it did. -/
def clientChecksUptoRow : OpenClaim := { program := "ytpfjigafffleiaa", sum := "932d7ad2e6c25d08ccbd55ca72f039dc4bc90d648a331381ab6216718dd65faa", func := "scrivenry/scrivlaw.ClientChecks", spec := "clientChecks", apart := false, narrowed := true }
def ClientChecksUptoSaid : Prop := clientChecksUptoRow.holds Try.pinned (OpenSpec.upto clientChecksSpec)

/-- 'scrivlaw.RevsChecks', WHERE WHAT IT READS IS OF BULK AT MOST 1048576: true; the input reads as it did. -/
def revsChecksUptoRow : OpenClaim := { program := "ytpfjigafffleiaa", sum := "932d7ad2e6c25d08ccbd55ca72f039dc4bc90d648a331381ab6216718dd65faa", func := "scrivenry/scrivlaw.RevsChecks", spec := "revsChecks", inPlace := ["internal/abi.NoEscape"], apart := false, narrowed := true }
def RevsChecksUptoSaid : Prop := revsChecksUptoRow.holds Try.pinned (OpenSpec.upto revsChecksSpec)

/-- 'scrivlaw.CodeSays', WHERE WHAT IT READS IS OF BULK AT MOST 1048576: true; the input reads as it did. -/
def codeSaysUptoRow : OpenClaim := { program := "ytpfjigafffleiaa", sum := "932d7ad2e6c25d08ccbd55ca72f039dc4bc90d648a331381ab6216718dd65faa", func := "scrivenry/scrivlaw.CodeSays", spec := "codeSays", recurses := true, apart := false, narrowed := true }
def CodeSaysUptoSaid : Prop := codeSaysUptoRow.holds Try.pinned (OpenSpec.upto codeSaysSpec)

/-- 'scrivlaw.HotWrites', WHERE WHAT IT READS IS OF BULK AT MOST 1048576: true; the input reads as it did. -/
def hotWritesUptoRow : OpenClaim := { program := "ytpfjigafffleiaa", sum := "932d7ad2e6c25d08ccbd55ca72f039dc4bc90d648a331381ab6216718dd65faa", func := "scrivenry/scrivlaw.HotWrites", spec := "hotWrites", recurses := true, apart := false, narrowed := true }
def HotWritesUptoSaid : Prop := hotWritesUptoRow.holds Try.pinned (OpenSpec.upto hotWritesSpec)

/-- 'scrivlaw.MeetSays', WHERE WHAT IT READS IS OF BULK AT MOST 1048576: true; the input reads as it did. -/
def meetSaysUptoRow : OpenClaim := { program := "ytpfjigafffleiaa", sum := "932d7ad2e6c25d08ccbd55ca72f039dc4bc90d648a331381ab6216718dd65faa", func := "scrivenry/scrivlaw.MeetSays", spec := "meetSays", unfollowed := true, recurses := true, apart := false, narrowed := true }
def MeetSaysUptoSaid : Prop := meetSaysUptoRow.holds Try.pinned (OpenSpec.upto meetSaysSpec)

/-- 'scrivlaw.BlameSays', WHERE WHAT IT READS IS OF BULK AT MOST 1048576: true; the input reads as it did. -/
def blameSaysUptoRow : OpenClaim := { program := "ytpfjigafffleiaa", sum := "932d7ad2e6c25d08ccbd55ca72f039dc4bc90d648a331381ab6216718dd65faa", func := "scrivenry/scrivlaw.BlameSays", spec := "blameSays", inPlace := ["internal/abi.NoEscape"], apart := false, narrowed := true }
def BlameSaysUptoSaid : Prop := blameSaysUptoRow.holds Try.pinned (OpenSpec.upto blameSaysSpec)

/-- 'scrivlaw.UndoSays', WHERE WHAT IT READS IS OF BULK AT MOST 1048576: true; the input reads as it did. -/
def undoSaysUptoRow : OpenClaim := { program := "ytpfjigafffleiaa", sum := "932d7ad2e6c25d08ccbd55ca72f039dc4bc90d648a331381ab6216718dd65faa", func := "scrivenry/scrivlaw.UndoSays", spec := "undoSays", inPlace := ["internal/abi.NoEscape"], unfollowed := true, recurses := true, apart := false, narrowed := true }
def UndoSaysUptoSaid : Prop := undoSaysUptoRow.holds Try.pinned (OpenSpec.upto undoSaysSpec)

end Rows
end Go.Proofs.Ytpfjigafffleiaa
