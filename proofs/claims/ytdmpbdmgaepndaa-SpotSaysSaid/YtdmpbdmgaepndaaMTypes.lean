/-
  The types of the laws' arguments, read.
-/
import Derived.Test.YtdmpbdmgaepndaaMRead
import Derived.Test.YtdmpbdmgaepndaaMPart
set_option linter.unusedVariables false
set_option linter.unusedSimpArgs false
namespace Go.Proofs.Ytdmpbdmgaepndaa.AM
open Go
set_option maxRecDepth 100000
set_option maxHeartbeats 2000000
theorem r_int : ReadsAs 3 Int (fun n => [.int .i64 n]) I64 := reads_int Try.underlying3
theorem r_bool : ReadsAs 4 Bool (fun n => [.bool n]) (fun _ => True) := reads_bool Try.underlying4
theorem r_str : ReadsAs 9 (List UInt8) (fun s => [.str s]) (fun s => s.length ≤ maxLen) := reads_str Try.underlying9
theorem r_ints : ReadsAs 49 (List Int) (fun l => [.sl false 1 (l.map fun n => [.int .i64 n])]) (fun l => l.length ≤ maxLen ∧ ∀ a ∈ l, I64 a) := reads_slice Try.underlying49 r_int (by kernel_rfl) (fun _ => rfl) (by decide)

theorem reads_part : ReadsAs 132 Part encPart Part.Ok :=
  reads_map (reads_struct Try.underlying132 (reads_cons (k := 1) r_int rfl (by kernel_rfl) (reads_cons (k := 1) r_int rfl (by kernel_rfl) (reads_cons (k := 1) r_str rfl (by kernel_rfl) (reads_nil _)))) (by kernel_rfl))
    (fun p => ⟨p.1, p.2.1, p.2.2.1⟩) (fun _ => rfl) (fun p h => ⟨h.1, h.2.1, h.2.2.1⟩)
def encParts (d : List Part) : V := .sl false 3 (d.map encPart)
def PartsOk (d : List Part) : Prop := d.length ≤ maxLen ∧ ∀ p ∈ d, p.Ok
theorem reads_parts : ReadsAs 55 (List Part) (fun d => [encParts d]) PartsOk := reads_slice Try.underlying55 reads_part (by kernel_rfl) (fun _ => rfl) (by decide)
theorem reads_ints : ReadsAs 49 (List Int) (fun l => [.sl false 1 (l.map fun n => [.int .i64 n])]) (fun l => l.length ≤ maxLen ∧ ∀ a ∈ l, I64 a) := r_ints

structure Rev where
  who : Int
  seq : Int
  delta : List Part
def encRev (r : Rev) : List V := [.int .i64 r.who, .int .i64 r.seq, encParts r.delta]
def Rev.Ok (r : Rev) : Prop := I64 r.who ∧ I64 r.seq ∧ PartsOk r.delta
theorem reads_rev : ReadsAs 83 Rev encRev Rev.Ok :=
  reads_map (reads_struct Try.underlying83 (reads_cons (k := 1) r_int rfl (by kernel_rfl) (reads_cons (k := 1) r_int rfl (by kernel_rfl) (reads_cons (k := 1) reads_parts rfl (by kernel_rfl) (reads_nil _)))) (by kernel_rfl))
    (fun p => ⟨p.1, p.2.1, p.2.2.1⟩) (fun _ => rfl) (fun p h => ⟨h.1, h.2.1, h.2.2.1⟩)
def encRevs (l : List Rev) : V := .sl false 3 (l.map encRev)
def RevsOk (l : List Rev) : Prop := l.length ≤ maxLen ∧ ∀ r ∈ l, r.Ok
theorem reads_revs : ReadsAs 81 (List Rev) (fun l => [encRevs l]) RevsOk := reads_slice Try.underlying81 reads_rev (by kernel_rfl) (fun _ => rfl) (by decide)

structure Pol where
  last : Int
  every : Int
  pins : List Int
def encInts (l : List Int) : V := .sl false 1 (l.map fun n => [.int .i64 n])
def encPol (p : Pol) : List V := [.int .i64 p.last, .int .i64 p.every, encInts p.pins]
def Pol.Ok (p : Pol) : Prop := I64 p.last ∧ I64 p.every ∧ p.pins.length ≤ maxLen ∧ ∀ a ∈ p.pins, I64 a
theorem reads_policy : ReadsAs 71 Pol encPol Pol.Ok :=
  reads_map (reads_struct Try.underlying71 (reads_cons (k := 1) r_int rfl (by kernel_rfl) (reads_cons (k := 1) r_int rfl (by kernel_rfl) (reads_cons (k := 1) r_ints rfl (by kernel_rfl) (reads_nil _)))) (by kernel_rfl))
    (fun p => ⟨p.1, p.2.1, p.2.2.1⟩) (fun _ => rfl) (fun p h => ⟨h.1, h.2.1, h.2.2.1⟩)

structure Slot where
  data : List UInt8
  safe : Int
def encSlot (s : Slot) : List V := [.str s.data, .int .i64 s.safe]
def Slot.Ok (s : Slot) : Prop := s.data.length ≤ maxLen ∧ I64 s.safe
theorem reads_slot : ReadsAs 39 Slot encSlot Slot.Ok :=
  reads_map (reads_struct Try.underlying39 (reads_cons (k := 1) r_str rfl (by kernel_rfl) (reads_cons (k := 1) r_int rfl (by kernel_rfl) (reads_nil _))) (by kernel_rfl))
    (fun p => ⟨p.1, p.2.1⟩) (fun _ => rfl) (fun p h => ⟨h.1, h.2.1⟩)
structure Disk where
  a : Slot
  b : Slot
def encDisk (d : Disk) : List V := [.str d.a.data, .int .i64 d.a.safe, .str d.b.data, .int .i64 d.b.safe]
def Disk.Ok (d : Disk) : Prop := d.a.Ok ∧ d.b.Ok
def diskOf : List Slot → Disk
  | [a, b] => ⟨a, b⟩
  | _ => ⟨⟨[], 0⟩, ⟨[], 0⟩⟩
theorem reads_disk : ReadsAs 42 Disk encDisk Disk.Ok := by
  have h := reads_struct Try.underlying42 (reads_cons (k := 4) (reads_array (n := 2) (k := 2) Try.underlying40 reads_slot (by kernel_rfl) (by kernel_rfl)) rfl (by kernel_rfl) (reads_nil _)) (by kernel_rfl)
  intro H e w base spare held fuel cs x hh
  obtain ⟨⟨l, u⟩, ⟨⟨h1, h2⟩, _⟩, h3⟩ := h _ _ _ _ _ _ _ _ _ hh
  match l, h1 with
  | [a, b], _ => exact ⟨⟨a, b⟩, ⟨h2 a (by simp), h2 b (by simp)⟩, by simpa [encDisk, encSlot] using h3⟩

structure Frame where
  kind : Int
  body : List UInt8
def encFrame (f : Frame) : List V := [.int .i64 f.kind, .str f.body]
def Frame.Ok (f : Frame) : Prop := I64 f.kind ∧ f.body.length ≤ maxLen
theorem reads_frame : ReadsAs 32 Frame encFrame Frame.Ok :=
  reads_map (reads_struct Try.underlying32 (reads_cons (k := 1) r_int rfl (by kernel_rfl) (reads_cons (k := 1) r_str rfl (by kernel_rfl) (reads_nil _))) (by kernel_rfl))
    (fun p => ⟨p.1, p.2.1⟩) (fun _ => rfl) (fun p h => ⟨h.1, h.2.1⟩)

structure Client where
  who : Int
  rev : Int
  seq : Int
  text : List UInt8
  flying : Bool
  sent : List Part
  waiting : Bool
  held : List Part
def encClient (c : Client) : List V := [.int .i64 c.who, .int .i64 c.rev, .int .i64 c.seq, .str c.text, .bool c.flying, encParts c.sent, .bool c.waiting, encParts c.held]
def Client.Ok (c : Client) : Prop := I64 c.who ∧ I64 c.rev ∧ I64 c.seq ∧ c.text.length ≤ maxLen ∧ PartsOk c.sent ∧ PartsOk c.held
theorem reads_client : ReadsAs 95 Client encClient Client.Ok :=
  reads_map (reads_struct Try.underlying95 (reads_cons (k := 1) r_int rfl (by kernel_rfl) (reads_cons (k := 1) r_int rfl (by kernel_rfl) (reads_cons (k := 1) r_int rfl (by kernel_rfl) (reads_cons (k := 1) r_str rfl (by kernel_rfl)
      (reads_cons (k := 1) r_bool rfl (by kernel_rfl) (reads_cons (k := 1) reads_parts rfl (by kernel_rfl) (reads_cons (k := 1) r_bool rfl (by kernel_rfl) (reads_cons (k := 1) reads_parts rfl (by kernel_rfl) (reads_nil _))))))))) (by kernel_rfl))
    (fun p => ⟨p.1, p.2.1, p.2.2.1, p.2.2.2.1, p.2.2.2.2.1, p.2.2.2.2.2.1, p.2.2.2.2.2.2.1, p.2.2.2.2.2.2.2.1⟩) (fun _ => rfl) (fun p h => ⟨h.1, h.2.1, h.2.2.1, h.2.2.2.1, h.2.2.2.2.2.1, h.2.2.2.2.2.2.2.1⟩)

structure Msg where
  base : Int
  who : Int
  seq : Int
  delta : List Part
def encMsg (m : Msg) : List V := [.int .i64 m.base, .int .i64 m.who, .int .i64 m.seq, encParts m.delta]
def Msg.Ok (m : Msg) : Prop := I64 m.base ∧ I64 m.who ∧ I64 m.seq ∧ PartsOk m.delta
theorem reads_msg : ReadsAs 97 Msg encMsg Msg.Ok :=
  reads_map (reads_struct Try.underlying97 (reads_cons (k := 1) r_int rfl (by kernel_rfl) (reads_cons (k := 1) r_int rfl (by kernel_rfl) (reads_cons (k := 1) r_int rfl (by kernel_rfl) (reads_cons (k := 1) reads_parts rfl (by kernel_rfl) (reads_nil _))))) (by kernel_rfl))
    (fun p => ⟨p.1, p.2.1, p.2.2.1, p.2.2.2.1⟩) (fun _ => rfl) (fun p h => ⟨h.1, h.2.1, h.2.2.1, h.2.2.2.1⟩)
end Go.Proofs.Ytdmpbdmgaepndaa.AM
