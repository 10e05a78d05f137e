/-
  Texts of the plain machine, put together: what the law TopArchive reaches.
-/
import Derived.Shelf.Strings.Builder1
import Derived.Test.YtobngncjflogcaaProg
import Derived.WalkKit
import Derived.WalkSpells
import Derived.WalkLawsBesides
import Derived.Lib.AppendStr
import Derived.Test.YtobngncjflogcaaTopArchive5
import Derived.BigQuiet
import Derived.Lib.Hide
import Derived.Lib.Strings
import Derived.Laws.Bits128
import Derived.Laws.BitsAllLaws
import Derived.Test.YtobngncjflogcaaRows
import Derived.Laws.IdiomStrings
import Derived.Deep.RegionWith
namespace Go
def World.ob (w : World) (g : Nat) (T : TypeId) (cs : Array Value) : World := { w with heap := w.heap.setIfInBounds g (.cells cs T (0, 0)) }
end Go
set_option linter.unusedVariables false
set_option linter.unusedSimpArgs false
namespace Go.Proofs
open Go.Shelf Go.RowKit Go.Lib
def Try.lays169_ren : Go.Shelf.Ren := ⟨fun | 169 => 56 | n => n, fun | 70 => 110 | 9 => 9 | 0 => 0 | 72 => 113 | 37 => 111 | 127 => 157 | 3 => 3 | 5 => 5 | n => n, fun | n => n⟩

theorem Try.lays169 : Go.Proofs.Lays.n169 Try.prog Try.lays169_ren := {
  mixed := by kernel_rfl
  f169 := Try.func56.trans (congrArg some (by kernel_rfl))
  t0 := Try.underlying0
  a0 := Try.isAgg0
  z0 := Try.sizeOf0
  v0 := Try.zeroValue0
  t3 := Try.underlying3
  a3 := Try.isAgg3
  z3 := Try.sizeOf3
  v3 := Try.zeroValue3
  t9 := Try.underlying9
  a9 := Try.isAgg9
  z9 := Try.sizeOf9
  v9 := Try.zeroValue9
  t37 := Try.underlying111
  a37 := Try.isAgg111
  z37 := Try.sizeOf111
  v37 := Try.zeroValue111
  t70 := Try.underlying110
  a70 := Try.isAgg110
  z70 := Try.sizeOf110
  v70 := Try.zeroValue110
  t72 := Try.underlying113
  a72 := Try.isAgg113
  z72 := Try.sizeOf113
  v72 := Try.zeroValue113
  t127 := Try.underlying157
  a127 := Try.isAgg157
  z127 := Try.sizeOf157
  v127 := Try.zeroValue157 }

theorem Try.Builder_Extra_169 : Builder.Extra Try.prog Try.lays169_ren := {
  sizeBuilder := by kernel_rfl
  liesBuilder := by kernel_rfl
  t5 := Try.underlying5
  a5 := Try.isAgg5
  z5 := Try.sizeOf5
  v5 := Try.zeroValue5
  infoByte := by kernel_rfl
  cellsByte := by kernel_rfl
  sizeByte := by kernel_rfl
  neB5 := by decide }

theorem Try.Builder_String_any (B b : Nat) (l : List UInt8) (w : World) (h : Lib.IsBuilder 113 5 B b (Lib.byteCells l) w) (hBw : B ≤ w.heap.size) :
    Calls Try.prog 56 #[.pointer (some ⟨b, 0, none⟩)] w fun e w' => e = .returned (.string ⟨l.toArray⟩) ∧ Below B w w' := Any.Builder_String_any Try.lays169 Try.Builder_Extra_169 B b l w h hBw

end Go.Proofs
namespace Go.Proofs.Ytobngncjflogcaa.Bld
open Go Go.RowKit
def T : TypeId := 113
def E : TypeId := 5
set_option maxRecDepth 100000 in
set_option maxHeartbeats 4000000 in
theorem check_used (b : Nat) (w : World) (h0 : w.cell? ⟨b, 0, none⟩ = some (.pointer (some ⟨b, 0, none⟩))) :
    Calls Try.prog 91 #[.pointer (some ⟨b, 0, none⟩)] w fun e w' => e = .returned (.tuple #[]) ∧ w' = w := by
  obtain ⟨j, hj⟩ : ∃ j, Try.prog.info? 113 = some j := Option.isSome_iff_exists.1 (by kernel_rfl)
  go_enter Try.func91, Try.ntmps91
  go_wp2
  rw [Lib.run_neq_ptr_same w _ Try.underlying110 hj]
  go_wp2
  go_end0
  exact ⟨rfl, rfl⟩
set_option maxRecDepth 100000 in
set_option maxHeartbeats 4000000 in
theorem check_fresh (b : Nat) (w : World) (h0 : w.cell? ⟨b, 0, none⟩ = some (.pointer none)) (hsh : w.shape? b = some (113, 2)) (hfz : w.frozen? ⟨b, 0, none⟩ = false) :
    Calls Try.prog 91 #[.pointer (some ⟨b, 0, none⟩)] w fun e w' => e = .returned (.tuple #[]) ∧ w' = w.setCell ⟨b, 0, none⟩ (.pointer (some ⟨b, 0, none⟩)) := by
  obtain ⟨j, hj⟩ : ∃ j, Try.prog.info? 113 = some j := Option.isSome_iff_exists.1 (by kernel_rfl)
  have hjs : j.size = 2 := by
    have h : (Try.prog.info? 113).map (·.size) = some 2 := by kernel_rfl
    rw [hj] at h
    exact Option.some.inj h
  go_enter Try.func91, Try.ntmps91
  go_wp2
  rw [Lib.run_to_unsafe w ⟨b, 0, none⟩ Try.underlying110 Try.underlying184 hj (by rw [hjs]; decide) hsh (Nat.zero_lt_succ 1)]
  simp only [Result.andThen]
  rw [Oper.upon_value]
  go_wp2
  rw [run_callFunc_extern Try.func113 (by kernel_rfl) (by kernel_rfl) (by kernel_rfl) (e := Extern.AbiNoEscape.same) (by kernel_rfl)]
  rw [Lib.run_noEscape]
  simp only [Result.andThen]
  rw [Oper.upon_value]
  go_wp2
  rw [Lib.run_from_unsafe w ⟨b, 0, none⟩ Try.underlying184 Try.underlying110 hj hsh (by kernel_rfl)]
  simp only [Result.andThen]
  rw [Oper.upon_value]
  go_wp2
  go_end0
  exact ⟨rfl, rfl⟩
/-- blocks of other types, but for b, are as they were -/
def Keep (b : Nat) (w w' : World) : Prop := ∀ (k : Nat) (cs : Array Value) (ty : TypeId) (fr : Nat × Nat), k ≠ b → ty ≠ E → w.heap[k]? = some (.cells cs ty fr) → w'.heap[k]? = some (.cells cs ty fr)
theorem Keep.refl (b : Nat) (w : World) : Keep b w w := fun _ _ _ _ _ _ h => h
theorem Keep.trans {b : Nat} {w w1 w2 : World} (h : Keep b w w1) (h' : Keep b w1 w2) : Keep b w w2 := fun k cs ty fr h1 h2 h3 => h' k cs ty fr h1 h2 (h k cs ty fr h1 h2 h3)
theorem Keep.set (b j : Nat) (v : Value) (w : World) : Keep b w (w.setCell ⟨b, j, none⟩ v) := fun k cs ty fr h1 h2 h3 => by
  rw [← h3]; simp [World.setCell, Array.getElem?_modify, Ne.symm h1]
theorem check (B b : Nat) (bs : List Value) (w : World) (h : Lib.IsBuilder T E B b bs w) :
    Calls Try.prog 91 #[.pointer (some ⟨b, 0, none⟩)] w fun e w' => e = .returned (.tuple #[]) ∧ (Lib.BuilderAt T E B b (.pointer (some ⟨b, 0, none⟩)) bs w' ∧ Below B w w' ∧ Keep b w w') := by
  rcases h with h | h
  · refine (check_fresh b w h.cell0 h.shape h.frozen0).mono ?_
    rintro e w' ⟨rfl, rfl⟩
    exact ⟨rfl, h.used _, (Below.refl B w).setCell (p := ⟨b, 0, none⟩) h.1 _, Keep.set _ _ _ _⟩
  · refine (check_used b w h.cell0).mono ?_
    rintro e w' ⟨rfl, rfl⟩
    exact ⟨rfl, h, Below.refl B _, Keep.refl _ _⟩
set_option maxRecDepth 100000 in
set_option maxHeartbeats 4000000 in
theorem writeString (B b : Nat) (bs : List Value) (s : ByteArray) (w : World) (h : Lib.IsBuilder T E B b bs w) (hlen : bs.length + s.size ≤ 140737488355328) (hBw : B ≤ w.heap.size) :
    Calls Try.prog 55 #[.pointer (some ⟨b, 0, none⟩), .string s] w fun e w' => e = .returned (.tuple #[.int .i64 s.size, .nilIface]) ∧ (Lib.BuilderAt T E B b (.pointer (some ⟨b, 0, none⟩)) (bs ++ Lib.strCells s) w' ∧ Below B w w' ∧ Keep b w w') := by
  obtain ⟨i0, hi, hz0, hz1, hz2⟩ := info_parts (show (Try.prog.info? 5).map (fun i => (i.zero, i.size, i.bytes)) = some (some (.int .u8 0), 1, 1) by kernel_rfl)
  have hck := check B b bs w h
  unfold T E at *
  go_enter Try.func55, Try.ntmps55
  go_wp2_with fail
  refine hck.mono ?_
  rintro e w1 ⟨rfl, h1, hb1, hkp1⟩
  obtain ⟨hB, v, hbk, hown, hne⟩ := h1
  have c0 : w1.cell? ⟨b, 0, none⟩ = some (.pointer (some ⟨b, 0, none⟩)) := by rw [Lib.cell_of_heap hbk]; rfl
  have c1 : w1.cell? ⟨b, 1, none⟩ = some v := by rw [Lib.cell_of_heap hbk]; rfl
  go_wp2_with (at_builtin; refine Lib.wpList_append_own_string _ rfl _ _ 111 9 rfl B 5 i0 Try.underlying111 Try.underlying9 hi hz0 hz1 hz2 _ _ _ rfl hown s rfl ?c3 ?c4 ?c5 ?_)
  case c3 => unfold maxLen; omega
  case c4 => omega
  case c5 => have := hb1.size; omega
  intro v' w2 hown' hgrow _
  have hlt : b < w1.heap.size := by
    rcases Nat.lt_or_ge b w1.heap.size with h' | h'
    · exact h'
    · simp [Array.getElem?_eq_none h'] at hbk
  have hb2 : w2.heap[b]? = some (.cells #[.pointer (some ⟨b, 0, none⟩), v] 113 (0, 0)) := by
    rw [hgrow.block b hlt (fun e => hne e.symm)]
    exact hbk
  have d0 : w2.cell? ⟨b, 0, none⟩ = some (.pointer (some ⟨b, 0, none⟩)) := by rw [Lib.cell_of_heap hb2]; rfl
  have d1 : w2.cell? ⟨b, 1, none⟩ = some v := by rw [Lib.cell_of_heap hb2]; rfl
  have f1 : w2.frozen? ⟨b, 1, none⟩ = false := Lib.frozen_of_heap hb2 1
  have hkp2 : Keep b w1 w2 := fun k cs ty fr h1 h2 h3 => by
    rw [hgrow.block k (Array.getElem?_eq_some_iff.1 h3).1 (fun e => Lib.ownBlock_ne hown h3 h2 e.symm)]; exact h3
  obtain ⟨ao, n', cap, rfl⟩ : ∃ ao n' cap, v' = .slice ao n' cap := by
    rcases hown'.2 with ⟨hv, _⟩ | ⟨g, cap, cur, hv, _⟩
    · exact ⟨_, _, _, hv⟩
    · exact ⟨_, _, _, hv⟩
  go_wp2
  go_ret2
  refine ⟨rfl, ?_, ?_, (hkp1.trans hkp2).trans (Keep.set _ _ _ _)⟩
  · exact Lib.BuilderAt.put (T := 113) (e := 5) hB hb2 (bs' := bs ++ Lib.strCells s) (by simpa [Lib.strCells_length] using hown') (by decide)
  · exact (hb1.grown hgrow (by have := hb1.size; omega) (fun k hk => (hown.lt k hk).1)).setCell (p := ⟨b, 1, none⟩) hB _
end Go.Proofs.Ytobngncjflogcaa.Bld

set_option linter.unusedVariables false
set_option linter.unusedSimpArgs false
namespace Go.Proofs.Ytobngncjflogcaa.AM
open Go
set_option maxRecDepth 100000
set_option maxHeartbeats 2000000
def fitsF (d : List Part) (n : Int) : Int := if checkF d ≠ 0 then checkF d else if n ≠ inF d then 4 else 0
def ac_fits : AC := .seq (.region false [
    ⟨some 4, none, .mov (.c (.int .i64 0))⟩])
  (.seq (.region false [
    ⟨some 9, none, .mov (.t 0)⟩,
    ⟨some 10, none, .call 67 [(.t 9)]⟩,
    ⟨some 8, none, .mov (.t 10)⟩,
    ⟨some 11, none, .ext 0 (.t 8)⟩,
    ⟨some 12, none, .ext 1 (.t 8)⟩,
    ⟨some 13, none, .ext 2 (.t 8)⟩,
    ⟨some 5, none, .mov (.t 11)⟩,
    ⟨some 6, none, .mov (.t 12)⟩,
    ⟨some 7, none, .mov (.t 13)⟩])
  (.seq (.seq (.region false [
    ⟨some 14, none, .mov (.t 7)⟩,
    ⟨some 15, none, .bin .neq (.t 14) (.c (.int .i64 0))⟩])
  (.cond (.t 15)
    (.seq (.region false [
      ⟨some 16, none, .mov (.t 7)⟩,
      ⟨some 4, none, .mov (.t 16)⟩])
    (.ret))
    (.skip)))
  (.seq (.seq (.region false [
    ⟨some 17, none, .mov (.t 1)⟩,
    ⟨some 18, none, .mov (.t 5)⟩,
    ⟨some 19, none, .bin .neq (.t 17) (.t 18)⟩])
  (.cond (.t 19)
    (.seq (.region false [
      ⟨some 4, none, .mov (.c (.int .i64 4))⟩])
    (.ret))
    (.skip)))
  (.seq (.region false [
    ⟨some 4, none, .mov (.c (.int .i64 0))⟩])
  (.ret)))))
theorem ok_fits : FnOk Try.prog 54 Try.f54 ac_fits [.t 4] 2 drawD := ⟨Try.func54, by decide +kernel, by kernel_rfl, by kernel_rfl, by decide +kernel⟩
theorem vc_fits (P : Prim) (hP : P = std) (T T1 : CallT) (rows : List (List V)) (n i o c : Int) (hc1 : Ans T 67 [.sl true 3 rows] (.tup [.int .i64 i, .int .i64 o, .int .i64 c])) (r : Int) (hr : (if c ≠ 0 then c else if n ≠ i then 4 else 0) = r)
    (R : S → Prop) (hR : ∀ s s' q, q = r → Ent s s' → Ret [.t 4] [.int .i64 q] s' → R s) : awp P T T1 ac_fits (S0 [.sl true 3 rows, .int .i64 n] Hp.emp) R (fun _ _ => False) R := by
  cbv
  repeat' (first | (intro β; try cbv) | (refine And.intro (by assumption) ?_; try cbv) | (refine br_cases (fun h => ?_) (fun h => ?_) <;> try cbv) | (refine Exists.intro _ (And.intro (by assumption) ?_); try cbv) | (refine hc1 _ _ ?_; try cbv) | (refine hc2 _ _ ?_; try cbv) | (refine hc3 _ _ ?_; try cbv) | (refine hc4 _ _ ?_; try cbv) | (refine hc5 _ _ ?_; try cbv) | (refine hc6 _ _ ?_; try cbv) | (refine And.intro (by (clear hR; subst hP; simp [std, I64, nc] at * <;> first | omega | grind)) ?_; try cbv))
  all_goals
    refine hR _ _ _ ?_ (Ent.refl _) rfl
    clear hR hc1; subst hP; simp [std] at *; grind
theorem sp_fits (d : List Part) (hd : d.length ≤ maxLen) (n : Int) : Spec Try.prog 54 [.sl true 3 (d.map encPart), .int .i64 n] Hp.emp (Is (.int .i64 (fitsF d n))) :=
  spec_pure dOk ok_fits [.int .i64 (fitsF d n)] (.int _ _) fun R hR => vc_fits std rfl _ _ _ n _ _ _ (ansW (sp_szs d hd) (fun h => .cons (.same _) .nil) rfl) (fitsF d n) (by unfold szF fitsF; by_cases h : checkF d = 0 <;> simp [h]) R fun s s' q h he hr => by subst h; exact hR s s' he hr
theorem fitsF_ok {d : List Part} {n : Int} (h : fitsF d n = 0) : checkF d = 0 ∧ n = inF d := by
  unfold fitsF at h
  by_cases hc : checkF d = 0
  · rw [if_neg (fun h => h hc)] at h
    exact ⟨hc, by by_cases hn : n = inF d; exact hn; rw [if_pos hn] at h; omega⟩
  · rw [if_pos hc] at h; contradiction
end Go.Proofs.Ytobngncjflogcaa.AM

set_option linter.unusedVariables false
set_option linter.unusedSimpArgs false
namespace Go.Proofs.Ytobngncjflogcaa.Bld
open Go Go.RowKit AM
theorem own_keep' {w w' : World} {base n B : Nat} {e : TypeId} {size : Nat} {v : Value} {xs : List Value} (h : w.ownsRow base e size v n xs) (hb : Below B w w') (hB : w.heap.size ≤ B) : w'.ownsRow base e size v n xs := by
  refine ⟨h.1, ?_⟩
  rcases h.2 with hn | ⟨g, cap, cur, rfl, hbg, hh, rest⟩
  · exact .inl hn
  · exact .inr ⟨g, cap, cur, rfl, hbg, (hb.block g (Nat.lt_of_lt_of_le (Array.getElem?_eq_some_iff.1 hh).1 hB)).trans hh, rest⟩
theorem at_keep {B b : Nat} {p : Value} {bs : List Value} {w w' : World} (h : Lib.BuilderAt T E B b p bs w) (hb : Below w.heap.size w w') : Lib.BuilderAt T E B b p bs w' := by
  have hlt := h.lt
  obtain ⟨hB, v, hbk, hown, hne⟩ := h
  exact ⟨hB, v, (hb.block b hlt).trans hbk, own_keep' hown hb (Nat.le_refl _), hne⟩
theorem is_keep {B b : Nat} {bs : List Value} {w w' : World} (h : Lib.IsBuilder T E B b bs w) (hb : Below w.heap.size w w') : Lib.IsBuilder T E B b bs w' :=
  h.elim (fun h => .inl (at_keep h hb)) fun h => .inr (at_keep h hb)
theorem is_lt {B b : Nat} {bs : List Value} {w : World} (h : Lib.IsBuilder T E B b bs w) : b < w.heap.size := h.elim (·.lt) (·.lt)
theorem doT_keep (n : Nat) (ts : List Tok) (s : List UInt8) : doT (List.replicate n .keep ++ ts) s = s.take n ++ doT ts (s.drop n) := by
  induction n generalizing s with
  | zero => simp
  | succ n ih =>
    simp only [List.replicate_succ, List.cons_append, doT, ih, List.drop_drop]
    rw [← List.append_assoc, show n + 1 = 1 + n by omega, List.take_add]
theorem doT_cut (n : Nat) (ts : List Tok) (s : List UInt8) : doT (List.replicate n .cut ++ ts) s = doT ts (s.drop n) := by
  induction n generalizing s with
  | zero => simp
  | succ n ih => simp only [List.replicate_succ, List.cons_append, doT, ih, List.drop_drop]; rw [show n + 1 = 1 + n by omega]
theorem doT_put (t : List UInt8) (ts : List Tok) (s : List UInt8) : doT (t.map .put ++ ts) s = t ++ doT ts s := by
  induction t with
  | nil => simp
  | cons b t ih => simp [doT, ih]
theorem bytes_app (a : List UInt8) (x : ByteArray) : Lib.byteCells a ++ Lib.strCells x = Lib.byteCells (a ++ x.data.toList) := by simp [Lib.byteCells, Lib.strCells]
theorem ex_list (x : ByteArray) (a b : Nat) : (x.extract a b).data.toList = (x.data.toList.take b).drop a := by
  rw [ByteArray.data_extract, Array.toList_extract, List.extract_eq_take_drop, List.drop_take]
theorem ex_size (x : ByteArray) (a b : Nat) : (x.extract a b).size = min b x.size - a := by
  show (x.extract a b).data.size = _
  rw [ByteArray.data_extract, Array.size_extract]; rfl
/-- a slice of parts in memory -/
def PartsAt (w : World) (oa : Option Addr) (d : List Part) : Prop := ∀ (i : Nat) (p : Part), d[i]? = some p → ∃ b off, oa = some ⟨b, off, none⟩ ∧ b < w.heap.size ∧
  w.cell? ⟨b, off + (i * 3), none⟩ = some (.int .i64 p.kind) ∧ w.cell? ⟨b, off + (i * 3 + 1), none⟩ = some (.int .i64 p.n) ∧ w.cell? ⟨b, off + (i * 3 + 2), none⟩ = some (.string ⟨p.text.toArray⟩)
set_option maxRecDepth 100000 in
set_option maxHeartbeats 4000000 in
theorem do_bad (n c : Nat) (s : ByteArray) (oa : Option Addr) (W : World) (f : Int) (hf : f ≠ 0) (hfits : Calls Try.prog 54 #[.slice oa n c, .int .i64 s.size] W fun e w' => e = .returned (.int .i64 f) ∧ Below W.heap.size W w') :
    Calls Try.prog 16 #[.slice oa n c, .string s] W fun e w' => e = .returned (.tuple #[.string ⟨#[]⟩, .int .i64 f]) ∧ Below W.heap.size W w' := by
  go_enter Try.func16, Try.ntmps16
  go_wp2_with fail
  refine hfits.mono ?_
  rintro e w1 ⟨rfl, hb1⟩
  go_wp2_with fail
  go_ret2
  exact ⟨rfl, hb1⟩
set_option maxRecDepth 100000 in
set_option maxHeartbeats 4000000 in
theorem do_ok (d : List Part) (c : Nat) (s : ByteArray) (oa : Option Addr) (W : World) (hd : d.length ≤ 1600) (hat : PartsAt W oa d) (hok : ∀ p ∈ d, okP p) (hin : inF d = (s.size : Int)) (hs : s.size ≤ 500) (hout : outF d ≤ 500)
    (hfits : Calls Try.prog 54 #[.slice oa d.length c, .int .i64 s.size] W fun e w' => e = .returned (.int .i64 0) ∧ Below W.heap.size W w') :
    Calls Try.prog 16 #[.slice oa d.length c, .string s] W fun e w' => e = .returned (.tuple #[.string ⟨(doT (toks d) s.data.toList).toArray⟩, .int .i64 0]) ∧ Below W.heap.size W w' := by
  have HD : Hid (doT (toks d) s.data.toList = [] ++ doT (toks d) s.data.toList) := Lib.hid rfl
  go_enter Try.func16, Try.ntmps16
  go_wp2_with fail
  refine hfits.mono ?_
  rintro e w1 ⟨rfl, hb1⟩
  clear hfits
  go_wp2_with fail
  go_loopw [1, 19] (fun sv kv wr => ∃ (pre rest : List Part) (s' : ByteArray) (out : List UInt8), sv = .string s' ∧ kv = .int .i64 pre.length ∧ d = pre ++ rest ∧ inF rest = s'.size ∧ s'.size ≤ 500 ∧ (out.length : Int) + outF rest = outF d ∧ Lib.IsBuilder T E W.heap.size w1.heap.size (Lib.byteCells out) wr ∧ Below W.heap.size W wr ∧ Hid (doT (toks d) s.data.toList = out ++ doT (toks rest) s'.data.toList)) (fun _ kv _ => d.length - (intOf kv).toNat)
  case atStart => exact ⟨[], d, s, [], rfl, rfl, rfl, hin, hs, by show ((0 : Nat) : Int) + _ = _; omega, .inl ⟨hb1.size, .slice none 0 0, heap_alloc_new w1 _, World.ownsRow_nil _ _ _ _, by simp [Value.ownBlock]⟩, hb1.alloc hb1.size _, HD⟩
  case round =>
    obtain ⟨pre, rest, s', out, rfl, rfl, hd', hin', hs', hout', hib, hb, HN⟩ := hrel
    rcases rest with _ | ⟨p, rest⟩
    · have hpl : pre.length = d.length := by rw [hd']; simp
      have hstr := Try.Builder_String_any W.heap.size w1.heap.size out wr hib hb.size
      rw [hpl]
      have HN2 : Hid (doT (toks d) s.data.toList = out) := by show _ = _; rw [HN.out]; simp [toks, doT]
      clear hd' hin' hout' HN hat hok hin hout HD hib
      go_wp2_with fail
      refine hstr.mono ?_
      rintro e w2 ⟨rfl, hb2⟩
      go_wp2_with fail
      go_ret2
      exact ⟨by rw [HN2.out]; rfl, hb.trans hb2⟩
    · have hpl : pre.length < d.length := by rw [hd']; simp
      obtain ⟨b, off, rfl, hblt, q0, q1, q2⟩ := hat pre.length p (by rw [hd']; simp)
      have r0 : wr.cell? ⟨b, off + pre.length * 3, none⟩ = some (.int .i64 p.kind) := by rw [hb.cell (p := ⟨b, _, none⟩) hblt]; exact q0
      have r1 : wr.cell? ⟨b, off + pre.length * 3 + 1, none⟩ = some (.int .i64 p.n) := by rw [hb.cell (p := ⟨b, _, none⟩) hblt]; exact q1
      have r2 : wr.cell? ⟨b, off + pre.length * 3 + 2, none⟩ = some (.string ⟨p.text.toArray⟩) := by rw [hb.cell (p := ⟨b, _, none⟩) hblt]; exact q2
      have hp := okP_bd (hok p (by rw [hd']; simp))
      have hokp := hok p (by rw [hd']; simp)
      clear q0 q1 q2 hat
      have hrest := inF_bd rest fun q hq => hok q (by rw [hd']; simp [hq])
      have hrest2 := outF_bd rest fun q hq => hok q (by rw [hd']; simp [hq])
      have HD' : Hid (d = (pre ++ [p]) ++ rest ∧ (pre ++ [p]).length = pre.length + 1) := by show _ ∧ _; rw [hd']; simp
      have HR : Hid (0 ≤ inF rest ∧ 0 ≤ outF rest) := ⟨hrest.1, hrest2.1⟩
      have HL : Hid (out.length ≤ 500) := by show _ ≤ _; have h := (outF_bd (p :: rest) fun q hq => hok q (by rw [hd']; exact List.mem_append_right _ hq)).1; omega
      clear hd' hok hin hout HD hrest hrest2
      obtain ⟨kd, n, t⟩ := p
      simp only [] at r0 r1 r2 hp
      simp only [inF, outF] at hin' hout'
      have hwr : W.heap.size ≤ wr.heap.size := hb.size
      have hbl := is_lt hib
      rcases hp.2.2.2 with ⟨rfl, rfl, hne⟩ | ⟨rfl | rfl, hn0, rfl⟩
      · rw [if_neg (by decide)] at hin' 
        rw [if_neg (by decide), if_neg (by decide)] at hout'
        have H1 : Hid (inF rest = (s'.size : Int) ∧ (out.length : Int) + (t.length + outF rest) = outF d ∧ t.length ≤ 500) := ⟨by omega, by omega, hp.2.2.1⟩
        have H2 : Hid (doT (toks d) s.data.toList = (out ++ t) ++ doT (toks rest) s'.data.toList) := by
          show _ = _
          rw [HN.out, show toks (⟨2, 0, t⟩ :: rest) = t.map .put ++ toks rest by simp [toks, toks1], doT_put]; simp
        clear hin' hout' hp HN hokp
        go_wp2_with fail
        refine (writeString W.heap.size w1.heap.size (Lib.byteCells out) ⟨t.toArray⟩ _ (is_keep hib (Below.alloc (Below.refl _ _) (Nat.le_refl _) _)) (by rw [Lib.byteCells_length]; have := H1.out.2.2; have := HL.out; show out.length + t.toArray.size ≤ _; rw [List.size_toArray]; omega) (by simp; omega)).mono ?_
        rintro e w2 ⟨rfl, hib2, hb2, hk2⟩
        have c1 := hb2.size
        go_wp2_with fail
        go_roundw
        case rel => exact ⟨pre ++ [⟨2, 0, t⟩], rest, s', out ++ t, rfl, by rw [HD'.out.2, Int.natCast_add]; rfl, HD'.out.1, H1.out.1, hs', by rw [List.length_append]; have := H1.out; omega, .inr (by rw [bytes_app] at hib2; simpa using hib2), (hb.alloc hb.size _).trans hb2, H2⟩
        case measure => simp [intOf]; omega
      · rw [if_pos (by decide)] at hin' 
        rw [if_pos rfl] at hout'
        have hns : n ≤ s'.size := by have := HR.out; omega
        have hn1 : 0 ≤ n := by omega
        have e1 : (n.toNat : Int) = n := by omega
        have H1 : Hid (inF rest = ((s'.extract n.toNat s'.size).size : Int) ∧ ((out ++ (s'.extract 0 n.toNat).data.toList).length : Int) + outF rest = outF d ∧ (s'.extract n.toNat s'.size).size ≤ 500 ∧ (s'.extract 0 n.toNat).size ≤ 500) := by
          show _ ∧ _ ∧ _ ∧ _
          have h1 : ((s'.extract 0 n.toNat).data.toList).length = n.toNat := by rw [Array.length_toList]; show (s'.extract 0 n.toNat).size = _; rw [ex_size]; omega
          rw [List.length_append, h1, ex_size, ex_size]
          have := HR.out
          refine ⟨by omega, by omega, by omega, by omega⟩
        have H2 : Hid (doT (toks d) s.data.toList = (out ++ (s'.extract 0 n.toNat).data.toList) ++ doT (toks rest) (s'.extract n.toNat s'.size).data.toList) := by
          show _ = _
          rw [HN.out, ex_list, ex_list, show toks (⟨1, n, []⟩ :: rest) = List.replicate n.toNat .keep ++ toks rest by simp [toks, toks1], doT_keep]
          have : (s'.data.toList.take s'.size) = s'.data.toList := List.take_of_length_le (by rw [Array.length_toList]; exact Nat.le_refl _)
          rw [this]; simp
        clear hin' hout' hp HN hokp
        go_wp2_with fail
        refine (writeString W.heap.size w1.heap.size (Lib.byteCells out) (s'.extract 0 n.toNat) _ (is_keep hib (Below.alloc (Below.refl _ _) (Nat.le_refl _) _)) (by rw [Lib.byteCells_length]; have := H1.out; have := HL.out; omega) (by simp; omega)).mono ?_
        rintro e w2 ⟨rfl, hib2, hb2, hk2⟩
        have q9 := hk2 wr.heap.size _ _ _ (by omega) (by decide) (heap_alloc_new wr _)
        have q91 : w2.cell? ⟨wr.heap.size, 1, none⟩ = some (.int .i64 n) := by rw [Lib.cell_of_heap q9]; rfl
        have c1 := hb2.size
        go_wp2_with fail
        go_roundw
        case rel => exact ⟨pre ++ [⟨1, n, []⟩], rest, s'.extract n.toNat s'.size, out ++ (s'.extract 0 n.toNat).data.toList, rfl, by rw [HD'.out.2, Int.natCast_add]; rfl, HD'.out.1, H1.out.1, H1.out.2.2.1, H1.out.2.1, .inr (by rw [bytes_app] at hib2; exact hib2), (hb.alloc hb.size _).trans hb2, H2⟩
        case measure => simp [intOf]; omega
      · rw [if_pos (by decide)] at hin' 
        rw [if_neg (by decide), if_pos (by decide)] at hout'
        have hns : n ≤ s'.size := by have := HR.out; omega
        have hn1 : 0 ≤ n := by omega
        have H1 : Hid (inF rest = ((s'.extract n.toNat s'.size).size : Int) ∧ (out.length : Int) + outF rest = outF d ∧ (s'.extract n.toNat s'.size).size ≤ 500) := by
          show _ ∧ _ ∧ _
          rw [ex_size]
          have := HR.out
          refine ⟨by omega, by omega, by omega⟩
        have H2 : Hid (doT (toks d) s.data.toList = out ++ doT (toks rest) (s'.extract n.toNat s'.size).data.toList) := by
          show _ = _
          rw [HN.out, ex_list, show toks (⟨3, n, []⟩ :: rest) = List.replicate n.toNat .cut ++ toks rest by simp [toks, toks1], doT_cut]
          have : (s'.data.toList.take s'.size) = s'.data.toList := List.take_of_length_le (by rw [Array.length_toList]; exact Nat.le_refl _)
          rw [this]
        clear hin' hout' hp HN hokp
        go_wp2_with fail
        go_roundw
        case rel => exact ⟨pre ++ [⟨3, n, []⟩], rest, s'.extract n.toNat s'.size, out, rfl, by rw [HD'.out.2, Int.natCast_add]; rfl, HD'.out.1, H1.out.1, H1.out.2.2, H1.out.2.1, is_keep hib (Below.alloc (Below.refl _ _) (Nat.le_refl _) _), hb.alloc hb.size _, H2⟩
        case measure => simp [intOf]; omega
end Go.Proofs.Ytobngncjflogcaa.Bld

set_option linter.unusedVariables false
set_option linter.unusedSimpArgs false
namespace Go.Proofs.Ytobngncjflogcaa.AM
open Go

def spotP : List (List UInt8) → List Bool → Nat → Int
  | p :: ps, k :: ks, n + 1 => p.length + (if k then 1 else 0) + spotP ps ks n
  | _, _, _ => 0


def meetT : Nat → List Tok → List Tok → List Tok × List Tok
  | 0, _, _ => ([], [])
  | f + 1, .put b :: xs, ys => (.put b :: (meetT f xs ys).1, .keep :: (meetT f xs ys).2)
  | f + 1, xs, .put b :: ys => (.keep :: (meetT f xs ys).1, .put b :: (meetT f xs ys).2)
  | f + 1, .keep :: xs, .keep :: ys => (.keep :: (meetT f xs ys).1, .keep :: (meetT f xs ys).2)
  | f + 1, .cut :: xs, .keep :: ys => (.cut :: (meetT f xs ys).1, (meetT f xs ys).2)
  | f + 1, .keep :: xs, .cut :: ys => ((meetT f xs ys).1, .cut :: (meetT f xs ys).2)
  | f + 1, .cut :: xs, .cut :: ys => meetT f xs ys
  | _ + 1, _, _ => ([], [])
end Go.Proofs.Ytobngncjflogcaa.AM

set_option linter.unusedVariables false
set_option linter.unusedSimpArgs false
namespace Go.Proofs.Ytobngncjflogcaa.AM
open Go Go.RowKit
set_option maxRecDepth 100000
set_option maxHeartbeats 2000000
/-- a contract of the plain machine as one of the walks' kind -/
theorem calls_of_spec {f : Nat} {args : List V} {v : V} {us : Array Value} {W : World} (hs : Spec Try.prog f args Hp.emp (Is v)) (hl : us.size = args.length)
    (hr : ∀ (i : Nat) (v : V) (u : Value), args[i]? = some v → us[i]? = some u → Rel (OldB W) (fun _ => False) W v u) :
    Calls Try.prog f us W fun e w' => (∃ u F', e = .returned u ∧ Rel F' (fun _ => False) w' v u) ∧ Below W.heap.size W w' := by
  let C : Ctx := ⟨W, OldB W, fun _ => False, fun _ => False⟩
  have hC : C.Ok := ⟨fun b hb => ⟨hb, fun h => h⟩, fun b hb => hb.elim, fun b hb => hb.elim⟩
  refine (hs.run C us hC hl hr ⟨fun k o hk => by simp [Hp.emp] at hk, fun k k' o o' b hk => by simp [Hp.emp] at hk, fun k o b hk => by simp [Hp.emp] at hk, fun b hb => .inl hb, fun b hb => hb, fun b hb => hb, Ev.refl _ _⟩).mono ?_
  rintro e w' ⟨u, v', h', F', rfl, hv, hs2, rfl, rfl⟩
  have hev : Ev (fun _ => False) W w' := hs2.ev
  exact ⟨⟨u, F', rfl, hv⟩, hev.os, hev.tape, hev.output, hev.size, fun k hk => hev.same k hk (fun h => h)⟩
theorem rel_parts {F B : Nat → Prop} {w : World} {t : Bool} {d : List Part} {u : Value} (h : Rel F B w (.sl t 3 (d.map encPart)) u) (hlt : ∀ b, F b ∨ B b → b < w.heap.size) : ∃ oa c, u = .slice oa d.length c ∧ Bld.PartsAt w oa d := by
  generalize hrows : d.map encPart = rows at h
  cases h with
  | slnil =>
    have : d = [] := by simpa using hrows
    subst this
    exact ⟨none, 0, rfl, fun i p hp => by simp at hp⟩
  | slemp _ _ a cap =>
    have : d = [] := by simpa using hrows
    subst this
    exact ⟨some a, cap, rfl, fun i p hp => by simp at hp⟩
  | sl _ _ _ b off cap us hF hcap hsz hc hr =>
    subst hrows
    refine ⟨some ⟨b, off, none⟩, cap, by rw [List.length_map], fun i p hp => ⟨b, off, rfl, hlt b (by rcases hF with h | ⟨_, h⟩ <;> simp [h]), ?_, ?_, ?_⟩⟩
    all_goals have hi : (d.map encPart)[i]? = some (encPart p) := by rw [List.getElem?_map, hp]; rfl
    · have h1 := (hc i 0 _ (.int .i64 p.kind) hi rfl).1
      have h2 := hr i 0 _ (.int .i64 p.kind) hi rfl
      generalize us i 0 = x at h1 h2
      cases h2
      exact h1
    · have h1 := (hc i 1 _ (.int .i64 p.n) hi rfl).1
      have h2 := hr i 1 _ (.int .i64 p.n) hi rfl
      generalize us i 1 = x at h1 h2
      cases h2
      exact h1
    · have h1 := (hc i 2 _ (.str p.text) hi rfl).1
      have h2 := hr i 2 _ (.str p.text) hi rfl
      generalize us i 2 = x at h1 h2
      cases h2
      exact h1
def doF (d : List Part) (s : List UInt8) : List UInt8 × Int := if fitsF d s.length = 0 then (doT (toks d) s, 0) else ([], fitsF d s.length)
theorem sp_do (d : List Part) (hd : d.length ≤ maxLen) (s : List UInt8) : Spec Try.prog 16 [.sl true 3 (d.map encPart), .str s] Hp.emp (Is (.tup [.str (doF d s).1, .int .i64 (doF d s).2])) := by
  refine ⟨⟨Try.f16, Try.func16, by decide +kernel, Option.isSome_iff_exists.1 (by decide +kernel)⟩, fun C us hC hl hargs _ => ?_⟩
  have main : Calls Try.prog 16 us C.w0 fun e w' => e = .returned (.tuple #[.string ⟨(doF d s).1.toArray⟩, .int .i64 (doF d s).2]) ∧ Below C.w0.heap.size C.w0 w' := by
    match us, hl, hargs with
    | ⟨[x, y]⟩, _, hargs =>
      have a0 := hargs 0 _ x rfl rfl
      have a1 := hargs 1 _ y rfl rfl
      have a0' := a0.mono (F' := OldB C.w0) (B' := fun _ => False) (fun b hb => (hC.F0 b hb).1) (fun b hb => .inl (hC.B b hb).1)
      obtain ⟨oa, c, rfl, hat⟩ := rel_parts a0 fun b hb => hb.elim (fun h => (hC.F0 b h).1) fun h => (hC.B b h).1
      cases a1
      have hsz : (⟨s.toArray⟩ : ByteArray).size = s.length := by show s.toArray.size = _; simp
      have hfits : Calls Try.prog 54 #[.slice oa d.length c, .int .i64 ((⟨s.toArray⟩ : ByteArray).size : Int)] C.w0 fun e w' => e = .returned (.int .i64 (fitsF d s.length)) ∧ Below C.w0.heap.size C.w0 w' := by
        rw [hsz]
        refine (calls_of_spec (sp_fits d hd s.length) rfl (fun i v u hv hu => ?_)).mono ?_
        · match i with
          | 0 => simp at hv hu; subst hv hu; exact a0'
          | 1 => simp at hv hu; subst hv hu; exact .int _ _
          | i + 2 => simp at hv
        · rintro e w' ⟨⟨u, F', rfl, hu⟩, hb⟩
          cases hu
          exact ⟨rfl, hb⟩
      unfold doF
      by_cases hf : fitsF d s.length = 0
      · rw [if_pos hf]
        rw [hf] at hfits
        obtain ⟨hz, hin⟩ := fitsF_ok hf
        obtain ⟨h1, h2, h3, h4, _, _⟩ := checkF_all hz
        exact Bld.do_ok d c ⟨s.toArray⟩ oa C.w0 h1 hat h2 (by rw [hsz]; exact hin.symm) (by rw [hsz]; omega) h4 hfits
      · rw [if_neg hf]
        exact Bld.do_bad d.length c ⟨s.toArray⟩ oa C.w0 _ hf hfits
  refine main.mono ?_
  rintro e w' ⟨rfl, hb⟩
  refine ⟨_, .tup [.str (doF d s).1, .int .i64 (doF d s).2], Hp.emp, C.F0, rfl, .tup _ _ rfl (fun i v u hv hu => ?_), ⟨fun k o hk => by simp [Hp.emp] at hk, fun k k' o o' b hk => by simp [Hp.emp] at hk, fun k o b hk => by simp [Hp.emp] at hk, fun b hb => .inl hb, fun b hb => hb, fun b hb' => Nat.lt_of_lt_of_le (hC.F0 b hb').1 hb.size, ?_⟩, rfl, rfl⟩
  · match i with
    | 0 => simp at hv hu; subst hv hu; exact .str _
    | 1 => simp at hv hu; subst hv hu; exact .int _ _
    | i + 2 => simp at hv
  · exact ⟨hb.os, hb.tape, hb.output, hb.size, fun b hlt _ => hb.block b hlt, fun b c e fr hc => ⟨c, fr, by rw [hb.block b (Array.getElem?_eq_some_iff.1 hc).1]; exact hc, rfl⟩⟩


end Go.Proofs.Ytobngncjflogcaa.AM

set_option linter.unusedVariables false
set_option linter.unusedSimpArgs false
namespace Go.Proofs.Ytobngncjflogcaa.AM
open Go
set_option maxRecDepth 100000
set_option maxHeartbeats 2000000
def oneF (r : Rev) : Int := if r.who < 0 ∨ 7 < r.who ∨ r.seq < 0 ∨ 2147483647 < r.seq then 1 else checkF r.delta
def goT (cur : List UInt8) : List Rev → List (List UInt8) × Int
  | [] => ([], 0)
  | r :: l => if oneF r ≠ 0 then ([], oneF r) else if (doF r.delta cur).2 ≠ 0 then ([], (doF r.delta cur).2) else ((doF r.delta cur).1 :: (goT (doF r.delta cur).1 l).1, (goT (doF r.delta cur).1 l).2)
def textsF (base : List UInt8) (l : List Rev) : List (List UInt8) × Int := if 500 < base.length ∨ 64 < l.length then ([], 2) else if (goT base l).2 ≠ 0 then ([], (goT base l).2) else (base :: (goT base l).1, 0)
theorem goT_len : ∀ (l : List Rev) (cur : List UInt8), (goT cur l).2 = 0 → (goT cur l).1.length = l.length
  | [], _, _ => rfl
  | r :: l, cur, h => by
    unfold goT at h ⊢
    split at h
    · contradiction
    · rename_i h1
      rw [if_neg h1]
      split at h
      · contradiction
      · rename_i h2
        rw [if_neg h2]
        simp only [List.length_cons]
        rw [goT_len l _ h]
theorem textsF_ok {base : List UInt8} {l : List Rev} (h : (textsF base l).2 = 0) : base.length ≤ 500 ∧ l.length ≤ 64 ∧ (goT base l).2 = 0 ∧ (textsF base l).1 = base :: (goT base l).1 ∧ (textsF base l).1.length = l.length + 1 := by
  unfold textsF at h ⊢
  split at h
  · contradiction
  · rename_i h1
    rw [if_neg h1]
    split at h
    · contradiction
    · rename_i h2
      rw [if_neg h2]
      have h3 : (goT base l).2 = 0 := Decidable.of_not_not h2
      exact ⟨by omega, by omega, h3, rfl, by simp [goT_len l base h3]⟩

def ac_one : AC := .seq (.region false [
    ⟨some 1, none, .box 45 3 (.t 0)⟩,
    ⟨some 2, none, .mov (.c (.int .i64 0))⟩])
  (.seq (.seq (.region false [
    ⟨some 3, none, .faddr 0 (.t 1)⟩,
    ⟨some 4, none, .load1 (.t 3)⟩,
    ⟨some 5, none, .bin .lss (.t 4) (.c (.int .i64 0))⟩,
    ⟨some 6, none, .mov (.t 5)⟩,
    ⟨some 7, some (6, false), .faddr 0 (.t 1)⟩,
    ⟨some 8, some (6, false), .load1 (.t 7)⟩,
    ⟨some 9, some (6, false), .bin .gtr (.t 8) (.c (.int .i64 7))⟩,
    ⟨some 10, none, .pick (.t 6) (.c (.bool true)) (.t 9)⟩,
    ⟨some 11, none, .mov (.t 10)⟩,
    ⟨some 12, some (11, false), .faddr 1 (.t 1)⟩,
    ⟨some 13, some (11, false), .load1 (.t 12)⟩,
    ⟨some 14, some (11, false), .bin .lss (.t 13) (.c (.int .i64 0))⟩,
    ⟨some 15, none, .pick (.t 11) (.c (.bool true)) (.t 14)⟩,
    ⟨some 16, none, .mov (.t 15)⟩,
    ⟨some 17, some (16, false), .faddr 1 (.t 1)⟩,
    ⟨some 18, some (16, false), .load1 (.t 17)⟩,
    ⟨some 19, some (16, false), .bin .gtr (.t 18) (.c (.int .i64 2147483647))⟩,
    ⟨some 20, none, .pick (.t 16) (.c (.bool true)) (.t 19)⟩])
  (.cond (.t 20)
    (.seq (.region false [
      ⟨some 2, none, .mov (.c (.int .i64 1))⟩])
    (.ret))
    (.skip)))
  (.seq (.region false [
    ⟨some 21, none, .faddr 2 (.t 1)⟩,
    ⟨some 22, none, .load1 (.t 21)⟩,
    ⟨some 23, none, .call 89 [(.t 22)]⟩,
    ⟨some 2, none, .mov (.t 23)⟩])
  (.ret)))
theorem ok_one : FnOk Try.prog 90 Try.f90 ac_one [.t 2] 1 drawD := ⟨Try.func90, by decide +kernel, by kernel_rfl, by kernel_rfl, by decide +kernel⟩
theorem vc_one (P : Prim) (hP : P = std) (T T1 : CallT) (tf : Bool) (w q : Int) (dr : List (List V)) (c r : Int) (hc1 : Ans T 89 [.sl tf 3 dr] (.int .i64 c)) (hr : (if w < 0 ∨ 7 < w ∨ q < 0 ∨ 2147483647 < q then 1 else c) = r)
    (R : S → Prop) (hR : ∀ s s' x, x = r → Ent s s' → Ret [.t 2] [.int .i64 x] s' → R s) : awp P T T1 ac_one (S0 [.agg [.int .i64 w, .int .i64 q, .sl tf 3 dr]] Hp.emp) R (fun _ _ => False) R := by
  cbv
  repeat' (first | (intro β; try cbv) | (refine And.intro (by assumption) ?_; try cbv) | (refine br_cases (fun h => ?_) (fun h => ?_) <;> try cbv) | (refine Exists.intro _ (And.intro (by assumption) ?_); try cbv) | (refine hc1 _ _ ?_; try cbv) | (refine hc2 _ _ ?_; try cbv) | (refine hc3 _ _ ?_; try cbv) | (refine hc4 _ _ ?_; try cbv) | (refine hc5 _ _ ?_; try cbv) | (refine hc6 _ _ ?_; try cbv) | (refine And.intro (by (clear hR; subst hP; simp [std, I64, nc] at * <;> first | omega | grind)) ?_; try cbv))
  all_goals
    refine hR _ _ _ ?_ (Ent.refl _) rfl
    clear hR hc1; subst hP; simp [std] at *; first | omega | grind
theorem sp_one (r : Rev) (hr : PartsOk r.delta) : Spec Try.prog 90 [.agg (encRev r)] Hp.emp (Is (.int .i64 (oneF r))) :=
  spec_pure dOk ok_one [.int .i64 (oneF r)] (.int _ _) fun R hR => vc_one std rfl _ _ false r.who r.seq (r.delta.map encPart) (checkF r.delta) (oneF r) (ansL (sp_check r.delta hr.1) rfl) rfl R fun s s' x h he hq => by subst h; exact hR s s' he hq
def encRevT (r : Rev) : List V := [.int .i64 r.who, .int .i64 r.seq, .sl true 3 (r.delta.map encPart)]
theorem sp_oneT (r : Rev) (hr : PartsOk r.delta) : Spec Try.prog 90 [.agg (encRevT r)] Hp.emp (Is (.int .i64 (oneF r))) :=
  spec_pure dOk ok_one [.int .i64 (oneF r)] (.int _ _) fun R hR => vc_one std rfl _ _ true r.who r.seq (r.delta.map encPart) (checkF r.delta) (oneF r) (ansW (sp_check r.delta hr.1) (fun _ => .cons (.same _) .nil) rfl) rfl R fun s s' x h he hq => by subst h; exact hR s s' he hq

structure YTx (base : List UInt8) (l : List Rev) where
  k : Int
  pre : List Rev
  rest : List Rev
  acc : List (List UInt8)
  cur : List UInt8
  n : Nat
  b : Option Nat
  rows : List (List V)
  hd : l = pre ++ rest
  hk : k = (pre.length : Int)
  hrows : rows = strRows (acc ++ [cur])
  hacc : acc.length = pre.length
  hn : n = pre.length + 1
  h1 : (acc ++ [cur]) ++ (goT cur rest).1 = base :: (goT base l).1
  h2 : (goT cur rest).2 = (goT base l).2
def revRows (eP : List Part → List (List V)) (l : List Rev) : List (List V) := l.map fun r => [.int .i64 r.who, .int .i64 r.seq, .sl false 3 (eP r.delta)]
def ac_texts : AC := .seq (.region false [
    ⟨some 4, none, .mov (.c (.slice none 0 0))⟩,
    ⟨some 5, none, .mov (.c (.int .i64 0))⟩])
  (.seq (.seq (.region false [
    ⟨some 12, none, .mov (.t 0)⟩,
    ⟨some 13, none, .len true (.t 12)⟩,
    ⟨some 14, none, .bin .gtr (.t 13) (.c (.int .i64 500))⟩,
    ⟨some 15, none, .mov (.t 14)⟩,
    ⟨some 16, some (15, false), .mov (.t 1)⟩,
    ⟨some 17, some (15, false), .len false (.t 16)⟩,
    ⟨some 18, some (15, false), .bin .gtr (.t 17) (.c (.int .i64 64))⟩,
    ⟨some 19, none, .pick (.t 15) (.c (.bool true)) (.t 18)⟩])
  (.cond (.t 19)
    (.seq (.region false [
      ⟨some 4, none, .mov (.c (.slice none 0 0))⟩,
      ⟨some 5, none, .mov (.c (.int .i64 2))⟩])
    (.ret))
    (.skip)))
  (.seq (.region false [
    ⟨some 20, none, .mov (.t 0)⟩,
    ⟨some 21, none, .bslice 9 1 [(.t 20)]⟩,
    ⟨some 6, none, .mov (.t 21)⟩])
  (.seq (.seq (.region false [
    ⟨some 22, none, .mov (.t 1)⟩,
    ⟨some 23, none, .len false (.t 22)⟩,
    ⟨some 24, none, .mov (.c (.int .i64 0))⟩])
  (.block 0 (.loop (.seq (.region false [
      ⟨some 25, none, .bin .lss (.t 24) (.t 23)⟩])
    (.seq (.cond (.t 25)
      (.skip)
      (.exit 0))
    (.seq (.block 1 (.seq (.region false [
      ⟨some 26, none, .iaddr 3 (.t 22) (.t 24)⟩,
      ⟨some 27, none, .loadn 3 (.t 26)⟩,
      ⟨some 8, none, .alloc 45 [(.int .i64 0), (.int .i64 0), (.slice none 0 0)]⟩,
      ⟨none, none, .store 3 (.t 8) (.t 27)⟩])
    (.seq (.seq (.region false [
      ⟨some 28, none, .loadn 3 (.t 8)⟩,
      ⟨some 29, none, .call 90 [(.t 28)]⟩,
      ⟨some 9, none, .mov (.t 29)⟩])
    (.seq (.region false [
      ⟨some 30, none, .mov (.t 9)⟩,
      ⟨some 31, none, .bin .neq (.t 30) (.c (.int .i64 0))⟩])
    (.cond (.t 31)
      (.seq (.region false [
        ⟨some 32, none, .mov (.t 9)⟩,
        ⟨some 4, none, .mov (.c (.slice none 0 0))⟩,
        ⟨some 5, none, .mov (.t 32)⟩])
      (.ret))
      (.skip))))
    (.seq (.region true [
      ⟨some 34, none, .faddr 2 (.t 8)⟩,
      ⟨some 35, none, .load1 (.t 34)⟩,
      ⟨some 36, none, .mov (.t 6)⟩,
      ⟨some 37, none, .mov (.t 6)⟩,
      ⟨some 38, none, .len false (.t 37)⟩,
      ⟨some 39, none, .bin .sub (.t 38) (.c (.int .i64 1))⟩,
      ⟨some 40, none, .iaddr 1 (.t 36) (.t 39)⟩,
      ⟨some 41, none, .load1 (.t 40)⟩,
      ⟨some 42, none, .call 16 [(.t 35), (.t 41)]⟩,
      ⟨some 33, none, .mov (.t 42)⟩,
      ⟨some 43, none, .ext 0 (.t 33)⟩,
      ⟨some 44, none, .ext 1 (.t 33)⟩,
      ⟨some 10, none, .mov (.t 43)⟩,
      ⟨some 11, none, .mov (.t 44)⟩])
    (.seq (.seq (.region false [
      ⟨some 45, none, .mov (.t 11)⟩,
      ⟨some 46, none, .bin .neq (.t 45) (.c (.int .i64 0))⟩])
    (.cond (.t 46)
      (.seq (.region false [
        ⟨some 47, none, .mov (.t 11)⟩,
        ⟨some 4, none, .mov (.c (.slice none 0 0))⟩,
        ⟨some 5, none, .mov (.t 47)⟩])
      (.ret))
      (.skip)))
    (.region false [
      ⟨some 48, none, .mov (.t 6)⟩,
      ⟨some 49, none, .mov (.t 10)⟩,
      ⟨some 50, none, .bslice 9 1 [(.t 49)]⟩,
      ⟨some 51, none, .append 9 1 16 (.t 48) (.t 50)⟩,
      ⟨some 6, none, .mov (.t 51)⟩]))))))
    (.region false [
      ⟨some 52, none, .bin .add (.t 24) (.c (.int .i64 1))⟩,
      ⟨some 24, none, .mov (.t 52)⟩])))))))
  (.seq (.region false [
    ⟨some 53, none, .mov (.t 6)⟩,
    ⟨some 4, none, .mov (.t 53)⟩,
    ⟨some 5, none, .mov (.c (.int .i64 0))⟩])
  (.ret)))))
theorem ok_texts : FnOk Try.prog 52 Try.f52 ac_texts [.t 4, .t 5] 2 drawD := ⟨Try.func52, by decide +kernel, by kernel_rfl, by kernel_rfl, by decide +kernel⟩
theorem vc_texts (P : Prim) (hP : P = std) (T T1 : CallT) (base : List UInt8) (l : List Rev) (eP : List Part → List (List V)) (rows : List (List V)) (hrows : rows = revRows eP l)
    (oF : Int → Int → List Part → Int) (hoF : ∀ w q d, oF w q d = oneF ⟨w, q, d⟩) (dS : List Part → List UInt8 → List UInt8) (dE : List Part → List UInt8 → Int) (hdS : ∀ d s, dS d s = (doF d s).1) (hdE : ∀ d s, dE d s = (doF d s).2)
    (hone : ∀ w q d, ⟨w, q, d⟩ ∈ l → Ans T 90 [.agg [.int .i64 w, .int .i64 q, .sl false 3 (eP d)]] (.int .i64 (oF w q d)))
    (hdo : ∀ w q d s, ⟨w, q, d⟩ ∈ l → Ans T1 16 [.sl false 3 (eP d), .str s] (.tup [.str (dS d s), .int .i64 (dE d s)]))
    (t : List (List UInt8)) (e : Int) (ht : textsF base l = (t, e))
    (R : S → Prop) (hR : ∀ x, x = e → RetSl [.t 4, .t 5] 1 (strRows t) [.int .i64 x] R) : awp P T T1 ac_texts (S0 [.str base, .sl true 3 rows] Hp.emp) R (fun _ _ => False) R := by
  have hl1 : P.rlen rows = (l.length : Int) := by rw [rlen_eq hP, hrows]; simp [revRows]
  have hb1 : P.slen base = (base.length : Int) := slen_eq hP base
  have hlong : 500 < base.length ∨ 64 < l.length → t = [] ∧ e = 2 := by
    intro h; unfold textsF at ht; rw [if_pos h] at ht; simp only [Prod.mk.injEq] at ht; exact ⟨ht.1.symm, ht.2.symm⟩
  cbv
  refine br_cases (fun h => ?_) (fun h => ?_)
  · have h3 : 500 < P.slen base := lt_t hP h
    rw [hb1] at h3
    obtain ⟨g1, g2⟩ := hlong (.inl (by ((try simp only [nc] at *); omega)))
    cbv
    exact (hR _ g2.symm).1 _ _ (Ent.refl _) rfl (by rw [g1]; rfl)
  have h3 : ¬ 500 < P.slen base := lt_f hP h
  rw [hb1] at h3
  cbv
  refine br_cases (fun h => ?_) (fun h => ?_)
  · have h4 : 64 < P.rlen rows := lt_t hP h
    rw [hl1] at h4
    obtain ⟨g1, g2⟩ := hlong (.inr (by ((try simp only [nc] at *); omega)))
    cbv
    exact (hR _ g2.symm).1 _ _ (Ent.refl _) rfl (by rw [g1]; rfl)
  have h4 : ¬ 64 < P.rlen rows := lt_f hP h
  rw [hl1] at h4
  have hl64 : l.length ≤ 64 := by ((try simp only [nc] at *); omega)
  have ht2 : t = (if (goT base l).2 ≠ 0 then [] else base :: (goT base l).1) ∧ e = (goT base l).2 := by
    unfold textsF at ht
    rw [if_neg (by ((try simp only [nc] at *); omega))] at ht
    split at ht
    · rename_i h; simp only [Prod.mk.injEq] at ht; rw [if_pos h]; exact ⟨ht.1.symm, ht.2.symm⟩
    · rename_i h; simp only [Prod.mk.injEq] at ht; rw [if_neg h]; exact ⟨ht.1.symm, by omega⟩
  obtain ⟨ht3, ht4⟩ := ht2
  clear hlong ht h
  cbv
  intro β21
  cbv
  refine ⟨YTx base l, fun y => [(6, .own 1000021 y.b 1 y.n), (22, .sl true 3 rows), (23, .int .i64 (P.rlen rows)), (24, .int .i64 y.k)],
    fun y => [(1000021, ⟨y.b, 9, 1, y.rows⟩)], fun y => y.rest.length,
    ⟨_, Ent.refl _, ⟨0, [], l, [], base, _, _, _, rfl, rfl, rfl, rfl, rfl, rfl, rfl⟩, ⟨rfl, rfl, rfl, rfl, trivial⟩, ⟨rfl, trivial⟩⟩, ?_⟩
  rintro ⟨k, pre, rest, acc, cur, n, b, rows2, hd, hk, hrows2, hacc, hn, h1, h2⟩
  have hlp : pre.length + rest.length = l.length := by rw [hd]; simp
  cbv
  refine br_cases (fun h => ?_) (fun h => ?_)
  · have h5 : k < P.rlen rows := lt_t hP h
    rw [hl1] at h5
    rcases rest with _ | ⟨⟨w, q, d⟩, rest⟩
    · exfalso; simp at hlp; ((try simp only [nc] at *); omega)
    have hmem : (⟨w, q, d⟩ : Rev) ∈ l := by rw [hd]; simp
    have c1 := hone w q d hmem
    have c2 := hdo w q d cur hmem
    have hrow : P.row rows (P.nat k) [.int .i64 w, .int .i64 q, .sl false 3 (eP d)] := row_of hP hk (by rw [hrows, revRows, List.getElem?_map, hd]; simp)
    have ho1 : P.leP 0 k := le0 hP (by ((try simp only [nc] at *); omega))
    have ho2 : P.i64 (P.add k 1) := by rw [add_eq hP]; exact i64I hP (by ((try simp only [nc] at *); omega))
    have hin : P.sub (P.int n) 1 = ((pre.length : Nat) : Int) := by rw [sub_eq hP, int_eq hP, hn]; ((try simp only [nc] at *); omega)
    have ho3 : P.i64 (P.sub (P.int n) 1) := by rw [hin]; exact i64I hP (by ((try simp only [nc] at *); omega))
    have ho4 : P.leP 0 (P.sub (P.int n) 1) := le0 hP (by rw [hin]; ((try simp only [nc] at *); omega))
    have ho5 : P.ltP (P.sub (P.int n) 1) (P.int n) := ltI hP (by rw [hin, int_eq hP, hn]; ((try simp only [nc] at *); omega))
    have hrow2 : P.row rows2 (P.nat (P.sub (P.int n) 1)) [.str cur] := row_of hP hin (by rw [hrows2, strRows, List.getElem?_map, ← hacc]; simp)
    have ho6 : P.neP rows2 n := by subst hP; show rows2.length = n; rw [hrows2, hn]; simp [strRows, hacc]
    have ho7 : ∀ r, P.bytes (P.add (P.int n) (P.rlen [r])) 16 := by intro r; subst hP; show ((n : Int) + 1) * 16 ≤ _; ((try simp only [nc] at *); omega)
    have ho8 : ∀ r, P.neP [r] 1 := by intro r; subst hP; rfl
    have hstep : goT cur (⟨w, q, d⟩ :: rest) = if oF w q d ≠ 0 then ([], oF w q d) else if dE d cur ≠ 0 then ([], dE d cur) else (dS d cur :: (goT (dS d cur) rest).1, (goT (dS d cur) rest).2) := by rw [hoF, hdE, hdS]; rfl
    rw [hstep] at h1 h2
    clear hone hdo hstep
    cbv
    refine ⟨ho1, _, hrow, ?_⟩
    cbv
    intro β8
    cbv
    refine c1 _ _ ?_
    cbv
    refine br_cases (fun h => ?_) (fun h => ?_)
    · have hz : oF w q d ≠ 0 := ne_t hP h
      rw [if_pos hz] at h2
      simp only [] at h2
      rw [← h2] at ht3 ht4
      rw [if_pos hz] at ht3
      cbv
      exact (hR _ ht4.symm).1 _ _ (Ent.refl _) rfl (by rw [ht3]; rfl)
    have hz : oF w q d = 0 := ne_f hP h
    rw [if_neg (fun h => h hz)] at h1 h2
    cbv
    refine ⟨ho3, ho4, ho5, _, hrow2, ?_⟩
    cbv
    refine c2 _ _ ?_
    cbv
    refine br_cases (fun h => ?_) (fun h => ?_)
    · have hy : dE d cur ≠ 0 := ne_t hP h
      rw [if_pos hy] at h2
      simp only [] at h2
      rw [← h2] at ht3 ht4
      rw [if_pos hy] at ht3
      cbv
      exact (hR _ ht4.symm).1 _ _ (Ent.refl _) rfl (by rw [ht3]; rfl)
    have hy : dE d cur = 0 := ne_f hP h
    rw [if_neg (fun h => h hy)] at h1 h2
    cbv
    repeat' (first
      | (refine And.intro (by assumption) ?_; try cbv)
      | (refine And.intro (ho8 _) ?_; try cbv)
      | (refine And.intro (ho7 _) ?_; try cbv)
      | (intro β; try cbv))
    refine ⟨_, Ent.refl _, ⟨_, pre ++ [⟨w, q, d⟩], rest, acc ++ [cur], dS d cur, _, _, _, by simp [hd], ?_, ?_, by simp [hacc], ?_, by rw [← h1]; simp, h2⟩, ⟨rfl, rfl, rfl, rfl, trivial⟩, ⟨rfl, trivial⟩, by simp⟩
    · show P.add k 1 = _; rw [add_eq hP, hk]; simp
    · show P.rapp rows2 [[.str (dS d cur)]] = _
      rw [hrows2]; subst hP; simp [std, strRows]
    · show P.nadd n (P.rlenN [_]) = _
      subst hP; simp [std, hn]
  · have h5 : ¬ k < P.rlen rows := lt_f hP h
    rw [hl1] at h5
    rcases rest with _ | ⟨r, rest⟩
    rotate_left
    · exfalso; simp at hlp; ((try simp only [nc] at *); omega)
    have h2' : (goT base l).2 = 0 := by rw [← h2]; rfl
    rw [h2', if_neg (by decide)] at ht3
    rw [h2'] at ht4
    have h1' : acc ++ [cur] = t := by rw [ht3, ← h1]; simp [goT]
    cbv
    exact (hR _ ht4.symm).2.1 _ _ _ _ _ _ _ (Ent.refl _) rfl rfl ⟨by rw [← h1', hn]; simp [strRows, hacc], by rw [← h1', hrows2]⟩
theorem rtx_of {rv : List RV} {t : List (List UInt8)} {e : Int} {R : S → Prop} (hR : ∀ s s', Ent s s' → RetF rv (.tup [.sl false 1 (strRows t), .int .i64 e]) s' → R s) : ∀ x, x = e → RetSl rv 1 (strRows t) [.int .i64 x] R := fun x hx => by
  subst hx
  exact retSl_of (strRows_sz _) (strRows_fz _) (int_fz _) fun s s' he hr => hR s s' he hr
theorem ansPs {f : Nat} {d : List Part} {vs : List V} {v : V} (h : Spec Try.prog f (.sl true 3 (d.map encPart) :: vs) Hp.emp (Is v)) (hv : v.ren (lab []) = v) (hvs : vs.all V.pl = true) : Ans (CallP Try.prog) f (encParts d :: vs) v := ansP h (fun _ => .cons (.weak _ _) (args_plain hvs)) hv
theorem sp_texts (base : List UInt8) (l : List Rev) (hl : RevsOk l) : Spec Try.prog 52 [.str base, .sl true 3 (l.map encRev)] Hp.emp (Is (.tup [.sl false 1 (strRows (textsF base l).1), .int .i64 (textsF base l).2])) :=
  spec_frz dOk ok_texts fun R hR => vc_texts std rfl _ _ base l (fun d => d.map encPart) _ rfl (fun w q d => oneF ⟨w, q, d⟩) (fun _ _ _ => rfl) (fun d s => (doF d s).1) (fun d s => (doF d s).2) (fun _ _ => rfl) (fun _ _ => rfl)
    (fun w q d hm => ansW (sp_one ⟨w, q, d⟩ (hl.2 _ hm).2.2) (fun h => .cons (.same _) .nil) rfl)
    (fun w q d s hm => ansPs (sp_do d (hl.2 _ hm).2.2.1 s) rfl rfl) _ _ rfl R (rtx_of hR)


def textF (base : List UInt8) (l : List Rev) (k : Int) : List UInt8 × Int := if (textsF base l).2 ≠ 0 then ([], (textsF base l).2) else if k < 0 ∨ (l.length : Int) < k then ([], 1) else ((textsF base l).1.getD k.toNat [], 0)
def ac_text : AC := .seq (.region false [
    ⟨some 6, none, .mov (.c (.string ⟨#[]⟩))⟩,
    ⟨some 7, none, .mov (.c (.int .i64 0))⟩])
  (.seq (.region false [
    ⟨some 11, none, .mov (.t 0)⟩,
    ⟨some 12, none, .mov (.t 1)⟩,
    ⟨some 13, none, .call 52 [(.t 11), (.t 12)]⟩,
    ⟨some 10, none, .mov (.t 13)⟩,
    ⟨some 14, none, .ext 0 (.t 10)⟩,
    ⟨some 15, none, .ext 1 (.t 10)⟩,
    ⟨some 8, none, .mov (.t 14)⟩,
    ⟨some 9, none, .mov (.t 15)⟩])
  (.seq (.seq (.region false [
    ⟨some 16, none, .mov (.t 9)⟩,
    ⟨some 17, none, .bin .neq (.t 16) (.c (.int .i64 0))⟩])
  (.cond (.t 17)
    (.seq (.region false [
      ⟨some 18, none, .mov (.t 9)⟩,
      ⟨some 6, none, .mov (.c (.string ⟨#[]⟩))⟩,
      ⟨some 7, none, .mov (.t 18)⟩])
    (.ret))
    (.skip)))
  (.seq (.seq (.region false [
    ⟨some 19, none, .mov (.t 2)⟩,
    ⟨some 20, none, .bin .lss (.t 19) (.c (.int .i64 0))⟩,
    ⟨some 21, none, .mov (.t 20)⟩,
    ⟨some 22, some (21, false), .mov (.t 2)⟩,
    ⟨some 23, some (21, false), .mov (.t 1)⟩,
    ⟨some 24, some (21, false), .len false (.t 23)⟩,
    ⟨some 25, some (21, false), .bin .gtr (.t 22) (.t 24)⟩,
    ⟨some 26, none, .pick (.t 21) (.c (.bool true)) (.t 25)⟩])
  (.cond (.t 26)
    (.seq (.region false [
      ⟨some 6, none, .mov (.c (.string ⟨#[]⟩))⟩,
      ⟨some 7, none, .mov (.c (.int .i64 1))⟩])
    (.ret))
    (.skip)))
  (.seq (.region false [
    ⟨some 27, none, .mov (.t 8)⟩,
    ⟨some 28, none, .mov (.t 2)⟩,
    ⟨some 29, none, .iaddr 1 (.t 27) (.t 28)⟩,
    ⟨some 30, none, .load1 (.t 29)⟩,
    ⟨some 6, none, .mov (.t 30)⟩,
    ⟨some 7, none, .mov (.c (.int .i64 0))⟩])
  (.ret)))))
theorem ok_text : FnOk Try.prog 12 Try.f12 ac_text [.t 6, .t 7] 3 drawD := ⟨Try.func12, by decide +kernel, by kernel_rfl, by kernel_rfl, by decide +kernel⟩
theorem vc_text (P : Prim) (hP : P = std) (T T1 : CallT) (base : List UInt8) (rows tr : List (List V)) (e k n : Int) (s : List UInt8) (hn : P.rlen rows = n) (hc1 : Ans T 52 [.str base, .sl true 3 rows] (.tup [.sl false 1 tr, .int .i64 e]))
    (r : List UInt8) (f : Int) (h1 : e ≠ 0 → r = [] ∧ e = f) (h2 : e = 0 → k < 0 ∨ n < k → r = [] ∧ 1 = f) (h3 : e = 0 → 0 ≤ k → k ≤ n → P.row tr (P.nat k) [.str s] ∧ s = r ∧ 0 = f)
    (R : S → Prop) (hR : ∀ s s' x y, x = r ∧ y = f → Ent s s' → Ret [.t 6, .t 7] [.str x, .int .i64 y] s' → R s) : awp P T T1 ac_text (S0 [.str base, .sl true 3 rows, .int .i64 k] Hp.emp) R (fun _ _ => False) R := by
  cbv
  refine hc1 _ _ ?_
  cbv
  refine br_cases (fun h => ?_) (fun h => ?_)
  · have hz := ne_t hP h
    cbv
    exact hR _ _ _ _ ⟨(h1 hz).1.symm, (h1 hz).2⟩ (Ent.refl _) rfl
  have hz := ne_f hP h
  cbv
  refine br_cases (fun h => ?_) (fun h => ?_)
  · have hk := lt_t hP h
    cbv
    exact hR _ _ _ _ ⟨(h2 hz (.inl hk)).1.symm, (h2 hz (.inl hk)).2⟩ (Ent.refl _) rfl
  have hk := lt_f hP h
  cbv
  refine br_cases (fun h => ?_) (fun h => ?_)
  · have hk2 : P.rlen rows < k := lt_t hP h
    rw [hn] at hk2
    cbv
    exact hR _ _ _ _ ⟨(h2 hz (.inr hk2)).1.symm, (h2 hz (.inr hk2)).2⟩ (Ent.refl _) rfl
  have hk2 : ¬ P.rlen rows < k := lt_f hP h
  rw [hn] at hk2
  obtain ⟨g1, g2, g3⟩ := h3 hz (by omega) (by omega)
  have ho1 : P.leP 0 k := le0 hP (by omega)
  cbv
  refine ⟨ho1, _, g1, ?_⟩
  cbv
  exact hR _ _ _ _ ⟨g2, g3⟩ (Ent.refl _) rfl
theorem textsF_row {base : List UInt8} {l : List Rev} {k : Int} (he : (textsF base l).2 = 0) (h0 : 0 ≤ k) (h1 : k ≤ l.length) : (textsF base l).1[k.toNat]? = some ((textsF base l).1.getD k.toNat []) := by
  obtain ⟨_, _, _, _, h⟩ := textsF_ok he
  rw [List.getD_eq_getElem?_getD, List.getElem?_eq_getElem (by omega)]; rfl
theorem sp_text (base : List UInt8) (l : List Rev) (k : Int) (hl : RevsOk l) : Spec Try.prog 12 [.str base, .sl true 3 (l.map encRev), .int .i64 k] Hp.emp (Is (.tup [.str (textF base l k).1, .int .i64 (textF base l k).2])) :=
  spec_pure dOk ok_text [.str (textF base l k).1, .int .i64 (textF base l k).2] (.tup _ (by simp; exact ⟨.str _, .int _ _⟩)) fun R hR => vc_text std rfl _ _ base _ (strRows (textsF base l).1) (textsF base l).2 k l.length ((textsF base l).1.getD k.toNat []) (by show ((l.map encRev).length : Int) = _; simp)
    (ansW (sp_texts base l hl) (fun h => .cons (.same _) (.cons (.same _) .nil)) rfl) (textF base l k).1 (textF base l k).2 (fun h => by unfold textF; rw [if_pos h]; exact ⟨rfl, rfl⟩) (fun h h' => by unfold textF; rw [if_neg (fun g => g h), if_pos h']; exact ⟨rfl, rfl⟩)
    (fun h h0 h1 => by
      refine ⟨row_of rfl (i := k.toNat) (by omega) (by rw [strRows, List.getElem?_map, textsF_row h h0 h1]; rfl), ?_⟩
      unfold textF; rw [if_neg (fun g => g h), if_neg (by omega)]; exact ⟨rfl, rfl⟩)
    R fun s s' x y h he hr => by obtain ⟨rfl, rfl⟩ := h; exact hR s s' he hr

end Go.Proofs.Ytobngncjflogcaa.AM

set_option linter.unusedVariables false
set_option linter.unusedSimpArgs false
namespace Go.Proofs.Ytobngncjflogcaa.AM
open Go
set_option maxRecDepth 100000
set_option maxHeartbeats 2000000
def iRows (l : List Int) : List (List V) := l.map fun n => [.int .i64 n]
theorem iRows_sz (l : List Int) : ∀ r ∈ iRows l, r.length = 1 := by
  intro r hr; simp only [iRows, List.mem_map] at hr; obtain ⟨a, _, rfl⟩ := hr; rfl
theorem iRows_fz (l : List Int) : ∀ r ∈ iRows l, ∀ v ∈ r, Fz v := by
  intro r hr; simp only [iRows, List.mem_map] at hr; obtain ⟨a, _, rfl⟩ := hr
  intro v hv; simp only [List.mem_singleton] at hv; subst hv; exact .int _ _
theorem ansIn {f : Nat} {l : List Int} {vs : List V} {v : V} (h : Spec Try.prog f (.sl true 1 (iRows l) :: vs) Hp.emp (Is v)) (hv : v.ren (lab []) = v) (hvs : vs.all V.pl = true) : Ans (CallE Try.prog) f (.sl false 1 (iRows l) :: vs) v := ansW h (fun _ => .cons (.weak _ _) (args_plain hvs)) hv
end Go.Proofs.Ytobngncjflogcaa.AM

set_option linter.unusedVariables false
set_option linter.unusedSimpArgs false
namespace Go.Proofs.Ytobngncjflogcaa.AM
open Go
set_option maxRecDepth 100000
set_option maxHeartbeats 2000000
def ac_hnext : AC := .seq (.region false [
    ⟨some 3, none, .box 81 38 (.t 0)⟩,
    ⟨some 5, none, .box 45 3 (.t 2)⟩,
    ⟨some 6, none, .mov (.c (.int .i64 0))⟩])
  (.seq (.seq (.region false [
    ⟨some 8, none, .loadn 3 (.t 5)⟩,
    ⟨some 9, none, .call 90 [(.t 8)]⟩,
    ⟨some 7, none, .mov (.t 9)⟩])
  (.seq (.region false [
    ⟨some 10, none, .mov (.t 7)⟩,
    ⟨some 11, none, .bin .neq (.t 10) (.c (.int .i64 0))⟩])
  (.cond (.t 11)
    (.seq (.region false [
      ⟨some 12, none, .mov (.t 7)⟩,
      ⟨some 6, none, .mov (.t 12)⟩])
    (.ret))
    (.skip))))
  (.seq (.seq (.region true [
    ⟨some 13, none, .faddr 1 (.t 5)⟩,
    ⟨some 14, none, .load1 (.t 13)⟩,
    ⟨some 15, none, .faddr 0 (.t 5)⟩,
    ⟨some 16, none, .load1 (.t 15)⟩,
    ⟨some 17, none, .faddr 19 (.t 3)⟩,
    ⟨some 18, none, .iarr 8 2 (.t 17) (.t 16)⟩,
    ⟨some 19, none, .faddr 0 (.t 18)⟩,
    ⟨some 20, none, .load1 (.t 19)⟩,
    ⟨some 21, none, .bin .leq (.t 14) (.t 20)⟩])
  (.cond (.t 21)
    (.seq (.region false [
      ⟨some 6, none, .mov (.c (.int .i64 10))⟩])
    (.ret))
    (.skip)))
  (.seq (.seq (.region false [
    ⟨some 22, none, .faddr 35 (.t 3)⟩,
    ⟨some 23, none, .load1 (.t 22)⟩,
    ⟨some 24, none, .len false (.t 23)⟩,
    ⟨some 25, none, .bin .geq (.t 24) (.c (.int .i64 64))⟩,
    ⟨some 26, none, .mov (.t 25)⟩,
    ⟨some 27, some (26, false), .faddr 1 (.t 3)⟩,
    ⟨some 28, some (26, false), .load1 (.t 27)⟩,
    ⟨some 29, some (26, false), .faddr 35 (.t 3)⟩,
    ⟨some 30, some (26, false), .load1 (.t 29)⟩,
    ⟨some 31, some (26, false), .len false (.t 30)⟩,
    ⟨some 32, some (26, false), .bin .add (.t 28) (.t 31)⟩,
    ⟨some 33, some (26, false), .bin .geq (.t 32) (.c (.int .i64 2147483647))⟩,
    ⟨some 34, none, .pick (.t 26) (.c (.bool true)) (.t 33)⟩])
  (.cond (.t 34)
    (.seq (.region false [
      ⟨some 6, none, .mov (.c (.int .i64 11))⟩])
    (.ret))
    (.skip)))
  (.seq (.region false [
    ⟨some 35, none, .faddr 2 (.t 5)⟩,
    ⟨some 36, none, .load1 (.t 35)⟩,
    ⟨some 37, none, .mov (.t 1)⟩,
    ⟨some 38, none, .call 54 [(.t 36), (.t 37)]⟩,
    ⟨some 6, none, .mov (.t 38)⟩])
  (.ret)))))
theorem ok_hnext : FnOk Try.prog 60 Try.f60 ac_hnext [.t 6] 3 drawD := ⟨Try.func60, by decide +kernel, by kernel_rfl, by kernel_rfl, by decide +kernel⟩
theorem vc_hnext (P : Prim) (hP : P = std) (T T1 : CallT) (gn b gd w q sz o f n : Int) (tx : List UInt8) (fs tb : Nat → Int) (rv dr : List (List V)) (wh tt : Bool) (hn : P.rlen rv = n) (hb : 0 ≤ b ∧ b ≤ 2147483647)
    (hc1 : Ans T 90 [.agg [.int .i64 w, .int .i64 q, .sl false 3 dr]] (.int .i64 o)) (hw : o = 0 → w = 0 ∨ w = 1 ∨ w = 2 ∨ w = 3 ∨ w = 4 ∨ w = 5 ∨ w = 6 ∨ w = 7) (hc2 : o = 0 → Ans T 54 [.sl false 3 dr, .int .i64 sz] (.int .i64 f))
    (res : Int) (g1 : o ≠ 0 → o = res) (g2 : o = 0 → q ≤ tb (2 * w.toNat) → 10 = res) (g3 : o = 0 → ¬ q ≤ tb (2 * w.toNat) → 64 ≤ n ∨ 2147483647 ≤ b + n → 11 = res) (g4 : o = 0 → ¬ q ≤ tb (2 * w.toNat) → ¬ (64 ≤ n ∨ 2147483647 ≤ b + n) → f = res) (hn0 : 0 ≤ n)
    (R : S → Prop) (hR : ∀ s s' x, x = res → Ent s s' → Ret [.t 6] [.int .i64 x] s' → R s) : awp P T T1 ac_hnext (S0 [.agg [.int .i64 gn, .int .i64 b, .str tx, .int .i64 (fs 0), .int .i64 (fs 1), .int .i64 (fs 2), .int .i64 (fs 3), .int .i64 (fs 4), .int .i64 (fs 5), .int .i64 (fs 6), .int .i64 (fs 7), .int .i64 (fs 8), .int .i64 (fs 9), .int .i64 (fs 10), .int .i64 (fs 11), .int .i64 (fs 12), .int .i64 (fs 13), .int .i64 (fs 14), .int .i64 (fs 15), .int .i64 (tb 0), .int .i64 (tb 1), .int .i64 (tb 2), .int .i64 (tb 3), .int .i64 (tb 4), .int .i64 (tb 5), .int .i64 (tb 6), .int .i64 (tb 7), .int .i64 (tb 8), .int .i64 (tb 9), .int .i64 (tb 10), .int .i64 (tb 11), .int .i64 (tb 12), .int .i64 (tb 13), .int .i64 (tb 14), .int .i64 (tb 15), .sl tt 3 rv, .bool wh, .int .i64 gd], .int .i64 sz, .agg [.int .i64 w, .int .i64 q, .sl false 3 dr]] Hp.emp) R (fun _ _ => False) R := by
  have hN0 : P.nat 0 = 0 := by subst hP; rfl
  have hN1 : P.nat 1 = 1 := by subst hP; rfl
  have hN2 : P.nat 2 = 2 := by subst hP; rfl
  have hN3 : P.nat 3 = 3 := by subst hP; rfl
  have hN4 : P.nat 4 = 4 := by subst hP; rfl
  have hN5 : P.nat 5 = 5 := by subst hP; rfl
  have hN6 : P.nat 6 = 6 := by subst hP; rfl
  have hN7 : P.nat 7 = 7 := by subst hP; rfl
  have hnl : ∀ i : Nat, i < 8 → P.leP 0 (i : Int) ∧ P.ltP (i : Int) 8 := fun i hi => ⟨le0 hP (by omega), ltI hP (by omega)⟩
  cbv
  intro β3
  cbv
  intro β5
  cbv
  refine hc1 _ _ ?_
  clear hc1
  cbv
  refine br_cases (fun h => ?_) (fun h => ?_)
  · have hz := ne_t hP h
    cbv
    exact hR _ _ _ (g1 hz) (Ent.refl _) rfl
  have hz := ne_f hP h
  have hw := hw hz
  have c2 := hc2 hz
  replace g2 := g2 hz
  replace g3 := g3 hz
  replace g4 := g4 hz
  clear g1 hc2 h
  cbv
  rcases hw with rfl | rfl | rfl | rfl | rfl | rfl | rfl | rfl
  · have q1 : P.leP 0 0 := (hnl 0 (by decide)).1
    have q2 : P.ltP 0 8 := (hnl 0 (by decide)).2
    refine ⟨q1, q2, 0, hN0, ?_⟩
    cbv
    refine br_cases (fun h => ?_) (fun h => ?_)
    · have hq := le_t hP h
      cbv
      exact hR _ _ _ (g2 hq) (Ent.refl _) rfl
    have hq := le_f hP h
    replace g3 := g3 hq
    replace g4 := g4 hq
    cbv
    refine br_cases (fun h => ?_) (fun h => ?_)
    · have h64 : 64 ≤ P.rlen rv := le_t hP h
      rw [hn] at h64
      cbv
      exact hR _ _ _ (g3 (.inl (by omega))) (Ent.refl _) rfl
    have h64 : ¬ 64 ≤ P.rlen rv := le_f hP h
    rw [hn] at h64
    have o1 : P.i64 (P.add b (P.rlen rv)) := by rw [add_eq hP, hn]; exact i64I hP (by omega)
    cbv
    refine ⟨o1, ?_⟩
    refine br_cases (fun h => ?_) (fun h => ?_)
    · have h31 : 2147483647 ≤ P.add b (P.rlen rv) := le_t hP h
      rw [add_eq hP, hn] at h31
      cbv
      exact hR _ _ _ (g3 (.inr (by omega))) (Ent.refl _) rfl
    have h31 : ¬ 2147483647 ≤ P.add b (P.rlen rv) := le_f hP h
    rw [add_eq hP, hn] at h31
    cbv
    refine c2 _ _ ?_
    cbv
    exact hR _ _ _ (g4 (by omega)) (Ent.refl _) rfl
  · have q1 : P.leP 0 1 := (hnl 1 (by decide)).1
    have q2 : P.ltP 1 8 := (hnl 1 (by decide)).2
    refine ⟨q1, q2, 1, hN1, ?_⟩
    cbv
    refine br_cases (fun h => ?_) (fun h => ?_)
    · have hq := le_t hP h
      cbv
      exact hR _ _ _ (g2 hq) (Ent.refl _) rfl
    have hq := le_f hP h
    replace g3 := g3 hq
    replace g4 := g4 hq
    cbv
    refine br_cases (fun h => ?_) (fun h => ?_)
    · have h64 : 64 ≤ P.rlen rv := le_t hP h
      rw [hn] at h64
      cbv
      exact hR _ _ _ (g3 (.inl (by omega))) (Ent.refl _) rfl
    have h64 : ¬ 64 ≤ P.rlen rv := le_f hP h
    rw [hn] at h64
    have o1 : P.i64 (P.add b (P.rlen rv)) := by rw [add_eq hP, hn]; exact i64I hP (by omega)
    cbv
    refine ⟨o1, ?_⟩
    refine br_cases (fun h => ?_) (fun h => ?_)
    · have h31 : 2147483647 ≤ P.add b (P.rlen rv) := le_t hP h
      rw [add_eq hP, hn] at h31
      cbv
      exact hR _ _ _ (g3 (.inr (by omega))) (Ent.refl _) rfl
    have h31 : ¬ 2147483647 ≤ P.add b (P.rlen rv) := le_f hP h
    rw [add_eq hP, hn] at h31
    cbv
    refine c2 _ _ ?_
    cbv
    exact hR _ _ _ (g4 (by omega)) (Ent.refl _) rfl
  · have q1 : P.leP 0 2 := (hnl 2 (by decide)).1
    have q2 : P.ltP 2 8 := (hnl 2 (by decide)).2
    refine ⟨q1, q2, 2, hN2, ?_⟩
    cbv
    refine br_cases (fun h => ?_) (fun h => ?_)
    · have hq := le_t hP h
      cbv
      exact hR _ _ _ (g2 hq) (Ent.refl _) rfl
    have hq := le_f hP h
    replace g3 := g3 hq
    replace g4 := g4 hq
    cbv
    refine br_cases (fun h => ?_) (fun h => ?_)
    · have h64 : 64 ≤ P.rlen rv := le_t hP h
      rw [hn] at h64
      cbv
      exact hR _ _ _ (g3 (.inl (by omega))) (Ent.refl _) rfl
    have h64 : ¬ 64 ≤ P.rlen rv := le_f hP h
    rw [hn] at h64
    have o1 : P.i64 (P.add b (P.rlen rv)) := by rw [add_eq hP, hn]; exact i64I hP (by omega)
    cbv
    refine ⟨o1, ?_⟩
    refine br_cases (fun h => ?_) (fun h => ?_)
    · have h31 : 2147483647 ≤ P.add b (P.rlen rv) := le_t hP h
      rw [add_eq hP, hn] at h31
      cbv
      exact hR _ _ _ (g3 (.inr (by omega))) (Ent.refl _) rfl
    have h31 : ¬ 2147483647 ≤ P.add b (P.rlen rv) := le_f hP h
    rw [add_eq hP, hn] at h31
    cbv
    refine c2 _ _ ?_
    cbv
    exact hR _ _ _ (g4 (by omega)) (Ent.refl _) rfl
  · have q1 : P.leP 0 3 := (hnl 3 (by decide)).1
    have q2 : P.ltP 3 8 := (hnl 3 (by decide)).2
    refine ⟨q1, q2, 3, hN3, ?_⟩
    cbv
    refine br_cases (fun h => ?_) (fun h => ?_)
    · have hq := le_t hP h
      cbv
      exact hR _ _ _ (g2 hq) (Ent.refl _) rfl
    have hq := le_f hP h
    replace g3 := g3 hq
    replace g4 := g4 hq
    cbv
    refine br_cases (fun h => ?_) (fun h => ?_)
    · have h64 : 64 ≤ P.rlen rv := le_t hP h
      rw [hn] at h64
      cbv
      exact hR _ _ _ (g3 (.inl (by omega))) (Ent.refl _) rfl
    have h64 : ¬ 64 ≤ P.rlen rv := le_f hP h
    rw [hn] at h64
    have o1 : P.i64 (P.add b (P.rlen rv)) := by rw [add_eq hP, hn]; exact i64I hP (by omega)
    cbv
    refine ⟨o1, ?_⟩
    refine br_cases (fun h => ?_) (fun h => ?_)
    · have h31 : 2147483647 ≤ P.add b (P.rlen rv) := le_t hP h
      rw [add_eq hP, hn] at h31
      cbv
      exact hR _ _ _ (g3 (.inr (by omega))) (Ent.refl _) rfl
    have h31 : ¬ 2147483647 ≤ P.add b (P.rlen rv) := le_f hP h
    rw [add_eq hP, hn] at h31
    cbv
    refine c2 _ _ ?_
    cbv
    exact hR _ _ _ (g4 (by omega)) (Ent.refl _) rfl
  · have q1 : P.leP 0 4 := (hnl 4 (by decide)).1
    have q2 : P.ltP 4 8 := (hnl 4 (by decide)).2
    refine ⟨q1, q2, 4, hN4, ?_⟩
    cbv
    refine br_cases (fun h => ?_) (fun h => ?_)
    · have hq := le_t hP h
      cbv
      exact hR _ _ _ (g2 hq) (Ent.refl _) rfl
    have hq := le_f hP h
    replace g3 := g3 hq
    replace g4 := g4 hq
    cbv
    refine br_cases (fun h => ?_) (fun h => ?_)
    · have h64 : 64 ≤ P.rlen rv := le_t hP h
      rw [hn] at h64
      cbv
      exact hR _ _ _ (g3 (.inl (by omega))) (Ent.refl _) rfl
    have h64 : ¬ 64 ≤ P.rlen rv := le_f hP h
    rw [hn] at h64
    have o1 : P.i64 (P.add b (P.rlen rv)) := by rw [add_eq hP, hn]; exact i64I hP (by omega)
    cbv
    refine ⟨o1, ?_⟩
    refine br_cases (fun h => ?_) (fun h => ?_)
    · have h31 : 2147483647 ≤ P.add b (P.rlen rv) := le_t hP h
      rw [add_eq hP, hn] at h31
      cbv
      exact hR _ _ _ (g3 (.inr (by omega))) (Ent.refl _) rfl
    have h31 : ¬ 2147483647 ≤ P.add b (P.rlen rv) := le_f hP h
    rw [add_eq hP, hn] at h31
    cbv
    refine c2 _ _ ?_
    cbv
    exact hR _ _ _ (g4 (by omega)) (Ent.refl _) rfl
  · have q1 : P.leP 0 5 := (hnl 5 (by decide)).1
    have q2 : P.ltP 5 8 := (hnl 5 (by decide)).2
    refine ⟨q1, q2, 5, hN5, ?_⟩
    cbv
    refine br_cases (fun h => ?_) (fun h => ?_)
    · have hq := le_t hP h
      cbv
      exact hR _ _ _ (g2 hq) (Ent.refl _) rfl
    have hq := le_f hP h
    replace g3 := g3 hq
    replace g4 := g4 hq
    cbv
    refine br_cases (fun h => ?_) (fun h => ?_)
    · have h64 : 64 ≤ P.rlen rv := le_t hP h
      rw [hn] at h64
      cbv
      exact hR _ _ _ (g3 (.inl (by omega))) (Ent.refl _) rfl
    have h64 : ¬ 64 ≤ P.rlen rv := le_f hP h
    rw [hn] at h64
    have o1 : P.i64 (P.add b (P.rlen rv)) := by rw [add_eq hP, hn]; exact i64I hP (by omega)
    cbv
    refine ⟨o1, ?_⟩
    refine br_cases (fun h => ?_) (fun h => ?_)
    · have h31 : 2147483647 ≤ P.add b (P.rlen rv) := le_t hP h
      rw [add_eq hP, hn] at h31
      cbv
      exact hR _ _ _ (g3 (.inr (by omega))) (Ent.refl _) rfl
    have h31 : ¬ 2147483647 ≤ P.add b (P.rlen rv) := le_f hP h
    rw [add_eq hP, hn] at h31
    cbv
    refine c2 _ _ ?_
    cbv
    exact hR _ _ _ (g4 (by omega)) (Ent.refl _) rfl
  · have q1 : P.leP 0 6 := (hnl 6 (by decide)).1
    have q2 : P.ltP 6 8 := (hnl 6 (by decide)).2
    refine ⟨q1, q2, 6, hN6, ?_⟩
    cbv
    refine br_cases (fun h => ?_) (fun h => ?_)
    · have hq := le_t hP h
      cbv
      exact hR _ _ _ (g2 hq) (Ent.refl _) rfl
    have hq := le_f hP h
    replace g3 := g3 hq
    replace g4 := g4 hq
    cbv
    refine br_cases (fun h => ?_) (fun h => ?_)
    · have h64 : 64 ≤ P.rlen rv := le_t hP h
      rw [hn] at h64
      cbv
      exact hR _ _ _ (g3 (.inl (by omega))) (Ent.refl _) rfl
    have h64 : ¬ 64 ≤ P.rlen rv := le_f hP h
    rw [hn] at h64
    have o1 : P.i64 (P.add b (P.rlen rv)) := by rw [add_eq hP, hn]; exact i64I hP (by omega)
    cbv
    refine ⟨o1, ?_⟩
    refine br_cases (fun h => ?_) (fun h => ?_)
    · have h31 : 2147483647 ≤ P.add b (P.rlen rv) := le_t hP h
      rw [add_eq hP, hn] at h31
      cbv
      exact hR _ _ _ (g3 (.inr (by omega))) (Ent.refl _) rfl
    have h31 : ¬ 2147483647 ≤ P.add b (P.rlen rv) := le_f hP h
    rw [add_eq hP, hn] at h31
    cbv
    refine c2 _ _ ?_
    cbv
    exact hR _ _ _ (g4 (by omega)) (Ent.refl _) rfl
  · have q1 : P.leP 0 7 := (hnl 7 (by decide)).1
    have q2 : P.ltP 7 8 := (hnl 7 (by decide)).2
    refine ⟨q1, q2, 7, hN7, ?_⟩
    cbv
    refine br_cases (fun h => ?_) (fun h => ?_)
    · have hq := le_t hP h
      cbv
      exact hR _ _ _ (g2 hq) (Ent.refl _) rfl
    have hq := le_f hP h
    replace g3 := g3 hq
    replace g4 := g4 hq
    cbv
    refine br_cases (fun h => ?_) (fun h => ?_)
    · have h64 : 64 ≤ P.rlen rv := le_t hP h
      rw [hn] at h64
      cbv
      exact hR _ _ _ (g3 (.inl (by omega))) (Ent.refl _) rfl
    have h64 : ¬ 64 ≤ P.rlen rv := le_f hP h
    rw [hn] at h64
    have o1 : P.i64 (P.add b (P.rlen rv)) := by rw [add_eq hP, hn]; exact i64I hP (by omega)
    cbv
    refine ⟨o1, ?_⟩
    refine br_cases (fun h => ?_) (fun h => ?_)
    · have h31 : 2147483647 ≤ P.add b (P.rlen rv) := le_t hP h
      rw [add_eq hP, hn] at h31
      cbv
      exact hR _ _ _ (g3 (.inr (by omega))) (Ent.refl _) rfl
    have h31 : ¬ 2147483647 ≤ P.add b (P.rlen rv) := le_f hP h
    rw [add_eq hP, hn] at h31
    cbv
    refine c2 _ _ ?_
    cbv
    exact hR _ _ _ (g4 (by omega)) (Ent.refl _) rfl
def logT (gn b : Int) (tx : List UInt8) (fs tb : Nat → Int) (rv : List (List V)) (wh : Bool) (gd : Int) : V := .agg [.int .i64 gn, .int .i64 b, .str tx, .int .i64 (fs 0), .int .i64 (fs 1), .int .i64 (fs 2), .int .i64 (fs 3), .int .i64 (fs 4), .int .i64 (fs 5), .int .i64 (fs 6), .int .i64 (fs 7), .int .i64 (fs 8), .int .i64 (fs 9), .int .i64 (fs 10), .int .i64 (fs 11), .int .i64 (fs 12), .int .i64 (fs 13), .int .i64 (fs 14), .int .i64 (fs 15), .int .i64 (tb 0), .int .i64 (tb 1), .int .i64 (tb 2), .int .i64 (tb 3), .int .i64 (tb 4), .int .i64 (tb 5), .int .i64 (tb 6), .int .i64 (tb 7), .int .i64 (tb 8), .int .i64 (tb 9), .int .i64 (tb 10), .int .i64 (tb 11), .int .i64 (tb 12), .int .i64 (tb 13), .int .i64 (tb 14), .int .i64 (tb 15), .sl true 3 rv, .bool wh, .int .i64 gd]
def nextF (b : Int) (tb : Nat → Int) (n : Nat) (size : Int) (r : Rev) : Int := if oneF r ≠ 0 then oneF r else if r.seq ≤ tb (2 * r.who.toNat) then 10 else if 64 ≤ (n : Int) ∨ 2147483647 ≤ b + n then 11 else fitsF r.delta size
theorem one_who {r : Rev} (h : oneF r = 0) : 0 ≤ r.who ∧ r.who ≤ 7 ∧ 0 ≤ r.seq ∧ r.seq ≤ 2147483647 ∧ checkF r.delta = 0 := by
  unfold oneF at h
  split at h
  · contradiction
  · omega
theorem sp_hnextT (gn b : Int) (tx : List UInt8) (fs tb : Nat → Int) (l : List Rev) (wh : Bool) (gd size : Int) (r : Rev) (hb : 0 ≤ b ∧ b ≤ 2147483647) (hr : PartsOk r.delta) : Spec Try.prog 60 [logT gn b tx fs tb (l.map encRev) wh gd, .int .i64 size, .agg (encRev r)] Hp.emp (Is (.int .i64 (nextF b tb l.length size r))) :=
  spec_pure dOk ok_hnext [.int .i64 (nextF b tb l.length size r)] (.int _ _) fun R hR => vc_hnext std rfl _ _ gn b gd r.who r.seq size (oneF r) (fitsF r.delta size) l.length tx fs tb (l.map encRev) (r.delta.map encPart) wh true (by show ((l.map encRev).length : Int) = _; simp) hb
    (ansW (sp_one r hr) (fun h => .cons (.same _) .nil) rfl) (fun h => by have := one_who h; omega) (fun _ => ansLs (sp_fits r.delta hr.1 size) rfl rfl) (nextF b tb l.length size r)
    (fun h => by unfold nextF; rw [if_pos h]) (fun h h2 => by unfold nextF; rw [if_neg (fun g => g h), if_pos h2]) (fun h h2 h3 => by unfold nextF; rw [if_neg (fun g => g h), if_neg h2, if_pos h3]) (fun h h2 h3 => by unfold nextF; rw [if_neg (fun g => g h), if_neg h2, if_neg h3]) (by omega)
    R fun s s' x h he hq => by subst h; exact hR s s' he hq
def tabV (f : Nat → Int) : V := .agg [.int .i64 (f 0), .int .i64 (f 1), .int .i64 (f 2), .int .i64 (f 3), .int .i64 (f 4), .int .i64 (f 5), .int .i64 (f 6), .int .i64 (f 7), .int .i64 (f 8), .int .i64 (f 9), .int .i64 (f 10), .int .i64 (f 11), .int .i64 (f 12), .int .i64 (f 13), .int .i64 (f 14), .int .i64 (f 15)]
end Go.Proofs.Ytobngncjflogcaa.AM

set_option linter.unusedVariables false
set_option linter.unusedSimpArgs false
namespace Go.Proofs.Ytobngncjflogcaa.AM
open Go

/-- an own slice and what it becomes -/
def Frk (k : Nat) (b : Option Nat) (sz n : Nat) (rows : List (List V)) (v v' : V) : Prop := v' = v ∨ (v = .own k b sz n ∧ v' = .sl false sz rows)
theorem Frk.rel {C : Ctx} {F : Nat → Prop} {h : Hp} {w : World} (hs : HSat C F h w) {k sz n : Nat} {b : Option Nat} {o : Ob} (hk : h k = some o) (hb : o.b = b) (hsz : o.sz = sz) (hn : o.rows.length = n) (hz : ∀ r ∈ o.rows, ∀ v ∈ r, Fz v)
    {v v' : V} (hv : Frk k b sz n o.rows v v') {u : Value} (hr : Rel F C.B w v u) : Rel (fun x => F x ∨ o.b = some x) C.B w v' u := by
  rcases hv with rfl | ⟨rfl, rfl⟩
  · exact hr.mono (fun _ h => .inl h) (fun _ h => .inr h)
  · cases hr with
    | ownnil =>
      have : o.rows = [] := List.eq_nil_of_length_eq_zero hn
      rw [this]; exact .slnil _ _
    | own _ b' _ n' cap c e fr hheap hcs hm hnc =>
      have ho := hs.ob k o hk
      unfold ObSat at ho
      rw [hb] at ho
      obtain ⟨c', cap', hc', h1, h2, h3, h4, h5⟩ := ho
      rw [hheap] at hc'
      cases hc'
      subst hn
      have hw : ∀ r ∈ o.rows, r.length = sz := fun r hr => by rw [← hsz]; exact h4 r hr
      refine .sl false sz o.rows b' 0 cap (fun i j => (c[i * sz + j]?).getD undef) (.inl (.inr hb)) hnc hw (fun i j r v hi hj => ?_) (fun i j r v hi hj => ?_)
      · obtain ⟨u, hu, h1u, hru⟩ := h5 i j r v hi hj
        rw [hsz] at hu
        rw [hu, cell_of_row w b' _ c o.ty (0, 0) hheap]
        have : i * sz + j < c.size := (Array.getElem?_eq_some_iff.1 hu).1
        refine ⟨?_, h1u⟩
        rw [Nat.zero_add]
        exact hu
      · obtain ⟨u, hu, h1u, hru⟩ := h5 i j r v hi hj
        rw [hsz] at hu
        rw [hu]
        exact hru.mono (fun _ h => .inl h) (fun _ h => .inr h)
theorem Ent.freeze {s s' : S} {k sz n : Nat} {b : Option Nat} {o : Ob} (hk : s.h k = some o) (hb : o.b = b) (hsz : o.sz = sz) (hn : o.rows.length = n) (hz : ∀ r ∈ o.rows, ∀ v ∈ r, Fz v)
    (ht : ∀ i, Frk k b sz n o.rows (s.t i) (s'.t i))
    (hh : ∀ j q', s'.h j = some q' → j ≠ k ∧ ∃ q, s.h j = some q ∧ q'.b = q.b ∧ q'.ty = q.ty ∧ q'.sz = q.sz ∧ q'.rows.length = q.rows.length ∧
      ∀ (i : Nat) (r r' : List V), q.rows[i]? = some r → q'.rows[i]? = some r' → r'.length = r.length ∧ ∀ (l : Nat) (v v' : V), r[l]? = some v → r'[l]? = some v' → Frk k b sz n o.rows v v') : Ent s s' := by
  intro C n0 a w hC hs0
  obtain ⟨F, hs, h2⟩ := hs0.ex
  refine ⟨⟨fun x => F x ∨ o.b = some x, ⟨fun j q' hj => ?_, fun j j' q q' b1 hj hj' hb1 hb2 => ?_, fun j q' b1 hj hb1 => ?_, fun b1 hb1 => ?_, fun b1 hb1 => .inl (hs.new b1 hb1), fun b1 hb1 => ?_, hs.ev⟩, fun i => ?_⟩, hs0.df, hs0.sz⟩
  · obtain ⟨_, q, hq, e1, e2, e3, e4, e5⟩ := hh j q' hj
    have hq2 := hs.ob j q hq
    unfold ObSat at hq2 ⊢
    rw [e1]
    cases hqb : q.b with
    | none =>
      rw [hqb] at hq2
      simp only at hq2 ⊢
      rw [hq2] at e4
      exact List.eq_nil_of_length_eq_zero e4
    | some b1 =>
      rw [hqb] at hq2
      obtain ⟨c, cap, g1, g2, g3, g4, g5, g6⟩ := hq2
      refine ⟨c, cap, by rw [e2]; exact g1, by rw [e3]; exact g2, g3, by omega, fun r' hr' => ?_, fun i l r' v' hi hl => ?_⟩
      · obtain ⟨i, hi⟩ := List.mem_iff_getElem?.1 hr'
        have hil := (List.getElem?_eq_some_iff.1 hi).1
        have hir : q.rows[i]? = some (q.rows[i]'(by omega)) := List.getElem?_eq_getElem (by omega)
        rw [e3, (e5 i _ r' hir hi).1]
        exact g5 _ (List.mem_of_getElem? hir)
      · have hil := (List.getElem?_eq_some_iff.1 hi).1
        have hir : q.rows[i]? = some (q.rows[i]'(by omega)) := List.getElem?_eq_getElem (by omega)
        obtain ⟨f1, f2⟩ := e5 i _ r' hir hi
        have hll := (List.getElem?_eq_some_iff.1 hl).1
        have hlr : (q.rows[i]'(by omega))[l]? = some ((q.rows[i]'(by omega))[l]'(by omega)) := List.getElem?_eq_getElem (by omega)
        obtain ⟨u, k1, k2, k3⟩ := g6 i l _ _ hir hlr
        rw [e3]
        exact ⟨u, k1, k2, Frk.rel hs hk hb hsz hn hz (f2 l _ v' hlr hl) k3⟩
  · obtain ⟨_, q1, hq1, e1, _⟩ := hh j q hj
    obtain ⟨_, q2, hq2, e2, _⟩ := hh j' q' hj'
    exact hs.inj j j' q1 q2 b1 hq1 hq2 (by rw [← e1]; exact hb1) (by rw [← e2]; exact hb2)
  · obtain ⟨hne, q1, hq1, e1, _⟩ := hh j q' hj
    obtain ⟨g1, g2⟩ := hs.live j q1 b1 hq1 (by rw [← e1]; exact hb1)
    refine ⟨?_, g2⟩
    rintro (g | g)
    · exact g1 g
    · exact hne (hs.inj j k q1 o b1 hq1 hk (by rw [← e1]; exact hb1) g)
  · rcases hb1 with g | g
    · exact hs.old b1 g
    · exact .inr (hs.live k o b1 hk g).2
  · rcases hb1 with g | g
    · exact hs.lt b1 g
    · exact (hs.ob k o hk).lt g
  · exact Frk.rel hs hk hb hsz hn hz (ht i) (h2 i)

theorem HEnt.freeze {h h' : Hp} {k sz n : Nat} {b : Option Nat} {o : Ob} (hk : h k = some o) (hb : o.b = b) (hsz : o.sz = sz) (hn : o.rows.length = n) (hz : ∀ r ∈ o.rows, ∀ v ∈ r, Fz v)
    (hh : ∀ j q', h' j = some q' → j ≠ k ∧ ∃ q, h j = some q ∧ q'.b = q.b ∧ q'.ty = q.ty ∧ q'.sz = q.sz ∧ q'.rows.length = q.rows.length ∧
      ∀ (i : Nat) (r r' : List V), q.rows[i]? = some r → q'.rows[i]? = some r' → r'.length = r.length ∧ ∀ (l : Nat) (v v' : V), r[l]? = some v → r'[l]? = some v' → Frk k b sz n o.rows v v') : HEnt h h' := by
  intro C F w hC hs
  refine ⟨fun x => F x ∨ o.b = some x, fun _ h => .inl h, ⟨fun j q' hj => ?_, fun j j' q q' b1 hj hj' hb1 hb2 => ?_, fun j q' b1 hj hb1 => ?_, fun b1 hb1 => ?_, fun b1 hb1 => .inl (hs.new b1 hb1), fun b1 hb1 => ?_, hs.ev⟩⟩
  · obtain ⟨_, q, hq, e1, e2, e3, e4, e5⟩ := hh j q' hj
    have hq2 := hs.ob j q hq
    unfold ObSat at hq2 ⊢
    rw [e1]
    cases hqb : q.b with
    | none =>
      rw [hqb] at hq2
      simp only at hq2 ⊢
      rw [hq2] at e4
      exact List.eq_nil_of_length_eq_zero e4
    | some b1 =>
      rw [hqb] at hq2
      obtain ⟨c, cap, g1, g2, g3, g4, g5, g6⟩ := hq2
      refine ⟨c, cap, by rw [e2]; exact g1, by rw [e3]; exact g2, g3, by omega, fun r' hr' => ?_, fun i l r' v' hi hl => ?_⟩
      · obtain ⟨i, hi⟩ := List.mem_iff_getElem?.1 hr'
        have hil := (List.getElem?_eq_some_iff.1 hi).1
        have hir : q.rows[i]? = some (q.rows[i]'(by omega)) := List.getElem?_eq_getElem (by omega)
        rw [e3, (e5 i _ r' hir hi).1]
        exact g5 _ (List.mem_of_getElem? hir)
      · have hil := (List.getElem?_eq_some_iff.1 hi).1
        have hir : q.rows[i]? = some (q.rows[i]'(by omega)) := List.getElem?_eq_getElem (by omega)
        obtain ⟨f1, f2⟩ := e5 i _ r' hir hi
        have hll := (List.getElem?_eq_some_iff.1 hl).1
        have hlr : (q.rows[i]'(by omega))[l]? = some ((q.rows[i]'(by omega))[l]'(by omega)) := List.getElem?_eq_getElem (by omega)
        obtain ⟨u, k1, k2, k3⟩ := g6 i l _ _ hir hlr
        rw [e3]
        exact ⟨u, k1, k2, Frk.rel hs hk hb hsz hn hz (f2 l _ v' hlr hl) k3⟩
  · obtain ⟨_, q1, hq1, e1, _⟩ := hh j q hj
    obtain ⟨_, q2, hq2, e2, _⟩ := hh j' q' hj'
    exact hs.inj j j' q1 q2 b1 hq1 hq2 (by rw [← e1]; exact hb1) (by rw [← e2]; exact hb2)
  · obtain ⟨hne, q1, hq1, e1, _⟩ := hh j q' hj
    obtain ⟨g1, g2⟩ := hs.live j q1 b1 hq1 (by rw [← e1]; exact hb1)
    refine ⟨?_, g2⟩
    rintro (g | g)
    · exact g1 g
    · exact hne (hs.inj j k q1 o b1 hq1 hk (by rw [← e1]; exact hb1) g)
  · rcases hb1 with g | g
    · exact hs.old b1 g
    · exact .inr (hs.live k o b1 hk g).2
  · rcases hb1 with g | g
    · exact hs.lt b1 g
    · exact (hs.ob k o hk).lt g

/-- an own slice that stands in a cell of another object is frozen, ahead of a call -/
theorem HEnt.frzC {h : Hp} {k q sz n c : Nat} {b : Option Nat} {o O : Ob} {row : List V} (hk : h k = some o) (hq : h q = some O) (hO : O.rows = [row]) (hc : row[c]? = some (.own k b sz n)) (hb : o.b = b) (hsz : o.sz = sz) (hn : o.rows.length = n) (hz : ∀ r ∈ o.rows, ∀ v ∈ r, Fz v) :
    HEnt h (Hp.del (Hp.put h q ⟨O.b, O.ty, O.sz, [row.set c (.sl false sz o.rows)]⟩) k) := by
  refine HEnt.freeze hk hb hsz hn hz (fun j q' hj => ?_)
  simp only [Hp.del] at hj
  by_cases h1 : j = k
  · rw [if_pos h1] at hj; cases hj
  · rw [if_neg h1] at hj
    refine ⟨h1, ?_⟩
    simp only [Hp.put] at hj
    by_cases h2 : j = q
    · rw [if_pos h2] at hj
      cases hj
      refine ⟨O, by rw [h2]; exact hq, rfl, rfl, rfl, by rw [hO]; simp, fun i r r' e1 e3 => ?_⟩
      rw [hO] at e1
      cases i with
      | zero =>
        simp only [List.getElem?_cons_zero, Option.some.injEq] at e1 e3
        subst e1 e3
        refine ⟨by simp, fun l v v' e4 e5 => ?_⟩
        rw [List.getElem?_set] at e5
        by_cases hl : c = l
        · subst hl
          rw [if_pos rfl] at e5
          rw [hc] at e4
          cases e4
          split at e5
          · cases e5; exact .inr ⟨rfl, rfl⟩
          · cases e5
        · rw [if_neg hl, e4] at e5
          cases e5; exact .inl rfl
      | succ i => simp at e1
    · rw [if_neg h2] at hj
      exact ⟨q', hj, rfl, rfl, rfl, rfl, fun i r r' h1 h2 => by rw [h1] at h2; cases h2; exact ⟨rfl, fun l v v' h3 h4 => by rw [h3] at h4; cases h4; exact .inl rfl⟩⟩

end Go.Proofs.Ytobngncjflogcaa.AM

set_option linter.unusedSimpArgs false
set_option linter.unusedVariables false
namespace Go.Proofs.Ytobngncjflogcaa
open Go.RowKit

def bt (n : Nat) : UInt8 := UInt8.ofNat n
theorem bt_toNat (n : Nat) (h : n < 256) : (bt n).toNat = n := by
  unfold bt; rw [UInt8.toNat_ofNat']; omega

/-- a number as bytes (fuel: five bytes hold what may be) -/
def numF : Nat → Nat → List UInt8
  | 0, _ => []
  | f + 1, n => if n < 128 then [bt n] else bt (128 + n % 128) :: numF f (n / 128)
def numL (n : Nat) : List UInt8 := numF 5 n

theorem numF_small (f n : Nat) (h : n < 128) : numF (f + 1) n = [bt n] := by simp [numF, h]
theorem numF_large (f n : Nat) (h : ¬ n < 128) : numF (f + 1) n = bt (128 + n % 128) :: numF f (n / 128) := by simp [numF, h]

theorem numF_len (f n : Nat) : (numF f n).length ≤ f := by
  induction f generalizing n with
  | zero => simp [numF]
  | succ f ih =>
    unfold numF
    split
    · simp
    · have := ih (n / 128); simp; omega

/-- what bytes say -/
def val : List UInt8 → Nat
  | [] => 0
  | b :: r => b.toNat % 128 + 128 * val r
def hi (b : UInt8) : Bool := 128 ≤ b.toNat
/-- how many bytes go on -/
def lead (l : List UInt8) : Nat := (l.takeWhile hi).length

theorem lead_le (l : List UInt8) : lead l ≤ l.length := (List.takeWhile_sublist _).length_le
theorem lead_cons_hi (b : UInt8) (r : List UInt8) (h : 128 ≤ b.toNat) : lead (b :: r) = lead r + 1 := by
  have : hi b = true := by simp [hi, h]
  simp [lead, List.takeWhile_cons, this]
theorem lead_cons_lo (b : UInt8) (r : List UInt8) (h : b.toNat < 128) : lead (b :: r) = 0 := by
  have : hi b = false := by simp [hi]; omega
  simp [lead, List.takeWhile_cons, this]

/-- P17: what is read: the number, how many bytes, the error -/
def getS (l : List UInt8) : Int × Int × Int :=
  if 5 ≤ lead l then (0, 0, 3)
  else if lead l = l.length then (0, 0, 5)
  else if 2147483647 < val (l.take (lead l + 1)) ∨ (0 < lead l ∧ l[lead l]? = some 0) then (0, 0, 3)
  else (val (l.take (lead l + 1)), lead l + 1, 0)

/-- all bytes go on, but the last -/
inductive Word : List UInt8 → Prop
  | one (b : UInt8) : b.toNat < 128 → Word [b]
  | more (b : UInt8) (r : List UInt8) : 128 ≤ b.toNat → Word r → Word (b :: r)

theorem word_take : ∀ (l : List UInt8), lead l < l.length → Word (l.take (lead l + 1))
  | [], h => by simp at h
  | b :: r, h => by
    by_cases hb : 128 ≤ b.toNat
    · rw [lead_cons_hi b r hb] at h ⊢
      exact .more b _ hb (word_take r (by simp at h; omega))
    · rw [lead_cons_lo b r (by omega)]
      simpa using Word.one b (by omega)

theorem val_pos_of_word {l : List UInt8} (h : Word l) (hl : l.getLast? ≠ some 0) : 0 < val l := by
  induction h with
  | one b hb =>
    have : b ≠ 0 := fun e => hl (by simp [e])
    have : b.toNat ≠ 0 := fun e => this (UInt8.toNat_inj.1 (by simpa using e))
    simp [val]; omega
  | more b r hb hr ih =>
    have hr' : r ≠ [] := by cases hr <;> simp
    have := ih (by rwa [List.getLast?_cons_of_ne_nil hr'] at hl)
    simp [val]; omega

/-- a word is the number's own bytes just if its last byte is not 0, or it is alone -/
theorem num_of_word (f : Nat) : ∀ {l : List UInt8}, Word l → l.length ≤ f → (numF f (val l) = l ↔ (l.length = 1 ∨ l.getLast? ≠ some 0)) := by
  induction f with
  | zero => intro l h hl; cases h <;> simp at hl
  | succ f ih =>
    intro l h hl
    cases h with
    | one b hb =>
      have : val [b] = b.toNat := by simp [val]; omega
      rw [this, numF_small f _ hb]
      simp [bt, UInt8.ofNat_toNat]
    | more b r hb hr =>
      have hr' : r ≠ [] := by cases hr <;> simp
      have hlen : 1 ≤ r.length := by cases hr <;> simp
      have hb2 := b.toNat_lt
      rw [List.getLast?_cons_of_ne_nil hr']
      simp at hl
      have h1 : val (b :: r) / 128 = val r := by simp [val]; omega
      have h2 : 128 + val (b :: r) % 128 = b.toNat := by simp [val]; omega
      have hbt : bt (128 + val (b :: r) % 128) = b := by rw [h2]; simp [bt, UInt8.ofNat_toNat]
      constructor
      · intro e
        right
        intro hz
        by_cases hs : val (b :: r) < 128
        · rw [numF_small f _ hs] at e
          injection e with e1 e2
          exact hr' e2.symm
        · rw [numF_large f _ hs, h1] at e
          injection e with e1 e2
          rcases (ih hr hl).1 e2 with h3 | h3
          · match r, h3, hz with
            | [c], _, hz =>
              simp at hz
              subst hz
              simp [val] at hs
              omega
          · exact h3 hz
      · rintro (h3 | h3)
        · simp at h3; exact absurd h3 hr'
        · have hp := val_pos_of_word hr h3
          have hs : ¬ val (b :: r) < 128 := by have e : val (b :: r) = b.toNat % 128 + 128 * val r := rfl; omega
          rw [numF_large f _ hs, h1, hbt, (ih hr hl).2 (.inr h3)]

theorem val_snoc (l : List UInt8) (b : UInt8) : val (l ++ [b]) = val l + b.toNat % 128 * 128 ^ l.length := by
  induction l with
  | nil => simp [val]
  | cons c r ih =>
    simp only [List.cons_append, val, ih, List.length_cons, Nat.pow_succ]
    rw [Nat.mul_add, Nat.mul_comm (128 ^ r.length) 128, ← Nat.mul_assoc, ← Nat.mul_assoc, Nat.mul_comm 128 (b.toNat % 128)]
    omega

theorem val_lt (l : List UInt8) : val l < 128 ^ l.length := by
  induction l with
  | nil => simp [val]
  | cons c r ih => simp only [val, List.length_cons, Nat.pow_succ]; omega

/-- the bit word of a round of Get -/
theorem or_join (n x : Int) (i : Nat) (hi : i ≤ 4) (hn0 : 0 ≤ n) (hn1 : n < 128 ^ i) (hx0 : 0 ≤ x) (hx1 : x < 128) : bits .or .i64 n (x * 128 ^ i) = n + x * 128 ^ i := by
  have hc : bits .or .i64 n (x * 128 ^ i) = bits .or .i64 (x * 128 ^ i) n := by simp only [bits, BitVec.or_comm]
  have e : (128 : Int) ^ i = 2 ^ (7 * i) := by rw [Int.pow_mul]; rfl
  have wraps : ∀ n : Int, 0 ≤ n → n < 2 ^ 62 → IntKind.i64.wrap n = n := fun n h0 h1 => by rw [IntKind.wrap_i64]; omega
  have hp : (128 : Int) ^ i ≤ 268435456 := by
    have h : 128 ^ i ≤ 128 ^ 4 := Nat.pow_le_pow_right (by decide) hi
    have h2 : ((128 ^ i : Nat) : Int) ≤ 268435456 := by omega
    rwa [Int.natCast_pow] at h2
  have hp0 : (0 : Int) < 128 ^ i := Int.pow_pos (by decide)
  have hx : x * 128 ^ i ≤ 127 * 128 ^ i := Int.mul_le_mul_of_nonneg_right (by omega) (by omega)
  have hxn : 0 ≤ x * 128 ^ i := Int.mul_nonneg hx0 (by omega)
  rw [hc, bits_join .i64 62 (by decide) wraps (7 * i) (x * 128 ^ i) n hxn (by rw [e]; exact Int.mul_emod_left _ _) (by omega) hn0 (by rw [← e]; exact hn1) (by omega)]
  omega

theorem or128_nat : ∀ a : Nat, a < 256 → a ||| 128 = 128 + a % 128 := by decide +kernel
theorem or128 (m : Nat) : bits .or .u8 ((m : Int) % 256) 128 = 128 + (m : Int) % 128 := by
  have h1 : ((m : Int) % 256) = ((m % 256 : Nat) : Int) := by omega
  have h2 := u8_or_nat (m % 256) 128 (by omega) (by omega)
  rw [h1]
  refine h2.trans ?_
  rw [or128_nat _ (by omega)]
  omega

/-- the cells of a slice of bytes -/
def byteVals (l : List UInt8) : List Value := l.map (fun b => .int .u8 b.toNat)
theorem byteVals_snoc (l : List UInt8) (b : UInt8) : byteVals (l ++ [b]) = byteVals l ++ [.int .u8 b.toNat] := by simp [byteVals]

theorem lead_ge : ∀ (l : List UInt8) (k : Nat), k ≤ l.length → (∀ j (h : j < l.length), j < k → 128 ≤ l[j].toNat) → k ≤ lead l
  | _, 0, _, _ => Nat.zero_le _
  | [], k + 1, h, _ => by simp at h
  | b :: r, k + 1, h, H => by
    have hb : 128 ≤ b.toNat := H 0 (by simp) (by omega)
    rw [lead_cons_hi b r hb]
    have := lead_ge r k (by simpa using h) (fun j hj hjk => H (j + 1) (by simp; omega) (by omega))
    omega

theorem lead_at_list : ∀ (l : List UInt8) (k : Nat) (h : k < l.length), (∀ j (h : j < l.length), j < k → 128 ≤ l[j].toNat) → l[k].toNat < 128 → lead l = k
  | [], k, h, _, _ => by simp at h
  | b :: r, 0, _, _, hb => lead_cons_lo b r (by simpa using hb)
  | b :: r, k + 1, h, H, hb => by
    have hb0 : 128 ≤ b.toNat := H 0 (by simp) (by omega)
    rw [lead_cons_hi b r hb0, lead_at_list r k (by simpa using h) (fun j hj hjk => H (j + 1) (by simp; omega) (by omega)) (by simpa using hb)]

def HiTo (s : ByteArray) (k : Nat) : Prop := ∀ j (h : j < s.size), j < k → 128 ≤ s[j].toNat
theorem HiTo.list {s : ByteArray} {k : Nat} (H : HiTo s k) : ∀ j (h : j < s.data.toList.length), j < k → 128 ≤ (s.data.toList)[j].toNat := fun j h hj => by
  have := H j (by simpa using h) hj
  rw [Array.getElem_toList]; exact this
theorem HiTo.snoc {s : ByteArray} {k : Nat} (H : HiTo s k) (h : k < s.size) (hb : 128 ≤ s[k].toNat) : HiTo s (k + 1) := fun j hj hjk => by
  by_cases e : j = k
  · subst e; exact hb
  · exact H j hj (by omega)
theorem lead_at (s : ByteArray) (k : Nat) (h : k < s.size) (H : HiTo s k) (hb : s[k].toNat < 128) : lead s.data.toList = k :=
  lead_at_list _ k (by simpa using h) H.list (by rw [Array.getElem_toList]; exact hb)
theorem len_data (s : ByteArray) : s.data.toList.length = s.size := by simp
theorem lead_end (s : ByteArray) (H : HiTo s s.size) : lead s.data.toList = s.size :=
  Nat.le_antisymm (by rw [← len_data]; exact lead_le _) (lead_ge _ _ (by simp) H.list)
theorem lead_five (s : ByteArray) (h : 4 < s.size) (H : HiTo s 5) : 5 ≤ lead s.data.toList := lead_ge _ _ (by simp; omega) H.list
theorem data_at (s : ByteArray) (k : Nat) (h : k < s.size) : s.data.toList[k]? = some s[k] := by
  rw [List.getElem?_eq_getElem (by simpa using h)]; simp; rfl

/-- what Get answers, case by case -/
theorem getS_ok (s : ByteArray) (k : Nat) (h : k < s.size) (hk : k ≤ 4) (H : HiTo s k) (hb : s[k].toNat < 128) (hz : s[k].toNat ≠ 0 ∨ k = 0) (hv : val (s.data.toList.take (k + 1)) ≤ 2147483647) :
    getS s.data.toList = ((val (s.data.toList.take (k + 1)) : Int), (k : Int) + 1, 0) := by
  unfold getS
  rw [lead_at s k h H hb, len_data, if_neg (by omega), if_neg (by omega), if_neg]
  rw [data_at s k h]
  rintro (h1 | ⟨h1, h2⟩)
  · omega
  · have : s[k].toNat = 0 := by injection h2 with h2; rw [h2]; rfl
    omega
theorem getS_zero (s : ByteArray) (k : Nat) (h : k < s.size) (hk : k ≤ 4) (H : HiTo s k) (hb : s[k].toNat = 0) (hz : k ≠ 0) : getS s.data.toList = (0, 0, 3) := by
  unfold getS
  rw [lead_at s k h H (by omega), len_data, if_neg (by omega), if_neg (by omega), if_pos]
  rw [data_at s k h]
  exact .inr ⟨by omega, congrArg some (UInt8.toNat_inj.1 hb)⟩
theorem getS_big (s : ByteArray) (k : Nat) (h : k < s.size) (hk : k ≤ 4) (H : HiTo s k) (hb : s[k].toNat < 128) (hv : 2147483647 < val (s.data.toList.take (k + 1))) : getS s.data.toList = (0, 0, 3) := by
  unfold getS
  rw [lead_at s k h H hb, len_data, if_neg (by omega), if_neg (by omega), if_pos (.inl hv)]
theorem getS_five (s : ByteArray) (h : 4 < s.size) (H : HiTo s 5) : getS s.data.toList = (0, 0, 3) := by
  unfold getS
  rw [if_pos (lead_five s h H)]
theorem getS_short (s : ByteArray) (h : s.size ≤ 4) (H : HiTo s s.size) : getS s.data.toList = (0, 0, 5) := by
  unfold getS
  rw [lead_end s H, len_data, if_neg (by omega), if_pos rfl]

/-- the number after a round -/
theorem get_word (s : ByteArray) (k : Nat) (h : k < s.size) (hk : k ≤ 4) :
    bits .or .i64 (val (s.data.toList.take k) : Int) (wrap64 ((s[k].toNat : Int) % 128 * 2 ^ (7 * k))) = (val (s.data.toList.take (k + 1)) : Int) := by
  have hl : (s.data.toList.take k).length = k := by simp; omega
  have e : s.data.toList.take (k + 1) = s.data.toList.take k ++ [s[k]] := by
    rw [List.take_succ_eq_append_getElem (by simpa using h)]; rfl
  have hv := val_lt (s.data.toList.take k)
  rw [hl] at hv
  rw [e, val_snoc, hl]
  have ep : (2 : Int) ^ (7 * k) = 128 ^ k := by rw [Int.pow_mul]; rfl
  have hp : (128 : Int) ^ k ≤ 268435456 := by
    have h : 128 ^ k ≤ 128 ^ 4 := Nat.pow_le_pow_right (by decide) hk
    have h2 : ((128 ^ k : Nat) : Int) ≤ 268435456 := by omega
    rwa [Int.natCast_pow] at h2
  have hp0 : (0 : Int) < 128 ^ k := Int.pow_pos (by decide)
  have hx : (s[k].toNat : Int) % 128 * 128 ^ k ≤ 127 * 128 ^ k := Int.mul_le_mul_of_nonneg_right (by omega) (by omega)
  have hx0 : 0 ≤ (s[k].toNat : Int) % 128 * 128 ^ k := Int.mul_nonneg (by omega) (by omega)
  have hv2 : (val (s.data.toList.take k) : Int) < 128 ^ k := by
    have : ((val (s.data.toList.take k) : Nat) : Int) < ((128 ^ k : Nat) : Int) := by omega
    rwa [Int.natCast_pow] at this
  rw [ep, IntWalk.wrap64_in _ ⟨by omega, by omega⟩, or_join _ _ k hk (by omega) hv2 (by omega) (by omega)]
  rw [Int.natCast_add, Int.natCast_mul, Int.natCast_pow]
  rfl



end Go.Proofs.Ytobngncjflogcaa

set_option linter.unusedVariables false
set_option linter.unusedSimpArgs false
namespace Go.Proofs.Ytobngncjflogcaa




theorem take_snoc (s : ByteArray) (k : Nat) (h : k < s.size) : s.data.toList.take (k + 1) = s.data.toList.take k ++ [s[k]] := by
  rw [List.take_succ_eq_append_getElem (by simpa using h)]; rfl

theorem ret_int {k : IntKind} {a b : Int} (h : a = b) : Ending.returned (.int k a) = .returned (.int k b) := by rw [h]
end Go.Proofs.Ytobngncjflogcaa

set_option linter.unusedVariables false
set_option linter.unusedSimpArgs false
namespace Go.Proofs.Ytobngncjflogcaa
open Go.RowKit

theorem Try.info_byte : (Try.prog.info? 5).map (fun i => (i.zero, i.size, i.bytes)) = some (some (.int .u8 0), 1, 1) := by kernel_rfl




end Go.Proofs.Ytobngncjflogcaa

set_option linter.unusedVariables false
set_option linter.unusedSimpArgs false
namespace Go.Proofs.Ytobngncjflogcaa
open Go.RowKit

/-- what the program's tables say of a slice type T and its element type e -/
structure ElemRow (P : Program) (T e : TypeId) (z : Value) (size bytes : Nat) : Prop where
  under : P.underlying T = some (.slice e)
  info : (P.info? e).map (fun i => (i.zero, i.size, i.bytes)) = some (some z, size, bytes)
  cells : z.cells.size = size
  pos : 0 < size
  bpos : 0 < bytes

section
variable {P : Program} {T e : TypeId} {z : Value} {size bytes : Nat}

theorem grown_below {w w' : World} {base n : Nat} {v : Value} {xs : List Value} (hown : w.ownsRow base e size v n xs) (hg : w.grownBy w' v.ownBlock) (hb : base ≤ w.heap.size) : Below base w w' :=
  (Below.refl base w).grown hg hb (fun k hk => (hown.lt k hk).1)

/-- append of what lies at an address -/
theorem wpList_app (E : ElemRow P T e z size bytes) {w : World} {ops : Array Oper} {rest : List Oper} {o : Oper} {a : Act} {Q : Exit → Act → World → Prop} (hgd : o.guard = none) (s x : Operand)
    (ho : o.op = .call { callee := .builtin .append, args := #[s, x], argTypes := #[T, T] })
    {base n : Nat} {v : Value} {xs : List Value} (hs : a.eval s = v) (hown : w.ownsRow base e size v n xs)
    {ad : Addr} {m c : Nat} {news : List Value} (hx : a.eval x = .slice (some ad) m c) (hl : news.length = m * size) (hnews : ∀ j u, news[j]? = some u → w.cell? (ad.add j) = some u) (h1 : ∀ u ∈ news, u.oneCell' = true)
    (hbytes : (n + m) * bytes ≤ 140737488355328) (hbase : base ≤ w.heap.size)
    (h : ∀ v' w', w'.ownsRow base e size v' (n + m) (xs ++ news) → Below base w w' → w.grownBy w' v.ownBlock → wpList P ops Q rest (a.put o.dst v') w') : wpList P ops Q (o :: rest) a w := by
  obtain ⟨i, hi, hz, hsz, hby⟩ := info_parts E.info
  have h63 : n + m ≤ maxLen := by
    have := Nat.le_trans (Nat.le_mul_of_pos_right (n + m) E.bpos) hbytes
    simp only [maxLen]; omega
  exact wpList_append_own w hgd s x T ho base e i z size bytes E.under hi hz hsz hby E.cells E.pos v n xs hs hown ad m c news hx hl hnews h1 h63 hbytes hbase
    (fun v' w' h2 h3 _ => h v' w' h2 (grown_below hown h3 hbase) h3)

/-- append of one element that was just built -/
theorem wpList_app1 (E : ElemRow P T e z size bytes) {w : World} {cs : Array Value} {ops : Array Oper} {rest : List Oper} {o : Oper} {a : Act} {Q : Exit → Act → World → Prop} (hgd : o.guard = none) (s x : Operand)
    (ho : o.op = .call { callee := .builtin .append, args := #[s, x], argTypes := #[T, T] })
    {base n : Nat} {v : Value} {xs : List Value} (hs : a.eval s = v) (hown : w.ownsRow base e size v n xs)
    (hx : a.eval x = .slice (some ⟨w.heap.size, 0, none⟩) 1 1) (hl : cs.size = size) (h1 : cs.toList.all (·.oneCell') = true)
    (hbytes : (n + 1) * bytes ≤ 140737488355328) (hbase : base ≤ w.heap.size)
    (h : ∀ v' w', w'.ownsRow base e size v' (n + 1) (xs ++ cs.toList) → Below base w w' → w.grownBy w' v.ownBlock → wpList P ops Q rest (a.put o.dst v') w') : wpList P ops Q (o :: rest) a (w.alloc (.cells cs e)) := by
  refine wpList_app E hgd s x ho hs (hown.alloc _) hx (news := cs.toList) (by simp [hl]) (fun j u hj => ?_) (fun u hu => ?_) hbytes (by simp; omega) (fun v' w' h2 h3 h4 => ?_)
  · rw [Addr.add_lit, Nat.zero_add, World.cell?_alloc_new]
    simpa using hj
  · exact (List.all_eq_true.1 h1) u hu
  · exact h v' w' h2 (((Below.refl base w).alloc hbase _).trans h3) ⟨h4.os, h4.tape, h4.output, Nat.le_trans (by simp) h4.size, fun k hk hne => (h4.block k (by simp; omega) hne).trans (Below.heap_alloc w _ k hk)⟩
end



def BW (B : Nat) (w : World) : Type := { x : World // Below B w x }
def BW.val {B : Nat} {w : World} (x : BW B w) : World := Subtype.val x
theorem BW.below {B : Nat} {w : World} (x : BW B w) : Below B w x.val := Subtype.property x
theorem BW.ne (B : Nat) (w : World) : Nonempty (BW B w) := ⟨⟨w, Below.refl _ _⟩⟩


theorem BW.call {P : Program} {f : FuncId} {args : Array Value} {B : Nat} {w : World} {x : BW B w} {v : Value} (hB : B ≤ w.heap.size)
    (h : Calls P f args x.val fun e w' => e = .returned v ∧ Below x.val.heap.size x.val w') : Calls P f args x.val fun e w'' => e = .returned v ∧ ∃ y : BW B w, w'' = y.val :=
  h.mono fun _ w' ⟨he, hb⟩ => ⟨he, ⟨w', x.below.trans (hb.mono (Nat.le_trans hB x.below.size))⟩, rfl⟩

section
variable {w : World} {g b o : Nat} {T : TypeId} {cs : Array Value} {s : Option Nat} {v : Value}
@[go_sem, simp] theorem size_ob : (w.ob g T cs).heap.size = w.heap.size := by simp [World.ob]
theorem heap_ob_same (h : g < w.heap.size) : (w.ob g T cs).heap[g]? = some (.cells cs T (0, 0)) := by simp [World.ob, h]
theorem heap_ob_other (h : b ≠ g) : (w.ob g T cs).heap[b]? = w.heap[b]? := by
  simp only [World.ob, Array.getElem?_setIfInBounds]
  rw [if_neg (fun e => h e.symm)]
@[go_sem] theorem cell?_ob_same (h : g < w.heap.size) : (w.ob g T cs).cell? ⟨g, o, none⟩ = cs[o]? := by
  simp [World.cell?, heap_ob_same h]
@[go_sem] theorem cell?_ob_other {sp} (h : b ≠ g) : (w.ob g T cs).cell? ⟨b, o, sp⟩ = w.cell? ⟨b, o, sp⟩ := by
  simp [World.cell?, heap_ob_other h]
@[go_sem] theorem frozen?_ob_same {sp} : (w.ob g T cs).frozen? ⟨g, o, sp⟩ = false := by
  by_cases h : g < w.heap.size
  · simp [World.frozen?, heap_ob_same h]
  · have : (w.ob g T cs).heap[g]? = none := by rw [Array.getElem?_eq_none]; simp; omega
    simp [World.frozen?, this]
@[go_sem] theorem frozen?_ob_other {sp} (h : b ≠ g) : (w.ob g T cs).frozen? ⟨b, o, sp⟩ = w.frozen? ⟨b, o, sp⟩ := by
  simp [World.frozen?, heap_ob_other h]
@[go_sem] theorem setCell_ob_same : (w.ob g T cs).setCell ⟨g, o, none⟩ v = w.ob g T (cs.setIfInBounds o v) := by
  simp only [World.ob, World.setCell]
  congr 1
  apply Array.ext_getElem?
  intro i
  simp only [Array.getElem?_modify, Array.getElem?_setIfInBounds, Array.size_setIfInBounds]
  by_cases h : g = i
  · subst h
    by_cases hs : g < w.heap.size <;> simp [hs]
  · simp [h]
@[go_sem] theorem setCell_ob_other {sp} (h : b ≠ g) : (w.ob g T cs).setCell ⟨b, o, sp⟩ v = (w.setCell ⟨b, o, sp⟩ v).ob g T cs := by
  simp only [World.ob, World.setCell]
  congr 1
  apply Array.ext_getElem?
  intro i
  simp only [Array.getElem?_modify, Array.getElem?_setIfInBounds, Array.size_modify]
  by_cases h1 : g = i
  · subst h1; simp [h]
  · simp [h1]
@[go_sem] theorem ob_drew : w.drew.ob g T cs = (w.ob g T cs).drew := rfl
@[go_sem] theorem ob_drewN {n : Nat} : (w.drewN n).ob g T cs = (w.ob g T cs).drewN n := rfl
@[go_sem] theorem setCell_drewN {n : Nat} {a : Addr} : (w.drewN n).setCell a v = (w.setCell a v).drewN n := rfl
@[go_sem] theorem alloc_drewN {n : Nat} {x : Obj} : (w.drewN n).alloc x = (w.alloc x).drewN n := rfl
theorem ob_self (h : w.heap[g]? = some (.cells cs T (0, 0))) : w.ob g T cs = w := by
  obtain ⟨hlt, he⟩ := Array.getElem?_eq_some_iff.1 h
  have : w.heap.setIfInBounds g (.cells cs T (0, 0)) = w.heap := by
    apply Array.ext_getElem?
    intro i
    rw [Array.getElem?_setIfInBounds]
    by_cases e : g = i
    · subst e; simp [hlt, he]
    · rw [if_neg e]
  simp [World.ob, this]
end
theorem below_ob {B : Nat} {a w : World} (h : Below B a w) {g : Nat} (hg : B ≤ g) (T : TypeId) (cs : Array Value) : Below B a (w.ob g T cs) :=
  h.trans ⟨rfl, rfl, rfl, by simp, fun k hk => heap_ob_other (by omega)⟩
@[go_sem] theorem heap_alloc_at {w : World} {x : Obj} {n : Nat} (h : n = w.heap.size) : (w.alloc x).heap[n]? = some x := by subst h; exact heap_alloc_new w x
@[go_sem] theorem heap_alloc_past {w : World} {x : Obj} {n : Nat} (h : n < w.heap.size) : (w.alloc x).heap[n]? = w.heap[n]? := Below.heap_alloc w x n h
/-- behind a call: the own structs are as they were -/
theorem reob1 {B : Nat} {W w1 : World} (hb : Below B W w1) {g0 : Nat} {T0 : TypeId} {c0 : Array Value} (h0 : g0 < B) (e0 : W.heap[g0]? = some (.cells c0 T0 (0, 0))) :
    ∃ w2, w1 = w2.ob g0 T0 c0 ∧ Below B W w2 :=
  ⟨w1, (ob_self ((hb.block _ h0).trans e0)).symm, hb⟩
end Go.Proofs.Ytobngncjflogcaa

set_option linter.unusedVariables false
set_option linter.unusedSimpArgs false
namespace Go.Proofs.Ytobngncjflogcaa
open Go.RowKit

theorem put_bad (n : Int) (w : World) (h : n < 0 ∨ 2147483647 < n) :
    Calls Try.prog 114 #[.int .i64 n] w fun e w' => e = .returned (.tuple #[.string ⟨#[]⟩, .int .i64 1]) ∧ w = w' := by
  rcases (show n < 0 ∨ (0 ≤ n ∧ 2147483647 < n) by omega) with h1 | ⟨h1, h2⟩
  all_goals
    clear h
    go_enter Try.func114, Try.ntmps114
    go_wp2_with fail
    go_ret2
    exact ⟨rfl, rfl⟩

theorem conv_own (w : World) (base : Nat) (v : Value) (l : List UInt8) (h : w.ownsRow base 5 1 v l.length (byteVals l)) (hl : 0 < l.length) :
    (convert 111 9 v).run Try.prog w = .ok (.string ⟨l.toArray⟩) w := by
  obtain ⟨h1, h2⟩ := h
  rcases h2 with ⟨_, h0⟩ | ⟨g, cap, cur, rfl, hg, hh, hn, hcap, hsz, htake⟩
  · omega
  · refine run_convert_bytes_back (P := Try.prog) w 111 9 5 ⟨g, 0, none⟩ cap l Try.underlying111 Try.underlying5 Try.underlying9 (fun j hj => ?_)
    have hc := World.ownsRow.cells (w := w) (base := base) (e := 5) (size := 1) (v := .slice (some ⟨g, 0, none⟩) l.length cap) (n := l.length) (xs := byteVals l) ⟨h1, .inr ⟨g, cap, cur, rfl, hg, hh, hn, hcap, hsz, htake⟩⟩ (g := g) rfl j (.int .u8 (l[j].toNat : Int)) (by simp [byteVals, hj])
    exact hc

theorem Try.row_bytes : ElemRow Try.prog 111 5 (.int .u8 0) 1 1 := ⟨Try.underlying111, Try.info_byte, rfl, by decide, by decide⟩

set_option maxRecDepth 100000 in
set_option maxHeartbeats 1000000 in
theorem put_ok (n : Int) (w : World) (h0 : 0 ≤ n) (h1 : n ≤ 2147483647) :
    Calls Try.prog 114 #[.int .i64 n] w fun e w' => e = .returned (.tuple #[.string ⟨(numL n.toNat).toArray⟩, .int .i64 0]) ∧ Below w.heap.size w w' := by
  go_enter Try.func114, Try.ntmps114
  go_wp2_with fail
  go_loopw [0, 4] (fun m v wr => ∃ (k : Nat) (xs : List UInt8) (g : Nat), (k : Int) ≤ 2147483647 ∧ m = .int .i64 k ∧ wr.ownsRow w.heap.size 5 1 v xs.length (byteVals xs) ∧ Below w.heap.size w wr ∧ xs.length + g = 4 ∧ k < 128 ^ (g + 1) ∧ Hid (numL n.toNat = xs ++ numF (g + 1) k)) (fun m _ _ => (intOf m).toNat)
  case atStart => exact ⟨n.toNat, [], 4, by omega, by rw [Int.toNat_of_nonneg h0], World.ownsRow_nil _ _ _ _, Below.refl _ _, rfl, by omega, rfl⟩
  case round =>
    obtain ⟨k, xs, g, hk, rfl, hown, hb, hg, hkg, HN⟩ := hrel
    have hxl : xs.length ≤ 4 := by omega
    by_cases hlt : k < 128
    · have hs1 : (k : Int) < 128 := by omega
      have HF := Lib.hid (numF_small g k hlt)
      have hcl := hb.size
      clear hkg
      go_wp2_with (at_builtin; go_must (refine wpList_app1 Try.row_bytes rfl (.tmp 21) (.tmp 24) rfl rfl hown rfl rfl rfl (by omega) hb.size ?_); intro v1 w1 hown1 hb1 hg1; have hcv := conv_own w1 w.heap.size v1 (xs ++ [bt k]) (by simpa [byteVals_snoc, bt_toNat k (by omega)] using hown1) (by simp))
      go_ret2
      exact ⟨by rw [HN.out, HF.out]; rfl, hb.trans hb1⟩
    · have hor := or128 k
      have HF := Lib.hid (numF_large g k hlt)
      have hs1 : (128 : Int) ≤ k := by omega
      have hg0 : g ≠ 0 := by
        rintro rfl
        omega
      obtain ⟨g', rfl⟩ : ∃ g', g = g' + 1 := ⟨g - 1, by omega⟩
      have HK : Hid (k / 128 < 128 ^ (g' + 1)) := by
        show _ < _
        rw [Nat.pow_succ] at hkg
        exact Nat.div_lt_of_lt_mul (by omega)
      have HG : Hid (xs.length + (g' + 1) = 4) := hg
      clear hkg hg hg0
      go_wp2_with (at_builtin; refine wpList_app1 Try.row_bytes rfl (.tmp 13) (.tmp 17) rfl rfl hown rfl rfl rfl (by omega) hb.size ?_; intro v1 w1 hown1 hb1 hg1)
      go_roundw
      case rel => exact ⟨k / 128, xs ++ [bt (128 + k % 128)], g', by omega, by go_num, by simpa [byteVals_snoc, bt_toNat (128 + k % 128) (by omega)] using hown1, hb.trans hb1, by have := HG.out; simp; omega, HK.out, by show _ = _; rw [HN.out, HF.out]; simp⟩
      case measure => simp [intOf]; omega
end Go.Proofs.Ytobngncjflogcaa
