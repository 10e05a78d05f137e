/-
  apply.Do: the walk.
-/
import Derived.Test.YtobngncjflogcaaMBld
import Derived.Test.YtobngncjflogcaaMFits
import Derived.Test.YtobngncjflogcaaBC
import Derived.BigQuiet
import Derived.Lib.Hide
set_option linter.unusedVariables false
set_option linter.unusedSimpArgs false
namespace Go.Proofs.Ytobngncjflogcaa.Bld
open Go Go.RowKit AM
theorem own_keep' {w w' : World} {base n B : Nat} {e : TypeId} {size : Nat} {v : Value} {xs : List Value} (h : w.ownsRow base e size v n xs) (hb : Below B w w') (hB : w.heap.size ≤ B) : w'.ownsRow base e size v n xs := by
  refine ⟨h.1, ?_⟩
  rcases h.2 with hn | ⟨g, cap, cur, rfl, hbg, hh, rest⟩
  · exact .inl hn
  · exact .inr ⟨g, cap, cur, rfl, hbg, (hb.block g (Nat.lt_of_lt_of_le (Array.getElem?_eq_some_iff.1 hh).1 hB)).trans hh, rest⟩
theorem at_keep {B b : Nat} {p : Value} {bs : List Value} {w w' : World} (h : Lib.BuilderAt T E B b p bs w) (hb : Below w.heap.size w w') : Lib.BuilderAt T E B b p bs w' := by
  have hlt := h.lt
  obtain ⟨hB, v, hbk, hown, hne⟩ := h
  exact ⟨hB, v, (hb.block b hlt).trans hbk, own_keep' hown hb (Nat.le_refl _), hne⟩
theorem is_keep {B b : Nat} {bs : List Value} {w w' : World} (h : Lib.IsBuilder T E B b bs w) (hb : Below w.heap.size w w') : Lib.IsBuilder T E B b bs w' :=
  h.elim (fun h => .inl (at_keep h hb)) fun h => .inr (at_keep h hb)
theorem is_lt {B b : Nat} {bs : List Value} {w : World} (h : Lib.IsBuilder T E B b bs w) : b < w.heap.size := h.elim (·.lt) (·.lt)
theorem doT_keep (n : Nat) (ts : List Tok) (s : List UInt8) : doT (List.replicate n .keep ++ ts) s = s.take n ++ doT ts (s.drop n) := by
  induction n generalizing s with
  | zero => simp
  | succ n ih =>
    simp only [List.replicate_succ, List.cons_append, doT, ih, List.drop_drop]
    rw [← List.append_assoc, show n + 1 = 1 + n by omega, List.take_add]
theorem doT_cut (n : Nat) (ts : List Tok) (s : List UInt8) : doT (List.replicate n .cut ++ ts) s = doT ts (s.drop n) := by
  induction n generalizing s with
  | zero => simp
  | succ n ih => simp only [List.replicate_succ, List.cons_append, doT, ih, List.drop_drop]; rw [show n + 1 = 1 + n by omega]
theorem doT_put (t : List UInt8) (ts : List Tok) (s : List UInt8) : doT (t.map .put ++ ts) s = t ++ doT ts s := by
  induction t with
  | nil => simp
  | cons b t ih => simp [doT, ih]
theorem bytes_app (a : List UInt8) (x : ByteArray) : Lib.byteCells a ++ Lib.strCells x = Lib.byteCells (a ++ x.data.toList) := by simp [Lib.byteCells, Lib.strCells]
theorem ex_list (x : ByteArray) (a b : Nat) : (x.extract a b).data.toList = (x.data.toList.take b).drop a := by
  rw [ByteArray.data_extract, Array.toList_extract, List.extract_eq_take_drop, List.drop_take]
theorem ex_size (x : ByteArray) (a b : Nat) : (x.extract a b).size = min b x.size - a := by
  show (x.extract a b).data.size = _
  rw [ByteArray.data_extract, Array.size_extract]; rfl
/-- a slice of parts in memory -/
def PartsAt (w : World) (oa : Option Addr) (d : List Part) : Prop := ∀ (i : Nat) (p : Part), d[i]? = some p → ∃ b off, oa = some ⟨b, off, none⟩ ∧ b < w.heap.size ∧
  w.cell? ⟨b, off + (i * 3), none⟩ = some (.int .i64 p.kind) ∧ w.cell? ⟨b, off + (i * 3 + 1), none⟩ = some (.int .i64 p.n) ∧ w.cell? ⟨b, off + (i * 3 + 2), none⟩ = some (.string ⟨p.text.toArray⟩)
set_option maxRecDepth 100000 in
set_option maxHeartbeats 4000000 in
theorem do_bad (n c : Nat) (s : ByteArray) (oa : Option Addr) (W : World) (f : Int) (hf : f ≠ 0) (hfits : Calls Try.prog 54 #[.slice oa n c, .int .i64 s.size] W fun e w' => e = .returned (.int .i64 f) ∧ Below W.heap.size W w') :
    Calls Try.prog 16 #[.slice oa n c, .string s] W fun e w' => e = .returned (.tuple #[.string ⟨#[]⟩, .int .i64 f]) ∧ Below W.heap.size W w' := by
  go_enter Try.func16, Try.ntmps16
  go_wp2_with fail
  refine hfits.mono ?_
  rintro e w1 ⟨rfl, hb1⟩
  go_wp2_with fail
  go_ret2
  exact ⟨rfl, hb1⟩
set_option maxRecDepth 100000 in
set_option maxHeartbeats 4000000 in
theorem do_ok (d : List Part) (c : Nat) (s : ByteArray) (oa : Option Addr) (W : World) (hd : d.length ≤ 1600) (hat : PartsAt W oa d) (hok : ∀ p ∈ d, okP p) (hin : inF d = (s.size : Int)) (hs : s.size ≤ 500) (hout : outF d ≤ 500)
    (hfits : Calls Try.prog 54 #[.slice oa d.length c, .int .i64 s.size] W fun e w' => e = .returned (.int .i64 0) ∧ Below W.heap.size W w') :
    Calls Try.prog 16 #[.slice oa d.length c, .string s] W fun e w' => e = .returned (.tuple #[.string ⟨(doT (toks d) s.data.toList).toArray⟩, .int .i64 0]) ∧ Below W.heap.size W w' := by
  have HD : Hid (doT (toks d) s.data.toList = [] ++ doT (toks d) s.data.toList) := Lib.hid rfl
  go_enter Try.func16, Try.ntmps16
  go_wp2_with fail
  refine hfits.mono ?_
  rintro e w1 ⟨rfl, hb1⟩
  clear hfits
  go_wp2_with fail
  go_loopw [1, 19] (fun sv kv wr => ∃ (pre rest : List Part) (s' : ByteArray) (out : List UInt8), sv = .string s' ∧ kv = .int .i64 pre.length ∧ d = pre ++ rest ∧ inF rest = s'.size ∧ s'.size ≤ 500 ∧ (out.length : Int) + outF rest = outF d ∧ Lib.IsBuilder T E W.heap.size w1.heap.size (Lib.byteCells out) wr ∧ Below W.heap.size W wr ∧ Hid (doT (toks d) s.data.toList = out ++ doT (toks rest) s'.data.toList)) (fun _ kv _ => d.length - (intOf kv).toNat)
  case atStart => exact ⟨[], d, s, [], rfl, rfl, rfl, hin, hs, by show ((0 : Nat) : Int) + _ = _; omega, .inl ⟨hb1.size, .slice none 0 0, heap_alloc_new w1 _, World.ownsRow_nil _ _ _ _, by simp [Value.ownBlock]⟩, hb1.alloc hb1.size _, HD⟩
  case round =>
    obtain ⟨pre, rest, s', out, rfl, rfl, hd', hin', hs', hout', hib, hb, HN⟩ := hrel
    rcases rest with _ | ⟨p, rest⟩
    · have hpl : pre.length = d.length := by rw [hd']; simp
      have hstr := Try.Builder_String_any W.heap.size w1.heap.size out wr hib hb.size
      rw [hpl]
      have HN2 : Hid (doT (toks d) s.data.toList = out) := by show _ = _; rw [HN.out]; simp [toks, doT]
      clear hd' hin' hout' HN hat hok hin hout HD hib
      go_wp2_with fail
      refine hstr.mono ?_
      rintro e w2 ⟨rfl, hb2⟩
      go_wp2_with fail
      go_ret2
      exact ⟨by rw [HN2.out]; rfl, hb.trans hb2⟩
    · have hpl : pre.length < d.length := by rw [hd']; simp
      obtain ⟨b, off, rfl, hblt, q0, q1, q2⟩ := hat pre.length p (by rw [hd']; simp)
      have r0 : wr.cell? ⟨b, off + pre.length * 3, none⟩ = some (.int .i64 p.kind) := by rw [hb.cell (p := ⟨b, _, none⟩) hblt]; exact q0
      have r1 : wr.cell? ⟨b, off + pre.length * 3 + 1, none⟩ = some (.int .i64 p.n) := by rw [hb.cell (p := ⟨b, _, none⟩) hblt]; exact q1
      have r2 : wr.cell? ⟨b, off + pre.length * 3 + 2, none⟩ = some (.string ⟨p.text.toArray⟩) := by rw [hb.cell (p := ⟨b, _, none⟩) hblt]; exact q2
      have hp := okP_bd (hok p (by rw [hd']; simp))
      have hokp := hok p (by rw [hd']; simp)
      clear q0 q1 q2 hat
      have hrest := inF_bd rest fun q hq => hok q (by rw [hd']; simp [hq])
      have hrest2 := outF_bd rest fun q hq => hok q (by rw [hd']; simp [hq])
      have HD' : Hid (d = (pre ++ [p]) ++ rest ∧ (pre ++ [p]).length = pre.length + 1) := by show _ ∧ _; rw [hd']; simp
      have HR : Hid (0 ≤ inF rest ∧ 0 ≤ outF rest) := ⟨hrest.1, hrest2.1⟩
      have HL : Hid (out.length ≤ 500) := by show _ ≤ _; have h := (outF_bd (p :: rest) fun q hq => hok q (by rw [hd']; exact List.mem_append_right _ hq)).1; omega
      clear hd' hok hin hout HD hrest hrest2
      obtain ⟨kd, n, t⟩ := p
      simp only [] at r0 r1 r2 hp
      simp only [inF, outF] at hin' hout'
      have hwr : W.heap.size ≤ wr.heap.size := hb.size
      have hbl := is_lt hib
      rcases hp.2.2.2 with ⟨rfl, rfl, hne⟩ | ⟨rfl | rfl, hn0, rfl⟩
      · rw [if_neg (by decide)] at hin' 
        rw [if_neg (by decide), if_neg (by decide)] at hout'
        have H1 : Hid (inF rest = (s'.size : Int) ∧ (out.length : Int) + (t.length + outF rest) = outF d ∧ t.length ≤ 500) := ⟨by omega, by omega, hp.2.2.1⟩
        have H2 : Hid (doT (toks d) s.data.toList = (out ++ t) ++ doT (toks rest) s'.data.toList) := by
          show _ = _
          rw [HN.out, show toks (⟨2, 0, t⟩ :: rest) = t.map .put ++ toks rest by simp [toks, toks1], doT_put]; simp
        clear hin' hout' hp HN hokp
        go_wp2_with fail
        refine (writeString W.heap.size w1.heap.size (Lib.byteCells out) ⟨t.toArray⟩ _ (is_keep hib (Below.alloc (Below.refl _ _) (Nat.le_refl _) _)) (by rw [Lib.byteCells_length]; have := H1.out.2.2; have := HL.out; show out.length + t.toArray.size ≤ _; rw [List.size_toArray]; omega) (by simp; omega)).mono ?_
        rintro e w2 ⟨rfl, hib2, hb2, hk2⟩
        have c1 := hb2.size
        go_wp2_with fail
        go_roundw
        case rel => exact ⟨pre ++ [⟨2, 0, t⟩], rest, s', out ++ t, rfl, by rw [HD'.out.2, Int.natCast_add]; rfl, HD'.out.1, H1.out.1, hs', by rw [List.length_append]; have := H1.out; omega, .inr (by rw [bytes_app] at hib2; simpa using hib2), (hb.alloc hb.size _).trans hb2, H2⟩
        case measure => simp [intOf]; omega
      · rw [if_pos (by decide)] at hin' 
        rw [if_pos rfl] at hout'
        have hns : n ≤ s'.size := by have := HR.out; omega
        have hn1 : 0 ≤ n := by omega
        have e1 : (n.toNat : Int) = n := by omega
        have H1 : Hid (inF rest = ((s'.extract n.toNat s'.size).size : Int) ∧ ((out ++ (s'.extract 0 n.toNat).data.toList).length : Int) + outF rest = outF d ∧ (s'.extract n.toNat s'.size).size ≤ 500 ∧ (s'.extract 0 n.toNat).size ≤ 500) := by
          show _ ∧ _ ∧ _ ∧ _
          have h1 : ((s'.extract 0 n.toNat).data.toList).length = n.toNat := by rw [Array.length_toList]; show (s'.extract 0 n.toNat).size = _; rw [ex_size]; omega
          rw [List.length_append, h1, ex_size, ex_size]
          have := HR.out
          refine ⟨by omega, by omega, by omega, by omega⟩
        have H2 : Hid (doT (toks d) s.data.toList = (out ++ (s'.extract 0 n.toNat).data.toList) ++ doT (toks rest) (s'.extract n.toNat s'.size).data.toList) := by
          show _ = _
          rw [HN.out, ex_list, ex_list, show toks (⟨1, n, []⟩ :: rest) = List.replicate n.toNat .keep ++ toks rest by simp [toks, toks1], doT_keep]
          have : (s'.data.toList.take s'.size) = s'.data.toList := List.take_of_length_le (by rw [Array.length_toList]; exact Nat.le_refl _)
          rw [this]; simp
        clear hin' hout' hp HN hokp
        go_wp2_with fail
        refine (writeString W.heap.size w1.heap.size (Lib.byteCells out) (s'.extract 0 n.toNat) _ (is_keep hib (Below.alloc (Below.refl _ _) (Nat.le_refl _) _)) (by rw [Lib.byteCells_length]; have := H1.out; have := HL.out; omega) (by simp; omega)).mono ?_
        rintro e w2 ⟨rfl, hib2, hb2, hk2⟩
        have q9 := hk2 wr.heap.size _ _ _ (by omega) (by decide) (heap_alloc_new wr _)
        have q91 : w2.cell? ⟨wr.heap.size, 1, none⟩ = some (.int .i64 n) := by rw [Lib.cell_of_heap q9]; rfl
        have c1 := hb2.size
        go_wp2_with fail
        go_roundw
        case rel => exact ⟨pre ++ [⟨1, n, []⟩], rest, s'.extract n.toNat s'.size, out ++ (s'.extract 0 n.toNat).data.toList, rfl, by rw [HD'.out.2, Int.natCast_add]; rfl, HD'.out.1, H1.out.1, H1.out.2.2.1, H1.out.2.1, .inr (by rw [bytes_app] at hib2; exact hib2), (hb.alloc hb.size _).trans hb2, H2⟩
        case measure => simp [intOf]; omega
      · rw [if_pos (by decide)] at hin' 
        rw [if_neg (by decide), if_pos (by decide)] at hout'
        have hns : n ≤ s'.size := by have := HR.out; omega
        have hn1 : 0 ≤ n := by omega
        have H1 : Hid (inF rest = ((s'.extract n.toNat s'.size).size : Int) ∧ (out.length : Int) + outF rest = outF d ∧ (s'.extract n.toNat s'.size).size ≤ 500) := by
          show _ ∧ _ ∧ _
          rw [ex_size]
          have := HR.out
          refine ⟨by omega, by omega, by omega⟩
        have H2 : Hid (doT (toks d) s.data.toList = out ++ doT (toks rest) (s'.extract n.toNat s'.size).data.toList) := by
          show _ = _
          rw [HN.out, ex_list, show toks (⟨3, n, []⟩ :: rest) = List.replicate n.toNat .cut ++ toks rest by simp [toks, toks1], doT_cut]
          have : (s'.data.toList.take s'.size) = s'.data.toList := List.take_of_length_le (by rw [Array.length_toList]; exact Nat.le_refl _)
          rw [this]
        clear hin' hout' hp HN hokp
        go_wp2_with fail
        go_roundw
        case rel => exact ⟨pre ++ [⟨3, n, []⟩], rest, s'.extract n.toNat s'.size, out, rfl, by rw [HD'.out.2, Int.natCast_add]; rfl, HD'.out.1, H1.out.1, H1.out.2.2, H1.out.2.1, is_keep hib (Below.alloc (Below.refl _ _) (Nat.le_refl _) _), hb.alloc hb.size _, H2⟩
        case measure => simp [intOf]; omega
end Go.Proofs.Ytobngncjflogcaa.Bld
