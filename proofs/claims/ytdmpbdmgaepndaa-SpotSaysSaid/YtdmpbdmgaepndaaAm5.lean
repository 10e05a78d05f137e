/-
  The plain machine against the model: lengths, indexes, pieces, places.
-/
import Derived.Test.YtdmpbdmgaepndaaAm4
set_option linter.unusedVariables false
set_option linter.unusedSimpArgs false
namespace Go.Proofs.Ytdmpbdmgaepndaa.AM
open Go
open Go.BigFrame
section
variable {P : Program} {C : Ctx} {F : Nat → Prop} {w : World} {a : Act} {s : S} {h : Hp} {K : V → Hp → Prop} {Q : Exit → Act → World → Prop} {o : Oper}

theorem size_str (l : List UInt8) : (⟨l.toArray⟩ : ByteArray).size = l.length := by simp [ByteArray.size]

theorem snd_call_of {c : Call} {u : Value} {v : V} {b : Builtin} (ho : o.op = .call c) (hb : c.callee = .builtin b) (hs : HSat C F h w)
    (hr : (builtin b c.argTypes o.type (c.args.map fun | .const _ => true | _ => false) (c.args.map a.eval)).run P w = .ok (.value u) w) (hv : Rel F C.B w v u) (hK : K v h) : o.wp P a w (OpPost C F w a o.dst K) Q := by
  refine wp_pure hs ?_ hv hK
  obtain ⟨callee, args, ats⟩ := c
  cases hb
  unfold execOp
  rw [ho]
  simp only [resolve, Sem.run_bind, Sem.run_pure, Result.andThen_ok, invoke]
  exact hr

theorem snd_call1 {c : Call} {x : Operand} {u ux : Value} {v : V} {b : Builtin} {T : TypeId} (ho : o.op = .call c) (hb : c.callee = .builtin b) (hx : c.args = #[x]) (hT : c.argTypes = #[T]) (hs : HSat C F h w) (he : a.eval x = ux)
    (hr : ∀ ty cs, (builtin b #[T] ty cs #[ux]).run P w = .ok (.value u) w) (hv : Rel F C.B w v u) (hK : K v h) : o.wp P a w (OpPost C F w a o.dst K) Q := by
  refine snd_call_of ho hb hs ?_ hv hK
  simp only [hx, hT, List.map_toArray, List.map_cons, List.map_nil, he]
  exact hr _ _

theorem run_len_str {T : TypeId} (hd : P.underlying T = some .string) (l : List UInt8) (ty : TypeId) (cs : Array Bool) : (builtin .len #[T] ty cs #[.string ⟨l.toArray⟩]).run P w = .ok (.value (.int .i64 l.length)) w := by
  rw [builtin_len]
  simp [Builtin.len_, Sem.run_bind, Sem.run_pure, run_underlying hd, goInt, size_str]
theorem run_len_sl {T e : TypeId} (hd : P.underlying T = some (.slice e)) (b : Option Addr) (n m : Nat) (ty : TypeId) (cs : Array Bool) : (builtin .len #[T] ty cs #[.slice b n m]).run P w = .ok (.value (.int .i64 n)) w := by
  rw [builtin_len]
  simp [Builtin.len_, Sem.run_bind, Sem.run_pure, run_underlying hd, goInt]

theorem snd_lens {c : Call} {x : Operand} {T : TypeId} {vx : V} (ho : o.op = .call c) (hb : c.callee = .builtin .len) (hx : c.args = #[x]) (hT : c.argTypes = #[T]) (hd : P.underlying T = some .string)
    (hs : HSat C F h w) (hv : Rel F C.B w vx (a.eval x)) (hK : lenV true vx fun v => K v h) : o.wp P a w (OpPost C F w a o.dst K) Q := by
  generalize hex : a.eval x = ux at hv
  cases hv
  case str l => exact snd_call1 ho hb hx hT hs hex (run_len_str hd l) (.int _ _) hK
  all_goals (simp [lenV] at hK)
theorem snd_lenl {c : Call} {x : Operand} {T e : TypeId} {vx : V} (ho : o.op = .call c) (hb : c.callee = .builtin .len) (hx : c.args = #[x]) (hT : c.argTypes = #[T]) (hd : P.underlying T = some (.slice e))
    (hs : HSat C F h w) (hv : Rel F C.B w vx (a.eval x)) (hK : lenV false vx fun v => K v h) : o.wp P a w (OpPost C F w a o.dst K) Q := by
  generalize hex : a.eval x = ux at hv
  cases hv
  case slnil t sz => exact snd_call1 ho hb hx hT hs hex (run_len_sl hd _ _ _) (.int _ _) hK
  case sl => exact snd_call1 ho hb hx hT hs hex (run_len_sl hd _ _ _) (.int _ _) hK
  case slemp => exact snd_call1 ho hb hx hT hs hex (run_len_sl hd _ _ _) (.int _ _) hK
  case nilsl => exact snd_call1 ho hb hx hT hs hex (run_len_sl hd _ _ _) (.int _ _) hK
  case ownnil => exact snd_call1 ho hb hx hT hs hex (run_len_sl hd _ _ _) (.int _ _) hK
  case own => exact snd_call1 ho hb hx hT hs hex (run_len_sl hd _ _ _) (.int _ _) hK
  all_goals (simp [lenV] at hK)

theorem run_mm (mx : Bool) (k : IntKind) (m n : Int) (ats : Array TypeId) (ty : TypeId) (cs : Array Bool) :
    (builtin (if mx then .max else .min) ats ty cs #[.int k m, .int k n]).run P w = .ok (.value (.int k (if mx then max m n else min m n))) w := by
  cases mx
  · have e : (if n < m then n else m) = min m n := by simp only [Int.min_def]; split <;> split <;> omega
    simp [builtin_min, Builtin.min_, Builtin.min2, Sem.run_bind, Sem.run_pure, e]
  · have e : (if n > m then n else m) = max m n := by simp only [Int.max_def]; split <;> split <;> omega
    simp [builtin_max, Builtin.max_, Builtin.max2, Sem.run_bind, Sem.run_pure, ← e]

theorem snd_mm {c : Call} {x y : Operand} {mx : Bool} {k : IntKind} {m n : Int} (ho : o.op = .call c) (hb : c.callee = .builtin (if mx then .max else .min)) (hx : c.args = #[x, y]) (hs : HSat C F h w)
    (h1 : Rel F C.B w (.int k m) (a.eval x)) (h2 : Rel F C.B w (.int k n) (a.eval y)) (hK : K (.int k (if mx then max m n else min m n)) h) : o.wp P a w (OpPost C F w a o.dst K) Q := by
  generalize hex : a.eval x = ux at h1
  generalize hey : a.eval y = uy at h2
  cases h1
  cases h2
  refine snd_call_of ho hb hs ?_ (.int _ _) hK
  simp only [hx, List.map_toArray, List.map_cons, List.map_nil, hex, hey]
  exact run_mm mx k m n _ _ _

theorem snd_ixs {T : TypeId} {x y : Operand} {l : List UInt8} {k : IntKind} {i : Int} (ho : o.op = .index T x y) (hd : P.underlying T = some .string) (hs : HSat C F h w) (h1 : Rel F C.B w (.str l) (a.eval x)) (h2 : Rel F C.B w (.int k i) (a.eval y))
    (hi : 0 ≤ i) (hl : i < l.length) (hK : K (.int .u8 (l.getD i.toNat 0).toNat) h) : o.wp P a w (OpPost C F w a o.dst K) Q := by
  generalize hex : a.eval x = ux at h1
  generalize hey : a.eval y = uy at h2
  cases h1
  cases h2
  refine wp_pure (u := .int .u8 (l.getD i.toNat 0).toNat) hs ?_ (.int _ _) hK
  generalize a.eval = ρ at *
  have hlt : i.toNat < l.length := by omega
  have e : (⟨l.toArray⟩ : ByteArray)[i.toNat]? = some (l.getD i.toNat 0) := by
    rw [getElem?_pos _ _ (by rw [size_str]; exact hlt)]
    simp [List.getD_eq_getElem?_getD, hlt, ByteArray.getElem_eq_getElem_data]
  simp [execOp, ho, hex, hey, Sem.run_bind, Sem.run_pure, Instr.index, run_underlying hd, asIntOf, hi, e]

theorem isAgg_run {T : TypeId} {b : Bool} (hb : isAggT P T = some b) : (isAgg T).run P w = .ok b w := by
  unfold isAggT at hb
  cases hu : P.underlying T with
  | none => rw [hu] at hb; simp at hb
  | some d =>
    rw [hu] at hb
    cases d <;> simp at hb <;> subst hb <;> simp [isAgg, Sem.run_bind, Sem.run_pure, run_underlying hu]
theorem sizeOf_run {T : TypeId} {n : Nat} (hn : szT P T = some n) : (sizeOf T).run P w = .ok n w := by
  simp only [szT, Option.map_eq_some_iff] at hn
  obtain ⟨i, hi, rfl⟩ := hn
  simp [sizeOf, typeInfo, program, Sem.run_bind, Sem.run_pure, Sem.run, hi]

theorem snd_fldn {T : TypeId} {x : Operand} {j n : Nat} {fs : Array Field} {f : Field} {cs : List V} (ho : o.op = .field T x j) (hd : P.underlying T = some (.struct fs)) (hf : fs[j]? = some f) (hg : isAggT P f.type = some true) (hn : szT P f.type = some n)
    (hs : HSat C F h w) (hx : Rel F C.B w (.agg cs) (a.eval x)) (hl : f.offset + n ≤ cs.length) (hK : K (.agg ((cs.drop f.offset).take n)) h) : o.wp P a w (OpPost C F w a o.dst K) Q := by
  generalize hex : a.eval x = ux at hx
  cases hx with
  | agg _ us hsz hr =>
    refine wp_pure (u := .agg (us.extract f.offset (f.offset + n))) hs ?_ (.agg _ _ (by simp; omega) fun i v u hv hu => ?_) hK
    · generalize a.eval = ρ at *
      simp [execOp, ho, hex, Sem.run_bind, Sem.run_pure, Instr.field, run_underlying hd, hf, part, asAgg, isAgg_run hg, sizeOf_run hn]
    · simp only [List.getElem?_take, List.getElem?_drop] at hv
      split at hv
      · refine hr _ v u hv ?_
        simp only [Array.getElem?_extract] at hu
        split at hu
        · exact hu
        · simp at hu
      · simp at hv
theorem snd_fld1 {T : TypeId} {x : Operand} {j : Nat} {fs : Array Field} {f : Field} {cs : List V} (ho : o.op = .field T x j) (hd : P.underlying T = some (.struct fs)) (hf : fs[j]? = some f) (hg : isAggT P f.type = some false)
    (hs : HSat C F h w) (hx : Rel F C.B w (.agg cs) (a.eval x)) (hl : f.offset < cs.length) (hK : K (cs.getD f.offset .junk) h) : o.wp P a w (OpPost C F w a o.dst K) Q := by
  generalize hex : a.eval x = ux at hx
  cases hx with
  | agg _ us hsz hr =>
    have hl' : f.offset < us.size := by omega
    refine wp_pure (u := us[f.offset]) hs ?_ (hr f.offset _ _ (by simp [List.getD_eq_getElem?_getD, hl]) (by simp [hl'])) hK
    generalize a.eval = ρ at *
    simp [execOp, ho, hex, Sem.run_bind, Sem.run_pure, Instr.field, run_underlying hd, hf, part, asAgg, isAgg_run hg, hl']

theorem add_off {b off n : Nat} : (⟨b, off, none⟩ : Addr).add n = ⟨b, off + n, none⟩ := by
  unfold Addr.add
  split
  · subst_vars; rfl
  · rfl

theorem snd_faddr {T : TypeId} {x : Operand} {j n : Nat} {fs : Array Field} {f : Field} {u : Value} {v : V} {b off : Nat} (ho : o.op = .fieldAddr T x j) (hd : P.underlying T = some (.struct fs)) (hf : fs[j]? = some f) (hn : szT P f.type = some n) (hn0 : n ≠ 0)
    (hs : HSat C F h w) (hx : a.eval x = .pointer (some ⟨b, off, none⟩)) (hv : Rel F C.B w v (.pointer (some ⟨b, off + f.offset, none⟩))) (hK : K v h) : o.wp P a w (OpPost C F w a o.dst K) Q := by
  refine wp_pure hs ?_ hv hK
  generalize a.eval = ρ at *
  simp [execOp, ho, hx, Sem.run_bind, Sem.run_pure, Instr.fieldAt, run_underlying hd, hf, Instr.sureAddr, fieldPlace, sizeOf_run hn, hn0, add_off]

theorem snd_iaddr {T e : TypeId} {x y : Operand} {n : Nat} {v : V} {k : IntKind} {i : Int} {b off len cap : Nat} (ho : o.op = .indexAddr T x y) (hd : P.underlying T = some (.slice e)) (hn : szT P e = some n)
    (hs : HSat C F h w) (hx : a.eval x = .slice (some ⟨b, off, none⟩) len cap) (hy : a.eval y = .int k i) (h0 : 0 ≤ i) (hl : i < len) (hv : Rel F C.B w v (.pointer (some ⟨b, off + i.toNat * n, none⟩))) (hK : K v h) : o.wp P a w (OpPost C F w a o.dst K) Q := by
  refine wp_pure hs ?_ hv hK
  generalize a.eval = ρ at *
  simp [execOp, ho, hx, hy, Sem.run_bind, Sem.run_pure, Instr.indexAt, run_underlying hd, asIntOf, h0, hl, sizeOf_run hn, add_off]

theorem snd_iarr {T e : TypeId} {x y : Operand} {n : Nat} {v : V} {k : IntKind} {i : Int} {b off len : Nat} (ho : o.op = .indexAddr T x y) (hd : P.underlying T = some (.array len e)) (hn : szT P e = some n)
    (hs : HSat C F h w) (hx : a.eval x = .pointer (some ⟨b, off, none⟩)) (hy : a.eval y = .int k i) (h0 : 0 ≤ i) (hl : i < len) (hv : Rel F C.B w v (.pointer (some ⟨b, off + i.toNat * n, none⟩))) (hK : K v h) : o.wp P a w (OpPost C F w a o.dst K) Q := by
  refine wp_pure hs ?_ hv hK
  generalize a.eval = ρ at *
  simp [execOp, ho, hx, hy, Sem.run_bind, Sem.run_pure, Instr.indexAt, run_underlying hd, Instr.sureAddr, asIntOf, h0, hl, sizeOf_run hn, add_off]

theorem run_bound {k : IntKind} {i : Int} {y : Nat} {c : BoundsCode} (h0 : 0 ≤ i) (h1 : i ≤ y) : (Instr.sliceBound (.int k i) y c).run P w = .ok i.toNat w := by
  simp [Instr.sliceBound, Sem.run_bind, Sem.run_pure, asIntOf, h0, h1]

/-- the bounds of a slice expression, of values -/
theorem run_bounds {isS : Bool} {len cap : Nat} {lo hi : Option Value} {l r : Int} (hl : (lo = none ∧ l = 0) ∨ ∃ k, lo = some (.int k l)) (hh : (hi = none ∧ r = len) ∨ ∃ k, hi = some (.int k r)) (h0 : 0 ≤ l) (h1 : l ≤ r) (h2 : r ≤ len) (hc : len ≤ cap) :
    (Instr.sliceBounds isS len cap lo hi none).run P w = .ok (l.toNat, r.toNat, cap) w := by
  have h0' : 0 ≤ r := by omega
  have h2' : r ≤ cap := by omega
  have h1' : l ≤ (r.toNat : Int) := by omega
  rcases hl with ⟨rfl, rfl⟩ | ⟨k, rfl⟩ <;> rcases hh with ⟨rfl, rfl⟩ | ⟨k', rfl⟩
  · simp [Instr.sliceBounds, Sem.run_bind, Sem.run_pure]
  · simp [Instr.sliceBounds, Sem.run_bind, Sem.run_pure, run_bound h0' h2']
  · simp [Instr.sliceBounds, Sem.run_bind, Sem.run_pure, run_bound (y := len) h0 h1]
  · simp [Instr.sliceBounds, Sem.run_bind, Sem.run_pure, run_bound h0' h2', run_bound h0 h1']

theorem lo_rel {lo : Option Operand} {lo' : Option Opd} {l : Int} {Kk : Int → Prop} (ht : trXo lo = some lo') (hr : ∀ i : Nat, Rel F C.B w (s.t i) (a.tmps.getD i undef)) (h : loV (lo'.map (Opd.ev s)) Kk) :
    ∃ l, Kk l ∧ ((lo.map a.eval = none ∧ l = 0) ∨ ∃ k, lo.map a.eval = some (.int k l)) := by
  cases lo with
  | none => simp [trXo] at ht; subst ht; exact ⟨0, h, .inl ⟨rfl, rfl⟩⟩
  | some x =>
    simp only [trXo, Option.map_eq_some_iff] at ht
    obtain ⟨y, hy, rfl⟩ := ht
    have hrel := ev_rel hr hy
    simp only [Option.map_some] at h
    generalize Opd.ev s y = vy at h hrel
    generalize hex : a.eval x = ux at hrel
    cases hrel <;> simp only [loV] at h
    case int k n => exact ⟨n, h, .inr ⟨k, by simp [hex]⟩⟩
    all_goals exact h.elim
theorem hi_rel {hi : Option Operand} {hi' : Option Opd} {len : Nat} {Kk : Int → Prop} (ht : trXo hi = some hi') (hr : ∀ i : Nat, Rel F C.B w (s.t i) (a.tmps.getD i undef)) (h : hiV (hi'.map (Opd.ev s)) len Kk) :
    ∃ l, Kk l ∧ ((hi.map a.eval = none ∧ l = len) ∨ ∃ k, hi.map a.eval = some (.int k l)) := by
  cases hi with
  | none => simp [trXo] at ht; subst ht; exact ⟨len, h, .inl ⟨rfl, rfl⟩⟩
  | some x =>
    simp only [trXo, Option.map_eq_some_iff] at ht
    obtain ⟨y, hy, rfl⟩ := ht
    have hrel := ev_rel hr hy
    simp only [Option.map_some] at h
    generalize Opd.ev s y = vy at h hrel
    generalize hex : a.eval x = ux at hrel
    cases hrel <;> simp only [hiV] at h
    case int k n => exact ⟨n, h, .inr ⟨k, by simp [hex]⟩⟩
    all_goals exact h.elim

theorem snd_slstr {T : TypeId} {x : Operand} {lo hi : Option Operand} {l : List UInt8} {p q : Int} (ho : o.op = .slice T x lo hi none) (hd : P.underlying T = some .string) (hs : HSat C F h w) (hx : Rel F C.B w (.str l) (a.eval x))
    (hlo : (lo.map a.eval = none ∧ p = 0) ∨ ∃ k, lo.map a.eval = some (.int k p)) (hhi : (hi.map a.eval = none ∧ q = l.length) ∨ ∃ k, hi.map a.eval = some (.int k q)) (h0 : 0 ≤ p) (h1 : p ≤ q) (h2 : q ≤ l.length)
    (hK : K (.str ((l.take q.toNat).drop p.toNat)) h) : o.wp P a w (OpPost C F w a o.dst K) Q := by
  generalize hex : a.eval x = ux at hx
  cases hx
  refine wp_pure (u := .string ⟨((l.take q.toNat).drop p.toNat).toArray⟩) hs ?_ (.str _) hK
  generalize a.eval = ρ at *
  have e : (⟨l.toArray⟩ : ByteArray).extract p.toNat q.toNat = ⟨((l.take q.toNat).drop p.toNat).toArray⟩ := by
    apply ByteArray.ext
    apply Array.ext'
    simp [ByteArray.data_extract, List.drop_take]
  have hb := run_bounds (P := P) (w := w) (isS := false) (len := l.length) (cap := l.length) hlo hhi h0 h1 h2 (Nat.le_refl _)
  simp [execOp, ho, hex, Sem.run_bind, Sem.run_pure, Instr.sliceAt, run_underlying hd, Instr.slice, size_str, hb, e]

theorem snd_slsl {T e : TypeId} {x : Operand} {lo hi : Option Operand} {n : Nat} {t : Bool} {rows : List (List V)} {p q : Int} (ho : o.op = .slice T x lo hi none) (hd : P.underlying T = some (.slice e)) (hn : szT P e = some n) (hs : HSat C F h w) (hx : Rel F C.B w (.sl t n rows) (a.eval x))
    (hlo : (lo.map a.eval = none ∧ p = 0) ∨ ∃ k, lo.map a.eval = some (.int k p)) (hhi : (hi.map a.eval = none ∧ q = rows.length) ∨ ∃ k, hi.map a.eval = some (.int k q)) (h0 : 0 ≤ p) (h1 : p ≤ q) (h2 : q ≤ rows.length)
    (hK : K (.sl t n ((rows.take q.toNat).drop p.toNat)) h) : o.wp P a w (OpPost C F w a o.dst K) Q := by
  generalize hex : a.eval x = ux at hx
  cases hx with
  | slnil t sz =>
    have hp : p = 0 := by simp at h2; omega
    have hq : q = 0 := by simp at h2; omega
    subst hp hq
    simp only [List.take_nil, List.drop_nil] at hK
    refine wp_pure (u := .slice none 0 0) hs ?_ (.slnil _ _) hK
    generalize a.eval = ρ at *
    have hb := run_bounds (P := P) (w := w) (isS := true) (len := 0) (cap := 0) hlo hhi h0 h1 (by omega) (Nat.le_refl _)
    simp [execOp, ho, hex, Sem.run_bind, Sem.run_pure, Instr.sliceAt, run_underlying hd, Instr.slice, hb, sizeOf_run hn]
  | slemp t sz ad cap =>
    have hp : p = 0 := by simp at h2; omega
    have hq : q = 0 := by simp at h2; omega
    subst hp hq
    simp only [List.take_nil, List.drop_nil] at hK
    refine wp_pure (u := .slice (some ad) 0 cap) hs ?_ (.slemp _ _ _ _) hK
    generalize a.eval = ρ at *
    have hb := run_bounds (P := P) (w := w) (isS := true) (len := 0) (cap := cap) hlo hhi h0 h1 (by omega) (Nat.zero_le _)
    have h00 : ad.add 0 = ad := by simp [Addr.add]
    by_cases hcz : cap = 0 <;> simp [execOp, ho, hex, Sem.run_bind, Sem.run_pure, Instr.sliceAt, run_underlying hd, Instr.slice, hb, sizeOf_run hn, h00]
  | sl _ _ _ b off cap us hF hcap hsz hc hr =>
    have hb := run_bounds (P := P) (w := w) (isS := true) (len := rows.length) (cap := cap) hlo hhi h0 h1 h2 hcap
    have hlen : ((rows.take q.toNat).drop p.toNat).length = q.toNat - p.toNat := by simp; omega
    by_cases hm : cap = p.toNat
    · refine wp_pure (u := .slice (some ⟨b, off, none⟩) (q.toNat - p.toNat) (cap - p.toNat)) hs ?_ ?_ hK
      · generalize a.eval = ρ at *
        simp [execOp, ho, hex, Sem.run_bind, Sem.run_pure, Instr.sliceAt, run_underlying hd, Instr.slice, hb, sizeOf_run hn]
        simp [hm]
      · have e0 : (rows.take q.toNat).drop p.toNat = [] := by apply List.eq_nil_of_length_eq_zero; rw [hlen]; omega
        have := Rel.sl (F := F) (B := C.B) (w := w) t n [] b off (cap - p.toNat) us hF (by simp) (by simp) (by simp) (by simp)
        rw [e0]
        have e1 : q.toNat - p.toNat = 0 := by omega
        rw [e1]
        exact this
    · refine wp_pure (u := .slice (some ⟨b, off + p.toNat * n, none⟩) (q.toNat - p.toNat) (cap - p.toNat)) hs ?_ ?_ hK
      · generalize a.eval = ρ at *
        simp [execOp, ho, hex, Sem.run_bind, Sem.run_pure, Instr.sliceAt, run_underlying hd, Instr.slice, hb, sizeOf_run hn]
        simp [hm, add_off]
      · rw [← hlen]
        refine Rel.sl t n _ b (off + p.toNat * n) (cap - p.toNat) (fun i j => us (p.toNat + i) j) hF (by rw [hlen]; omega) (fun r hr' => hsz r (List.mem_of_mem_take (List.mem_of_mem_drop hr'))) (fun i j r v hi hj => ?_) (fun i j r v hi hj => ?_)
        · rw [List.getElem?_drop, List.getElem?_take] at hi
          split at hi
          · have := hc (p.toNat + i) j r v hi hj
            rw [show off + p.toNat * n + (i * n + j) = off + ((p.toNat + i) * n + j) by rw [Nat.add_mul]; omega]
            exact this
          · simp at hi
        · rw [List.getElem?_drop, List.getElem?_take] at hi
          split at hi
          · exact hr (p.toNat + i) j r v hi hj
          · simp at hi
end
end Go.Proofs.Ytdmpbdmgaepndaa.AM
