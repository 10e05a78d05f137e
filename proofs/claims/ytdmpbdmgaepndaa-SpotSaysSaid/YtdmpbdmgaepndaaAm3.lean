/-
  The plain machine against the model: operations that touch no memory.
-/
import Derived.Test.YtdmpbdmgaepndaaAm2
set_option linter.unusedVariables false
set_option linter.unusedSimpArgs false
namespace Go.Proofs.Ytdmpbdmgaepndaa.AM
open Go
section
variable {P : Program} {C : Ctx} {F : Nat → Prop} {w : World} {a : Act} {s : S} {h : Hp} {K : V → Hp → Prop} {Q : Exit → Act → World → Prop} {o : Oper}

theorem snd_mov {x : Operand} {v : V} (ho : o.op = .move x ∨ o.op = .assign x) (hs : HSat C F h w) (hv : Rel F C.B w v (a.eval x)) (hK : K v h) : o.wp P a w (OpPost C F w a o.dst K) Q := by
  refine wp_pure hs ?_ hv hK
  rcases ho with ho | ho <;> generalize a.eval = ρ at * <;> simp [execOp, ho, go_sem]

theorem snd_pick {c x y : Operand} {t : Bool} {vx vy : V} (ho : o.op = .pick c x y) (hs : HSat C F h w) (hc : Rel F C.B w (.bool t) (a.eval c)) (hx : Rel F C.B w vx (a.eval x)) (hy : Rel F C.B w vy (a.eval y))
    (hK : K (if t then vx else vy) h) : o.wp P a w (OpPost C F w a o.dst K) Q := by
  generalize hec : a.eval c = uc at hc
  cases hc
  refine wp_pure (u := if t then a.eval x else a.eval y) hs ?_ ?_ hK
  · generalize a.eval = ρ at *
    simp [execOp, ho, hec, go_sem, asBool]
  · cases t
    · exact hy
    · exact hx

theorem snd_not {T : TypeId} {x : Operand} {b : Bool} (ho : o.op = .unOp .not T x) (hs : HSat C F h w) (hx : Rel F C.B w (.bool b) (a.eval x)) (hK : K (.bool !b) h) : o.wp P a w (OpPost C F w a o.dst K) Q := by
  generalize hec : a.eval x = uc at hx
  cases hx
  refine wp_pure (u := .bool !b) hs ?_ (.bool _) hK
  generalize a.eval = ρ at *
  simp [execOp, ho, hec, go_sem, Op.unary]

theorem snd_nilchk {x : Operand} {v : V} (ho : o.op = .nilCheck x) (hs : HSat C F h w) (hx : Rel F C.B w v (a.eval x)) (hv : (∃ k b sz i off, v = .ptr k b sz i off) ∨ (∃ t cs, v = .rp t cs)) (hK : K v h) : o.wp P a w (OpPost C F w a o.dst K) Q := by
  refine wp_pure (u := a.eval x) hs ?_ hx hK
  generalize hec : a.eval x = uc at hx
  rcases hv with ⟨k, b, sz, i, off, rfl⟩ | ⟨t, cs, rfl⟩ <;> cases hx <;> generalize a.eval = ρ at * <;> simp [execOp, ho, hec, go_sem]

theorem snd_ext {x : Operand} {i : Nat} {vs : List V} (ho : o.op = .extract x i) (hs : HSat C F h w) (hx : Rel F C.B w (.tup vs) (a.eval x)) (hi : i < vs.length) (hK : K (vs.getD i .junk) h) : o.wp P a w (OpPost C F w a o.dst K) Q := by
  generalize hec : a.eval x = uc at hx
  cases hx with
  | tup _ us hl hr =>
    have hi' : i < us.size := by omega
    refine wp_pure (u := us[i]) hs ?_ (hr i _ _ (by simp [List.getD_eq_getElem?_getD, hi]) (by simp [hi'])) hK
    generalize a.eval = ρ at *
    simp [execOp, ho, hec, go_sem, Instr.extract, hi']

theorem snd_conv {src dst : TypeId} {x : Operand} {k : IntKind} {kx : IntKind} {n : Int} {ks : IntKind} (ho : o.op = .convert src dst x) (h1 : P.underlying src = some (.int ks)) (h2 : P.underlying dst = some (.int k)) (hs : HSat C F h w)
    (hx : Rel F C.B w (.int kx n) (a.eval x)) (hK : K (.int k (k.wrap n)) h) : o.wp P a w (OpPost C F w a o.dst K) Q := by
  generalize hec : a.eval x = uc at hx
  cases hx
  refine wp_pure (u := .int k (k.wrap n)) hs ?_ (.int _ _) hK
  generalize a.eval = ρ at *
  simp [execOp, ho, hec, go_sem, convert, run_underlying h1, run_underlying h2, Conv.intToInt]

theorem snd_convs {src dst : TypeId} {x : Operand} {v : V} (ho : o.op = .convert src dst x) (h1 : P.underlying src = some .string) (h2 : P.underlying dst = some .string) (hs : HSat C F h w)
    (hx : Rel F C.B w v (a.eval x)) (hstr : ∃ l, v = .str l) (hK : K v h) : o.wp P a w (OpPost C F w a o.dst K) Q := by
  obtain ⟨l, rfl⟩ := hstr
  generalize hec : a.eval x = uc at hx
  cases hx
  refine wp_pure (u := .string ⟨l.toArray⟩) hs ?_ (.str _) hK
  generalize a.eval = ρ at *
  simp [execOp, ho, hec, go_sem, convert, run_underlying h1, run_underlying h2]

theorem wrap64 {n : Int} (h : I64 n) : IntKind.i64.wrap n = n := by
  unfold I64 at h
  simp only [IntKind.wrap, IntKind.bits, IntKind.signed]
  simp
  omega
theorem arith_ok {k : IntKind} {n : Int} {K : V → Prop} (h : arith k n K) : K (.int k (k.wrap n)) := by
  unfold arith at h
  split at h
  · rw [wrap64 h.1]; exact h.2
  · exact h
theorem wrap_id {k : IntKind} {n : Int} (h1 : k.min ≤ n) (h2 : n ≤ k.max) : k.wrap n = n := by
  cases k <;> simp [IntKind.min, IntKind.max, IntKind.wrap, IntKind.bits, IntKind.signed] at * <;> omega
end
end Go.Proofs.Ytdmpbdmgaepndaa.AM
