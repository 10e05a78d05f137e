/-
  The plain machine against the model: bytes as a text, a part of an array.
-/
import Derived.Test.YtdmpbdmgaepndaaAmS
import Derived.Laws.IdiomStrings
set_option linter.unusedVariables false
set_option linter.unusedSimpArgs false
namespace Go.Proofs.Ytdmpbdmgaepndaa.AM
open Go
open Go.BigFrame
section
variable {P : Program} {C : Ctx} {F : Nat → Prop} {w w' : World} {a : Act} {s : S} {h : Hp} {K : V → Hp → Prop} {Q : Exit → Act → World → Prop} {o : Oper}

theorem snd_convbs {src dst e : TypeId} {x : Operand} {vx : V} {l : List UInt8} (ho : o.op = .convert src dst x) (h1 : P.underlying src = some (.slice e)) (he : P.underlying e = some (.int .u8)) (h2 : P.underlying dst = some .string) (hs : HSat C F h w)
    (hx : Rel F C.B w vx (a.eval x)) (hr : rowsOf h 1 vx = some (l.map fun b => [V.int .u8 b.toNat])) (hK : K (.str l) h) : o.wp P a w (OpPost C F w a o.dst K) Q := by
  refine wp_pure (u := .string ⟨l.toArray⟩) hs ?_ (.str l) hK
  have hrun : (convert src dst (a.eval x)).run P w = .ok (.string ⟨l.toArray⟩) w := by
    rcases rows_flat hs hx hr with ⟨h0, hu⟩ | ⟨ad, cap, us, hu, hfl, hmem⟩
    · have hl : l = [] := by simpa using h0
      subst hl
      rw [hu, run_convert_bytes_string w src dst e none 0 0 h1 he h2]
      rfl
    · rw [hu]
      have := run_convert_bytes_back w src dst e ad cap l h1 he h2 (fun j hj => ?_)
      · simpa using this
      · obtain ⟨u, hu1, hu2⟩ := hfl.rel j 0 [V.int .u8 (l[j].toNat : Nat)] (V.int .u8 (l[j].toNat : Nat)) (by simp [hj]) rfl
        rw [Nat.mul_one, Nat.add_zero] at hu1
        rw [hmem j u hu1]
        cases hu2
        rfl
  unfold execOp
  rw [ho]
  generalize a.eval = ρ at *
  simp only [Sem.run_bind, hrun, Result.andThen_ok, Sem.run_pure]

theorem snd_ixa {T e : TypeId} {x y : Operand} {cs : List V} {k : IntKind} {i : Int} {g : Bool} {len sz : Nat} (ho : o.op = .index T x y) (hd : P.underlying T = some (.array len e)) (hg : isAggT P e = some g) (hn : szT P e = some sz) (hs : HSat C F h w)
    (hx : Rel F C.B w (.agg cs) (a.eval x)) (hy : Rel F C.B w (.int k i) (a.eval y)) (h0 : 0 ≤ i) (h1 : i < len) (hl : len * sz ≤ cs.length) (hsz : 0 < sz) (hK : K (if g then .agg ((cs.drop (i.toNat * sz)).take sz) else cs.getD (i.toNat * sz) .junk) h) : o.wp P a w (OpPost C F w a o.dst K) Q := by
  generalize hex : a.eval x = ux at hx
  generalize hey : a.eval y = uy at hy
  cases hy
  cases hx with
  | agg _ us hus hr =>
    have hle : i.toNat * sz + sz ≤ cs.length := by
      have : (i.toNat + 1) * sz ≤ len * sz := Nat.mul_le_mul_right _ (by omega)
      rw [Nat.add_mul, Nat.one_mul] at this
      omega
    cases g with
    | true =>
      refine wp_pure (u := .agg (us.extract (i.toNat * sz) (i.toNat * sz + sz))) hs ?_ (.agg _ _ (by simp; omega) fun j v u hv hu => ?_) hK
      · generalize a.eval = ρ at *
        simp [execOp, ho, hex, hey, Sem.run_bind, Sem.run_pure, Instr.index, asIntOf, run_underlying hd, part, isAgg_run hg, sizeOf_run hn, h0, h1]
      · simp only [List.getElem?_take, List.getElem?_drop] at hv
        split at hv
        · refine hr _ v u hv ?_
          simp only [Array.getElem?_extract] at hu
          split at hu
          · exact hu
          · simp at hu
        · simp at hv
    | false =>
      have hl' : i.toNat * sz < us.size := by omega
      refine wp_pure (u := us[i.toNat * sz]) hs ?_ (hr (i.toNat * sz) _ _ (by simp [List.getD_eq_getElem?_getD, show i.toNat * sz < cs.length by omega]) (by simp [hl'])) hK
      generalize a.eval = ρ at *
      simp [execOp, ho, hex, hey, Sem.run_bind, Sem.run_pure, Instr.index, asIntOf, run_underlying hd, part, isAgg_run hg, sizeOf_run hn, h0, h1, hl']
end
end Go.Proofs.Ytdmpbdmgaepndaa.AM
