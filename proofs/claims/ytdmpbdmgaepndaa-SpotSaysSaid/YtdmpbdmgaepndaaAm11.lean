/-
  The plain machine against the model: make; and all operations together.
-/
import Derived.Test.YtdmpbdmgaepndaaAm10
set_option linter.unusedVariables false
set_option linter.unusedSimpArgs false
namespace Go.Proofs.Ytdmpbdmgaepndaa.AM
open Go
open Go.BigFrame
section
variable {P : Program} {C : Ctx} {F : Nat → Prop} {w w' : World} {a : Act} {s : S} {h : Hp} {K : V → Hp → Prop} {Q : Exit → Act → World → Prop} {o : Oper}

theorem snd_mkslice (hC : C.Ok) {T e : TypeId} {k : Nat} {x y : Operand} {i : TypeInfo} {z : List Value} {k1 k2 : IntKind} {n : Int} (ho : o.op = .makeSlice T x y) (hd : P.underlying T = some (.slice e)) (hi : P.info? e = some i) (hz : zeroT P e = some z)
    (hsz : i.size = z.length) (hpos : 0 < z.length) (hs : HSat C F h w) (h1 : Rel F C.B w (.int k1 n) (a.eval x)) (h2 : Rel F C.B w (.int k2 n) (a.eval y)) (hn : 0 ≤ n) (hone : z.all (fun u => u.oneCell') = true)
    (hby : n * i.bytes ≤ 140737488355328) (hn2 : n ≤ 140737488355328)
    (hK : ∀ β : Nat, K (.own k (some β) i.size n.toNat) (h.put k ⟨some β, e, i.size, List.replicate n.toNat (z.map vOf)⟩)) : o.wp P a w (OpPost C F w a o.dst K) Q := by
  obtain ⟨m, rfl⟩ : ∃ m : Nat, n = m := ⟨n.toNat, by omega⟩
  simp only [Int.toNat_natCast] at hK
  obtain ⟨zv, hzv, hzr⟩ := zero_run (P := P) (w := w) hz
  have hzs : zv.cells.size = i.size := by rw [hsz, ← hzv]; simp
  generalize hex : a.eval x = ux at h1
  generalize hey : a.eval y = uy at h2
  cases h1
  cases h2
  have hw : IntKind.i64.wrap (m : Int) = m := wrap64 (by unfold I64; omega)
  have hbn : m * i.bytes ≤ 140737488355328 := by
    have e : ((m * i.bytes : Nat) : Int) = (m : Int) * i.bytes := by rw [Int.natCast_mul]
    omega
  let zero : Array Value := if m * i.size = 0 then #[] else zv.cells
  let c' : Array Value := (Array.range (m * i.size)).map (zero[· % zero.size]!)
  have hheap := heap_alloc_new w (Obj.cells c' e)
  have hml : m ≤ maxLen := by simp only [maxLen]; omega
  have hc' : c'.size = m * i.size := by simp [c']
  have hti : (typeInfo e).run P w = .ok i w := by simp [typeInfo, program, Sem.run_bind, Sem.run_pure, Sem.run, hi]
  have hso : (sizeOf e).run P w = .ok i.size w := by simp [sizeOf, hti, Sem.run_bind, Sem.run_pure]
  refine wp_step hC (u := .slice (some ⟨w.heap.size, 0, none⟩) m m) (w' := w.alloc (.cells c' e)) (L := fun _ => False) hs ?_ (Ev.alloc _ _ _) (fun _ _ h => h.elim) (.own k w.heap.size i.size m m c' e (0, 0) hheap hc' hml (Nat.le_refl _))
    (show ObSat F C.B (w.alloc (.cells c' e)) ⟨some w.heap.size, e, i.size, List.replicate m (z.map vOf)⟩ from ⟨c', m, hheap, hc', hml, by simp, fun r hr' => ?_, fun ii j r v hii hj => ?_⟩) (fun b hb => .inl (by cases hb; exact Nat.le_refl _)) (hK w.heap.size)
  · have hroom : (askRoom (m * i.bytes)).run P w = .ok () w := by
      unfold askRoom roomBytes
      rw [if_neg (by omega)]
      rfl
    have hbig : ¬ ((i.bytes : Int) * (m : Int) > 2 ^ 48) := by
      have e : ((m * i.bytes : Nat) : Int) = (i.bytes : Int) * (m : Int) := by rw [Int.natCast_mul, Int.mul_comm]
      omega
    unfold execOp
    rw [ho]
    simp only [Instr.makeSlice, Sem.run_bind, run_underlying hd, Result.andThen_ok, hex, hey, asInt, asIntOf, Sem.run_pure, hti, hw]
    have hcond : ((((m : Int) < 0 || (i.bytes : Int) * (m : Int) > 2 ^ 48) || (m : Int) < 0 || (m : Int) > m) : Bool) = false := by
      simp [hbig]
      omega
    rw [hcond, if_neg (by decide)]
    simp only [Int.toNat_natCast, Sem.run_bind, hroom, Result.andThen_ok, hso]
    by_cases h0 : m * i.size = 0
    · have hz0 : zero = #[] := by simp [zero, h0]
      simp only [c', hz0, h0, ↓reduceIte, Sem.run_bind, Sem.run_pure, Result.andThen_ok, newRow, newObj, Sem.run]
      rfl
    · have hz0 : zero = zv.cells := by simp [zero, h0]
      simp only [c', hz0, h0, ↓reduceIte, Sem.run_bind, Sem.run_pure, Result.andThen_ok, hzr, newRow, newObj, Sem.run]
      rfl
  · rw [List.eq_of_mem_replicate hr']; simp [hsz]
  · rw [List.getElem?_replicate] at hii
    split at hii
    · rename_i hlt
      cases hii
      simp only [List.getElem?_map, Option.map_eq_some_iff] at hj
      obtain ⟨u, hu, rfl⟩ := hj
      have hjl : j < i.size := by have := (List.getElem?_eq_some_iff.1 hu).1; omega
      have hidx := idx_lt hlt hjl
      refine ⟨u, ?_, List.all_eq_true.1 hone u (List.mem_of_getElem? hu), rel_vOf _ _ _ _⟩
      have hz0 : zero = zv.cells := by simp only [zero]; rw [if_neg (by omega)]
      have hmod : (ii * i.size + j) % i.size = j := by rw [Nat.mul_comm, Nat.mul_add_mod]; exact Nat.mod_eq_of_lt hjl
      simp only [c', hz0, hzs, Array.getElem?_map]
      rw [Array.getElem?_range, if_pos hidx]
      simp only [Option.map_some, hmod]
      rw [← hzv, Array.getElem?_toList] at hu
      simp [getElem!_def, hu]
    · cases hii
end
end Go.Proofs.Ytdmpbdmgaepndaa.AM
