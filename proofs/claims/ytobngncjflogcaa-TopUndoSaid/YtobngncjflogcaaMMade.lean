/-
  The document's pairs of kept bytes, and the delta made of them.
-/
import Derived.Test.YtobngncjflogcaaMU
import Derived.Test.YtobngncjflogcaaBC
set_option linter.unusedVariables false
set_option linter.unusedSimpArgs false
namespace Go.Proofs.Ytobngncjflogcaa.AM
open Go
set_option maxRecDepth 100000
set_option maxHeartbeats 2000000
def pairRows (l : List (Nat × Nat)) : List (List V) := l.map fun p => [.int .i64 p.1, .int .i64 p.2]
theorem pairRows_sz (l : List (Nat × Nat)) : ∀ r ∈ pairRows l, r.length = 2 := by
  intro r hr; obtain ⟨s, _, rfl⟩ := List.mem_map.1 hr; rfl
theorem pairRows_fz (l : List (Nat × Nat)) : ∀ r ∈ pairRows l, ∀ v ∈ r, Fz v := by
  intro r hr v hv
  obtain ⟨s, _, rfl⟩ := List.mem_map.1 hr
  simp at hv
  rcases hv with rfl | rfl <;> exact .int _ _
/-- a slice of the call's own is handed back: it may be nil still -/
theorem retSl_own {rv : List RV} {sz : Nat} {rows' : List (List V)} {tl : List V} {R : S → Prop} (h : RetSl rv sz rows' tl R) : ∀ (s s' : S) (k : Nat) (b : Option Nat) (ty n : Nat) (rows : List (List V)), Ent s s' → Ret rv (.own k b sz n :: tl) s' → s'.h k = some ⟨b, ty, sz, rows⟩ → n = rows'.length ∧ rows = rows' → R s := h.2.1

structure YPr (ps : List (List UInt8)) (ks : List Bool) where
  i : Nat
  k : Int
  to : Nat
  tk : Int
  out : List (Nat × Nat)
  rows : List (List V)
  n : Nat
  b : Option Nat
  p1 : List (List UInt8)
  r1 : List (List UInt8)
  p2 : List Bool
  r2 : List Bool
  h1 : ps = p1 ++ r1
  h2 : ks = p2 ++ r2
  hl : p1.length = i ∧ p2.length = i
  hk : k = (i : Int)
  htk : tk = (to : Int)
  hto : to ≤ p1.flatten.length + i
  hrows : rows = pairRows out
  hn : n = out.length
  hno : out.length ≤ i
  hp : pairsP ps ks 0 0 = out ++ pairsP r1 r2 i to
/-! the delta of some kept bytes and a text -/
def madeOk (n : Nat) (text : List UInt8) : Nat → Nat → List (Nat × Nat) → Prop
  | i0, j0, [] => i0 ≤ n ∧ j0 ≤ text.length
  | i0, j0, (i, j) :: r => i0 ≤ i ∧ i < n ∧ j0 ≤ j ∧ j < text.length ∧ madeOk n text (i + 1) (j + 1) r
theorem madeOk_le {n : Nat} {text : List UInt8} : ∀ {l : List (Nat × Nat)} {i0 j0 : Nat}, madeOk n text i0 j0 l → i0 ≤ n ∧ j0 ≤ text.length
  | [], _, _, h => h
  | (i, j) :: r, i0, j0, h => by obtain ⟨a, b, c, d, _⟩ := h; omega
theorem puts_put_app (t : List UInt8) (ts : List Tok) (p : List UInt8) (r : List (List UInt8)) (h : puts ts = p :: r) : puts (t.map .put ++ ts) = (t ++ p) :: r := by
  induction t with
  | nil => simpa using h
  | cons b t ih => simp only [List.map_cons, List.cons_append, puts, ih, consHead]
theorem puts_cut_app (n : Nat) (ts : List Tok) : puts (List.replicate n .cut ++ ts) = List.replicate n [] ++ puts ts := by
  induction n with
  | zero => simp
  | succ n ih => simp [List.replicate_succ, puts, ih]
theorem kepts_cut_app (n : Nat) (ts : List Tok) : kepts (List.replicate n .cut ++ ts) = List.replicate n false ++ kepts ts := by
  induction n with
  | zero => simp
  | succ n ih => simp [List.replicate_succ, kepts, ih]
theorem kepts_put_app (t : List UInt8) (ts : List Tok) : kepts (t.map .put ++ ts) = kepts ts := by rw [kepts_app, kepts_put]; rfl
theorem puts_cut_ne (m : Nat) (ts : List Tok) : ∃ r, List.replicate m [] ++ [] :: puts ts = ([] : List UInt8) :: r := by cases m <;> exact ⟨_, rfl⟩
theorem puts_made (n : Nat) (text : List UInt8) (i0 j0 i j : Nat) (r : List (Nat × Nat)) : puts (madeT n text i0 j0 ((i, j) :: r)) = ((text.drop j0).take (j - j0)) :: (List.replicate (i - i0) [] ++ puts (madeT n text (i + 1) (j + 1) r)) := by
  simp only [madeT, List.append_assoc]
  have h1 : puts (List.replicate (i - i0) Tok.cut ++ .keep :: madeT n text (i + 1) (j + 1) r) = List.replicate (i - i0) [] ++ [] :: puts (madeT n text (i + 1) (j + 1) r) := by rw [puts_cut_app]; rfl
  obtain ⟨q, hq⟩ := puts_cut_ne (i - i0) (madeT n text (i + 1) (j + 1) r)
  rw [puts_put_app _ _ [] q (by rw [h1, hq]), List.append_nil]
  congr 1
  have : List.replicate (i - i0) [] ++ ([] : List UInt8) :: puts (madeT n text (i + 1) (j + 1) r) = [] :: (List.replicate (i - i0) [] ++ puts (madeT n text (i + 1) (j + 1) r)) := by
    generalize i - i0 = m
    induction m with
    | zero => rfl
    | succ m ih => rw [List.replicate_succ, List.cons_append, ih]; rfl
  rw [this] at hq
  injection hq with _ hq
  exact hq.symm
theorem puts_made_nil (n : Nat) (text : List UInt8) (i0 j0 : Nat) : puts (madeT n text i0 j0 []) = text.drop j0 :: List.replicate (n - i0) [] := by
  simp only [madeT]
  have h1 : puts (List.replicate (n - i0) Tok.cut) = [] :: List.replicate (n - i0) [] := by
    have := puts_cut_app (n - i0) []
    rw [List.append_nil] at this
    rw [this, puts, ← List.replicate_succ', List.replicate_succ]
  rw [puts_put_app _ _ _ _ h1, List.append_nil]
theorem kepts_made (n : Nat) (text : List UInt8) (i0 j0 i j : Nat) (r : List (Nat × Nat)) : kepts (madeT n text i0 j0 ((i, j) :: r)) = List.replicate (i - i0) false ++ true :: kepts (madeT n text (i + 1) (j + 1) r) := by
  simp only [madeT, List.append_assoc]
  rw [kepts_put_app, kepts_cut_app]; rfl
theorem kepts_made_nil (n : Nat) (text : List UInt8) (i0 j0 : Nat) : kepts (madeT n text i0 j0 []) = List.replicate (n - i0) false := by
  simp only [madeT]
  rw [kepts_put_app]
  have := kepts_cut_app (n - i0) []
  rw [List.append_nil] at this
  rw [this]; simp [kepts]

structure YMd (n : Nat) (l : List (Nat × Nat)) (text : List UInt8) where
  idx : Int
  pre : List (Nat × Nat)
  rest : List (Nat × Nat)
  fr : Nat
  at_ : Nat
  fk : Int
  ak : Int
  A : List (List UInt8)
  B : List Bool
  pr : List (List V)
  kr : List (List V)
  hd : l = pre ++ rest
  hi : idx = (pre.length : Int)
  hf : fk = (fr : Int)
  ha : ak = (at_ : Int)
  hA : A.length = fr
  hB : B.length = fr
  hpr : pr = strRows (A ++ List.replicate (n + 1 - fr) [])
  hkr : kr = boolRows (B ++ List.replicate (n - fr) false)
  hps : puts (madeT n text 0 0 l) = A ++ puts (madeT n text fr at_ rest)
  hks : kepts (madeT n text 0 0 l) = B ++ kepts (madeT n text fr at_ rest)
  hok : madeOk n text fr at_ rest
theorem ren_str (l : List (List UInt8)) (f : Nat → Nat) : (strRows l).map (·.map (V.rl f)) = strRows l := by simp [strRows, List.map_map, Function.comp_def, V.rl]
theorem arg_own1 {h : Hp} {k n ty : Nat} {b : Option Nat} {rs : List (List V)} (hn : n = rs.length) (hk : h k = some ⟨b, ty, 1, rs⟩) : Arg h [] (.own k b 1 n) (.sl true 1 rs) := .own k b 1 n rs (rowsOf_own hn hk) (by simp)
theorem madeT_len (n : Nat) (text : List UInt8) : ∀ (l : List (Nat × Nat)) (i0 j0 : Nat), madeOk n text i0 j0 l → (madeT n text i0 j0 l).length ≤ (text.length - j0) + (n - i0)
  | [], i0, j0, h => by simp [madeT]
  | (i, j) :: r, i0, j0, h => by
    obtain ⟨a, b, c, d, e⟩ := h
    have := madeT_len n text r (i + 1) (j + 1) e
    simp only [madeT, List.length_append, List.length_map, List.length_take, List.length_drop, List.length_replicate, List.length_cons]
    omega
theorem madeOk_pairs (n : Nat) (text : List UInt8) : ∀ (ts : List Tok) (i0 j0 : Nat), i0 + inT ts = n → j0 + outT ts = text.length → madeOk n text i0 j0 (pairsT ts i0 j0)
  | [], i0, j0, h1, h2 => by simp [inT, kepts, outT] at h1 h2; simp [pairsT, madeOk]; omega
  | .put b :: ts, i0, j0, h1, h2 => by
    have := madeOk_pairs n text ts i0 (j0 + 1) h1 (by simp [outT] at h2; omega)
    simp only [pairsT]
    exact madeOk_weak this (Nat.le_refl _) (by omega)
  | .cut :: ts, i0, j0, h1, h2 => by
    have := madeOk_pairs n text ts (i0 + 1) j0 (by simp [inT, kepts] at h1 ⊢; omega) h2
    simp only [pairsT]
    exact madeOk_weak this (by omega) (Nat.le_refl _)
  | .keep :: ts, i0, j0, h1, h2 => by
    have := madeOk_pairs n text ts (i0 + 1) (j0 + 1) (by simp [inT, kepts] at h1 ⊢; omega) (by simp [outT] at h2; omega)
    simp only [inT, kepts, List.length_cons, outT] at h1 h2
    exact ⟨Nat.le_refl _, by omega, Nat.le_refl _, by omega, this⟩
where
  madeOk_weak {n : Nat} {text : List UInt8} : ∀ {l : List (Nat × Nat)} {i0 j0 i1 j1 : Nat}, madeOk n text i1 j1 l → i0 ≤ i1 → j0 ≤ j1 → madeOk n text i0 j0 l
    | [], _, _, _, _, h, a, b => by simp only [madeOk] at *; omega
    | (i, j) :: r, _, _, _, _, h, a, b => by obtain ⟨c, d, e, f, g⟩ := h; exact ⟨by omega, d, by omega, f, g⟩
theorem pairsT_len (ts : List Tok) (i j : Nat) : (pairsT ts i j).length ≤ ts.length := by
  induction ts generalizing i j with
  | nil => simp [pairsT]
  | cons t ts ih =>
    cases t
    · have := ih (i + 1) (j + 1); simp [pairsT]; omega
    · have := ih i (j + 1); simp [pairsT]; omega
    · have := ih (i + 1) j; simp [pairsT]; omega
end Go.Proofs.Ytobngncjflogcaa.AM
