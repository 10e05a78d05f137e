/-
  What is made is, byte by byte, what it was made of. (The part of MAssoc that every seat has.)
-/
import Derived.Test.YtobngncjflogcaaMChain
import Derived.Test.YtobngncjflogcaaBC
import Derived.Test.YtobngncjflogcaaMMade
set_option linter.unusedVariables false
set_option linter.unusedSimpArgs false
namespace Go.Proofs.Ytobngncjflogcaa.AM
open Go
def gjoin : List (List UInt8 × Nat) → List (List UInt8 × Nat) → List (List UInt8 × Nat)
  | [], ys => ys
  | [(p, c)], (q, d) :: ys => (p ++ q, c + d) :: ys
  | [g], [] => [g]
  | g :: g2 :: r, ys => g :: gjoin (g2 :: r) ys
theorem gaps_app (a b : List Tok) : gaps (a ++ b) = gjoin (gaps a) (gaps b) := by
  induction a with
  | nil =>
    obtain ⟨⟨q, d⟩, ys, h⟩ := gaps_ne b
    simp [gaps, h, gjoin]
  | cons t a ih =>
    obtain ⟨⟨p, c⟩, r, h⟩ := gaps_ne a
    obtain ⟨⟨q, d⟩, ys, h'⟩ := gaps_ne b
    rw [h, h'] at ih
    cases t
    · simp only [List.cons_append, gaps, ih, h, h']
      cases r <;> simp [gjoin]
    · simp only [List.cons_append, gaps, ih, h, h']
      cases r <;> simp [gjoin]
    · simp only [List.cons_append, gaps, ih, h, h']
      cases r <;> simp [gjoin] <;> omega
theorem gaps_congL {a a' : List Tok} (h : gaps a = gaps a') (b : List Tok) : gaps (a ++ b) = gaps (a' ++ b) := by rw [gaps_app, gaps_app, h]
theorem gaps_congR {b b' : List Tok} (h : gaps b = gaps b') (a : List Tok) : gaps (a ++ b) = gaps (a ++ b') := by rw [gaps_app, gaps_app, h]
theorem gaps_swap (n : Nat) (b : UInt8) : gaps (List.replicate n .cut ++ [.put b]) = gaps (.put b :: List.replicate n .cut) := by
  have h1 := gaps_cut_app n [.put b] [b] 0 [] rfl
  have h2 := gaps_cut_app n [] [] 0 [] rfl
  rw [List.append_nil] at h2
  rw [h1]
  simp [gaps, h2]
def tokM (m : Mk) : List Tok := toks m.out ++ (m.put.map .put ++ List.replicate m.cut.toNat .cut)
theorem toks_flush (m : Mk) : toks m.flush = tokM m := by
  unfold Mk.flush tokM
  rw [toks_app, toks_app, List.append_assoc]
  congr 1
  congr 1
  · split
    · rename_i h; rw [h]; rfl
    · simp [toks, toks1]
  · split
    · simp [toks, toks1]
    · rename_i h; rw [show m.cut.toNat = 0 by omega]; rfl
theorem form_ok : ∀ {k : Int} {l : List Part}, formOk k l → ∀ p ∈ l, partOk p
  | _, [], _ => by simp
  | _, q :: l, h => by
    intro p hp
    rcases List.mem_cons.1 hp with rfl | hp
    · exact h.1
    · exact form_ok h.2.2.2 p hp
theorem toks_addKeep (o : List Part) (ho : ∀ p ∈ o, partOk p) : toks (addKeep o 1) = toks o ++ [.keep] := by
  unfold addKeep
  cases h : o.getLast? with
  | none =>
    rw [List.getLast?_eq_none_iff] at h
    subst h; rfl
  | some p =>
    obtain ⟨ys, rfl⟩ := List.getLast?_eq_some_iff.1 h
    simp only
    split
    · rename_i hk
      rw [List.dropLast_concat, toks_app, toks_app, List.append_assoc]
      congr 1
      have hp := ho p (by simp)
      have hn : 0 < p.n := by unfold partOk at hp; omega
      simp only [toks, toks1, hk, List.append_nil]
      rw [if_neg (by decide), if_pos trivial, show (p.n + 1).toNat = p.n.toNat + 1 by omega, List.replicate_succ']
      rfl
    · rw [toks_app]; rfl
theorem gaps_step {m : Mk} (hm : m.Ok) (t : Tok) : gaps (tokM (m.tok t)) = gaps (tokM m ++ [t]) := by
  cases t with
  | keep =>
    have : tokM (m.tok .keep) = toks (addKeep m.flush 1) := by
      simp [Mk.tok, Mk.doKeep, tokM]
    rw [this, toks_addKeep _ (form_ok hm.flush), toks_flush]
  | put b =>
    show gaps (toks m.out ++ ((m.put ++ [b]).map .put ++ List.replicate m.cut.toNat .cut)) = gaps (toks m.out ++ (m.put.map .put ++ List.replicate m.cut.toNat .cut) ++ [.put b])
    rw [List.append_assoc, List.append_assoc, List.map_append, List.append_assoc]
    refine gaps_congR (gaps_congR ?_ _) _
    exact (gaps_swap _ _).symm
  | cut =>
    have hc := hm.cut
    show gaps (toks m.out ++ (m.put.map .put ++ List.replicate (m.cut + 1).toNat .cut)) = gaps (toks m.out ++ (m.put.map .put ++ List.replicate m.cut.toNat .cut) ++ [.cut])
    rw [show (m.cut + 1).toNat = m.cut.toNat + 1 by omega, List.replicate_succ', List.append_assoc, List.append_assoc]
theorem gaps_run : ∀ (ts : List Tok) {m : Mk}, m.Ok → gaps (tokM (m.run ts)) = gaps (tokM m ++ ts)
  | [], m, _ => by rw [Mk.run_nil, List.append_nil]
  | t :: ts, m, h => by
    have h1 := gaps_run ts (h.tok t)
    show gaps (tokM ((m.tok t).run ts)) = _
    rw [h1, gaps_congL (gaps_step h t) ts, List.append_assoc]
    rfl
theorem gaps_mkD (ts : List Tok) : gaps (toks (mkD ts)) = gaps ts := by
  unfold mkD
  rw [toks_flush, gaps_run ts Mk.ok_new]
  rfl
def gIn : List (List UInt8 × Nat) → Nat
  | [] => 0
  | [g] => g.2
  | g :: g2 :: r => g.2 + 1 + gIn (g2 :: r)
def gOut : List (List UInt8 × Nat) → Nat
  | [] => 0
  | [g] => g.1.length
  | g :: g2 :: r => g.1.length + 1 + gOut (g2 :: r)
def gPairs : List (List UInt8 × Nat) → Nat → Nat → List (Nat × Nat)
  | [], _, _ => []
  | [_], _, _ => []
  | g :: g2 :: r, i, j => (i + g.2, j + g.1.length) :: gPairs (g2 :: r) (i + g.2 + 1) (j + g.1.length + 1)
def gDo : List (List UInt8 × Nat) → List UInt8 → List UInt8
  | [], _ => []
  | [g], _ => g.1
  | g :: g2 :: r, s => g.1 ++ ((s.drop g.2).take 1 ++ gDo (g2 :: r) (s.drop (g.2 + 1)))
theorem inT_gaps (ts : List Tok) : inT ts = gIn (gaps ts) := by
  induction ts with
  | nil => rfl
  | cons t ts ih =>
    obtain ⟨⟨p, c⟩, r, h⟩ := gaps_ne ts
    rw [h] at ih
    cases t
    · simp only [gaps, h, gIn]; rw [← ih]; simp [inT, kepts]; omega
    · simp only [gaps, h]; cases r <;> simp only [gIn] at * <;> rw [← ih] <;> rfl
    · simp only [gaps, h]; cases r <;> simp only [gIn] at * <;> simp only [inT, kepts, List.length_cons] at * <;> omega
theorem outT_gaps (ts : List Tok) : outT ts = gOut (gaps ts) := by
  induction ts with
  | nil => rfl
  | cons t ts ih =>
    obtain ⟨⟨p, c⟩, r, h⟩ := gaps_ne ts
    rw [h] at ih
    cases t
    · simp only [gaps, h, gOut, outT]; rw [← ih]; simp; omega
    · simp only [gaps, h, outT]; cases r <;> simp only [gOut, List.length_cons] at * <;> omega
    · simp only [gaps, h, outT]; cases r <;> simp only [gOut] at * <;> omega
theorem pairsT_gaps (ts : List Tok) : ∀ i j, pairsT ts i j = gPairs (gaps ts) i j := by
  induction ts with
  | nil => intro i j; rfl
  | cons t ts ih =>
    intro i j
    obtain ⟨⟨p, c⟩, r, h⟩ := gaps_ne ts
    rw [h] at ih
    cases t
    · simp only [gaps, h, gPairs, pairsT]; rw [← ih]; simp
    · simp only [gaps, h, pairsT]; rw [ih]; cases r <;> simp [gPairs, Nat.add_assoc, Nat.add_comm, Nat.add_left_comm]
    · simp only [gaps, h, pairsT]; rw [ih]; cases r <;> simp [gPairs, Nat.add_assoc, Nat.add_comm, Nat.add_left_comm]
theorem doT_gaps (ts : List Tok) : ∀ s, doT ts s = gDo (gaps ts) s := by
  induction ts with
  | nil => intro s; rfl
  | cons t ts ih =>
    intro s
    obtain ⟨⟨p, c⟩, r, h⟩ := gaps_ne ts
    rw [h] at ih
    cases t
    · simp only [gaps, h, gDo, doT]; rw [← ih]; simp
    · simp only [gaps, h, doT]; rw [ih]; cases r <;> simp [gDo]
    · simp only [gaps, h, doT]; rw [ih]; cases r <;> simp [gDo, List.drop_drop, Nat.add_comm, Nat.add_left_comm]
theorem inT_mkD (ts : List Tok) : inT (toks (mkD ts)) = inT ts := by rw [inT_gaps, gaps_mkD, ← inT_gaps]
theorem outT_mkD (ts : List Tok) : outT (toks (mkD ts)) = outT ts := by rw [outT_gaps, gaps_mkD, ← outT_gaps]
theorem pairsT_mkD (ts : List Tok) (i j : Nat) : pairsT (toks (mkD ts)) i j = pairsT ts i j := by rw [pairsT_gaps, gaps_mkD, ← pairsT_gaps]
theorem doT_mkD (ts : List Tok) (s : List UInt8) : doT (toks (mkD ts)) s = doT ts s := by rw [doT_gaps, gaps_mkD, ← doT_gaps]
theorem mkD_mkD (ts : List Tok) : mkD (toks (mkD ts)) = mkD ts := mkD_gaps (gaps_mkD ts)
theorem toks1_le {d : List Part} {p : Part} (h : p ∈ d) : inT (toks1 p) ≤ inT (toks d) ∧ outT (toks1 p) ≤ outT (toks d) := by
  obtain ⟨a, b, rfl⟩ := List.append_of_mem h
  rw [toks_app]
  simp only [toks, inT_app, outT_app]
  omega
theorem toks1_sz {p : Part} (h : partOk p) : (p.kind = 2 → outT (toks1 p) = p.text.length ∧ p.text.length ≠ 0) ∧ (p.kind ≠ 2 → inT (toks1 p) = p.n.toNat ∧ 0 < p.n ∧ p.text = []) ∧ (p.kind = 2 → p.n = 0) := by
  unfold partOk at h
  refine ⟨fun k => ?_, fun k => ?_, fun k => by omega⟩
  · unfold toks1
    rw [if_pos k, outT_map]
    refine ⟨rfl, fun g => ?_⟩
    rcases h with h | h
    · exact h.2.2 (List.eq_nil_of_length_eq_zero g)
    · omega
  · unfold toks1
    rw [if_neg k]
    have hr : ∀ (n : Nat) (x : Tok), x = .keep ∨ x = .cut → inT (List.replicate n x) = n := by
      intro n x hx
      have := kepts_app_n [] x hx n
      simp only [List.nil_append, kepts] at this
      simp [inT, this]
    refine ⟨?_, by omega, (h.resolve_left fun g => k g.1).2.2⟩
    split
    · exact hr _ _ (.inl rfl)
    · exact hr _ _ (.inr rfl)
theorem toks_cnt : ∀ (d : List Part), (∀ p ∈ d, partOk p) → d.length ≤ inT (toks d) + outT (toks d)
  | [], _ => by simp
  | p :: d, h => by
    have h1 := toks_cnt d fun q hq => h q (by simp [hq])
    obtain ⟨h2, h3, _⟩ := toks1_sz (h p (by simp))
    simp only [toks, inT_app, outT_app, List.length_cons]
    by_cases k : p.kind = 2
    · have := h2 k; omega
    · have := h3 k; omega
theorem checkF_mkD (ts : List Tok) (h1 : inT ts ≤ 500) (h2 : outT ts ≤ 500) : checkF (mkD ts) = 0 := by
  have hf := form_ok (mkD_form ts)
  have ho : ∀ p ∈ mkD ts, okP p := by
    intro p hp
    obtain ⟨g1, g2, g3⟩ := toks1_sz (hf p hp)
    obtain ⟨l1, l2⟩ := toks1_le hp
    rw [inT_mkD] at l1
    rw [outT_mkD] at l2
    have hk := hf p hp
    unfold partOk at hk
    unfold okP fitF
    by_cases k : p.kind = 2
    · have a1 := g1 k
      have a2 := g3 k
      rw [if_neg (by omega), if_pos k, if_neg (by rintro (h | h); exact h a2; exact a1.2 (by rw [h]; rfl)), if_neg (by omega)]
    · have a1 := g2 k
      rw [if_pos (by omega), if_neg (by rintro (h | h); omega; exact h a1.2.2), if_neg (by rw [a1.2.2]; simp only [List.length_nil]; omega)]
  have hn := toks_cnt _ hf
  have hi := inT_toks _ ho
  have hu := outT_toks _ ho
  rw [inT_mkD] at hn hi
  rw [outT_mkD] at hn hu
  have hc : chk 0 (mkD ts) = 0 := by
    have : ∀ (k : Int) (l : List Part), formOk k l → (∀ p ∈ l, okP p) → chk k l = 0 := by
      intro k l
      induction l generalizing k with
      | nil => intro _ _; rfl
      | cons p l ih =>
        intro h hp
        obtain ⟨h1, h2, h3, h4⟩ := h
        unfold chk
        rw [if_neg (by rintro (h | h); exact h2 h; exact h3 h), if_neg (fun g => g (hp p (by simp))), ih _ h4 fun q hq => hp q (by simp [hq])]
    exact this 0 _ (mkD_form ts) ho
  unfold checkF
  rw [if_neg (by omega), if_neg (fun g => g hc), if_neg (by omega)]
end Go.Proofs.Ytobngncjflogcaa.AM
