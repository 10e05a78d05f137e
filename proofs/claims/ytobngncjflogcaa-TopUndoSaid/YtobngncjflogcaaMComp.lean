/-
  Two deltas as one: the program's way.
-/
import Derived.Test.YtobngncjflogcaaMWalk
import Derived.Test.YtobngncjflogcaaBC
set_option linter.unusedVariables false
set_option linter.unusedSimpArgs false
namespace Go.Proofs.Ytobngncjflogcaa.AM
open Go
set_option maxRecDepth 100000
set_option maxHeartbeats 2000000
/-! plain -/
def cmp (xs ys : List Tok) : List Tok := compT (xs.length + ys.length) xs ys
theorem compT_fuel : ∀ (f : Nat) (xs ys : List Tok), xs.length + ys.length ≤ f → compT f xs ys = cmp xs ys := by
  have key : ∀ (f g : Nat) (xs ys : List Tok), xs.length + ys.length ≤ f → xs.length + ys.length ≤ g → compT f xs ys = compT g xs ys := by
    intro f
    induction f with
    | zero =>
      intro g xs ys h _
      have h1 : xs = [] := List.eq_nil_of_length_eq_zero (by omega)
      have h2 : ys = [] := List.eq_nil_of_length_eq_zero (by omega)
      subst h1 h2
      cases g <;> rfl
    | succ f ih =>
      intro g xs ys h1 h2
      cases g with
      | zero =>
        have e1 : xs = [] := List.eq_nil_of_length_eq_zero (by omega)
        have e2 : ys = [] := List.eq_nil_of_length_eq_zero (by omega)
        subst e1 e2
        rfl
      | succ g =>
        rcases xs with _ | ⟨x, xs⟩
        · rcases ys with _ | ⟨y, ys⟩
          · rfl
          · simp at h1 h2
            cases y <;> simp only [compT]
            rw [ih g [] ys (by simp; omega) (by simp; omega)]
        · rcases ys with _ | ⟨y, ys⟩
          · simp at h1 h2
            cases x <;> simp only [compT]
            rw [ih g xs [] (by simp; omega) (by simp; omega)]
          · simp at h1 h2
            cases x <;> cases y <;> simp only [compT]
            all_goals (rw [ih g _ _ (by first | omega | (simp; omega)) (by first | omega | (simp; omega))])
  exact fun f xs ys h => key _ _ xs ys h (Nat.le_refl _)
theorem cmp_cut (xs ys : List Tok) : cmp (.cut :: xs) ys = .cut :: cmp xs ys := by
  unfold cmp
  rw [show (Tok.cut :: xs).length + ys.length = (xs.length + ys.length) + 1 by simp; omega]
  rfl
theorem cmp_put (xs ys : List Tok) (b : UInt8) (h : ∀ r, xs ≠ .cut :: r) : cmp xs (.put b :: ys) = .put b :: cmp xs ys := by
  unfold cmp
  rw [show xs.length + (Tok.put b :: ys).length = (xs.length + ys.length) + 1 by simp; omega, compT]
  intro r hr
  exact h r hr
theorem cmp_kk (xs ys : List Tok) : cmp (.keep :: xs) (.keep :: ys) = .keep :: cmp xs ys := by
  conv => lhs; unfold cmp
  rw [show (Tok.keep :: xs).length + (Tok.keep :: ys).length = (xs.length + ys.length + 1) + 1 by simp; omega, compT, compT_fuel _ _ _ (by omega)]
theorem cmp_kc (xs ys : List Tok) : cmp (.keep :: xs) (.cut :: ys) = .cut :: cmp xs ys := by
  conv => lhs; unfold cmp
  rw [show (Tok.keep :: xs).length + (Tok.cut :: ys).length = (xs.length + ys.length + 1) + 1 by simp; omega, compT, compT_fuel _ _ _ (by omega)]
theorem cmp_pk (xs ys : List Tok) (b : UInt8) : cmp (.put b :: xs) (.keep :: ys) = .put b :: cmp xs ys := by
  conv => lhs; unfold cmp
  rw [show (Tok.put b :: xs).length + (Tok.keep :: ys).length = (xs.length + ys.length + 1) + 1 by simp; omega, compT, compT_fuel _ _ _ (by omega)]
theorem cmp_pc (xs ys : List Tok) (b : UInt8) : cmp (.put b :: xs) (.cut :: ys) = cmp xs ys := by
  conv => lhs; unfold cmp
  rw [show (Tok.put b :: xs).length + (Tok.cut :: ys).length = (xs.length + ys.length + 1) + 1 by simp; omega, compT, compT_fuel _ _ _ (by omega)]
theorem cmp_cuts (n : Nat) (xs ys : List Tok) : cmp (List.replicate n .cut ++ xs) ys = List.replicate n .cut ++ cmp xs ys := by
  induction n with
  | zero => rfl
  | succ n ih => rw [List.replicate_succ, List.cons_append, cmp_cut, ih]; rfl
theorem cmp_puts (t : List UInt8) (xs ys : List Tok) (h : ∀ r, xs ≠ .cut :: r) : cmp xs (t.map .put ++ ys) = t.map .put ++ cmp xs ys := by
  induction t with
  | nil => rfl
  | cons b t ih => rw [List.map_cons, List.cons_append, cmp_put _ _ _ h, ih]; rfl
theorem cmp_kks (n : Nat) (xs ys : List Tok) : cmp (List.replicate n .keep ++ xs) (List.replicate n .keep ++ ys) = List.replicate n .keep ++ cmp xs ys := by
  induction n with
  | zero => rfl
  | succ n ih => simp only [List.replicate_succ, List.cons_append, cmp_kk, ih]
theorem cmp_kcs (n : Nat) (xs ys : List Tok) : cmp (List.replicate n .keep ++ xs) (List.replicate n .cut ++ ys) = List.replicate n .cut ++ cmp xs ys := by
  induction n with
  | zero => rfl
  | succ n ih => simp only [List.replicate_succ, List.cons_append, cmp_kc, ih]
theorem cmp_pks (t : List UInt8) (xs ys : List Tok) : cmp (t.map .put ++ xs) (List.replicate t.length .keep ++ ys) = t.map .put ++ cmp xs ys := by
  induction t with
  | nil => rfl
  | cons b t ih => simp only [List.length_cons, List.replicate_succ, List.map_cons, List.cons_append, cmp_pk, ih]
theorem cmp_pcs (t : List UInt8) (xs ys : List Tok) : cmp (t.map .put ++ xs) (List.replicate t.length .cut ++ ys) = cmp xs ys := by
  induction t with
  | nil => rfl
  | cons b t ih => simp only [List.length_cons, List.replicate_succ, List.map_cons, List.cons_append, cmp_pc, ih]
theorem cmp_pks' (t : List UInt8) (n : Nat) (hn : t.length = n) (xs ys : List Tok) : cmp (t.map .put ++ xs) (List.replicate n .keep ++ ys) = t.map .put ++ cmp xs ys := by subst hn; exact cmp_pks t xs ys
theorem cmp_pcs' (t : List UInt8) (n : Nat) (hn : t.length = n) (xs ys : List Tok) : cmp (t.map .put ++ xs) (List.replicate n .cut ++ ys) = cmp xs ys := by subst hn; exact cmp_pcs t xs ys
/-- what comes of one step of so many bytes -/
def cmpStep (m : Mk) (px py : Part) (ux n : Int) : Mk := if px.kind = 1 ∧ py.kind = 3 then m.doCut n else if px.kind = 1 then m.doKeep n else if py.kind ≠ 3 then m.doPut ((px.text.drop ux.toNat).take n.toNat) else m
theorem tok_empty {l : List Part} {u : Int} (h : WkOk l u) : tokW l u = [] ↔ l = [] := by
  constructor
  · intro h1
    cases l with
    | nil => rfl
    | cons p r =>
      have h2 := h.2
      simp only at h2
      have := tok_chunk h (k := sizeP p - u) ⟨by omega, by omega⟩
      rw [h1] at this
      have h3 := chunk_len h (k := sizeP p - u) ⟨by omega, by omega⟩
      have h4 : (chunk p u (sizeP p - u)) = [] := (List.append_eq_nil_iff.1 this.symm).1
      rw [h4] at h3
      simp at h3
      omega
  · rintro rfl; simp [tokW, toks]
theorem outT_chunk (p : Part) (u k : Int) (hp : okP p) (hk : 0 ≤ k ∧ u + k ≤ sizeP p) (hu : 0 ≤ u) : outT (chunk p u k) = if p.kind = 3 then 0 else k.toNat := by
  have h1 := okP_bd hp
  unfold chunk
  split
  · rename_i h2
    rw [outT_map, if_neg (by omega)]
    have : sizeP p = p.text.length := by simp [sizeP, h2]
    simp; omega
  · rw [outT_rep]
    by_cases h3 : p.kind = 1
    · simp [h3]
    · have : p.kind = 3 := by omega
      simp [this]
theorem inT_chunk (p : Part) (u k : Int) (hp : okP p) : inT (chunk p u k) = if p.kind = 2 then 0 else k.toNat := by
  have h1 := okP_bd hp
  unfold chunk
  split
  · unfold inT; rw [kepts_put]; rfl
  · have := kepts_app_n [] (if p.kind = 1 then Tok.keep else Tok.cut) (by split <;> simp) k.toNat
    simp only [List.nil_append, kepts] at this
    simp [inT, this]
theorem step_cut {p : Part} {r lb : List Part} {ua ub : Int} {m : Mk} (oka : WkOk (p :: r) ua) (h3 : p.kind = 3) (hio : outT (tokW (p :: r) ua) = inT (tokW lb ub)) :
    m.run (cmp (tokW (p :: r) ua) (tokW lb ub)) = (m.doCut (sizeP p - ua)).run (cmp (tokW (takeW (p :: r) ua (sizeP p - ua)).1 (takeW (p :: r) ua (sizeP p - ua)).2) (tokW lb ub)) ∧ outT (tokW (takeW (p :: r) ua (sizeP p - ua)).1 (takeW (p :: r) ua (sizeP p - ua)).2) = inT (tokW lb ub) ∧
      ((tokW (p :: r) ua).length : Int) = (sizeP p - ua) + (tokW (takeW (p :: r) ua (sizeP p - ua)).1 (takeW (p :: r) ua (sizeP p - ua)).2).length := by
  have hu := oka.2
  simp only at hu
  have hk : 0 ≤ sizeP p - ua ∧ ua + (sizeP p - ua) ≤ sizeP p := by omega
  have h1 := tok_chunk oka hk
  have h2 := chunk_len oka hk
  have hc : chunk p ua (sizeP p - ua) = List.replicate (sizeP p - ua).toNat .cut := by unfold chunk; rw [if_neg (by omega), if_neg (by omega)]
  have ho := outT_chunk p ua (sizeP p - ua) (oka.1 p (by simp)) hk hu.1
  rw [if_pos h3] at ho
  refine ⟨?_, ?_, ?_⟩
  · rw [h1, hc, cmp_cuts, Mk.run_app, Mk.run_cut]; congr 2; omega
  · rw [h1, outT_app] at hio; omega
  · rw [h1, List.length_append, h2]; omega
theorem not_cut {p : Part} {r : List Part} {u : Int} (ok : WkOk (p :: r) u) (h3 : p.kind ≠ 3) : ∀ q, tokW (p :: r) u ≠ .cut :: q := by
  intro q hq
  have hu := ok.2
  simp only at hu
  have hk : 0 ≤ sizeP p - u ∧ u + (sizeP p - u) ≤ sizeP p := by omega
  have h1 := tok_chunk ok hk
  have h2 := chunk_len ok hk
  have hb := okP_bd (ok.1 p (by simp))
  have hne : ∃ x xs, chunk p u (sizeP p - u) = x :: xs ∧ x ≠ .cut := by
    unfold chunk at h2 ⊢
    split
    · rename_i k2
      rw [if_pos k2] at h2
      cases hd : (List.drop u.toNat p.text).take (sizeP p - u).toNat with
      | nil => rw [hd] at h2; simp at h2; omega
      | cons x xs => exact ⟨_, _, rfl, by simp⟩
    · rename_i k2
      obtain ⟨n, hn⟩ : ∃ n, (sizeP p - u).toNat = n + 1 := ⟨(sizeP p - u).toNat - 1, by omega⟩
      rw [hn, List.replicate_succ, if_pos (by omega)]
      exact ⟨_, _, rfl, by simp⟩
  obtain ⟨x, xs, hx, hc⟩ := hne
  rw [h1, hx] at hq
  simp at hq
  exact hc hq.1
theorem step_put {q : Part} {s la : List Part} {ua ub : Int} {m : Mk} (okb : WkOk (q :: s) ub) (h2 : q.kind = 2) (hla : ∀ r, tokW la ua ≠ .cut :: r) (hio : outT (tokW la ua) = inT (tokW (q :: s) ub)) :
    m.run (cmp (tokW la ua) (tokW (q :: s) ub)) = (m.doPut (textW (q :: s) ub (sizeP q - ub))).run (cmp (tokW la ua) (tokW (takeW (q :: s) ub (sizeP q - ub)).1 (takeW (q :: s) ub (sizeP q - ub)).2)) ∧ outT (tokW la ua) = inT (tokW (takeW (q :: s) ub (sizeP q - ub)).1 (takeW (q :: s) ub (sizeP q - ub)).2) ∧
      ((tokW (q :: s) ub).length : Int) = (sizeP q - ub) + (tokW (takeW (q :: s) ub (sizeP q - ub)).1 (takeW (q :: s) ub (sizeP q - ub)).2).length ∧ (textW (q :: s) ub (sizeP q - ub)).length = (sizeP q - ub).toNat := by
  have hu := okb.2
  simp only at hu
  have hk : 0 ≤ sizeP q - ub ∧ ub + (sizeP q - ub) ≤ sizeP q := by omega
  have h1 := tok_chunk okb hk
  have h3 := chunk_len okb hk
  have hc : chunk q ub (sizeP q - ub) = (textW (q :: s) ub (sizeP q - ub)).map .put := by unfold chunk; rw [if_pos h2]; simp [textW, h2]
  have ho := inT_chunk q ub (sizeP q - ub) (okb.1 q (by simp))
  rw [if_pos h2] at ho
  refine ⟨?_, ?_, ?_, ?_⟩
  · rw [h1, hc, cmp_puts _ _ _ hla, Mk.run_app, Mk.run_put]
  · rw [h1, inT_app] at hio; omega
  · rw [h1, List.length_append, h3]; omega
  · rw [hc, List.length_map] at h3; exact h3
theorem step_both {p q : Part} {r s : List Part} {ua ub k : Int} {m : Mk} (oka : WkOk (p :: r) ua) (okb : WkOk (q :: s) ub) (h3 : p.kind ≠ 3) (h2 : q.kind ≠ 2) (hk : 0 ≤ k) (hka : ua + k ≤ sizeP p) (hkb : ub + k ≤ sizeP q) (hio : outT (tokW (p :: r) ua) = inT (tokW (q :: s) ub)) :
    m.run (cmp (tokW (p :: r) ua) (tokW (q :: s) ub)) = (cmpStep m p q ua k).run (cmp (tokW (takeW (p :: r) ua k).1 (takeW (p :: r) ua k).2) (tokW (takeW (q :: s) ub k).1 (takeW (q :: s) ub k).2)) ∧
      outT (tokW (takeW (p :: r) ua k).1 (takeW (p :: r) ua k).2) = inT (tokW (takeW (q :: s) ub k).1 (takeW (q :: s) ub k).2) ∧ ((tokW (p :: r) ua).length : Int) = k + (tokW (takeW (p :: r) ua k).1 (takeW (p :: r) ua k).2).length ∧ ((tokW (q :: s) ub).length : Int) = k + (tokW (takeW (q :: s) ub k).1 (takeW (q :: s) ub k).2).length ∧
      (textW (p :: r) ua k).length ≤ k.toNat := by
  have hua := oka.2
  have hub := okb.2
  simp only at hua hub
  have a1 := tok_chunk oka ⟨hk, hka⟩
  have a2 := chunk_len oka ⟨hk, hka⟩
  have b1 := tok_chunk okb ⟨hk, hkb⟩
  have b2 := chunk_len okb ⟨hk, hkb⟩
  have hpb := okP_bd (oka.1 p (by simp))
  have hqb := okP_bd (okb.1 q (by simp))
  have ho := outT_chunk p ua k (oka.1 p (by simp)) ⟨hk, hka⟩ hua.1
  have hi := inT_chunk q ub k (okb.1 q (by simp))
  rw [if_neg h3] at ho
  rw [if_neg h2] at hi
  have e : ((k.toNat : Nat) : Int) = k := by omega
  refine ⟨?_, ?_, ?_, ?_, ?_⟩
  · rw [a1, b1]
    have cb : chunk q ub k = List.replicate k.toNat (if q.kind = 1 then .keep else .cut) := by unfold chunk; rw [if_neg h2]
    rw [cb]
    unfold cmpStep
    by_cases p1 : p.kind = 1
    · have ca : chunk p ua k = List.replicate k.toNat .keep := by unfold chunk; rw [if_neg (by omega), if_pos p1]
      rw [ca]
      by_cases q3 : q.kind = 3
      · rw [if_neg (by omega : ¬ q.kind = 1), if_pos ⟨p1, q3⟩, cmp_kcs, Mk.run_app, Mk.run_cut, e]
      · rw [if_pos (by omega : q.kind = 1), if_neg (fun h => q3 h.2), if_pos p1, cmp_kks, Mk.run_app, Mk.run_keep, e]
    · have p2 : p.kind = 2 := by omega
      have ca : chunk p ua k = ((p.text.drop ua.toNat).take k.toNat).map .put := by unfold chunk; rw [if_pos p2]
      rw [ca] at a2 ⊢
      rw [List.length_map] at a2
      by_cases q3 : q.kind = 3
      · rw [if_neg (by omega : ¬ q.kind = 1), if_neg (fun h => p1 h.1), if_neg p1, if_neg (fun h => h q3)]
        rw [cmp_pcs' _ _ a2]
      · rw [if_pos (by omega : q.kind = 1), if_neg (fun h => p1 h.1), if_neg p1, if_pos q3]
        rw [cmp_pks' _ _ a2, Mk.run_app, Mk.run_put]
  · rw [a1, b1, outT_app, inT_app] at hio; omega
  · rw [a1, List.length_append, a2]; omega
  · rw [b1, List.length_append, b2]; omega
  · simp only [textW]; split <;> simp; omega
def compF (a b : List Part) : List Part × Int := if checkF a ≠ 0 then ([], checkF a) else if checkF b ≠ 0 then ([], checkF b) else if outF a ≠ inF b then ([], 4) else (mkD (cmp (toks a) (toks b)), 0)

structure YC (ts : List Tok) where
  la : List Part
  ua : Int
  lb : List Part
  ub : Int
  ra : List (List V)
  rb : List (List V)
  m : Mk
  n : Nat
  put : List UInt8
  cut : Int
  rows : List (List V)
  ba : Option Nat
  j : Nat
  hra : ra = la.map encPart
  hrb : rb = lb.map encPart
  hm : n = m.out.length ∧ rows = m.out.map encPart ∧ put = m.put ∧ cut = m.cut
  oka : WkOk la ua
  okb : WkOk lb ub
  hrun : Mk.new.run ts = m.run (cmp (tokW la ua) (tokW lb ub))
  hio : outT (tokW la ua) = inT (tokW lb ub)
  hb : m.Bd j j
  hj : j + (tokW la ua).length + (tokW lb ub).length ≤ 10000
theorem compT_len : ∀ (f : Nat) (xs ys : List Tok), (compT f xs ys).length ≤ xs.length + ys.length := by
  intro f
  induction f with
  | zero => intro xs ys; simp [compT]
  | succ f ih =>
    intro xs ys
    rcases xs with _ | ⟨x, xs⟩
    · rcases ys with _ | ⟨y, ys⟩
      · simp [compT]
      · cases y <;> simp only [compT, List.length_cons, List.length_nil] <;> (try omega)
        have := ih [] ys; simp at this; omega
    · rcases ys with _ | ⟨y, ys⟩
      · cases x <;> simp only [compT, List.length_cons, List.length_nil] <;> (try omega)
        have := ih xs []; simp at this; omega
      · cases x <;> cases y <;> simp only [compT, List.length_cons]
        all_goals first
          | (have := ih xs ys; omega)
          | (refine Nat.le_trans (Nat.succ_le_succ (ih _ _)) ?_; simp only [List.length_cons]; omega)
          | (refine Nat.le_trans (ih _ _) ?_; simp only [List.length_cons]; omega)
theorem comp_len (a b : List Part) : (compF a b).1.length ≤ 10000000 := by
  unfold compF
  split
  · simp
  · split
    · simp
    · split
      · simp
      · rename_i h1 h2 h3
        have za : checkF a = 0 := Decidable.of_not_not h1
        have zb : checkF b = 0 := Decidable.of_not_not h2
        have hlen : ∀ ts : List Tok, ts.length ≤ inT ts + outT ts := by
          intro ts
          induction ts with
          | nil => simp
          | cons t ts ih => cases t <;> simp [inT, kepts, outT] at * <;> omega
        obtain ⟨_, hoka, ha1, ha2, _, _⟩ := checkF_all za
        obtain ⟨_, hokb, hb1, hb2, _, _⟩ := checkF_all zb
        have e1 := outT_toks a hoka
        have e2 := inT_toks a hoka
        have e3 := inT_toks b hokb
        have e4 := outT_toks b hokb
        have l1 := hlen (toks a)
        have l2 := hlen (toks b)
        have := compT_len ((toks a).length + (toks b).length) (toks a) (toks b)
        refine mkD_len _ ?_
        show (compT _ _ _).length ≤ _
        omega
end Go.Proofs.Ytobngncjflogcaa.AM
