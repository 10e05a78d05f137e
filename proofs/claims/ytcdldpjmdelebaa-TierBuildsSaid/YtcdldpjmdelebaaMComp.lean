/-
  Two deltas as one: the program's way.
-/
import Derived.Test.YtcdldpjmdelebaaMWalk
import Derived.Test.YtcdldpjmdelebaaBC
set_option linter.unusedVariables false
set_option linter.unusedSimpArgs false
namespace Go.Proofs.Ytcdldpjmdelebaa.AM
open Go
set_option maxRecDepth 100000
set_option maxHeartbeats 2000000
/-! plain -/
def cmp (xs ys : List Tok) : List Tok := compT (xs.length + ys.length) xs ys
theorem compT_fuel : ∀ (f : Nat) (xs ys : List Tok), xs.length + ys.length ≤ f → compT f xs ys = cmp xs ys := by
  have key : ∀ (f g : Nat) (xs ys : List Tok), xs.length + ys.length ≤ f → xs.length + ys.length ≤ g → compT f xs ys = compT g xs ys := by
    intro f
    induction f with
    | zero =>
      intro g xs ys h _
      have h1 : xs = [] := List.eq_nil_of_length_eq_zero (by omega)
      have h2 : ys = [] := List.eq_nil_of_length_eq_zero (by omega)
      subst h1 h2
      cases g <;> rfl
    | succ f ih =>
      intro g xs ys h1 h2
      cases g with
      | zero =>
        have e1 : xs = [] := List.eq_nil_of_length_eq_zero (by omega)
        have e2 : ys = [] := List.eq_nil_of_length_eq_zero (by omega)
        subst e1 e2
        rfl
      | succ g =>
        rcases xs with _ | ⟨x, xs⟩
        · rcases ys with _ | ⟨y, ys⟩
          · rfl
          · simp at h1 h2
            cases y <;> simp only [compT]
            rw [ih g [] ys (by simp; omega) (by simp; omega)]
        · rcases ys with _ | ⟨y, ys⟩
          · simp at h1 h2
            cases x <;> simp only [compT]
            rw [ih g xs [] (by simp; omega) (by simp; omega)]
          · simp at h1 h2
            cases x <;> cases y <;> simp only [compT]
            all_goals (rw [ih g _ _ (by first | omega | (simp; omega)) (by first | omega | (simp; omega))])
  exact fun f xs ys h => key _ _ xs ys h (Nat.le_refl _)
theorem cmp_cut (xs ys : List Tok) : cmp (.cut :: xs) ys = .cut :: cmp xs ys := by
  unfold cmp
  rw [show (Tok.cut :: xs).length + ys.length = (xs.length + ys.length) + 1 by simp; omega]
  rfl
theorem cmp_put (xs ys : List Tok) (b : UInt8) (h : ∀ r, xs ≠ .cut :: r) : cmp xs (.put b :: ys) = .put b :: cmp xs ys := by
  unfold cmp
  rw [show xs.length + (Tok.put b :: ys).length = (xs.length + ys.length) + 1 by simp; omega, compT]
  intro r hr
  exact h r hr
theorem cmp_kk (xs ys : List Tok) : cmp (.keep :: xs) (.keep :: ys) = .keep :: cmp xs ys := by
  conv => lhs; unfold cmp
  rw [show (Tok.keep :: xs).length + (Tok.keep :: ys).length = (xs.length + ys.length + 1) + 1 by simp; omega, compT, compT_fuel _ _ _ (by omega)]
theorem cmp_kc (xs ys : List Tok) : cmp (.keep :: xs) (.cut :: ys) = .cut :: cmp xs ys := by
  conv => lhs; unfold cmp
  rw [show (Tok.keep :: xs).length + (Tok.cut :: ys).length = (xs.length + ys.length + 1) + 1 by simp; omega, compT, compT_fuel _ _ _ (by omega)]
theorem cmp_pk (xs ys : List Tok) (b : UInt8) : cmp (.put b :: xs) (.keep :: ys) = .put b :: cmp xs ys := by
  conv => lhs; unfold cmp
  rw [show (Tok.put b :: xs).length + (Tok.keep :: ys).length = (xs.length + ys.length + 1) + 1 by simp; omega, compT, compT_fuel _ _ _ (by omega)]
theorem cmp_pc (xs ys : List Tok) (b : UInt8) : cmp (.put b :: xs) (.cut :: ys) = cmp xs ys := by
  conv => lhs; unfold cmp
  rw [show (Tok.put b :: xs).length + (Tok.cut :: ys).length = (xs.length + ys.length + 1) + 1 by simp; omega, compT, compT_fuel _ _ _ (by omega)]
theorem cmp_cuts (n : Nat) (xs ys : List Tok) : cmp (List.replicate n .cut ++ xs) ys = List.replicate n .cut ++ cmp xs ys := by
  induction n with
  | zero => rfl
  | succ n ih => rw [List.replicate_succ, List.cons_append, cmp_cut, ih]; rfl
theorem cmp_puts (t : List UInt8) (xs ys : List Tok) (h : ∀ r, xs ≠ .cut :: r) : cmp xs (t.map .put ++ ys) = t.map .put ++ cmp xs ys := by
  induction t with
  | nil => rfl
  | cons b t ih => rw [List.map_cons, List.cons_append, cmp_put _ _ _ h, ih]; rfl
theorem cmp_kks (n : Nat) (xs ys : List Tok) : cmp (List.replicate n .keep ++ xs) (List.replicate n .keep ++ ys) = List.replicate n .keep ++ cmp xs ys := by
  induction n with
  | zero => rfl
  | succ n ih => simp only [List.replicate_succ, List.cons_append, cmp_kk, ih]
theorem cmp_kcs (n : Nat) (xs ys : List Tok) : cmp (List.replicate n .keep ++ xs) (List.replicate n .cut ++ ys) = List.replicate n .cut ++ cmp xs ys := by
  induction n with
  | zero => rfl
  | succ n ih => simp only [List.replicate_succ, List.cons_append, cmp_kc, ih]
theorem cmp_pks (t : List UInt8) (xs ys : List Tok) : cmp (t.map .put ++ xs) (List.replicate t.length .keep ++ ys) = t.map .put ++ cmp xs ys := by
  induction t with
  | nil => rfl
  | cons b t ih => simp only [List.length_cons, List.replicate_succ, List.map_cons, List.cons_append, cmp_pk, ih]
theorem cmp_pcs (t : List UInt8) (xs ys : List Tok) : cmp (t.map .put ++ xs) (List.replicate t.length .cut ++ ys) = cmp xs ys := by
  induction t with
  | nil => rfl
  | cons b t ih => simp only [List.length_cons, List.replicate_succ, List.map_cons, List.cons_append, cmp_pc, ih]
theorem cmp_pks' (t : List UInt8) (n : Nat) (hn : t.length = n) (xs ys : List Tok) : cmp (t.map .put ++ xs) (List.replicate n .keep ++ ys) = t.map .put ++ cmp xs ys := by subst hn; exact cmp_pks t xs ys
theorem cmp_pcs' (t : List UInt8) (n : Nat) (hn : t.length = n) (xs ys : List Tok) : cmp (t.map .put ++ xs) (List.replicate n .cut ++ ys) = cmp xs ys := by subst hn; exact cmp_pcs t xs ys
/-- what comes of one step of so many bytes -/
def cmpStep (m : Mk) (px py : Part) (ux n : Int) : Mk := if px.kind = 1 ∧ py.kind = 3 then m.doCut n else if px.kind = 1 then m.doKeep n else if py.kind ≠ 3 then m.doPut ((px.text.drop ux.toNat).take n.toNat) else m
theorem tok_empty {l : List Part} {u : Int} (h : WkOk l u) : tokW l u = [] ↔ l = [] := by
  constructor
  · intro h1
    cases l with
    | nil => rfl
    | cons p r =>
      have h2 := h.2
      simp only at h2
      have := tok_chunk h (k := sizeP p - u) ⟨by omega, by omega⟩
      rw [h1] at this
      have h3 := chunk_len h (k := sizeP p - u) ⟨by omega, by omega⟩
      have h4 : (chunk p u (sizeP p - u)) = [] := (List.append_eq_nil_iff.1 this.symm).1
      rw [h4] at h3
      simp at h3
      omega
  · rintro rfl; simp [tokW, toks]
theorem outT_chunk (p : Part) (u k : Int) (hp : okP p) (hk : 0 ≤ k ∧ u + k ≤ sizeP p) (hu : 0 ≤ u) : outT (chunk p u k) = if p.kind = 3 then 0 else k.toNat := by
  have h1 := okP_bd hp
  unfold chunk
  split
  · rename_i h2
    rw [outT_map, if_neg (by omega)]
    have : sizeP p = p.text.length := by simp [sizeP, h2]
    simp; omega
  · rw [outT_rep]
    by_cases h3 : p.kind = 1
    · simp [h3]
    · have : p.kind = 3 := by omega
      simp [this]
theorem inT_chunk (p : Part) (u k : Int) (hp : okP p) : inT (chunk p u k) = if p.kind = 2 then 0 else k.toNat := by
  have h1 := okP_bd hp
  unfold chunk
  split
  · unfold inT; rw [kepts_put]; rfl
  · have := kepts_app_n [] (if p.kind = 1 then Tok.keep else Tok.cut) (by split <;> simp) k.toNat
    simp only [List.nil_append, kepts] at this
    simp [inT, this]
theorem step_cut {p : Part} {r lb : List Part} {ua ub : Int} {m : Mk} (oka : WkOk (p :: r) ua) (h3 : p.kind = 3) (hio : outT (tokW (p :: r) ua) = inT (tokW lb ub)) :
    m.run (cmp (tokW (p :: r) ua) (tokW lb ub)) = (m.doCut (sizeP p - ua)).run (cmp (tokW (takeW (p :: r) ua (sizeP p - ua)).1 (takeW (p :: r) ua (sizeP p - ua)).2) (tokW lb ub)) ∧ outT (tokW (takeW (p :: r) ua (sizeP p - ua)).1 (takeW (p :: r) ua (sizeP p - ua)).2) = inT (tokW lb ub) ∧
      ((tokW (p :: r) ua).length : Int) = (sizeP p - ua) + (tokW (takeW (p :: r) ua (sizeP p - ua)).1 (takeW (p :: r) ua (sizeP p - ua)).2).length := by
  have hu := oka.2
  simp only at hu
  have hk : 0 ≤ sizeP p - ua ∧ ua + (sizeP p - ua) ≤ sizeP p := by omega
  have h1 := tok_chunk oka hk
  have h2 := chunk_len oka hk
  have hc : chunk p ua (sizeP p - ua) = List.replicate (sizeP p - ua).toNat .cut := by unfold chunk; rw [if_neg (by omega), if_neg (by omega)]
  have ho := outT_chunk p ua (sizeP p - ua) (oka.1 p (by simp)) hk hu.1
  rw [if_pos h3] at ho
  refine ⟨?_, ?_, ?_⟩
  · rw [h1, hc, cmp_cuts, Mk.run_app, Mk.run_cut]; congr 2; omega
  · rw [h1, outT_app] at hio; omega
  · rw [h1, List.length_append, h2]; omega
theorem not_cut {p : Part} {r : List Part} {u : Int} (ok : WkOk (p :: r) u) (h3 : p.kind ≠ 3) : ∀ q, tokW (p :: r) u ≠ .cut :: q := by
  intro q hq
  have hu := ok.2
  simp only at hu
  have hk : 0 ≤ sizeP p - u ∧ u + (sizeP p - u) ≤ sizeP p := by omega
  have h1 := tok_chunk ok hk
  have h2 := chunk_len ok hk
  have hb := okP_bd (ok.1 p (by simp))
  have hne : ∃ x xs, chunk p u (sizeP p - u) = x :: xs ∧ x ≠ .cut := by
    unfold chunk at h2 ⊢
    split
    · rename_i k2
      rw [if_pos k2] at h2
      cases hd : (List.drop u.toNat p.text).take (sizeP p - u).toNat with
      | nil => rw [hd] at h2; simp at h2; omega
      | cons x xs => exact ⟨_, _, rfl, by simp⟩
    · rename_i k2
      obtain ⟨n, hn⟩ : ∃ n, (sizeP p - u).toNat = n + 1 := ⟨(sizeP p - u).toNat - 1, by omega⟩
      rw [hn, List.replicate_succ, if_pos (by omega)]
      exact ⟨_, _, rfl, by simp⟩
  obtain ⟨x, xs, hx, hc⟩ := hne
  rw [h1, hx] at hq
  simp at hq
  exact hc hq.1
theorem step_put {q : Part} {s la : List Part} {ua ub : Int} {m : Mk} (okb : WkOk (q :: s) ub) (h2 : q.kind = 2) (hla : ∀ r, tokW la ua ≠ .cut :: r) (hio : outT (tokW la ua) = inT (tokW (q :: s) ub)) :
    m.run (cmp (tokW la ua) (tokW (q :: s) ub)) = (m.doPut (textW (q :: s) ub (sizeP q - ub))).run (cmp (tokW la ua) (tokW (takeW (q :: s) ub (sizeP q - ub)).1 (takeW (q :: s) ub (sizeP q - ub)).2)) ∧ outT (tokW la ua) = inT (tokW (takeW (q :: s) ub (sizeP q - ub)).1 (takeW (q :: s) ub (sizeP q - ub)).2) ∧
      ((tokW (q :: s) ub).length : Int) = (sizeP q - ub) + (tokW (takeW (q :: s) ub (sizeP q - ub)).1 (takeW (q :: s) ub (sizeP q - ub)).2).length ∧ (textW (q :: s) ub (sizeP q - ub)).length = (sizeP q - ub).toNat := by
  have hu := okb.2
  simp only at hu
  have hk : 0 ≤ sizeP q - ub ∧ ub + (sizeP q - ub) ≤ sizeP q := by omega
  have h1 := tok_chunk okb hk
  have h3 := chunk_len okb hk
  have hc : chunk q ub (sizeP q - ub) = (textW (q :: s) ub (sizeP q - ub)).map .put := by unfold chunk; rw [if_pos h2]; simp [textW, h2]
  have ho := inT_chunk q ub (sizeP q - ub) (okb.1 q (by simp))
  rw [if_pos h2] at ho
  refine ⟨?_, ?_, ?_, ?_⟩
  · rw [h1, hc, cmp_puts _ _ _ hla, Mk.run_app, Mk.run_put]
  · rw [h1, inT_app] at hio; omega
  · rw [h1, List.length_append, h3]; omega
  · rw [hc, List.length_map] at h3; exact h3
theorem step_both {p q : Part} {r s : List Part} {ua ub k : Int} {m : Mk} (oka : WkOk (p :: r) ua) (okb : WkOk (q :: s) ub) (h3 : p.kind ≠ 3) (h2 : q.kind ≠ 2) (hk : 0 ≤ k) (hka : ua + k ≤ sizeP p) (hkb : ub + k ≤ sizeP q) (hio : outT (tokW (p :: r) ua) = inT (tokW (q :: s) ub)) :
    m.run (cmp (tokW (p :: r) ua) (tokW (q :: s) ub)) = (cmpStep m p q ua k).run (cmp (tokW (takeW (p :: r) ua k).1 (takeW (p :: r) ua k).2) (tokW (takeW (q :: s) ub k).1 (takeW (q :: s) ub k).2)) ∧
      outT (tokW (takeW (p :: r) ua k).1 (takeW (p :: r) ua k).2) = inT (tokW (takeW (q :: s) ub k).1 (takeW (q :: s) ub k).2) ∧ ((tokW (p :: r) ua).length : Int) = k + (tokW (takeW (p :: r) ua k).1 (takeW (p :: r) ua k).2).length ∧ ((tokW (q :: s) ub).length : Int) = k + (tokW (takeW (q :: s) ub k).1 (takeW (q :: s) ub k).2).length ∧
      (textW (p :: r) ua k).length ≤ k.toNat := by
  have hua := oka.2
  have hub := okb.2
  simp only at hua hub
  have a1 := tok_chunk oka ⟨hk, hka⟩
  have a2 := chunk_len oka ⟨hk, hka⟩
  have b1 := tok_chunk okb ⟨hk, hkb⟩
  have b2 := chunk_len okb ⟨hk, hkb⟩
  have hpb := okP_bd (oka.1 p (by simp))
  have hqb := okP_bd (okb.1 q (by simp))
  have ho := outT_chunk p ua k (oka.1 p (by simp)) ⟨hk, hka⟩ hua.1
  have hi := inT_chunk q ub k (okb.1 q (by simp))
  rw [if_neg h3] at ho
  rw [if_neg h2] at hi
  have e : ((k.toNat : Nat) : Int) = k := by omega
  refine ⟨?_, ?_, ?_, ?_, ?_⟩
  · rw [a1, b1]
    have cb : chunk q ub k = List.replicate k.toNat (if q.kind = 1 then .keep else .cut) := by unfold chunk; rw [if_neg h2]
    rw [cb]
    unfold cmpStep
    by_cases p1 : p.kind = 1
    · have ca : chunk p ua k = List.replicate k.toNat .keep := by unfold chunk; rw [if_neg (by omega), if_pos p1]
      rw [ca]
      by_cases q3 : q.kind = 3
      · rw [if_neg (by omega : ¬ q.kind = 1), if_pos ⟨p1, q3⟩, cmp_kcs, Mk.run_app, Mk.run_cut, e]
      · rw [if_pos (by omega : q.kind = 1), if_neg (fun h => q3 h.2), if_pos p1, cmp_kks, Mk.run_app, Mk.run_keep, e]
    · have p2 : p.kind = 2 := by omega
      have ca : chunk p ua k = ((p.text.drop ua.toNat).take k.toNat).map .put := by unfold chunk; rw [if_pos p2]
      rw [ca] at a2 ⊢
      rw [List.length_map] at a2
      by_cases q3 : q.kind = 3
      · rw [if_neg (by omega : ¬ q.kind = 1), if_neg (fun h => p1 h.1), if_neg p1, if_neg (fun h => h q3)]
        rw [cmp_pcs' _ _ a2]
      · rw [if_pos (by omega : q.kind = 1), if_neg (fun h => p1 h.1), if_neg p1, if_pos q3]
        rw [cmp_pks' _ _ a2, Mk.run_app, Mk.run_put]
  · rw [a1, b1, outT_app, inT_app] at hio; omega
  · rw [a1, List.length_append, a2]; omega
  · rw [b1, List.length_append, b2]; omega
  · simp only [textW]; split <;> simp; omega
def compF (a b : List Part) : List Part × Int := if checkF a ≠ 0 then ([], checkF a) else if checkF b ≠ 0 then ([], checkF b) else if outF a ≠ inF b then ([], 4) else (mkD (cmp (toks a) (toks b)), 0)

def ac_comp : AC := .seq (.region false [
    ⟨some 4, none, .mov (.c (.slice none 0 0))⟩,
    ⟨some 5, none, .mov (.c (.int .i64 0))⟩])
  (.seq (.region false [
    ⟨some 20, none, .mov (.t 0)⟩,
    ⟨some 21, none, .call 92 [(.t 20)]⟩,
    ⟨some 19, none, .mov (.t 21)⟩,
    ⟨some 22, none, .ext 0 (.t 19)⟩,
    ⟨some 23, none, .ext 1 (.t 19)⟩,
    ⟨some 24, none, .ext 2 (.t 19)⟩,
    ⟨some 6, none, .mov (.t 22)⟩,
    ⟨some 7, none, .mov (.t 23)⟩,
    ⟨some 8, none, .mov (.t 24)⟩])
  (.seq (.seq (.region false [
    ⟨some 25, none, .mov (.t 8)⟩,
    ⟨some 26, none, .bin .neq (.t 25) (.c (.int .i64 0))⟩])
  (.cond (.t 26)
    (.seq (.region false [
      ⟨some 27, none, .mov (.t 8)⟩,
      ⟨some 4, none, .mov (.c (.slice none 0 0))⟩,
      ⟨some 5, none, .mov (.t 27)⟩])
    (.ret))
    (.skip)))
  (.seq (.region false [
    ⟨some 29, none, .mov (.t 1)⟩,
    ⟨some 30, none, .call 92 [(.t 29)]⟩,
    ⟨some 28, none, .mov (.t 30)⟩,
    ⟨some 31, none, .ext 0 (.t 28)⟩,
    ⟨some 32, none, .ext 1 (.t 28)⟩,
    ⟨some 33, none, .ext 2 (.t 28)⟩,
    ⟨some 9, none, .mov (.t 31)⟩,
    ⟨some 10, none, .mov (.t 32)⟩,
    ⟨some 8, none, .mov (.t 33)⟩])
  (.seq (.seq (.region false [
    ⟨some 34, none, .mov (.t 8)⟩,
    ⟨some 35, none, .bin .neq (.t 34) (.c (.int .i64 0))⟩])
  (.cond (.t 35)
    (.seq (.region false [
      ⟨some 36, none, .mov (.t 8)⟩,
      ⟨some 4, none, .mov (.c (.slice none 0 0))⟩,
      ⟨some 5, none, .mov (.t 36)⟩])
    (.ret))
    (.skip)))
  (.seq (.seq (.region false [
    ⟨some 37, none, .mov (.t 7)⟩,
    ⟨some 38, none, .mov (.t 9)⟩,
    ⟨some 39, none, .bin .neq (.t 37) (.t 38)⟩])
  (.cond (.t 39)
    (.seq (.region false [
      ⟨some 4, none, .mov (.c (.slice none 0 0))⟩,
      ⟨some 5, none, .mov (.c (.int .i64 4))⟩])
    (.ret))
    (.skip)))
  (.seq (.region false [
    ⟨some 11, none, .alloc 161 [(.slice none 0 0), (.string ⟨#[]⟩), (.int .i64 0)]⟩])
  (.seq (.region false [
    ⟨some 40, none, .mov (.t 0)⟩,
    ⟨some 41, none, .call 95 [(.t 40)]⟩,
    ⟨some 42, none, .mov (.t 1)⟩,
    ⟨some 43, none, .call 95 [(.t 42)]⟩,
    ⟨some 12, none, .mov (.t 41)⟩,
    ⟨some 13, none, .mov (.t 43)⟩])
  (.seq (.block 0 (.loop (.seq (.seq (.region false [
      ⟨some 44, none, .mov (.t 12)⟩,
      ⟨some 45, none, .call 96 [(.t 44)]⟩,
      ⟨some 46, none, .bin .neq (.t 45) (.c (.int .i64 0))⟩,
      ⟨some 47, none, .mov (.t 46)⟩,
      ⟨some 48, some (47, false), .mov (.t 13)⟩,
      ⟨some 49, some (47, false), .call 96 [(.t 48)]⟩,
      ⟨some 50, some (47, false), .bin .neq (.t 49) (.c (.int .i64 0))⟩,
      ⟨some 51, none, .pick (.t 47) (.c (.bool true)) (.t 50)⟩])
    (.cond (.t 51)
      (.skip)
      (.exit 0)))
    (.block 1 (.block 2 (.seq (.region false [
      ⟨some 86, none, .mov (.t 12)⟩,
      ⟨some 87, none, .call 96 [(.t 86)]⟩,
      ⟨some 88, none, .bin .eql (.t 87) (.c (.int .i64 3))⟩,
      ⟨some 85, none, .mov (.t 88)⟩])
    (.cond (.t 85)
      (.seq (.region false [
        ⟨some 89, none, .mov (.t 12)⟩,
        ⟨some 90, none, .call 98 [(.t 89)]⟩,
        ⟨some 14, none, .mov (.t 90)⟩])
      (.seq (.region false [
        ⟨some 91, none, .mov (.t 12)⟩,
        ⟨some 92, none, .mov (.t 14)⟩,
        ⟨some 93, none, .call 97 [(.t 91), (.t 92)]⟩])
      (.region false [
        ⟨some 94, none, .mov (.t 14)⟩,
        ⟨some 95, none, .call 101 [(.t 11), (.t 94)]⟩])))
      (.seq (.region false [
        ⟨some 97, none, .mov (.t 13)⟩,
        ⟨some 98, none, .call 96 [(.t 97)]⟩,
        ⟨some 99, none, .bin .eql (.t 98) (.c (.int .i64 2))⟩,
        ⟨some 96, none, .mov (.t 99)⟩])
      (.cond (.t 96)
        (.region false [
          ⟨some 100, none, .mov (.t 13)⟩,
          ⟨some 101, none, .mov (.t 13)⟩,
          ⟨some 102, none, .call 98 [(.t 101)]⟩,
          ⟨some 103, none, .call 97 [(.t 100), (.t 102)]⟩,
          ⟨some 104, none, .call 99 [(.t 11), (.t 103)]⟩])
        (.seq (.region false [
          ⟨some 52, none, .mov (.t 12)⟩,
          ⟨some 53, none, .call 98 [(.t 52)]⟩,
          ⟨some 54, none, .mov (.t 13)⟩,
          ⟨some 55, none, .call 98 [(.t 54)]⟩,
          ⟨some 56, none, .mm false (.t 53) (.t 55)⟩,
          ⟨some 15, none, .mov (.t 56)⟩])
        (.seq (.region false [
          ⟨some 57, none, .mov (.t 12)⟩,
          ⟨some 58, none, .call 96 [(.t 57)]⟩,
          ⟨some 59, none, .bin .eql (.t 58) (.c (.int .i64 1))⟩,
          ⟨some 60, none, .mov (.t 13)⟩,
          ⟨some 61, none, .call 96 [(.t 60)]⟩,
          ⟨some 62, none, .bin .eql (.t 61) (.c (.int .i64 3))⟩,
          ⟨some 16, none, .mov (.t 59)⟩,
          ⟨some 17, none, .mov (.t 62)⟩])
        (.seq (.region false [
          ⟨some 63, none, .mov (.t 12)⟩,
          ⟨some 64, none, .mov (.t 15)⟩,
          ⟨some 65, none, .call 97 [(.t 63), (.t 64)]⟩,
          ⟨some 18, none, .mov (.t 65)⟩])
        (.seq (.region false [
          ⟨some 66, none, .mov (.t 13)⟩,
          ⟨some 67, none, .mov (.t 15)⟩,
          ⟨some 68, none, .call 97 [(.t 66), (.t 67)]⟩])
        (.block 3 (.seq (.region false [
          ⟨some 70, none, .mov (.t 16)⟩,
          ⟨some 71, none, .mov (.t 70)⟩,
          ⟨some 72, some (71, true), .mov (.t 17)⟩,
          ⟨some 73, none, .pick (.t 71) (.t 72) (.c (.bool false))⟩,
          ⟨some 69, none, .mov (.t 73)⟩])
        (.cond (.t 69)
          (.region false [
            ⟨some 74, none, .mov (.t 15)⟩,
            ⟨some 75, none, .call 101 [(.t 11), (.t 74)]⟩])
          (.seq (.region false [
            ⟨some 77, none, .mov (.t 16)⟩,
            ⟨some 76, none, .mov (.t 77)⟩])
          (.cond (.t 76)
            (.region false [
              ⟨some 78, none, .mov (.t 15)⟩,
              ⟨some 79, none, .call 100 [(.t 11), (.t 78)]⟩])
            (.seq (.region false [
              ⟨some 81, none, .mov (.t 17)⟩,
              ⟨some 82, none, .not (.t 81)⟩,
              ⟨some 80, none, .mov (.t 82)⟩])
            (.cond (.t 80)
              (.region false [
                ⟨some 83, none, .mov (.t 18)⟩,
                ⟨some 84, none, .call 99 [(.t 11), (.t 83)]⟩])
              (.skip)))))))))))))))))))))
  (.seq (.region false [
    ⟨some 105, none, .call 102 [(.t 11)]⟩,
    ⟨some 4, none, .mov (.t 105)⟩,
    ⟨some 5, none, .mov (.c (.int .i64 0))⟩])
  (.ret))))))))))
theorem ok_comp : FnOk Try.prog 54 Try.f54 ac_comp [.t 4, .t 5] 2 drawD := ⟨Try.func54, by decide +kernel, by kernel_rfl, by kernel_rfl, by decide +kernel⟩
structure YC (ts : List Tok) where
  la : List Part
  ua : Int
  lb : List Part
  ub : Int
  ra : List (List V)
  rb : List (List V)
  m : Mk
  n : Nat
  put : List UInt8
  cut : Int
  rows : List (List V)
  ba : Option Nat
  j : Nat
  hra : ra = la.map encPart
  hrb : rb = lb.map encPart
  hm : n = m.out.length ∧ rows = m.out.map encPart ∧ put = m.put ∧ cut = m.cut
  oka : WkOk la ua
  okb : WkOk lb ub
  hrun : Mk.new.run ts = m.run (cmp (tokW la ua) (tokW lb ub))
  hio : outT (tokW la ua) = inT (tokW lb ub)
  hb : m.Bd j j
  hj : j + (tokW la ua).length + (tokW lb ub).length ≤ 10000
theorem vc_comp (P : Prim) (hP : P = std) (T T1 : CallT) (a b : List Part) (ra0 rb0 : List (List V)) (hra0 : ra0 = a.map encPart) (hrb0 : rb0 = b.map encPart)
    (hkeep : ∀ k : Int, 0 ≤ k ∧ k ≤ 1000000 → MkC T 100 [.int .i64 k] (fun m => ∃ j w, m.Bd j w ∧ j ≤ 2000000) (fun m => m.doKeep k) unitR)
    (hput : ∀ s : List UInt8, s.length ≤ 1000000000 → MkC T 99 [.str s] (fun m => m.put.length + s.length ≤ 1000000000) (fun m => m.doPut s) unitR)
    (hcut : ∀ k : Int, 0 ≤ k ∧ k ≤ 1000000 → MkC T 101 [.int .i64 k] (fun m => ∃ j w, m.Bd j w ∧ j ≤ 2000000) (fun m => m.doCut k) unitR)
    (hdone : MkC T 102 [] (fun m => m.out.length ≤ 100000000) (fun m => ⟨m.flush, [], 0⟩) doneR)
    (hwalk : WalkC T) (hkind : WkC T 96 (fun _ _ => True) (fun l _ => kindW l) true) (hleft : WkC T 98 (fun l u => l ≠ [] ∧ WkOk l u) (fun l u => sizeL l - u) true) (htake : TakeC T)
    (i1 o1 c1 i2 o2 c2 : Int) (hs1 : szF a = (i1, o1, c1)) (hs2 : szF b = (i2, o2, c2))
    (hc1 : Ans T 92 [.sl false 3 ra0] (.tup [.int .i64 i1, .int .i64 o1, .int .i64 c1])) (hc2 : Ans T 92 [.sl false 3 rb0] (.tup [.int .i64 i2, .int .i64 o2, .int .i64 c2]))
    (r : List Part) (e : Int) (hr : compF a b = (r, e)) (rr : List (List V)) (hrr : rr = r.map encPart)
    (R : S → Prop) (hR : ∀ e2, e2 = e → RetSl [.t 4, .t 5] 3 rr [.int .i64 e2] R) : awp P T T1 ac_comp (S0 [.sl false 3 ra0, .sl false 3 rb0] Hp.emp) R (fun _ _ => False) R := by
  have q1 : c1 = checkF a ∧ (checkF a = 0 → o1 = outF a) := by
    unfold szF at hs1
    by_cases h : checkF a = 0
    · rw [if_pos h] at hs1; simp only [Prod.mk.injEq] at hs1; exact ⟨by omega, fun _ => hs1.2.1.symm⟩
    · rw [if_neg h] at hs1; simp only [Prod.mk.injEq] at hs1; exact ⟨hs1.2.2.symm, fun hh => absurd hh h⟩
  have q2 : c2 = checkF b ∧ (checkF b = 0 → i2 = inF b) := by
    unfold szF at hs2
    by_cases h : checkF b = 0
    · rw [if_pos h] at hs2; simp only [Prod.mk.injEq] at hs2; exact ⟨by omega, fun _ => hs2.1.symm⟩
    · rw [if_neg h] at hs2; simp only [Prod.mk.injEq] at hs2; exact ⟨hs2.2.2.symm, fun hh => absurd hh h⟩
  clear hs1 hs2
  unfold compF at hr
  rw [← q1.1, ← q2.1] at hr
  cbv
  refine hc1 _ _ ?_
  clear hc1
  cbv
  refine br_cases (fun h => ?_) (fun h => ?_)
  · have hcn : c1 ≠ 0 := ne_t hP h
    rw [if_pos hcn] at hr
    simp only [Prod.mk.injEq] at hr
    cbv
    exact (hR _ hr.2).1 _ _ (Ent.refl _) rfl (by rw [hrr, ← hr.1]; rfl)
  have hz1 : c1 = 0 := ne_f hP h
  rw [if_neg (fun h => h hz1)] at hr
  cbv
  refine hc2 _ _ ?_
  clear hc2
  cbv
  refine br_cases (fun h => ?_) (fun h => ?_)
  · have hcn : c2 ≠ 0 := ne_t hP h
    rw [if_pos hcn] at hr
    simp only [Prod.mk.injEq] at hr
    cbv
    exact (hR _ hr.2).1 _ _ (Ent.refl _) rfl (by rw [hrr, ← hr.1]; rfl)
  have hz2 : c2 = 0 := ne_f hP h
  rw [if_neg (fun h => h hz2)] at hr
  have za : checkF a = 0 := q1.1.symm.trans hz1
  have zb : checkF b = 0 := q2.1.symm.trans hz2
  rw [← q1.2 za, ← q2.2 zb] at hr
  cbv
  refine br_cases (fun h => ?_) (fun h => ?_)
  · have hcn : o1 ≠ i2 := ne_t hP h
    rw [if_pos hcn] at hr
    simp only [Prod.mk.injEq] at hr
    cbv
    exact (hR _ hr.2).1 _ _ (Ent.refl _) rfl (by rw [hrr, ← hr.1]; rfl)
  have hoi : o1 = i2 := ne_f hP h
  rw [if_neg (fun h => h hoi)] at hr
  simp only [Prod.mk.injEq] at hr
  rw [q1.2 za, q2.2 zb] at hoi
  obtain ⟨hla, hoka, ha1, ha2, _, _⟩ := checkF_all za
  obtain ⟨hlb, hokb, hb1, hb2, _, _⟩ := checkF_all zb
  have hTa := outT_toks a hoka
  have hTa2 := inT_toks a hoka
  have hTb := inT_toks b hokb
  have hTb2 := outT_toks b hokb
  have hlen : ∀ ts : List Tok, ts.length ≤ inT ts + outT ts := by
    intro ts
    induction ts with
    | nil => simp
    | cons t ts ih => cases t <;> simp [inT, kepts, outT] at * <;> omega
  have hl1 := hlen (toks a)
  have hl2 := hlen (toks b)
  have ok0 : ∀ (l : List Part), (∀ p ∈ l, okP p) → WkOk l 0 := by
    intro l hl
    refine ⟨hl, ?_⟩
    cases l with
    | nil => rfl
    | cons p l => exact ⟨Int.le_refl _, size_pos (hl p (by simp))⟩
  have tk0 : ∀ l : List Part, tokW l 0 = toks l := fun l => by simp [tokW]
  clear h
  cbv
  intro β11
  cbv
  refine hwalk 2000 a _ _ _ hra0 rfl rfl fun bx => ?_
  cbv
  refine hwalk 2001 b _ _ _ hrb0 rfl rfl fun bz => ?_
  clear hwalk
  cbv
  refine ⟨YC (cmp (toks a) (toks b)), fun y => [(11, .ptr 11 (some β11) 3 0 0), (12, .ptr 2000 (some bx) 2 0 0), (13, .ptr 2001 (some bz) 2 0 0)],
    fun y => [(11, ⟨some β11, 161, 3, [[.own 1000999 y.ba 3 y.n, .str y.put, .int .i64 y.cut]]⟩), (1000999, ⟨y.ba, 112, 3, y.rows⟩), (2000, ⟨some bx, 191, 2, [[.sl false 3 y.ra, .int .i64 y.ua]]⟩), (2001, ⟨some bz, 191, 2, [[.sl false 3 y.rb, .int .i64 y.ub]]⟩)],
    fun y => (tokW y.la y.ua).length + (tokW y.lb y.ub).length,
    ⟨_, Ent.nilcell (k := 11) (k' := 1000999) (ty := 112) (sz := 3) (r := 0) (c := 0) rfl rfl rfl rfl, ⟨a, 0, b, 0, ra0, rb0, Mk.new, _, _, _, _, _, 0, hra0, hrb0, ⟨rfl, rfl, rfl, rfl⟩, ok0 a hoka, ok0 b hokb, by rw [tk0, tk0], by rw [tk0, tk0]; ((try simp only [nc] at *); omega), Mk.bd_new, by rw [tk0, tk0]; ((try simp only [nc] at *); omega)⟩, ⟨rfl, rfl, rfl, trivial⟩, ⟨rfl, rfl, rfl, rfl, trivial⟩⟩, ?_⟩
  rintro ⟨la, ua, lb, ub, ra, rb, m, n, put, cut, mrows, bm, j, hra, hrb, hm, oka, okb, hrun, hio, hb, hj⟩
  have hbp := hb.put
  have hbl := hb.len
  cbv
  refine hkind _ _ _ _ _ _ _ hra trivial rfl fun kx hkx => ?_
  cbv
  rcases la with _ | ⟨p, la⟩
  · -- nothing is left of the first
    have hx0 : kx = 0 := hkx
    refine br_ff (ne_F hP hx0) ?_
    cbv
    refine hkind _ _ _ _ _ _ _ hrb trivial rfl fun ky hky => ?_
    cbv
    rcases lb with _ | ⟨q, lb⟩
    · -- both are over
      have hy0 : ky = 0 := hky
      refine br_ff (ne_F hP hy0) ?_
      cbv
      refine hdone _ _ _ _ _ _ _ _ m _ _ hm (by omega) rfl rfl rfl fun ba' n' put' cut' rows' hm' => ?_
      obtain ⟨hn', hrows', _, _⟩ := hm'
      have hfin : r = m.flush := by
        rw [← hr.1]; show (Mk.new.run _).flush = _; rw [hrun]; simp [tokW, toks, cmp, compT, Mk.run]
      cbv
      exact (hR _ hr.2).2.1 _ _ _ _ _ _ _ (Ent.refl _) rfl rfl ⟨by rw [hrr, hfin, hn']; simp, by rw [hrr, hfin, hrows']⟩
    · have hyk : ky = q.kind := hky
      have hq2 : q.kind = 2 := by
        have hqb := okP_bd (okb.1 q (by simp))
        by_cases h2 : q.kind = 2
        · exact h2
        · exfalso
          have hu := okb.2
          simp only at hu
          have hk : 0 ≤ sizeP q - ub ∧ ub + (sizeP q - ub) ≤ sizeP q := by omega
          rw [tok_chunk okb hk, inT_app, inT_chunk q ub _ (okb.1 q (by simp)), if_neg h2] at hio
          simp [tokW, toks, outT] at hio
          omega
      obtain ⟨s1, s2, s3, s4⟩ := step_put (m := m) okb hq2 (la := []) (ua := ua) (by intro r hr; simp [tokW, toks] at hr) hio
      have hu := okb.2
      simp only at hu
      have hk : 0 ≤ sizeP q - ub ∧ ub + (sizeP q - ub) ≤ sizeP q := by omega
      have hsz := size_le (okb.1 q (by simp))
      refine br_tt (ne_T hP (by omega)) ?_
      cbv
      refine hkind _ _ _ _ _ _ _ hra trivial rfl fun kx2 hkx2 => ?_
      have hx2 : kx2 = 0 := hkx2
      cbv
      refine br_ff (eq_F hP (by omega)) ?_
      cbv
      refine hkind _ _ _ _ _ _ _ hrb trivial rfl fun ky2 hky2 => ?_
      have hy2 : ky2 = q.kind := hky2
      cbv
      refine br_tt (eq_T hP (by omega)) ?_
      cbv
      refine hleft _ _ _ _ _ _ _ hrb ⟨by simp, okb⟩ rfl fun ql hql => ?_
      have hql2 : ql = sizeP q - ub := hql
      cbv
      refine htake _ _ q lb ub ql _ _ _ hrb okb (by omega) rfl fun qs rows' u' e1 e2 e3 => ?_
      rw [hql2] at e1 e2 e3
      cbv
      have pc := hput qs (by rw [e1, s4]; omega)
      refine pc _ _ _ _ _ _ _ _ m _ _ hm (by rw [e1, s4]; omega) rfl rfl rfl fun ba' n' put' cut' rows2 hm' => ?_
      cbv
      refine ⟨_, Ent.refl _, ⟨[], ua, (takeW (q :: lb) ub (sizeP q - ub)).1, _, _, _, m.doPut qs, _, _, _, _, _, j + (sizeP q - ub).toNat, hra, e2, hm', oka, by rw [e3]; exact takeW_ok okb hk, ?_, ?_, ?_, ?_⟩, ⟨rfl, rfl, rfl, trivial⟩, ⟨rfl, rfl, rfl, rfl, trivial⟩, ?_⟩
      · rw [hrun, s1, e1, e3]
      · rw [e3]; exact s2
      · exact (hb.doPut qs).mono (by omega) (by rw [e1, s4]; omega)
      · rw [e3]; ((try simp only [nc] at *); omega)
      · show (tokW [] ua).length + (tokW (takeW (q :: lb) ub (sizeP q - ub)).1 u').length < (tokW [] ua).length + (tokW (q :: lb) ub).length
        rw [e3]; ((try simp only [nc] at *); omega)
  · have hxk : kx = p.kind := hkx
    have hpb := okP_bd (oka.1 p (by simp))
    have hua := oka.2
    simp only at hua
    refine br_tt (ne_T hP (by omega)) ?_
    cbv
    refine hkind _ _ _ _ _ _ _ hra trivial rfl fun kx2 hkx2 => ?_
    have hx2 : kx2 = p.kind := hkx2
    cbv
    by_cases p3 : p.kind = 3
    · -- bytes are cut
      obtain ⟨s1, s2, s3⟩ := step_cut (m := m) oka p3 hio
      have hk : 0 ≤ sizeP p - ua ∧ ua + (sizeP p - ua) ≤ sizeP p := by omega
      have hsz := size_le (oka.1 p (by simp))
      refine br_tt (eq_T hP (by omega)) ?_
      cbv
      refine hleft _ _ _ _ _ _ _ hra ⟨by simp, oka⟩ rfl fun ql hql => ?_
      have hql2 : ql = sizeP p - ua := hql
      cbv
      refine htake _ _ p la ua ql _ _ _ hra oka (by omega) rfl fun qs rows' u' e1 e2 e3 => ?_
      rw [hql2] at e1 e2 e3
      cbv
      have pc := hcut ql (by omega)
      refine pc _ _ _ _ _ _ _ _ m _ _ hm ⟨_, _, hb, by omega⟩ rfl rfl rfl fun ba' n' put' cut' rows2 hm' => ?_
      rw [hql2] at hm'
      cbv
      refine ⟨_, Ent.refl _, ⟨(takeW (p :: la) ua (sizeP p - ua)).1, _, lb, ub, _, _, m.doCut (sizeP p - ua), _, _, _, _, _, j + (sizeP p - ua).toNat, e2, hrb, hm', by rw [e3]; exact takeW_ok oka hk, okb, ?_, ?_, ?_, ?_⟩, ⟨rfl, rfl, rfl, trivial⟩, ⟨rfl, rfl, rfl, rfl, trivial⟩, ?_⟩
      · rw [hrun, s1, e3]
      · rw [e3]; exact s2
      · exact (hb.doCut _ hk.1).mono (by omega) (by omega)
      · rw [e3]; ((try simp only [nc] at *); omega)
      · show (tokW (takeW (p :: la) ua (sizeP p - ua)).1 u').length + (tokW lb ub).length < (tokW (p :: la) ua).length + (tokW lb ub).length
        rw [e3]; ((try simp only [nc] at *); omega)
    · refine br_ff (eq_F hP (by omega)) ?_
      cbv
      rcases lb with _ | ⟨q, lb⟩
      · exfalso
        have hk : 0 ≤ sizeP p - ua ∧ ua + (sizeP p - ua) ≤ sizeP p := by omega
        rw [tok_chunk oka hk, outT_app, outT_chunk p ua _ (oka.1 p (by simp)) hk hua.1, if_neg p3] at hio
        simp [tokW, toks, inT, kepts] at hio
        omega
      refine hkind _ _ _ _ _ _ _ hrb trivial rfl fun ky2 hky2 => ?_
      have hy2 : ky2 = q.kind := hky2
      have hqb := okP_bd (okb.1 q (by simp))
      have hub := okb.2
      simp only at hub
      cbv
      by_cases q2 : q.kind = 2
      · obtain ⟨s1, s2, s3, s4⟩ := step_put (m := m) okb q2 (not_cut oka p3) hio
        have hk : 0 ≤ sizeP q - ub ∧ ub + (sizeP q - ub) ≤ sizeP q := by omega
        have hsz := size_le (okb.1 q (by simp))
        refine br_tt (eq_T hP (by omega)) ?_
        cbv
        refine hleft _ _ _ _ _ _ _ hrb ⟨by simp, okb⟩ rfl fun ql hql => ?_
        have hql2 : ql = sizeP q - ub := hql
        cbv
        refine htake _ _ q lb ub ql _ _ _ hrb okb (by omega) rfl fun qs rows' u' e1 e2 e3 => ?_
        rw [hql2] at e1 e2 e3
        cbv
        have pc := hput qs (by rw [e1, s4]; omega)
        refine pc _ _ _ _ _ _ _ _ m _ _ hm (by rw [e1, s4]; omega) rfl rfl rfl fun ba' n' put' cut' rows2 hm' => ?_
        cbv
        refine ⟨_, Ent.refl _, ⟨p :: la, ua, (takeW (q :: lb) ub (sizeP q - ub)).1, _, _, _, m.doPut qs, _, _, _, _, _, j + (sizeP q - ub).toNat, hra, e2, hm', oka, by rw [e3]; exact takeW_ok okb hk, ?_, ?_, ?_, ?_⟩, ⟨rfl, rfl, rfl, trivial⟩, ⟨rfl, rfl, rfl, rfl, trivial⟩, ?_⟩
        · rw [hrun, s1, e1, e3]
        · rw [e3]; exact s2
        · exact (hb.doPut qs).mono (by omega) (by rw [e1, s4]; omega)
        · rw [e3]; ((try simp only [nc] at *); omega)
        · show (tokW (p :: la) ua).length + (tokW (takeW (q :: lb) ub (sizeP q - ub)).1 u').length < (tokW (p :: la) ua).length + (tokW (q :: lb) ub).length
          rw [e3]; ((try simp only [nc] at *); omega)
      · refine br_ff (eq_F hP (by omega)) ?_
        cbv
        refine hleft _ _ _ _ _ _ _ hra ⟨by simp, oka⟩ rfl fun q1 hq1 => ?_
        have hq1 : q1 = sizeP p - ua := hq1
        cbv
        refine hleft _ _ _ _ _ _ _ hrb ⟨by simp, okb⟩ rfl fun q2' hq2 => ?_
        have hq2 : q2' = sizeP q - ub := hq2
        cbv
        refine hkind _ _ _ _ _ _ _ hra trivial rfl fun kx3 hkx3 => ?_
        have hx3 : kx3 = p.kind := hkx3
        cbv
        refine hkind _ _ _ _ _ _ _ hrb trivial rfl fun ky3 hky3 => ?_
        have hy3 : ky3 = q.kind := hky3
        cbv
        obtain ⟨k, hk⟩ : ∃ k, P.mn q1 q2' = k := ⟨_, rfl⟩
        have hkv : k = min q1 q2' := by rw [← hk, mn_eq hP]
        have hk1 : 0 < k ∧ ua + k ≤ sizeP p ∧ ub + k ≤ sizeP q := by omega
        obtain ⟨s1, s2, s3, s4, s5⟩ := step_both (m := m) (k := k) oka okb p3 q2 (by omega) hk1.2.1 hk1.2.2 hio
        have hsz := size_le (oka.1 p (by simp))
        refine htake _ _ p la ua (P.mn q1 q2') _ _ _ hra oka (by rw [hk]; omega) rfl fun qs1 rows1 u1 e1 e2 e3 => ?_
        rw [hk] at e1 e2 e3
        cbv
        refine htake _ _ q lb ub (P.mn q1 q2') _ _ _ hrb okb (by rw [hk]; omega) rfl fun qs2 rows2 u2 f1 f2 f3 => ?_
        rw [hk] at f1 f2 f3
        cbv
        by_cases p1 : p.kind = 1
        · refine br_tt (eq_T hP (by omega)) ?_
          cbv
          by_cases q3 : q.kind = 3
          · have hst : cmpStep m p q ua k = m.doCut k := by simp [cmpStep, p1, q3]
            refine br_tt (eq_T hP (by omega)) ?_
            cbv
            have cc := hcut (P.mn q1 q2') (by rw [hk]; omega)
            refine cc _ _ _ _ _ _ _ _ m _ _ hm ⟨_, _, hb, by omega⟩ rfl rfl rfl fun ba' n' put' cut' mr2 hm' => ?_
            rw [hk] at hm'
            cbv
            refine ⟨_, Ent.refl _, ⟨(takeW (p :: la) ua k).1, _, (takeW (q :: lb) ub k).1, _, _, _, m.doCut k, _, _, _, _, _, j + k.toNat, e2, f2, hm', by rw [e3]; exact takeW_ok oka ⟨by omega, hk1.2.1⟩, by rw [f3]; exact takeW_ok okb ⟨by omega, hk1.2.2⟩, by rw [hrun, s1, e3, f3, hst], by rw [e3, f3]; exact s2, ?_, by rw [e3, f3]; ((try simp only [nc] at *); omega)⟩, ⟨rfl, rfl, rfl, trivial⟩, ⟨rfl, rfl, rfl, rfl, trivial⟩, ?_⟩
            · exact (hb.doCut _ (by omega)).mono (by omega) (by omega)
            · show (tokW (takeW (p :: la) ua k).1 u1).length + (tokW (takeW (q :: lb) ub k).1 u2).length < (tokW (p :: la) ua).length + (tokW (q :: lb) ub).length
              rw [e3, f3]; ((try simp only [nc] at *); omega)
          · have hst : cmpStep m p q ua k = m.doKeep k := by simp [cmpStep, p1, q3]
            refine br_ff (eq_F hP (by omega)) ?_
            cbv
            refine br_tt (eq_T hP (by omega)) ?_
            cbv
            have cc := hkeep (P.mn q1 q2') (by rw [hk]; omega)
            refine cc _ _ _ _ _ _ _ _ m _ _ hm ⟨_, _, hb, by omega⟩ rfl rfl rfl fun ba' n' put' cut' mr2 hm' => ?_
            rw [hk] at hm'
            cbv
            refine ⟨_, Ent.refl _, ⟨(takeW (p :: la) ua k).1, _, (takeW (q :: lb) ub k).1, _, _, _, m.doKeep k, _, _, _, _, _, j + k.toNat, e2, f2, hm', by rw [e3]; exact takeW_ok oka ⟨by omega, hk1.2.1⟩, by rw [f3]; exact takeW_ok okb ⟨by omega, hk1.2.2⟩, by rw [hrun, s1, e3, f3, hst], by rw [e3, f3]; exact s2, ?_, by rw [e3, f3]; ((try simp only [nc] at *); omega)⟩, ⟨rfl, rfl, rfl, trivial⟩, ⟨rfl, rfl, rfl, rfl, trivial⟩, ?_⟩
            · exact (hb.doKeep _ (by omega)).mono (by omega) (by omega)
            · show (tokW (takeW (p :: la) ua k).1 u1).length + (tokW (takeW (q :: lb) ub k).1 u2).length < (tokW (p :: la) ua).length + (tokW (q :: lb) ub).length
              rw [e3, f3]; ((try simp only [nc] at *); omega)
        · refine br_ff (eq_F hP (by omega)) ?_
          cbv
          refine br_ff (eq_F hP (by omega)) ?_
          cbv
          by_cases q3 : q.kind = 3
          · have hst : cmpStep m p q ua k = m := by simp [cmpStep, p1, q3]
            refine br_tt (eq_T hP (by omega)) ?_
            cbv
            refine ⟨_, Ent.refl _, ⟨(takeW (p :: la) ua k).1, _, (takeW (q :: lb) ub k).1, _, _, _, m, _, _, _, _, _, j + k.toNat, e2, f2, hm, by rw [e3]; exact takeW_ok oka ⟨by omega, hk1.2.1⟩, by rw [f3]; exact takeW_ok okb ⟨by omega, hk1.2.2⟩, by rw [hrun, s1, e3, f3, hst], by rw [e3, f3]; exact s2, ?_, by rw [e3, f3]; ((try simp only [nc] at *); omega)⟩, ⟨rfl, rfl, rfl, trivial⟩, ⟨rfl, rfl, rfl, rfl, trivial⟩, ?_⟩
            · exact hb.mono (by omega) (by omega)
            · show (tokW (takeW (p :: la) ua k).1 u1).length + (tokW (takeW (q :: lb) ub k).1 u2).length < (tokW (p :: la) ua).length + (tokW (q :: lb) ub).length
              rw [e3, f3]; ((try simp only [nc] at *); omega)
          · have htx : textW (p :: la) ua k = (p.text.drop ua.toNat).take k.toNat := by simp only [textW]; rw [if_pos (by omega)]
            have hst : cmpStep m p q ua k = m.doPut qs1 := by rw [e1, htx]; simp [cmpStep, p1, q3]
            refine br_ff (eq_F hP (by omega)) ?_
            cbv
            have cc := hput qs1 (by rw [e1]; omega)
            refine cc _ _ _ _ _ _ _ _ m _ _ hm (by rw [e1]; omega) rfl rfl rfl fun ba' n' put' cut' mr2 hm' => ?_
            cbv
            refine ⟨_, Ent.refl _, ⟨(takeW (p :: la) ua k).1, _, (takeW (q :: lb) ub k).1, _, _, _, m.doPut qs1, _, _, _, _, _, j + k.toNat, e2, f2, hm', by rw [e3]; exact takeW_ok oka ⟨by omega, hk1.2.1⟩, by rw [f3]; exact takeW_ok okb ⟨by omega, hk1.2.2⟩, by rw [hrun, s1, e3, f3, hst], by rw [e3, f3]; exact s2, ?_, by rw [e3, f3]; ((try simp only [nc] at *); omega)⟩, ⟨rfl, rfl, rfl, trivial⟩, ⟨rfl, rfl, rfl, rfl, trivial⟩, ?_⟩
            · exact (hb.doPut qs1).mono (by omega) (by rw [e1]; omega)
            · show (tokW (takeW (p :: la) ua k).1 u1).length + (tokW (takeW (q :: lb) ub k).1 u2).length < (tokW (p :: la) ua).length + (tokW (q :: lb) ub).length
              rw [e3, f3]; ((try simp only [nc] at *); omega)
theorem compT_len : ∀ (f : Nat) (xs ys : List Tok), (compT f xs ys).length ≤ xs.length + ys.length := by
  intro f
  induction f with
  | zero => intro xs ys; simp [compT]
  | succ f ih =>
    intro xs ys
    rcases xs with _ | ⟨x, xs⟩
    · rcases ys with _ | ⟨y, ys⟩
      · simp [compT]
      · cases y <;> simp only [compT, List.length_cons, List.length_nil] <;> (try omega)
        have := ih [] ys; simp at this; omega
    · rcases ys with _ | ⟨y, ys⟩
      · cases x <;> simp only [compT, List.length_cons, List.length_nil] <;> (try omega)
        have := ih xs []; simp at this; omega
      · cases x <;> cases y <;> simp only [compT, List.length_cons]
        all_goals first
          | (have := ih xs ys; omega)
          | (refine Nat.le_trans (Nat.succ_le_succ (ih _ _)) ?_; simp only [List.length_cons]; omega)
          | (refine Nat.le_trans (ih _ _) ?_; simp only [List.length_cons]; omega)
theorem comp_len (a b : List Part) : (compF a b).1.length ≤ 10000000 := by
  unfold compF
  split
  · simp
  · split
    · simp
    · split
      · simp
      · rename_i h1 h2 h3
        have za : checkF a = 0 := Decidable.of_not_not h1
        have zb : checkF b = 0 := Decidable.of_not_not h2
        have hlen : ∀ ts : List Tok, ts.length ≤ inT ts + outT ts := by
          intro ts
          induction ts with
          | nil => simp
          | cons t ts ih => cases t <;> simp [inT, kepts, outT] at * <;> omega
        obtain ⟨_, hoka, ha1, ha2, _, _⟩ := checkF_all za
        obtain ⟨_, hokb, hb1, hb2, _, _⟩ := checkF_all zb
        have e1 := outT_toks a hoka
        have e2 := inT_toks a hoka
        have e3 := inT_toks b hokb
        have e4 := outT_toks b hokb
        have l1 := hlen (toks a)
        have l2 := hlen (toks b)
        have := compT_len ((toks a).length + (toks b).length) (toks a) (toks b)
        refine mkD_len _ ?_
        show (compT _ _ _).length ≤ _
        omega
theorem sp_comp (a b : List Part) (ha : a.length ≤ maxLen) (hb : b.length ≤ maxLen) : Spec Try.prog 54 [encParts a, encParts b] Hp.emp (Is (.tup [encParts (compF a b).1, .int .i64 (compF a b).2])) :=
  spec_frz dOk ok_comp fun R hR => vc_comp std rfl _ _ a b _ _ rfl rfl (fun k hk => keepC k hk) (fun s hs => putC s hs) (fun k hk => cutC k hk) doneC walkC kindE_call leftE_call takeC _ _ _ _ _ _ rfl rfl (ansL (sp_szs a ha) rfl) (ansL (sp_szs b hb) rfl) _ _ rfl _ rfl R fun e2 he => by
    subst he
    exact retSl_of (parts_sz _) (encParts_fz _) (int_fz _) fun s s' he hr => hR s s' he hr
end Go.Proofs.Ytcdldpjmdelebaa.AM
