/-
  Texts of the plain machine, put together: what the law TopArchive reaches.
-/
import Derived.Test.YtobngncjflogcaaTopArchive13
import Derived.Test.YtobngncjflogcaaTopArchive6
import Derived.Test.YtobngncjflogcaaTopArchive5
import Derived.Test.YtobngncjflogcaaTopArchive11
set_option linter.unusedVariables false
set_option linter.unusedSimpArgs false
namespace Go.Proofs.Ytobngncjflogcaa.AM
open Go
set_option maxRecDepth 100000
set_option maxHeartbeats 2000000
def mt (xs ys : List Tok) : List Tok × List Tok := meetT (xs.length + ys.length) xs ys
theorem meetT_fuel : ∀ (f : Nat) (xs ys : List Tok), xs.length + ys.length ≤ f → meetT f xs ys = mt xs ys := by
  have key : ∀ (f g : Nat) (xs ys : List Tok), xs.length + ys.length ≤ f → xs.length + ys.length ≤ g → meetT f xs ys = meetT g xs ys := by
    intro f
    induction f with
    | zero =>
      intro g xs ys h _
      have h1 : xs = [] := List.eq_nil_of_length_eq_zero (by omega)
      have h2 : ys = [] := List.eq_nil_of_length_eq_zero (by omega)
      subst h1 h2
      cases g <;> rfl
    | succ f ih =>
      intro g xs ys h1 h2
      cases g with
      | zero =>
        have e1 : xs = [] := List.eq_nil_of_length_eq_zero (by omega)
        have e2 : ys = [] := List.eq_nil_of_length_eq_zero (by omega)
        subst e1 e2
        rfl
      | succ g =>
        rcases xs with _ | ⟨x, xs⟩
        · rcases ys with _ | ⟨y, ys⟩
          · rfl
          · simp at h1 h2
            cases y <;> simp only [meetT]
            rw [ih g [] ys (by simp; omega) (by simp; omega)]
        · rcases ys with _ | ⟨y, ys⟩
          · simp at h1 h2
            cases x <;> simp only [meetT]
            rw [ih g xs [] (by simp; omega) (by simp; omega)]
          · simp at h1 h2
            cases x <;> cases y <;> simp only [meetT]
            all_goals (rw [ih g _ _ (by first | omega | (simp; omega)) (by first | omega | (simp; omega))])
  exact fun f xs ys h => key _ _ xs ys h (Nat.le_refl _)
theorem mt_p1 (xs ys : List Tok) (b : UInt8) : mt (.put b :: xs) ys = (.put b :: (mt xs ys).1, .keep :: (mt xs ys).2) := by
  unfold mt
  rw [show (Tok.put b :: xs).length + ys.length = (xs.length + ys.length) + 1 by simp; omega]
  rfl
theorem mt_p2 (xs ys : List Tok) (b : UInt8) (h : ∀ c r, xs ≠ .put c :: r) : mt xs (.put b :: ys) = (.keep :: (mt xs ys).1, .put b :: (mt xs ys).2) := by
  unfold mt
  rw [show xs.length + (Tok.put b :: ys).length = (xs.length + ys.length) + 1 by simp; omega, meetT]
  intro c r hr
  exact h c r hr
theorem mt_kk (xs ys : List Tok) : mt (.keep :: xs) (.keep :: ys) = (.keep :: (mt xs ys).1, .keep :: (mt xs ys).2) := by
  conv => lhs; unfold mt
  rw [show (Tok.keep :: xs).length + (Tok.keep :: ys).length = (xs.length + ys.length + 1) + 1 by simp; omega, meetT, meetT_fuel _ _ _ (by omega)]
theorem mt_ck (xs ys : List Tok) : mt (.cut :: xs) (.keep :: ys) = (.cut :: (mt xs ys).1, (mt xs ys).2) := by
  conv => lhs; unfold mt
  rw [show (Tok.cut :: xs).length + (Tok.keep :: ys).length = (xs.length + ys.length + 1) + 1 by simp; omega, meetT, meetT_fuel _ _ _ (by omega)]
theorem mt_kc (xs ys : List Tok) : mt (.keep :: xs) (.cut :: ys) = ((mt xs ys).1, .cut :: (mt xs ys).2) := by
  conv => lhs; unfold mt
  rw [show (Tok.keep :: xs).length + (Tok.cut :: ys).length = (xs.length + ys.length + 1) + 1 by simp; omega, meetT, meetT_fuel _ _ _ (by omega)]
theorem mt_cc (xs ys : List Tok) : mt (.cut :: xs) (.cut :: ys) = mt xs ys := by
  conv => lhs; unfold mt
  rw [show (Tok.cut :: xs).length + (Tok.cut :: ys).length = (xs.length + ys.length + 1) + 1 by simp; omega, meetT, meetT_fuel _ _ _ (by omega)]
theorem mt_p1s (t : List UInt8) (xs ys : List Tok) : mt (t.map .put ++ xs) ys = (t.map .put ++ (mt xs ys).1, List.replicate t.length .keep ++ (mt xs ys).2) := by
  induction t with
  | nil => rfl
  | cons b t ih => simp only [List.map_cons, List.cons_append, mt_p1, ih, List.length_cons, List.replicate_succ]
theorem mt_p2s (t : List UInt8) (xs ys : List Tok) (h : ∀ c r, xs ≠ .put c :: r) : mt xs (t.map .put ++ ys) = (List.replicate t.length .keep ++ (mt xs ys).1, t.map .put ++ (mt xs ys).2) := by
  induction t with
  | nil => rfl
  | cons b t ih => simp only [List.map_cons, List.cons_append, mt_p2 _ _ _ h, ih, List.length_cons, List.replicate_succ]
theorem mt_kks (n : Nat) (xs ys : List Tok) : mt (List.replicate n .keep ++ xs) (List.replicate n .keep ++ ys) = (List.replicate n .keep ++ (mt xs ys).1, List.replicate n .keep ++ (mt xs ys).2) := by
  induction n with
  | zero => rfl
  | succ n ih => simp only [List.replicate_succ, List.cons_append, mt_kk, ih]
theorem mt_cks (n : Nat) (xs ys : List Tok) : mt (List.replicate n .cut ++ xs) (List.replicate n .keep ++ ys) = (List.replicate n .cut ++ (mt xs ys).1, (mt xs ys).2) := by
  induction n with
  | zero => rfl
  | succ n ih => simp only [List.replicate_succ, List.cons_append, mt_ck, ih]
theorem mt_kcs (n : Nat) (xs ys : List Tok) : mt (List.replicate n .keep ++ xs) (List.replicate n .cut ++ ys) = ((mt xs ys).1, List.replicate n .cut ++ (mt xs ys).2) := by
  induction n with
  | zero => rfl
  | succ n ih => simp only [List.replicate_succ, List.cons_append, mt_kc, ih]
theorem mt_ccs (n : Nat) (xs ys : List Tok) : mt (List.replicate n .cut ++ xs) (List.replicate n .cut ++ ys) = mt xs ys := by
  induction n with
  | zero => rfl
  | succ n ih => simp only [List.replicate_succ, List.cons_append, mt_cc, ih]
def meetStep1 (m : Mk) (px py : Part) (n : Int) : Mk := if px.kind = 1 ∧ py.kind = 1 then m.doKeep n else if px.kind = 3 ∧ py.kind = 1 then m.doCut n else m
def meetStep2 (m : Mk) (px py : Part) (n : Int) : Mk := if px.kind = 1 ∧ py.kind = 1 then m.doKeep n else if px.kind = 1 ∧ py.kind = 3 then m.doCut n else m
theorem not_put {p : Part} {r : List Part} {u : Int} (ok : WkOk (p :: r) u) (h2 : p.kind ≠ 2) : ∀ c q, tokW (p :: r) u ≠ .put c :: q := by
  intro c q hq
  have hu := ok.2
  simp only at hu
  have hk : 0 ≤ sizeP p - u ∧ u + (sizeP p - u) ≤ sizeP p := by omega
  have h1 := tok_chunk ok hk
  obtain ⟨n, hn⟩ : ∃ n, (sizeP p - u).toNat = n + 1 := ⟨(sizeP p - u).toNat - 1, by omega⟩
  have : chunk p u (sizeP p - u) = List.replicate (sizeP p - u).toNat (if p.kind = 1 then Tok.keep else Tok.cut) := by unfold chunk; rw [if_neg h2]
  rw [h1, this, hn, List.replicate_succ] at hq
  simp only [List.cons_append, List.cons.injEq] at hq
  have := hq.1
  split at this <;> cases this
theorem mstep_p1 {p : Part} {r lb : List Part} {ua ub : Int} (ok : WkOk (p :: r) ua) (h2 : p.kind = 2) (hio : inT (tokW (p :: r) ua) = inT (tokW lb ub)) :
    mt (tokW (p :: r) ua) (tokW lb ub) = ((textW (p :: r) ua (sizeP p - ua)).map .put ++ (mt (tokW (takeW (p :: r) ua (sizeP p - ua)).1 (takeW (p :: r) ua (sizeP p - ua)).2) (tokW lb ub)).1, List.replicate (textW (p :: r) ua (sizeP p - ua)).length .keep ++ (mt (tokW (takeW (p :: r) ua (sizeP p - ua)).1 (takeW (p :: r) ua (sizeP p - ua)).2) (tokW lb ub)).2) ∧
      inT (tokW (takeW (p :: r) ua (sizeP p - ua)).1 (takeW (p :: r) ua (sizeP p - ua)).2) = inT (tokW lb ub) ∧ ((tokW (p :: r) ua).length : Int) = (sizeP p - ua) + (tokW (takeW (p :: r) ua (sizeP p - ua)).1 (takeW (p :: r) ua (sizeP p - ua)).2).length ∧ (textW (p :: r) ua (sizeP p - ua)).length = (sizeP p - ua).toNat := by
  have hu := ok.2
  simp only at hu
  have hk : 0 ≤ sizeP p - ua ∧ ua + (sizeP p - ua) ≤ sizeP p := by omega
  have h1 := tok_chunk ok hk
  have h3 := chunk_len ok hk
  have hc : chunk p ua (sizeP p - ua) = (textW (p :: r) ua (sizeP p - ua)).map .put := by unfold chunk; rw [if_pos h2]; simp [textW, h2]
  have ho := inT_chunk p ua (sizeP p - ua) (ok.1 p (by simp))
  rw [if_pos h2] at ho
  refine ⟨?_, ?_, ?_, ?_⟩
  · rw [h1, hc, mt_p1s]
  · rw [h1, inT_app] at hio; omega
  · rw [h1, List.length_append, h3]; omega
  · rw [hc, List.length_map] at h3; exact h3
theorem mstep_p2 {q : Part} {s la : List Part} {ua ub : Int} (ok : WkOk (q :: s) ub) (h2 : q.kind = 2) (hla : ∀ c r, tokW la ua ≠ .put c :: r) (hio : inT (tokW la ua) = inT (tokW (q :: s) ub)) :
    mt (tokW la ua) (tokW (q :: s) ub) = (List.replicate (textW (q :: s) ub (sizeP q - ub)).length .keep ++ (mt (tokW la ua) (tokW (takeW (q :: s) ub (sizeP q - ub)).1 (takeW (q :: s) ub (sizeP q - ub)).2)).1, (textW (q :: s) ub (sizeP q - ub)).map .put ++ (mt (tokW la ua) (tokW (takeW (q :: s) ub (sizeP q - ub)).1 (takeW (q :: s) ub (sizeP q - ub)).2)).2) ∧
      inT (tokW la ua) = inT (tokW (takeW (q :: s) ub (sizeP q - ub)).1 (takeW (q :: s) ub (sizeP q - ub)).2) ∧ ((tokW (q :: s) ub).length : Int) = (sizeP q - ub) + (tokW (takeW (q :: s) ub (sizeP q - ub)).1 (takeW (q :: s) ub (sizeP q - ub)).2).length ∧ (textW (q :: s) ub (sizeP q - ub)).length = (sizeP q - ub).toNat := by
  have hu := ok.2
  simp only at hu
  have hk : 0 ≤ sizeP q - ub ∧ ub + (sizeP q - ub) ≤ sizeP q := by omega
  have h1 := tok_chunk ok hk
  have h3 := chunk_len ok hk
  have hc : chunk q ub (sizeP q - ub) = (textW (q :: s) ub (sizeP q - ub)).map .put := by unfold chunk; rw [if_pos h2]; simp [textW, h2]
  have ho := inT_chunk q ub (sizeP q - ub) (ok.1 q (by simp))
  rw [if_pos h2] at ho
  refine ⟨?_, ?_, ?_, ?_⟩
  · rw [h1, hc, mt_p2s _ _ _ hla]
  · rw [h1, inT_app] at hio; omega
  · rw [h1, List.length_append, h3]; omega
  · rw [hc, List.length_map] at h3; exact h3
theorem mstep_both {p q : Part} {r s : List Part} {ua ub k : Int} {m1 m2 : Mk} (oka : WkOk (p :: r) ua) (okb : WkOk (q :: s) ub) (h3 : p.kind ≠ 2) (h2 : q.kind ≠ 2) (hk : 0 ≤ k) (hka : ua + k ≤ sizeP p) (hkb : ub + k ≤ sizeP q) (hio : inT (tokW (p :: r) ua) = inT (tokW (q :: s) ub)) :
    m1.run (mt (tokW (p :: r) ua) (tokW (q :: s) ub)).1 = (meetStep1 m1 p q k).run (mt (tokW (takeW (p :: r) ua k).1 (takeW (p :: r) ua k).2) (tokW (takeW (q :: s) ub k).1 (takeW (q :: s) ub k).2)).1 ∧
    m2.run (mt (tokW (p :: r) ua) (tokW (q :: s) ub)).2 = (meetStep2 m2 p q k).run (mt (tokW (takeW (p :: r) ua k).1 (takeW (p :: r) ua k).2) (tokW (takeW (q :: s) ub k).1 (takeW (q :: s) ub k).2)).2 ∧
      inT (tokW (takeW (p :: r) ua k).1 (takeW (p :: r) ua k).2) = inT (tokW (takeW (q :: s) ub k).1 (takeW (q :: s) ub k).2) ∧ ((tokW (p :: r) ua).length : Int) = k + (tokW (takeW (p :: r) ua k).1 (takeW (p :: r) ua k).2).length ∧ ((tokW (q :: s) ub).length : Int) = k + (tokW (takeW (q :: s) ub k).1 (takeW (q :: s) ub k).2).length := by
  have hua := oka.2
  have hub := okb.2
  simp only at hua hub
  have a1 := tok_chunk oka ⟨hk, hka⟩
  have a2 := chunk_len oka ⟨hk, hka⟩
  have b1 := tok_chunk okb ⟨hk, hkb⟩
  have b2 := chunk_len okb ⟨hk, hkb⟩
  have hpb := okP_bd (oka.1 p (by simp))
  have hqb := okP_bd (okb.1 q (by simp))
  have ho := inT_chunk p ua k (oka.1 p (by simp))
  have hi := inT_chunk q ub k (okb.1 q (by simp))
  rw [if_neg h3] at ho
  rw [if_neg h2] at hi
  have e : ((k.toNat : Nat) : Int) = k := by omega
  have ca : chunk p ua k = List.replicate k.toNat (if p.kind = 1 then .keep else .cut) := by unfold chunk; rw [if_neg h3]
  have cb : chunk q ub k = List.replicate k.toNat (if q.kind = 1 then .keep else .cut) := by unfold chunk; rw [if_neg h2]
  have key : m1.run (mt (tokW (p :: r) ua) (tokW (q :: s) ub)).1 = (meetStep1 m1 p q k).run (mt (tokW (takeW (p :: r) ua k).1 (takeW (p :: r) ua k).2) (tokW (takeW (q :: s) ub k).1 (takeW (q :: s) ub k).2)).1 ∧
    m2.run (mt (tokW (p :: r) ua) (tokW (q :: s) ub)).2 = (meetStep2 m2 p q k).run (mt (tokW (takeW (p :: r) ua k).1 (takeW (p :: r) ua k).2) (tokW (takeW (q :: s) ub k).1 (takeW (q :: s) ub k).2)).2 := by
    rw [a1, b1, ca, cb]
    by_cases p1 : p.kind = 1
    · by_cases q1 : q.kind = 1
      · have z1 : meetStep1 m1 p q k = m1.doKeep k := by simp [meetStep1, p1, q1]
        have z2 : meetStep2 m2 p q k = m2.doKeep k := by simp [meetStep2, p1, q1]
        rw [if_pos p1, if_pos q1, z1, z2, mt_kks]
        simp only [Mk.run_app, Mk.run_keep, e, and_self]
      · have q3 : q.kind = 3 := by omega
        have z1 : meetStep1 m1 p q k = m1 := by simp [meetStep1, p1, q3]
        have z2 : meetStep2 m2 p q k = m2.doCut k := by simp [meetStep2, p1, q3]
        rw [if_pos p1, if_neg q1, z1, z2, mt_kcs]
        simp only [Mk.run_app, Mk.run_cut, e, and_self]
    · have p3 : p.kind = 3 := by omega
      by_cases q1 : q.kind = 1
      · have z1 : meetStep1 m1 p q k = m1.doCut k := by simp [meetStep1, p3, q1]
        have z2 : meetStep2 m2 p q k = m2 := by simp [meetStep2, p3]
        rw [if_neg p1, if_pos q1, z1, z2, mt_cks]
        simp only [Mk.run_app, Mk.run_cut, e, and_self]
      · have q3 : q.kind = 3 := by omega
        have z1 : meetStep1 m1 p q k = m1 := by simp [meetStep1, p3, q3]
        have z2 : meetStep2 m2 p q k = m2 := by simp [meetStep2, p3]
        rw [if_neg p1, if_neg q1, z1, z2, mt_ccs]
        exact ⟨rfl, rfl⟩
  refine ⟨key.1, key.2, ?_, ?_, ?_⟩
  · rw [a1, b1, inT_app, inT_app] at hio; omega
  · rw [a1, List.length_append, a2]; omega
  · rw [b1, List.length_append, b2]; omega
def meetC (a b : List Part) : List Part := mkD (mt (toks a) (toks b)).1
def meetD (a b : List Part) : List Part := mkD (mt (toks a) (toks b)).2
def meetE (a b : List Part) : Int := if checkF a ≠ 0 then checkF a else if checkF b ≠ 0 then checkF b else if inF a ≠ inF b then 4 else if checkF (meetC a b) ≠ 0 then checkF (meetC a b) else checkF (meetD a b)
def meetF (a b : List Part) : List Part × List Part × Int := if meetE a b = 0 then (meetC a b, meetD a b, 0) else ([], [], meetE a b)

def RetSl2 (rv : List RV) (r1 r2 : List (List V)) (e : Int) (R : S → Prop) : Prop :=
  (∀ (s s' : S) (e2 : Int), Ent s s' → Ret rv [.nilsl, .nilsl, .int .i64 e2] s' → r1 = [] ∧ r2 = [] ∧ e2 = e → R s) ∧
  (∀ (s s' : S) (k1 k2 : Nat) (b1 b2 : Option Nat) (t1 t2 n1 n2 : Nat) (w1 w2 : List (List V)) (e2 : Int), Ent s s' → Ret rv [.own k1 b1 3 n1, .own k2 b2 3 n2, .int .i64 e2] s' → s'.h k1 = some ⟨b1, t1, 3, w1⟩ → s'.h k2 = some ⟨b2, t2, 3, w2⟩ → n1 = r1.length ∧ n2 = r2.length ∧ w1 = r1 ∧ w2 = r2 ∧ e2 = e → R s) ∧
  (∀ (s s' : S) (w1 w2 : List (List V)) (e2 : Int), Ent s s' → Ret rv [.sl false 3 w1, .sl false 3 w2, .int .i64 e2] s' → w1 = r1 ∧ w2 = r2 ∧ e2 = e → R s)
theorem retSl2_of {rv : List RV} {a b : List Part} {e : Int} {R : S → Prop} (hR : ∀ s s', Ent s s' → RetF rv (.tup [encParts a, encParts b, .int .i64 e]) s' → R s) : RetSl2 rv (a.map encPart) (b.map encPart) e R := by
  refine ⟨?_, ?_, ?_⟩
  · rintro s s' e2 he hr ⟨h1, h2, rfl⟩
    refine hR s s' he (resV_mono _ _ _ (fun x hx => ?_) hr)
    subst hx
    unfold encParts
    rw [h1, h2]
    exact .tup_cons (.nilsl 3) (.tup_cons (.nilsl 3) (.tup_cons (.same _ (.int _ _)) .tup_nil))
  · rintro s s' k1 k2 b1 b2 t1 t2 n1 n2 w1 w2 e2 he hr g1 g2 ⟨rfl, rfl, rfl, rfl, rfl⟩
    refine hR s s' he (resV_mono _ _ _ (fun x hx => ?_) hr)
    subst hx
    exact .tup_cons (.rows g1 rfl rfl rfl (parts_sz _) (encParts_fz _)) (.tup_cons (.rows g2 rfl rfl rfl (parts_sz _) (encParts_fz _)) (.tup_cons (.same _ (.int _ _)) .tup_nil))
  · rintro s s' w1 w2 e2 he hr ⟨rfl, rfl, rfl⟩
    refine hR s s' he (resV_mono _ _ _ (fun x hx => ?_) hr)
    subst hx
    exact .tup_cons (.same _ (.sl _ _ (encParts_fz _))) (.tup_cons (.same _ (.sl _ _ (encParts_fz _))) (.tup_cons (.same _ (.int _ _)) .tup_nil))

def ac_meet : AC := .seq (.region false [
    ⟨some 4, none, .mov (.c (.slice none 0 0))⟩,
    ⟨some 5, none, .mov (.c (.slice none 0 0))⟩,
    ⟨some 6, none, .mov (.c (.int .i64 0))⟩])
  (.seq (.region false [
    ⟨some 26, none, .mov (.t 0)⟩,
    ⟨some 27, none, .call 67 [(.t 26)]⟩,
    ⟨some 25, none, .mov (.t 27)⟩,
    ⟨some 28, none, .ext 0 (.t 25)⟩,
    ⟨some 29, none, .ext 1 (.t 25)⟩,
    ⟨some 30, none, .ext 2 (.t 25)⟩,
    ⟨some 7, none, .mov (.t 28)⟩,
    ⟨some 8, none, .mov (.t 29)⟩,
    ⟨some 9, none, .mov (.t 30)⟩])
  (.seq (.seq (.region false [
    ⟨some 31, none, .mov (.t 9)⟩,
    ⟨some 32, none, .bin .neq (.t 31) (.c (.int .i64 0))⟩])
  (.cond (.t 32)
    (.seq (.region false [
      ⟨some 33, none, .mov (.t 9)⟩,
      ⟨some 4, none, .mov (.c (.slice none 0 0))⟩,
      ⟨some 5, none, .mov (.c (.slice none 0 0))⟩,
      ⟨some 6, none, .mov (.t 33)⟩])
    (.ret))
    (.skip)))
  (.seq (.region false [
    ⟨some 35, none, .mov (.t 1)⟩,
    ⟨some 36, none, .call 67 [(.t 35)]⟩,
    ⟨some 34, none, .mov (.t 36)⟩,
    ⟨some 37, none, .ext 0 (.t 34)⟩,
    ⟨some 38, none, .ext 1 (.t 34)⟩,
    ⟨some 39, none, .ext 2 (.t 34)⟩,
    ⟨some 10, none, .mov (.t 37)⟩,
    ⟨some 11, none, .mov (.t 38)⟩,
    ⟨some 9, none, .mov (.t 39)⟩])
  (.seq (.seq (.region false [
    ⟨some 40, none, .mov (.t 9)⟩,
    ⟨some 41, none, .bin .neq (.t 40) (.c (.int .i64 0))⟩])
  (.cond (.t 41)
    (.seq (.region false [
      ⟨some 42, none, .mov (.t 9)⟩,
      ⟨some 4, none, .mov (.c (.slice none 0 0))⟩,
      ⟨some 5, none, .mov (.c (.slice none 0 0))⟩,
      ⟨some 6, none, .mov (.t 42)⟩])
    (.ret))
    (.skip)))
  (.seq (.seq (.region false [
    ⟨some 43, none, .mov (.t 7)⟩,
    ⟨some 44, none, .mov (.t 10)⟩,
    ⟨some 45, none, .bin .neq (.t 43) (.t 44)⟩])
  (.cond (.t 45)
    (.seq (.region false [
      ⟨some 4, none, .mov (.c (.slice none 0 0))⟩,
      ⟨some 5, none, .mov (.c (.slice none 0 0))⟩,
      ⟨some 6, none, .mov (.c (.int .i64 4))⟩])
    (.ret))
    (.skip)))
  (.seq (.region false [
    ⟨some 12, none, .alloc 151 [(.slice none 0 0), (.string ⟨#[]⟩), (.int .i64 0)]⟩,
    ⟨some 13, none, .alloc 151 [(.slice none 0 0), (.string ⟨#[]⟩), (.int .i64 0)]⟩])
  (.seq (.region false [
    ⟨some 46, none, .mov (.t 0)⟩,
    ⟨some 47, none, .call 85 [(.t 46)]⟩,
    ⟨some 48, none, .mov (.t 1)⟩,
    ⟨some 49, none, .call 85 [(.t 48)]⟩,
    ⟨some 14, none, .mov (.t 47)⟩,
    ⟨some 15, none, .mov (.t 49)⟩])
  (.seq (.block 0 (.loop (.seq (.seq (.region false [
      ⟨some 50, none, .mov (.t 14)⟩,
      ⟨some 51, none, .call 86 [(.t 50)]⟩,
      ⟨some 52, none, .bin .neq (.t 51) (.c (.int .i64 0))⟩,
      ⟨some 53, none, .mov (.t 52)⟩,
      ⟨some 54, some (53, false), .mov (.t 15)⟩,
      ⟨some 55, some (53, false), .call 86 [(.t 54)]⟩,
      ⟨some 56, some (53, false), .bin .neq (.t 55) (.c (.int .i64 0))⟩,
      ⟨some 57, none, .pick (.t 53) (.c (.bool true)) (.t 56)⟩])
    (.cond (.t 57)
      (.skip)
      (.exit 0)))
    (.block 1 (.block 2 (.seq (.region false [
      ⟨some 103, none, .mov (.t 14)⟩,
      ⟨some 104, none, .call 86 [(.t 103)]⟩,
      ⟨some 105, none, .bin .eql (.t 104) (.c (.int .i64 2))⟩,
      ⟨some 102, none, .mov (.t 105)⟩])
    (.cond (.t 102)
      (.seq (.region false [
        ⟨some 106, none, .mov (.t 14)⟩,
        ⟨some 107, none, .mov (.t 14)⟩,
        ⟨some 108, none, .call 88 [(.t 107)]⟩,
        ⟨some 109, none, .call 87 [(.t 106), (.t 108)]⟩,
        ⟨some 16, none, .mov (.t 109)⟩])
      (.seq (.region false [
        ⟨some 110, none, .mov (.t 16)⟩,
        ⟨some 111, none, .call 82 [(.t 12), (.t 110)]⟩])
      (.region false [
        ⟨some 112, none, .mov (.t 16)⟩,
        ⟨some 113, none, .len true (.t 112)⟩,
        ⟨some 114, none, .call 81 [(.t 13), (.t 113)]⟩])))
      (.seq (.region false [
        ⟨some 116, none, .mov (.t 15)⟩,
        ⟨some 117, none, .call 86 [(.t 116)]⟩,
        ⟨some 118, none, .bin .eql (.t 117) (.c (.int .i64 2))⟩,
        ⟨some 115, none, .mov (.t 118)⟩])
      (.cond (.t 115)
        (.seq (.region false [
          ⟨some 119, none, .mov (.t 15)⟩,
          ⟨some 120, none, .mov (.t 15)⟩,
          ⟨some 121, none, .call 88 [(.t 120)]⟩,
          ⟨some 122, none, .call 87 [(.t 119), (.t 121)]⟩,
          ⟨some 17, none, .mov (.t 122)⟩])
        (.seq (.region false [
          ⟨some 123, none, .mov (.t 17)⟩,
          ⟨some 124, none, .call 82 [(.t 13), (.t 123)]⟩])
        (.region false [
          ⟨some 125, none, .mov (.t 17)⟩,
          ⟨some 126, none, .len true (.t 125)⟩,
          ⟨some 127, none, .call 81 [(.t 12), (.t 126)]⟩])))
        (.seq (.region false [
          ⟨some 58, none, .mov (.t 14)⟩,
          ⟨some 59, none, .call 88 [(.t 58)]⟩,
          ⟨some 60, none, .mov (.t 15)⟩,
          ⟨some 61, none, .call 88 [(.t 60)]⟩,
          ⟨some 62, none, .mm false (.t 59) (.t 61)⟩,
          ⟨some 18, none, .mov (.t 62)⟩])
        (.seq (.region false [
          ⟨some 63, none, .mov (.t 14)⟩,
          ⟨some 64, none, .call 86 [(.t 63)]⟩,
          ⟨some 65, none, .bin .eql (.t 64) (.c (.int .i64 3))⟩,
          ⟨some 66, none, .mov (.t 15)⟩,
          ⟨some 67, none, .call 86 [(.t 66)]⟩,
          ⟨some 68, none, .bin .eql (.t 67) (.c (.int .i64 3))⟩,
          ⟨some 19, none, .mov (.t 65)⟩,
          ⟨some 20, none, .mov (.t 68)⟩])
        (.seq (.region false [
          ⟨some 69, none, .mov (.t 14)⟩,
          ⟨some 70, none, .mov (.t 18)⟩,
          ⟨some 71, none, .call 87 [(.t 69), (.t 70)]⟩])
        (.seq (.region false [
          ⟨some 72, none, .mov (.t 15)⟩,
          ⟨some 73, none, .mov (.t 18)⟩,
          ⟨some 74, none, .call 87 [(.t 72), (.t 73)]⟩])
        (.block 3 (.seq (.region false [
          ⟨some 76, none, .mov (.t 19)⟩,
          ⟨some 77, none, .not (.t 76)⟩,
          ⟨some 78, none, .mov (.t 77)⟩,
          ⟨some 79, some (78, true), .mov (.t 20)⟩,
          ⟨some 80, some (78, true), .not (.t 79)⟩,
          ⟨some 81, none, .pick (.t 78) (.t 80) (.c (.bool false))⟩,
          ⟨some 75, none, .mov (.t 81)⟩])
        (.cond (.t 75)
          (.seq (.region false [
            ⟨some 82, none, .mov (.t 18)⟩,
            ⟨some 83, none, .call 81 [(.t 12), (.t 82)]⟩])
          (.region false [
            ⟨some 84, none, .mov (.t 18)⟩,
            ⟨some 85, none, .call 81 [(.t 13), (.t 84)]⟩]))
          (.seq (.region false [
            ⟨some 87, none, .mov (.t 19)⟩,
            ⟨some 88, none, .mov (.t 87)⟩,
            ⟨some 89, some (88, true), .mov (.t 20)⟩,
            ⟨some 90, some (88, true), .not (.t 89)⟩,
            ⟨some 91, none, .pick (.t 88) (.t 90) (.c (.bool false))⟩,
            ⟨some 86, none, .mov (.t 91)⟩])
          (.cond (.t 86)
            (.region false [
              ⟨some 92, none, .mov (.t 18)⟩,
              ⟨some 93, none, .call 83 [(.t 12), (.t 92)]⟩])
            (.seq (.region false [
              ⟨some 95, none, .mov (.t 20)⟩,
              ⟨some 96, none, .mov (.t 95)⟩,
              ⟨some 97, some (96, true), .mov (.t 19)⟩,
              ⟨some 98, some (96, true), .not (.t 97)⟩,
              ⟨some 99, none, .pick (.t 96) (.t 98) (.c (.bool false))⟩,
              ⟨some 94, none, .mov (.t 99)⟩])
            (.cond (.t 94)
              (.region false [
                ⟨some 100, none, .mov (.t 18)⟩,
                ⟨some 101, none, .call 83 [(.t 13), (.t 100)]⟩])
              (.skip)))))))))))))))))))))
  (.seq (.region false [
    ⟨some 128, none, .call 84 [(.t 12)]⟩,
    ⟨some 129, none, .call 84 [(.t 13)]⟩,
    ⟨some 21, none, .mov (.t 128)⟩,
    ⟨some 22, none, .mov (.t 129)⟩])
  (.seq (.seq (.region false [
    ⟨some 130, none, .mov (.t 21)⟩,
    ⟨some 131, none, .call 89 [(.t 130)]⟩,
    ⟨some 23, none, .mov (.t 131)⟩])
  (.seq (.region false [
    ⟨some 132, none, .mov (.t 23)⟩,
    ⟨some 133, none, .bin .neq (.t 132) (.c (.int .i64 0))⟩])
  (.cond (.t 133)
    (.seq (.region false [
      ⟨some 134, none, .mov (.t 23)⟩,
      ⟨some 4, none, .mov (.c (.slice none 0 0))⟩,
      ⟨some 5, none, .mov (.c (.slice none 0 0))⟩,
      ⟨some 6, none, .mov (.t 134)⟩])
    (.ret))
    (.skip))))
  (.seq (.seq (.region false [
    ⟨some 135, none, .mov (.t 22)⟩,
    ⟨some 136, none, .call 89 [(.t 135)]⟩,
    ⟨some 24, none, .mov (.t 136)⟩])
  (.seq (.region false [
    ⟨some 137, none, .mov (.t 24)⟩,
    ⟨some 138, none, .bin .neq (.t 137) (.c (.int .i64 0))⟩])
  (.cond (.t 138)
    (.seq (.region false [
      ⟨some 139, none, .mov (.t 24)⟩,
      ⟨some 4, none, .mov (.c (.slice none 0 0))⟩,
      ⟨some 5, none, .mov (.c (.slice none 0 0))⟩,
      ⟨some 6, none, .mov (.t 139)⟩])
    (.ret))
    (.skip))))
  (.seq (.region false [
    ⟨some 140, none, .mov (.t 21)⟩,
    ⟨some 141, none, .mov (.t 22)⟩,
    ⟨some 4, none, .mov (.t 140)⟩,
    ⟨some 5, none, .mov (.t 141)⟩,
    ⟨some 6, none, .mov (.c (.int .i64 0))⟩])
  (.ret)))))))))))))
theorem ok_meet : FnOk Try.prog 50 Try.f50 ac_meet [.t 4, .t 5, .t 6] 2 drawD := ⟨Try.func50, by decide +kernel, by kernel_rfl, by kernel_rfl, by decide +kernel⟩
structure YM (t1 t2 : List Tok) where
  la : List Part
  ua : Int
  lb : List Part
  ub : Int
  ra : List (List V)
  rb : List (List V)
  m1 : Mk
  n1 : Nat
  put1 : List UInt8
  cut1 : Int
  rows1 : List (List V)
  b1 : Option Nat
  m2 : Mk
  n2 : Nat
  put2 : List UInt8
  cut2 : Int
  rows2 : List (List V)
  b2 : Option Nat
  j : Nat
  hra : ra = la.map encPart
  hrb : rb = lb.map encPart
  hm1 : n1 = m1.out.length ∧ rows1 = m1.out.map encPart ∧ put1 = m1.put ∧ cut1 = m1.cut
  hm2 : n2 = m2.out.length ∧ rows2 = m2.out.map encPart ∧ put2 = m2.put ∧ cut2 = m2.cut
  oka : WkOk la ua
  okb : WkOk lb ub
  hrun1 : Mk.new.run t1 = m1.run (mt (tokW la ua) (tokW lb ub)).1
  hrun2 : Mk.new.run t2 = m2.run (mt (tokW la ua) (tokW lb ub)).2
  hio : inT (tokW la ua) = inT (tokW lb ub)
  hb1 : m1.Bd j j
  hb2 : m2.Bd j j
  hj : j + (tokW la ua).length + (tokW lb ub).length ≤ 10000
theorem vc_meet (P : Prim) (hP : P = std) (T T1 : CallT) (a b : List Part) (ra0 rb0 : List (List V)) (hra0 : ra0 = a.map encPart) (hrb0 : rb0 = b.map encPart)
    (hkeep : ∀ k : Int, 0 ≤ k ∧ k ≤ 1000000 → MkC T 81 [.int .i64 k] (fun m => ∃ j w, m.Bd j w ∧ j ≤ 2000000) (fun m => m.doKeep k) unitR)
    (hput : ∀ s : List UInt8, s.length ≤ 1000000000 → MkC T 82 [.str s] (fun m => m.put.length + s.length ≤ 1000000000) (fun m => m.doPut s) unitR)
    (hcut : ∀ k : Int, 0 ≤ k ∧ k ≤ 1000000 → MkC T 83 [.int .i64 k] (fun m => ∃ j w, m.Bd j w ∧ j ≤ 2000000) (fun m => m.doCut k) unitR)
    (hdone : MkC T 84 [] (fun m => m.out.length ≤ 100000000) (fun m => ⟨m.flush, [], 0⟩) doneR)
    (hwalk : WalkC T) (hkind : WkC T 86 (fun _ _ => True) (fun l _ => kindW l) true) (hleft : WkC T 88 (fun l u => l ≠ [] ∧ WkOk l u) (fun l u => sizeL l - u) true) (htake : TakeC T)
    (hcheck : ∀ (d : List Part) (h : Hp) (K : V → Hp → Prop) (k : Nat) (b : Option Nat) (n : Nat) (rs : List (List V)) (q : Int), d.length ≤ 100000000 → rs = d.map encPart → n = rs.length → q = checkF d → h k = some ⟨b, 108, 3, rs⟩ → K (.int .i64 q) h → T 89 [.own k b 3 n] h K)
    (i1 o1 c1 i2 o2 c2 : Int) (hs1 : szF a = (i1, o1, c1)) (hs2 : szF b = (i2, o2, c2))
    (hc1 : Ans T 67 [.sl false 3 ra0] (.tup [.int .i64 i1, .int .i64 o1, .int .i64 c1])) (hc2 : Ans T 67 [.sl false 3 rb0] (.tup [.int .i64 i2, .int .i64 o2, .int .i64 c2]))
    (r1 r2 : List Part) (e : Int) (hr : meetF a b = (r1, r2, e)) (rr1 rr2 : List (List V)) (hrr1 : rr1 = r1.map encPart) (hrr2 : rr2 = r2.map encPart)
    (R : S → Prop) (hR : RetSl2 [.t 4, .t 5, .t 6] rr1 rr2 e R) : awp P T T1 ac_meet (S0 [.sl false 3 ra0, .sl false 3 rb0] Hp.emp) R (fun _ _ => False) R := by
  have bad : ∀ x : Int, meetE a b = x → x ≠ 0 → rr1 = [] ∧ rr2 = [] ∧ x = e := by
    intro x hx h0
    unfold meetF at hr
    rw [hx, if_neg h0] at hr
    simp only [Prod.mk.injEq] at hr
    refine ⟨by rw [hrr1, ← hr.1]; rfl, by rw [hrr2, ← hr.2.1]; rfl, hr.2.2⟩
  have good : meetE a b = 0 → rr1 = (meetC a b).map encPart ∧ rr2 = (meetD a b).map encPart ∧ 0 = e := by
    intro hx
    unfold meetF at hr
    rw [hx, if_pos rfl] at hr
    simp only [Prod.mk.injEq] at hr
    exact ⟨by rw [hrr1, ← hr.1], by rw [hrr2, ← hr.2.1], hr.2.2⟩
  clear hr hrr1 hrr2
  have q1 : c1 = checkF a ∧ (checkF a = 0 → i1 = inF a) := by
    unfold szF at hs1
    by_cases h : checkF a = 0
    · rw [if_pos h] at hs1; simp only [Prod.mk.injEq] at hs1; exact ⟨by omega, fun _ => hs1.1.symm⟩
    · rw [if_neg h] at hs1; simp only [Prod.mk.injEq] at hs1; exact ⟨hs1.2.2.symm, fun hh => absurd hh h⟩
  have q2 : c2 = checkF b ∧ (checkF b = 0 → i2 = inF b) := by
    unfold szF at hs2
    by_cases h : checkF b = 0
    · rw [if_pos h] at hs2; simp only [Prod.mk.injEq] at hs2; exact ⟨by omega, fun _ => hs2.1.symm⟩
    · rw [if_neg h] at hs2; simp only [Prod.mk.injEq] at hs2; exact ⟨hs2.2.2.symm, fun hh => absurd hh h⟩
  clear hs1 hs2
  unfold meetE at bad good
  rw [← q1.1, ← q2.1] at bad good
  cbv
  refine hc1 _ _ ?_
  clear hc1
  cbv
  refine br_cases (fun h => ?_) (fun h => ?_)
  · have hcn : c1 ≠ 0 := ne_t hP h
    rw [if_pos hcn] at bad
    cbv
    exact hR.1 _ _ _ (Ent.refl _) rfl (bad _ rfl hcn)
  have hz1 : c1 = 0 := ne_f hP h
  rw [if_neg (fun h => h hz1)] at bad good
  cbv
  refine hc2 _ _ ?_
  clear hc2
  cbv
  refine br_cases (fun h => ?_) (fun h => ?_)
  · have hcn : c2 ≠ 0 := ne_t hP h
    rw [if_pos hcn] at bad
    cbv
    exact hR.1 _ _ _ (Ent.refl _) rfl (bad _ rfl hcn)
  have hz2 : c2 = 0 := ne_f hP h
  rw [if_neg (fun h => h hz2)] at bad good
  have za : checkF a = 0 := q1.1.symm.trans hz1
  have zb : checkF b = 0 := q2.1.symm.trans hz2
  rw [← q1.2 za, ← q2.2 zb] at bad good
  cbv
  refine br_cases (fun h => ?_) (fun h => ?_)
  · have hcn : i1 ≠ i2 := ne_t hP h
    rw [if_pos hcn] at bad
    cbv
    exact hR.1 _ _ _ (Ent.refl _) rfl (bad _ rfl (by decide))
  have hoi : i1 = i2 := ne_f hP h
  rw [if_neg (fun h => h hoi)] at bad good
  rw [q1.2 za, q2.2 zb] at hoi
  obtain ⟨hla, hoka, ha1, ha2, _, _⟩ := checkF_all za
  obtain ⟨hlb, hokb, hb1, hb2, _, _⟩ := checkF_all zb
  have hTa := outT_toks a hoka
  have hTa2 := inT_toks a hoka
  have hTb := inT_toks b hokb
  have hTb2 := outT_toks b hokb
  have hlen : ∀ ts : List Tok, ts.length ≤ inT ts + outT ts := by
    intro ts
    induction ts with
    | nil => simp
    | cons t ts ih => cases t <;> simp [inT, kepts, outT] at * <;> omega
  have hl1 := hlen (toks a)
  have hl2 := hlen (toks b)
  have ok0 : ∀ (l : List Part), (∀ p ∈ l, okP p) → WkOk l 0 := by
    intro l hl
    refine ⟨hl, ?_⟩
    cases l with
    | nil => rfl
    | cons p l => exact ⟨Int.le_refl _, size_pos (hl p (by simp))⟩
  have tk0 : ∀ l : List Part, tokW l 0 = toks l := fun l => by simp [tokW]
  clear h
  cbv
  intro β12
  cbv
  intro β13
  cbv
  refine hwalk 2000 a _ _ _ hra0 rfl rfl fun bx => ?_
  cbv
  refine hwalk 2001 b _ _ _ hrb0 rfl rfl fun bz => ?_
  clear hwalk
  cbv
  refine ⟨YM (mt (toks a) (toks b)).1 (mt (toks a) (toks b)).2, fun y => [(12, .ptr 12 (some β12) 3 0 0), (13, .ptr 13 (some β13) 3 0 0), (14, .ptr 2000 (some bx) 2 0 0), (15, .ptr 2001 (some bz) 2 0 0)],
    fun y => [(12, ⟨some β12, 151, 3, [[.own 1000998 y.b1 3 y.n1, .str y.put1, .int .i64 y.cut1]]⟩), (1000998, ⟨y.b1, 108, 3, y.rows1⟩), (13, ⟨some β13, 151, 3, [[.own 1000999 y.b2 3 y.n2, .str y.put2, .int .i64 y.cut2]]⟩), (1000999, ⟨y.b2, 108, 3, y.rows2⟩), (2000, ⟨some bx, 182, 2, [[.sl false 3 y.ra, .int .i64 y.ua]]⟩), (2001, ⟨some bz, 182, 2, [[.sl false 3 y.rb, .int .i64 y.ub]]⟩)],
    fun y => (tokW y.la y.ua).length + (tokW y.lb y.ub).length,
    ⟨_, Ent.trans (Ent.nilcell (k := 12) (k' := 1000998) (ty := 108) (sz := 3) (r := 0) (c := 0) rfl rfl rfl rfl) (Ent.nilcell (k := 13) (k' := 1000999) (ty := 108) (sz := 3) (r := 0) (c := 0) rfl rfl rfl rfl), ⟨a, 0, b, 0, ra0, rb0, Mk.new, _, _, _, _, _, Mk.new, _, _, _, _, _, 0, hra0, hrb0, ⟨rfl, rfl, rfl, rfl⟩, ⟨rfl, rfl, rfl, rfl⟩, ok0 a hoka, ok0 b hokb, by rw [tk0, tk0], by rw [tk0, tk0], by rw [tk0, tk0]; ((try simp only [nc] at *); omega), Mk.bd_new, Mk.bd_new, by rw [tk0, tk0]; ((try simp only [nc] at *); omega)⟩, ⟨rfl, rfl, rfl, rfl, trivial⟩, ⟨rfl, rfl, rfl, rfl, rfl, rfl, trivial⟩⟩, ?_⟩
  rintro ⟨la, ua, lb, ub, ra, rb, m1, n1, put1, cut1, mr1, bm1, m2, n2, put2, cut2, mr2, bm2, j, hra, hrb, hm1, hm2, oka, okb, hrun1, hrun2, hio, hb1, hb2, hj⟩
  have hbp1 := hb1.put
  have hbl1 := hb1.len
  have hbp2 := hb2.put
  have hbl2 := hb2.len
  cbv
  refine hkind _ _ _ _ _ _ _ hra trivial rfl fun kx hkx => ?_
  cbv
  rcases la with _ | ⟨p, la⟩
  · have hx0 : kx = 0 := hkx
    refine br_ff (ne_F hP hx0) ?_
    cbv
    refine hkind _ _ _ _ _ _ _ hrb trivial rfl fun ky hky => ?_
    cbv
    rcases lb with _ | ⟨q, lb⟩
    · -- both are over
      have hy0 : ky = 0 := hky
      have hc : meetC a b = m1.flush := by show (Mk.new.run _).flush = _; rw [hrun1]; simp [tokW, toks, mt, meetT, Mk.run]
      have hd : meetD a b = m2.flush := by show (Mk.new.run _).flush = _; rw [hrun2]; simp [tokW, toks, mt, meetT, Mk.run]
      have hf1 := hb1.flush.1
      have hf2 := hb2.flush.1
      refine br_ff (ne_F hP hy0) ?_
      cbv
      refine hdone _ _ _ _ _ _ _ _ m1 _ _ hm1 (by omega) rfl rfl rfl fun b1' n1' p1' c1' w1 hw1 => ?_
      obtain ⟨hn1, hw1, _, _⟩ := hw1
      simp only [] at hn1 hw1
      cbv
      refine hdone _ _ _ _ _ _ _ _ m2 _ _ hm2 (by omega) rfl rfl rfl fun b2' n2' p2' c2' w2 hw2 => ?_
      obtain ⟨hn2, hw2, _, _⟩ := hw2
      simp only [] at hn2 hw2
      obtain ⟨x1, hx1⟩ : ∃ x, x = checkF m1.flush := ⟨_, rfl⟩
      obtain ⟨x2, hx2⟩ : ∃ x, x = checkF m2.flush := ⟨_, rfl⟩
      rw [hc, hd, ← hx1, ← hx2] at bad good
      cbv
      refine hcheck m1.flush _ _ _ _ _ _ x1 (by omega) hw1 (by rw [hn1, hw1]; simp) hx1 rfl ?_
      cbv
      refine br_cases (fun h => ?_) (fun h => ?_)
      · have hcn : x1 ≠ 0 := ne_t hP h
        rw [if_pos hcn] at bad
        cbv
        exact hR.1 _ _ _ (Ent.refl _) rfl (bad _ rfl hcn)
      have hcz : x1 = 0 := ne_f hP h
      rw [if_neg (fun h => h hcz)] at bad good
      cbv
      refine hcheck m2.flush _ _ _ _ _ _ x2 (by omega) hw2 (by rw [hn2, hw2]; simp) hx2 rfl ?_
      cbv
      refine br_cases (fun h => ?_) (fun h => ?_)
      · have hcn : x2 ≠ 0 := ne_t hP h
        cbv
        exact hR.1 _ _ _ (Ent.refl _) rfl (bad _ rfl hcn)
      have hcz : x2 = 0 := ne_f hP h
      obtain ⟨g1, g2, g3⟩ := good hcz
      cbv
      exact hR.2.1 _ _ _ _ _ _ _ _ _ _ _ _ _ (Ent.refl _) rfl rfl rfl ⟨by rw [g1, hn1]; simp, by rw [g2, hn2]; simp, by rw [g1, hw1], by rw [g2, hw2], g3⟩
    · have hyk : ky = q.kind := hky
      have hqb := okP_bd (okb.1 q (by simp))
      have hu := okb.2
      simp only at hu
      have hk : 0 ≤ sizeP q - ub ∧ ub + (sizeP q - ub) ≤ sizeP q := by omega
      have hq2 : q.kind = 2 := by
        by_cases h2 : q.kind = 2
        · exact h2
        · exfalso
          rw [tok_chunk okb hk, inT_app, inT_chunk q ub _ (okb.1 q (by simp)), if_neg h2] at hio
          simp [tokW, toks, inT, kepts] at hio
          omega
      refine br_tt (ne_T hP (by omega)) ?_
      cbv
      refine hkind _ _ _ _ _ _ _ hra trivial rfl fun kx2 hkx2 => ?_
      have hx2 : kx2 = 0 := hkx2
      cbv
      refine br_ff (eq_F hP (by omega)) ?_
      cbv
      obtain ⟨s1, s2, s3, s4⟩ := mstep_p2 okb hq2 (la := []) (ua := ua) (by intro c r hr; simp [tokW, toks] at hr) hio
      have hsz := size_le (okb.1 q (by simp))
      refine hkind _ _ _ _ _ _ _ hrb trivial rfl fun ky2 hky2 => ?_
      have hy2 : ky2 = q.kind := hky2
      cbv
      refine br_tt (eq_T hP (by omega)) ?_
      cbv
      refine hleft _ _ _ _ _ _ _ hrb ⟨by simp, okb⟩ rfl fun ql hql => ?_
      have hql2 : ql = sizeP q - ub := hql
      cbv
      refine htake _ _ q lb ub ql _ _ _ hrb okb (by omega) rfl fun qs rows' u' e1 e2 e3 => ?_
      rw [hql2] at e1 e2 e3
      have hqs : P.slen qs = ((sizeP q - ub).toNat : Int) := by rw [slen_eq hP, e1, s4]
      cbv
      have pc := hput qs (by rw [e1, s4]; omega)
      refine pc _ _ _ _ _ _ _ _ m2 _ _ hm2 (by rw [e1, s4]; omega) rfl rfl rfl fun ba' n' put' cut' w1 hw1 => ?_
      cbv
      have kc := hkeep (P.slen qs) (by rw [hqs]; ((try simp only [nc] at *); omega))
      refine kc _ _ _ _ _ _ _ _ m1 _ _ hm1 ⟨_, _, hb1, by omega⟩ rfl rfl rfl fun ba2 nn2 pp2 cc2 w2 hw2 => ?_
      rw [hqs] at hw2
      cbv
      refine ⟨_, Ent.refl _, ⟨[], ua, (takeW (q :: lb) ub (sizeP q - ub)).1, _, _, _, m1.doKeep ((sizeP q - ub).toNat : Int), _, _, _, _, _, m2.doPut qs, _, _, _, _, _, j + (sizeP q - ub).toNat, hra, e2, hw2, hw1, oka, by rw [e3]; exact takeW_ok okb hk, ?_, ?_, ?_, ?_, ?_, ?_⟩, ⟨rfl, rfl, rfl, rfl, trivial⟩, ⟨rfl, rfl, rfl, rfl, rfl, rfl, trivial⟩, ?_⟩
      · rw [hrun1, s1, e3, Mk.run_app, Mk.run_keep, s4]
      · rw [hrun2, s1, e1, e3, Mk.run_app, Mk.run_put]
      · rw [e3]; exact s2
      · exact (hb1.doKeep _ (by omega)).mono (by omega) (by omega)
      · exact (hb2.doPut qs).mono (by omega) (by rw [e1, s4]; omega)
      · rw [e3]; ((try simp only [nc] at *); omega)
      · show (tokW [] ua).length + (tokW (takeW (q :: lb) ub (sizeP q - ub)).1 u').length < (tokW [] ua).length + (tokW (q :: lb) ub).length
        rw [e3]; ((try simp only [nc] at *); omega)
  · have hxk : kx = p.kind := hkx
    have hpb := okP_bd (oka.1 p (by simp))
    have hua := oka.2
    simp only at hua
    refine br_tt (ne_T hP (by omega)) ?_
    cbv
    refine hkind _ _ _ _ _ _ _ hra trivial rfl fun kx2 hkx2 => ?_
    have hx2 : kx2 = p.kind := hkx2
    cbv
    by_cases p2 : p.kind = 2
    · -- the first puts
      obtain ⟨s1, s2, s3, s4⟩ := mstep_p1 oka p2 hio
      have hk : 0 ≤ sizeP p - ua ∧ ua + (sizeP p - ua) ≤ sizeP p := by omega
      have hsz := size_le (oka.1 p (by simp))
      refine br_tt (eq_T hP (by omega)) ?_
      cbv
      refine hleft _ _ _ _ _ _ _ hra ⟨by simp, oka⟩ rfl fun ql hql => ?_
      have hql2 : ql = sizeP p - ua := hql
      cbv
      refine htake _ _ p la ua ql _ _ _ hra oka (by omega) rfl fun qs rows' u' e1 e2 e3 => ?_
      rw [hql2] at e1 e2 e3
      have hqs : P.slen qs = ((sizeP p - ua).toNat : Int) := by rw [slen_eq hP, e1, s4]
      cbv
      have pc := hput qs (by rw [e1, s4]; omega)
      refine pc _ _ _ _ _ _ _ _ m1 _ _ hm1 (by rw [e1, s4]; omega) rfl rfl rfl fun ba' n' put' cut' w1 hw1 => ?_
      cbv
      have kc := hkeep (P.slen qs) (by rw [hqs]; ((try simp only [nc] at *); omega))
      refine kc _ _ _ _ _ _ _ _ m2 _ _ hm2 ⟨_, _, hb2, by omega⟩ rfl rfl rfl fun ba2 nn2 pp2 cc2 w2 hw2 => ?_
      rw [hqs] at hw2
      cbv
      refine ⟨_, Ent.refl _, ⟨(takeW (p :: la) ua (sizeP p - ua)).1, _, lb, ub, _, _, m1.doPut qs, _, _, _, _, _, m2.doKeep ((sizeP p - ua).toNat : Int), _, _, _, _, _, j + (sizeP p - ua).toNat, e2, hrb, hw1, hw2, by rw [e3]; exact takeW_ok oka hk, okb, ?_, ?_, ?_, ?_, ?_, ?_⟩, ⟨rfl, rfl, rfl, rfl, trivial⟩, ⟨rfl, rfl, rfl, rfl, rfl, rfl, trivial⟩, ?_⟩
      · rw [hrun1, s1, e1, e3, Mk.run_app, Mk.run_put]
      · rw [hrun2, s1, e3, Mk.run_app, Mk.run_keep, s4]
      · rw [e3]; exact s2
      · exact (hb1.doPut qs).mono (by omega) (by rw [e1, s4]; omega)
      · exact (hb2.doKeep _ (by omega)).mono (by omega) (by omega)
      · rw [e3]; ((try simp only [nc] at *); omega)
      · show (tokW (takeW (p :: la) ua (sizeP p - ua)).1 u').length + (tokW lb ub).length < (tokW (p :: la) ua).length + (tokW lb ub).length
        rw [e3]; ((try simp only [nc] at *); omega)
    · refine br_ff (eq_F hP (by omega)) ?_
      cbv
      rcases lb with _ | ⟨q, lb⟩
      · exfalso
        have hk : 0 ≤ sizeP p - ua ∧ ua + (sizeP p - ua) ≤ sizeP p := by omega
        rw [tok_chunk oka hk, inT_app, inT_chunk p ua _ (oka.1 p (by simp)), if_neg p2] at hio
        simp [tokW, toks, inT, kepts] at hio
        omega
      have hqb := okP_bd (okb.1 q (by simp))
      have hub := okb.2
      simp only at hub
      by_cases q2 : q.kind = 2
      · have hu := hub
        have hq2 := q2
        have hk : 0 ≤ sizeP q - ub ∧ ub + (sizeP q - ub) ≤ sizeP q := by omega
        obtain ⟨s1, s2, s3, s4⟩ := mstep_p2 okb hq2 (la := (p :: la)) (ua := ua) (not_put oka p2) hio
        have hsz := size_le (okb.1 q (by simp))
        refine hkind _ _ _ _ _ _ _ hrb trivial rfl fun ky2 hky2 => ?_
        have hy2 : ky2 = q.kind := hky2
        cbv
        refine br_tt (eq_T hP (by omega)) ?_
        cbv
        refine hleft _ _ _ _ _ _ _ hrb ⟨by simp, okb⟩ rfl fun ql hql => ?_
        have hql2 : ql = sizeP q - ub := hql
        cbv
        refine htake _ _ q lb ub ql _ _ _ hrb okb (by omega) rfl fun qs rows' u' e1 e2 e3 => ?_
        rw [hql2] at e1 e2 e3
        have hqs : P.slen qs = ((sizeP q - ub).toNat : Int) := by rw [slen_eq hP, e1, s4]
        cbv
        have pc := hput qs (by rw [e1, s4]; omega)
        refine pc _ _ _ _ _ _ _ _ m2 _ _ hm2 (by rw [e1, s4]; omega) rfl rfl rfl fun ba' n' put' cut' w1 hw1 => ?_
        cbv
        have kc := hkeep (P.slen qs) (by rw [hqs]; ((try simp only [nc] at *); omega))
        refine kc _ _ _ _ _ _ _ _ m1 _ _ hm1 ⟨_, _, hb1, by omega⟩ rfl rfl rfl fun ba2 nn2 pp2 cc2 w2 hw2 => ?_
        rw [hqs] at hw2
        cbv
        refine ⟨_, Ent.refl _, ⟨(p :: la), ua, (takeW (q :: lb) ub (sizeP q - ub)).1, _, _, _, m1.doKeep ((sizeP q - ub).toNat : Int), _, _, _, _, _, m2.doPut qs, _, _, _, _, _, j + (sizeP q - ub).toNat, hra, e2, hw2, hw1, oka, by rw [e3]; exact takeW_ok okb hk, ?_, ?_, ?_, ?_, ?_, ?_⟩, ⟨rfl, rfl, rfl, rfl, trivial⟩, ⟨rfl, rfl, rfl, rfl, rfl, rfl, trivial⟩, ?_⟩
        · rw [hrun1, s1, e3, Mk.run_app, Mk.run_keep, s4]
        · rw [hrun2, s1, e1, e3, Mk.run_app, Mk.run_put]
        · rw [e3]; exact s2
        · exact (hb1.doKeep _ (by omega)).mono (by omega) (by omega)
        · exact (hb2.doPut qs).mono (by omega) (by rw [e1, s4]; omega)
        · rw [e3]; ((try simp only [nc] at *); omega)
        · show (tokW (p :: la) ua).length + (tokW (takeW (q :: lb) ub (sizeP q - ub)).1 u').length < (tokW (p :: la) ua).length + (tokW (q :: lb) ub).length
          rw [e3]; ((try simp only [nc] at *); omega)
      · refine hkind _ _ _ _ _ _ _ hrb trivial rfl fun ky2 hky2 => ?_
        have hy2 : ky2 = q.kind := hky2
        cbv
        refine br_ff (eq_F hP (by omega)) ?_
        cbv
        refine hleft _ _ _ _ _ _ _ hra ⟨by simp, oka⟩ rfl fun q1 hq1 => ?_
        have hq1 : q1 = sizeP p - ua := hq1
        cbv
        refine hleft _ _ _ _ _ _ _ hrb ⟨by simp, okb⟩ rfl fun q2' hq2 => ?_
        have hq2 : q2' = sizeP q - ub := hq2
        cbv
        refine hkind _ _ _ _ _ _ _ hra trivial rfl fun kx3 hkx3 => ?_
        have hx3 : kx3 = p.kind := hkx3
        cbv
        refine hkind _ _ _ _ _ _ _ hrb trivial rfl fun ky3 hky3 => ?_
        have hy3 : ky3 = q.kind := hky3
        cbv
        obtain ⟨k, hk⟩ : ∃ k, P.mn q1 q2' = k := ⟨_, rfl⟩
        have hkv : k = min q1 q2' := by rw [← hk, mn_eq hP]
        have hk1 : 0 < k ∧ ua + k ≤ sizeP p ∧ ub + k ≤ sizeP q := by omega
        obtain ⟨s1, s1', s2, s3, s4⟩ := mstep_both (m1 := m1) (m2 := m2) (k := k) oka okb p2 q2 (by omega) hk1.2.1 hk1.2.2 hio
        have hsz := size_le (oka.1 p (by simp))
        refine htake _ _ p la ua (P.mn q1 q2') _ _ _ hra oka (by rw [hk]; omega) rfl fun qs1 rows1 u1 e1 e2 e3 => ?_
        rw [hk] at e1 e2 e3
        cbv
        refine htake _ _ q lb ub (P.mn q1 q2') _ _ _ hrb okb (by rw [hk]; omega) rfl fun qs2 rows2 u2 f1 f2 f3 => ?_
        rw [hk] at f1 f2 f3
        cbv
        by_cases p3 : p.kind = 3
        · by_cases q3 : q.kind = 3
          · have hst1 : meetStep1 m1 p q k = m1 := by simp [meetStep1, p3, q3]
            have hst2 : meetStep2 m2 p q k = m2 := by simp [meetStep2, p3, q3]
            repeat first | (refine br_tt (eq_T hP (by omega)) ?_; cbv) | (refine br_ff (eq_F hP (by omega)) ?_; cbv)
            refine ⟨_, Ent.refl _, ⟨(takeW (p :: la) ua k).1, _, (takeW (q :: lb) ub k).1, _, _, _, m1, _, _, _, _, _, m2, _, _, _, _, _, j + k.toNat, e2, f2, hm1, hm2, by rw [e3]; exact takeW_ok oka ⟨by omega, hk1.2.1⟩, by rw [f3]; exact takeW_ok okb ⟨by omega, hk1.2.2⟩, by rw [hrun1, s1, e3, f3, hst1], by rw [hrun2, s1', e3, f3, hst2], by rw [e3, f3]; exact s2, hb1.mono (by omega) (by omega), hb2.mono (by omega) (by omega), by rw [e3, f3]; ((try simp only [nc] at *); omega)⟩, ⟨rfl, rfl, rfl, rfl, trivial⟩, ⟨rfl, rfl, rfl, rfl, rfl, rfl, trivial⟩, ?_⟩
            show (tokW (takeW (p :: la) ua k).1 u1).length + (tokW (takeW (q :: lb) ub k).1 u2).length < (tokW (p :: la) ua).length + (tokW (q :: lb) ub).length
            rw [e3, f3]; ((try simp only [nc] at *); omega)
          · have q1' : q.kind = 1 := by omega
            have hst1 : meetStep1 m1 p q k = m1.doCut k := by simp [meetStep1, p3, q1']
            have hst2 : meetStep2 m2 p q k = m2 := by simp [meetStep2, p3]
            repeat first | (refine br_tt (eq_T hP (by omega)) ?_; cbv) | (refine br_ff (eq_F hP (by omega)) ?_; cbv)
            have cc := hcut (P.mn q1 q2') (by rw [hk]; omega)
            refine cc _ _ _ _ _ _ _ _ m1 _ _ hm1 ⟨_, _, hb1, by omega⟩ rfl rfl rfl fun ba' n' put' cut' w1 hw1 => ?_
            rw [hk] at hw1
            cbv
            refine ⟨_, Ent.refl _, ⟨(takeW (p :: la) ua k).1, _, (takeW (q :: lb) ub k).1, _, _, _, m1.doCut k, _, _, _, _, _, m2, _, _, _, _, _, j + k.toNat, e2, f2, hw1, hm2, by rw [e3]; exact takeW_ok oka ⟨by omega, hk1.2.1⟩, by rw [f3]; exact takeW_ok okb ⟨by omega, hk1.2.2⟩, by rw [hrun1, s1, e3, f3, hst1], by rw [hrun2, s1', e3, f3, hst2], by rw [e3, f3]; exact s2, (hb1.doCut _ (by omega)).mono (by omega) (by omega), hb2.mono (by omega) (by omega), by rw [e3, f3]; ((try simp only [nc] at *); omega)⟩, ⟨rfl, rfl, rfl, rfl, trivial⟩, ⟨rfl, rfl, rfl, rfl, rfl, rfl, trivial⟩, ?_⟩
            show (tokW (takeW (p :: la) ua k).1 u1).length + (tokW (takeW (q :: lb) ub k).1 u2).length < (tokW (p :: la) ua).length + (tokW (q :: lb) ub).length
            rw [e3, f3]; ((try simp only [nc] at *); omega)
        · have p1' : p.kind = 1 := by omega
          by_cases q3 : q.kind = 3
          · have hst1 : meetStep1 m1 p q k = m1 := by simp [meetStep1, p1', q3]
            have hst2 : meetStep2 m2 p q k = m2.doCut k := by simp [meetStep2, p1', q3]
            repeat first | (refine br_tt (eq_T hP (by omega)) ?_; cbv) | (refine br_ff (eq_F hP (by omega)) ?_; cbv)
            have cc := hcut (P.mn q1 q2') (by rw [hk]; omega)
            refine cc _ _ _ _ _ _ _ _ m2 _ _ hm2 ⟨_, _, hb2, by omega⟩ rfl rfl rfl fun ba' n' put' cut' w1 hw1 => ?_
            rw [hk] at hw1
            cbv
            refine ⟨_, Ent.refl _, ⟨(takeW (p :: la) ua k).1, _, (takeW (q :: lb) ub k).1, _, _, _, m1, _, _, _, _, _, m2.doCut k, _, _, _, _, _, j + k.toNat, e2, f2, hm1, hw1, by rw [e3]; exact takeW_ok oka ⟨by omega, hk1.2.1⟩, by rw [f3]; exact takeW_ok okb ⟨by omega, hk1.2.2⟩, by rw [hrun1, s1, e3, f3, hst1], by rw [hrun2, s1', e3, f3, hst2], by rw [e3, f3]; exact s2, hb1.mono (by omega) (by omega), (hb2.doCut _ (by omega)).mono (by omega) (by omega), by rw [e3, f3]; ((try simp only [nc] at *); omega)⟩, ⟨rfl, rfl, rfl, rfl, trivial⟩, ⟨rfl, rfl, rfl, rfl, rfl, rfl, trivial⟩, ?_⟩
            show (tokW (takeW (p :: la) ua k).1 u1).length + (tokW (takeW (q :: lb) ub k).1 u2).length < (tokW (p :: la) ua).length + (tokW (q :: lb) ub).length
            rw [e3, f3]; ((try simp only [nc] at *); omega)
          · have q1' : q.kind = 1 := by omega
            have hst1 : meetStep1 m1 p q k = m1.doKeep k := by simp [meetStep1, p1', q1']
            have hst2 : meetStep2 m2 p q k = m2.doKeep k := by simp [meetStep2, p1', q1']
            repeat first | (refine br_tt (eq_T hP (by omega)) ?_; cbv) | (refine br_ff (eq_F hP (by omega)) ?_; cbv)
            have cc := hkeep (P.mn q1 q2') (by rw [hk]; omega)
            refine cc _ _ _ _ _ _ _ _ m1 _ _ hm1 ⟨_, _, hb1, by omega⟩ rfl rfl rfl fun ba' n' put' cut' w1 hw1 => ?_
            rw [hk] at hw1
            cbv
            refine cc _ _ _ _ _ _ _ _ m2 _ _ hm2 ⟨_, _, hb2, by omega⟩ rfl rfl rfl fun ba2 nn2 pp2 cc2 w2 hw2 => ?_
            rw [hk] at hw2
            cbv
            refine ⟨_, Ent.refl _, ⟨(takeW (p :: la) ua k).1, _, (takeW (q :: lb) ub k).1, _, _, _, m1.doKeep k, _, _, _, _, _, m2.doKeep k, _, _, _, _, _, j + k.toNat, e2, f2, hw1, hw2, by rw [e3]; exact takeW_ok oka ⟨by omega, hk1.2.1⟩, by rw [f3]; exact takeW_ok okb ⟨by omega, hk1.2.2⟩, by rw [hrun1, s1, e3, f3, hst1], by rw [hrun2, s1', e3, f3, hst2], by rw [e3, f3]; exact s2, (hb1.doKeep _ (by omega)).mono (by omega) (by omega), (hb2.doKeep _ (by omega)).mono (by omega) (by omega), by rw [e3, f3]; ((try simp only [nc] at *); omega)⟩, ⟨rfl, rfl, rfl, rfl, trivial⟩, ⟨rfl, rfl, rfl, rfl, rfl, rfl, trivial⟩, ?_⟩
            show (tokW (takeW (p :: la) ua k).1 u1).length + (tokW (takeW (q :: lb) ub k).1 u2).length < (tokW (p :: la) ua).length + (tokW (q :: lb) ub).length
            rw [e3, f3]; ((try simp only [nc] at *); omega)
end Go.Proofs.Ytobngncjflogcaa.AM

set_option linter.unusedVariables false
set_option linter.unusedSimpArgs false
namespace Go.Proofs.Ytobngncjflogcaa.AM
open Go
set_option maxRecDepth 100000
set_option maxHeartbeats 2000000

theorem sp_meet (a b : List Part) (ha : a.length ≤ maxLen) (hb : b.length ≤ maxLen) : Spec Try.prog 50 [encParts a, encParts b] Hp.emp (Is (.tup [encParts (meetF a b).1, encParts (meetF a b).2.1, .int .i64 (meetF a b).2.2])) :=
  spec_frz dOk ok_meet fun R hR => vc_meet std rfl _ _ a b _ _ rfl rfl (fun k hk => keepC k hk) (fun s hs => putC s hs) (fun k hk => cutC k hk) doneC walkC kindE_call leftE_call takeC
    (fun d h K k b n rs q hd hrs hn hq hk hK => ⟨h, HEnt.refl h, call_pure (sp_check d (by have : maxLen = 9223372036854775807 := by decide
                                                                                           omega)) (.cons (.own k b 3 n _ (by rw [rowsOf_own hn hk, hrs]) (by simp)) .nil) (by rw [hq] at hK; exact hK)⟩)
    _ _ _ _ _ _ rfl rfl (ansL (sp_szs a ha) rfl) (ansL (sp_szs b hb) rfl) _ _ _ rfl _ _ rfl rfl R (retSl2_of hR)
end Go.Proofs.Ytobngncjflogcaa.AM

set_option linter.unusedVariables false
set_option linter.unusedSimpArgs false
namespace Go.Proofs.Ytobngncjflogcaa.AM
open Go
set_option maxRecDepth 100000
set_option maxHeartbeats 2000000
def foldU (x : List Part) : List Rev → List Part × Int
  | [] => (x, 0)
  | r :: l => if (meetF r.delta x).2.2 ≠ 0 then ([], (meetF r.delta x).2.2) else foldU (meetF r.delta x).2.1 l


end Go.Proofs.Ytobngncjflogcaa.AM

set_option linter.unusedVariables false
set_option linter.unusedSimpArgs false
namespace Go.Proofs.Ytobngncjflogcaa.AM
open Go
set_option maxRecDepth 100000
set_option maxHeartbeats 2000000
theorem meetF_ok {a b : List Part} (h : (meetF a b).2.2 = 0) : checkF a = 0 ∧ checkF b = 0 ∧ inF a = inF b ∧ checkF (meetD a b) = 0 ∧ (meetF a b).2.1 = meetD a b := by
  unfold meetF at h ⊢
  by_cases he : meetE a b = 0
  · rw [if_pos he]
    unfold meetE at he
    by_cases h1 : checkF a ≠ 0
    · rw [if_pos h1] at he; exact absurd he h1
    rw [if_neg h1] at he
    by_cases h2 : checkF b ≠ 0
    · rw [if_pos h2] at he; exact absurd he h2
    rw [if_neg h2] at he
    by_cases h3 : inF a ≠ inF b
    · rw [if_pos h3] at he; exact absurd he (by decide)
    rw [if_neg h3] at he
    by_cases h4 : checkF (meetC a b) ≠ 0
    · rw [if_pos h4] at he; exact absurd he h4
    rw [if_neg h4] at he
    exact ⟨Decidable.of_not_not h1, Decidable.of_not_not h2, Decidable.of_not_not h3, he, rfl⟩
  · rw [if_neg he] at h; exact absurd h he
end Go.Proofs.Ytobngncjflogcaa.AM

set_option linter.unusedVariables false
set_option linter.unusedSimpArgs false
namespace Go.Proofs.Ytobngncjflogcaa.AM
open Go Go.RowKit
set_option maxRecDepth 100000
set_option maxHeartbeats 2000000
structure N4 (k ka km kn : Nat) : Prop where
  a : Nat.beq k ka = false
  b : Nat.beq k kn = false
  c : Nat.beq ka kn = false
  d : Nat.beq km 0 = false
  e : Nat.beq km 1000001 = false
  f : Nat.beq km 1000041 = false
  g : Nat.beq km k = false
  h : Nat.beq km ka = false
  i : Nat.beq km kn = false
theorem neB {a b : Nat} (h : Nat.beq a b = false) : a ≠ b := by intro e; subst e; rw [Nat.beq_refl] at h; cases h
def SRevsC (T : CallT) : Prop := ∀ (k ka km kn bl : Nat) (d : SC) (ba : Option Nat) (n : Nat) (rows : List (List V)) (l : List Rev) (mv : V) (bm : Nat) (m : Option Mv) (j : Int) (h : Hp) (K : V → Hp → Prop), N4 k ka km kn → rows = l.map encRev → n = l.length → mv = mvN km bm m → (∀ r ∈ l, r.delta.length ≤ 1000000000) → (0 ≤ d.b ∧ d.b ≤ 4294967295) → l.length ≤ 1000 → h k = some (obSh bl (rowS d (.own ka ba 3 n) mv)) → h ka = some (obV ba rows) → h kn = none →
  (∀ x y, (x, y) = srevsT d l j → ∀ bo n' rows', n' = x.length → rows' = x.map encRev → K (.tup [.own kn bo 3 n', .int .i64 y]) (h.puts [(k, obSh bl (rowS d (.own ka ba 3 n) mv)), (ka, obV ba rows), (kn, obV bo rows')])) → T 44 [.ptr k (some bl) 47 0 0, .int .i64 j] h K
theorem srevsC : SRevsC (CallE Try.prog) := by
  rintro k ka km kn bl d ba n rows l mv bm m j h K hN rfl rfl rfl hdl hb hn hk hka hkn hK
  have n1 := neB hN.a
  have n2 := neB hN.b
  have n3 := neB hN.c
  have n1' : ¬ ka = k := fun e => n1 e.symm
  have n2' : ¬ kn = k := fun e => n2 e.symm
  have n3' : ¬ kn = ka := fun e => n3 e.symm
  have m1 := neB hN.d
  have m2 := neB hN.e
  have m3 := neB hN.f
  have m4 := neB hN.g
  have m5 := neB hN.h
  have m6 := neB hN.i
  have b0 : bal [(0, k), (1000001, ka), (1000041, kn)] k = 0 := by simp [bal]
  have b1 : bal [(0, k), (1000001, ka), (1000041, kn)] ka = 1000001 := by simp [bal, n1']
  have bm1 : bal [(0, k), (1000001, ka), (1000041, kn)] km = km := by simp [bal, m4, m5, m6]
  have l0 : lab [(0, k), (1000001, ka), (1000041, kn)] 0 = k := by simp [lab]
  have l1 : lab [(0, k), (1000001, ka), (1000041, kn)] 1000001 = ka := by simp [lab]
  have l2 : lab [(0, k), (1000001, ka), (1000041, kn)] 1000041 = kn := by simp [lab]
  have lm : lab [(0, k), (1000001, ka), (1000041, kn)] km = km := by simp [lab, m1, m2, m3]
  refine callN [(0, k), (1000001, ka), (1000041, kn)] (sp_srevs bl d ba l hdl hb hn j (mvN km bm m) (mvN_mq _ _ _)) (.cons ?_ (args_plain rfl)) (by show ([0, 1000001, 1000041] : List Nat).Nodup; decide) (by simp [n1, n2, n3]) (by simp) (fun p hp => ?_) (fun p hp => ?_) ?_ ?_
  · have := Arg.same (h := h) (m := [(0, k), (1000001, ka), (1000041, kn)]) (.ptr k (some bl) 47 0 0)
    simpa [V.ren, V.rl, b0] using this
  · simp only [S2, List.mem_cons, List.not_mem_nil, or_false] at hp
    rcases hp with rfl | rfl <;> simp
  · simp only [S2, List.mem_cons, List.not_mem_nil, or_false] at hp
    rcases hp with rfl | rfl
    · refine ⟨?_, rowS_fz (.own _ _ _ _) (mvN_fz _ _ _) bl⟩
      show (h (lab _ 0)).map _ = _
      rw [l0, hk, Option.map_some, obSh_ren, mvN_rl, bm1]
      show some (obSh bl (rowS d (.own (bal _ ka) ba 3 _) _)) = _
      rw [b1]
    · refine ⟨?_, encRevs_fz _⟩
      show (h (lab _ 1000001)).map _ = _
      rw [l1, hka, Option.map_some, obV_ren]
  · rintro v L' ⟨bo, _, rfl⟩; rfl
  · rintro v L' ⟨bo, rfl, rfl⟩
    have e : backL [(0, k), (1000001, ka), (1000041, kn)] (Ob.ren (lab [(0, k), (1000001, ka), (1000041, kn)])) [(0, obSh bl (rowS d (.own 1000001 ba 3 l.length) (mvN km bm m))), (1000001, obV ba (l.map encRev)), (1000041, obV bo ((srevsT d l j).1.map encRev))] = [(k, obSh bl (rowS d (.own ka ba 3 l.length) (mvN km bm m))), (ka, obV ba (l.map encRev)), (kn, obV bo ((srevsT d l j).1.map encRev))] := by
      simp only [backL, List.zipWith_cons_cons, List.zipWith_nil_left, obSh_ren, obV_ren, mvN_rl, lm]
      show [(k, obSh bl (rowS d (.own (lab _ 1000001) ba 3 l.length) _)), _, _] = _
      rw [l1]
    rw [e]
    have e2 : (V.tup [.own 1000041 bo 3 (srevsT d l j).1.length, .int .i64 (srevsT d l j).2]).ren (lab [(0, k), (1000001, ka), (1000041, kn)]) = .tup [.own kn bo 3 (srevsT d l j).1.length, .int .i64 (srevsT d l j).2] := by
      show V.tup [.own (lab _ 1000041) bo 3 _, _] = _
      rw [l2]; rfl
    rw [e2]
    exact hK _ _ rfl bo _ _ rfl rfl
theorem parts_ok {d : List Part} (h : checkF d = 0) : PartsOk d := by
  have : oneF ⟨0, 0, d⟩ = 0 := by
    unfold oneF
    rw [if_neg (by show ¬ ((0:Int) < 0 ∨ (7:Int) < 0 ∨ (0:Int) < 0 ∨ (2147483647:Int) < 0); decide)]; exact h
  exact (rev_ok this).1.2.2
def subF (d : SC) (l : List Rev) (m : Option Mv) (base who seq : Int) (x : List Part) : AddR :=
  if (slastT d.tb who).e ≠ 0 ∨ seq < 0 ∨ 2147483647 < seq then ⟨d, l, 0, 1⟩
  else if (szF x).2.2 ≠ 0 then ⟨d, l, 0, (szF x).2.2⟩
  else if 0 < seq ∧ seq = (slastT d.tb who).a then ⟨d, l, (slastT d.tb who).b, 0⟩
  else if seq ≤ (slastT d.tb who).a then ⟨d, l, 0, 10⟩
  else if (stextT d l base).2 ≠ 0 then ⟨d, l, 0, (stextT d l base).2⟩
  else if (szF x).1 ≠ ((stextT d l base).1.length : Int) then ⟨d, l, 0, 4⟩
  else if (foldU x (srevsT d l base).1).2 ≠ 0 then ⟨d, l, 0, (foldU x (srevsT d l base).1).2⟩
  else shAddM d l m ⟨who, seq, (foldU x (srevsT d l base).1).1⟩
structure YSb (x0 : List Part) (l' : List Rev) where
  i : Nat
  k : Int
  x : List Part
  dx : List (List V)
  hi : i ≤ l'.length
  hk : k = (i : Int)
  hdx : dx = x.map encPart
  hx : PartsOk x
  hf : foldU x (l'.drop i) = foldU x0 l'
def ac_ssub : AC := .seq (.region false [
    ⟨some 3, none, .box 70 4 (.t 1)⟩,
    ⟨some 4, none, .mov (.c (.int .i64 0))⟩,
    ⟨some 5, none, .mov (.c (.int .i64 0))⟩])
  (.seq (.region false [
    ⟨some 17, none, .mov (.t 0)⟩,
    ⟨some 18, none, .faddr 1 (.t 3)⟩,
    ⟨some 19, none, .load1 (.t 18)⟩,
    ⟨some 20, none, .call 42 [(.t 17), (.t 19)]⟩,
    ⟨some 16, none, .mov (.t 20)⟩,
    ⟨some 21, none, .ext 0 (.t 16)⟩,
    ⟨some 22, none, .ext 1 (.t 16)⟩,
    ⟨some 6, none, .alloc 78 [(.int .i64 0), (.int .i64 0)]⟩,
    ⟨none, none, .store 2 (.t 6) (.t 21)⟩,
    ⟨some 7, none, .mov (.t 22)⟩])
  (.seq (.seq (.region false [
    ⟨some 23, none, .mov (.t 7)⟩,
    ⟨some 24, none, .bin .neq (.t 23) (.c (.int .i64 0))⟩,
    ⟨some 25, none, .mov (.t 24)⟩,
    ⟨some 26, some (25, false), .faddr 2 (.t 3)⟩,
    ⟨some 27, some (25, false), .load1 (.t 26)⟩,
    ⟨some 28, some (25, false), .bin .lss (.t 27) (.c (.int .i64 0))⟩,
    ⟨some 29, none, .pick (.t 25) (.c (.bool true)) (.t 28)⟩,
    ⟨some 30, none, .mov (.t 29)⟩,
    ⟨some 31, some (30, false), .faddr 2 (.t 3)⟩,
    ⟨some 32, some (30, false), .load1 (.t 31)⟩,
    ⟨some 33, some (30, false), .bin .gtr (.t 32) (.c (.int .i64 2147483647))⟩,
    ⟨some 34, none, .pick (.t 30) (.c (.bool true)) (.t 33)⟩])
  (.cond (.t 34)
    (.seq (.region false [
      ⟨some 4, none, .mov (.c (.int .i64 0))⟩,
      ⟨some 5, none, .mov (.c (.int .i64 1))⟩])
    (.ret))
    (.skip)))
  (.seq (.region false [
    ⟨some 36, none, .faddr 3 (.t 3)⟩,
    ⟨some 37, none, .load1 (.t 36)⟩,
    ⟨some 38, none, .call 67 [(.t 37)]⟩,
    ⟨some 35, none, .mov (.t 38)⟩,
    ⟨some 39, none, .ext 0 (.t 35)⟩,
    ⟨some 40, none, .ext 1 (.t 35)⟩,
    ⟨some 41, none, .ext 2 (.t 35)⟩,
    ⟨some 8, none, .mov (.t 39)⟩,
    ⟨some 9, none, .mov (.t 40)⟩,
    ⟨some 7, none, .mov (.t 41)⟩])
  (.seq (.seq (.region false [
    ⟨some 42, none, .mov (.t 7)⟩,
    ⟨some 43, none, .bin .neq (.t 42) (.c (.int .i64 0))⟩])
  (.cond (.t 43)
    (.seq (.region false [
      ⟨some 44, none, .mov (.t 7)⟩,
      ⟨some 4, none, .mov (.c (.int .i64 0))⟩,
      ⟨some 5, none, .mov (.t 44)⟩])
    (.ret))
    (.skip)))
  (.seq (.seq (.region false [
    ⟨some 45, none, .faddr 2 (.t 3)⟩,
    ⟨some 46, none, .load1 (.t 45)⟩,
    ⟨some 47, none, .bin .gtr (.t 46) (.c (.int .i64 0))⟩,
    ⟨some 48, none, .mov (.t 47)⟩,
    ⟨some 49, some (48, true), .faddr 2 (.t 3)⟩,
    ⟨some 50, some (48, true), .load1 (.t 49)⟩,
    ⟨some 51, some (48, true), .faddr 0 (.t 6)⟩,
    ⟨some 52, some (48, true), .load1 (.t 51)⟩,
    ⟨some 53, some (48, true), .bin .eql (.t 50) (.t 52)⟩,
    ⟨some 54, none, .pick (.t 48) (.t 53) (.c (.bool false))⟩])
  (.cond (.t 54)
    (.seq (.region false [
      ⟨some 55, none, .faddr 1 (.t 6)⟩,
      ⟨some 56, none, .load1 (.t 55)⟩,
      ⟨some 4, none, .mov (.t 56)⟩,
      ⟨some 5, none, .mov (.c (.int .i64 0))⟩])
    (.ret))
    (.skip)))
  (.seq (.seq (.region false [
    ⟨some 57, none, .faddr 2 (.t 3)⟩,
    ⟨some 58, none, .load1 (.t 57)⟩,
    ⟨some 59, none, .faddr 0 (.t 6)⟩,
    ⟨some 60, none, .load1 (.t 59)⟩,
    ⟨some 61, none, .bin .leq (.t 58) (.t 60)⟩])
  (.cond (.t 61)
    (.seq (.region false [
      ⟨some 4, none, .mov (.c (.int .i64 0))⟩,
      ⟨some 5, none, .mov (.c (.int .i64 10))⟩])
    (.ret))
    (.skip)))
  (.seq (.region false [
    ⟨some 63, none, .mov (.t 0)⟩,
    ⟨some 64, none, .faddr 0 (.t 3)⟩,
    ⟨some 65, none, .load1 (.t 64)⟩,
    ⟨some 66, none, .call 22 [(.t 63), (.t 65)]⟩,
    ⟨some 62, none, .mov (.t 66)⟩,
    ⟨some 67, none, .ext 0 (.t 62)⟩,
    ⟨some 68, none, .ext 1 (.t 62)⟩,
    ⟨some 10, none, .mov (.t 67)⟩,
    ⟨some 7, none, .mov (.t 68)⟩])
  (.seq (.seq (.region false [
    ⟨some 69, none, .mov (.t 7)⟩,
    ⟨some 70, none, .bin .neq (.t 69) (.c (.int .i64 0))⟩])
  (.cond (.t 70)
    (.seq (.region false [
      ⟨some 71, none, .mov (.t 7)⟩,
      ⟨some 4, none, .mov (.c (.int .i64 0))⟩,
      ⟨some 5, none, .mov (.t 71)⟩])
    (.ret))
    (.skip)))
  (.seq (.seq (.region false [
    ⟨some 72, none, .mov (.t 8)⟩,
    ⟨some 73, none, .mov (.t 10)⟩,
    ⟨some 74, none, .len true (.t 73)⟩,
    ⟨some 75, none, .bin .neq (.t 72) (.t 74)⟩])
  (.cond (.t 75)
    (.seq (.region false [
      ⟨some 4, none, .mov (.c (.int .i64 0))⟩,
      ⟨some 5, none, .mov (.c (.int .i64 4))⟩])
    (.ret))
    (.skip)))
  (.seq (.region false [
    ⟨some 77, none, .mov (.t 0)⟩,
    ⟨some 78, none, .faddr 0 (.t 3)⟩,
    ⟨some 79, none, .load1 (.t 78)⟩,
    ⟨some 80, none, .call 44 [(.t 77), (.t 79)]⟩,
    ⟨some 76, none, .mov (.t 80)⟩,
    ⟨some 81, none, .ext 0 (.t 76)⟩,
    ⟨some 82, none, .ext 1 (.t 76)⟩,
    ⟨some 11, none, .mov (.t 81)⟩,
    ⟨some 12, none, .mov (.t 82)⟩])
  (.seq (.region false [
    ⟨some 83, none, .faddr 3 (.t 3)⟩,
    ⟨some 84, none, .load1 (.t 83)⟩,
    ⟨some 13, none, .mov (.t 84)⟩])
  (.seq (.seq (.region false [
    ⟨some 85, none, .mov (.t 11)⟩,
    ⟨some 86, none, .len false (.t 85)⟩,
    ⟨some 87, none, .mov (.c (.int .i64 0))⟩])
  (.block 0 (.loop (.seq (.region false [
      ⟨some 88, none, .bin .lss (.t 87) (.t 86)⟩])
    (.seq (.cond (.t 88)
      (.skip)
      (.exit 0))
    (.seq (.block 1 (.seq (.region false [
      ⟨some 89, none, .iaddr 3 (.t 85) (.t 87)⟩,
      ⟨some 90, none, .loadn 3 (.t 89)⟩,
      ⟨some 15, none, .alloc 45 [(.int .i64 0), (.int .i64 0), (.slice none 0 0)]⟩,
      ⟨none, none, .store 3 (.t 15) (.t 90)⟩])
    (.seq (.region false [
      ⟨some 92, none, .faddr 2 (.t 15)⟩,
      ⟨some 93, none, .load1 (.t 92)⟩,
      ⟨some 94, none, .mov (.t 13)⟩,
      ⟨some 95, none, .call 50 [(.t 93), (.t 94)]⟩,
      ⟨some 91, none, .mov (.t 95)⟩,
      ⟨some 96, none, .ext 0 (.t 91)⟩,
      ⟨some 97, none, .ext 1 (.t 91)⟩,
      ⟨some 98, none, .ext 2 (.t 91)⟩,
      ⟨some 13, none, .mov (.t 97)⟩,
      ⟨some 7, none, .mov (.t 98)⟩])
    (.seq (.region false [
      ⟨some 99, none, .mov (.t 7)⟩,
      ⟨some 100, none, .bin .neq (.t 99) (.c (.int .i64 0))⟩])
    (.cond (.t 100)
      (.seq (.region false [
        ⟨some 101, none, .mov (.t 7)⟩,
        ⟨some 4, none, .mov (.c (.int .i64 0))⟩,
        ⟨some 5, none, .mov (.t 101)⟩])
      (.ret))
      (.skip))))))
    (.region false [
      ⟨some 102, none, .bin .add (.t 87) (.c (.int .i64 1))⟩,
      ⟨some 87, none, .mov (.t 102)⟩])))))))
  (.seq (.region false [
    ⟨some 103, none, .mov (.t 0)⟩,
    ⟨some 104, none, .faddr 1 (.t 3)⟩,
    ⟨some 105, none, .load1 (.t 104)⟩,
    ⟨some 106, none, .faddr 2 (.t 3)⟩,
    ⟨some 107, none, .load1 (.t 106)⟩,
    ⟨some 108, none, .mov (.t 13)⟩,
    ⟨some 109, none, .build [(.int .i64 0), (.int .i64 0), (.slice none 0 0)] [(0, 1, (.t 105)), (1, 1, (.t 107)), (2, 1, (.t 108))]⟩,
    ⟨some 110, none, .call 18 [(.t 103), (.t 109)]⟩,
    ⟨some 111, none, .ext 0 (.t 110)⟩,
    ⟨some 112, none, .ext 1 (.t 110)⟩,
    ⟨some 4, none, .mov (.t 111)⟩,
    ⟨some 5, none, .mov (.t 112)⟩])
  (.ret))))))))))))))
theorem ok_ssub : FnOk Try.prog 28 Try.f28 ac_ssub [.t 4, .t 5] 2 drawD := ⟨Try.func28, by decide +kernel, by kernel_rfl, by kernel_rfl, by decide +kernel⟩
theorem vc_ssub (P : Prim) (hP : P = std) (T T1 : CallT) (hlast : SLastC T) (htext : STextC T) (hrevs : SRevsC T) (hadd : SAddC T) (bl : Nat) (d : SC) (ba : Option Nat) (l : List Rev) (n : Nat) (hn : n = l.length) (rows : List (List V)) (hrows : rows = l.map encRev) (bm : Nat) (m : Option Mv) (mv : V) (mo : Ob) (hmv : mv = mvN 1 bm m) (hmo : mo = obMv bm m) (hok : ShOk d l)
    (base who seq : Int) (x0 : List Part) (hx0 : PartsOk x0) (dr : List (List V)) (hdr : dr = x0.map encPart) (si so se : Int) (h1 : Ans T 67 [.sl false 3 dr] (.tup [.int .i64 si, .int .i64 so, .int .i64 se])) (hsz : szF x0 = (si, so, se))
    (mC mD : List Part → List Part → List Part) (mE : List Part → List Part → Int) (hmD : ∀ a x, mD a x = (meetF a x).2.1) (hmE : ∀ a x, mE a x = (meetF a x).2.2)
    (hmeet : ∀ a x da dx dc dd, PartsOk a → PartsOk x → da = a.map encPart → dx = x.map encPart → dc = (mC a x).map encPart → dd = (mD a x).map encPart → Ans T 50 [.sl false 3 da, .sl false 3 dx] (.tup [.sl false 3 dc, .sl false 3 dd, .int .i64 (mE a x)]))
    (Y : AddR) (hY : Y = subF d l m base who seq x0)
    (R : S → Prop) (hR : ∀ (s s' : S) (ba' : Option Nat) (n' : Nat) (rows' : List (List V)) (bm' : Nat) (mv' : V) (mo' : Ob) (d' : SC) (l' : List Rev) (v e : Int), (⟨d', l', v, e⟩ : AddR) = Y → n' = l'.length → rows' = l'.map encRev → mv' = mvN 1 bm' m → mo' = obMv bm' m → Ent s s' → Ret [.t 4, .t 5] [.int .i64 v, .int .i64 e] s' →
      agreeH [(0, obSh bl (rowS d' (.own 1000001 ba' 3 n') mv')), (1000001, obV ba' rows'), (1, mo')] s' → R s) : awp P T T1 ac_ssub (S0 [.ptr 0 (some bl) 47 0 0, .agg [.int .i64 base, .int .i64 who, .int .i64 seq, .sl false 3 dr]] (lookH [(0, obSh bl (rowS d (.own 1000001 ba 3 n) mv)), (1000001, obV ba rows), (1, mo)])) R (fun _ _ => False) R := by
  have hb4 : 0 ≤ d.b ∧ d.b ≤ 4294967295 := ⟨hok.b.1, Int.le_trans hok.b.2 (by decide)⟩
  have hmq : MQ mv := by rw [hmv]; exact mvN_mq _ _ _
  have hr1 : rtB 0 mv = true := rt0 hmq.2
  have hr2 : rt2B 0 1000001 mv = true := by rw [hmv]; exact rt2_mv rfl
  have hln : l.length ≤ 1000 := Nat.le_trans hok.len (by decide)
  unfold subF at hY
  rw [hsz] at hY
  cbv
  repeat' (first
    | (refine And.intro (by first | assumption | decide) ?_; try cbv)
    | (intro β2; try cbv))
  refine hlast 0 bl d (.own 1000001 ba 3 n) mv who _ _ ⟨⟨.own _ _ _ _, rfl⟩, hmq.1⟩ rfl hr1 rfl fun la lb le hla hlb hle => ?_
  rw [← hla, ← hlb, ← hle] at hY
  cbv
  repeat' (first
    | (refine And.intro (by first | assumption | decide) ?_; try cbv)
    | (intro β3; try cbv))
  refine br_cases (fun g => ?_) (fun g => ?_)
  · have g1 : le ≠ 0 := ne_t hP g
    rw [if_pos (.inl g1)] at hY
    cbv
    repeat' (first
    | (refine And.intro (by first | assumption | decide) ?_; try cbv)
    | (intro β3; try cbv))
    exact hR _ _ ba n rows bm mv mo d l _ _ (by rw [hY]) hn hrows hmv hmo (Ent.refl _) rfl ⟨rfl, rfl, rfl, trivial⟩
  have g1 : le = 0 := ne_f hP g
  cbv
  repeat' (first
    | (refine And.intro (by first | assumption | decide) ?_; try cbv)
    | (intro β3; try cbv))
  refine br_cases (fun g => ?_) (fun g => ?_)
  · have g2 : seq < 0 := lt_t hP g
    rw [if_pos (.inr (.inl g2))] at hY
    cbv
    repeat' (first
    | (refine And.intro (by first | assumption | decide) ?_; try cbv)
    | (intro β3; try cbv))
    exact hR _ _ ba n rows bm mv mo d l _ _ (by rw [hY]) hn hrows hmv hmo (Ent.refl _) rfl ⟨rfl, rfl, rfl, trivial⟩
  have g2 : ¬ seq < 0 := lt_f hP g
  cbv
  repeat' (first
    | (refine And.intro (by first | assumption | decide) ?_; try cbv)
    | (intro β3; try cbv))
  refine br_cases (fun g => ?_) (fun g => ?_)
  · have g3 : 2147483647 < seq := lt_t hP g
    rw [if_pos (.inr (.inr g3))] at hY
    cbv
    repeat' (first
    | (refine And.intro (by first | assumption | decide) ?_; try cbv)
    | (intro β3; try cbv))
    exact hR _ _ ba n rows bm mv mo d l _ _ (by rw [hY]) hn hrows hmv hmo (Ent.refl _) rfl ⟨rfl, rfl, rfl, trivial⟩
  have g3 : ¬ 2147483647 < seq := lt_f hP g
  rw [if_neg (fun h => h.elim (fun h => h g1) (fun h => h.elim g2 g3))] at hY
  cbv
  repeat' (first
    | (refine And.intro (by first | assumption | decide) ?_; try cbv)
    | (intro β3; try cbv))
  refine h1 _ _ ?_
  cbv
  repeat' (first
    | (refine And.intro (by first | assumption | decide) ?_; try cbv)
    | (intro β3; try cbv))
  refine br_cases (fun g => ?_) (fun g => ?_)
  · have g4 : se ≠ 0 := ne_t hP g
    rw [if_pos g4] at hY
    cbv
    repeat' (first
    | (refine And.intro (by first | assumption | decide) ?_; try cbv)
    | (intro β3; try cbv))
    exact hR _ _ ba n rows bm mv mo d l _ _ (by rw [hY]) hn hrows hmv hmo (Ent.refl _) rfl ⟨rfl, rfl, rfl, trivial⟩
  have g4 : se = 0 := ne_f hP g
  rw [if_neg (fun h => h g4)] at hY
  cbv
  repeat' (first
    | (refine And.intro (by first | assumption | decide) ?_; try cbv)
    | (intro β3; try cbv))
  refine br_cases (fun g => ?_) (fun g => ?_)
  · have g5 : 0 < seq := lt_t hP g
    cbv
    repeat' (first
    | (refine And.intro (by first | assumption | decide) ?_; try cbv)
    | (intro β3; try cbv))
    refine br_cases (fun g => ?_) (fun g => ?_)
    · have g6 : seq = la := eq_t hP g
      rw [if_pos ⟨g5, g6⟩] at hY
      cbv
      repeat' (first
    | (refine And.intro (by first | assumption | decide) ?_; try cbv)
    | (intro β3; try cbv))
      exact hR _ _ ba n rows bm mv mo d l _ _ (by rw [hY]) hn hrows hmv hmo (Ent.refl _) rfl ⟨rfl, rfl, rfl, trivial⟩
    have g6 : ¬ seq = la := eq_f hP g
    rw [if_neg (fun h => g6 h.2)] at hY
    clear g
    cbv
    repeat' (first
    | (refine And.intro (by first | assumption | decide) ?_; try cbv)
    | (intro β3; try cbv))
    refine br_cases (fun g => ?_) (fun g => ?_)
    · have g7 : seq ≤ la := le_t hP g
      rw [if_pos g7] at hY
      cbv
      repeat' (first
    | (refine And.intro (by first | assumption | decide) ?_; try cbv)
    | (intro β3; try cbv))
      exact hR _ _ ba n rows bm mv mo d l _ _ (by rw [hY]) hn hrows hmv hmo (Ent.refl _) rfl ⟨rfl, rfl, rfl, trivial⟩
    have g7 : ¬ seq ≤ la := le_f hP g
    rw [if_neg g7] at hY
    cbv
    repeat' (first
    | (refine And.intro (by first | assumption | decide) ?_; try cbv)
    | (intro β3; try cbv))
    refine htext 0 1000001 bl d ba n rows l mv base _ _ hrows hn hok.rv hb4 hln hmq rfl hr2 rfl rfl fun x y hx hy => ?_
    rw [← hx, ← hy] at hY
    cbv
    repeat' (first
    | (refine And.intro (by first | assumption | decide) ?_; try cbv)
    | (intro β3; try cbv))
    refine br_cases (fun g => ?_) (fun g => ?_)
    · have g8 : y ≠ 0 := ne_t hP g
      rw [if_pos g8] at hY
      cbv
      repeat' (first
    | (refine And.intro (by first | assumption | decide) ?_; try cbv)
    | (intro β3; try cbv))
      exact hR _ _ ba n rows bm mv mo d l _ _ (by rw [hY]) hn hrows hmv hmo (Ent.refl _) rfl ⟨rfl, rfl, rfl, trivial⟩
    have g8 : y = 0 := ne_f hP g
    rw [if_neg (fun h => h g8)] at hY
    cbv
    repeat' (first
    | (refine And.intro (by first | assumption | decide) ?_; try cbv)
    | (intro β3; try cbv))
    refine br_cases (fun g => ?_) (fun g => ?_)
    · have g9 : si ≠ P.slen x := ne_t hP g
      rw [slen_eq hP] at g9
      rw [if_pos g9] at hY
      cbv
      repeat' (first
    | (refine And.intro (by first | assumption | decide) ?_; try cbv)
    | (intro β3; try cbv))
      exact hR _ _ ba n rows bm mv mo d l _ _ (by rw [hY]) hn hrows hmv hmo (Ent.refl _) rfl ⟨rfl, rfl, rfl, trivial⟩
    have g9 : si = P.slen x := ne_f hP g
    rw [slen_eq hP] at g9
    rw [if_neg (fun h => h g9)] at hY
    cbv
    repeat' (first
    | (refine And.intro (by first | assumption | decide) ?_; try cbv)
    | (intro β3; try cbv))
    refine hrevs 0 1000001 1 1000300 bl d ba n rows l mv bm m base _ _ ⟨rfl, rfl, rfl, rfl, rfl, rfl, rfl, rfl, rfl⟩ hrows hn hmv hok.dl hb4 hln rfl rfl rfl fun l' y' hl' bo n' rows' hn' hrows' => ?_
    have hl1 : (srevsT d l base).1 = l' := by rw [← hl']
    rw [hl1] at hY
    have hl'len : l'.length ≤ 64 := by
      have : l'.length ≤ l.length := by
        rw [← hl1]
        unfold srevsT
        split
        · exact Nat.zero_le _
        · show (l.drop _).length ≤ _
          rw [List.length_drop]; exact Nat.sub_le _ _
      exact Nat.le_trans this hok.len
    have hl'ok : ∀ r ∈ l', r.Ok := by
      intro r hr
      rw [← hl1] at hr
      unfold srevsT at hr
      split at hr
      · cases hr
      · exact hok.rv.2 r (List.mem_of_mem_drop hr)
    cbv
    repeat' (first
    | (refine And.intro (by first | assumption | decide) ?_; try cbv)
    | (intro β3; try cbv))
    refine ⟨YSb x0 l', fun y => [(0, .ptr 0 (some bl) 47 0 0), (3, .ptr 3 (some β2) 4 0 0), (13, .sl false 3 y.dx), (85, .own 1000300 bo 3 n'), (86, .int .i64 (P.int n')), (87, .int .i64 y.k)],
      fun y => [(0, obSh bl (rowS d (.own 1000001 ba 3 n) mv)), (1000001, obV ba rows), (1, mo), (1000300, obV bo rows'), (3, ⟨some β2, 70, 4, [[.int .i64 base, .int .i64 who, .int .i64 seq, .sl false 3 dr]]⟩)], fun y => l'.length - y.i,
      ⟨_, Ent.refl _, ⟨0, 0, x0, dr, Nat.zero_le _, rfl, hdr, hx0, rfl⟩, ⟨rfl, rfl, rfl, rfl, rfl, rfl, trivial⟩, ⟨rfl, rfl, rfl, rfl, rfl, trivial⟩⟩, ?_⟩
    rintro ⟨i, k, xd, dx, hi, hk, hdx, hxp, hf⟩
    cbv
    refine br_cases (fun g => ?_) (fun g => ?_)
    · have k1 : k < P.int n' := lt_t hP g
      rw [int_eq hP, hn'] at k1
      have hil : i < l'.length := by ((try simp only [nc] at *); omega)
      obtain ⟨r, hrr⟩ : ∃ r, l'[i]? = some r := ⟨_, List.getElem?_eq_getElem hil⟩
      have hrow : P.row rows' (P.nat k) [.int .i64 r.who, .int .i64 r.seq, .sl false 3 (r.delta.map encPart)] := row_of hP hk (by rw [hrows', List.getElem?_map, hrr]; rfl)
      have hrp := (hl'ok r (List.mem_of_getElem? hrr)).2.2
      have hst : foldU xd (l'.drop i) = if mE r.delta xd ≠ 0 then ([], mE r.delta xd) else foldU (mD r.delta xd) (l'.drop (i + 1)) := by
        have e : l'.drop i = r :: l'.drop (i + 1) := by rw [List.drop_eq_getElem_cons hil]; congr 1; rw [List.getElem?_eq_getElem hil] at hrr; exact Option.some.inj hrr
        rw [e, foldU, hmE, hmD]
      have hpx : mE r.delta xd = 0 → PartsOk (mD r.delta xd) := by
        intro h0
        rw [hmE] at h0
        rw [hmD]
        obtain ⟨_, _, _, u4, u5⟩ := meetF_ok h0
        rw [u5]
        exact parts_ok u4
      rw [hst] at hf
      obtain ⟨rw', hrw⟩ : ∃ w, r.who = w := ⟨_, rfl⟩
      obtain ⟨rq, hrq⟩ : ∃ w, r.seq = w := ⟨_, rfl⟩
      obtain ⟨rd, hrd⟩ : ∃ w, r.delta = w := ⟨_, rfl⟩
      rw [hrw, hrq, hrd] at hrow
      rw [hrd] at hf hpx hrp
      obtain ⟨da, hda⟩ : ∃ da, da = rd.map encPart := ⟨_, rfl⟩
      rw [← hda] at hrow
      obtain ⟨dc, hdc⟩ : ∃ da, da = (mC rd xd).map encPart := ⟨_, rfl⟩
      obtain ⟨dd, hdd⟩ : ∃ da, da = (mD rd xd).map encPart := ⟨_, rfl⟩
      obtain ⟨me, hme⟩ : ∃ e, mE rd xd = e := ⟨_, rfl⟩
      have hm := hmeet rd xd da dx dc dd hrp hxp hda hdx hdc hdd
      rw [hme] at hm hf hpx
      have q1 : P.leP 0 k := le0 hP (by rw [hk]; exact Int.natCast_nonneg _)
      have q2 : P.ltP k (P.int n') := ltI hP (by rw [int_eq hP, hn']; exact k1)
      have q3 : P.i64 (P.add k 1) := by rw [add_eq hP]; exact i64I hP (by ((try simp only [nc] at *); omega))
      have q4 : P.add k 1 = ((i + 1 : Nat) : Int) := by rw [add_eq hP, hk]; simp
      cbv
      repeat' (first
    | (refine And.intro (by first | assumption | decide) ?_; try cbv)
    | (intro β3; try cbv))
      refine ⟨_, hrow, ?_⟩
      cbv
      repeat' (first
    | (refine And.intro (by first | assumption | decide) ?_; try cbv)
    | (intro β3; try cbv))
      refine hm _ _ ?_
      cbv
      repeat' (first
    | (refine And.intro (by first | assumption | decide) ?_; try cbv)
    | (intro β3; try cbv))
      refine br_cases (fun g => ?_) (fun g => ?_)
      · have g10 : me ≠ 0 := ne_t hP g
        rw [if_pos g10] at hf
        have hY2 : Y = ⟨d, l, 0, me⟩ := by rw [hY, ← hf, if_pos g10]
        cbv
        repeat' (first
    | (refine And.intro (by first | assumption | decide) ?_; try cbv)
    | (intro β3; try cbv))
        exact hR _ _ ba n rows bm mv mo d l _ _ (by rw [hY2]) hn hrows hmv hmo (Ent.refl _) rfl ⟨rfl, rfl, rfl, trivial⟩
      have g10 : me = 0 := ne_f hP g
      rw [if_neg (fun h => h g10)] at hf
      cbv
      repeat' (first
    | (refine And.intro (by first | assumption | decide) ?_; try cbv)
    | (intro β3; try cbv))
      refine ⟨_, Ent.refl _, ⟨i + 1, _, mD rd xd, dd, hil, q4, hdd, hpx g10, hf⟩, ⟨rfl, rfl, rfl, rfl, rfl, rfl, trivial⟩, ⟨rfl, rfl, rfl, rfl, rfl, trivial⟩, ?_⟩
      show l'.length - (i + 1) < l'.length - i; omega
    have k1 : ¬ k < P.int n' := lt_f hP g
    rw [int_eq hP, hn'] at k1
    have hil : i = l'.length := by ((try simp only [nc] at *); omega)
    have hf2 : foldU x0 l' = (xd, 0) := by
      have hf : foldU xd (l'.drop i) = foldU x0 l' := hf
      rw [hil, List.drop_length] at hf
      rw [← hf]; rfl
    rw [hf2, if_neg (fun h => h rfl)] at hY
    cbv
    repeat' (first
    | (refine And.intro (by first | assumption | decide) ?_; try cbv)
    | (intro β3; try cbv))
    refine hadd 0 1000001 1 bl d ba n rows l mv mo bm m ⟨who, seq, xd⟩ who seq dx _ _ ⟨hn, hrows, hmv, hmo, rfl, rfl, rfl, ⟨rfl, rfl, rfl⟩⟩ ⟨rfl, rfl, hdx⟩ hxp hok.b hok.at' fun v e ba' d' l2 n2 rows2 bm' mv' mo' hA hn2 hrows2 hmv' hmo' => ?_
    cbv
    repeat' (first
    | (refine And.intro (by first | assumption | decide) ?_; try cbv)
    | (intro β3; try cbv))
    exact hR _ _ ba' n2 rows2 bm' mv' mo' d' l2 v e (by rw [hY, hA]) hn2 hrows2 hmv' hmo' (Ent.refl _) rfl ⟨rfl, rfl, rfl, trivial⟩
  · have g5 : ¬ 0 < seq := lt_f hP g
    rw [if_neg (fun h => g5 h.1)] at hY
    clear g
    cbv
    repeat' (first
    | (refine And.intro (by first | assumption | decide) ?_; try cbv)
    | (intro β3; try cbv))
    refine br_cases (fun g => ?_) (fun g => ?_)
    · have g7 : seq ≤ la := le_t hP g
      rw [if_pos g7] at hY
      cbv
      repeat' (first
    | (refine And.intro (by first | assumption | decide) ?_; try cbv)
    | (intro β3; try cbv))
      exact hR _ _ ba n rows bm mv mo d l _ _ (by rw [hY]) hn hrows hmv hmo (Ent.refl _) rfl ⟨rfl, rfl, rfl, trivial⟩
    have g7 : ¬ seq ≤ la := le_f hP g
    rw [if_neg g7] at hY
    cbv
    repeat' (first
    | (refine And.intro (by first | assumption | decide) ?_; try cbv)
    | (intro β3; try cbv))
    refine htext 0 1000001 bl d ba n rows l mv base _ _ hrows hn hok.rv hb4 hln hmq rfl hr2 rfl rfl fun x y hx hy => ?_
    rw [← hx, ← hy] at hY
    cbv
    repeat' (first
    | (refine And.intro (by first | assumption | decide) ?_; try cbv)
    | (intro β3; try cbv))
    refine br_cases (fun g => ?_) (fun g => ?_)
    · have g8 : y ≠ 0 := ne_t hP g
      rw [if_pos g8] at hY
      cbv
      repeat' (first
    | (refine And.intro (by first | assumption | decide) ?_; try cbv)
    | (intro β3; try cbv))
      exact hR _ _ ba n rows bm mv mo d l _ _ (by rw [hY]) hn hrows hmv hmo (Ent.refl _) rfl ⟨rfl, rfl, rfl, trivial⟩
    have g8 : y = 0 := ne_f hP g
    rw [if_neg (fun h => h g8)] at hY
    cbv
    repeat' (first
    | (refine And.intro (by first | assumption | decide) ?_; try cbv)
    | (intro β3; try cbv))
    refine br_cases (fun g => ?_) (fun g => ?_)
    · have g9 : si ≠ P.slen x := ne_t hP g
      rw [slen_eq hP] at g9
      rw [if_pos g9] at hY
      cbv
      repeat' (first
    | (refine And.intro (by first | assumption | decide) ?_; try cbv)
    | (intro β3; try cbv))
      exact hR _ _ ba n rows bm mv mo d l _ _ (by rw [hY]) hn hrows hmv hmo (Ent.refl _) rfl ⟨rfl, rfl, rfl, trivial⟩
    have g9 : si = P.slen x := ne_f hP g
    rw [slen_eq hP] at g9
    rw [if_neg (fun h => h g9)] at hY
    cbv
    repeat' (first
    | (refine And.intro (by first | assumption | decide) ?_; try cbv)
    | (intro β3; try cbv))
    refine hrevs 0 1000001 1 1000300 bl d ba n rows l mv bm m base _ _ ⟨rfl, rfl, rfl, rfl, rfl, rfl, rfl, rfl, rfl⟩ hrows hn hmv hok.dl hb4 hln rfl rfl rfl fun l' y' hl' bo n' rows' hn' hrows' => ?_
    have hl1 : (srevsT d l base).1 = l' := by rw [← hl']
    rw [hl1] at hY
    have hl'len : l'.length ≤ 64 := by
      have : l'.length ≤ l.length := by
        rw [← hl1]
        unfold srevsT
        split
        · exact Nat.zero_le _
        · show (l.drop _).length ≤ _
          rw [List.length_drop]; exact Nat.sub_le _ _
      exact Nat.le_trans this hok.len
    have hl'ok : ∀ r ∈ l', r.Ok := by
      intro r hr
      rw [← hl1] at hr
      unfold srevsT at hr
      split at hr
      · cases hr
      · exact hok.rv.2 r (List.mem_of_mem_drop hr)
    cbv
    repeat' (first
    | (refine And.intro (by first | assumption | decide) ?_; try cbv)
    | (intro β3; try cbv))
    refine ⟨YSb x0 l', fun y => [(0, .ptr 0 (some bl) 47 0 0), (3, .ptr 3 (some β2) 4 0 0), (13, .sl false 3 y.dx), (85, .own 1000300 bo 3 n'), (86, .int .i64 (P.int n')), (87, .int .i64 y.k)],
      fun y => [(0, obSh bl (rowS d (.own 1000001 ba 3 n) mv)), (1000001, obV ba rows), (1, mo), (1000300, obV bo rows'), (3, ⟨some β2, 70, 4, [[.int .i64 base, .int .i64 who, .int .i64 seq, .sl false 3 dr]]⟩)], fun y => l'.length - y.i,
      ⟨_, Ent.refl _, ⟨0, 0, x0, dr, Nat.zero_le _, rfl, hdr, hx0, rfl⟩, ⟨rfl, rfl, rfl, rfl, rfl, rfl, trivial⟩, ⟨rfl, rfl, rfl, rfl, rfl, trivial⟩⟩, ?_⟩
    rintro ⟨i, k, xd, dx, hi, hk, hdx, hxp, hf⟩
    cbv
    refine br_cases (fun g => ?_) (fun g => ?_)
    · have k1 : k < P.int n' := lt_t hP g
      rw [int_eq hP, hn'] at k1
      have hil : i < l'.length := by ((try simp only [nc] at *); omega)
      obtain ⟨r, hrr⟩ : ∃ r, l'[i]? = some r := ⟨_, List.getElem?_eq_getElem hil⟩
      have hrow : P.row rows' (P.nat k) [.int .i64 r.who, .int .i64 r.seq, .sl false 3 (r.delta.map encPart)] := row_of hP hk (by rw [hrows', List.getElem?_map, hrr]; rfl)
      have hrp := (hl'ok r (List.mem_of_getElem? hrr)).2.2
      have hst : foldU xd (l'.drop i) = if mE r.delta xd ≠ 0 then ([], mE r.delta xd) else foldU (mD r.delta xd) (l'.drop (i + 1)) := by
        have e : l'.drop i = r :: l'.drop (i + 1) := by rw [List.drop_eq_getElem_cons hil]; congr 1; rw [List.getElem?_eq_getElem hil] at hrr; exact Option.some.inj hrr
        rw [e, foldU, hmE, hmD]
      have hpx : mE r.delta xd = 0 → PartsOk (mD r.delta xd) := by
        intro h0
        rw [hmE] at h0
        rw [hmD]
        obtain ⟨_, _, _, u4, u5⟩ := meetF_ok h0
        rw [u5]
        exact parts_ok u4
      rw [hst] at hf
      obtain ⟨rw', hrw⟩ : ∃ w, r.who = w := ⟨_, rfl⟩
      obtain ⟨rq, hrq⟩ : ∃ w, r.seq = w := ⟨_, rfl⟩
      obtain ⟨rd, hrd⟩ : ∃ w, r.delta = w := ⟨_, rfl⟩
      rw [hrw, hrq, hrd] at hrow
      rw [hrd] at hf hpx hrp
      obtain ⟨da, hda⟩ : ∃ da, da = rd.map encPart := ⟨_, rfl⟩
      rw [← hda] at hrow
      obtain ⟨dc, hdc⟩ : ∃ da, da = (mC rd xd).map encPart := ⟨_, rfl⟩
      obtain ⟨dd, hdd⟩ : ∃ da, da = (mD rd xd).map encPart := ⟨_, rfl⟩
      obtain ⟨me, hme⟩ : ∃ e, mE rd xd = e := ⟨_, rfl⟩
      have hm := hmeet rd xd da dx dc dd hrp hxp hda hdx hdc hdd
      rw [hme] at hm hf hpx
      have q1 : P.leP 0 k := le0 hP (by rw [hk]; exact Int.natCast_nonneg _)
      have q2 : P.ltP k (P.int n') := ltI hP (by rw [int_eq hP, hn']; exact k1)
      have q3 : P.i64 (P.add k 1) := by rw [add_eq hP]; exact i64I hP (by ((try simp only [nc] at *); omega))
      have q4 : P.add k 1 = ((i + 1 : Nat) : Int) := by rw [add_eq hP, hk]; simp
      cbv
      repeat' (first
    | (refine And.intro (by first | assumption | decide) ?_; try cbv)
    | (intro β3; try cbv))
      refine ⟨_, hrow, ?_⟩
      cbv
      repeat' (first
    | (refine And.intro (by first | assumption | decide) ?_; try cbv)
    | (intro β3; try cbv))
      refine hm _ _ ?_
      cbv
      repeat' (first
    | (refine And.intro (by first | assumption | decide) ?_; try cbv)
    | (intro β3; try cbv))
      refine br_cases (fun g => ?_) (fun g => ?_)
      · have g10 : me ≠ 0 := ne_t hP g
        rw [if_pos g10] at hf
        have hY2 : Y = ⟨d, l, 0, me⟩ := by rw [hY, ← hf, if_pos g10]
        cbv
        repeat' (first
    | (refine And.intro (by first | assumption | decide) ?_; try cbv)
    | (intro β3; try cbv))
        exact hR _ _ ba n rows bm mv mo d l _ _ (by rw [hY2]) hn hrows hmv hmo (Ent.refl _) rfl ⟨rfl, rfl, rfl, trivial⟩
      have g10 : me = 0 := ne_f hP g
      rw [if_neg (fun h => h g10)] at hf
      cbv
      repeat' (first
    | (refine And.intro (by first | assumption | decide) ?_; try cbv)
    | (intro β3; try cbv))
      refine ⟨_, Ent.refl _, ⟨i + 1, _, mD rd xd, dd, hil, q4, hdd, hpx g10, hf⟩, ⟨rfl, rfl, rfl, rfl, rfl, rfl, trivial⟩, ⟨rfl, rfl, rfl, rfl, rfl, trivial⟩, ?_⟩
      show l'.length - (i + 1) < l'.length - i; omega
    have k1 : ¬ k < P.int n' := lt_f hP g
    rw [int_eq hP, hn'] at k1
    have hil : i = l'.length := by ((try simp only [nc] at *); omega)
    have hf2 : foldU x0 l' = (xd, 0) := by
      have hf : foldU xd (l'.drop i) = foldU x0 l' := hf
      rw [hil, List.drop_length] at hf
      rw [← hf]; rfl
    rw [hf2, if_neg (fun h => h rfl)] at hY
    cbv
    repeat' (first
    | (refine And.intro (by first | assumption | decide) ?_; try cbv)
    | (intro β3; try cbv))
    refine hadd 0 1000001 1 bl d ba n rows l mv mo bm m ⟨who, seq, xd⟩ who seq dx _ _ ⟨hn, hrows, hmv, hmo, rfl, rfl, rfl, ⟨rfl, rfl, rfl⟩⟩ ⟨rfl, rfl, hdx⟩ hxp hok.b hok.at' fun v e ba' d' l2 n2 rows2 bm' mv' mo' hA hn2 hrows2 hmv' hmo' => ?_
    cbv
    repeat' (first
    | (refine And.intro (by first | assumption | decide) ?_; try cbv)
    | (intro β3; try cbv))
    exact hR _ _ ba' n2 rows2 bm' mv' mo' d' l2 v e (by rw [hY, hA]) hn2 hrows2 hmv' hmo' (Ent.refl _) rfl ⟨rfl, rfl, rfl, trivial⟩
theorem sp_ssub (bl bm : Nat) (d : SC) (ba : Option Nat) (l : List Rev) (m : Option Mv) (base who seq : Int) (x : List Part) (hx : PartsOk x) (hok : ShOk d l) : Spec Try.prog 28 [.ptr 0 (some bl) 47 0 0, .agg [.int .i64 base, .int .i64 who, .int .i64 seq, .sl false 3 (x.map encPart)]] (lookH (S3 bl d ba l.length (l.map encRev) bm m))
    fun v h' => ∃ L', (∃ ba' bm' d' l' m', (∃ n e, v = .tup [.int .i64 n, .int .i64 e] ∧ ⟨d', l', n, e⟩ = subF d l m base who seq x ∧ m' = m) ∧ L' = S3 bl d' ba' l'.length (l'.map encRev) bm' m') ∧ h' = lookH L' := by
  refine spec_meth dOk ok_ssub (L := S3 bl d ba l.length (l.map encRev) bm m) (fun v L' => ∃ ba' bm' d' l' m', (∃ n e, v = .tup [.int .i64 n, .int .i64 e] ∧ ⟨d', l', n, e⟩ = subF d l m base who seq x ∧ m' = m) ∧ L' = S3 bl d' ba' l'.length (l'.map encRev) bm' m') fun R hR => ?_
  refine vc_ssub std rfl _ _ slastE stextE srevsC saddC bl d ba l _ rfl _ rfl bm m _ _ rfl rfl hok base who seq x hx _ rfl _ _ _ (ansL (sp_szs x hx.1) rfl) rfl (fun a x => (meetF a x).1) (fun a x => (meetF a x).2.1) (fun a x => (meetF a x).2.2) (fun _ _ => rfl) (fun _ _ => rfl) (fun a x da dx dc dd ha hx h1 h2 h3 h4 => by subst h1 h2 h3 h4; exact ansSame (sp_meet a x ha.1 hx.1) rfl rfl) _ rfl R ?_
  rintro s s' ba' n' rows' bm' mv' mo' d' l' v e hY rfl rfl rfl rfl he hr ha
  exact hR s s' _ _ he (resV_mono _ _ _ (fun x hx => by rw [hx]; rfl) hr) ha (.tup _ (by simp; exact ⟨.int _ _, .int _ _⟩)) S3_fz ⟨ba', bm', d', l', m, ⟨v, e, rfl, hY, rfl⟩, rfl⟩
def SSubC (T : CallT) : Prop := ∀ (k ka km bl : Nat) (d : SC) (ba : Option Nat) (n : Nat) (rows : List (List V)) (l : List Rev) (mv : V) (mo : Ob) (bm : Nat) (m : Option Mv) (base who seq : Int) (x : List Part) (dr : List (List V)) (h : Hp) (K : V → Hp → Prop), InH h k ka km bl d ba n rows l mv mo bm m → dr = x.map encPart → PartsOk x → ShOk d l →
  (∀ v e ba' d' l' n' rows' bm' mv' mo', ⟨d', l', v, e⟩ = subF d l m base who seq x → n' = l'.length → rows' = l'.map encRev → mv' = mvN km bm' m → mo' = obMv bm' m → K (.tup [.int .i64 v, .int .i64 e]) (h.puts [(k, obSh bl (rowS d' (.own ka ba' 3 n') mv')), (ka, obV ba' rows'), (km, mo')])) → T 28 [.ptr k (some bl) 47 0 0, .agg [.int .i64 base, .int .i64 who, .int .i64 seq, .sl false 3 dr]] h K
theorem ssubC : SSubC (CallE Try.prog) := by
  rintro k ka km bl d ba n rows l mv mo bm m base who seq x dr h K ⟨rfl, rfl, rfl, rfl, hk, hka, hkm, hN⟩ rfl hx hok hK
  refine callS3 (rest := [.agg [.int .i64 base, .int .i64 who, .int .i64 seq, .sl false 3 (x.map encPart)]]) (post := fun v d' l' m' => ∃ n e, v = .tup [.int .i64 n, .int .i64 e] ∧ ⟨d', l', n, e⟩ = subF d l m base who seq x ∧ m' = m) (sp_ssub bl bm d ba l m base who seq x hx hok) (fun h m => .cons (.same _) .nil) (fun x d' l' m' g hp => ?_) hN hk hka hkm ?_
  · obtain ⟨v, e, rfl, _⟩ := hp; rfl
  · rintro x ba' bm' d' l' m' ⟨v, e, rfl, hp, rfl⟩
    exact hK v e ba' d' l' _ _ bm' _ _ hp rfl rfl rfl rfl
end Go.Proofs.Ytobngncjflogcaa.AM
