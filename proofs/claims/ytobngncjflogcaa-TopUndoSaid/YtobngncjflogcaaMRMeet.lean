/-
  Two deltas of one text: the document's way, and the law MeetSays.
-/
import Derived.Test.YtobngncjflogcaaMMeet
import Derived.Test.YtobngncjflogcaaMMade
import Derived.Test.YtobngncjflogcaaMSpot
set_option linter.unusedVariables false
set_option linter.unusedSimpArgs false
namespace Go.Proofs.Ytobngncjflogcaa.AM
open Go
set_option maxRecDepth 100000
set_option maxHeartbeats 2000000
/-! plain -/
def POk (d : List Part) : Prop := d.length ≤ 1600 ∧ ∀ p ∈ d, 0 ≤ p.n ∧ p.n ≤ 500 ∧ p.text.length ≤ 500
theorem toks_cons2 (p q : List UInt8) : toks [⟨2, 0, p⟩, ⟨1, (q.length : Int), []⟩] = p.map .put ++ List.replicate q.length .keep := by simp [toks, toks1]
theorem toks_cons2' (p q : List UInt8) : toks [⟨1, (p.length : Int), []⟩, ⟨2, 0, q⟩] = List.replicate p.length .keep ++ q.map .put := by simp [toks, toks1]
theorem toks_kind (k : Bool) : toks [⟨if k then 1 else 3, 1, []⟩] = [if k then .keep else .cut] := by cases k <;> simp [toks, toks1]
def addL (l : List Part) (p q : List UInt8) : List Part := l ++ [⟨2, 0, p⟩, ⟨1, (q.length : Int), []⟩]
def addR (l : List Part) (p q : List UInt8) : List Part := l ++ [⟨1, (p.length : Int), []⟩, ⟨2, 0, q⟩]
def addK (l : List Part) (m k : Bool) : List Part := if m then l ++ [⟨if k then 1 else 3, 1, []⟩] else l
theorem puts_bdO (ts : List Tok) : ∀ p ∈ puts ts, p.length ≤ outT ts := by
  have key : (puts ts).flatten.length ≤ outT ts := by
    induction ts with
    | nil => simp [puts, outT]
    | cons t ts ih =>
      cases t
      · simp [puts, outT] at *; omega
      · obtain ⟨p, r, h⟩ := puts_ne ts
        rw [h] at ih
        simp [puts, h, consHead, outT] at *; omega
      · simp [puts, outT] at *; omega
  intro p hp
  have : p.length ≤ (puts ts).flatten.length := by
    obtain ⟨a, b, hab⟩ := List.append_of_mem hp
    rw [hab]; simp; omega
  omega

structure YH2 where
  k : Int
  h0 : k = 0 ∨ k = 1 ∨ k = 2
structure YRm (ps qs : List (List UInt8)) (ks ms : List Bool) where
  i : Nat
  k : Int
  p1 : List (List UInt8)
  r1 : List (List UInt8)
  p2 : List (List UInt8)
  r2 : List (List UInt8)
  k1 : List Bool
  s1 : List Bool
  k2 : List Bool
  s2 : List Bool
  l : List Part
  r : List Part
  nl : Nat
  nr : Nat
  rl : List (List V)
  rr : List (List V)
  bl : Option Nat
  br : Option Nat
  h1 : ps = p1 ++ r1 ∧ p1.length = i
  h2 : qs = p2 ++ r2 ∧ p2.length = i
  h3 : ks = k1 ++ s1 ∧ k1.length = i
  h4 : ms = k2 ++ s2 ∧ k2.length = i
  hk : k = (i : Int)
  hrl : rl = l.map encPart ∧ nl = l.length
  hrr : rr = r.map encPart ∧ nr = r.length
  hl : l.length ≤ 3 * i ∧ ∀ p ∈ l, 0 ≤ p.n ∧ p.n ≤ 500 ∧ p.text.length ≤ 500
  hr : r.length ≤ 3 * i ∧ ∀ p ∈ r, 0 ≤ p.n ∧ p.n ≤ 500 ∧ p.text.length ≤ 500
  hm1 : (meetP ps ks qs ms).1 = toks l ++ (meetP r1 s1 r2 s2).1
  hm2 : (meetP ps ks qs ms).2 = toks r ++ (meetP r1 s1 r2 s2).2
theorem toks_all (d : List Part) (h : checkF d = 0) : (toks d).length ≤ 1000 := by
  obtain ⟨h1, h2, h3, h4, h5, h6⟩ := checkF_all h
  have e1 := inT_toks d h2
  have e2 := outT_toks d h2
  have : ∀ ts : List Tok, ts.length ≤ inT ts + outT ts := by
    intro ts
    induction ts with
    | nil => simp
    | cons t ts ih => cases t <;> simp [inT, kepts, outT] at * <;> omega
  have := this (toks d)
  omega
theorem meet_lens (a b : List Part) (ha : checkF a = 0) (hb : checkF b = 0) : (meetC a b).length ≤ 10000000 ∧ (meetD a b).length ≤ 10000000 := by
  have h1 := toks_all a ha
  have h2 := toks_all b hb
  have h3 := meetT_len ((toks a).length + (toks b).length) (toks a) (toks b)
  exact ⟨mkD_len _ (by show (meetT _ _ _).1.length ≤ _; omega), mkD_len _ (by show (meetT _ _ _).2.length ≤ _; omega)⟩
theorem meetF_len (a b : List Part) : (meetF a b).1.length ≤ 10000000 ∧ (meetF a b).2.1.length ≤ 10000000 := by
  unfold meetF
  split
  · rename_i h
    unfold meetE at h
    by_cases za : checkF a = 0
    · by_cases zb : checkF b = 0
      · exact meet_lens a b za zb
      · rw [if_neg (fun h => h za), if_pos zb] at h; exact absurd h zb
    · rw [if_pos za] at h; exact absurd h za
  · simp
theorem meetF_of {a b : List Part} {e : Int} (h : meetE a b = e) (h0 : e ≠ 0) : meetF a b = ([], [], e) := by unfold meetF; rw [h, if_neg h0]
theorem meetF_0 {a b : List Part} (h : meetE a b = 0) : meetF a b = (meetC a b, meetD a b, 0) := by unfold meetF; rw [if_pos h]
theorem sp_meet (a b : List Part) (ha : a.length ≤ maxLen) (hb : b.length ≤ maxLen) : Spec Try.prog 50 [encParts a, encParts b] Hp.emp (Is (.tup [encParts (meetF a b).1, encParts (meetF a b).2.1, .int .i64 (meetF a b).2.2])) :=
  spec_frz dOk ok_meet fun R hR => vc_meet std rfl _ _ a b _ _ rfl rfl (fun k hk => keepC k hk) (fun s hs => putC s hs) (fun k hk => cutC k hk) doneC walkC kindE_call leftE_call takeC
    (fun d h K k b n rs q hd hrs hn hq hk hK => ⟨h, HEnt.refl h, call_pure (sp_check d (by have : maxLen = 9223372036854775807 := by decide
                                                                                           omega)) (.cons (.own k b 3 n _ (by rw [rowsOf_own hn hk, hrs]) (by simp)) .nil) (by rw [hq] at hK; exact hK)⟩)
    _ _ _ _ _ _ rfl rfl (ansL (sp_szs a ha) rfl) (ansL (sp_szs b hb) rfl) _ _ _ rfl _ _ rfl rfl R (retSl2_of hR)
theorem meetP_mt (a b : List Part) (h : inT (toks a) = inT (toks b)) : meetP (puts (toks a)) (kepts (toks a)) (puts (toks b)) (kepts (toks b)) = mt (toks a) (toks b) := meet_eq _ _ _ (Nat.le_refl _) h
end Go.Proofs.Ytobngncjflogcaa.AM
