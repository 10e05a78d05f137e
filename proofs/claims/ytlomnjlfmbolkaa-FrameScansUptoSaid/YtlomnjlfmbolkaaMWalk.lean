/-
  Going through a delta: the walker's methods.
-/
import Derived.Test.YtlomnjlfmbolkaaMU
import Derived.Test.YtlomnjlfmbolkaaBC
set_option linter.unusedVariables false
set_option linter.unusedSimpArgs false
namespace Go.Proofs.Ytlomnjlfmbolkaa.AM
open Go
set_option maxRecDepth 100000
set_option maxHeartbeats 2000000
/-! plain -/
def sizeP (p : Part) : Int := if p.kind = 2 then p.text.length else p.n
def WkOk (l : List Part) (u : Int) : Prop := (∀ p ∈ l, okP p) ∧ match l with
  | [] => u = 0
  | p :: _ => 0 ≤ u ∧ u < sizeP p
def tokW (l : List Part) (u : Int) : List Tok := (toks l).drop u.toNat
def takeW (l : List Part) (u k : Int) : List Part × Int := match l with
  | [] => ([], u)
  | p :: r => if u + k = sizeP p then (r, 0) else (p :: r, u + k)
def chunk (p : Part) (u k : Int) : List Tok := if p.kind = 2 then ((p.text.drop u.toNat).take k.toNat).map .put else List.replicate k.toNat (if p.kind = 1 then .keep else .cut)
theorem toks1_size (p : Part) (h : okP p) : ((toks1 p).length : Int) = sizeP p := by
  have h1 := okP_bd h
  unfold toks1 sizeP
  split
  · simp
  · split <;> simp <;> omega
theorem size_pos {p : Part} (h : okP p) : 0 < sizeP p := by
  have h1 := okP_bd h
  unfold sizeP
  split
  · have : p.text ≠ [] := by rcases h1.2.2.2 with h | h; exact h.2.2; omega
    have := List.length_pos_iff.2 this
    omega
  · omega
theorem size_le {p : Part} (h : okP p) : sizeP p ≤ 500 := by
  have h1 := okP_bd h
  unfold sizeP
  split <;> omega
theorem takeW_ok {p : Part} {r : List Part} {u k : Int} (h : WkOk (p :: r) u) (hk : 0 ≤ k ∧ u + k ≤ sizeP p) : WkOk (takeW (p :: r) u k).1 (takeW (p :: r) u k).2 := by
  obtain ⟨h1, h2⟩ := h
  simp only [takeW]
  split
  · refine ⟨fun q hq => h1 q (by simp [hq]), ?_⟩
    cases r with
    | nil => rfl
    | cons q r => exact ⟨Int.le_refl _, size_pos (h1 q (by simp))⟩
  · exact ⟨h1, by simp only at h2 ⊢; omega⟩
theorem tok_chunk {p : Part} {r : List Part} {u k : Int} (h : WkOk (p :: r) u) (hk : 0 ≤ k ∧ u + k ≤ sizeP p) : tokW (p :: r) u = chunk p u k ++ tokW (takeW (p :: r) u k).1 (takeW (p :: r) u k).2 := by
  obtain ⟨h1, h2⟩ := h
  simp only at h2
  have hp := h1 p (by simp)
  have hs := toks1_size p hp
  have e1 : tokW (p :: r) u = (toks1 p).drop u.toNat ++ toks r := by
    unfold tokW
    simp only [toks]
    rw [List.drop_append_of_le_length (by omega)]
  have e2 : (toks1 p).drop u.toNat = chunk p u k ++ (toks1 p).drop (u + k).toNat := by
    have e3 : (toks1 p).drop (u + k).toNat = ((toks1 p).drop u.toNat).drop k.toNat := by rw [List.drop_drop]; congr 1; omega
    have e4 : chunk p u k = ((toks1 p).drop u.toNat).take k.toNat := by
      unfold chunk toks1 
      split
      · rw [← List.map_drop, ← List.map_take]
      · rename_i hk2
        have hsz : sizeP p = p.n := by simp [sizeP, hk2]
        split
        · rw [List.drop_replicate, List.take_replicate]; congr 1; omega
        · rw [List.drop_replicate, List.take_replicate]; congr 1; omega
    rw [e3, e4, List.take_append_drop]
  have e5 : tokW (takeW (p :: r) u k).1 (takeW (p :: r) u k).2 = (toks1 p).drop (u + k).toNat ++ toks r := by
    simp only [takeW]
    split
    · rename_i hh
      rw [List.drop_of_length_le (by omega)]
      simp [tokW]
    · unfold tokW
      simp only [toks]
      rw [List.drop_append_of_le_length (by omega)]
  rw [e1, e2, e5, List.append_assoc]
theorem chunk_len {p : Part} {r : List Part} {u k : Int} (h : WkOk (p :: r) u) (hk : 0 ≤ k ∧ u + k ≤ sizeP p) : (chunk p u k).length = k.toNat := by
  obtain ⟨h1, h2⟩ := h
  simp only at h2
  unfold chunk
  split
  · rename_i h3
    have : sizeP p = p.text.length := by simp [sizeP, h3]
    simp; omega
  · simp

/-! in memory -/
/-- a function that reads one object -/
theorem callP1 {P : Program} {f k sz : Nat} {b : Option Nat} {rest : List V} {o : Ob} {v : V} (hs : Spec P f (.ptr 0 b sz 0 0 :: rest) (lookH [(0, o)]) fun x h' => x = v ∧ h' = lookH [(0, o)])
    (hrest : rest.all V.pl = true) (ho : ∀ g, o.ren g = o) (hz : o.Fz) (hv : ∀ g, v.ren g = v) {h : Hp} {K : V → Hp → Prop} (hk : h k = some o) (hK : K v h) : CallP P f (.ptr k b sz 0 0 :: rest) h K := by
  refine ⟨[(0, k)], _, _, v, hs, .cons ?_ (args_plain hrest), fun j q hj => ?_, fun p hp => ?_, by rw [hv]; exact hK⟩
  · have := Arg.same (h := h) (m := [(0, k)]) (.ptr k b sz 0 0)
    simpa [V.ren, V.rl, bal] using this
  · simp only [lookH] at hj
    split at hj
    · rename_i h0; exact ⟨(0, k), by simp, h0.symm⟩
    · cases hj
  · simp only [List.mem_singleton] at hp
    subst hp
    exact ⟨by simp [lab], by simp [bal], o, by simp [lookH], by rw [hk, Option.map_some, ho], hz⟩
theorem callE1 {P : Program} {f k sz : Nat} {b : Option Nat} {rest : List V} {o : Ob} {v : V} (hs : Spec P f (.ptr 0 b sz 0 0 :: rest) (lookH [(0, o)]) fun x h' => x = v ∧ h' = lookH [(0, o)])
    (hrest : rest.all V.pl = true) (ho : ∀ g, o.ren g = o) (hz : o.Fz) (hv : ∀ g, v.ren g = v) {h : Hp} {K : V → Hp → Prop} (hk : h k = some o) (hK : K v (Hp.put h k o)) : CallE P f (.ptr k b sz 0 0 :: rest) h K := by
  refine call1 (post := fun x L' => x = v ∧ L' = [(0, o)]) ⟨hs.fn, fun C us a1 a2 a3 a4 => (hs.run C us a1 a2 a3 a4).mono ?_⟩ (fun x L' h => ⟨o, h.2⟩) hrest ho hz hk ?_
  · rintro e w' ⟨u, x, h', F', e1, e2, e3, rfl, rfl⟩
    exact ⟨u, _, _, F', e1, e2, e3, [(0, o)], ⟨rfl, rfl⟩, rfl⟩
  · rintro x o' ⟨rfl, ho'⟩
    simp only [List.cons.injEq, Prod.mk.injEq, and_true, true_and] at ho'
    subst ho'
    rw [hv, ho]
    exact hK
/-- a method that reads one object -/
theorem spec_read {P : Program} {f : Nat} {fn : Func} {ac : AC} {rv : List RV} {args : List V} {o : Ob} {D : Array Oper → List AO → Bool} (hD : DrawOk P D) (ok : FnOk P f fn ac rv args.length D) (v : V) (hv : Fz v) (ho : o.Fz)
    (h : ∀ R : S → Prop, (∀ (s s' : S), Ent s s' → resV s' rv (fun x => oneV x = v) → s'.h 0 = some o → R s) → awp std (CallE P) (CallP P) ac (S0 args (lookH [(0, o)])) R (fun _ _ => False) R) :
    Spec P f args (lookH [(0, o)]) (fun x h' => x = v ∧ h' = lookH [(0, o)]) := by
  have := spec_meth hD ok (L := [(0, o)]) (fun x L' => x = v ∧ L' = [(0, o)]) fun R hR => h R fun s s' he hr h0 => hR s s' v [(0, o)] he hr ⟨h0, trivial⟩ hv (by intro p hp; simp at hp; subst hp; exact ho) ⟨rfl, rfl⟩
  refine ⟨this.fn, fun C us a1 a2 a3 a4 => (this.run C us a1 a2 a3 a4).mono ?_⟩
  rintro e w' ⟨u, x, h', F', e1, e2, e3, L', ⟨rfl, rfl⟩, rfl⟩
  exact ⟨u, _, _, F', e1, e2, e3, rfl, rfl⟩

def kindW (l : List Part) : Int := match l with
  | [] => 0
  | p :: _ => p.kind
def sizeL (l : List Part) : Int := match l with
  | [] => 0
  | p :: _ => sizeP p
/-! Take -/
def textW (l : List Part) (u k : Int) : List UInt8 := match l with
  | [] => []
  | p :: _ => if p.kind = 2 then (p.text.drop u.toNat).take k.toNat else []
/-! Walk -/
end Go.Proofs.Ytlomnjlfmbolkaa.AM
