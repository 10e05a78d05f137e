/-
  Texts of the plain machine, put together: what the law ShopOpens reaches.
-/
import Derived.Test.YtobngncjflogcaaShopOpens5
import Derived.Test.YtobngncjflogcaaShopOpens12
set_option linter.unusedVariables false
set_option linter.unusedSimpArgs false
namespace Go.Proofs.Ytobngncjflogcaa.AM
open Go
set_option maxRecDepth 100000
set_option maxHeartbeats 2000000
def cntN (done : List Nat) : Nat → Nat
  | 0 => 0
  | n + 1 => cntN done n + (if hasN done n = true then 0 else 1)
theorem hasN_self (i : Nat) (done : List Nat) : hasN (i :: done) i = true := by simp [hasN]
theorem hasN_other {i j : Nat} (h : j ≠ i) (done : List Nat) : hasN (i :: done) j = hasN done j := by
  have : Nat.beq i j = false := by
    cases hb : Nat.beq i j
    · rfl
    · exact absurd (Nat.eq_of_beq_eq_true hb).symm h
  simp [hasN, this]
theorem hasN_mono {i j : Nat} {done : List Nat} (h : hasN done j = true) : hasN (i :: done) j = true := by simp [hasN, h]
theorem cnt_out {i : Nat} {done : List Nat} : ∀ n, n ≤ i → cntN (i :: done) n = cntN done n
  | 0, _ => rfl
  | n + 1, h => by
    simp only [cntN]
    rw [cnt_out n (by omega), hasN_other (by omega)]
theorem cnt_in {i : Nat} {done : List Nat} (hi : hasN done i = false) : ∀ n, i < n → cntN (i :: done) n + 1 = cntN done n
  | 0, h => by omega
  | n + 1, h => by
    simp only [cntN]
    by_cases e : i = n
    · subst e
      rw [cnt_out _ (Nat.le_refl _), hasN_self, hi]; rfl
    · rw [hasN_other (by omega), ← cnt_in hi n (by omega)]; omega
theorem cnt_zero {done : List Nat} : ∀ n, cntN done n = 0 → ∀ i, i < n → hasN done i = true
  | 0, _, i, h => by omega
  | n + 1, h, i, hi => by
    simp only [cntN] at h
    by_cases e : i = n
    · subst e
      cases hh : hasN done i
      · rw [hh] at h; simp at h
      · rfl
    · exact cnt_zero n (by omega) i (by omega)
theorem cnt_nil : ∀ n, cntN [] n = n
  | 0 => rfl
  | n + 1 => by simp only [cntN]; rw [cnt_nil n]; rfl
theorem allA_rdy {f : Nat → AO → Prop} {done : List Nat} : ∀ (l : List (AO × List Nat)) (m : Nat), (∀ (j : Nat) (o : AO) (ps : List Nat), l[j]? = some (o, ps) → hasN done (m + j) = false → ps.all (hasN done) = true → f (m + j) o) → allA (readyA done m l) f
  | [], m, h => trivial
  | (o, ps) :: l, m, h => by
    have ih := allA_rdy (f := f) (done := done) l (m + 1) fun j o ps h1 h2 h3 => by
      have := h (j + 1) o ps h1 (by rw [← h2]; congr 1; omega) h3
      rwa [show m + (j + 1) = m + 1 + j by omega] at this
    simp only [readyA]
    split
    · rename_i he
      rw [Bool.and_eq_true] at he
      have h0 := h 0 o ps rfl (by simpa using he.1) he.2
      rw [Nat.add_zero] at h0
      revert ih
      cases readyA done (m + 1) l with
      | nil => intro _; exact h0
      | cons x r => intro ih; exact ⟨h0, ih⟩
    · exact ih
def Closed (ops : List (AO × List Nat)) (done : List Nat) : Prop := ∀ j o ps, ops[j]? = some (o, ps) → hasN done j = true → ∀ k ∈ ps, hasN done k = true
theorem anyA_go {P : Prim} {T : CallT} {ops : List (AO × List Nat)} {K : S → Prop} (F : List Nat → S)
    (hstep : ∀ (done : List Nat) (i : Nat) (o : AO) (ps : List Nat), ops[i]? = some (o, ps) → hasN done i = false → (∀ k ∈ ps, hasN done k = true) → Closed ops done → ∀ K' : S → Prop, K' (F (i :: done)) → aone P T o (F done) K')
    (hK : ∀ done, (∀ i, i < ops.length → hasN done i = true) → K (F done)) :
    ∀ (n : Nat) (done : List Nat), cntN done ops.length = n → Closed ops done → anyA P T ops n done (F done) K
  | 0, done, hc, _ => hK done (cnt_zero _ hc)
  | n + 1, done, hc, hcl => by
    show allA (readyA done 0 ops) _
    refine allA_rdy ops 0 fun j o ps hj hf hp => ?_
    rw [Nat.zero_add] at hf ⊢
    have hq : ∀ k ∈ ps, hasN done k = true := List.all_eq_true.1 hp
    have hlt : j < ops.length := (List.getElem?_eq_some_iff.1 hj).1
    refine hstep done j o ps hj hf hq hcl _ (anyA_go F hstep hK n (j :: done) (by have := cnt_in hf ops.length hlt; omega) ?_)
    intro j' o' ps' hj' hd k hk
    by_cases e : j' = j
    · subst e
      rw [hj] at hj'
      cases hj'
      exact hasN_mono (hq k hk)
    · rw [hasN_other e] at hd
      exact hasN_mono (hcl j' o' ps' hj' hd k hk)
theorem anyA_fam {P : Prim} {T : CallT} {ops : List (AO × List Nat)} {K : S → Prop} {n : Nat} (hn : ops.length = n) (F : List Nat → S)
    (hstep : ∀ (done : List Nat) (i : Nat) (o : AO) (ps : List Nat), ops[i]? = some (o, ps) → hasN done i = false → (∀ k ∈ ps, hasN done k = true) → Closed ops done → ∀ K' : S → Prop, K' (F (i :: done)) → aone P T o (F done) K')
    (hK : ∀ done, (∀ i, i < n → hasN done i = true) → K (F done)) {s : S} (hs : s = F []) : anyA P T ops n [] s K := by
  subst hs
  exact anyA_go F hstep (by rw [hn]; exact hK) n [] (by rw [cnt_nil, hn]) (fun j o ps _ h => by cases h)
def ovl (done : List Nat) : List (Nat × Nat × V) → (Nat → V) → Nat → V
  | [], t, i => t i
  | (k, s, v) :: l, t, i => if i = s then (if hasN done k = true then v else t i) else ovl done l t i
def ovA : List (Nat × Nat × V) → (Nat → V) → Nat → V
  | [], t, i => t i
  | (_, s, v) :: l, t, i => match Nat.beq i s with
    | true => v
    | false => ovA l t i
theorem ovl_nil : ∀ (L : List (Nat × Nat × V)) (t : Nat → V), ovl [] L t = t
  | [], t => rfl
  | (k, s, v) :: l, t => by
    funext i
    have ih := congrFun (ovl_nil l t) i
    simp only [ovl, hasN]
    split
    · rfl
    · exact ih
theorem ovl_all {done : List Nat} : ∀ (L : List (Nat × Nat × V)) (t : Nat → V), (∀ p ∈ L, hasN done p.1 = true) → ovl done L t = ovA L t
  | [], t, _ => rfl
  | (k, s, v) :: l, t, h => by
    funext i
    have ih := congrFun (ovl_all l t fun p hp => h p (List.mem_cons_of_mem _ hp)) i
    have hk := h (k, s, v) List.mem_cons_self
    simp only [ovl, ovA]
    have hk : hasN done k = true := hk
    by_cases hi : i = s
    · subst hi
      have : Nat.beq i i = true := Nat.beq_refl i
      rw [if_pos rfl, if_pos hk, this]
    · have : Nat.beq i s = false := by
        cases hb : Nat.beq i s
        · rfl
        · exact absurd (Nat.eq_of_beq_eq_true hb) hi
      rw [if_neg hi, this]; exact ih
theorem ovl_skip {done : List Nat} {k : Nat} : ∀ (L : List (Nat × Nat × V)) (t : Nat → V), (L.map (·.1)).contains k = false → ovl (k :: done) L t = ovl done L t
  | [], t, _ => rfl
  | (k', s, v) :: l, t, h => by
    simp only [List.map_cons, List.contains_cons, Bool.or_eq_false_iff, beq_eq_false_iff_ne] at h
    funext i
    have ih := congrFun (ovl_skip (done := done) l t h.2) i
    simp only [ovl]
    rw [hasN_other (fun e => h.1 e.symm), ih]
theorem ovl_upd {done : List Nat} {k s : Nat} {v : V} : ∀ (L : List (Nat × Nat × V)) (t : Nat → V), (L.map (·.1)).Nodup → (L.map (·.2.1)).Nodup → (k, s, v) ∈ L → upd (ovl done L t) s v = ovl (k :: done) L t
  | [], t, _, _, h => by cases h
  | (k', s', v') :: l, t, n1, n2, h => by
    rw [List.map_cons, List.nodup_cons] at n1 n2
    funext i
    rcases List.mem_cons.1 h with h | h
    · cases h
      have hsk : ovl (k :: done) l t = ovl done l t := ovl_skip l t (by
        cases hc : (l.map (·.1)).contains k
        · rfl
        · exact absurd (List.contains_iff_mem.1 hc) n1.1)
      simp only [upd, ovl]
      by_cases hi : i = s
      · rw [if_pos hi, if_pos hi, hasN_self, if_pos rfl]
      · rw [if_neg hi, if_neg hi, hsk, if_neg hi]
    · have ih := congrFun (ovl_upd (done := done) l t n1.2 n2.2 h) i
      have hs : s' ≠ s := fun e => n2.1 (List.mem_map.2 ⟨_, h, e.symm⟩)
      have hk : k' ≠ k := fun e => n1.1 (List.mem_map.2 ⟨_, h, e.symm⟩)
      simp only [upd, ovl] at ih ⊢
      by_cases hi : i = s
      · subst hi
        rw [if_pos rfl] at ih ⊢
        rw [if_neg (fun e => hs e.symm)]
        exact ih
      · rw [if_neg hi] at ih ⊢
        rw [hasN_other hk]
        by_cases hi2 : i = s'
        · rw [if_pos hi2, if_pos hi2]
        · rw [if_neg hi2, if_neg hi2]; exact ih
theorem ovl_get {done : List Nat} {k s : Nat} {v : V} (hk : hasN done k = true) : ∀ (L : List (Nat × Nat × V)) (t : Nat → V), (L.map (·.2.1)).Nodup → (k, s, v) ∈ L → ovl done L t s = v
  | [], t, _, h => by cases h
  | (k', s', v') :: l, t, n2, h => by
    rw [List.map_cons, List.nodup_cons] at n2
    rcases List.mem_cons.1 h with h | h
    · cases h
      simp [ovl, hk]
    · have hs : s' ≠ s := fun e => n2.1 (List.mem_map.2 ⟨_, h, e.symm⟩)
      simp only [ovl]; rw [if_neg (fun e => hs e.symm)]
      exact ovl_get hk l t n2.2 h
theorem ovl_out {done : List Nat} {s : Nat} : ∀ (L : List (Nat × Nat × V)) (t : Nat → V), (L.map (·.2.1)).contains s = false → ovl done L t s = t s
  | [], t, _ => rfl
  | (k', s', v') :: l, t, h => by
    simp only [List.map_cons, List.contains_cons, Bool.or_eq_false_iff, beq_eq_false_iff_ne] at h
    simp only [ovl]; rw [if_neg h.1]
    exact ovl_out l t h.2
theorem upd_same {t : Nat → V} {s : Nat} {v : V} (h : t s = v) : upd t s v = t := by
  funext i
  unfold upd
  split
  · rename_i e; subst e; exact h.symm
  · rfl
def ovS : List (Nat × V) → (Nat → V) → Nat → V
  | [], t, i => t i
  | (s, v) :: l, t, i => match Nat.beq i s with
    | true => v
    | false => ovS l t i
def ovH : List (Nat × Option Ob) → Hp → Nat → Option Ob
  | [], h, i => h i
  | (k, o) :: l, h, i => match Nat.beq i k with
    | true => o
    | false => ovH l h i
def agT : List (Nat × V) → S → Prop
  | [], _ => True
  | (i, v) :: l, s => s.t i = v ∧ agT l s
def agH : List (Nat × Option Ob) → S → Prop
  | [], _ => True
  | (k, o) :: l, s => s.h k = o ∧ agH l s
theorem ovS_eq {s : S} : ∀ (L : List (Nat × V)), agT L s → ovS L s.t = s.t
  | [], _ => rfl
  | (j, v) :: l, h => by
    funext i
    have ih := congrFun (ovS_eq l h.2) i
    simp only [ovS]
    split
    · rename_i e
      rw [Nat.eq_of_beq_eq_true e]; exact h.1.symm
    · exact ih
theorem ovH_eq {s : S} : ∀ (L : List (Nat × Option Ob)), agH L s → ovH L s.h = s.h
  | [], _ => rfl
  | (j, v) :: l, h => by
    funext i
    have ih := congrFun (ovH_eq l h.2) i
    simp only [ovH]
    split
    · rename_i e
      rw [Nat.eq_of_beq_eq_true e]; exact h.1.symm
    · exact ih
/-- a walk goes on from what is known of the state -/
theorem awp_cut {Q : S → Prop} {s : S} (L : List (Nat × V)) (H : List (Nat × Option Ob)) (h1 : agT L s) (h2 : agH H s) (hQ : ∀ t h, Q ⟨ovS L t, ovH H h⟩) : Q s := by
  have := hQ s.t s.h
  rw [ovS_eq L h1, ovH_eq H h2] at this
  exact this
def fromS : Nat → AC → AC
  | n + 1, .seq _ y => fromS n y
  | _, x => x
def uptoS : Nat → AC → AC → AC
  | n + 1, .seq x y, r => .seq x (uptoS n y r)
  | _, _, r => r
section
variable {P : Prim} {T : CallT} {s : S} {d x y : Nat} {K : S → Prop}
theorem aone_mov {v : V} (hx : s.t x = v) (hK : K ⟨upd s.t d v, s.h⟩) : aone P T ⟨some d, none, .mov (.t x)⟩ s K := by
  show K ⟨upd s.t d (s.t x), s.h⟩
  rw [hx]; exact hK
theorem aone_nilchk {k sz i o : Nat} {b : Option Nat} (hx : s.t x = .ptr k b sz i o) (hK : K ⟨upd s.t d (.ptr k b sz i o), s.h⟩) : aone P T ⟨some d, none, .nilchk (.t x)⟩ s K := by
  simp only [aone, aoper, aopP, Opd.ev, hx]; exact hK
theorem aone_faddr {k sz i o off : Nat} {b : Option Nat} (hx : s.t x = .ptr k b sz i o) (hK : K ⟨upd s.t d (.ptr k b sz i (o + off)), s.h⟩) : aone P T ⟨some d, none, .faddr off (.t x)⟩ s K := by
  simp only [aone, aoper, aopP, Opd.ev, hx]; exact hK
theorem aone_load1 {k sz off ty : Nat} {b : Option Nat} {r : List V} {v : V} (hx : s.t x = .ptr k b sz 0 off) (hk : s.h k = some ⟨b, ty, sz, [r]⟩) (hlt : k < 1000000) (hr : off < r.length ∧ r.getD off .junk = v) (hK : K ⟨upd s.t d v, s.h⟩) : aone P T ⟨some d, none, .load1 (.t x)⟩ s K := by
  simp only [aone, aoper, aopP, Opd.ev, hx, load1P, rowP, hk, decide_eq_true hlt, nthC]
  refine ⟨trivial, trivial, hr.1, ?_⟩
  rw [hr.2]; exact hK
theorem aone_loadn {k sz off ty n : Nat} {b : Option Nat} {r cs : List V} (hx : s.t x = .ptr k b sz 0 off) (hk : s.h k = some ⟨b, ty, sz, [r]⟩) (hlt : k < 1000000) (hr : off + n ≤ r.length ∧ (r.drop off).take n = cs) (hK : K ⟨upd s.t d (.agg cs), s.h⟩) : aone P T ⟨some d, none, .loadn n (.t x)⟩ s K := by
  simp only [aone, aoper, aopP, Opd.ev, hx, loadnP, rowP, hk, decide_eq_true hlt]
  refine ⟨trivial, trivial, hr.1, ?_⟩
  rw [hr.2]; exact hK
theorem aone_store {k sz off ty n : Nat} {b : Option Nat} {r : List V} {v : V} (hx : s.t x = .ptr k b sz 0 off) (hy : s.t y = v) (hf : v.fits n) (hk : s.h k = some ⟨b, ty, sz, [r]⟩) (hlt : k < 1000000) (hr : off + n ≤ r.length) (hK : K ⟨s.t, s.h.put k ⟨b, ty, sz, [splice r off v.cells]⟩⟩) : aone P T ⟨none, none, .store n (.t x) (.t y)⟩ s K := by
  simp only [aone, aoper, aopP, Opd.ev, hx, hy, storeP, rowP, hk, decide_eq_true hlt, setR]
  exact ⟨trivial, trivial, hr, hf, hK⟩
/-- an operation that is carried out if a truth value is false -/
theorem aone_unless {g : Nat} {dd : Option Nat} {op : AOp} (hg : s.t g = .bool false) (h : aone P T ⟨dd, none, op⟩ s K) : aone P T ⟨dd, some (g, false), op⟩ s K := by
  simp only [aone, hg]
  have e : s.set g (.bool false) = s := by
    show (⟨upd s.t g (.bool false), s.h⟩ : S) = s
    rw [upd_same hg]
  rw [e]
  exact h
end
end Go.Proofs.Ytobngncjflogcaa.AM

set_option linter.unusedVariables false
set_option linter.unusedSimpArgs false
namespace Go.Proofs.Ytobngncjflogcaa.AM
open Go Go.RowKit
set_option maxRecDepth 100000
set_option maxHeartbeats 2000000
def fsL (fs : Nat → Int) : List V := [.int .i64 (fs 0), .int .i64 (fs 1), .int .i64 (fs 2), .int .i64 (fs 3), .int .i64 (fs 4), .int .i64 (fs 5), .int .i64 (fs 6), .int .i64 (fs 7), .int .i64 (fs 8), .int .i64 (fs 9), .int .i64 (fs 10), .int .i64 (fs 11), .int .i64 (fs 12), .int .i64 (fs 13), .int .i64 (fs 14), .int .i64 (fs 15)]
def ro_0 (v0 v1 v2 v3 v4 : V) (gn bs : Int) (fs : Nat → Int) (rv : V) : List V := [v0, v1, v2, v3, v4, .int .i64 0, .int .i64 0, .int .i64 0, .int .i64 0, .int .i64 0, .int .i64 0, .int .i64 0, .int .i64 0, .int .i64 0, .int .i64 0, .int .i64 0, .int .i64 0, .int .i64 0, .int .i64 0, .int .i64 0, .int .i64 0, .int .i64 0, .int .i64 0, .nilsl, .nilsl, .int .i64 0, .bool false, .int .i64 0, .int .i64 0, .bool false, .bool false]
def ro_1 (v0 v1 v2 v3 v4 : V) (gn bs : Int) (fs : Nat → Int) (rv : V) : List V := [v0, v1, v2, v3, v4, .int .i64 gn, .int .i64 0, .int .i64 0, .int .i64 0, .int .i64 0, .int .i64 0, .int .i64 0, .int .i64 0, .int .i64 0, .int .i64 0, .int .i64 0, .int .i64 0, .int .i64 0, .int .i64 0, .int .i64 0, .int .i64 0, .int .i64 0, .int .i64 0, .nilsl, .nilsl, .int .i64 0, .bool false, .int .i64 0, .int .i64 0, .bool false, .bool false]
def ro_2 (v0 v1 v2 v3 v4 : V) (gn bs : Int) (fs : Nat → Int) (rv : V) : List V := [v0, v1, v2, v3, v4, .int .i64 gn, .int .i64 bs, .int .i64 0, .int .i64 0, .int .i64 0, .int .i64 0, .int .i64 0, .int .i64 0, .int .i64 0, .int .i64 0, .int .i64 0, .int .i64 0, .int .i64 0, .int .i64 0, .int .i64 0, .int .i64 0, .int .i64 0, .int .i64 0, .nilsl, .nilsl, .int .i64 0, .bool false, .int .i64 0, .int .i64 0, .bool false, .bool false]
def ro_3 (v0 v1 v2 v3 v4 : V) (gn bs : Int) (fs : Nat → Int) (rv : V) : List V := [v0, v1, v2, v3, v4, .int .i64 gn, .int .i64 bs, .int .i64 (fs 0), .int .i64 (fs 1), .int .i64 (fs 2), .int .i64 (fs 3), .int .i64 (fs 4), .int .i64 (fs 5), .int .i64 (fs 6), .int .i64 (fs 7), .int .i64 (fs 8), .int .i64 (fs 9), .int .i64 (fs 10), .int .i64 (fs 11), .int .i64 (fs 12), .int .i64 (fs 13), .int .i64 (fs 14), .int .i64 (fs 15), .nilsl, .nilsl, .int .i64 0, .bool false, .int .i64 0, .int .i64 0, .bool false, .bool false]
def ro_4 (v0 v1 v2 v3 v4 : V) (gn bs : Int) (fs : Nat → Int) (rv : V) : List V := [v0, v1, v2, v3, v4, .int .i64 gn, .int .i64 bs, .int .i64 (fs 0), .int .i64 (fs 1), .int .i64 (fs 2), .int .i64 (fs 3), .int .i64 (fs 4), .int .i64 (fs 5), .int .i64 (fs 6), .int .i64 (fs 7), .int .i64 (fs 8), .int .i64 (fs 9), .int .i64 (fs 10), .int .i64 (fs 11), .int .i64 (fs 12), .int .i64 (fs 13), .int .i64 (fs 14), .int .i64 (fs 15), .nilsl, rv, .int .i64 0, .bool false, .int .i64 0, .int .i64 0, .bool false, .bool false]
def roR (v0 v1 v2 v3 v4 : V) (gn bs : Int) (fs : Nat → Int) (rv : V) (done : List Nat) : List V := if hasN done 23 = true then ro_4 v0 v1 v2 v3 v4 gn bs fs rv else if hasN done 20 = true then ro_3 v0 v1 v2 v3 v4 gn bs fs rv else if hasN done 17 = true then ro_2 v0 v1 v2 v3 v4 gn bs fs rv else if hasN done 14 = true then ro_1 v0 v1 v2 v3 v4 gn bs fs rv else ro_0 v0 v1 v2 v3 v4 gn bs fs rv
def roH (b11 : Nat) (v0 v1 v2 v3 v4 : V) (gn bs : Int) (fs : Nat → Int) (rv : V) (done : List Nat) (h0 : Hp) (k : Nat) : Option Ob := if k = 53 then some ⟨some b11, 91, 31, [roR v0 v1 v2 v3 v4 gn bs fs rv done]⟩ else h0 k
def roL (gn bs : Int) (fs : Nat → Int) (rv : V) (b11 b12 : Nat) : List (Nat × Nat × V) := [(0, 92, .ptr 53 (some b11) 31 0 0), (1, 93, .ptr 53 (some b11) 31 0 0), (2, 94, .ptr 53 (some b11) 31 0 0), (3, 95, .ptr 53 (some b11) 31 0 0), (4, 96, .ptr 12 (some b12) 38 0 0), (5, 97, .int .i64 gn), (6, 98, .ptr 12 (some b12) 38 0 1), (7, 99, .int .i64 bs), (8, 100, .ptr 12 (some b12) 38 0 3), (9, 101, .agg (fsL fs)), (10, 102, .ptr 12 (some b12) 38 0 35), (11, 103, rv), (12, 104, .ptr 53 (some b11) 31 0 0), (13, 105, .ptr 53 (some b11) 31 0 5), (15, 106, .ptr 53 (some b11) 31 0 0), (16, 107, .ptr 53 (some b11) 31 0 6), (18, 108, .ptr 53 (some b11) 31 0 0), (19, 109, .ptr 53 (some b11) 31 0 7), (21, 110, .ptr 53 (some b11) 31 0 0), (22, 111, .ptr 53 (some b11) 31 0 24)]
def roOps : List (AO × List Nat) := [
  (⟨some 92, none, .mov (.t 11)⟩, []),
  (⟨some 93, none, .mov (.t 11)⟩, []),
  (⟨some 94, none, .mov (.t 11)⟩, []),
  (⟨some 95, none, .mov (.t 11)⟩, []),
  (⟨some 96, none, .faddr 0 (.t 12)⟩, []),
  (⟨some 97, none, .load1 (.t 96)⟩, [4]),
  (⟨some 98, none, .faddr 1 (.t 12)⟩, []),
  (⟨some 99, none, .load1 (.t 98)⟩, [6]),
  (⟨some 100, none, .faddr 3 (.t 12)⟩, []),
  (⟨some 101, none, .loadn 16 (.t 100)⟩, [8]),
  (⟨some 102, none, .faddr 35 (.t 12)⟩, []),
  (⟨some 103, none, .load1 (.t 102)⟩, [10]),
  (⟨some 104, none, .nilchk (.t 92)⟩, [0, 0, 4, 5]),
  (⟨some 105, none, .faddr 5 (.t 104)⟩, [12, 0, 4, 5]),
  (⟨none, none, .store 1 (.t 105) (.t 97)⟩, [13, 5, 0, 4, 5]),
  (⟨some 106, none, .nilchk (.t 93)⟩, [1, 0, 1, 4, 5, 6, 7, 12, 13, 14]),
  (⟨some 107, none, .faddr 6 (.t 106)⟩, [15, 0, 1, 4, 5, 6, 7, 12, 13, 14]),
  (⟨none, none, .store 1 (.t 107) (.t 99)⟩, [16, 7, 14, 0, 1, 4, 5, 6, 7, 12, 13, 14]),
  (⟨some 108, none, .nilchk (.t 94)⟩, [2, 0, 1, 2, 4, 5, 6, 7, 8, 9, 12, 13, 14, 15, 16, 17]),
  (⟨some 109, none, .faddr 7 (.t 108)⟩, [18, 0, 1, 2, 4, 5, 6, 7, 8, 9, 12, 13, 14, 15, 16, 17]),
  (⟨none, none, .store 16 (.t 109) (.t 101)⟩, [19, 9, 17, 0, 1, 2, 4, 5, 6, 7, 8, 9, 12, 13, 14, 15, 16, 17]),
  (⟨some 110, none, .nilchk (.t 95)⟩, [3, 0, 1, 2, 3, 4, 5, 6, 7, 8, 9, 10, 11, 12, 13, 14, 15, 16, 17, 18, 19, 20]),
  (⟨some 111, none, .faddr 24 (.t 110)⟩, [21, 0, 1, 2, 3, 4, 5, 6, 7, 8, 9, 10, 11, 12, 13, 14, 15, 16, 17, 18, 19, 20]),
  (⟨none, none, .store 1 (.t 111) (.t 103)⟩, [22, 11, 20, 0, 1, 2, 3, 4, 5, 6, 7, 8, 9, 10, 11, 12, 13, 14, 15, 16, 17, 18, 19, 20])]
section
variable {v0 v1 v2 v3 v4 : V} {gn bs : Int} {fs : Nat → Int} {rv : V} {b11 b12 : Nat}
theorem ro1 : ((roL gn bs fs rv b11 b12).map (·.1)).Nodup := by show ([0, 1, 2, 3, 4, 5, 6, 7, 8, 9, 10, 11, 12, 13, 15, 16, 18, 19, 21, 22] : List Nat).Nodup; decide
theorem ro2 : ((roL gn bs fs rv b11 b12).map (·.2.1)).Nodup := by show ([92, 93, 94, 95, 96, 97, 98, 99, 100, 101, 102, 103, 104, 105, 106, 107, 108, 109, 110, 111] : List Nat).Nodup; decide
theorem roH_53 {done : List Nat} {h0 : Hp} {r : List V} (h : roR v0 v1 v2 v3 v4 gn bs fs rv done = r) : roH b11 v0 v1 v2 v3 v4 gn bs fs rv done h0 53 = some ⟨some b11, 91, 31, [r]⟩ := by
  subst h; rfl
theorem roH_put {done : List Nat} {i : Nat} {h0 : Hp} {r r' : List V} (h : roR v0 v1 v2 v3 v4 gn bs fs rv (i :: done) = r) (hr : r' = r) : Hp.put (roH b11 v0 v1 v2 v3 v4 gn bs fs rv done h0) 53 ⟨some b11, 91, 31, [r']⟩ = roH b11 v0 v1 v2 v3 v4 gn bs fs rv (i :: done) h0 := by
  subst h; subst hr
  funext k
  unfold Hp.put roH
  by_cases hk : k = 53
  · rw [if_pos hk, if_pos hk]
  · rw [if_neg hk, if_neg hk, if_neg hk]
structure OneC (v : V) : Prop where
  a : v.cells.length = 1
  b : v.cells.all V.one = true
  c : v.cells = [v]
theorem one_cells {v : V} (h : ∃ t n rows, v = .sl t n rows) : OneC v := by
  obtain ⟨t, n, rows, rfl⟩ := h
  exact ⟨rfl, rfl, rfl⟩
theorem ro_all {P : Prim} {T : CallT} {K : S → Prop} {t0 : Nat → V} {h0 : Hp} {tx : List UInt8} {tb : Nat → Int} {wh : Bool} {gd : Int} (hrv : ∃ t n rows, rv = .sl t n rows)
    (h11 : t0 11 = .ptr 53 (some b11) 31 0 0) (h12t : t0 12 = .ptr 12 (some b12) 38 0 0) (h53 : h0 53 = some ⟨some b11, 91, 31, [ro_0 v0 v1 v2 v3 v4 gn bs fs rv]⟩)
    (h12 : h0 12 = some ⟨some b12, 81, 38, [rowL gn bs tx fs tb rv wh gd]⟩)
    (hK : K ⟨ovA (roL gn bs fs rv b11 b12) t0, ovH [(53, some ⟨some b11, 91, 31, [ro_4 v0 v1 v2 v3 v4 gn bs fs rv]⟩)] h0⟩) : anyA P T roOps 24 [] ⟨t0, h0⟩ K := by
  refine anyA_fam rfl (fun done => ⟨ovl done (roL gn bs fs rv b11 b12) t0, roH b11 v0 v1 v2 v3 v4 gn bs fs rv done h0⟩) (fun done i o ps hj hf hq hcl K' hK' => ?_) (fun done hd => ?_) ?_
  · have h12 := h12
    match i, hj with
    | 0, hj =>
      cases hj
      have hK' : K' ⟨ovl (0 :: done) (roL gn bs fs rv b11 b12) t0, roH b11 v0 v1 v2 v3 v4 gn bs fs rv (0 :: done) h0⟩ := hK'
      show aone P T _ ⟨ovl done (roL gn bs fs rv b11 b12) t0, roH b11 v0 v1 v2 v3 v4 gn bs fs rv done h0⟩ K'
      refine aone_mov (v := .ptr 53 (some b11) 31 0 0) ((ovl_out (done := done) (roL gn bs fs rv b11 b12) t0 rfl).trans h11) ?_
      show K' ⟨upd (ovl done (roL gn bs fs rv b11 b12) t0) 92 _, roH b11 v0 v1 v2 v3 v4 gn bs fs rv done h0⟩
      rw [ovl_upd (k := 0) (roL gn bs fs rv b11 b12) t0 ro1 ro2 (.head _)]
      exact hK'
    | 1, hj =>
      cases hj
      have hK' : K' ⟨ovl (1 :: done) (roL gn bs fs rv b11 b12) t0, roH b11 v0 v1 v2 v3 v4 gn bs fs rv (1 :: done) h0⟩ := hK'
      show aone P T _ ⟨ovl done (roL gn bs fs rv b11 b12) t0, roH b11 v0 v1 v2 v3 v4 gn bs fs rv done h0⟩ K'
      refine aone_mov (v := .ptr 53 (some b11) 31 0 0) ((ovl_out (done := done) (roL gn bs fs rv b11 b12) t0 rfl).trans h11) ?_
      show K' ⟨upd (ovl done (roL gn bs fs rv b11 b12) t0) 93 _, roH b11 v0 v1 v2 v3 v4 gn bs fs rv done h0⟩
      rw [ovl_upd (k := 1) (roL gn bs fs rv b11 b12) t0 ro1 ro2 (.tail _ (.head _))]
      exact hK'
    | 2, hj =>
      cases hj
      have hK' : K' ⟨ovl (2 :: done) (roL gn bs fs rv b11 b12) t0, roH b11 v0 v1 v2 v3 v4 gn bs fs rv (2 :: done) h0⟩ := hK'
      show aone P T _ ⟨ovl done (roL gn bs fs rv b11 b12) t0, roH b11 v0 v1 v2 v3 v4 gn bs fs rv done h0⟩ K'
      refine aone_mov (v := .ptr 53 (some b11) 31 0 0) ((ovl_out (done := done) (roL gn bs fs rv b11 b12) t0 rfl).trans h11) ?_
      show K' ⟨upd (ovl done (roL gn bs fs rv b11 b12) t0) 94 _, roH b11 v0 v1 v2 v3 v4 gn bs fs rv done h0⟩
      rw [ovl_upd (k := 2) (roL gn bs fs rv b11 b12) t0 ro1 ro2 (.tail _ (.tail _ (.head _)))]
      exact hK'
    | 3, hj =>
      cases hj
      have hK' : K' ⟨ovl (3 :: done) (roL gn bs fs rv b11 b12) t0, roH b11 v0 v1 v2 v3 v4 gn bs fs rv (3 :: done) h0⟩ := hK'
      show aone P T _ ⟨ovl done (roL gn bs fs rv b11 b12) t0, roH b11 v0 v1 v2 v3 v4 gn bs fs rv done h0⟩ K'
      refine aone_mov (v := .ptr 53 (some b11) 31 0 0) ((ovl_out (done := done) (roL gn bs fs rv b11 b12) t0 rfl).trans h11) ?_
      show K' ⟨upd (ovl done (roL gn bs fs rv b11 b12) t0) 95 _, roH b11 v0 v1 v2 v3 v4 gn bs fs rv done h0⟩
      rw [ovl_upd (k := 3) (roL gn bs fs rv b11 b12) t0 ro1 ro2 (.tail _ (.tail _ (.tail _ (.head _))))]
      exact hK'
    | 4, hj =>
      cases hj
      have hK' : K' ⟨ovl (4 :: done) (roL gn bs fs rv b11 b12) t0, roH b11 v0 v1 v2 v3 v4 gn bs fs rv (4 :: done) h0⟩ := hK'
      show aone P T _ ⟨ovl done (roL gn bs fs rv b11 b12) t0, roH b11 v0 v1 v2 v3 v4 gn bs fs rv done h0⟩ K'
      refine aone_faddr ((ovl_out (done := done) (roL gn bs fs rv b11 b12) t0 rfl).trans h12t) ?_
      show K' ⟨upd (ovl done (roL gn bs fs rv b11 b12) t0) 96 _, roH b11 v0 v1 v2 v3 v4 gn bs fs rv done h0⟩
      rw [ovl_upd (k := 4) (roL gn bs fs rv b11 b12) t0 ro1 ro2 (.tail _ (.tail _ (.tail _ (.tail _ (.head _)))))]
      exact hK'
    | 5, hj =>
      cases hj
      have hK' : K' ⟨ovl (5 :: done) (roL gn bs fs rv b11 b12) t0, roH b11 v0 v1 v2 v3 v4 gn bs fs rv (5 :: done) h0⟩ := hK'
      show aone P T _ ⟨ovl done (roL gn bs fs rv b11 b12) t0, roH b11 v0 v1 v2 v3 v4 gn bs fs rv done h0⟩ K'
      refine aone_load1 (v := .int .i64 gn) (ovl_get (done := done) (hq 4 (by decide)) (roL gn bs fs rv b11 b12) t0 ro2 (.tail _ (.tail _ (.tail _ (.tail _ (.head _)))))) h12 (by decide) ⟨by show (0 : Nat) < 38; decide, rfl⟩ ?_
      show K' ⟨upd (ovl done (roL gn bs fs rv b11 b12) t0) 97 _, roH b11 v0 v1 v2 v3 v4 gn bs fs rv done h0⟩
      rw [ovl_upd (k := 5) (roL gn bs fs rv b11 b12) t0 ro1 ro2 (.tail _ (.tail _ (.tail _ (.tail _ (.tail _ (.head _))))))]
      exact hK'
    | 6, hj =>
      cases hj
      have hK' : K' ⟨ovl (6 :: done) (roL gn bs fs rv b11 b12) t0, roH b11 v0 v1 v2 v3 v4 gn bs fs rv (6 :: done) h0⟩ := hK'
      show aone P T _ ⟨ovl done (roL gn bs fs rv b11 b12) t0, roH b11 v0 v1 v2 v3 v4 gn bs fs rv done h0⟩ K'
      refine aone_faddr ((ovl_out (done := done) (roL gn bs fs rv b11 b12) t0 rfl).trans h12t) ?_
      show K' ⟨upd (ovl done (roL gn bs fs rv b11 b12) t0) 98 _, roH b11 v0 v1 v2 v3 v4 gn bs fs rv done h0⟩
      rw [ovl_upd (k := 6) (roL gn bs fs rv b11 b12) t0 ro1 ro2 (.tail _ (.tail _ (.tail _ (.tail _ (.tail _ (.tail _ (.head _)))))))]
      exact hK'
    | 7, hj =>
      cases hj
      have hK' : K' ⟨ovl (7 :: done) (roL gn bs fs rv b11 b12) t0, roH b11 v0 v1 v2 v3 v4 gn bs fs rv (7 :: done) h0⟩ := hK'
      show aone P T _ ⟨ovl done (roL gn bs fs rv b11 b12) t0, roH b11 v0 v1 v2 v3 v4 gn bs fs rv done h0⟩ K'
      refine aone_load1 (v := .int .i64 bs) (ovl_get (done := done) (hq 6 (by decide)) (roL gn bs fs rv b11 b12) t0 ro2 (.tail _ (.tail _ (.tail _ (.tail _ (.tail _ (.tail _ (.head _)))))))) h12 (by decide) ⟨by show (1 : Nat) < 38; decide, rfl⟩ ?_
      show K' ⟨upd (ovl done (roL gn bs fs rv b11 b12) t0) 99 _, roH b11 v0 v1 v2 v3 v4 gn bs fs rv done h0⟩
      rw [ovl_upd (k := 7) (roL gn bs fs rv b11 b12) t0 ro1 ro2 (.tail _ (.tail _ (.tail _ (.tail _ (.tail _ (.tail _ (.tail _ (.head _))))))))]
      exact hK'
    | 8, hj =>
      cases hj
      have hK' : K' ⟨ovl (8 :: done) (roL gn bs fs rv b11 b12) t0, roH b11 v0 v1 v2 v3 v4 gn bs fs rv (8 :: done) h0⟩ := hK'
      show aone P T _ ⟨ovl done (roL gn bs fs rv b11 b12) t0, roH b11 v0 v1 v2 v3 v4 gn bs fs rv done h0⟩ K'
      refine aone_faddr ((ovl_out (done := done) (roL gn bs fs rv b11 b12) t0 rfl).trans h12t) ?_
      show K' ⟨upd (ovl done (roL gn bs fs rv b11 b12) t0) 100 _, roH b11 v0 v1 v2 v3 v4 gn bs fs rv done h0⟩
      rw [ovl_upd (k := 8) (roL gn bs fs rv b11 b12) t0 ro1 ro2 (.tail _ (.tail _ (.tail _ (.tail _ (.tail _ (.tail _ (.tail _ (.tail _ (.head _)))))))))]
      exact hK'
    | 9, hj =>
      cases hj
      have hK' : K' ⟨ovl (9 :: done) (roL gn bs fs rv b11 b12) t0, roH b11 v0 v1 v2 v3 v4 gn bs fs rv (9 :: done) h0⟩ := hK'
      show aone P T _ ⟨ovl done (roL gn bs fs rv b11 b12) t0, roH b11 v0 v1 v2 v3 v4 gn bs fs rv done h0⟩ K'
      refine aone_loadn (cs := fsL fs) (ovl_get (done := done) (hq 8 (by decide)) (roL gn bs fs rv b11 b12) t0 ro2 (.tail _ (.tail _ (.tail _ (.tail _ (.tail _ (.tail _ (.tail _ (.tail _ (.head _)))))))))) h12 (by decide) ⟨by show (3 : Nat) + 16 ≤ 38; decide, rfl⟩ ?_
      show K' ⟨upd (ovl done (roL gn bs fs rv b11 b12) t0) 101 _, roH b11 v0 v1 v2 v3 v4 gn bs fs rv done h0⟩
      rw [ovl_upd (k := 9) (roL gn bs fs rv b11 b12) t0 ro1 ro2 (.tail _ (.tail _ (.tail _ (.tail _ (.tail _ (.tail _ (.tail _ (.tail _ (.tail _ (.head _))))))))))]
      exact hK'
    | 10, hj =>
      cases hj
      have hK' : K' ⟨ovl (10 :: done) (roL gn bs fs rv b11 b12) t0, roH b11 v0 v1 v2 v3 v4 gn bs fs rv (10 :: done) h0⟩ := hK'
      show aone P T _ ⟨ovl done (roL gn bs fs rv b11 b12) t0, roH b11 v0 v1 v2 v3 v4 gn bs fs rv done h0⟩ K'
      refine aone_faddr ((ovl_out (done := done) (roL gn bs fs rv b11 b12) t0 rfl).trans h12t) ?_
      show K' ⟨upd (ovl done (roL gn bs fs rv b11 b12) t0) 102 _, roH b11 v0 v1 v2 v3 v4 gn bs fs rv done h0⟩
      rw [ovl_upd (k := 10) (roL gn bs fs rv b11 b12) t0 ro1 ro2 (.tail _ (.tail _ (.tail _ (.tail _ (.tail _ (.tail _ (.tail _ (.tail _ (.tail _ (.tail _ (.head _)))))))))))]
      exact hK'
    | 11, hj =>
      cases hj
      have hK' : K' ⟨ovl (11 :: done) (roL gn bs fs rv b11 b12) t0, roH b11 v0 v1 v2 v3 v4 gn bs fs rv (11 :: done) h0⟩ := hK'
      show aone P T _ ⟨ovl done (roL gn bs fs rv b11 b12) t0, roH b11 v0 v1 v2 v3 v4 gn bs fs rv done h0⟩ K'
      refine aone_load1 (v := rv) (ovl_get (done := done) (hq 10 (by decide)) (roL gn bs fs rv b11 b12) t0 ro2 (.tail _ (.tail _ (.tail _ (.tail _ (.tail _ (.tail _ (.tail _ (.tail _ (.tail _ (.tail _ (.head _)))))))))))) h12 (by decide) ⟨by show (35 : Nat) < 38; decide, rfl⟩ ?_
      show K' ⟨upd (ovl done (roL gn bs fs rv b11 b12) t0) 103 _, roH b11 v0 v1 v2 v3 v4 gn bs fs rv done h0⟩
      rw [ovl_upd (k := 11) (roL gn bs fs rv b11 b12) t0 ro1 ro2 (.tail _ (.tail _ (.tail _ (.tail _ (.tail _ (.tail _ (.tail _ (.tail _ (.tail _ (.tail _ (.tail _ (.head _))))))))))))]
      exact hK'
    | 12, hj =>
      cases hj
      have hK' : K' ⟨ovl (12 :: done) (roL gn bs fs rv b11 b12) t0, roH b11 v0 v1 v2 v3 v4 gn bs fs rv (12 :: done) h0⟩ := hK'
      show aone P T _ ⟨ovl done (roL gn bs fs rv b11 b12) t0, roH b11 v0 v1 v2 v3 v4 gn bs fs rv done h0⟩ K'
      refine aone_nilchk (ovl_get (done := done) (hq 0 (by decide)) (roL gn bs fs rv b11 b12) t0 ro2 (.head _)) ?_
      show K' ⟨upd (ovl done (roL gn bs fs rv b11 b12) t0) 104 _, roH b11 v0 v1 v2 v3 v4 gn bs fs rv done h0⟩
      rw [ovl_upd (k := 12) (roL gn bs fs rv b11 b12) t0 ro1 ro2 (.tail _ (.tail _ (.tail _ (.tail _ (.tail _ (.tail _ (.tail _ (.tail _ (.tail _ (.tail _ (.tail _ (.tail _ (.head _)))))))))))))]
      exact hK'
    | 13, hj =>
      cases hj
      have hK' : K' ⟨ovl (13 :: done) (roL gn bs fs rv b11 b12) t0, roH b11 v0 v1 v2 v3 v4 gn bs fs rv (13 :: done) h0⟩ := hK'
      show aone P T _ ⟨ovl done (roL gn bs fs rv b11 b12) t0, roH b11 v0 v1 v2 v3 v4 gn bs fs rv done h0⟩ K'
      refine aone_faddr (ovl_get (done := done) (hq 12 (by decide)) (roL gn bs fs rv b11 b12) t0 ro2 (.tail _ (.tail _ (.tail _ (.tail _ (.tail _ (.tail _ (.tail _ (.tail _ (.tail _ (.tail _ (.tail _ (.tail _ (.head _)))))))))))))) ?_
      show K' ⟨upd (ovl done (roL gn bs fs rv b11 b12) t0) 105 _, roH b11 v0 v1 v2 v3 v4 gn bs fs rv done h0⟩
      rw [ovl_upd (k := 13) (roL gn bs fs rv b11 b12) t0 ro1 ro2 (.tail _ (.tail _ (.tail _ (.tail _ (.tail _ (.tail _ (.tail _ (.tail _ (.tail _ (.tail _ (.tail _ (.tail _ (.tail _ (.head _))))))))))))))]
      exact hK'
    | 14, hj =>
      cases hj
      have hK' : K' ⟨ovl (14 :: done) (roL gn bs fs rv b11 b12) t0, roH b11 v0 v1 v2 v3 v4 gn bs fs rv (14 :: done) h0⟩ := hK'
      show aone P T _ ⟨ovl done (roL gn bs fs rv b11 b12) t0, roH b11 v0 v1 v2 v3 v4 gn bs fs rv done h0⟩ K'
      have z17 : hasN done 17 = false := by
        cases hh : hasN done 17
        · rfl
        · exact absurd (hcl 17 _ _ rfl hh 14 (by decide)) (by rw [hf]; decide)
      have z20 : hasN done 20 = false := by
        cases hh : hasN done 20
        · rfl
        · exact absurd (hcl 20 _ _ rfl hh 14 (by decide)) (by rw [hf]; decide)
      have z23 : hasN done 23 = false := by
        cases hh : hasN done 23
        · rfl
        · exact absurd (hcl 23 _ _ rfl hh 14 (by decide)) (by rw [hf]; decide)
      have hrow : roR v0 v1 v2 v3 v4 gn bs fs rv done = ro_0 v0 v1 v2 v3 v4 gn bs fs rv := by
        unfold roR
        simp [z17, z20, z23, hf]
      have hrow2 : roR v0 v1 v2 v3 v4 gn bs fs rv (14 :: done) = ro_1 v0 v1 v2 v3 v4 gn bs fs rv := by
        unfold roR
        rw [hasN_other (i := 14) (j := 17) (by decide), hasN_other (i := 14) (j := 20) (by decide), hasN_other (i := 14) (j := 23) (by decide), hasN_self]
        simp [z17, z20, z23]
      refine aone_store (v := .int .i64 gn) (ovl_get (done := done) (hq 13 (by decide)) (roL gn bs fs rv b11 b12) t0 ro2 (.tail _ (.tail _ (.tail _ (.tail _ (.tail _ (.tail _ (.tail _ (.tail _ (.tail _ (.tail _ (.tail _ (.tail _ (.tail _ (.head _))))))))))))))) (ovl_get (done := done) (hq 5 (by decide)) (roL gn bs fs rv b11 b12) t0 ro2 (.tail _ (.tail _ (.tail _ (.tail _ (.tail _ (.head _))))))) ⟨rfl, rfl⟩ (roH_53 (b11 := b11) (done := done) (h0 := h0) hrow) (by decide) (by show (5 : Nat) + 1 ≤ 31; decide) ?_
      show K' ⟨ovl done (roL gn bs fs rv b11 b12) t0, Hp.put (roH b11 v0 v1 v2 v3 v4 gn bs fs rv done h0) 53 ⟨some b11, 91, 31, [splice (ro_0 v0 v1 v2 v3 v4 gn bs fs rv) 5 (V.cells (.int .i64 gn))]⟩⟩
      rw [← ovl_skip (k := 14) (roL gn bs fs rv b11 b12) t0 rfl]
      rw [roH_put (b11 := b11) (h0 := h0) (i := 14) hrow2 (by rfl)]
      exact hK'
    | 15, hj =>
      cases hj
      have hK' : K' ⟨ovl (15 :: done) (roL gn bs fs rv b11 b12) t0, roH b11 v0 v1 v2 v3 v4 gn bs fs rv (15 :: done) h0⟩ := hK'
      show aone P T _ ⟨ovl done (roL gn bs fs rv b11 b12) t0, roH b11 v0 v1 v2 v3 v4 gn bs fs rv done h0⟩ K'
      refine aone_nilchk (ovl_get (done := done) (hq 1 (by decide)) (roL gn bs fs rv b11 b12) t0 ro2 (.tail _ (.head _))) ?_
      show K' ⟨upd (ovl done (roL gn bs fs rv b11 b12) t0) 106 _, roH b11 v0 v1 v2 v3 v4 gn bs fs rv done h0⟩
      rw [ovl_upd (k := 15) (roL gn bs fs rv b11 b12) t0 ro1 ro2 (.tail _ (.tail _ (.tail _ (.tail _ (.tail _ (.tail _ (.tail _ (.tail _ (.tail _ (.tail _ (.tail _ (.tail _ (.tail _ (.tail _ (.head _)))))))))))))))]
      exact hK'
    | 16, hj =>
      cases hj
      have hK' : K' ⟨ovl (16 :: done) (roL gn bs fs rv b11 b12) t0, roH b11 v0 v1 v2 v3 v4 gn bs fs rv (16 :: done) h0⟩ := hK'
      show aone P T _ ⟨ovl done (roL gn bs fs rv b11 b12) t0, roH b11 v0 v1 v2 v3 v4 gn bs fs rv done h0⟩ K'
      refine aone_faddr (ovl_get (done := done) (hq 15 (by decide)) (roL gn bs fs rv b11 b12) t0 ro2 (.tail _ (.tail _ (.tail _ (.tail _ (.tail _ (.tail _ (.tail _ (.tail _ (.tail _ (.tail _ (.tail _ (.tail _ (.tail _ (.tail _ (.head _)))))))))))))))) ?_
      show K' ⟨upd (ovl done (roL gn bs fs rv b11 b12) t0) 107 _, roH b11 v0 v1 v2 v3 v4 gn bs fs rv done h0⟩
      rw [ovl_upd (k := 16) (roL gn bs fs rv b11 b12) t0 ro1 ro2 (.tail _ (.tail _ (.tail _ (.tail _ (.tail _ (.tail _ (.tail _ (.tail _ (.tail _ (.tail _ (.tail _ (.tail _ (.tail _ (.tail _ (.tail _ (.head _))))))))))))))))]
      exact hK'
    | 17, hj =>
      cases hj
      have hK' : K' ⟨ovl (17 :: done) (roL gn bs fs rv b11 b12) t0, roH b11 v0 v1 v2 v3 v4 gn bs fs rv (17 :: done) h0⟩ := hK'
      show aone P T _ ⟨ovl done (roL gn bs fs rv b11 b12) t0, roH b11 v0 v1 v2 v3 v4 gn bs fs rv done h0⟩ K'
      have z20 : hasN done 20 = false := by
        cases hh : hasN done 20
        · rfl
        · exact absurd (hcl 20 _ _ rfl hh 17 (by decide)) (by rw [hf]; decide)
      have z23 : hasN done 23 = false := by
        cases hh : hasN done 23
        · rfl
        · exact absurd (hcl 23 _ _ rfl hh 17 (by decide)) (by rw [hf]; decide)
      have z14 : hasN done 14 = true := hq 14 (by decide)
      have hrow : roR v0 v1 v2 v3 v4 gn bs fs rv done = ro_1 v0 v1 v2 v3 v4 gn bs fs rv := by
        unfold roR
        simp [z14, z20, z23, hf]
      have hrow2 : roR v0 v1 v2 v3 v4 gn bs fs rv (17 :: done) = ro_2 v0 v1 v2 v3 v4 gn bs fs rv := by
        unfold roR
        rw [hasN_other (i := 17) (j := 14) (by decide), hasN_other (i := 17) (j := 20) (by decide), hasN_other (i := 17) (j := 23) (by decide), hasN_self]
        simp [z14, z20, z23]
      refine aone_store (v := .int .i64 bs) (ovl_get (done := done) (hq 16 (by decide)) (roL gn bs fs rv b11 b12) t0 ro2 (.tail _ (.tail _ (.tail _ (.tail _ (.tail _ (.tail _ (.tail _ (.tail _ (.tail _ (.tail _ (.tail _ (.tail _ (.tail _ (.tail _ (.tail _ (.head _))))))))))))))))) (ovl_get (done := done) (hq 7 (by decide)) (roL gn bs fs rv b11 b12) t0 ro2 (.tail _ (.tail _ (.tail _ (.tail _ (.tail _ (.tail _ (.tail _ (.head _))))))))) ⟨rfl, rfl⟩ (roH_53 (b11 := b11) (done := done) (h0 := h0) hrow) (by decide) (by show (6 : Nat) + 1 ≤ 31; decide) ?_
      show K' ⟨ovl done (roL gn bs fs rv b11 b12) t0, Hp.put (roH b11 v0 v1 v2 v3 v4 gn bs fs rv done h0) 53 ⟨some b11, 91, 31, [splice (ro_1 v0 v1 v2 v3 v4 gn bs fs rv) 6 (V.cells (.int .i64 bs))]⟩⟩
      rw [← ovl_skip (k := 17) (roL gn bs fs rv b11 b12) t0 rfl]
      rw [roH_put (b11 := b11) (h0 := h0) (i := 17) hrow2 (by rfl)]
      exact hK'
    | 18, hj =>
      cases hj
      have hK' : K' ⟨ovl (18 :: done) (roL gn bs fs rv b11 b12) t0, roH b11 v0 v1 v2 v3 v4 gn bs fs rv (18 :: done) h0⟩ := hK'
      show aone P T _ ⟨ovl done (roL gn bs fs rv b11 b12) t0, roH b11 v0 v1 v2 v3 v4 gn bs fs rv done h0⟩ K'
      refine aone_nilchk (ovl_get (done := done) (hq 2 (by decide)) (roL gn bs fs rv b11 b12) t0 ro2 (.tail _ (.tail _ (.head _)))) ?_
      show K' ⟨upd (ovl done (roL gn bs fs rv b11 b12) t0) 108 _, roH b11 v0 v1 v2 v3 v4 gn bs fs rv done h0⟩
      rw [ovl_upd (k := 18) (roL gn bs fs rv b11 b12) t0 ro1 ro2 (.tail _ (.tail _ (.tail _ (.tail _ (.tail _ (.tail _ (.tail _ (.tail _ (.tail _ (.tail _ (.tail _ (.tail _ (.tail _ (.tail _ (.tail _ (.tail _ (.head _)))))))))))))))))]
      exact hK'
    | 19, hj =>
      cases hj
      have hK' : K' ⟨ovl (19 :: done) (roL gn bs fs rv b11 b12) t0, roH b11 v0 v1 v2 v3 v4 gn bs fs rv (19 :: done) h0⟩ := hK'
      show aone P T _ ⟨ovl done (roL gn bs fs rv b11 b12) t0, roH b11 v0 v1 v2 v3 v4 gn bs fs rv done h0⟩ K'
      refine aone_faddr (ovl_get (done := done) (hq 18 (by decide)) (roL gn bs fs rv b11 b12) t0 ro2 (.tail _ (.tail _ (.tail _ (.tail _ (.tail _ (.tail _ (.tail _ (.tail _ (.tail _ (.tail _ (.tail _ (.tail _ (.tail _ (.tail _ (.tail _ (.tail _ (.head _)))))))))))))))))) ?_
      show K' ⟨upd (ovl done (roL gn bs fs rv b11 b12) t0) 109 _, roH b11 v0 v1 v2 v3 v4 gn bs fs rv done h0⟩
      rw [ovl_upd (k := 19) (roL gn bs fs rv b11 b12) t0 ro1 ro2 (.tail _ (.tail _ (.tail _ (.tail _ (.tail _ (.tail _ (.tail _ (.tail _ (.tail _ (.tail _ (.tail _ (.tail _ (.tail _ (.tail _ (.tail _ (.tail _ (.tail _ (.head _))))))))))))))))))]
      exact hK'
    | 20, hj =>
      cases hj
      have hK' : K' ⟨ovl (20 :: done) (roL gn bs fs rv b11 b12) t0, roH b11 v0 v1 v2 v3 v4 gn bs fs rv (20 :: done) h0⟩ := hK'
      show aone P T _ ⟨ovl done (roL gn bs fs rv b11 b12) t0, roH b11 v0 v1 v2 v3 v4 gn bs fs rv done h0⟩ K'
      have z23 : hasN done 23 = false := by
        cases hh : hasN done 23
        · rfl
        · exact absurd (hcl 23 _ _ rfl hh 20 (by decide)) (by rw [hf]; decide)
      have z14 : hasN done 14 = true := hq 14 (by decide)
      have z17 : hasN done 17 = true := hq 17 (by decide)
      have hrow : roR v0 v1 v2 v3 v4 gn bs fs rv done = ro_2 v0 v1 v2 v3 v4 gn bs fs rv := by
        unfold roR
        simp [z14, z17, z23, hf]
      have hrow2 : roR v0 v1 v2 v3 v4 gn bs fs rv (20 :: done) = ro_3 v0 v1 v2 v3 v4 gn bs fs rv := by
        unfold roR
        rw [hasN_other (i := 20) (j := 14) (by decide), hasN_other (i := 20) (j := 17) (by decide), hasN_other (i := 20) (j := 23) (by decide), hasN_self]
        simp [z14, z17, z23]
      refine aone_store (v := .agg (fsL fs)) (ovl_get (done := done) (hq 19 (by decide)) (roL gn bs fs rv b11 b12) t0 ro2 (.tail _ (.tail _ (.tail _ (.tail _ (.tail _ (.tail _ (.tail _ (.tail _ (.tail _ (.tail _ (.tail _ (.tail _ (.tail _ (.tail _ (.tail _ (.tail _ (.tail _ (.head _))))))))))))))))))) (ovl_get (done := done) (hq 9 (by decide)) (roL gn bs fs rv b11 b12) t0 ro2 (.tail _ (.tail _ (.tail _ (.tail _ (.tail _ (.tail _ (.tail _ (.tail _ (.tail _ (.head _))))))))))) ⟨rfl, rfl⟩ (roH_53 (b11 := b11) (done := done) (h0 := h0) hrow) (by decide) (by show (7 : Nat) + 16 ≤ 31; decide) ?_
      show K' ⟨ovl done (roL gn bs fs rv b11 b12) t0, Hp.put (roH b11 v0 v1 v2 v3 v4 gn bs fs rv done h0) 53 ⟨some b11, 91, 31, [splice (ro_2 v0 v1 v2 v3 v4 gn bs fs rv) 7 (V.cells (.agg (fsL fs)))]⟩⟩
      rw [← ovl_skip (k := 20) (roL gn bs fs rv b11 b12) t0 rfl]
      rw [roH_put (b11 := b11) (h0 := h0) (i := 20) hrow2 (by rfl)]
      exact hK'
    | 21, hj =>
      cases hj
      have hK' : K' ⟨ovl (21 :: done) (roL gn bs fs rv b11 b12) t0, roH b11 v0 v1 v2 v3 v4 gn bs fs rv (21 :: done) h0⟩ := hK'
      show aone P T _ ⟨ovl done (roL gn bs fs rv b11 b12) t0, roH b11 v0 v1 v2 v3 v4 gn bs fs rv done h0⟩ K'
      refine aone_nilchk (ovl_get (done := done) (hq 3 (by decide)) (roL gn bs fs rv b11 b12) t0 ro2 (.tail _ (.tail _ (.tail _ (.head _))))) ?_
      show K' ⟨upd (ovl done (roL gn bs fs rv b11 b12) t0) 110 _, roH b11 v0 v1 v2 v3 v4 gn bs fs rv done h0⟩
      rw [ovl_upd (k := 21) (roL gn bs fs rv b11 b12) t0 ro1 ro2 (.tail _ (.tail _ (.tail _ (.tail _ (.tail _ (.tail _ (.tail _ (.tail _ (.tail _ (.tail _ (.tail _ (.tail _ (.tail _ (.tail _ (.tail _ (.tail _ (.tail _ (.tail _ (.head _)))))))))))))))))))]
      exact hK'
    | 22, hj =>
      cases hj
      have hK' : K' ⟨ovl (22 :: done) (roL gn bs fs rv b11 b12) t0, roH b11 v0 v1 v2 v3 v4 gn bs fs rv (22 :: done) h0⟩ := hK'
      show aone P T _ ⟨ovl done (roL gn bs fs rv b11 b12) t0, roH b11 v0 v1 v2 v3 v4 gn bs fs rv done h0⟩ K'
      refine aone_faddr (ovl_get (done := done) (hq 21 (by decide)) (roL gn bs fs rv b11 b12) t0 ro2 (.tail _ (.tail _ (.tail _ (.tail _ (.tail _ (.tail _ (.tail _ (.tail _ (.tail _ (.tail _ (.tail _ (.tail _ (.tail _ (.tail _ (.tail _ (.tail _ (.tail _ (.tail _ (.head _)))))))))))))))))))) ?_
      show K' ⟨upd (ovl done (roL gn bs fs rv b11 b12) t0) 111 _, roH b11 v0 v1 v2 v3 v4 gn bs fs rv done h0⟩
      rw [ovl_upd (k := 22) (roL gn bs fs rv b11 b12) t0 ro1 ro2 (.tail _ (.tail _ (.tail _ (.tail _ (.tail _ (.tail _ (.tail _ (.tail _ (.tail _ (.tail _ (.tail _ (.tail _ (.tail _ (.tail _ (.tail _ (.tail _ (.tail _ (.tail _ (.tail _ (.head _))))))))))))))))))))]
      exact hK'
    | 23, hj =>
      cases hj
      have hK' : K' ⟨ovl (23 :: done) (roL gn bs fs rv b11 b12) t0, roH b11 v0 v1 v2 v3 v4 gn bs fs rv (23 :: done) h0⟩ := hK'
      show aone P T _ ⟨ovl done (roL gn bs fs rv b11 b12) t0, roH b11 v0 v1 v2 v3 v4 gn bs fs rv done h0⟩ K'
      have z14 : hasN done 14 = true := hq 14 (by decide)
      have z17 : hasN done 17 = true := hq 17 (by decide)
      have z20 : hasN done 20 = true := hq 20 (by decide)
      have hrow : roR v0 v1 v2 v3 v4 gn bs fs rv done = ro_3 v0 v1 v2 v3 v4 gn bs fs rv := by
        unfold roR
        simp [z14, z17, z20, hf]
      have hrow2 : roR v0 v1 v2 v3 v4 gn bs fs rv (23 :: done) = ro_4 v0 v1 v2 v3 v4 gn bs fs rv := by
        unfold roR
        rw [hasN_other (i := 23) (j := 14) (by decide), hasN_other (i := 23) (j := 17) (by decide), hasN_other (i := 23) (j := 20) (by decide), hasN_self]
        simp [z14, z17, z20]
      refine aone_store (v := rv) (ovl_get (done := done) (hq 22 (by decide)) (roL gn bs fs rv b11 b12) t0 ro2 (.tail _ (.tail _ (.tail _ (.tail _ (.tail _ (.tail _ (.tail _ (.tail _ (.tail _ (.tail _ (.tail _ (.tail _ (.tail _ (.tail _ (.tail _ (.tail _ (.tail _ (.tail _ (.tail _ (.head _))))))))))))))))))))) (ovl_get (done := done) (hq 11 (by decide)) (roL gn bs fs rv b11 b12) t0 ro2 (.tail _ (.tail _ (.tail _ (.tail _ (.tail _ (.tail _ (.tail _ (.tail _ (.tail _ (.tail _ (.tail _ (.head _))))))))))))) ⟨(one_cells hrv).a, (one_cells hrv).b⟩ (roH_53 (b11 := b11) (done := done) (h0 := h0) hrow) (by decide) (by show (24 : Nat) + 1 ≤ 31; decide) ?_
      show K' ⟨ovl done (roL gn bs fs rv b11 b12) t0, Hp.put (roH b11 v0 v1 v2 v3 v4 gn bs fs rv done h0) 53 ⟨some b11, 91, 31, [splice (ro_3 v0 v1 v2 v3 v4 gn bs fs rv) 24 (V.cells (rv))]⟩⟩
      rw [← ovl_skip (k := 23) (roL gn bs fs rv b11 b12) t0 rfl]
      rw [(one_cells hrv).c]
      rw [roH_put (b11 := b11) (h0 := h0) (i := 23) hrow2 (by rfl)]
      exact hK'
    | i + 24, hj => exact absurd (List.getElem?_eq_some_iff.1 hj).1 (by show ¬ i + 24 < 24; omega)
  · show K ⟨ovl done (roL gn bs fs rv b11 b12) t0, roH b11 v0 v1 v2 v3 v4 gn bs fs rv done h0⟩
    rw [ovl_all _ _ (fun p hp => hd p.1 ?_)]
    · have e : roH b11 v0 v1 v2 v3 v4 gn bs fs rv done h0 = ovH [(53, some ⟨some b11, 91, 31, [ro_4 v0 v1 v2 v3 v4 gn bs fs rv]⟩)] h0 := by
        funext k
        unfold roH
        simp only [ovH]
        have h23 : roR v0 v1 v2 v3 v4 gn bs fs rv done = ro_4 v0 v1 v2 v3 v4 gn bs fs rv := by
          unfold roR
          rw [if_pos (hd 23 (by decide))]
        rw [h23]
        by_cases hk : k = 53
        · subst hk; rfl
        · have : Nat.beq k 53 = false := by
            cases hb : Nat.beq k 53
            · rfl
            · exact absurd (Nat.eq_of_beq_eq_true hb) hk
          rw [if_neg hk, this]
      rw [e]; exact hK
    · have hm : p.1 ∈ (roL gn bs fs rv b11 b12).map (·.1) := List.mem_map.2 ⟨p, hp, rfl⟩
      have hall : ∀ x ∈ ([0, 1, 2, 3, 4, 5, 6, 7, 8, 9, 10, 11, 12, 13, 15, 16, 18, 19, 21, 22] : List Nat), x < 24 := by decide
      exact hall _ hm
  · show (⟨t0, h0⟩ : S) = ⟨ovl [] (roL gn bs fs rv b11 b12) t0, roH b11 v0 v1 v2 v3 v4 gn bs fs rv [] h0⟩
    rw [ovl_nil]
    congr 1
    funext k
    unfold roH
    by_cases hk : k = 53
    · rw [if_pos hk, hk, h53]; rfl
    · rw [if_neg hk]
end
def ac_rsafe : AC := .seq (.region false [
    ⟨some 2, none, .alloc 23 [(.string ⟨#[]⟩), (.int .i64 0)]⟩])
  (.seq (.region false [
    ⟨some 3, none, .mov (.t 0)⟩,
    ⟨some 4, none, .mov (.t 0)⟩,
    ⟨some 5, none, .len true (.t 4)⟩,
    ⟨some 6, none, .build [(.string ⟨#[]⟩), (.int .i64 0)] [(0, 1, (.t 3)), (1, 1, (.t 5))]⟩,
    ⟨none, none, .store 2 (.t 2) (.t 6)⟩])
  (.ret))
theorem ok_rsafe : FnOk Try.prog 39 Try.f39 ac_rsafe [.cn 2 2] 1 drawD := ⟨Try.func39, by decide +kernel, by kernel_rfl, by kernel_rfl, by decide +kernel⟩
theorem vc_rsafe (P : Prim) (hP : P = std) (T T1 : CallT) (s : List UInt8) (n : Int) (hn : P.slen s = n) (R : S → Prop) (hR : ∀ s' s'' m, m = n → Ent s' s'' → Ret [.cn 2 2] [.agg [.str s, .int .i64 m]] s'' → R s') : awp P T T1 ac_rsafe (S0 [.str s] Hp.emp) R (fun _ _ => False) R := by
  cbv
  repeat' (first
    | (refine And.intro (by first | assumption | decide) ?_; try cbv)
    | (intro β2; try cbv))
  exact hR _ _ _ hn (Ent.refl _) ⟨rfl, rfl, Nat.zero_lt_succ 0, Nat.le_refl 2, rfl⟩
theorem sp_rsafe (s : List UInt8) : Spec Try.prog 39 [.str s] Hp.emp (Is (.agg [.str s, .int .i64 (s.length : Int)])) :=
  spec_pure dOk ok_rsafe [.agg [.str s, .int .i64 (s.length : Int)]] (.agg _ (by simp; exact ⟨.str _, .int _ _⟩)) fun R hR => vc_rsafe std rfl _ _ s _ rfl R fun s' s'' m hm he hr => by subst hm; exact hR s' s'' he hr
structure RSh where
  x1 : List UInt8
  x2 : Int
  x3 : List UInt8
  x4 : Int
  at' : Int
  gn : Int
  b : Int
  fs : Nat → Int
  sf : Int
  mv : Bool
  to : Int
  pt : Int
  wh : Bool
  old : Bool
def rowRf (d : RSh) (tv rv : V) : List V := [.str d.x1, .int .i64 d.x2, .str d.x3, .int .i64 d.x4, .int .i64 d.at', .int .i64 d.gn, .int .i64 d.b, .int .i64 (d.fs 0), .int .i64 (d.fs 1), .int .i64 (d.fs 2), .int .i64 (d.fs 3), .int .i64 (d.fs 4), .int .i64 (d.fs 5), .int .i64 (d.fs 6), .int .i64 (d.fs 7), .int .i64 (d.fs 8), .int .i64 (d.fs 9), .int .i64 (d.fs 10), .int .i64 (d.fs 11), .int .i64 (d.fs 12), .int .i64 (d.fs 13), .int .i64 (d.fs 14), .int .i64 (d.fs 15), tv, rv, .int .i64 d.sf, .bool d.mv, .int .i64 d.to, .int .i64 d.pt, .bool d.wh, .bool d.old]
def obRf (bl : Nat) (d : RSh) (tv rv : V) : Ob := ⟨some bl, 91, 31, [rowRf d tv rv]⟩
theorem obRf_fz {bl : Nat} {d : RSh} {tr lr : List (List V)} (ht : ∀ r ∈ tr, ∀ v ∈ r, Fz v) (hl : ∀ r ∈ lr, ∀ v ∈ r, Fz v) : (obRf bl d (.sl false 1 tr) (.sl false 3 lr)).Fz := by
  intro r hr v hv
  simp only [obRf, List.mem_singleton] at hr
  subst hr
  simp only [rowRf, List.mem_cons, List.not_mem_nil, or_false] at hv
  rcases hv with rfl | rfl | rfl | rfl | rfl | rfl | rfl | rfl | rfl | rfl | rfl | rfl | rfl | rfl | rfl | rfl | rfl | rfl | rfl | rfl | rfl | rfl | rfl | rfl | rfl | rfl | rfl | rfl | rfl | rfl | rfl <;> first | exact .sl _ _ ht | exact .sl _ _ hl | constructor
/-- a method that reads the reference's shop -/
theorem rdRP {f k bl : Nat} {d : RSh} {tr lr : List (List V)} (ht : ∀ r ∈ tr, ∀ v ∈ r, Fz v) (hl : ∀ r ∈ lr, ∀ v ∈ r, Fz v) {rest rest' : List V} {v : V} (hs : Spec Try.prog f (.ptr 0 (some bl) 31 0 0 :: rest') (lookH [(0, obRf bl d (.sl false 1 tr) (.sl false 3 lr))]) fun x h' => ∃ L', (x = v ∧ L' = [(0, obRf bl d (.sl false 1 tr) (.sl false 3 lr))]) ∧ h' = lookH L') (hrest : ∀ h m, Args h m rest rest') (hv : ∀ g, v.ren g = v)
    {h : Hp} {K : V → Hp → Prop} (hk : h k = some (obRf bl d (.sl false 1 tr) (.sl false 3 lr))) (hK : K v h) : CallP Try.prog f (.ptr k (some bl) 31 0 0 :: rest) h K := by
  refine callNP [(0, k)] hs (.cons ?_ (hrest h _)) (by simp) (by simp) rfl (fun p hp => ?_) (by rw [hv]; exact hK)
  · have := Arg.same (h := h) (m := [(0, k)]) (.ptr k (some bl) 31 0 0)
    simpa [V.ren, V.rl, bal] using this
  · simp only [List.mem_singleton] at hp
    subst hp
    exact ⟨by show (h k).map _ = _; rw [hk]; rfl, obRf_fz ht hl⟩
theorem rdRE {f k bl : Nat} {d : RSh} {tr lr : List (List V)} (ht : ∀ r ∈ tr, ∀ v ∈ r, Fz v) (hl : ∀ r ∈ lr, ∀ v ∈ r, Fz v) {rest rest' : List V} {v : V} (hs : Spec Try.prog f (.ptr 0 (some bl) 31 0 0 :: rest') (lookH [(0, obRf bl d (.sl false 1 tr) (.sl false 3 lr))]) fun x h' => ∃ L', (x = v ∧ L' = [(0, obRf bl d (.sl false 1 tr) (.sl false 3 lr))]) ∧ h' = lookH L') (hrest : ∀ h m, Args h m rest rest') (hv : ∀ g, v.ren g = v)
    {h : Hp} {K : V → Hp → Prop} (hk : h k = some (obRf bl d (.sl false 1 tr) (.sl false 3 lr))) (hK : K v h) : CallE Try.prog f (.ptr k (some bl) 31 0 0 :: rest) h K := by
  refine callN [(0, k)] hs (.cons ?_ (hrest h _)) (by simp) (by simp) (by simp) (fun p hp => ?_) (fun p hp => ?_) ?_ ?_
  · have := Arg.same (h := h) (m := [(0, k)]) (.ptr k (some bl) 31 0 0)
    simpa [V.ren, V.rl, bal] using this
  · simp only [List.mem_singleton] at hp; subst hp; exact ⟨_, List.mem_singleton.2 rfl, rfl⟩
  · simp only [List.mem_singleton] at hp
    subst hp
    exact ⟨by show (h k).map _ = _; rw [hk]; rfl, obRf_fz ht hl⟩
  · rintro x L' ⟨rfl, rfl⟩; rfl
  · rintro x L' ⟨rfl, rfl⟩
    rw [hv]
    have e : h.puts (backL [(0, k)] (Ob.ren (lab [(0, k)])) [(0, obRf bl d (.sl false 1 tr) (.sl false 3 lr))]) = h := by
      funext i
      show (match (if i = k then some _ else none) with | some o => some o | none => h i) = _
      by_cases hi : i = k
      · rw [if_pos hi, hi, hk]; rfl
      · rw [if_neg hi]
    rw [e]; exact hK
def ac_rshd : AC := .seq (.region false [
    ⟨some 2, none, .mov (.c (.int .i64 0))⟩])
  (.seq (.region true [
    ⟨some 3, none, .mov (.t 0)⟩,
    ⟨some 4, none, .nilchk (.t 3)⟩,
    ⟨some 5, none, .faddr 6 (.t 4)⟩,
    ⟨some 6, none, .load1 (.t 5)⟩,
    ⟨some 7, none, .mov (.t 0)⟩,
    ⟨some 8, none, .nilchk (.t 7)⟩,
    ⟨some 9, none, .faddr 24 (.t 8)⟩,
    ⟨some 10, none, .load1 (.t 9)⟩,
    ⟨some 11, none, .len false (.t 10)⟩,
    ⟨some 12, none, .bin .add (.t 6) (.t 11)⟩,
    ⟨some 2, none, .mov (.t 12)⟩])
  (.ret))
theorem ok_rshd : FnOk Try.prog 41 Try.f41 ac_rshd [.t 2] 1 drawD := ⟨Try.func41, by decide +kernel, by kernel_rfl, by kernel_rfl, by decide +kernel⟩
theorem vc_rshd (P : Prim) (hP : P = std) (T T1 : CallT) (bl : Nat) (d : RSh) (tr lr : List (List V)) (q1 : P.i64 (P.add d.b (P.rlen lr))) (r : Int) (hr : P.add d.b (P.rlen lr) = r)
    (R : S → Prop) (hR : ∀ s s' q, q = r → Ent s s' → Ret [.t 2] [.int .i64 q] s' → agreeH [(0, obRf bl d (.sl false 1 tr) (.sl false 3 lr))] s' → R s) : awp P T T1 ac_rshd (S0 [.ptr 0 (some bl) 31 0 0] (lookH [(0, obRf bl d (.sl false 1 tr) (.sl false 3 lr))])) R (fun _ _ => False) R := by
  cbv
  repeat' (first
    | (refine And.intro (by first | assumption | decide) ?_; try cbv)
    | (intro β2; try cbv))
  exact hR _ _ _ hr (Ent.refl _) rfl ⟨rfl, trivial⟩
theorem sp_rshd (bl : Nat) (d : RSh) (tr lr : List (List V)) (ht : ∀ r ∈ tr, ∀ v ∈ r, Fz v) (hl : ∀ r ∈ lr, ∀ v ∈ r, Fz v) (hb : 0 ≤ d.b ∧ d.b ≤ 4294967295) (hn : lr.length ≤ 1000) : Spec Try.prog 41 [.ptr 0 (some bl) 31 0 0] (lookH [(0, obRf bl d (.sl false 1 tr) (.sl false 3 lr))]) fun x h' => ∃ L', (x = .int .i64 (d.b + (lr.length : Int)) ∧ L' = [(0, obRf bl d (.sl false 1 tr) (.sl false 3 lr))]) ∧ h' = lookH L' :=
  spec_meth dOk ok_rshd (L := [(0, obRf bl d (.sl false 1 tr) (.sl false 3 lr))]) (fun x L' => x = .int .i64 (d.b + (lr.length : Int)) ∧ L' = [(0, obRf bl d (.sl false 1 tr) (.sl false 3 lr))]) fun R hR =>
    vc_rshd std rfl _ _ bl d tr lr (by show -9223372036854775808 ≤ d.b + (lr.length : Int) ∧ d.b + (lr.length : Int) ≤ 9223372036854775807; omega) _ rfl R fun s s' q hq he hr ha => hR s s' _ _ he (resV_mono _ _ _ (fun x hx => by rw [hx, hq]; rfl) hr) ha (.int _ _) (fun p hp => by simp only [List.mem_singleton] at hp; subst hp; exact obRf_fz ht hl) ⟨rfl, rfl⟩
def RHeadC (T : CallT) : Prop := ∀ (k bl : Nat) (d : RSh) (tr lr : List (List V)) (h : Hp) (K : V → Hp → Prop), (∀ r ∈ tr, ∀ v ∈ r, Fz v) → (∀ r ∈ lr, ∀ v ∈ r, Fz v) → (0 ≤ d.b ∧ d.b ≤ 4294967295) → lr.length ≤ 1000 → h k = some (obRf bl d (.sl false 1 tr) (.sl false 3 lr)) → (∀ q, q = d.b + (lr.length : Int) → K (.int .i64 q) h) → T 41 [.ptr k (some bl) 31 0 0] h K
theorem rheadE : RHeadC (CallE Try.prog) := fun k bl d tr lr h K ht hl hb hn hk hK => rdRE ht hl (sp_rshd bl d tr lr ht hl hb hn) (fun _ _ => .nil) (fun _ => rfl) hk (hK _ rfl)
theorem rheadP : RHeadC (CallP Try.prog) := fun k bl d tr lr h K ht hl hb hn hk hK => rdRP ht hl (sp_rshd bl d tr lr ht hl hb hn) (fun _ _ => .nil) (fun _ => rfl) hk (hK _ rfl)
def ac_ropen : AC := .seq (.region false [
    ⟨some 1, none, .box 26 4 (.t 0)⟩,
    ⟨some 2, none, .mov (.c (.pointer none))⟩,
    ⟨some 3, none, .mov (.c (.int .i64 0))⟩])
  (.seq (.seq (.region false [
    ⟨some 13, none, .loadn 4 (.t 1)⟩,
    ⟨some 14, none, .call 37 [(.t 13)]⟩,
    ⟨some 4, none, .mov (.t 14)⟩])
  (.seq (.region false [
    ⟨some 15, none, .mov (.t 4)⟩,
    ⟨some 16, none, .bin .neq (.t 15) (.c (.int .i64 0))⟩])
  (.cond (.t 16)
    (.seq (.region false [
      ⟨some 17, none, .mov (.t 4)⟩,
      ⟨some 2, none, .mov (.c (.pointer none))⟩,
      ⟨some 3, none, .mov (.t 17)⟩])
    (.ret))
    (.skip))))
  (.seq (.region false [
    ⟨some 19, none, .faddr 0 (.t 1)⟩,
    ⟨some 20, none, .iarr 2 2 (.t 19) (.c (.int .i64 0))⟩,
    ⟨some 21, none, .faddr 0 (.t 20)⟩,
    ⟨some 22, none, .load1 (.t 21)⟩,
    ⟨some 23, none, .call 38 [(.t 22)]⟩,
    ⟨some 18, none, .mov (.t 23)⟩,
    ⟨some 24, none, .ext 0 (.t 18)⟩,
    ⟨some 25, none, .ext 1 (.t 18)⟩,
    ⟨some 5, none, .alloc 81 [(.int .i64 0), (.int .i64 0), (.string ⟨#[]⟩), (.int .i64 0), (.int .i64 0), (.int .i64 0), (.int .i64 0), (.int .i64 0), (.int .i64 0), (.int .i64 0), (.int .i64 0), (.int .i64 0), (.int .i64 0), (.int .i64 0), (.int .i64 0), (.int .i64 0), (.int .i64 0), (.int .i64 0), (.int .i64 0), (.int .i64 0), (.int .i64 0), (.int .i64 0), (.int .i64 0), (.int .i64 0), (.int .i64 0), (.int .i64 0), (.int .i64 0), (.int .i64 0), (.int .i64 0), (.int .i64 0), (.int .i64 0), (.int .i64 0), (.int .i64 0), (.int .i64 0), (.int .i64 0), (.slice none 0 0), (.bool false), (.int .i64 0)]⟩,
    ⟨none, none, .store 38 (.t 5) (.t 24)⟩,
    ⟨some 6, none, .mov (.t 25)⟩])
  (.seq (.region false [
    ⟨some 27, none, .faddr 0 (.t 1)⟩,
    ⟨some 28, none, .iarr 2 2 (.t 27) (.c (.int .i64 1))⟩,
    ⟨some 29, none, .faddr 0 (.t 28)⟩,
    ⟨some 30, none, .load1 (.t 29)⟩,
    ⟨some 31, none, .call 38 [(.t 30)]⟩,
    ⟨some 26, none, .mov (.t 31)⟩,
    ⟨some 32, none, .ext 0 (.t 26)⟩,
    ⟨some 33, none, .ext 1 (.t 26)⟩,
    ⟨some 7, none, .alloc 81 [(.int .i64 0), (.int .i64 0), (.string ⟨#[]⟩), (.int .i64 0), (.int .i64 0), (.int .i64 0), (.int .i64 0), (.int .i64 0), (.int .i64 0), (.int .i64 0), (.int .i64 0), (.int .i64 0), (.int .i64 0), (.int .i64 0), (.int .i64 0), (.int .i64 0), (.int .i64 0), (.int .i64 0), (.int .i64 0), (.int .i64 0), (.int .i64 0), (.int .i64 0), (.int .i64 0), (.int .i64 0), (.int .i64 0), (.int .i64 0), (.int .i64 0), (.int .i64 0), (.int .i64 0), (.int .i64 0), (.int .i64 0), (.int .i64 0), (.int .i64 0), (.int .i64 0), (.int .i64 0), (.slice none 0 0), (.bool false), (.int .i64 0)]⟩,
    ⟨none, none, .store 38 (.t 7) (.t 32)⟩,
    ⟨some 8, none, .mov (.t 33)⟩])
  (.seq (.region true [
    ⟨some 34, none, .mov (.t 6)⟩,
    ⟨some 35, none, .bin .eql (.t 34) (.c (.int .i64 0))⟩,
    ⟨some 36, none, .mov (.t 35)⟩,
    ⟨some 37, some (36, true), .faddr 36 (.t 5)⟩,
    ⟨some 38, some (36, true), .load1 (.t 37)⟩,
    ⟨some 39, none, .pick (.t 36) (.t 38) (.c (.bool false))⟩,
    ⟨some 40, none, .mov (.t 8)⟩,
    ⟨some 41, none, .bin .eql (.t 40) (.c (.int .i64 0))⟩,
    ⟨some 42, none, .mov (.t 41)⟩,
    ⟨some 43, some (42, true), .faddr 36 (.t 7)⟩,
    ⟨some 44, some (42, true), .load1 (.t 43)⟩,
    ⟨some 45, none, .pick (.t 42) (.t 44) (.c (.bool false))⟩,
    ⟨some 9, none, .mov (.t 39)⟩,
    ⟨some 10, none, .mov (.t 45)⟩])
  (.seq (.seq (.region false [
    ⟨some 46, none, .mov (.t 9)⟩,
    ⟨some 47, none, .not (.t 46)⟩,
    ⟨some 48, none, .mov (.t 47)⟩,
    ⟨some 49, some (48, true), .mov (.t 10)⟩,
    ⟨some 50, some (48, true), .not (.t 49)⟩,
    ⟨some 51, none, .pick (.t 48) (.t 50) (.c (.bool false))⟩])
  (.cond (.t 51)
    (.seq (.region false [
      ⟨some 2, none, .mov (.c (.pointer none))⟩,
      ⟨some 3, none, .mov (.c (.int .i64 12))⟩])
    (.ret))
    (.skip)))
  (.seq (.region false [
    ⟨some 52, none, .build [(.string ⟨#[]⟩), (.int .i64 0), (.string ⟨#[]⟩), (.int .i64 0), (.int .i64 0), (.int .i64 0), (.int .i64 0), (.int .i64 0), (.int .i64 0), (.int .i64 0), (.int .i64 0), (.int .i64 0), (.int .i64 0), (.int .i64 0), (.int .i64 0), (.int .i64 0), (.int .i64 0), (.int .i64 0), (.int .i64 0), (.int .i64 0), (.int .i64 0), (.int .i64 0), (.int .i64 0), (.slice none 0 0), (.slice none 0 0), (.int .i64 0), (.bool false), (.int .i64 0), (.int .i64 0), (.bool false), (.bool false)] []⟩,
    ⟨some 53, none, .box 91 31 (.t 52)⟩,
    ⟨some 11, none, .mov (.t 53)⟩])
  (.seq (.region false [
    ⟨some 54, none, .loadn 38 (.t 5)⟩,
    ⟨some 12, none, .alloc 81 [(.int .i64 0), (.int .i64 0), (.string ⟨#[]⟩), (.int .i64 0), (.int .i64 0), (.int .i64 0), (.int .i64 0), (.int .i64 0), (.int .i64 0), (.int .i64 0), (.int .i64 0), (.int .i64 0), (.int .i64 0), (.int .i64 0), (.int .i64 0), (.int .i64 0), (.int .i64 0), (.int .i64 0), (.int .i64 0), (.int .i64 0), (.int .i64 0), (.int .i64 0), (.int .i64 0), (.int .i64 0), (.int .i64 0), (.int .i64 0), (.int .i64 0), (.int .i64 0), (.int .i64 0), (.int .i64 0), (.int .i64 0), (.int .i64 0), (.int .i64 0), (.int .i64 0), (.int .i64 0), (.slice none 0 0), (.bool false), (.int .i64 0)]⟩,
    ⟨none, none, .store 38 (.t 12) (.t 54)⟩])
  (.seq (.seq (.region false [
    ⟨some 55, none, .mov (.t 9)⟩,
    ⟨some 56, none, .not (.t 55)⟩,
    ⟨some 57, none, .mov (.t 56)⟩,
    ⟨some 58, some (57, false), .mov (.t 10)⟩,
    ⟨some 59, some (57, false), .mov (.t 58)⟩,
    ⟨some 60, some (59, true), .faddr 0 (.t 7)⟩,
    ⟨some 61, some (59, true), .load1 (.t 60)⟩,
    ⟨some 62, some (59, true), .faddr 0 (.t 5)⟩,
    ⟨some 63, some (59, true), .load1 (.t 62)⟩,
    ⟨some 64, some (59, true), .bin .gtr (.t 61) (.t 63)⟩,
    ⟨some 65, some (57, false), .pick (.t 59) (.t 64) (.c (.bool false))⟩,
    ⟨some 66, none, .pick (.t 57) (.c (.bool true)) (.t 65)⟩])
  (.cond (.t 66)
    (.dregion [
      (⟨some 67, none, .mov (.t 11)⟩, []),
      (⟨some 68, none, .loadn 38 (.t 7)⟩, []),
      (⟨some 69, none, .nilchk (.t 67)⟩, [0, 0]),
      (⟨some 70, none, .faddr 4 (.t 69)⟩, [2, 0]),
      (⟨none, none, .store 1 (.t 70) (.c (.int .i64 1))⟩, [3, 0]),
      (⟨none, none, .store 38 (.t 12) (.t 68)⟩, [1, 4, 0, 1, 2, 3, 4])])
    (.skip)))
  (.seq (.region true [
    ⟨some 71, none, .mov (.t 11)⟩,
    ⟨some 72, none, .mov (.t 11)⟩,
    ⟨some 73, none, .nilchk (.t 72)⟩,
    ⟨some 74, none, .faddr 4 (.t 73)⟩,
    ⟨some 75, none, .load1 (.t 74)⟩,
    ⟨some 76, none, .mov (.t 11)⟩,
    ⟨some 77, none, .nilchk (.t 76)⟩,
    ⟨some 78, none, .faddr 4 (.t 77)⟩,
    ⟨some 79, none, .load1 (.t 78)⟩,
    ⟨some 80, none, .faddr 0 (.t 1)⟩,
    ⟨some 81, none, .iarr 2 2 (.t 80) (.t 79)⟩,
    ⟨some 82, none, .faddr 0 (.t 81)⟩,
    ⟨some 83, none, .load1 (.t 82)⟩,
    ⟨some 84, none, .faddr 37 (.t 12)⟩,
    ⟨some 85, none, .load1 (.t 84)⟩,
    ⟨some 86, none, .slstr (.t 83) none (some (.t 85))⟩,
    ⟨some 87, none, .call 39 [(.t 86)]⟩,
    ⟨some 88, none, .nilchk (.t 71)⟩,
    ⟨some 89, none, .faddr 0 (.t 88)⟩,
    ⟨some 90, none, .faddr 0 (.t 89)⟩,
    ⟨some 91, none, .iarr 2 2 (.t 90) (.t 75)⟩,
    ⟨none, none, .store 2 (.t 91) (.t 87)⟩])
  (.seq (.dregion [
    (⟨some 92, none, .mov (.t 11)⟩, []),
    (⟨some 93, none, .mov (.t 11)⟩, []),
    (⟨some 94, none, .mov (.t 11)⟩, []),
    (⟨some 95, none, .mov (.t 11)⟩, []),
    (⟨some 96, none, .faddr 0 (.t 12)⟩, []),
    (⟨some 97, none, .load1 (.t 96)⟩, [4]),
    (⟨some 98, none, .faddr 1 (.t 12)⟩, []),
    (⟨some 99, none, .load1 (.t 98)⟩, [6]),
    (⟨some 100, none, .faddr 3 (.t 12)⟩, []),
    (⟨some 101, none, .loadn 16 (.t 100)⟩, [8]),
    (⟨some 102, none, .faddr 35 (.t 12)⟩, []),
    (⟨some 103, none, .load1 (.t 102)⟩, [10]),
    (⟨some 104, none, .nilchk (.t 92)⟩, [0, 0, 4, 5]),
    (⟨some 105, none, .faddr 5 (.t 104)⟩, [12, 0, 4, 5]),
    (⟨none, none, .store 1 (.t 105) (.t 97)⟩, [13, 5, 0, 4, 5]),
    (⟨some 106, none, .nilchk (.t 93)⟩, [1, 0, 1, 4, 5, 6, 7, 12, 13, 14]),
    (⟨some 107, none, .faddr 6 (.t 106)⟩, [15, 0, 1, 4, 5, 6, 7, 12, 13, 14]),
    (⟨none, none, .store 1 (.t 107) (.t 99)⟩, [16, 7, 14, 0, 1, 4, 5, 6, 7, 12, 13, 14]),
    (⟨some 108, none, .nilchk (.t 94)⟩, [2, 0, 1, 2, 4, 5, 6, 7, 8, 9, 12, 13, 14, 15, 16, 17]),
    (⟨some 109, none, .faddr 7 (.t 108)⟩, [18, 0, 1, 2, 4, 5, 6, 7, 8, 9, 12, 13, 14, 15, 16, 17]),
    (⟨none, none, .store 16 (.t 109) (.t 101)⟩, [19, 9, 17, 0, 1, 2, 4, 5, 6, 7, 8, 9, 12, 13, 14, 15, 16, 17]),
    (⟨some 110, none, .nilchk (.t 95)⟩, [3, 0, 1, 2, 3, 4, 5, 6, 7, 8, 9, 10, 11, 12, 13, 14, 15, 16, 17, 18, 19, 20]),
    (⟨some 111, none, .faddr 24 (.t 110)⟩, [21, 0, 1, 2, 3, 4, 5, 6, 7, 8, 9, 10, 11, 12, 13, 14, 15, 16, 17, 18, 19, 20]),
    (⟨none, none, .store 1 (.t 111) (.t 103)⟩, [22, 11, 20, 0, 1, 2, 3, 4, 5, 6, 7, 8, 9, 10, 11, 12, 13, 14, 15, 16, 17, 18, 19, 20])])
  (.seq (.region false [
    ⟨some 113, none, .mov (.t 11)⟩,
    ⟨some 114, none, .faddr 2 (.t 12)⟩,
    ⟨some 115, none, .load1 (.t 114)⟩,
    ⟨some 116, none, .faddr 35 (.t 12)⟩,
    ⟨some 117, none, .load1 (.t 116)⟩,
    ⟨some 118, none, .call 40 [(.t 115), (.t 117)]⟩,
    ⟨some 112, none, .mov (.t 118)⟩,
    ⟨some 119, none, .ext 0 (.t 112)⟩,
    ⟨some 120, none, .ext 1 (.t 112)⟩,
    ⟨some 121, none, .nilchk (.t 113)⟩,
    ⟨some 122, none, .faddr 23 (.t 121)⟩,
    ⟨none, none, .store 1 (.t 122) (.t 119)⟩])
  (.seq (.region false [
    ⟨some 123, none, .mov (.t 11)⟩,
    ⟨some 124, none, .mov (.t 11)⟩,
    ⟨some 125, none, .call 41 [(.t 124)]⟩,
    ⟨some 126, none, .nilchk (.t 123)⟩,
    ⟨some 127, none, .faddr 25 (.t 126)⟩,
    ⟨none, none, .store 1 (.t 127) (.t 125)⟩])
  (.seq (.region false [
    ⟨some 128, none, .mov (.t 11)⟩,
    ⟨some 2, none, .mov (.t 128)⟩,
    ⟨some 3, none, .mov (.c (.int .i64 0))⟩])
  (.ret))))))))))))))
theorem ok_ropen : FnOk Try.prog 8 Try.f8 ac_ropen [.t 2, .t 3] 1 drawD := ⟨Try.func8, by decide +kernel, by kernel_rfl, by kernel_rfl, by decide +kernel⟩
def Z31 (i : Int) : List V := ro_0 (.str []) (.int .i64 0) (.str []) (.int .i64 0) (.int .i64 i) 0 0 (fun _ => 0) .nilsl
def RoA (a1 : List UInt8) (a2 : Int) (b1 : List UInt8) (b2 : Int) (r0 lg : List V) (s : S) : Prop := ∃ β1 b11 b12 : Nat, agT [(1, .ptr 1 (some β1) 4 0 0), (11, .ptr 53 (some b11) 31 0 0), (12, .ptr 12 (some b12) 38 0 0)] s ∧ agH [(1, some ⟨some β1, 26, 4, [[.str a1, .int .i64 a2, .str b1, .int .i64 b2]]⟩), (53, some ⟨some b11, 91, 31, [r0]⟩), (12, some ⟨some b12, 81, 38, [lg]⟩)] s
def RoB (r0 lg : List V) (s : S) : Prop := ∃ b11 b12 : Nat, agT [(11, .ptr 53 (some b11) 31 0 0), (12, .ptr 12 (some b12) 38 0 0)] s ∧ agH [(53, some ⟨some b11, 91, 31, [r0]⟩), (12, some ⟨some b12, 81, 38, [lg]⟩)] s
theorem vc_ropA (P : Prim) (hP : P = std) (T T1 : CallT) (a1 : List UInt8) (a2 : Int) (b1 : List UInt8) (b2 : Int) (c : Int) (hc : Ans T 37 [.agg [.str a1, .int .i64 a2, .str b1, .int .i64 b2]] (.int .i64 c))
    (LA LB : LogD) (wA wB : Bool) (eA eB : Int) (ra rb : List (List V)) (hA : c = 0 → Ans T 38 [.str a1] (.tup [.agg (rowL LA.gen LA.base LA.text LA.first LA.table (.sl false 3 ra) wA LA.good), .int .i64 eA])) (hB : c = 0 → Ans T 38 [.str b1] (.tup [.agg (rowL LB.gen LB.base LB.text LB.first LB.table (.sl false 3 rb) wB LB.good), .int .i64 eB]))
    (N R : S → Prop) (hE : ∀ (s s' : S) (e : Int), (c ≠ 0 ∧ e = c) ∨ (c = 0 ∧ ¬ (eA = 0 ∧ wA = true) ∧ ¬ (eB = 0 ∧ wB = true) ∧ e = 12) → Ent s s' → Ret [.t 2, .t 3] [.nil, .int .i64 e] s' → R s)
    (h0 : c = 0 → (eA = 0 ∧ wA = true) → ¬ ((eB = 0 ∧ wB = true) ∧ LA.gen < LB.gen) → ∀ s, RoA a1 a2 b1 b2 (Z31 0) (rowL LA.gen LA.base LA.text LA.first LA.table (.sl false 3 ra) wA LA.good) s → N s)
    (h1 : c = 0 → (eB = 0 ∧ wB = true) → ((eA = 0 ∧ wA = true) → LA.gen < LB.gen) → ∀ s, RoA a1 a2 b1 b2 (Z31 1) (rowL LB.gen LB.base LB.text LB.first LB.table (.sl false 3 rb) wB LB.good) s → N s) :
    awp P T T1 (uptoS 9 ac_ropen .skip) (S0 [.agg [.str a1, .int .i64 a2, .str b1, .int .i64 b2]] Hp.emp) N (fun _ _ => False) R := by
  have n0 : P.nat 0 = 0 := by subst hP; rfl
  have n1 : P.nat 1 = 1 := by subst hP; rfl
  have z0 : P.leP 0 0 := le0 hP (by decide)
  have z1 : P.leP 0 1 := le0 hP (by decide)
  have l0 : P.ltP 0 2 := ltI hP (by decide)
  have l1 : P.ltP 1 2 := ltI hP (by decide)
  cbv
  repeat' (first
    | (refine And.intro (by first | assumption | decide) ?_; try cbv)
    | (refine ⟨0, n0, ?_⟩; try cbv)
    | (refine ⟨1, n1, ?_⟩; try cbv)
    | (intro β2; try cbv))
  refine hc _ _ ?_
  cbv
  repeat' (first
    | (refine And.intro (by first | assumption | decide) ?_; try cbv)
    | (refine ⟨0, n0, ?_⟩; try cbv)
    | (refine ⟨1, n1, ?_⟩; try cbv)
    | (intro β2; try cbv))
  refine br_cases (fun g => ?_) (fun g => ?_)
  · have g1 : c ≠ 0 := ne_t hP g
    cbv
    repeat' (first
    | (refine And.intro (by first | assumption | decide) ?_; try cbv)
    | (refine ⟨0, n0, ?_⟩; try cbv)
    | (refine ⟨1, n1, ?_⟩; try cbv)
    | (intro β2; try cbv))
    exact hE _ _ _ (.inl ⟨g1, rfl⟩) (Ent.refl _) rfl
  have g1 : c = 0 := ne_f hP g
  have hA := hA g1
  have hB := hB g1
  have h0 := h0 g1
  have h1 := h1 g1
  cbv
  repeat' (first
    | (refine And.intro (by first | assumption | decide) ?_; try cbv)
    | (refine ⟨0, n0, ?_⟩; try cbv)
    | (refine ⟨1, n1, ?_⟩; try cbv)
    | (intro β2; try cbv))
  refine hA _ _ ?_
  cbv
  repeat' (first
    | (refine And.intro (by first | assumption | decide) ?_; try cbv)
    | (refine ⟨0, n0, ?_⟩; try cbv)
    | (refine ⟨1, n1, ?_⟩; try cbv)
    | (intro β2; try cbv))
  refine hB _ _ ?_
  cbv
  repeat' (first
    | (refine And.intro (by first | assumption | decide) ?_; try cbv)
    | (refine ⟨0, n0, ?_⟩; try cbv)
    | (refine ⟨1, n1, ?_⟩; try cbv)
    | (intro β2; try cbv))
  refine br_cases (fun g => ?_) (fun g => ?_)
  · have gA : eA = 0 := eq_t hP g
    clear g
    cbv
    repeat' (first
    | (refine And.intro (by first | assumption | decide) ?_; try cbv)
    | (refine ⟨0, n0, ?_⟩; try cbv)
    | (refine ⟨1, n1, ?_⟩; try cbv)
    | (intro β2; try cbv))
    cases wA
    ·
      cbv
      repeat' (first
    | (refine And.intro (by first | assumption | decide) ?_; try cbv)
    | (refine ⟨0, n0, ?_⟩; try cbv)
    | (refine ⟨1, n1, ?_⟩; try cbv)
    | (intro β2; try cbv))
      refine br_cases (fun g => ?_) (fun g => ?_)
      · have gB : eB = 0 := eq_t hP g
        clear g
        cbv
        repeat' (first
    | (refine And.intro (by first | assumption | decide) ?_; try cbv)
    | (refine ⟨0, n0, ?_⟩; try cbv)
    | (refine ⟨1, n1, ?_⟩; try cbv)
    | (intro β2; try cbv))
        cases wB
        ·
          cbv
          repeat' (first
    | (refine And.intro (by first | assumption | decide) ?_; try cbv)
    | (refine ⟨0, n0, ?_⟩; try cbv)
    | (refine ⟨1, n1, ?_⟩; try cbv)
    | (intro β2; try cbv))
          exact hE _ _ _ (.inr ⟨g1, (fun h => by have := h.2; contradiction), (fun h => by have := h.2; contradiction), rfl⟩) (Ent.refl _) rfl
        ·
          cbv
          repeat' (first
    | (refine And.intro (by first | assumption | decide) ?_; try cbv)
    | (refine ⟨0, n0, ?_⟩; try cbv)
    | (refine ⟨1, n1, ?_⟩; try cbv)
    | (intro β2; try cbv))
          repeat' (first
            | (refine Both.mk ?_ ?_; try cbv)
            | (refine And.intro (by first | assumption | decide) ?_; try cbv))
          all_goals (refine h1 ⟨gB, rfl⟩ (fun h => absurd h (fun h => by have := h.2; contradiction)) _ ?_; exact ⟨_, _, _, ⟨rfl, rfl, rfl, trivial⟩, ⟨rfl, rfl, rfl, trivial⟩⟩)
      · have gB : ¬ eB = 0 := eq_f hP g
        clear g
        cbv
        repeat' (first
    | (refine And.intro (by first | assumption | decide) ?_; try cbv)
    | (refine ⟨0, n0, ?_⟩; try cbv)
    | (refine ⟨1, n1, ?_⟩; try cbv)
    | (intro β2; try cbv))
        exact hE _ _ _ (.inr ⟨g1, (fun h => by have := h.2; contradiction), (fun h => gB h.1), rfl⟩) (Ent.refl _) rfl
    ·
      cbv
      repeat' (first
    | (refine And.intro (by first | assumption | decide) ?_; try cbv)
    | (refine ⟨0, n0, ?_⟩; try cbv)
    | (refine ⟨1, n1, ?_⟩; try cbv)
    | (intro β2; try cbv))
      refine br_cases (fun g => ?_) (fun g => ?_)
      · have gB : eB = 0 := eq_t hP g
        clear g
        cbv
        repeat' (first
    | (refine And.intro (by first | assumption | decide) ?_; try cbv)
    | (refine ⟨0, n0, ?_⟩; try cbv)
    | (refine ⟨1, n1, ?_⟩; try cbv)
    | (intro β2; try cbv))
        cases wB
        ·
          cbv
          repeat' (first
    | (refine And.intro (by first | assumption | decide) ?_; try cbv)
    | (refine ⟨0, n0, ?_⟩; try cbv)
    | (refine ⟨1, n1, ?_⟩; try cbv)
    | (intro β2; try cbv))
          (refine h0 ⟨gA, rfl⟩ (fun h => absurd h.1 (fun h => by have := h.2; contradiction)) _ ?_; exact ⟨_, _, _, ⟨rfl, rfl, rfl, trivial⟩, ⟨rfl, rfl, rfl, trivial⟩⟩)
        ·
          cbv
          repeat' (first
    | (refine And.intro (by first | assumption | decide) ?_; try cbv)
    | (refine ⟨0, n0, ?_⟩; try cbv)
    | (refine ⟨1, n1, ?_⟩; try cbv)
    | (intro β2; try cbv))
          refine br_cases (fun g => ?_) (fun g => ?_)
          · have gG : LA.gen < LB.gen := lt_t hP g
            cbv
            repeat' (first
    | (refine And.intro (by first | assumption | decide) ?_; try cbv)
    | (refine ⟨0, n0, ?_⟩; try cbv)
    | (refine ⟨1, n1, ?_⟩; try cbv)
    | (intro β2; try cbv))
            repeat' (first
              | (refine Both.mk ?_ ?_; try cbv)
              | (refine And.intro (by first | assumption | decide) ?_; try cbv))
            all_goals (refine h1 ⟨gB, rfl⟩ (fun _ => gG) _ ?_; exact ⟨_, _, _, ⟨rfl, rfl, rfl, trivial⟩, ⟨rfl, rfl, rfl, trivial⟩⟩)
          · have gG : ¬ LA.gen < LB.gen := lt_f hP g
            cbv
            repeat' (first
    | (refine And.intro (by first | assumption | decide) ?_; try cbv)
    | (refine ⟨0, n0, ?_⟩; try cbv)
    | (refine ⟨1, n1, ?_⟩; try cbv)
    | (intro β2; try cbv))
            (refine h0 ⟨gA, rfl⟩ (fun h => gG h.2) _ ?_; exact ⟨_, _, _, ⟨rfl, rfl, rfl, trivial⟩, ⟨rfl, rfl, rfl, trivial⟩⟩)
      · have gB : ¬ eB = 0 := eq_f hP g
        clear g
        cbv
        repeat' (first
    | (refine And.intro (by first | assumption | decide) ?_; try cbv)
    | (refine ⟨0, n0, ?_⟩; try cbv)
    | (refine ⟨1, n1, ?_⟩; try cbv)
    | (intro β2; try cbv))
        (refine h0 ⟨gA, rfl⟩ (fun h => absurd h.1 (fun h => gB h.1)) _ ?_; exact ⟨_, _, _, ⟨rfl, rfl, rfl, trivial⟩, ⟨rfl, rfl, rfl, trivial⟩⟩)
  · have gA : ¬ eA = 0 := eq_f hP g
    clear g
    cbv
    repeat' (first
    | (refine And.intro (by first | assumption | decide) ?_; try cbv)
    | (refine ⟨0, n0, ?_⟩; try cbv)
    | (refine ⟨1, n1, ?_⟩; try cbv)
    | (intro β2; try cbv))
    refine br_cases (fun g => ?_) (fun g => ?_)
    · have gB : eB = 0 := eq_t hP g
      clear g
      cbv
      repeat' (first
    | (refine And.intro (by first | assumption | decide) ?_; try cbv)
    | (refine ⟨0, n0, ?_⟩; try cbv)
    | (refine ⟨1, n1, ?_⟩; try cbv)
    | (intro β2; try cbv))
      cases wB
      ·
        cbv
        repeat' (first
    | (refine And.intro (by first | assumption | decide) ?_; try cbv)
    | (refine ⟨0, n0, ?_⟩; try cbv)
    | (refine ⟨1, n1, ?_⟩; try cbv)
    | (intro β2; try cbv))
        exact hE _ _ _ (.inr ⟨g1, (fun h => gA h.1), (fun h => by have := h.2; contradiction), rfl⟩) (Ent.refl _) rfl
      ·
        cbv
        repeat' (first
    | (refine And.intro (by first | assumption | decide) ?_; try cbv)
    | (refine ⟨0, n0, ?_⟩; try cbv)
    | (refine ⟨1, n1, ?_⟩; try cbv)
    | (intro β2; try cbv))
        repeat' (first
          | (refine Both.mk ?_ ?_; try cbv)
          | (refine And.intro (by first | assumption | decide) ?_; try cbv))
        all_goals (refine h1 ⟨gB, rfl⟩ (fun h => absurd h (fun h => gA h.1)) _ ?_; exact ⟨_, _, _, ⟨rfl, rfl, rfl, trivial⟩, ⟨rfl, rfl, rfl, trivial⟩⟩)
    · have gB : ¬ eB = 0 := eq_f hP g
      clear g
      cbv
      repeat' (first
    | (refine And.intro (by first | assumption | decide) ?_; try cbv)
    | (refine ⟨0, n0, ?_⟩; try cbv)
    | (refine ⟨1, n1, ?_⟩; try cbv)
    | (intro β2; try cbv))
      exact hE _ _ _ (.inr ⟨g1, (fun h => gA h.1), (fun h => gB h.1), rfl⟩) (Ent.refl _) rfl
theorem vc_ropB0 (P : Prim) (hP : P = std) (T T1 : CallT) (a1 : List UInt8) (a2 : Int) (b1 : List UInt8) (b2 : Int) (LA : LogD) (wA : Bool) (ra : List (List V)) (hg : 0 ≤ LA.good ∧ LA.good ≤ (a1.length : Int)) (z : List UInt8) (zn : Int) (hz : z = P.ssub a1 0 LA.good)
    (hsf : Ans T1 39 [.str z] (.agg [.str z, .int .i64 zn])) (N R : S → Prop)
    (hN : ∀ s, RoB (ro_0 (.str z) (.int .i64 zn) (.str []) (.int .i64 0) (.int .i64 0) 0 0 (fun _ => 0) .nilsl) (rowL LA.gen LA.base LA.text LA.first LA.table (.sl false 3 ra) wA LA.good) s → N s)
    (s : S) (hs : RoA a1 a2 b1 b2 (Z31 0) (rowL LA.gen LA.base LA.text LA.first LA.table (.sl false 3 ra) wA LA.good) s) : awp P T T1 (uptoS 1 (fromS 9 ac_ropen) .skip) s N (fun _ _ => False) R := by
  obtain ⟨β1, b11, b12, hs1, hs2⟩ := hs
  refine awp_cut (Q := fun s => awp P T T1 (uptoS 1 (fromS 9 ac_ropen) .skip) s N (fun _ _ => False) R) _ _ hs1 hs2 (fun t h => ?_)
  have n0 : P.nat 0 = 0 := by subst hP; rfl
  have n1 : P.nat 1 = 1 := by subst hP; rfl
  have z0 : P.leP 0 0 := le0 hP (by decide)
  have z1 : P.leP 0 1 := le0 hP (by decide)
  have l0 : P.ltP 0 2 := ltI hP (by decide)
  have l1 : P.ltP 1 2 := ltI hP (by decide)
  have g1 : P.leP 0 LA.good := le0 hP hg.1
  have g2 : P.leP LA.good (P.slen a1) := leI hP (by rw [slen_eq hP]; exact hg.2)
  rw [hz] at hsf
  cbv
  repeat' (first
    | (refine And.intro (by first | assumption | decide) ?_; try cbv)
    | (refine ⟨0, n0, ?_⟩; try cbv)
    | (refine ⟨1, n1, ?_⟩; try cbv)
    | (intro β2; try cbv))
  refine hsf _ _ ?_
  cbv
  repeat' (first
    | (refine And.intro (by first | assumption | decide) ?_; try cbv)
    | (refine ⟨0, n0, ?_⟩; try cbv)
    | (refine ⟨1, n1, ?_⟩; try cbv)
    | (intro β2; try cbv))
  exact hN _ ⟨_, _, ⟨rfl, rfl, trivial⟩, ⟨by rw [hz]; rfl, rfl, trivial⟩⟩
theorem vc_ropB1 (P : Prim) (hP : P = std) (T T1 : CallT) (a1 : List UInt8) (a2 : Int) (b1 : List UInt8) (b2 : Int) (LB : LogD) (wB : Bool) (rb : List (List V)) (hg : 0 ≤ LB.good ∧ LB.good ≤ (b1.length : Int)) (z : List UInt8) (zn : Int) (hz : z = P.ssub b1 0 LB.good)
    (hsf : Ans T1 39 [.str z] (.agg [.str z, .int .i64 zn])) (N R : S → Prop)
    (hN : ∀ s, RoB (ro_0 (.str []) (.int .i64 0) (.str z) (.int .i64 zn) (.int .i64 1) 0 0 (fun _ => 0) .nilsl) (rowL LB.gen LB.base LB.text LB.first LB.table (.sl false 3 rb) wB LB.good) s → N s)
    (s : S) (hs : RoA a1 a2 b1 b2 (Z31 1) (rowL LB.gen LB.base LB.text LB.first LB.table (.sl false 3 rb) wB LB.good) s) : awp P T T1 (uptoS 1 (fromS 9 ac_ropen) .skip) s N (fun _ _ => False) R := by
  obtain ⟨β1, b11, b12, hs1, hs2⟩ := hs
  refine awp_cut (Q := fun s => awp P T T1 (uptoS 1 (fromS 9 ac_ropen) .skip) s N (fun _ _ => False) R) _ _ hs1 hs2 (fun t h => ?_)
  have n0 : P.nat 0 = 0 := by subst hP; rfl
  have n1 : P.nat 1 = 1 := by subst hP; rfl
  have z0 : P.leP 0 0 := le0 hP (by decide)
  have z1 : P.leP 0 1 := le0 hP (by decide)
  have l0 : P.ltP 0 2 := ltI hP (by decide)
  have l1 : P.ltP 1 2 := ltI hP (by decide)
  have g1 : P.leP 0 LB.good := le0 hP hg.1
  have g2 : P.leP LB.good (P.slen b1) := leI hP (by rw [slen_eq hP]; exact hg.2)
  rw [hz] at hsf
  cbv
  repeat' (first
    | (refine And.intro (by first | assumption | decide) ?_; try cbv)
    | (refine ⟨0, n0, ?_⟩; try cbv)
    | (refine ⟨1, n1, ?_⟩; try cbv)
    | (intro β2; try cbv))
  refine hsf _ _ ?_
  cbv
  repeat' (first
    | (refine And.intro (by first | assumption | decide) ?_; try cbv)
    | (refine ⟨0, n0, ?_⟩; try cbv)
    | (refine ⟨1, n1, ?_⟩; try cbv)
    | (intro β2; try cbv))
  exact hN _ ⟨_, _, ⟨rfl, rfl, trivial⟩, ⟨by rw [hz]; rfl, rfl, trivial⟩⟩
theorem vc_ropD (P : Prim) (hP : P = std) (T T1 : CallT) (hhd : RHeadC T) (x1 x3 : List UInt8) (x2 x4 i : Int) (L : LogD) (w : Bool) (lr : List (List V)) (hl : lr.length ≤ 1000) (hb : 0 ≤ L.base ∧ L.base ≤ 4294967295) (tr : List (List V)) (f : Int) (ht : ∀ r ∈ tr, ∀ v ∈ r, Fz v) (hlz : ∀ r ∈ lr, ∀ v ∈ r, Fz v)
    (htx : Ans T 40 [.str L.text, .sl false 3 lr] (.tup [.sl false 1 tr, .int .i64 f]))
    (R : S → Prop) (hR : ∀ (s s' : S) (bl : Nat) (q : Int), q = L.base + (lr.length : Int) → Ent s s' → Ret [.t 2, .t 3] [.ptr 53 (some bl) 31 0 0, .int .i64 0] s' → agreeH [(53, obRf bl ⟨x1, x2, x3, x4, i, L.gen, L.base, L.first, q, false, 0, 0, false, false⟩ (.sl false 1 tr) (.sl false 3 lr))] s' → R s)
    (s : S) (hs : RoB (ro_0 (.str x1) (.int .i64 x2) (.str x3) (.int .i64 x4) (.int .i64 i) 0 0 (fun _ => 0) .nilsl) (rowL L.gen L.base L.text L.first L.table (.sl false 3 lr) w L.good) s) : awp P T T1 (fromS 10 ac_ropen) s R (fun _ _ => False) R := by
  obtain ⟨b11, b12, hs1, hs2⟩ := hs
  refine awp_cut (Q := fun s => awp P T T1 (fromS 10 ac_ropen) s R (fun _ _ => False) R) _ _ hs1 hs2 (fun t h => ?_)
  show anyA P T roOps 24 [] _ (fun s => awp P T T1 (fromS 11 ac_ropen) s R (fun _ _ => False) R)
  refine ro_all (v0 := .str x1) (v1 := .int .i64 x2) (v2 := .str x3) (v3 := .int .i64 x4) (v4 := .int .i64 i) (gn := L.gen) (bs := L.base) (fs := L.first) (rv := .sl false 3 lr) ⟨_, _, _, rfl⟩ rfl rfl rfl rfl ?_
  cbv
  repeat' (first
    | (refine And.intro (by first | assumption | decide) ?_; try cbv)
    | (intro β2; try cbv))
  refine htx _ _ ?_
  cbv
  repeat' (first
    | (refine And.intro (by first | assumption | decide) ?_; try cbv)
    | (intro β2; try cbv))
  refine hhd 53 b11 ⟨x1, x2, x3, x4, i, L.gen, L.base, L.first, 0, false, 0, 0, false, false⟩ tr lr _ _ ht hlz hb hl rfl fun q hq => ?_
  cbv
  repeat' (first
    | (refine And.intro (by first | assumption | decide) ?_; try cbv)
    | (intro β2; try cbv))
  exact hR _ _ b11 q hq (Ent.refl _) rfl ⟨rfl, trivial⟩
end Go.Proofs.Ytobngncjflogcaa.AM
