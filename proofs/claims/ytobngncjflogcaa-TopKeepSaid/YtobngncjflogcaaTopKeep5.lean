/-
  Texts of the plain machine, put together: what the law TopKeep reaches.
-/
import Derived.Test.YtobngncjflogcaaTopKeep4
import Derived.Shelf.Strings.Builder1
import Derived.Test.YtobngncjflogcaaProg
import Derived.WalkKit
import Derived.WalkSpells
import Derived.WalkLawsBesides
import Derived.Lib.AppendStr
import Derived.BigQuiet
import Derived.Lib.Hide
set_option linter.unusedVariables false
set_option linter.unusedSimpArgs false
namespace Go.Proofs.Ytobngncjflogcaa.AM
open Go
open Go.BigFrame

theorem HEnt.refl (h : Hp) : HEnt h h := fun _ F _ _ hs => ⟨F, fun _ h => h, hs⟩
theorem HEnt.trans {a b c : Hp} (h : HEnt a b) (h' : HEnt b c) : HEnt a c := fun C F w hC hs => by
  obtain ⟨F1, h1, hs1⟩ := h C F w hC hs
  obtain ⟨F2, h2, hs2⟩ := h' C F1 w hC hs1
  exact ⟨F2, fun b hb => h2 b (h1 b hb), hs2⟩

/-- a cell that is a slice of nothing may be said to be an object of the call's own -/
theorem HEnt.nilcell {h : Hp} {k k' ty sz r c : Nat} {o : Ob} {row : List V} (hk : h k = some o) (hr : o.rows[r]? = some row) (hc : row[c]? = some .nilsl) (hk' : h k' = none) :
    HEnt h (Hp.put (Hp.put h k ⟨o.b, o.ty, o.sz, o.rows.set r (row.set c (.own k' none sz 0))⟩) k' ⟨none, ty, sz, []⟩) := by
  intro C F w hC hs
  refine ⟨F, fun _ h => h, ?_⟩
  have hne : k ≠ k' := fun e => by rw [e, hk'] at hk; cases hk
  have look : ∀ j q, (Hp.put (Hp.put h k ⟨o.b, o.ty, o.sz, o.rows.set r (row.set c (.own k' none sz 0))⟩) k' ⟨none, ty, sz, []⟩) j = some q →
      (j = k' ∧ q = ⟨none, ty, sz, []⟩) ∨ (j ≠ k' ∧ j = k ∧ q = ⟨o.b, o.ty, o.sz, o.rows.set r (row.set c (.own k' none sz 0))⟩) ∨ (j ≠ k' ∧ j ≠ k ∧ h j = some q) := by
    intro j q hj
    simp only [Hp.put] at hj
    by_cases h1 : j = k'
    · rw [if_pos h1] at hj; cases hj; exact .inl ⟨h1, rfl⟩
    · rw [if_neg h1] at hj
      by_cases h2 : j = k
      · rw [if_pos h2] at hj; cases hj; exact .inr (.inl ⟨h1, h2, rfl⟩)
      · rw [if_neg h2] at hj; exact .inr (.inr ⟨h1, h2, hj⟩)
  have blk : ∀ j q b, (Hp.put (Hp.put h k ⟨o.b, o.ty, o.sz, o.rows.set r (row.set c (.own k' none sz 0))⟩) k' ⟨none, ty, sz, []⟩) j = some q → q.b = some b → ∃ q', h j = some q' ∧ q'.b = some b := by
    intro j q b hj hb
    rcases look j q hj with ⟨_, rfl⟩ | ⟨_, rfl, rfl⟩ | ⟨_, _, hq⟩
    · cases hb
    · exact ⟨o, hk, hb⟩
    · exact ⟨q, hq, hb⟩
  refine ⟨fun j q hj => ?_, fun j j' q q' b hj hj' hb hb' => ?_, fun j q b hj hb => ?_, hs.old, hs.new, hs.lt, hs.ev⟩
  · rcases look j q hj with ⟨_, rfl⟩ | ⟨_, rfl, rfl⟩ | ⟨_, _, hq⟩
    · exact (show ObSat F C.B w ⟨none, ty, sz, []⟩ from rfl)
    · have ho := hs.ob j o hk
      unfold ObSat at ho ⊢
      simp only
      cases hb : o.b with
      | none =>
        rw [hb] at ho
        simp only at ho ⊢
        rw [ho] at hr
        simp at hr
      | some b =>
        rw [hb] at ho
        obtain ⟨cs, cap, h1, h2, h3, h4, h5, h6⟩ := ho
        have hrl := (List.getElem?_eq_some_iff.1 hr).1
        refine ⟨cs, cap, h1, h2, h3, by simpa using h4, fun r' hr' => ?_, fun i l r' v hi hl => ?_⟩
        · rcases List.mem_or_eq_of_mem_set hr' with h | h
          · exact h5 r' h
          · rw [h, List.length_set]; exact h5 row (List.mem_of_getElem? hr)
        · rw [List.getElem?_set] at hi
          by_cases hir : r = i
          · subst hir
            rw [if_pos rfl, if_pos hrl] at hi
            cases hi
            rw [List.getElem?_set] at hl
            by_cases hlc : c = l
            · subst hlc
              rw [if_pos rfl] at hl
              obtain ⟨u, hu, h1u, hru⟩ := h6 r c row .nilsl hr hc
              split at hl
              · cases hl
                refine ⟨u, hu, h1u, ?_⟩
                cases hru
                exact .ownnil _ _
              · cases hl
            · rw [if_neg hlc] at hl
              exact h6 r l row v hr hl
          · rw [if_neg hir] at hi
            exact h6 i l r' v hi hl
    · exact hs.ob j q hq
  · obtain ⟨p, hp, hpb⟩ := blk j q b hj hb
    obtain ⟨p', hp', hpb'⟩ := blk j' q' b hj' hb'
    exact hs.inj j j' p p' b hp hp' hpb hpb'
  · obtain ⟨p, hp, hpb⟩ := blk j q b hj hb
    exact hs.live j p b hp hpb

/-- plain values: no object of the call's own in them -/
def V.pl : V → Bool
  | .own .. => false
  | .win .. => false
  | .ptr .. => false
  | .agg _ => false
  | .tup _ => false
  | _ => true
theorem V.pl_ren {v : V} (h : v.pl = true) (f : Nat → Nat) : v.ren f = v := by cases v <;> first | rfl | cases h
theorem args_plain {h : Hp} {m : List (Nat × Nat)} : ∀ {l : List V}, l.all V.pl = true → Args h m l l
  | [], _ => .nil
  | v :: l, hl => by
    simp only [List.all_cons, Bool.and_eq_true] at hl
    refine .cons ?_ (args_plain hl.2)
    have := Arg.same (h := h) (m := m) v
    rwa [V.pl_ren hl.1] at this

/-- a call that is handed one object -/
theorem call1 {P : Program} {f k sz : Nat} {b : Option Nat} {rest : List V} {o : Ob} {post : V → List (Nat × Ob) → Prop} (hs : Spec P f (.ptr 0 b sz 0 0 :: rest) (lookH [(0, o)]) fun v' h' => ∃ L', post v' L' ∧ h' = lookH L') (hpost : ∀ v L', post v L' → ∃ o', L' = [(0, o')])
    (hrest : rest.all V.pl = true) (ho : ∀ g, o.ren g = o) (hz : o.Fz) {h : Hp} {K : V → Hp → Prop} (hk : h k = some o) (hK : ∀ v o', post v [(0, o')] → K (v.ren (lab [(0, k)])) (h.put k (o'.ren (lab [(0, k)])))) : CallE P f (.ptr k b sz 0 0 :: rest) h K := by
  refine ⟨h, HEnt.refl h, [(0, k)], _, _, _, hs, .cons ?_ (args_plain hrest), fun j q hj => ?_, fun p hp => ?_, ?_⟩
  · have := Arg.same (h := h) (m := [(0, k)]) (.ptr k b sz 0 0)
    simpa [V.ren, V.rl, bal] using this
  · simp only [lookH] at hj
    split at hj
    · rename_i h0; exact ⟨(0, k), by simp, h0.symm⟩
    · cases hj
  · simp only [List.mem_singleton] at hp
    subst hp
    refine ⟨by simp [lab], by simp [bal], fun q hq => ?_⟩
    simp only [lookH, ↓reduceIte, Option.some.injEq] at hq
    subst hq
    exact ⟨by rw [hk, Option.map_some, ho], hz⟩
  · rintro v' h' ⟨L', hp, rfl⟩
    obtain ⟨o', rfl⟩ := hpost _ _ hp
    have e : h.upd [(0, k)] (lookH [(0, o')]) = h.put k (o'.ren (lab [(0, k)])) := by
      funext i
      unfold Hp.upd Hp.put
      simp only [List.any_cons, List.any_nil, Bool.or_false, decide_eq_true_eq]
      by_cases hi : k = i
      · rw [if_pos hi, if_pos hi.symm, ← hi]
        simp [bal, lookH]
      · rw [if_neg hi, if_neg (fun e => hi e.symm)]
    rw [e]
    exact hK v' o' hp

theorem resV_mono {s : S} : ∀ (rv : List RV) (K K' : List V → Prop), (∀ x, K x → K' x) → resV s rv K → resV s rv K' := by
  intro rv
  induction rv with
  | nil => intro K K' hK h; exact hK _ h
  | cons r rv ih =>
    intro K K' hK h
    cases r with
    | t i => exact ih _ _ (fun x hx => hK _ hx) h
    | c1 i =>
      simp only [resV] at h ⊢
      unfold load1V at h ⊢
      split at h
      · unfold rowC at h ⊢
        split at h
        · obtain ⟨a1, a2, a3, a4, a5⟩ := h
          exact ⟨a1, a2, a3, a4, ih _ _ (fun x hx => hK _ hx) a5⟩
        · exact h.elim
      · exact ⟨h.1, ih _ _ (fun x hx => hK _ hx) h.2⟩
      · exact h.elim
    | cn i n =>
      simp only [resV] at h ⊢
      unfold loadnV at h ⊢
      split at h
      · unfold rowC at h ⊢
        split at h
        · obtain ⟨a1, a2, a3, a4, a5⟩ := h
          exact ⟨a1, a2, a3, a4, ih _ _ (fun x hx => hK _ hx) a5⟩
        · exact h.elim
      · exact ⟨h.1, ih _ _ (fun x hx => hK _ hx) h.2⟩
      · exact h.elim

/-- a method that is handed some objects, numbered from 0 -/
theorem spec_meth {P : Program} {f : Nat} {fn : Func} {ac : AC} {rv : List RV} {args : List V} {L : List (Nat × Ob)} {D : Array Oper → List AO → Bool} (hD : DrawOk P D) (ok : FnOk P f fn ac rv args.length D) (post : V → List (Nat × Ob) → Prop)
    (h : ∀ R : S → Prop, (∀ (s s' : S) (v : V) (L' : List (Nat × Ob)), Ent s s' → resV s' rv (fun x => oneV x = v) → agreeH L' s' → Fz v → (∀ p ∈ L', p.2.Fz) → post v L' → R s) → awp std (CallE P) (CallP P) ac (S0 args (lookH L)) R (fun _ _ => False) R) :
    Spec P f args (lookH L) (fun v h' => ∃ L', post v L' ∧ h' = lookH L') := by
  obtain ⟨c, hc, hac⟩ := Option.bind_eq_some_iff.1 ok.body
  refine spec_of hD ok.func ok.name hc hac ok.res ok.args (h _ fun s s' v L' he hr ha hz hzL hp => ⟨s', he, ?_⟩)
  refine resV_mono rv _ _ (fun x hx => ?_) hr
  subst hx
  refine ⟨hz, lookH L', fun k o hk => ?_, L', hp, rfl⟩
  refine ⟨lookH_agree ha k o hk, ?_⟩
  have : ∀ (l : List (Nat × Ob)), (∀ p ∈ l, p.2.Fz) → ∀ k o, lookH l k = some o → o.Fz := by
    intro l
    induction l with
    | nil => intro _ k o hk; cases hk
    | cons p l ih =>
      intro hl k o hk
      simp only [lookH] at hk
      split at hk
      · cases hk; exact hl p (by simp)
      · exact ih (fun q hq => hl q (by simp [hq])) k o hk
  exact this L' hzL k o hk
end Go.Proofs.Ytobngncjflogcaa.AM

set_option linter.unusedVariables false
set_option linter.unusedSimpArgs false
namespace Go.Proofs.Ytobngncjflogcaa.AM
open Go
set_option maxRecDepth 100000
set_option maxHeartbeats 2000000

theorem encPart_fz (p : Part) : ∀ v ∈ encPart p, Fz v := by
  intro v hv
  simp only [encPart, List.mem_cons, List.not_mem_nil, or_false] at hv
  rcases hv with rfl | rfl | rfl
  · exact .int _ _
  · exact .int _ _
  · exact .str _
theorem encParts_fz (d : List Part) : ∀ r ∈ d.map encPart, ∀ v ∈ r, Fz v := by
  intro r hr
  obtain ⟨p, _, rfl⟩ := List.mem_map.1 hr
  exact encPart_fz p


theorem mem_of_lookH : ∀ {L : List (Nat × Ob)} {k : Nat} {o : Ob}, lookH L k = some o → (k, o) ∈ L
  | [], _, _, h => by cases h
  | (j, q) :: L, k, o, h => by
    simp only [lookH] at h
    split at h
    · rename_i hk; cases h; rw [hk]; exact List.mem_cons_self
    · exact List.mem_cons_of_mem _ (mem_of_lookH h)
theorem callG {P : Program} {f : Nat} {args args' : List V} {L : List (Nat × Ob)} {m : List (Nat × Nat)} {post : V → List (Nat × Ob) → Prop} (hs : Spec P f args' (lookH L) fun v' h' => ∃ L', post v' L' ∧ h' = lookH L') {h : Hp} {K : V → Hp → Prop} (ha : Args h m args args')
    (hdom : ∀ k o, lookH L k = some o → ∃ q ∈ m, q.1 = k) (hm : ∀ q ∈ m, lab m q.1 = q.2 ∧ bal m q.2 = q.1 ∧ ∀ o, lookH L q.1 = some o → (h q.2).map (Ob.ren (bal m)) = some o ∧ o.Fz)
    (hK : ∀ v L', post v L' → K (v.ren (lab m)) (h.upd m (lookH L'))) : CallE P f args h K :=
  ⟨h, HEnt.refl h, m, args', lookH L, _, hs, ha, hdom, hm, by rintro v h' ⟨L', hp, rfl⟩; exact hK v L' hp⟩







end Go.Proofs.Ytobngncjflogcaa.AM

set_option linter.unusedVariables false
set_option linter.unusedSimpArgs false
namespace Go.Proofs.Ytobngncjflogcaa.AM
open Go

def doT : List Tok → List UInt8 → List UInt8
  | [], _ => []
  | .put b :: ts, s => b :: doT ts s
  | .keep :: ts, s => s.take 1 ++ doT ts (s.drop 1)
  | .cut :: ts, s => doT ts (s.drop 1)
def inT (ts : List Tok) : Nat := (kepts ts).length
def outT : List Tok → Nat
  | [] => 0
  | .cut :: ts => outT ts
  | .keep :: ts => outT ts + 1
  | .put _ :: ts => outT ts + 1
theorem outT_app (a b : List Tok) : outT (a ++ b) = outT a + outT b := by
  induction a with
  | nil => simp [outT]
  | cons t a ih => cases t <;> simp [outT, ih] <;> omega
theorem inT_app (a b : List Tok) : inT (a ++ b) = inT a + inT b := by simp [inT, kepts_app]
theorem doT_len (ts : List Tok) (s : List UInt8) (h : s.length = inT ts) : (doT ts s).length = outT ts := by
  induction ts generalizing s with
  | nil => rfl
  | cons t ts ih =>
    cases t
    · simp only [inT, kepts, List.length_cons] at h
      simp only [doT, outT, List.length_append, List.length_take]
      rw [ih _ (by simp [inT]; omega)]
      omega
    · simp only [doT, outT, List.length_cons]
      rw [ih _ h]
    · simp only [inT, kepts, List.length_cons] at h
      simp only [doT, outT]
      exact ih _ (by simp [inT]; omega)




end Go.Proofs.Ytobngncjflogcaa.AM

set_option linter.unusedVariables false
set_option linter.unusedSimpArgs false
namespace Go.Proofs.Ytobngncjflogcaa.AM
open Go

def partOk (p : Part) : Prop := (p.kind = 2 ∧ p.n = 0 ∧ p.text ≠ []) ∨ ((p.kind = 1 ∨ p.kind = 3) ∧ 0 < p.n ∧ p.text = [])
def formOk : Int → List Part → Prop
  | _, [] => True
  | last, p :: l => partOk p ∧ p.kind ≠ last ∧ ¬ (last = 3 ∧ p.kind = 2) ∧ formOk p.kind l
def lastK : Int → List Part → Int
  | k, [] => k
  | _, p :: l => lastK p.kind l
theorem formOk_app (k : Int) (a b : List Part) : formOk k (a ++ b) ↔ formOk k a ∧ formOk (lastK k a) b := by
  induction a generalizing k with
  | nil => simp [formOk, lastK]
  | cons p a ih =>
    simp only [List.cons_append, formOk, lastK, ih]
    constructor
    · rintro ⟨a, b, c, d, e⟩; exact ⟨⟨a, b, c, d⟩, e⟩
    · rintro ⟨⟨a, b, c, d⟩, e⟩; exact ⟨a, b, c, d, e⟩
theorem lastK_app (k : Int) (a b : List Part) : lastK k (a ++ b) = lastK (lastK k a) b := by
  induction a generalizing k with
  | nil => rfl
  | cons p a ih => simp [lastK, ih]
structure Mk.Ok (m : Mk) : Prop where
  form : formOk 0 m.out
  last : lastK 0 m.out = 1 ∨ lastK 0 m.out = 0
  cut : 0 ≤ m.cut
theorem Mk.Ok.flush {m : Mk} (h : m.Ok) : formOk 0 m.flush := by
  obtain ⟨h1, h2, h3⟩ := h
  unfold Mk.flush
  by_cases hp : m.put = []
  · rw [if_pos hp, List.append_nil, formOk_app]
    refine ⟨h1, ?_⟩
    by_cases hc : 0 < m.cut
    · rw [if_pos hc]
      exact ⟨.inr ⟨.inr rfl, hc, rfl⟩, by show (3 : Int) ≠ _; omega, by show ¬ (_ ∧ (3 : Int) = 2); omega, trivial⟩
    · rw [if_neg hc]; trivial
  · rw [if_neg hp, formOk_app, formOk_app, lastK_app]
    refine ⟨⟨h1, .inl ⟨rfl, rfl, hp⟩, by show (2 : Int) ≠ _; omega, by show ¬ (_ ∧ (2 : Int) = 2); omega, trivial⟩, ?_⟩
    by_cases hc : 0 < m.cut
    · rw [if_pos hc]
      exact ⟨.inr ⟨.inr rfl, hc, rfl⟩, by show (3 : Int) ≠ 2; omega, by show ¬ (_ ∧ (3 : Int) = 2); omega, trivial⟩
    · rw [if_neg hc]; trivial
theorem addKeep_ok {o : List Part} {n : Int} (h : formOk 0 o) (hn : 0 < n) : formOk 0 (addKeep o n) ∧ lastK 0 (addKeep o n) = 1 := by
  unfold addKeep
  cases hl : o.getLast? with
  | none =>
    have : o = [] := by simpa using hl
    subst this
    exact ⟨⟨.inr ⟨.inl rfl, hn, rfl⟩, by show (1 : Int) ≠ 0; omega, by show ¬ (_ ∧ (1 : Int) = 2); omega, trivial⟩, rfl⟩
  | some p =>
    obtain ⟨a, rfl⟩ : ∃ a, o = a ++ [p] := by
      have hne : o ≠ [] := by intro h0; subst h0; simp at hl
      refine ⟨o.dropLast, ?_⟩
      have := List.dropLast_concat_getLast hne
      rw [List.getLast?_eq_some_getLast hne] at hl
      cases hl
      exact this.symm
    rw [formOk_app] at h
    obtain ⟨h1, h2, h3, h4, _⟩ := h
    by_cases hk : p.kind = 1
    · simp only [hk, ↓reduceIte, List.dropLast_concat]
      rw [formOk_app, lastK_app]
      refine ⟨⟨h1, ?_, ?_, by show ¬ (_ ∧ (1 : Int) = 2); omega, trivial⟩, rfl⟩
      · rcases h2 with ⟨h, _⟩ | ⟨_, h5, h6⟩
        · omega
        · exact .inr ⟨.inl rfl, by show 0 < p.n + n; omega, h6⟩
      · rw [hk] at h3; exact h3
    · simp only [hk, ↓reduceIte]
      rw [formOk_app, lastK_app, lastK_app]
      refine ⟨⟨(formOk_app _ _ _).2 ⟨h1, h2, h3, h4, trivial⟩, .inr ⟨.inl rfl, hn, rfl⟩, ?_, by show ¬ (_ ∧ (1 : Int) = 2); omega, trivial⟩, rfl⟩
      show (1 : Int) ≠ p.kind
      omega
theorem Mk.Ok.tok {m : Mk} (h : m.Ok) (t : Tok) : (m.tok t).Ok := by
  cases t
  · have := addKeep_ok h.flush (n := 1) (by omega)
    simp only [Mk.tok, Mk.doKeep]
    rw [if_neg (by omega)]
    exact ⟨this.1, .inl this.2, Int.le_refl _⟩
  · exact ⟨h.form, h.last, h.cut⟩
  · exact ⟨h.form, h.last, by show 0 ≤ m.cut + 1; have := h.cut; omega⟩
theorem Mk.Ok.run {m : Mk} (h : m.Ok) (ts : List Tok) : (m.run ts).Ok := by
  induction ts generalizing m with
  | nil => exact h
  | cons t ts ih => exact ih (h.tok t)
end Go.Proofs.Ytobngncjflogcaa.AM

set_option linter.unusedVariables false
set_option linter.unusedSimpArgs false
namespace Go.Proofs.Ytobngncjflogcaa.AM
open Go
set_option maxRecDepth 100000
set_option maxHeartbeats 2000000
def strRows (l : List (List UInt8)) : List (List V) := l.map fun s => [.str s]
def boolRows (l : List Bool) : List (List V) := l.map fun b => [.bool b]

theorem kepts_app_n (ts : List Tok) (x : Tok) (hx : x = .keep ∨ x = .cut) (n : Nat) : kepts (ts ++ List.replicate n x) = kepts ts ++ List.replicate n (decide (x = .keep)) := by
  rw [kepts_app]
  congr 1
  induction n with
  | zero => rfl
  | succ n ih => rcases hx with rfl | rfl <;> simp [List.replicate_succ, kepts, ih]

/-- a loop begins: a cell that is nil is an object of the call's own -/
theorem Ent.nilcell {s : S} {k k' ty sz r c : Nat} {o : Ob} {row : List V} (hk : s.h k = some o) (hr : o.rows[r]? = some row) (hc : row[c]? = some .nilsl) (hk' : s.h k' = none) :
    Ent s ⟨s.t, Hp.put (Hp.put s.h k ⟨o.b, o.ty, o.sz, o.rows.set r (row.set c (.own k' none sz 0))⟩) k' ⟨none, ty, sz, []⟩⟩ := by
  intro C n a w hC hs
  obtain ⟨F, h1, h2⟩ := hs.ex
  obtain ⟨F', hF, h1'⟩ := HEnt.nilcell hk hr hc hk' C F w hC h1
  exact ⟨⟨F', h1', fun i => (h2 i).mono hF (fun _ h => .inr h)⟩, hs.df, hs.sz⟩
theorem strRows_fz (l : List (List UInt8)) : ∀ r ∈ strRows l, ∀ v ∈ r, Fz v := by
  intro r hr v hv
  obtain ⟨s, _, rfl⟩ := List.mem_map.1 hr
  simp only [List.mem_singleton] at hv
  subst hv; exact .str _
theorem strRows_sz (l : List (List UInt8)) : ∀ r ∈ strRows l, r.length = 1 := by
  intro r hr; obtain ⟨s, _, rfl⟩ := List.mem_map.1 hr; rfl
/-- places as a value -/
def encPl (ps : List (List UInt8)) (ks : List Bool) : V := .agg [.sl false 1 (strRows ps), .sl false 1 (boolRows ks)]
end Go.Proofs.Ytobngncjflogcaa.AM

set_option linter.unusedVariables false
set_option linter.unusedSimpArgs false
namespace Go.Proofs.Ytobngncjflogcaa.AM
open Go
set_option maxRecDepth 100000
set_option maxHeartbeats 2000000
structure Mk.Bd (m : Mk) (j w : Nat) : Prop where
  len : m.out.length ≤ 3 * j
  cut : 0 ≤ m.cut ∧ m.cut ≤ j
  ns : ∀ p ∈ m.out, 0 ≤ p.n ∧ p.n ≤ j
  put : m.put.length ≤ w
theorem Mk.Bd.doPut {m : Mk} {j w : Nat} (h : m.Bd j w) (s : List UInt8) : (m.doPut s).Bd j (w + s.length) := ⟨h.len, h.cut, h.ns, by have := h.put; simp [Mk.doPut]; omega⟩
theorem Mk.Bd.doCut {m : Mk} {j w : Nat} (h : m.Bd j w) (n : Int) (hn : 0 ≤ n) : (m.doCut n).Bd (j + n.toNat) w :=
  ⟨by have := h.len; simp only [Mk.doCut]; omega, by have := h.cut; simp only [Mk.doCut]; omega, fun p hp => by have := h.ns p hp; omega, h.put⟩
theorem Mk.Bd.flush {m : Mk} {j w : Nat} (h : m.Bd j w) : m.flush.length ≤ 3 * j + 2 ∧ ∀ p ∈ m.flush, 0 ≤ p.n ∧ p.n ≤ j := by
  have h1 := h.len
  have h2 := h.cut
  refine ⟨?_, fun p hp => ?_⟩
  · unfold Mk.flush
    split <;> split <;> simp <;> omega
  · unfold Mk.flush at hp
    rw [List.mem_append, List.mem_append] at hp
    rcases hp with (hp | hp) | hp
    · exact h.ns p hp
    · split at hp
      · cases hp
      · simp at hp; subst hp; simp
    · split at hp
      · simp at hp; subst hp; exact h2
      · cases hp
theorem Mk.Bd.doKeep {m : Mk} {j w : Nat} (h : m.Bd j w) (n : Int) (hn : 0 ≤ n) : (m.doKeep n).Bd (j + n.toNat) w := by
  unfold Mk.doKeep
  by_cases h0 : n = 0
  · subst h0; simpa using h
  rw [if_neg h0]
  obtain ⟨h1, h2⟩ := h.flush
  refine ⟨?_, by simp; omega, fun p hp => ?_, by simp⟩
  · simp only [addKeep]
    split
    · split
      · simp; omega
      · simp; omega
    · simp; omega
  · simp only [addKeep] at hp
    split at hp
    · rename_i q hq
      split at hp
      · rcases List.mem_append.1 hp with hp | hp
        · have := h2 p ((List.dropLast_sublist _).mem hp); omega
        · simp at hp; subst hp
          have := h2 q (List.mem_of_getLast? hq)
          simp only; omega
      · rcases List.mem_append.1 hp with hp | hp
        · have := h2 p hp; omega
        · simp at hp; subst hp; simp only; omega
    · simp at hp; subst hp; simp only; omega
theorem Mk.Bd.mono {m : Mk} {j w j' w' : Nat} (h : m.Bd j w) (hj : j ≤ j') (hw : w ≤ w') : m.Bd j' w' :=
  ⟨by have := h.len; omega, by have := h.cut; omega, fun p hp => by have := h.ns p hp; omega, by have := h.put; omega⟩

end Go.Proofs.Ytobngncjflogcaa.AM

set_option linter.unusedVariables false
set_option linter.unusedSimpArgs false
namespace Go.Proofs.Ytobngncjflogcaa.AM
open Go
set_option maxRecDepth 100000
set_option maxHeartbeats 2000000

theorem ansL {f : Nat} {d : List Part} {v : V} (h : Spec Try.prog f [.sl true 3 (d.map encPart)] Hp.emp (Is v)) (hv : v.ren (lab []) = v) : Ans (CallE Try.prog) f [encParts d] v := ansW h (fun _ => .cons (.weak _ _) .nil) hv
end Go.Proofs.Ytobngncjflogcaa.AM

set_option linter.unusedVariables false
set_option linter.unusedSimpArgs false
namespace Go.Proofs.Ytobngncjflogcaa.AM
open Go
set_option maxRecDepth 100000
set_option maxHeartbeats 2000000

def RetSl (rv : List RV) (sz : Nat) (rows' : List (List V)) (tl : List V) (R : S → Prop) : Prop :=
  (∀ (s s' : S), Ent s s' → Ret rv (.nilsl :: tl) s' → rows' = [] → R s) ∧
  (∀ (s s' : S) (k : Nat) (b : Option Nat) (ty n : Nat) (rows : List (List V)), Ent s s' → Ret rv (.own k b sz n :: tl) s' → s'.h k = some ⟨b, ty, sz, rows⟩ → n = rows'.length ∧ rows = rows' → R s) ∧
  (∀ (s s' : S) (rows : List (List V)), Ent s s' → Ret rv (.sl false sz rows :: tl) s' → rows = rows' → R s)
theorem fr_tup {h : Hp} : ∀ {l : List V}, (∀ v ∈ l, Fz v) → Fr h (.tup l) (.tup l) := fun hz => .same _ (.tup _ hz)
theorem fr_one {h : Hp} {v v' : V} {tl : List V} (h1 : Fr h v v') (hz : ∀ v ∈ tl, Fz v) : Fr h (oneV (v :: tl)) (oneV (v' :: tl)) := by
  cases tl with
  | nil => exact h1
  | cons a tl => exact .tup_cons h1 (fr_tup hz)
theorem retSl_of {rv : List RV} {sz : Nat} {rows' : List (List V)} {tl : List V} {R : S → Prop} (hsz : ∀ r ∈ rows', r.length = sz) (hz : ∀ r ∈ rows', ∀ v ∈ r, Fz v) (htl : ∀ v ∈ tl, Fz v) (hR : ∀ s s', Ent s s' → RetF rv (oneV (.sl false sz rows' :: tl)) s' → R s) : RetSl rv sz rows' tl R := by
  refine ⟨?_, ?_, ?_⟩
  · rintro s s' he hr rfl
    exact hR s s' he (resV_mono _ _ _ (fun x hx => by subst hx; exact fr_one (.nilsl sz) htl) hr)
  · rintro s s' k b ty n rows he hr h1 ⟨rfl, rfl⟩
    exact hR s s' he (resV_mono _ _ _ (fun x hx => by subst hx; exact fr_one (.rows h1 rfl rfl rfl hsz hz) htl) hr)
  · rintro s s' rows he hr rfl
    exact hR s s' he (resV_mono _ _ _ (fun x hx => by subst hx; exact fr_one (.same _ (.sl _ _ hz)) htl) hr)
theorem parts_sz (d : List Part) : ∀ r ∈ d.map encPart, r.length = 3 := by
  intro r hr; obtain ⟨p, _, rfl⟩ := List.mem_map.1 hr; rfl
theorem int_fz (e : Int) : ∀ v ∈ [V.int .i64 e], Fz v := by intro v hv; simp at hv; subst hv; exact .int _ _

instance : DecidableEq Part := fun a b => by
  cases a with
  | mk k n t => cases b with
    | mk k' n' t' => exact decidable_of_iff (k = k' ∧ n = n' ∧ t = t') (by simp)


end Go.Proofs.Ytobngncjflogcaa.AM

set_option linter.unusedVariables false
set_option linter.unusedSimpArgs false
namespace Go.Proofs.Ytobngncjflogcaa.AM
open Go
set_option maxRecDepth 100000
set_option maxHeartbeats 2000000
theorem rowsOf_own {h : Hp} {k sz n ty : Nat} {b : Option Nat} {rs : List (List V)} (hn : n = rs.length) (hk : h k = some ⟨b, ty, sz, rs⟩) : rowsOf h sz (.own k b sz n) = some rs := by
  simp only [rowsOf, hk]
  rw [if_pos ⟨trivial, trivial, trivial, by omega⟩, hn, List.take_length]
/-- a row of the call's own is handed to a function that reads it -/
theorem ownCall {f sz ty : Nat} {rows : List (List V)} {v : V} (hs : Spec Try.prog f [.sl true sz rows] Hp.emp (Is v)) (hv : v.ren (lab []) = v) (h : Hp) (K : V → Hp → Prop) (k : Nat) (b : Option Nat) (n : Nat) (rs : List (List V)) (hrs : rs = rows) (hn : n = rs.length) (hk : h k = some ⟨b, ty, sz, rs⟩) (hK : K v h) : CallE Try.prog f [.own k b sz n] h K :=
  ⟨h, HEnt.refl h, call_pure hs (.cons (.own k b sz n rows (by rw [rowsOf_own hn hk, hrs]) (by simp)) .nil) (by rw [hv]; exact hK)⟩
theorem pl_ren (ps : List (List UInt8)) (ks : List Bool) : (encPl ps ks).ren (lab []) = encPl ps ks := rfl
end Go.Proofs.Ytobngncjflogcaa.AM

set_option linter.unusedVariables false
set_option linter.unusedSimpArgs false
namespace Go.Proofs.Ytobngncjflogcaa.AM
open Go
theorem br_tt {t : Bool} {A B : Prop} (ht : t = true) (h : A) : br.match_1 (fun _ => Prop) t (fun _ => A) (fun _ => B) := by subst ht; exact h
theorem br_ff {t : Bool} {A B : Prop} (ht : t = false) (h : B) : br.match_1 (fun _ => Prop) t (fun _ => A) (fun _ => B) := by subst ht; exact h
section
variable {P : Prim} (hP : P = std)
include hP
theorem lt_t {a b : Int} (h : P.lt a b = true) : a < b := by subst hP; exact of_decide_eq_true h
theorem lt_f {a b : Int} (h : P.lt a b = false) : ¬ a < b := by subst hP; exact of_decide_eq_false h
theorem le_t {a b : Int} (h : P.le a b = true) : a ≤ b := by subst hP; exact of_decide_eq_true h
theorem le_f {a b : Int} (h : P.le a b = false) : ¬ a ≤ b := by subst hP; exact of_decide_eq_false h
theorem eq_t {a b : Int} (h : P.eq a b = true) : a = b := by subst hP; exact of_decide_eq_true h
theorem eq_f {a b : Int} (h : P.eq a b = false) : ¬ a = b := by subst hP; exact of_decide_eq_false h
theorem ne_t {a b : Int} (h : P.ne a b = true) : ¬ a = b := by subst hP; exact of_decide_eq_true h
theorem ne_f {a b : Int} (h : P.ne a b = false) : a = b := by subst hP; exact Decidable.of_not_not (of_decide_eq_false h)
theorem sne_t {a b : List UInt8} (h : P.sne a b = true) : ¬ a = b := by subst hP; exact of_decide_eq_true h
theorem sne_f {a b : List UInt8} (h : P.sne a b = false) : a = b := by subst hP; exact Decidable.of_not_not (of_decide_eq_false h)
theorem lt_F {a b : Int} (h : ¬ a < b) : P.lt a b = false := by subst hP; exact decide_eq_false h
theorem eq_T {a b : Int} (h : a = b) : P.eq a b = true := by subst hP; exact decide_eq_true h
theorem eq_F {a b : Int} (h : ¬ a = b) : P.eq a b = false := by subst hP; exact decide_eq_false h
theorem ne_F {a b : Int} (h : a = b) : P.ne a b = false := by subst hP; exact decide_eq_false (fun hh => hh h)
theorem seq_T {a b : List UInt8} (h : a = b) : P.seq a b = true := by subst hP; exact decide_eq_true h
theorem sne_F {a b : List UInt8} (h : a = b) : P.sne a b = false := by subst hP; exact decide_eq_false (fun hh => hh h)
theorem rlen_eq (rows : List (List V)) : P.rlen rows = (rows.length : Int) := by subst hP; rfl
theorem slen_eq (s : List UInt8) : P.slen s = (s.length : Int) := by subst hP; rfl
theorem add_eq (a b : Int) : P.add a b = a + b := by subst hP; rfl
theorem sub_eq (a b : Int) : P.sub a b = a - b := by subst hP; rfl
theorem int_eq (n : Nat) : P.int n = (n : Int) := by subst hP; rfl
theorem le0 {k : Int} (h : 0 ≤ k) : P.leP 0 k := by subst hP; exact h
theorem leI {a b : Int} (h : a ≤ b) : P.leP a b := by subst hP; exact h
theorem ltI {a b : Int} (h : a < b) : P.ltP a b := by subst hP; exact h
theorem i64I {a : Int} (h : -9223372036854775808 ≤ a ∧ a ≤ 9223372036854775807) : P.i64 a := by subst hP; exact h
theorem row_of {rows : List (List V)} {i : Nat} {r : List V} {k : Int} (hk : k = (i : Int)) (h : rows[i]? = some r) : P.row rows (P.nat k) r := by
  subst hP; subst hk; show rows[((i : Nat) : Int).toNat]? = some r; rw [Int.toNat_natCast]; exact h
end
theorem ansLs {f : Nat} {d : List Part} {vs : List V} {v : V} (h : Spec Try.prog f (.sl true 3 (d.map encPart) :: vs) Hp.emp (Is v)) (hv : v.ren (lab []) = v) (hvs : vs.all V.pl = true) : Ans (CallE Try.prog) f (encParts d :: vs) v := ansW h (fun _ => .cons (.weak _ _) (args_plain hvs)) hv
theorem ansSame {f : Nat} {vs : List V} {v : V} (h : Spec Try.prog f vs Hp.emp (Is v)) (hv : v.ren (lab []) = v) (hvs : vs.all V.pl = true) : Ans (CallE Try.prog) f vs v := ansW h (fun _ => args_plain hvs) hv
/-- sizes of a right delta, in bytes -/
theorem inT_toks (d : List Part) (h : ∀ p ∈ d, okP p) : (inT (toks d) : Int) = inF d := by
  induction d with
  | nil => rfl
  | cons p d ih =>
    have h1 := okP_bd (h p (by simp))
    have h2 := ih fun q hq => h q (by simp [hq])
    simp only [toks, inT_app, inF]
    have : (inT (toks1 p) : Int) = if p.kind = 1 ∨ p.kind = 3 then p.n else 0 := by
      unfold toks1
      by_cases k2 : p.kind = 2
      · rw [if_pos k2, if_neg (by omega)]; simp [inT, kepts_put]
      · rw [if_neg k2]
        have hr : ∀ (n : Nat) (x : Tok), x = .keep ∨ x = .cut → inT (List.replicate n x) = n := by
          intro n x hx
          have := kepts_app_n [] x hx n
          simp only [List.nil_append, kepts] at this
          simp [inT, this]
        have h13 : p.kind = 1 ∨ p.kind = 3 := by omega
        rw [if_pos h13]
        split
        · rw [hr _ _ (.inl rfl)]; omega
        · rw [hr _ _ (.inr rfl)]; omega
    rw [← this, ← h2]
    omega
theorem outT_rep (n : Nat) (x : Tok) : outT (List.replicate n x) = if x = .cut then 0 else n := by
  induction n with
  | zero => simp [outT]
  | succ n ih => cases x <;> simp [List.replicate_succ, outT, ih]
theorem outT_map (t : List UInt8) : outT (t.map .put) = t.length := by
  induction t with
  | nil => rfl
  | cons b t ih => simp [outT, ih]
theorem outT_toks (d : List Part) (h : ∀ p ∈ d, okP p) : (outT (toks d) : Int) = outF d := by
  induction d with
  | nil => rfl
  | cons p d ih =>
    have h1 := okP_bd (h p (by simp))
    have h2 := ih fun q hq => h q (by simp [hq])
    simp only [toks, outT_app, outF]
    have : (outT (toks1 p) : Int) = if p.kind = 1 then p.n else if p.kind = 3 then 0 else p.text.length := by
      unfold toks1
      by_cases k2 : p.kind = 2
      · rw [if_pos k2, outT_map, if_neg (by omega), if_neg (by omega)]
      · rw [if_neg k2]
        split
        · rw [outT_rep, if_neg (by simp)]; omega
        · rw [outT_rep, if_pos rfl, if_pos (by omega)]; rfl
    rw [← this, ← h2]
    omega
theorem checkF_all {d : List Part} (h : checkF d = 0) : d.length ≤ 1600 ∧ (∀ p ∈ d, okP p) ∧ inF d ≤ 500 ∧ outF d ≤ 500 ∧ 0 ≤ inF d ∧ 0 ≤ outF d := by
  obtain ⟨h1, h2, h3, h4⟩ := checkF_ok h
  have h5 := chk_ok 0 d h2
  exact ⟨h1, h5, h3, h4, (inF_bd d h5).1, (outF_bd d h5).1⟩
end Go.Proofs.Ytobngncjflogcaa.AM

set_option linter.unusedVariables false
set_option linter.unusedSimpArgs false
namespace Go.Proofs.Ytobngncjflogcaa.AM
open Go Go.RowKit
set_option maxRecDepth 100000
set_option maxHeartbeats 2000000
def slotT (x : List UInt8) (n : Int) : Int := if 1048576 < x.length then 2 else if n < 0 ∨ (x.length : Int) < n then 3 else 0
def diskT (a1 : List UInt8) (a2 : Int) (b1 : List UInt8) (b2 : Int) : Int := if slotT a1 a2 ≠ 0 then slotT a1 a2 else slotT b1 b2
def lookT (a1 : List UInt8) (a2 : Int) (b1 : List UInt8) (b2 : Int) (i : Int) : Int := if diskT a1 a2 b1 b2 ≠ 0 then diskT a1 a2 b1 b2 else if i < 0 ∨ 2 ≤ i then 1 else 0
structure D4 where
  x1 : List UInt8
  x2 : Int
  x3 : List UInt8
  x4 : Int
  e : Int
def noD (e : Int) : D4 := ⟨[], 0, [], 0, e⟩
def appT (a1 : List UInt8) (a2 : Int) (b1 : List UInt8) (b2 : Int) (i : Int) (s : List UInt8) : D4 := if lookT a1 a2 b1 b2 i ≠ 0 then noD (lookT a1 a2 b1 b2 i)
  else if i = 0 then (if 1048576 < a1.length + s.length then noD 2 else ⟨a1 ++ s, a2, b1, b2, 0⟩)
  else (if 1048576 < b1.length + s.length then noD 2 else ⟨a1, a2, b1 ++ s, b2, 0⟩)
def synT (a1 : List UInt8) (a2 : Int) (b1 : List UInt8) (b2 : Int) (i : Int) : D4 := if lookT a1 a2 b1 b2 i ≠ 0 then noD (lookT a1 a2 b1 b2 i)
  else if i = 0 then ⟨a1, a1.length, b1, b2, 0⟩ else ⟨a1, a2, b1, b1.length, 0⟩
def trmT (a1 : List UInt8) (a2 : Int) (b1 : List UInt8) (b2 : Int) (i n : Int) : D4 := if lookT a1 a2 b1 b2 i ≠ 0 then noD (lookT a1 a2 b1 b2 i)
  else if i = 0 then (if n < 0 ∨ (a1.length : Int) < n then noD 1 else ⟨a1.take n.toNat, min a2 n, b1, b2, 0⟩)
  else (if n < 0 ∨ (b1.length : Int) < n then noD 1 else ⟨a1, a2, b1.take n.toNat, min b2 n, 0⟩)
theorem slot_ok {x : List UInt8} {n : Int} (h : slotT x n = 0) : x.length ≤ 1048576 ∧ 0 ≤ n ∧ n ≤ (x.length : Int) := by
  unfold slotT at h
  split at h
  · exact absurd h (by decide)
  · split at h
    · exact absurd h (by decide)
    · omega
theorem disk_ok {a1 b1 : List UInt8} {a2 b2 : Int} (h : diskT a1 a2 b1 b2 = 0) : slotT a1 a2 = 0 ∧ slotT b1 b2 = 0 := by
  unfold diskT at h
  by_cases g : slotT a1 a2 ≠ 0
  · rw [if_pos g] at h; exact absurd h g
  · rw [if_neg g] at h; exact ⟨Decidable.of_not_not g, h⟩
theorem look_ok {a1 b1 : List UInt8} {a2 b2 i : Int} (h : lookT a1 a2 b1 b2 i = 0) : diskT a1 a2 b1 b2 = 0 ∧ (i = 0 ∨ i = 1) := by
  unfold lookT at h
  by_cases g : diskT a1 a2 b1 b2 ≠ 0
  · rw [if_pos g] at h; exact absurd h g
  · rw [if_neg g] at h
    refine ⟨Decidable.of_not_not g, ?_⟩
    split at h
    · exact absurd h (by decide)
    · omega
structure YDk (a1 : List UInt8) (a2 : Int) (b1 : List UInt8) (b2 : Int) where
  m : Nat
  k : Int
  hm : m ≤ 2
  hk : k = (m : Int)
  h0 : 0 < m → slotT a1 a2 = 0
  h1 : 1 < m → slotT b1 b2 = 0
def ac_dck : AC := .seq (.region false [
    ⟨some 1, none, .box 26 4 (.t 0)⟩,
    ⟨some 2, none, .mov (.c (.int .i64 0))⟩])
  (.seq (.seq (.region false [
    ⟨some 5, none, .faddr 0 (.t 1)⟩,
    ⟨some 6, none, .loadn 4 (.t 5)⟩,
    ⟨some 7, none, .mov (.c (.int .i64 0))⟩])
  (.block 0 (.loop (.seq (.region false [
      ⟨some 8, none, .bin .lss (.t 7) (.c (.int .i64 2))⟩])
    (.seq (.cond (.t 8)
      (.skip)
      (.exit 0))
    (.seq (.block 1 (.seq (.region false [
      ⟨some 9, none, .ixa true 2 2 (.t 6) (.t 7)⟩,
      ⟨some 4, none, .alloc 23 [(.string ⟨#[]⟩), (.int .i64 0)]⟩,
      ⟨none, none, .store 2 (.t 4) (.t 9)⟩])
    (.seq (.seq (.region false [
      ⟨some 10, none, .faddr 0 (.t 4)⟩,
      ⟨some 11, none, .load1 (.t 10)⟩,
      ⟨some 12, none, .len true (.t 11)⟩,
      ⟨some 13, none, .bin .gtr (.t 12) (.c (.int .i64 1048576))⟩])
    (.cond (.t 13)
      (.seq (.region false [
        ⟨some 2, none, .mov (.c (.int .i64 2))⟩])
      (.ret))
      (.skip)))
    (.seq (.region false [
      ⟨some 14, none, .faddr 1 (.t 4)⟩,
      ⟨some 15, none, .load1 (.t 14)⟩,
      ⟨some 16, none, .bin .lss (.t 15) (.c (.int .i64 0))⟩,
      ⟨some 17, none, .mov (.t 16)⟩,
      ⟨some 18, some (17, false), .faddr 1 (.t 4)⟩,
      ⟨some 19, some (17, false), .load1 (.t 18)⟩,
      ⟨some 20, some (17, false), .faddr 0 (.t 4)⟩,
      ⟨some 21, some (17, false), .load1 (.t 20)⟩,
      ⟨some 22, some (17, false), .len true (.t 21)⟩,
      ⟨some 23, some (17, false), .bin .gtr (.t 19) (.t 22)⟩,
      ⟨some 24, none, .pick (.t 17) (.c (.bool true)) (.t 23)⟩])
    (.cond (.t 24)
      (.seq (.region false [
        ⟨some 2, none, .mov (.c (.int .i64 3))⟩])
      (.ret))
      (.skip))))))
    (.region false [
      ⟨some 25, none, .bin .add (.t 7) (.c (.int .i64 1))⟩,
      ⟨some 7, none, .mov (.t 25)⟩])))))))
  (.seq (.region false [
    ⟨some 2, none, .mov (.c (.int .i64 0))⟩])
  (.ret)))
theorem ok_dck : FnOk Try.prog 33 Try.f33 ac_dck [.t 2] 1 drawD := ⟨Try.func33, by decide +kernel, by kernel_rfl, by kernel_rfl, by decide +kernel⟩
theorem vc_dck (P : Prim) (hP : P = std) (T T1 : CallT) (a1 : List UInt8) (a2 : Int) (b1 : List UInt8) (b2 : Int)
    (R : S → Prop) (hR : ∀ s0 s' x, x = diskT a1 a2 b1 b2 → Ent s0 s' → Ret [.t 2] [.int .i64 x] s' → R s0) : awp P T T1 ac_dck (S0 [.agg [.str a1, .int .i64 a2, .str b1, .int .i64 b2]] Hp.emp) R (fun _ _ => False) R := by
  cbv
  intro β
  cbv
  repeat' (first
    | (refine And.intro (by first | assumption | decide) ?_; try cbv)
    | (intro β2; try cbv))
  refine ⟨YDk a1 a2 b1 b2, fun y => [(6, .agg [.str a1, .int .i64 a2, .str b1, .int .i64 b2]), (7, .int .i64 y.k)], fun y => [], fun y => 2 - y.m,
    ⟨_, Ent.refl _, ⟨0, 0, by decide, rfl, fun h => absurd h (by decide), fun h => absurd h (by decide)⟩, ⟨rfl, rfl, trivial⟩, trivial⟩, ?_⟩
  rintro ⟨m, k, hm, hk, h0, h1⟩
  cbv
  refine br_cases (fun g => ?_) (fun g => ?_)
  · have h5 : k < 2 := lt_t hP g
    replace hm : m < 2 := by ((try simp only [nc] at *); omega)
    have k0 : P.leP 0 k := le0 hP (by ((try simp only [nc] at *); omega))
    have k1 : P.ltP k 2 := ltI hP (by ((try simp only [nc] at *); omega))
    have k2 : P.i64 (P.add k 1) := by rw [add_eq hP]; exact i64I hP (by ((try simp only [nc] at *); omega))
    have k3 : P.add k 1 = ((m + 1 : Nat) : Int) := by rw [add_eq hP, hk]; ((try simp only [nc] at *); omega)
    have hc : m = 0 ∨ m = 1 := by omega
    rcases hc with rfl | rfl
    · cbv
      have k4 : P.nat k = 0 := by rw [hk]; subst hP; rfl
      refine ⟨k0, k1, 0, k4, ?_⟩
      cbv
      repeat' (first
        | (refine And.intro (by first | assumption | decide) ?_; try cbv)
        | (intro β2; try cbv))
      refine br_cases (fun g => ?_) (fun g => ?_)
      · have g1 : 1048576 < P.slen a1 := lt_t hP g
        rw [slen_eq hP] at g1
        have hx : slotT a1 a2 = 2 := by unfold slotT; rw [if_pos (by ((try simp only [nc] at *); omega))]
        cbv
        exact hR _ _ _ (by unfold diskT; rw [if_pos (by rw [hx]; decide), hx]) (Ent.refl _) rfl
      have g1 : ¬ 1048576 < P.slen a1 := lt_f hP g
      rw [slen_eq hP] at g1
      cbv
      repeat' (first
        | (refine And.intro (by first | assumption | decide) ?_; try cbv)
        | (intro β2; try cbv))
      refine br_cases (fun g => ?_) (fun g => ?_)
      · have g2 : a2 < 0 := lt_t hP g
        have hx : slotT a1 a2 = 3 := by unfold slotT; rw [if_neg (by ((try simp only [nc] at *); omega)), if_pos (.inl g2)]
        cbv
        exact hR _ _ _ (by unfold diskT; rw [if_pos (by rw [hx]; decide), hx]) (Ent.refl _) rfl
      have g2 : ¬ a2 < 0 := lt_f hP g
      cbv
      repeat' (first
        | (refine And.intro (by first | assumption | decide) ?_; try cbv)
        | (intro β2; try cbv))
      refine br_cases (fun g => ?_) (fun g => ?_)
      · have g3 : P.slen a1 < a2 := lt_t hP g
        rw [slen_eq hP] at g3
        have hx : slotT a1 a2 = 3 := by unfold slotT; rw [if_neg (by ((try simp only [nc] at *); omega)), if_pos (.inr g3)]
        cbv
        exact hR _ _ _ (by unfold diskT; rw [if_pos (by rw [hx]; decide), hx]) (Ent.refl _) rfl
      have g3 : ¬ P.slen a1 < a2 := lt_f hP g
      rw [slen_eq hP] at g3
      have hx : slotT a1 a2 = 0 := by unfold slotT; rw [if_neg (by ((try simp only [nc] at *); omega)), if_neg (by ((try simp only [nc] at *); omega))]
      cbv
      repeat' (first
        | (refine And.intro (by first | assumption | decide) ?_; try cbv)
        | (intro β2; try cbv))
      exact ⟨_, Ent.refl _, ⟨1, _, by decide, k3, fun _ => hx, fun h => absurd h (by decide)⟩, ⟨rfl, rfl, trivial⟩, trivial, by show 2 - (0 + 1) < 2 - 0; decide⟩
    · cbv
      have k4 : P.nat k = 1 := by rw [hk]; subst hP; rfl
      refine ⟨k0, k1, 1, k4, ?_⟩
      cbv
      repeat' (first
        | (refine And.intro (by first | assumption | decide) ?_; try cbv)
        | (intro β2; try cbv))
      refine br_cases (fun g => ?_) (fun g => ?_)
      · have g1 : 1048576 < P.slen b1 := lt_t hP g
        rw [slen_eq hP] at g1
        have hx : slotT b1 b2 = 2 := by unfold slotT; rw [if_pos (by ((try simp only [nc] at *); omega))]
        cbv
        exact hR _ _ _ (by unfold diskT; rw [if_neg (fun g => g (h0 (by decide))), hx]) (Ent.refl _) rfl
      have g1 : ¬ 1048576 < P.slen b1 := lt_f hP g
      rw [slen_eq hP] at g1
      cbv
      repeat' (first
        | (refine And.intro (by first | assumption | decide) ?_; try cbv)
        | (intro β2; try cbv))
      refine br_cases (fun g => ?_) (fun g => ?_)
      · have g2 : b2 < 0 := lt_t hP g
        have hx : slotT b1 b2 = 3 := by unfold slotT; rw [if_neg (by ((try simp only [nc] at *); omega)), if_pos (.inl g2)]
        cbv
        exact hR _ _ _ (by unfold diskT; rw [if_neg (fun g => g (h0 (by decide))), hx]) (Ent.refl _) rfl
      have g2 : ¬ b2 < 0 := lt_f hP g
      cbv
      repeat' (first
        | (refine And.intro (by first | assumption | decide) ?_; try cbv)
        | (intro β2; try cbv))
      refine br_cases (fun g => ?_) (fun g => ?_)
      · have g3 : P.slen b1 < b2 := lt_t hP g
        rw [slen_eq hP] at g3
        have hx : slotT b1 b2 = 3 := by unfold slotT; rw [if_neg (by ((try simp only [nc] at *); omega)), if_pos (.inr g3)]
        cbv
        exact hR _ _ _ (by unfold diskT; rw [if_neg (fun g => g (h0 (by decide))), hx]) (Ent.refl _) rfl
      have g3 : ¬ P.slen b1 < b2 := lt_f hP g
      rw [slen_eq hP] at g3
      have hx : slotT b1 b2 = 0 := by unfold slotT; rw [if_neg (by ((try simp only [nc] at *); omega)), if_neg (by ((try simp only [nc] at *); omega))]
      cbv
      repeat' (first
        | (refine And.intro (by first | assumption | decide) ?_; try cbv)
        | (intro β2; try cbv))
      exact ⟨_, Ent.refl _, ⟨2, _, by decide, k3, fun _ => h0 (by decide), fun _ => hx⟩, ⟨rfl, rfl, trivial⟩, trivial, by show 2 - (1 + 1) < 2 - 1; decide⟩
  · have h5 : ¬ k < 2 := lt_f hP g
    have hm2 : m = 2 := by ((try simp only [nc] at *); omega)
    have e : diskT a1 a2 b1 b2 = 0 := by unfold diskT; rw [if_neg (fun g => g (h0 (by omega))), h1 (by omega)]
    cbv
    exact hR _ _ _ e.symm (Ent.refl _) rfl
theorem sp_dck (a1 : List UInt8) (a2 : Int) (b1 : List UInt8) (b2 : Int) : Spec Try.prog 33 [.agg [.str a1, .int .i64 a2, .str b1, .int .i64 b2]] Hp.emp (Is (.int .i64 (diskT a1 a2 b1 b2))) :=
  spec_pure dOk ok_dck [.int .i64 (diskT a1 a2 b1 b2)] (.int _ _) fun R hR => vc_dck std rfl _ _ a1 a2 b1 b2 R fun s s' b h he hr => by subst h; exact hR s s' he hr
def ac_dlk : AC := .seq (.region false [
    ⟨some 2, none, .box 26 4 (.t 0)⟩,
    ⟨some 4, none, .mov (.c (.int .i64 0))⟩])
  (.seq (.seq (.region false [
    ⟨some 6, none, .loadn 4 (.t 2)⟩,
    ⟨some 7, none, .call 33 [(.t 6)]⟩,
    ⟨some 5, none, .mov (.t 7)⟩])
  (.seq (.region false [
    ⟨some 8, none, .mov (.t 5)⟩,
    ⟨some 9, none, .bin .neq (.t 8) (.c (.int .i64 0))⟩])
  (.cond (.t 9)
    (.seq (.region false [
      ⟨some 10, none, .mov (.t 5)⟩,
      ⟨some 4, none, .mov (.t 10)⟩])
    (.ret))
    (.skip))))
  (.seq (.seq (.region false [
    ⟨some 11, none, .mov (.t 1)⟩,
    ⟨some 12, none, .bin .lss (.t 11) (.c (.int .i64 0))⟩,
    ⟨some 13, none, .mov (.t 12)⟩,
    ⟨some 14, some (13, false), .mov (.t 1)⟩,
    ⟨some 15, some (13, false), .bin .geq (.t 14) (.c (.int .i64 2))⟩,
    ⟨some 16, none, .pick (.t 13) (.c (.bool true)) (.t 15)⟩])
  (.cond (.t 16)
    (.seq (.region false [
      ⟨some 4, none, .mov (.c (.int .i64 1))⟩])
    (.ret))
    (.skip)))
  (.seq (.region false [
    ⟨some 4, none, .mov (.c (.int .i64 0))⟩])
  (.ret))))
theorem ok_dlk : FnOk Try.prog 101 Try.f101 ac_dlk [.t 4] 2 drawD := ⟨Try.func101, by decide +kernel, by kernel_rfl, by kernel_rfl, by decide +kernel⟩
theorem vc_dlk (P : Prim) (hP : P = std) (T T1 : CallT) (a1 : List UInt8) (a2 : Int) (b1 : List UInt8) (b2 i c : Int) (h1 : Ans T 33 [.agg [.str a1, .int .i64 a2, .str b1, .int .i64 b2]] (.int .i64 c)) (r : Int) (hr : (if c ≠ 0 then c else if i < 0 ∨ 2 ≤ i then 1 else 0) = r)
    (R : S → Prop) (hR : ∀ s0 s' x, x = r → Ent s0 s' → Ret [.t 4] [.int .i64 x] s' → R s0) : awp P T T1 ac_dlk (S0 [.agg [.str a1, .int .i64 a2, .str b1, .int .i64 b2], .int .i64 i] Hp.emp) R (fun _ _ => False) R := by
  cbv
  intro β
  cbv
  repeat' (first
    | (refine And.intro (by first | assumption | decide) ?_; try cbv)
    | (intro β2; try cbv))
  refine h1 _ _ ?_
  cbv
  refine br_cases (fun g => ?_) (fun g => ?_)
  · rw [if_pos (ne_t hP g)] at hr
    cbv
    exact hR _ _ _ hr (Ent.refl _) rfl
  rw [if_neg (fun x => x (ne_f hP g))] at hr
  cbv
  refine br_cases (fun g => ?_) (fun g => ?_)
  · rw [if_pos (.inl (lt_t hP g))] at hr
    cbv
    exact hR _ _ _ hr (Ent.refl _) rfl
  have g1 := lt_f hP g
  cbv
  refine br_cases (fun g => ?_) (fun g => ?_)
  · rw [if_pos (.inr (le_t hP g))] at hr
    cbv
    exact hR _ _ _ hr (Ent.refl _) rfl
  have g2 := le_f hP g
  rw [if_neg (by omega)] at hr
  cbv
  exact hR _ _ _ hr (Ent.refl _) rfl
theorem sp_dlk (a1 : List UInt8) (a2 : Int) (b1 : List UInt8) (b2 i : Int) : Spec Try.prog 101 [.agg [.str a1, .int .i64 a2, .str b1, .int .i64 b2], .int .i64 i] Hp.emp (Is (.int .i64 (lookT a1 a2 b1 b2 i))) :=
  spec_pure dOk ok_dlk [.int .i64 (lookT a1 a2 b1 b2 i)] (.int _ _) fun R hR => vc_dlk std rfl _ _ a1 a2 b1 b2 i _ (ansW (sp_dck a1 a2 b1 b2) (fun h => .cons (.same _) .nil) rfl) _ rfl R fun s s' b h he hr => by subst h; exact hR s s' he hr
def ac_dap : AC := .seq (.region false [
    ⟨some 3, none, .box 26 4 (.t 0)⟩,
    ⟨some 6, none, .alloc 26 [(.string ⟨#[]⟩), (.int .i64 0), (.string ⟨#[]⟩), (.int .i64 0)]⟩,
    ⟨some 7, none, .mov (.c (.int .i64 0))⟩])
  (.seq (.seq (.region false [
    ⟨some 9, none, .loadn 4 (.t 3)⟩,
    ⟨some 10, none, .mov (.t 1)⟩,
    ⟨some 11, none, .call 101 [(.t 9), (.t 10)]⟩,
    ⟨some 8, none, .mov (.t 11)⟩])
  (.seq (.region false [
    ⟨some 12, none, .mov (.t 8)⟩,
    ⟨some 13, none, .bin .neq (.t 12) (.c (.int .i64 0))⟩])
  (.cond (.t 13)
    (.seq (.region false [
      ⟨some 14, none, .build [(.string ⟨#[]⟩), (.int .i64 0), (.string ⟨#[]⟩), (.int .i64 0)] []⟩,
      ⟨some 15, none, .mov (.t 8)⟩,
      ⟨none, none, .store 4 (.t 6) (.t 14)⟩,
      ⟨some 7, none, .mov (.t 15)⟩])
    (.ret))
    (.skip))))
  (.seq (.seq (.region false [
    ⟨some 16, none, .mov (.t 1)⟩,
    ⟨some 17, none, .faddr 0 (.t 3)⟩,
    ⟨some 18, none, .iarr 2 2 (.t 17) (.t 16)⟩,
    ⟨some 19, none, .faddr 0 (.t 18)⟩,
    ⟨some 20, none, .load1 (.t 19)⟩,
    ⟨some 21, none, .len true (.t 20)⟩,
    ⟨some 22, none, .mov (.t 2)⟩,
    ⟨some 23, none, .len true (.t 22)⟩,
    ⟨some 24, none, .bin .add (.t 21) (.t 23)⟩,
    ⟨some 25, none, .bin .gtr (.t 24) (.c (.int .i64 1048576))⟩])
  (.cond (.t 25)
    (.seq (.region false [
      ⟨some 26, none, .build [(.string ⟨#[]⟩), (.int .i64 0), (.string ⟨#[]⟩), (.int .i64 0)] []⟩,
      ⟨none, none, .store 4 (.t 6) (.t 26)⟩,
      ⟨some 7, none, .mov (.c (.int .i64 2))⟩])
    (.ret))
    (.skip)))
  (.seq (.region false [
    ⟨some 27, none, .mov (.t 1)⟩,
    ⟨some 28, none, .faddr 0 (.t 3)⟩,
    ⟨some 29, none, .iarr 2 2 (.t 28) (.t 27)⟩,
    ⟨some 30, none, .faddr 0 (.t 29)⟩,
    ⟨some 31, none, .load1 (.t 30)⟩,
    ⟨some 32, none, .mov (.t 2)⟩,
    ⟨some 33, none, .bin .add (.t 31) (.t 32)⟩,
    ⟨some 34, none, .faddr 0 (.t 3)⟩,
    ⟨some 35, none, .iarr 2 2 (.t 34) (.t 27)⟩,
    ⟨some 36, none, .faddr 0 (.t 35)⟩,
    ⟨none, none, .store 1 (.t 36) (.t 33)⟩])
  (.seq (.region false [
    ⟨some 37, none, .loadn 4 (.t 3)⟩,
    ⟨none, none, .store 4 (.t 6) (.t 37)⟩,
    ⟨some 7, none, .mov (.c (.int .i64 0))⟩])
  (.ret)))))
theorem ok_dap : FnOk Try.prog 95 Try.f95 ac_dap [.cn 6 4, .t 7] 3 drawD := ⟨Try.func95, by decide +kernel, by kernel_rfl, by kernel_rfl, by decide +kernel⟩
theorem vc_dap (P : Prim) (hP : P = std) (T T1 : CallT) (a1 : List UInt8) (a2 : Int) (b1 : List UInt8) (b2 i : Int) (s : List UInt8) (hs : s.length ≤ 140737488355328) (c : Int) (hc : c = lookT a1 a2 b1 b2 i) (h1 : Ans T 101 [.agg [.str a1, .int .i64 a2, .str b1, .int .i64 b2], .int .i64 i] (.int .i64 c)) (r : D4) (hr : appT a1 a2 b1 b2 i s = r)
    (R : S → Prop) (hR : ∀ s0 s' x1 x2 x3 x4 e, (⟨x1, x2, x3, x4, e⟩ : D4) = r → Ent s0 s' → Ret [.cn 6 4, .t 7] [.agg [.str x1, .int .i64 x2, .str x3, .int .i64 x4], .int .i64 e] s' → R s0) : awp P T T1 ac_dap (S0 [.agg [.str a1, .int .i64 a2, .str b1, .int .i64 b2], .int .i64 i, .str s] Hp.emp) R (fun _ _ => False) R := by
  have a0 : P.leP 0 0 := le0 hP (by decide)
  have a01 : P.leP 0 1 := le0 hP (by decide)
  have l0 : P.ltP 0 2 := ltI hP (by decide)
  have l1 : P.ltP 1 2 := ltI hP (by decide)
  have n0 : P.nat 0 = 0 := by subst hP; rfl
  have n1 : P.nat 1 = 1 := by subst hP; rfl
  unfold appT at hr
  cbv
  intro β
  cbv
  repeat' (first
    | (refine And.intro (by first | assumption | decide) ?_; try cbv)
    | (intro β2; try cbv))
  refine h1 _ _ ?_
  clear h1
  cbv
  refine br_cases (fun g => ?_) (fun g => ?_)
  · rw [← hc, if_pos (ne_t hP g)] at hr
    cbv
    repeat' (first
      | (refine And.intro (by first | assumption | decide) ?_; try cbv)
      | (intro β2; try cbv))
    exact hR _ _ _ _ _ _ _ hr (Ent.refl _) ⟨rfl, rfl, Nat.zero_lt_succ 0, Nat.le_refl 4, rfl⟩
  have g0 : c = 0 := ne_f hP g
  rw [← hc, if_neg (fun x => x g0)] at hr
  obtain ⟨hd, hi⟩ := look_ok (hc.symm.trans g0)
  obtain ⟨ha, hb⟩ := disk_ok hd
  obtain ⟨ha1, ha2, ha3⟩ := slot_ok ha
  obtain ⟨hb1, hb2, hb3⟩ := slot_ok hb
  clear hc g
  rcases hi with rfl | rfl
  · rw [if_pos rfl] at hr
    have i1 : P.i64 (P.add (P.slen a1) (P.slen s)) := by rw [add_eq hP, slen_eq hP, slen_eq hP]; exact i64I hP (by ((try simp only [nc] at *); omega))
    cbv
    repeat' (first
      | (refine And.intro (by first | assumption | decide) ?_; try cbv)
      | (refine ⟨0, n0, ?_⟩; try cbv)
      | (intro β2; try cbv))
    refine br_cases (fun g => ?_) (fun g => ?_)
    · have g1 : 1048576 < P.add (P.slen a1) (P.slen s) := lt_t hP g
      rw [add_eq hP, slen_eq hP, slen_eq hP] at g1
      rw [if_pos (by ((try simp only [nc] at *); omega))] at hr
      cbv
      repeat' (first
        | (refine And.intro (by first | assumption | decide) ?_; try cbv)
        | (refine ⟨0, n0, ?_⟩; try cbv)
        | (intro β2; try cbv))
      exact hR _ _ _ _ _ _ _ hr (Ent.refl _) ⟨rfl, rfl, Nat.zero_lt_succ 0, Nat.le_refl 4, rfl⟩
    · have g1 : ¬ 1048576 < P.add (P.slen a1) (P.slen s) := lt_f hP g
      rw [add_eq hP, slen_eq hP, slen_eq hP] at g1
      have e1 : P.sapp a1 s = a1 ++ s := by subst hP; rfl
      rw [if_neg (by ((try simp only [nc] at *); omega)), ← e1] at hr
      cbv
      repeat' (first
        | (refine And.intro (by first | assumption | decide) ?_; try cbv)
        | (refine ⟨0, n0, ?_⟩; try cbv)
        | (intro β2; try cbv))
      exact hR _ _ _ _ _ _ _ hr (Ent.refl _) ⟨rfl, rfl, Nat.zero_lt_succ 0, Nat.le_refl 4, rfl⟩
  · rw [if_neg (by decide)] at hr
    have i1 : P.i64 (P.add (P.slen b1) (P.slen s)) := by rw [add_eq hP, slen_eq hP, slen_eq hP]; exact i64I hP (by ((try simp only [nc] at *); omega))
    cbv
    repeat' (first
      | (refine And.intro (by first | assumption | decide) ?_; try cbv)
      | (refine ⟨1, n1, ?_⟩; try cbv)
      | (intro β2; try cbv))
    refine br_cases (fun g => ?_) (fun g => ?_)
    · have g1 : 1048576 < P.add (P.slen b1) (P.slen s) := lt_t hP g
      rw [add_eq hP, slen_eq hP, slen_eq hP] at g1
      rw [if_pos (by ((try simp only [nc] at *); omega))] at hr
      cbv
      repeat' (first
        | (refine And.intro (by first | assumption | decide) ?_; try cbv)
        | (refine ⟨1, n1, ?_⟩; try cbv)
        | (intro β2; try cbv))
      exact hR _ _ _ _ _ _ _ hr (Ent.refl _) ⟨rfl, rfl, Nat.zero_lt_succ 0, Nat.le_refl 4, rfl⟩
    · have g1 : ¬ 1048576 < P.add (P.slen b1) (P.slen s) := lt_f hP g
      rw [add_eq hP, slen_eq hP, slen_eq hP] at g1
      have e1 : P.sapp b1 s = b1 ++ s := by subst hP; rfl
      rw [if_neg (by ((try simp only [nc] at *); omega)), ← e1] at hr
      cbv
      repeat' (first
        | (refine And.intro (by first | assumption | decide) ?_; try cbv)
        | (refine ⟨1, n1, ?_⟩; try cbv)
        | (intro β2; try cbv))
      exact hR _ _ _ _ _ _ _ hr (Ent.refl _) ⟨rfl, rfl, Nat.zero_lt_succ 0, Nat.le_refl 4, rfl⟩
theorem sp_dap (a1 : List UInt8) (a2 : Int) (b1 : List UInt8) (b2 i : Int) (s : List UInt8) (hs : s.length ≤ 140737488355328) : Spec Try.prog 95 [.agg [.str a1, .int .i64 a2, .str b1, .int .i64 b2], .int .i64 i, .str s] Hp.emp (Is (.tup [.agg [.str (appT a1 a2 b1 b2 i s).x1, .int .i64 (appT a1 a2 b1 b2 i s).x2, .str (appT a1 a2 b1 b2 i s).x3, .int .i64 (appT a1 a2 b1 b2 i s).x4], .int .i64 (appT a1 a2 b1 b2 i s).e])) :=
  spec_pure dOk ok_dap [.agg [.str (appT a1 a2 b1 b2 i s).x1, .int .i64 (appT a1 a2 b1 b2 i s).x2, .str (appT a1 a2 b1 b2 i s).x3, .int .i64 (appT a1 a2 b1 b2 i s).x4], .int .i64 (appT a1 a2 b1 b2 i s).e] (.tup _ (by simp; exact ⟨.agg _ (by simp; exact ⟨.str _, .int _ _, .str _, .int _ _⟩), .int _ _⟩)) fun R hR => vc_dap std rfl _ _ a1 a2 b1 b2 i s hs _ rfl (ansW (sp_dlk a1 a2 b1 b2 i) (fun h => .cons (.same _) (.cons (.same _) .nil)) rfl) (appT a1 a2 b1 b2 i s) rfl R
    fun s s' x1 x2 x3 x4 e h he hr => hR s s' he (by rw [← h]; exact hr)
def ac_dsy : AC := .seq (.region false [
    ⟨some 2, none, .box 26 4 (.t 0)⟩,
    ⟨some 4, none, .alloc 26 [(.string ⟨#[]⟩), (.int .i64 0), (.string ⟨#[]⟩), (.int .i64 0)]⟩,
    ⟨some 5, none, .mov (.c (.int .i64 0))⟩])
  (.seq (.seq (.region false [
    ⟨some 7, none, .loadn 4 (.t 2)⟩,
    ⟨some 8, none, .mov (.t 1)⟩,
    ⟨some 9, none, .call 101 [(.t 7), (.t 8)]⟩,
    ⟨some 6, none, .mov (.t 9)⟩])
  (.seq (.region false [
    ⟨some 10, none, .mov (.t 6)⟩,
    ⟨some 11, none, .bin .neq (.t 10) (.c (.int .i64 0))⟩])
  (.cond (.t 11)
    (.seq (.region false [
      ⟨some 12, none, .build [(.string ⟨#[]⟩), (.int .i64 0), (.string ⟨#[]⟩), (.int .i64 0)] []⟩,
      ⟨some 13, none, .mov (.t 6)⟩,
      ⟨none, none, .store 4 (.t 4) (.t 12)⟩,
      ⟨some 5, none, .mov (.t 13)⟩])
    (.ret))
    (.skip))))
  (.seq (.region false [
    ⟨some 14, none, .mov (.t 1)⟩,
    ⟨some 15, none, .mov (.t 1)⟩,
    ⟨some 16, none, .faddr 0 (.t 2)⟩,
    ⟨some 17, none, .iarr 2 2 (.t 16) (.t 15)⟩,
    ⟨some 18, none, .faddr 0 (.t 17)⟩,
    ⟨some 19, none, .load1 (.t 18)⟩,
    ⟨some 20, none, .len true (.t 19)⟩,
    ⟨some 21, none, .faddr 0 (.t 2)⟩,
    ⟨some 22, none, .iarr 2 2 (.t 21) (.t 14)⟩,
    ⟨some 23, none, .faddr 1 (.t 22)⟩,
    ⟨none, none, .store 1 (.t 23) (.t 20)⟩])
  (.seq (.region false [
    ⟨some 24, none, .loadn 4 (.t 2)⟩,
    ⟨none, none, .store 4 (.t 4) (.t 24)⟩,
    ⟨some 5, none, .mov (.c (.int .i64 0))⟩])
  (.ret))))
theorem ok_dsy : FnOk Try.prog 72 Try.f72 ac_dsy [.cn 4 4, .t 5] 2 drawD := ⟨Try.func72, by decide +kernel, by kernel_rfl, by kernel_rfl, by decide +kernel⟩
theorem vc_dsy (P : Prim) (hP : P = std) (T T1 : CallT) (a1 : List UInt8) (a2 : Int) (b1 : List UInt8) (b2 i : Int) (c : Int) (hc : c = lookT a1 a2 b1 b2 i) (h1 : Ans T 101 [.agg [.str a1, .int .i64 a2, .str b1, .int .i64 b2], .int .i64 i] (.int .i64 c)) (r : D4) (hr : synT a1 a2 b1 b2 i = r)
    (R : S → Prop) (hR : ∀ s0 s' x1 x2 x3 x4 e, (⟨x1, x2, x3, x4, e⟩ : D4) = r → Ent s0 s' → Ret [.cn 4 4, .t 5] [.agg [.str x1, .int .i64 x2, .str x3, .int .i64 x4], .int .i64 e] s' → R s0) : awp P T T1 ac_dsy (S0 [.agg [.str a1, .int .i64 a2, .str b1, .int .i64 b2], .int .i64 i] Hp.emp) R (fun _ _ => False) R := by
  have a0 : P.leP 0 0 := le0 hP (by decide)
  have a01 : P.leP 0 1 := le0 hP (by decide)
  have l0 : P.ltP 0 2 := ltI hP (by decide)
  have l1 : P.ltP 1 2 := ltI hP (by decide)
  have n0 : P.nat 0 = 0 := by subst hP; rfl
  have n1 : P.nat 1 = 1 := by subst hP; rfl
  unfold synT at hr
  cbv
  intro β
  cbv
  repeat' (first
    | (refine And.intro (by first | assumption | decide) ?_; try cbv)
    | (intro β2; try cbv))
  refine h1 _ _ ?_
  clear h1
  cbv
  refine br_cases (fun g => ?_) (fun g => ?_)
  · rw [← hc, if_pos (ne_t hP g)] at hr
    cbv
    repeat' (first
      | (refine And.intro (by first | assumption | decide) ?_; try cbv)
      | (intro β2; try cbv))
    exact hR _ _ _ _ _ _ _ hr (Ent.refl _) ⟨rfl, rfl, Nat.zero_lt_succ 0, Nat.le_refl 4, rfl⟩
  have g0 : c = 0 := ne_f hP g
  rw [← hc, if_neg (fun x => x g0)] at hr
  obtain ⟨hd, hi⟩ := look_ok (hc.symm.trans g0)
  obtain ⟨ha, hb⟩ := disk_ok hd
  obtain ⟨ha1, ha2, ha3⟩ := slot_ok ha
  obtain ⟨hb1, hb2, hb3⟩ := slot_ok hb
  clear hc g
  rcases hi with rfl | rfl
  · have e1 : P.slen a1 = (a1.length : Int) := slen_eq hP _
    rw [if_pos rfl] at hr
    cbv
    repeat' (first
      | (refine And.intro (by first | assumption | decide) ?_; try cbv)
      | (refine ⟨0, n0, ?_⟩; try cbv)
      | (intro β2; try cbv))
    exact hR _ _ _ _ _ _ _ ((congrArg (fun x => (⟨a1, x, b1, b2, 0⟩ : D4)) e1).trans hr) (Ent.refl _) ⟨rfl, rfl, Nat.zero_lt_succ 0, Nat.le_refl 4, rfl⟩
  · have e1 : P.slen b1 = (b1.length : Int) := slen_eq hP _
    rw [if_neg (by decide)] at hr
    cbv
    repeat' (first
      | (refine And.intro (by first | assumption | decide) ?_; try cbv)
      | (refine ⟨1, n1, ?_⟩; try cbv)
      | (intro β2; try cbv))
    exact hR _ _ _ _ _ _ _ ((congrArg (fun x => (⟨a1, a2, b1, x, 0⟩ : D4)) e1).trans hr) (Ent.refl _) ⟨rfl, rfl, Nat.zero_lt_succ 0, Nat.le_refl 4, rfl⟩
theorem sp_dsy (a1 : List UInt8) (a2 : Int) (b1 : List UInt8) (b2 i : Int) : Spec Try.prog 72 [.agg [.str a1, .int .i64 a2, .str b1, .int .i64 b2], .int .i64 i] Hp.emp (Is (.tup [.agg [.str (synT a1 a2 b1 b2 i).x1, .int .i64 (synT a1 a2 b1 b2 i).x2, .str (synT a1 a2 b1 b2 i).x3, .int .i64 (synT a1 a2 b1 b2 i).x4], .int .i64 (synT a1 a2 b1 b2 i).e])) :=
  spec_pure dOk ok_dsy [.agg [.str (synT a1 a2 b1 b2 i).x1, .int .i64 (synT a1 a2 b1 b2 i).x2, .str (synT a1 a2 b1 b2 i).x3, .int .i64 (synT a1 a2 b1 b2 i).x4], .int .i64 (synT a1 a2 b1 b2 i).e] (.tup _ (by simp; exact ⟨.agg _ (by simp; exact ⟨.str _, .int _ _, .str _, .int _ _⟩), .int _ _⟩)) fun R hR => vc_dsy std rfl _ _ a1 a2 b1 b2 i _ rfl (ansW (sp_dlk a1 a2 b1 b2 i) (fun h => .cons (.same _) (.cons (.same _) .nil)) rfl) (synT a1 a2 b1 b2 i) rfl R
    fun s s' x1 x2 x3 x4 e h he hr => hR s s' he (by rw [← h]; exact hr)
def ac_dtr : AC := .seq (.region false [
    ⟨some 3, none, .box 26 4 (.t 0)⟩,
    ⟨some 6, none, .alloc 26 [(.string ⟨#[]⟩), (.int .i64 0), (.string ⟨#[]⟩), (.int .i64 0)]⟩,
    ⟨some 7, none, .mov (.c (.int .i64 0))⟩])
  (.seq (.seq (.region false [
    ⟨some 10, none, .loadn 4 (.t 3)⟩,
    ⟨some 11, none, .mov (.t 1)⟩,
    ⟨some 12, none, .call 101 [(.t 10), (.t 11)]⟩,
    ⟨some 8, none, .mov (.t 12)⟩])
  (.seq (.region false [
    ⟨some 13, none, .mov (.t 8)⟩,
    ⟨some 14, none, .bin .neq (.t 13) (.c (.int .i64 0))⟩])
  (.cond (.t 14)
    (.seq (.region false [
      ⟨some 15, none, .build [(.string ⟨#[]⟩), (.int .i64 0), (.string ⟨#[]⟩), (.int .i64 0)] []⟩,
      ⟨some 16, none, .mov (.t 8)⟩,
      ⟨none, none, .store 4 (.t 6) (.t 15)⟩,
      ⟨some 7, none, .mov (.t 16)⟩])
    (.ret))
    (.skip))))
  (.seq (.region false [
    ⟨some 17, none, .mov (.t 1)⟩,
    ⟨some 18, none, .faddr 0 (.t 3)⟩,
    ⟨some 19, none, .iarr 2 2 (.t 18) (.t 17)⟩,
    ⟨some 9, none, .mov (.t 19)⟩])
  (.seq (.seq (.region false [
    ⟨some 20, none, .mov (.t 2)⟩,
    ⟨some 21, none, .bin .lss (.t 20) (.c (.int .i64 0))⟩,
    ⟨some 22, none, .mov (.t 21)⟩,
    ⟨some 23, some (22, false), .mov (.t 2)⟩,
    ⟨some 24, some (22, false), .mov (.t 9)⟩,
    ⟨some 25, some (22, false), .nilchk (.t 24)⟩,
    ⟨some 26, some (22, false), .faddr 0 (.t 25)⟩,
    ⟨some 27, some (22, false), .load1 (.t 26)⟩,
    ⟨some 28, some (22, false), .len true (.t 27)⟩,
    ⟨some 29, some (22, false), .bin .gtr (.t 23) (.t 28)⟩,
    ⟨some 30, none, .pick (.t 22) (.c (.bool true)) (.t 29)⟩])
  (.cond (.t 30)
    (.seq (.region false [
      ⟨some 31, none, .build [(.string ⟨#[]⟩), (.int .i64 0), (.string ⟨#[]⟩), (.int .i64 0)] []⟩,
      ⟨none, none, .store 4 (.t 6) (.t 31)⟩,
      ⟨some 7, none, .mov (.c (.int .i64 1))⟩])
    (.ret))
    (.skip)))
  (.seq (.region false [
    ⟨some 32, none, .mov (.t 9)⟩,
    ⟨some 33, none, .mov (.t 9)⟩,
    ⟨some 34, none, .nilchk (.t 33)⟩,
    ⟨some 35, none, .faddr 0 (.t 34)⟩,
    ⟨some 36, none, .load1 (.t 35)⟩,
    ⟨some 37, none, .mov (.t 2)⟩,
    ⟨some 38, none, .slstr (.t 36) none (some (.t 37))⟩,
    ⟨some 39, none, .nilchk (.t 32)⟩,
    ⟨some 40, none, .faddr 0 (.t 39)⟩,
    ⟨none, none, .store 1 (.t 40) (.t 38)⟩])
  (.seq (.region false [
    ⟨some 41, none, .mov (.t 9)⟩,
    ⟨some 42, none, .mov (.t 9)⟩,
    ⟨some 43, none, .nilchk (.t 42)⟩,
    ⟨some 44, none, .faddr 1 (.t 43)⟩,
    ⟨some 45, none, .load1 (.t 44)⟩,
    ⟨some 46, none, .mov (.t 2)⟩,
    ⟨some 47, none, .mm false (.t 45) (.t 46)⟩,
    ⟨some 48, none, .nilchk (.t 41)⟩,
    ⟨some 49, none, .faddr 1 (.t 48)⟩,
    ⟨none, none, .store 1 (.t 49) (.t 47)⟩])
  (.seq (.region false [
    ⟨some 50, none, .loadn 4 (.t 3)⟩,
    ⟨none, none, .store 4 (.t 6) (.t 50)⟩,
    ⟨some 7, none, .mov (.c (.int .i64 0))⟩])
  (.ret)))))))
theorem ok_dtr : FnOk Try.prog 71 Try.f71 ac_dtr [.cn 6 4, .t 7] 3 drawD := ⟨Try.func71, by decide +kernel, by kernel_rfl, by kernel_rfl, by decide +kernel⟩
theorem vc_dtr (P : Prim) (hP : P = std) (T T1 : CallT) (a1 : List UInt8) (a2 : Int) (b1 : List UInt8) (b2 i : Int) (n : Int) (c : Int) (hc : c = lookT a1 a2 b1 b2 i) (h1 : Ans T 101 [.agg [.str a1, .int .i64 a2, .str b1, .int .i64 b2], .int .i64 i] (.int .i64 c)) (r : D4) (hr : trmT a1 a2 b1 b2 i n = r)
    (R : S → Prop) (hR : ∀ s0 s' x1 x2 x3 x4 e, (⟨x1, x2, x3, x4, e⟩ : D4) = r → Ent s0 s' → Ret [.cn 6 4, .t 7] [.agg [.str x1, .int .i64 x2, .str x3, .int .i64 x4], .int .i64 e] s' → R s0) : awp P T T1 ac_dtr (S0 [.agg [.str a1, .int .i64 a2, .str b1, .int .i64 b2], .int .i64 i, .int .i64 n] Hp.emp) R (fun _ _ => False) R := by
  have a0 : P.leP 0 0 := le0 hP (by decide)
  have a01 : P.leP 0 1 := le0 hP (by decide)
  have l0 : P.ltP 0 2 := ltI hP (by decide)
  have l1 : P.ltP 1 2 := ltI hP (by decide)
  have n0 : P.nat 0 = 0 := by subst hP; rfl
  have n1 : P.nat 1 = 1 := by subst hP; rfl
  unfold trmT at hr
  cbv
  intro β
  cbv
  repeat' (first
    | (refine And.intro (by first | assumption | decide) ?_; try cbv)
    | (intro β2; try cbv))
  refine h1 _ _ ?_
  clear h1
  cbv
  refine br_cases (fun g => ?_) (fun g => ?_)
  · rw [← hc, if_pos (ne_t hP g)] at hr
    cbv
    repeat' (first
      | (refine And.intro (by first | assumption | decide) ?_; try cbv)
      | (intro β2; try cbv))
    exact hR _ _ _ _ _ _ _ hr (Ent.refl _) ⟨rfl, rfl, Nat.zero_lt_succ 0, Nat.le_refl 4, rfl⟩
  have g0 : c = 0 := ne_f hP g
  rw [← hc, if_neg (fun x => x g0)] at hr
  obtain ⟨hd, hi⟩ := look_ok (hc.symm.trans g0)
  obtain ⟨ha, hb⟩ := disk_ok hd
  obtain ⟨ha1, ha2, ha3⟩ := slot_ok ha
  obtain ⟨hb1, hb2, hb3⟩ := slot_ok hb
  clear hc g
  rcases hi with rfl | rfl
  · rw [if_pos rfl] at hr
    cbv
    repeat' (first
      | (refine And.intro (by first | assumption | decide) ?_; try cbv)
      | (refine ⟨0, n0, ?_⟩; try cbv)
      | (intro β2; try cbv))
    refine br_cases (fun g => ?_) (fun g => ?_)
    · rw [if_pos (.inl (lt_t hP g))] at hr
      cbv
      repeat' (first
        | (refine And.intro (by first | assumption | decide) ?_; try cbv)
        | (refine ⟨0, n0, ?_⟩; try cbv)
        | (intro β2; try cbv))
      exact hR _ _ _ _ _ _ _ hr (Ent.refl _) ⟨rfl, rfl, Nat.zero_lt_succ 0, Nat.le_refl 4, rfl⟩
    have g1 := lt_f hP g
    cbv
    repeat' (first
      | (refine And.intro (by first | assumption | decide) ?_; try cbv)
      | (refine ⟨0, n0, ?_⟩; try cbv)
      | (intro β2; try cbv))
    refine br_cases (fun g => ?_) (fun g => ?_)
    · have g2 : P.slen a1 < n := lt_t hP g
      rw [slen_eq hP] at g2
      rw [if_pos (.inr g2)] at hr
      cbv
      repeat' (first
        | (refine And.intro (by first | assumption | decide) ?_; try cbv)
        | (refine ⟨0, n0, ?_⟩; try cbv)
        | (intro β2; try cbv))
      exact hR _ _ _ _ _ _ _ hr (Ent.refl _) ⟨rfl, rfl, Nat.zero_lt_succ 0, Nat.le_refl 4, rfl⟩
    have g2 : ¬ P.slen a1 < n := lt_f hP g
    rw [slen_eq hP] at g2
    have m1 : P.leP 0 n := le0 hP (by omega)
    have m2 : P.leP n (P.slen a1) := leI hP (by rw [slen_eq hP]; ((try simp only [nc] at *); omega))
    have e1 : P.ssub a1 0 n = a1.take n.toNat := by subst hP; rfl
    have e2 : P.mn a2 n = min a2 n := by subst hP; rfl
    rw [if_neg (by ((try simp only [nc] at *); omega)), ← e1, ← e2] at hr
    cbv
    repeat' (first
      | (refine And.intro (by first | assumption | decide) ?_; try cbv)
      | (refine ⟨0, n0, ?_⟩; try cbv)
      | (intro β2; try cbv))
    exact hR _ _ _ _ _ _ _ hr (Ent.refl _) ⟨rfl, rfl, Nat.zero_lt_succ 0, Nat.le_refl 4, rfl⟩
  · rw [if_neg (by decide)] at hr
    cbv
    repeat' (first
      | (refine And.intro (by first | assumption | decide) ?_; try cbv)
      | (refine ⟨1, n1, ?_⟩; try cbv)
      | (intro β2; try cbv))
    refine br_cases (fun g => ?_) (fun g => ?_)
    · rw [if_pos (.inl (lt_t hP g))] at hr
      cbv
      repeat' (first
        | (refine And.intro (by first | assumption | decide) ?_; try cbv)
        | (refine ⟨1, n1, ?_⟩; try cbv)
        | (intro β2; try cbv))
      exact hR _ _ _ _ _ _ _ hr (Ent.refl _) ⟨rfl, rfl, Nat.zero_lt_succ 0, Nat.le_refl 4, rfl⟩
    have g1 := lt_f hP g
    cbv
    repeat' (first
      | (refine And.intro (by first | assumption | decide) ?_; try cbv)
      | (refine ⟨1, n1, ?_⟩; try cbv)
      | (intro β2; try cbv))
    refine br_cases (fun g => ?_) (fun g => ?_)
    · have g2 : P.slen b1 < n := lt_t hP g
      rw [slen_eq hP] at g2
      rw [if_pos (.inr g2)] at hr
      cbv
      repeat' (first
        | (refine And.intro (by first | assumption | decide) ?_; try cbv)
        | (refine ⟨1, n1, ?_⟩; try cbv)
        | (intro β2; try cbv))
      exact hR _ _ _ _ _ _ _ hr (Ent.refl _) ⟨rfl, rfl, Nat.zero_lt_succ 0, Nat.le_refl 4, rfl⟩
    have g2 : ¬ P.slen b1 < n := lt_f hP g
    rw [slen_eq hP] at g2
    have m1 : P.leP 0 n := le0 hP (by omega)
    have m2 : P.leP n (P.slen b1) := leI hP (by rw [slen_eq hP]; ((try simp only [nc] at *); omega))
    have e1 : P.ssub b1 0 n = b1.take n.toNat := by subst hP; rfl
    have e2 : P.mn b2 n = min b2 n := by subst hP; rfl
    rw [if_neg (by ((try simp only [nc] at *); omega)), ← e1, ← e2] at hr
    cbv
    repeat' (first
      | (refine And.intro (by first | assumption | decide) ?_; try cbv)
      | (refine ⟨1, n1, ?_⟩; try cbv)
      | (intro β2; try cbv))
    exact hR _ _ _ _ _ _ _ hr (Ent.refl _) ⟨rfl, rfl, Nat.zero_lt_succ 0, Nat.le_refl 4, rfl⟩
theorem sp_dtr (a1 : List UInt8) (a2 : Int) (b1 : List UInt8) (b2 i : Int) (n : Int) : Spec Try.prog 71 [.agg [.str a1, .int .i64 a2, .str b1, .int .i64 b2], .int .i64 i, .int .i64 n] Hp.emp (Is (.tup [.agg [.str (trmT a1 a2 b1 b2 i n).x1, .int .i64 (trmT a1 a2 b1 b2 i n).x2, .str (trmT a1 a2 b1 b2 i n).x3, .int .i64 (trmT a1 a2 b1 b2 i n).x4], .int .i64 (trmT a1 a2 b1 b2 i n).e])) :=
  spec_pure dOk ok_dtr [.agg [.str (trmT a1 a2 b1 b2 i n).x1, .int .i64 (trmT a1 a2 b1 b2 i n).x2, .str (trmT a1 a2 b1 b2 i n).x3, .int .i64 (trmT a1 a2 b1 b2 i n).x4], .int .i64 (trmT a1 a2 b1 b2 i n).e] (.tup _ (by simp; exact ⟨.agg _ (by simp; exact ⟨.str _, .int _ _, .str _, .int _ _⟩), .int _ _⟩)) fun R hR => vc_dtr std rfl _ _ a1 a2 b1 b2 i n _ rfl (ansW (sp_dlk a1 a2 b1 b2 i) (fun h => .cons (.same _) (.cons (.same _) .nil)) rfl) (trmT a1 a2 b1 b2 i n) rfl R
    fun s s' x1 x2 x3 x4 e h he hr => hR s s' he (by rw [← h]; exact hr)
end Go.Proofs.Ytobngncjflogcaa.AM

set_option linter.unusedVariables false
set_option linter.unusedSimpArgs false
namespace Go.Proofs
open Go.Shelf Go.RowKit Go.Lib
def Try.lays169_ren : Go.Shelf.Ren := ⟨fun | 169 => 56 | n => n, fun | 70 => 110 | 9 => 9 | 0 => 0 | 72 => 113 | 37 => 111 | 127 => 157 | 3 => 3 | 5 => 5 | n => n, fun | n => n⟩

theorem Try.lays169 : Go.Proofs.Lays.n169 Try.prog Try.lays169_ren := {
  mixed := by kernel_rfl
  f169 := Try.func56.trans (congrArg some (by kernel_rfl))
  t0 := Try.underlying0
  a0 := Try.isAgg0
  z0 := Try.sizeOf0
  v0 := Try.zeroValue0
  t3 := Try.underlying3
  a3 := Try.isAgg3
  z3 := Try.sizeOf3
  v3 := Try.zeroValue3
  t9 := Try.underlying9
  a9 := Try.isAgg9
  z9 := Try.sizeOf9
  v9 := Try.zeroValue9
  t37 := Try.underlying111
  a37 := Try.isAgg111
  z37 := Try.sizeOf111
  v37 := Try.zeroValue111
  t70 := Try.underlying110
  a70 := Try.isAgg110
  z70 := Try.sizeOf110
  v70 := Try.zeroValue110
  t72 := Try.underlying113
  a72 := Try.isAgg113
  z72 := Try.sizeOf113
  v72 := Try.zeroValue113
  t127 := Try.underlying157
  a127 := Try.isAgg157
  z127 := Try.sizeOf157
  v127 := Try.zeroValue157 }

theorem Try.Builder_Extra_169 : Builder.Extra Try.prog Try.lays169_ren := {
  sizeBuilder := by kernel_rfl
  liesBuilder := by kernel_rfl
  t5 := Try.underlying5
  a5 := Try.isAgg5
  z5 := Try.sizeOf5
  v5 := Try.zeroValue5
  infoByte := by kernel_rfl
  cellsByte := by kernel_rfl
  sizeByte := by kernel_rfl
  neB5 := by decide }

theorem Try.Builder_String_any (B b : Nat) (l : List UInt8) (w : World) (h : Lib.IsBuilder 113 5 B b (Lib.byteCells l) w) (hBw : B ≤ w.heap.size) :
    Calls Try.prog 56 #[.pointer (some ⟨b, 0, none⟩)] w fun e w' => e = .returned (.string ⟨l.toArray⟩) ∧ Below B w w' := Any.Builder_String_any Try.lays169 Try.Builder_Extra_169 B b l w h hBw

end Go.Proofs
namespace Go.Proofs.Ytobngncjflogcaa.Bld
open Go Go.RowKit
def T : TypeId := 113
def E : TypeId := 5
set_option maxRecDepth 100000 in
set_option maxHeartbeats 4000000 in
theorem check_used (b : Nat) (w : World) (h0 : w.cell? ⟨b, 0, none⟩ = some (.pointer (some ⟨b, 0, none⟩))) :
    Calls Try.prog 91 #[.pointer (some ⟨b, 0, none⟩)] w fun e w' => e = .returned (.tuple #[]) ∧ w' = w := by
  obtain ⟨j, hj⟩ : ∃ j, Try.prog.info? 113 = some j := Option.isSome_iff_exists.1 (by kernel_rfl)
  go_enter Try.func91, Try.ntmps91
  go_wp2
  rw [Lib.run_neq_ptr_same w _ Try.underlying110 hj]
  go_wp2
  go_end0
  exact ⟨rfl, rfl⟩
set_option maxRecDepth 100000 in
set_option maxHeartbeats 4000000 in
theorem check_fresh (b : Nat) (w : World) (h0 : w.cell? ⟨b, 0, none⟩ = some (.pointer none)) (hsh : w.shape? b = some (113, 2)) (hfz : w.frozen? ⟨b, 0, none⟩ = false) :
    Calls Try.prog 91 #[.pointer (some ⟨b, 0, none⟩)] w fun e w' => e = .returned (.tuple #[]) ∧ w' = w.setCell ⟨b, 0, none⟩ (.pointer (some ⟨b, 0, none⟩)) := by
  obtain ⟨j, hj⟩ : ∃ j, Try.prog.info? 113 = some j := Option.isSome_iff_exists.1 (by kernel_rfl)
  have hjs : j.size = 2 := by
    have h : (Try.prog.info? 113).map (·.size) = some 2 := by kernel_rfl
    rw [hj] at h
    exact Option.some.inj h
  go_enter Try.func91, Try.ntmps91
  go_wp2
  rw [Lib.run_to_unsafe w ⟨b, 0, none⟩ Try.underlying110 Try.underlying184 hj (by rw [hjs]; decide) hsh (Nat.zero_lt_succ 1)]
  simp only [Result.andThen]
  rw [Oper.upon_value]
  go_wp2
  rw [run_callFunc_extern Try.func113 (by kernel_rfl) (by kernel_rfl) (by kernel_rfl) (e := Extern.AbiNoEscape.same) (by kernel_rfl)]
  rw [Lib.run_noEscape]
  simp only [Result.andThen]
  rw [Oper.upon_value]
  go_wp2
  rw [Lib.run_from_unsafe w ⟨b, 0, none⟩ Try.underlying184 Try.underlying110 hj hsh (by kernel_rfl)]
  simp only [Result.andThen]
  rw [Oper.upon_value]
  go_wp2
  go_end0
  exact ⟨rfl, rfl⟩
/-- blocks of other types, but for b, are as they were -/
def Keep (b : Nat) (w w' : World) : Prop := ∀ (k : Nat) (cs : Array Value) (ty : TypeId) (fr : Nat × Nat), k ≠ b → ty ≠ E → w.heap[k]? = some (.cells cs ty fr) → w'.heap[k]? = some (.cells cs ty fr)
theorem Keep.refl (b : Nat) (w : World) : Keep b w w := fun _ _ _ _ _ _ h => h
theorem Keep.trans {b : Nat} {w w1 w2 : World} (h : Keep b w w1) (h' : Keep b w1 w2) : Keep b w w2 := fun k cs ty fr h1 h2 h3 => h' k cs ty fr h1 h2 (h k cs ty fr h1 h2 h3)
theorem Keep.set (b j : Nat) (v : Value) (w : World) : Keep b w (w.setCell ⟨b, j, none⟩ v) := fun k cs ty fr h1 h2 h3 => by
  rw [← h3]; simp [World.setCell, Array.getElem?_modify, Ne.symm h1]
theorem check (B b : Nat) (bs : List Value) (w : World) (h : Lib.IsBuilder T E B b bs w) :
    Calls Try.prog 91 #[.pointer (some ⟨b, 0, none⟩)] w fun e w' => e = .returned (.tuple #[]) ∧ (Lib.BuilderAt T E B b (.pointer (some ⟨b, 0, none⟩)) bs w' ∧ Below B w w' ∧ Keep b w w') := by
  rcases h with h | h
  · refine (check_fresh b w h.cell0 h.shape h.frozen0).mono ?_
    rintro e w' ⟨rfl, rfl⟩
    exact ⟨rfl, h.used _, (Below.refl B w).setCell (p := ⟨b, 0, none⟩) h.1 _, Keep.set _ _ _ _⟩
  · refine (check_used b w h.cell0).mono ?_
    rintro e w' ⟨rfl, rfl⟩
    exact ⟨rfl, h, Below.refl B _, Keep.refl _ _⟩
set_option maxRecDepth 100000 in
set_option maxHeartbeats 4000000 in
theorem writeString (B b : Nat) (bs : List Value) (s : ByteArray) (w : World) (h : Lib.IsBuilder T E B b bs w) (hlen : bs.length + s.size ≤ 140737488355328) (hBw : B ≤ w.heap.size) :
    Calls Try.prog 55 #[.pointer (some ⟨b, 0, none⟩), .string s] w fun e w' => e = .returned (.tuple #[.int .i64 s.size, .nilIface]) ∧ (Lib.BuilderAt T E B b (.pointer (some ⟨b, 0, none⟩)) (bs ++ Lib.strCells s) w' ∧ Below B w w' ∧ Keep b w w') := by
  obtain ⟨i0, hi, hz0, hz1, hz2⟩ := info_parts (show (Try.prog.info? 5).map (fun i => (i.zero, i.size, i.bytes)) = some (some (.int .u8 0), 1, 1) by kernel_rfl)
  have hck := check B b bs w h
  unfold T E at *
  go_enter Try.func55, Try.ntmps55
  go_wp2_with fail
  refine hck.mono ?_
  rintro e w1 ⟨rfl, h1, hb1, hkp1⟩
  obtain ⟨hB, v, hbk, hown, hne⟩ := h1
  have c0 : w1.cell? ⟨b, 0, none⟩ = some (.pointer (some ⟨b, 0, none⟩)) := by rw [Lib.cell_of_heap hbk]; rfl
  have c1 : w1.cell? ⟨b, 1, none⟩ = some v := by rw [Lib.cell_of_heap hbk]; rfl
  go_wp2_with (at_builtin; refine Lib.wpList_append_own_string _ rfl _ _ 111 9 rfl B 5 i0 Try.underlying111 Try.underlying9 hi hz0 hz1 hz2 _ _ _ rfl hown s rfl ?c3 ?c4 ?c5 ?_)
  case c3 => unfold maxLen; omega
  case c4 => omega
  case c5 => have := hb1.size; omega
  intro v' w2 hown' hgrow _
  have hlt : b < w1.heap.size := by
    rcases Nat.lt_or_ge b w1.heap.size with h' | h'
    · exact h'
    · simp [Array.getElem?_eq_none h'] at hbk
  have hb2 : w2.heap[b]? = some (.cells #[.pointer (some ⟨b, 0, none⟩), v] 113 (0, 0)) := by
    rw [hgrow.block b hlt (fun e => hne e.symm)]
    exact hbk
  have d0 : w2.cell? ⟨b, 0, none⟩ = some (.pointer (some ⟨b, 0, none⟩)) := by rw [Lib.cell_of_heap hb2]; rfl
  have d1 : w2.cell? ⟨b, 1, none⟩ = some v := by rw [Lib.cell_of_heap hb2]; rfl
  have f1 : w2.frozen? ⟨b, 1, none⟩ = false := Lib.frozen_of_heap hb2 1
  have hkp2 : Keep b w1 w2 := fun k cs ty fr h1 h2 h3 => by
    rw [hgrow.block k (Array.getElem?_eq_some_iff.1 h3).1 (fun e => Lib.ownBlock_ne hown h3 h2 e.symm)]; exact h3
  obtain ⟨ao, n', cap, rfl⟩ : ∃ ao n' cap, v' = .slice ao n' cap := by
    rcases hown'.2 with ⟨hv, _⟩ | ⟨g, cap, cur, hv, _⟩
    · exact ⟨_, _, _, hv⟩
    · exact ⟨_, _, _, hv⟩
  go_wp2
  go_ret2
  refine ⟨rfl, ?_, ?_, (hkp1.trans hkp2).trans (Keep.set _ _ _ _)⟩
  · exact Lib.BuilderAt.put (T := 113) (e := 5) hB hb2 (bs' := bs ++ Lib.strCells s) (by simpa [Lib.strCells_length] using hown') (by decide)
  · exact (hb1.grown hgrow (by have := hb1.size; omega) (fun k hk => (hown.lt k hk).1)).setCell (p := ⟨b, 1, none⟩) hB _
end Go.Proofs.Ytobngncjflogcaa.Bld

set_option linter.unusedVariables false
set_option linter.unusedSimpArgs false
namespace Go.Proofs.Ytobngncjflogcaa.AM
open Go
set_option maxRecDepth 100000
set_option maxHeartbeats 2000000
def fitsF (d : List Part) (n : Int) : Int := if checkF d ≠ 0 then checkF d else if n ≠ inF d then 4 else 0
def ac_fits : AC := .seq (.region false [
    ⟨some 4, none, .mov (.c (.int .i64 0))⟩])
  (.seq (.region false [
    ⟨some 9, none, .mov (.t 0)⟩,
    ⟨some 10, none, .call 67 [(.t 9)]⟩,
    ⟨some 8, none, .mov (.t 10)⟩,
    ⟨some 11, none, .ext 0 (.t 8)⟩,
    ⟨some 12, none, .ext 1 (.t 8)⟩,
    ⟨some 13, none, .ext 2 (.t 8)⟩,
    ⟨some 5, none, .mov (.t 11)⟩,
    ⟨some 6, none, .mov (.t 12)⟩,
    ⟨some 7, none, .mov (.t 13)⟩])
  (.seq (.seq (.region false [
    ⟨some 14, none, .mov (.t 7)⟩,
    ⟨some 15, none, .bin .neq (.t 14) (.c (.int .i64 0))⟩])
  (.cond (.t 15)
    (.seq (.region false [
      ⟨some 16, none, .mov (.t 7)⟩,
      ⟨some 4, none, .mov (.t 16)⟩])
    (.ret))
    (.skip)))
  (.seq (.seq (.region false [
    ⟨some 17, none, .mov (.t 1)⟩,
    ⟨some 18, none, .mov (.t 5)⟩,
    ⟨some 19, none, .bin .neq (.t 17) (.t 18)⟩])
  (.cond (.t 19)
    (.seq (.region false [
      ⟨some 4, none, .mov (.c (.int .i64 4))⟩])
    (.ret))
    (.skip)))
  (.seq (.region false [
    ⟨some 4, none, .mov (.c (.int .i64 0))⟩])
  (.ret)))))
theorem ok_fits : FnOk Try.prog 54 Try.f54 ac_fits [.t 4] 2 drawD := ⟨Try.func54, by decide +kernel, by kernel_rfl, by kernel_rfl, by decide +kernel⟩
theorem vc_fits (P : Prim) (hP : P = std) (T T1 : CallT) (rows : List (List V)) (n i o c : Int) (hc1 : Ans T 67 [.sl true 3 rows] (.tup [.int .i64 i, .int .i64 o, .int .i64 c])) (r : Int) (hr : (if c ≠ 0 then c else if n ≠ i then 4 else 0) = r)
    (R : S → Prop) (hR : ∀ s s' q, q = r → Ent s s' → Ret [.t 4] [.int .i64 q] s' → R s) : awp P T T1 ac_fits (S0 [.sl true 3 rows, .int .i64 n] Hp.emp) R (fun _ _ => False) R := by
  cbv
  repeat' (first | (intro β; try cbv) | (refine And.intro (by assumption) ?_; try cbv) | (refine br_cases (fun h => ?_) (fun h => ?_) <;> try cbv) | (refine Exists.intro _ (And.intro (by assumption) ?_); try cbv) | (refine hc1 _ _ ?_; try cbv) | (refine hc2 _ _ ?_; try cbv) | (refine hc3 _ _ ?_; try cbv) | (refine hc4 _ _ ?_; try cbv) | (refine hc5 _ _ ?_; try cbv) | (refine hc6 _ _ ?_; try cbv) | (refine And.intro (by (clear hR; subst hP; simp [std, I64, nc] at * <;> first | omega | grind)) ?_; try cbv))
  all_goals
    refine hR _ _ _ ?_ (Ent.refl _) rfl
    clear hR hc1; subst hP; simp [std] at *; grind
theorem sp_fits (d : List Part) (hd : d.length ≤ maxLen) (n : Int) : Spec Try.prog 54 [.sl true 3 (d.map encPart), .int .i64 n] Hp.emp (Is (.int .i64 (fitsF d n))) :=
  spec_pure dOk ok_fits [.int .i64 (fitsF d n)] (.int _ _) fun R hR => vc_fits std rfl _ _ _ n _ _ _ (ansW (sp_szs d hd) (fun h => .cons (.same _) .nil) rfl) (fitsF d n) (by unfold szF fitsF; by_cases h : checkF d = 0 <;> simp [h]) R fun s s' q h he hr => by subst h; exact hR s s' he hr
theorem fitsF_ok {d : List Part} {n : Int} (h : fitsF d n = 0) : checkF d = 0 ∧ n = inF d := by
  unfold fitsF at h
  by_cases hc : checkF d = 0
  · rw [if_neg (fun h => h hc)] at h
    exact ⟨hc, by by_cases hn : n = inF d; exact hn; rw [if_pos hn] at h; omega⟩
  · rw [if_pos hc] at h; contradiction
end Go.Proofs.Ytobngncjflogcaa.AM

set_option linter.unusedVariables false
set_option linter.unusedSimpArgs false
namespace Go.Proofs.Ytobngncjflogcaa.Bld
open Go Go.RowKit AM
theorem own_keep' {w w' : World} {base n B : Nat} {e : TypeId} {size : Nat} {v : Value} {xs : List Value} (h : w.ownsRow base e size v n xs) (hb : Below B w w') (hB : w.heap.size ≤ B) : w'.ownsRow base e size v n xs := by
  refine ⟨h.1, ?_⟩
  rcases h.2 with hn | ⟨g, cap, cur, rfl, hbg, hh, rest⟩
  · exact .inl hn
  · exact .inr ⟨g, cap, cur, rfl, hbg, (hb.block g (Nat.lt_of_lt_of_le (Array.getElem?_eq_some_iff.1 hh).1 hB)).trans hh, rest⟩
theorem at_keep {B b : Nat} {p : Value} {bs : List Value} {w w' : World} (h : Lib.BuilderAt T E B b p bs w) (hb : Below w.heap.size w w') : Lib.BuilderAt T E B b p bs w' := by
  have hlt := h.lt
  obtain ⟨hB, v, hbk, hown, hne⟩ := h
  exact ⟨hB, v, (hb.block b hlt).trans hbk, own_keep' hown hb (Nat.le_refl _), hne⟩
theorem is_keep {B b : Nat} {bs : List Value} {w w' : World} (h : Lib.IsBuilder T E B b bs w) (hb : Below w.heap.size w w') : Lib.IsBuilder T E B b bs w' :=
  h.elim (fun h => .inl (at_keep h hb)) fun h => .inr (at_keep h hb)
theorem is_lt {B b : Nat} {bs : List Value} {w : World} (h : Lib.IsBuilder T E B b bs w) : b < w.heap.size := h.elim (·.lt) (·.lt)
theorem doT_keep (n : Nat) (ts : List Tok) (s : List UInt8) : doT (List.replicate n .keep ++ ts) s = s.take n ++ doT ts (s.drop n) := by
  induction n generalizing s with
  | zero => simp
  | succ n ih =>
    simp only [List.replicate_succ, List.cons_append, doT, ih, List.drop_drop]
    rw [← List.append_assoc, show n + 1 = 1 + n by omega, List.take_add]
theorem doT_cut (n : Nat) (ts : List Tok) (s : List UInt8) : doT (List.replicate n .cut ++ ts) s = doT ts (s.drop n) := by
  induction n generalizing s with
  | zero => simp
  | succ n ih => simp only [List.replicate_succ, List.cons_append, doT, ih, List.drop_drop]; rw [show n + 1 = 1 + n by omega]
theorem doT_put (t : List UInt8) (ts : List Tok) (s : List UInt8) : doT (t.map .put ++ ts) s = t ++ doT ts s := by
  induction t with
  | nil => simp
  | cons b t ih => simp [doT, ih]
theorem bytes_app (a : List UInt8) (x : ByteArray) : Lib.byteCells a ++ Lib.strCells x = Lib.byteCells (a ++ x.data.toList) := by simp [Lib.byteCells, Lib.strCells]
theorem ex_list (x : ByteArray) (a b : Nat) : (x.extract a b).data.toList = (x.data.toList.take b).drop a := by
  rw [ByteArray.data_extract, Array.toList_extract, List.extract_eq_take_drop, List.drop_take]
theorem ex_size (x : ByteArray) (a b : Nat) : (x.extract a b).size = min b x.size - a := by
  show (x.extract a b).data.size = _
  rw [ByteArray.data_extract, Array.size_extract]; rfl
/-- a slice of parts in memory -/
def PartsAt (w : World) (oa : Option Addr) (d : List Part) : Prop := ∀ (i : Nat) (p : Part), d[i]? = some p → ∃ b off, oa = some ⟨b, off, none⟩ ∧ b < w.heap.size ∧
  w.cell? ⟨b, off + (i * 3), none⟩ = some (.int .i64 p.kind) ∧ w.cell? ⟨b, off + (i * 3 + 1), none⟩ = some (.int .i64 p.n) ∧ w.cell? ⟨b, off + (i * 3 + 2), none⟩ = some (.string ⟨p.text.toArray⟩)
set_option maxRecDepth 100000 in
set_option maxHeartbeats 4000000 in
theorem do_bad (n c : Nat) (s : ByteArray) (oa : Option Addr) (W : World) (f : Int) (hf : f ≠ 0) (hfits : Calls Try.prog 54 #[.slice oa n c, .int .i64 s.size] W fun e w' => e = .returned (.int .i64 f) ∧ Below W.heap.size W w') :
    Calls Try.prog 16 #[.slice oa n c, .string s] W fun e w' => e = .returned (.tuple #[.string ⟨#[]⟩, .int .i64 f]) ∧ Below W.heap.size W w' := by
  go_enter Try.func16, Try.ntmps16
  go_wp2_with fail
  refine hfits.mono ?_
  rintro e w1 ⟨rfl, hb1⟩
  go_wp2_with fail
  go_ret2
  exact ⟨rfl, hb1⟩
set_option maxRecDepth 100000 in
set_option maxHeartbeats 4000000 in
theorem do_ok (d : List Part) (c : Nat) (s : ByteArray) (oa : Option Addr) (W : World) (hd : d.length ≤ 1600) (hat : PartsAt W oa d) (hok : ∀ p ∈ d, okP p) (hin : inF d = (s.size : Int)) (hs : s.size ≤ 500) (hout : outF d ≤ 500)
    (hfits : Calls Try.prog 54 #[.slice oa d.length c, .int .i64 s.size] W fun e w' => e = .returned (.int .i64 0) ∧ Below W.heap.size W w') :
    Calls Try.prog 16 #[.slice oa d.length c, .string s] W fun e w' => e = .returned (.tuple #[.string ⟨(doT (toks d) s.data.toList).toArray⟩, .int .i64 0]) ∧ Below W.heap.size W w' := by
  have HD : Hid (doT (toks d) s.data.toList = [] ++ doT (toks d) s.data.toList) := Lib.hid rfl
  go_enter Try.func16, Try.ntmps16
  go_wp2_with fail
  refine hfits.mono ?_
  rintro e w1 ⟨rfl, hb1⟩
  clear hfits
  go_wp2_with fail
  go_loopw [1, 19] (fun sv kv wr => ∃ (pre rest : List Part) (s' : ByteArray) (out : List UInt8), sv = .string s' ∧ kv = .int .i64 pre.length ∧ d = pre ++ rest ∧ inF rest = s'.size ∧ s'.size ≤ 500 ∧ (out.length : Int) + outF rest = outF d ∧ Lib.IsBuilder T E W.heap.size w1.heap.size (Lib.byteCells out) wr ∧ Below W.heap.size W wr ∧ Hid (doT (toks d) s.data.toList = out ++ doT (toks rest) s'.data.toList)) (fun _ kv _ => d.length - (intOf kv).toNat)
  case atStart => exact ⟨[], d, s, [], rfl, rfl, rfl, hin, hs, by show ((0 : Nat) : Int) + _ = _; omega, .inl ⟨hb1.size, .slice none 0 0, heap_alloc_new w1 _, World.ownsRow_nil _ _ _ _, by simp [Value.ownBlock]⟩, hb1.alloc hb1.size _, HD⟩
  case round =>
    obtain ⟨pre, rest, s', out, rfl, rfl, hd', hin', hs', hout', hib, hb, HN⟩ := hrel
    rcases rest with _ | ⟨p, rest⟩
    · have hpl : pre.length = d.length := by rw [hd']; simp
      have hstr := Try.Builder_String_any W.heap.size w1.heap.size out wr hib hb.size
      rw [hpl]
      have HN2 : Hid (doT (toks d) s.data.toList = out) := by show _ = _; rw [HN.out]; simp [toks, doT]
      clear hd' hin' hout' HN hat hok hin hout HD hib
      go_wp2_with fail
      refine hstr.mono ?_
      rintro e w2 ⟨rfl, hb2⟩
      go_wp2_with fail
      go_ret2
      exact ⟨by rw [HN2.out]; rfl, hb.trans hb2⟩
    · have hpl : pre.length < d.length := by rw [hd']; simp
      obtain ⟨b, off, rfl, hblt, q0, q1, q2⟩ := hat pre.length p (by rw [hd']; simp)
      have r0 : wr.cell? ⟨b, off + pre.length * 3, none⟩ = some (.int .i64 p.kind) := by rw [hb.cell (p := ⟨b, _, none⟩) hblt]; exact q0
      have r1 : wr.cell? ⟨b, off + pre.length * 3 + 1, none⟩ = some (.int .i64 p.n) := by rw [hb.cell (p := ⟨b, _, none⟩) hblt]; exact q1
      have r2 : wr.cell? ⟨b, off + pre.length * 3 + 2, none⟩ = some (.string ⟨p.text.toArray⟩) := by rw [hb.cell (p := ⟨b, _, none⟩) hblt]; exact q2
      have hp := okP_bd (hok p (by rw [hd']; simp))
      have hokp := hok p (by rw [hd']; simp)
      clear q0 q1 q2 hat
      have hrest := inF_bd rest fun q hq => hok q (by rw [hd']; simp [hq])
      have hrest2 := outF_bd rest fun q hq => hok q (by rw [hd']; simp [hq])
      have HD' : Hid (d = (pre ++ [p]) ++ rest ∧ (pre ++ [p]).length = pre.length + 1) := by show _ ∧ _; rw [hd']; simp
      have HR : Hid (0 ≤ inF rest ∧ 0 ≤ outF rest) := ⟨hrest.1, hrest2.1⟩
      have HL : Hid (out.length ≤ 500) := by show _ ≤ _; have h := (outF_bd (p :: rest) fun q hq => hok q (by rw [hd']; exact List.mem_append_right _ hq)).1; omega
      clear hd' hok hin hout HD hrest hrest2
      obtain ⟨kd, n, t⟩ := p
      simp only [] at r0 r1 r2 hp
      simp only [inF, outF] at hin' hout'
      have hwr : W.heap.size ≤ wr.heap.size := hb.size
      have hbl := is_lt hib
      rcases hp.2.2.2 with ⟨rfl, rfl, hne⟩ | ⟨rfl | rfl, hn0, rfl⟩
      · rw [if_neg (by decide)] at hin' 
        rw [if_neg (by decide), if_neg (by decide)] at hout'
        have H1 : Hid (inF rest = (s'.size : Int) ∧ (out.length : Int) + (t.length + outF rest) = outF d ∧ t.length ≤ 500) := ⟨by omega, by omega, hp.2.2.1⟩
        have H2 : Hid (doT (toks d) s.data.toList = (out ++ t) ++ doT (toks rest) s'.data.toList) := by
          show _ = _
          rw [HN.out, show toks (⟨2, 0, t⟩ :: rest) = t.map .put ++ toks rest by simp [toks, toks1], doT_put]; simp
        clear hin' hout' hp HN hokp
        go_wp2_with fail
        refine (writeString W.heap.size w1.heap.size (Lib.byteCells out) ⟨t.toArray⟩ _ (is_keep hib (Below.alloc (Below.refl _ _) (Nat.le_refl _) _)) (by rw [Lib.byteCells_length]; have := H1.out.2.2; have := HL.out; show out.length + t.toArray.size ≤ _; rw [List.size_toArray]; omega) (by simp; omega)).mono ?_
        rintro e w2 ⟨rfl, hib2, hb2, hk2⟩
        have c1 := hb2.size
        go_wp2_with fail
        go_roundw
        case rel => exact ⟨pre ++ [⟨2, 0, t⟩], rest, s', out ++ t, rfl, by rw [HD'.out.2, Int.natCast_add]; rfl, HD'.out.1, H1.out.1, hs', by rw [List.length_append]; have := H1.out; omega, .inr (by rw [bytes_app] at hib2; simpa using hib2), (hb.alloc hb.size _).trans hb2, H2⟩
        case measure => simp [intOf]; omega
      · rw [if_pos (by decide)] at hin' 
        rw [if_pos rfl] at hout'
        have hns : n ≤ s'.size := by have := HR.out; omega
        have hn1 : 0 ≤ n := by omega
        have e1 : (n.toNat : Int) = n := by omega
        have H1 : Hid (inF rest = ((s'.extract n.toNat s'.size).size : Int) ∧ ((out ++ (s'.extract 0 n.toNat).data.toList).length : Int) + outF rest = outF d ∧ (s'.extract n.toNat s'.size).size ≤ 500 ∧ (s'.extract 0 n.toNat).size ≤ 500) := by
          show _ ∧ _ ∧ _ ∧ _
          have h1 : ((s'.extract 0 n.toNat).data.toList).length = n.toNat := by rw [Array.length_toList]; show (s'.extract 0 n.toNat).size = _; rw [ex_size]; omega
          rw [List.length_append, h1, ex_size, ex_size]
          have := HR.out
          refine ⟨by omega, by omega, by omega, by omega⟩
        have H2 : Hid (doT (toks d) s.data.toList = (out ++ (s'.extract 0 n.toNat).data.toList) ++ doT (toks rest) (s'.extract n.toNat s'.size).data.toList) := by
          show _ = _
          rw [HN.out, ex_list, ex_list, show toks (⟨1, n, []⟩ :: rest) = List.replicate n.toNat .keep ++ toks rest by simp [toks, toks1], doT_keep]
          have : (s'.data.toList.take s'.size) = s'.data.toList := List.take_of_length_le (by rw [Array.length_toList]; exact Nat.le_refl _)
          rw [this]; simp
        clear hin' hout' hp HN hokp
        go_wp2_with fail
        refine (writeString W.heap.size w1.heap.size (Lib.byteCells out) (s'.extract 0 n.toNat) _ (is_keep hib (Below.alloc (Below.refl _ _) (Nat.le_refl _) _)) (by rw [Lib.byteCells_length]; have := H1.out; have := HL.out; omega) (by simp; omega)).mono ?_
        rintro e w2 ⟨rfl, hib2, hb2, hk2⟩
        have q9 := hk2 wr.heap.size _ _ _ (by omega) (by decide) (heap_alloc_new wr _)
        have q91 : w2.cell? ⟨wr.heap.size, 1, none⟩ = some (.int .i64 n) := by rw [Lib.cell_of_heap q9]; rfl
        have c1 := hb2.size
        go_wp2_with fail
        go_roundw
        case rel => exact ⟨pre ++ [⟨1, n, []⟩], rest, s'.extract n.toNat s'.size, out ++ (s'.extract 0 n.toNat).data.toList, rfl, by rw [HD'.out.2, Int.natCast_add]; rfl, HD'.out.1, H1.out.1, H1.out.2.2.1, H1.out.2.1, .inr (by rw [bytes_app] at hib2; exact hib2), (hb.alloc hb.size _).trans hb2, H2⟩
        case measure => simp [intOf]; omega
      · rw [if_pos (by decide)] at hin' 
        rw [if_neg (by decide), if_pos (by decide)] at hout'
        have hns : n ≤ s'.size := by have := HR.out; omega
        have hn1 : 0 ≤ n := by omega
        have H1 : Hid (inF rest = ((s'.extract n.toNat s'.size).size : Int) ∧ (out.length : Int) + outF rest = outF d ∧ (s'.extract n.toNat s'.size).size ≤ 500) := by
          show _ ∧ _ ∧ _
          rw [ex_size]
          have := HR.out
          refine ⟨by omega, by omega, by omega⟩
        have H2 : Hid (doT (toks d) s.data.toList = out ++ doT (toks rest) (s'.extract n.toNat s'.size).data.toList) := by
          show _ = _
          rw [HN.out, ex_list, show toks (⟨3, n, []⟩ :: rest) = List.replicate n.toNat .cut ++ toks rest by simp [toks, toks1], doT_cut]
          have : (s'.data.toList.take s'.size) = s'.data.toList := List.take_of_length_le (by rw [Array.length_toList]; exact Nat.le_refl _)
          rw [this]
        clear hin' hout' hp HN hokp
        go_wp2_with fail
        go_roundw
        case rel => exact ⟨pre ++ [⟨3, n, []⟩], rest, s'.extract n.toNat s'.size, out, rfl, by rw [HD'.out.2, Int.natCast_add]; rfl, HD'.out.1, H1.out.1, H1.out.2.2, H1.out.2.1, is_keep hib (Below.alloc (Below.refl _ _) (Nat.le_refl _) _), hb.alloc hb.size _, H2⟩
        case measure => simp [intOf]; omega
end Go.Proofs.Ytobngncjflogcaa.Bld

set_option linter.unusedVariables false
set_option linter.unusedSimpArgs false
namespace Go.Proofs.Ytobngncjflogcaa.AM
open Go Go.RowKit
set_option maxRecDepth 100000
set_option maxHeartbeats 2000000
/-- a contract of the plain machine as one of the walks' kind -/
theorem calls_of_spec {f : Nat} {args : List V} {v : V} {us : Array Value} {W : World} (hs : Spec Try.prog f args Hp.emp (Is v)) (hl : us.size = args.length)
    (hr : ∀ (i : Nat) (v : V) (u : Value), args[i]? = some v → us[i]? = some u → Rel (OldB W) (fun _ => False) W v u) :
    Calls Try.prog f us W fun e w' => (∃ u F', e = .returned u ∧ Rel F' (fun _ => False) w' v u) ∧ Below W.heap.size W w' := by
  let C : Ctx := ⟨W, OldB W, fun _ => False, fun _ => False⟩
  have hC : C.Ok := ⟨fun b hb => ⟨hb, fun h => h⟩, fun b hb => hb.elim, fun b hb => hb.elim⟩
  refine (hs.run C us hC hl hr ⟨fun k o hk => by simp [Hp.emp] at hk, fun k k' o o' b hk => by simp [Hp.emp] at hk, fun k o b hk => by simp [Hp.emp] at hk, fun b hb => .inl hb, fun b hb => hb, fun b hb => hb, Ev.refl _ _⟩).mono ?_
  rintro e w' ⟨u, v', h', F', rfl, hv, hs2, rfl, rfl⟩
  have hev : Ev (fun _ => False) W w' := hs2.ev
  exact ⟨⟨u, F', rfl, hv⟩, hev.os, hev.tape, hev.output, hev.size, fun k hk => hev.same k hk (fun h => h)⟩
theorem rel_parts {F B : Nat → Prop} {w : World} {t : Bool} {d : List Part} {u : Value} (h : Rel F B w (.sl t 3 (d.map encPart)) u) (hlt : ∀ b, F b ∨ B b → b < w.heap.size) : ∃ oa c, u = .slice oa d.length c ∧ Bld.PartsAt w oa d := by
  generalize hrows : d.map encPart = rows at h
  cases h with
  | slnil =>
    have : d = [] := by simpa using hrows
    subst this
    exact ⟨none, 0, rfl, fun i p hp => by simp at hp⟩
  | slemp _ _ a cap =>
    have : d = [] := by simpa using hrows
    subst this
    exact ⟨some a, cap, rfl, fun i p hp => by simp at hp⟩
  | sl _ _ _ b off cap us hF hcap hsz hc hr =>
    subst hrows
    refine ⟨some ⟨b, off, none⟩, cap, by rw [List.length_map], fun i p hp => ⟨b, off, rfl, hlt b (by rcases hF with h | ⟨_, h⟩ <;> simp [h]), ?_, ?_, ?_⟩⟩
    all_goals have hi : (d.map encPart)[i]? = some (encPart p) := by rw [List.getElem?_map, hp]; rfl
    · have h1 := (hc i 0 _ (.int .i64 p.kind) hi rfl).1
      have h2 := hr i 0 _ (.int .i64 p.kind) hi rfl
      generalize us i 0 = x at h1 h2
      cases h2
      exact h1
    · have h1 := (hc i 1 _ (.int .i64 p.n) hi rfl).1
      have h2 := hr i 1 _ (.int .i64 p.n) hi rfl
      generalize us i 1 = x at h1 h2
      cases h2
      exact h1
    · have h1 := (hc i 2 _ (.str p.text) hi rfl).1
      have h2 := hr i 2 _ (.str p.text) hi rfl
      generalize us i 2 = x at h1 h2
      cases h2
      exact h1
def doF (d : List Part) (s : List UInt8) : List UInt8 × Int := if fitsF d s.length = 0 then (doT (toks d) s, 0) else ([], fitsF d s.length)
theorem sp_do (d : List Part) (hd : d.length ≤ maxLen) (s : List UInt8) : Spec Try.prog 16 [.sl true 3 (d.map encPart), .str s] Hp.emp (Is (.tup [.str (doF d s).1, .int .i64 (doF d s).2])) := by
  refine ⟨⟨Try.f16, Try.func16, by decide +kernel, Option.isSome_iff_exists.1 (by decide +kernel)⟩, fun C us hC hl hargs _ => ?_⟩
  have main : Calls Try.prog 16 us C.w0 fun e w' => e = .returned (.tuple #[.string ⟨(doF d s).1.toArray⟩, .int .i64 (doF d s).2]) ∧ Below C.w0.heap.size C.w0 w' := by
    match us, hl, hargs with
    | ⟨[x, y]⟩, _, hargs =>
      have a0 := hargs 0 _ x rfl rfl
      have a1 := hargs 1 _ y rfl rfl
      have a0' := a0.mono (F' := OldB C.w0) (B' := fun _ => False) (fun b hb => (hC.F0 b hb).1) (fun b hb => .inl (hC.B b hb).1)
      obtain ⟨oa, c, rfl, hat⟩ := rel_parts a0 fun b hb => hb.elim (fun h => (hC.F0 b h).1) fun h => (hC.B b h).1
      cases a1
      have hsz : (⟨s.toArray⟩ : ByteArray).size = s.length := by show s.toArray.size = _; simp
      have hfits : Calls Try.prog 54 #[.slice oa d.length c, .int .i64 ((⟨s.toArray⟩ : ByteArray).size : Int)] C.w0 fun e w' => e = .returned (.int .i64 (fitsF d s.length)) ∧ Below C.w0.heap.size C.w0 w' := by
        rw [hsz]
        refine (calls_of_spec (sp_fits d hd s.length) rfl (fun i v u hv hu => ?_)).mono ?_
        · match i with
          | 0 => simp at hv hu; subst hv hu; exact a0'
          | 1 => simp at hv hu; subst hv hu; exact .int _ _
          | i + 2 => simp at hv
        · rintro e w' ⟨⟨u, F', rfl, hu⟩, hb⟩
          cases hu
          exact ⟨rfl, hb⟩
      unfold doF
      by_cases hf : fitsF d s.length = 0
      · rw [if_pos hf]
        rw [hf] at hfits
        obtain ⟨hz, hin⟩ := fitsF_ok hf
        obtain ⟨h1, h2, h3, h4, _, _⟩ := checkF_all hz
        exact Bld.do_ok d c ⟨s.toArray⟩ oa C.w0 h1 hat h2 (by rw [hsz]; exact hin.symm) (by rw [hsz]; omega) h4 hfits
      · rw [if_neg hf]
        exact Bld.do_bad d.length c ⟨s.toArray⟩ oa C.w0 _ hf hfits
  refine main.mono ?_
  rintro e w' ⟨rfl, hb⟩
  refine ⟨_, .tup [.str (doF d s).1, .int .i64 (doF d s).2], Hp.emp, C.F0, rfl, .tup _ _ rfl (fun i v u hv hu => ?_), ⟨fun k o hk => by simp [Hp.emp] at hk, fun k k' o o' b hk => by simp [Hp.emp] at hk, fun k o b hk => by simp [Hp.emp] at hk, fun b hb => .inl hb, fun b hb => hb, fun b hb' => Nat.lt_of_lt_of_le (hC.F0 b hb').1 hb.size, ?_⟩, rfl, rfl⟩
  · match i with
    | 0 => simp at hv hu; subst hv hu; exact .str _
    | 1 => simp at hv hu; subst hv hu; exact .int _ _
    | i + 2 => simp at hv
  · exact ⟨hb.os, hb.tape, hb.output, hb.size, fun b hlt _ => hb.block b hlt, fun b c e fr hc => ⟨c, fr, by rw [hb.block b (Array.getElem?_eq_some_iff.1 hc).1]; exact hc, rfl⟩⟩


end Go.Proofs.Ytobngncjflogcaa.AM
