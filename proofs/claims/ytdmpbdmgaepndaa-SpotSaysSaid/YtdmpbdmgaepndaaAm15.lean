/-
  Whole texts of functions: what a text asks, for the plain machine; and that it is enough.
-/
import Derived.Test.YtdmpbdmgaepndaaAmP
import Derived.Scope
import Derived.Deep.LoopGhost
set_option linter.unusedVariables false
set_option linter.unusedSimpArgs false
namespace Go.Proofs.Ytdmpbdmgaepndaa.AM
open Go
open Go.BigFrame

def trD (n : Nat) (d : Option Tmp) : Bool := match d with
  | some d => decide (d < n)
  | none => true
def trO (P : Program) (n : Nat) (ops : Array Oper) (o : Oper) : Option AO :=
  match trOp P o.op with
  | some ao =>
    if trD n o.dst then
      match o.guard with
      | none => some ⟨o.dst, none, ao⟩
      | some (j, want) => match (ops[j]?).bind (·.dst) with
        | some t => if t < n then some ⟨o.dst, some (t, want), ao⟩ else none
        | none => none
    else none
  | none => none
def trOs (P : Program) (n : Nat) (ops : Array Oper) : List Oper → Option (List AO)
  | [] => some []
  | o :: l => match trO P n ops o, trOs P n ops l with
    | some a, some m => some (a :: m)
    | _, _ => none

/-- one operation, guarded or not -/
def aoper (p : Prim) (C : CallT) (o : AO) (s : S) (K : S → Prop) : Prop := aopP p C o.op (Opd.ev s) s.h (o.d.getD 0) fun v h => K ((s.seth h).put o.d v)
def aone (p : Prim) (C : CallT) (o : AO) (s : S) (K : S → Prop) : Prop := match o.g with
  | none => aoper p C o s K
  | some (g, true) => match s.t g with
    | .bool b => br b (fun _ => aoper p C o (s.set g (.bool true)) K) (fun _ => K ((s.set g (.bool false)).put o.d .und))
    | .und => K (s.put o.d .und)
    | _ => False
  | some (g, false) => match s.t g with
    | .bool b => br b (fun _ => K ((s.set g (.bool true)).put o.d .und)) (fun _ => aoper p C o (s.set g (.bool false)) K)
    | .und => K (s.put o.d .und)
    | _ => False
def aops (p : Prim) (C : CallT) : List AO → S → (S → Prop) → Prop
  | [], s, K => K s
  | o :: l, s, K => aone p C o s fun s => aops p C l s K

/-- one state says all that another says -/
def Ent (s s' : S) : Prop := ∀ C n a w, Ctx.Ok C → Sat C n s a w → Sat C n s' a w

/-! states as short lists -/
def look : List (Nat × V) → Nat → V
  | [], _ => .junk
  | (k, v) :: l, i => if i = k then v else look l i
def lookH : List (Nat × Ob) → Nat → Option Ob
  | [], _ => none
  | (k, o) :: l, i => if i = k then some o else lookH l i
def St (l : List (Nat × V)) (h : List (Nat × Ob)) : S := ⟨look l, lookH h⟩
def agree : List (Nat × V) → S → Prop
  | [], _ => True
  | (k, v) :: l, s => s.t k = v ∧ agree l s
def agreeH : List (Nat × Ob) → S → Prop
  | [], _ => True
  | (k, o) :: l, s => s.h k = some o ∧ agreeH l s

theorem Ent.refl (s : S) : Ent s s := fun _ _ _ _ _ h => h
theorem Ent.trans {a b c : S} (h : Ent a b) (h' : Ent b c) : Ent a c := fun C n x w hC hs => h' C n x w hC (h C n x w hC hs)

theorem HSat.sub {C : Ctx} {F : Nat → Prop} {h h' : Hp} {w : World} (hs : HSat C F h w) (hh : ∀ k o, h' k = some o → h k = some o) : HSat C F h' w :=
  ⟨fun k o hk => hs.ob k o (hh k o hk), fun k k' o o' b hk hk' => hs.inj k k' o o' b (hh k o hk) (hh k' o' hk'), fun k o b hk => hs.live k o b (hh k o hk), hs.old, hs.new, hs.lt, hs.ev⟩

theorem Ent.of {s s' : S} (ht : ∀ i, s'.t i = s.t i ∨ s'.t i = .junk) (hh : ∀ k o, s'.h k = some o → s.h k = some o) : Ent s s' := by
  intro C n a w hC hs
  obtain ⟨F, h1, h2⟩ := hs.ex
  refine ⟨⟨F, h1.sub hh, fun i => ?_⟩, hs.df, hs.sz⟩
  rcases ht i with h | h
  · rw [h]; exact h2 i
  · rw [h]; exact .junk _

theorem look_agree {l : List (Nat × V)} {s : S} (h : agree l s) (i : Nat) : look l i = s.t i ∨ look l i = .junk := by
  induction l with
  | nil => exact .inr rfl
  | cons p l ih =>
    obtain ⟨k, v⟩ := p
    obtain ⟨h1, h2⟩ := h
    simp only [look]
    by_cases hi : i = k
    · rw [if_pos hi, hi]; exact .inl h1.symm
    · rw [if_neg hi]; exact ih h2
theorem lookH_agree {l : List (Nat × Ob)} {s : S} (h : agreeH l s) (k : Nat) (o : Ob) (hk : lookH l k = some o) : s.h k = some o := by
  induction l with
  | nil => cases hk
  | cons p l ih =>
    obtain ⟨k', o'⟩ := p
    obtain ⟨h1, h2⟩ := h
    simp only [lookH] at hk
    by_cases hi : k = k'
    · rw [if_pos hi] at hk; cases hk; rw [hi]; exact h1
    · rw [if_neg hi] at hk; exact ih h2 hk
theorem Ent.st {s : S} {l : List (Nat × V)} {h : List (Nat × Ob)} (h1 : agree l s) (h2 : agreeH h s) : Ent s (St l h) := Ent.of (look_agree h1) (lookH_agree h2)

/-- the next round's head -/
def Next {Y : Type} (L : Y → List (Nat × V)) (H : Y → List (Nat × Ob)) (μ : Y → Nat) (y : Y) (s : S) : Prop := ∃ s1, Ent s s1 ∧ ∃ y', agree (L y') s1 ∧ agreeH (H y') s1 ∧ μ y' < μ y

/-! every order that the edges allow -/
inductive Both (A B : Prop) : Prop
  | mk (a : A) (b : B) : Both A B
def hasN : List Nat → Nat → Bool
  | [], _ => false
  | x :: l, i => Nat.beq x i || hasN l i
def readyA (done : List Nat) : Nat → List (AO × List Nat) → List (Nat × AO)
  | _, [] => []
  | i, (o, ps) :: l => match !(hasN done i) && ps.all (hasN done) with
    | true => (i, o) :: readyA done (i + 1) l
    | false => readyA done (i + 1) l
def allA : List (Nat × AO) → (Nat → AO → Prop) → Prop
  | [], _ => True
  | [(i, o)], f => f i o
  | (i, o) :: x :: l, f => Both (f i o) (allA (x :: l) f)
def anyA (p : Prim) (T : CallT) (ops : List (AO × List Nat)) : Nat → List Nat → S → (S → Prop) → Prop
  | 0, _, s, K => K s
  | n + 1, done, s, K => allA (readyA done 0 ops) fun i o => aone p T o s fun s => anyA p T ops n (i :: done) s K

def setC (c : Opd) (s : S) (b : Bool) : S := match c with
  | .t i => s.set i (.bool b)
  | _ => s
def awp (p : Prim) (T : CallT) (T1 : CallT) : AC → S → (S → Prop) → (Nat → S → Prop) → (S → Prop) → Prop
  | .skip, s, N, _, _ => N s
  | .region false ops, s, N, _, _ => aops p T ops s N
  | .region true ops, s, N, _, _ => aops p T1 ops s N
  | .seq x y, s, N, X, R => awp p T T1 x s (fun s => awp p T T1 y s N X R) X R
  | .cond c x y, s, N, X, R => match c.ev s with
    | .bool t => br t (fun _ => awp p T T1 x (setC c s true) N X R) (fun _ => awp p T T1 y (setC c s false) N X R)
    | _ => False
  | .block id x, s, N, X, R => awp p T T1 x s N (fun j s => if j = id then N s else X j s) R
  | .loop x, s, _, X, R => ∃ (Y : Type) (L : Y → List (Nat × V)) (H : Y → List (Nat × Ob)) (μ : Y → Nat), (∃ s1, Ent s s1 ∧ ∃ y, agree (L y) s1 ∧ agreeH (H y) s1) ∧ ∀ y, awp p T T1 x (St (L y) (H y)) (Next L H μ y) X R
  | .exit id, s, _, X, _ => X id s
  | .ret, s, _, _, R => R s
  | .dregion ops, s, N, _, _ => anyA p T ops ops.length [] s N

section
variable {P : Program} {C : Ctx} {n : Nat} {w : World} {a : Act} {s : S}

theorem getD_put_same {a : Act} {d : Nat} {u : Value} (h : d < a.tmps.size) : (a.put (some d) u).tmps.getD d undef = u := by
  simp [Act.put, h]
theorem getD_put_other {a : Act} {d i : Nat} {u : Value} (h : i ≠ d) : (a.put (some d) u).tmps.getD i undef = a.tmps.getD i undef := by
  simp [Act.put, Array.getElem?_setIfInBounds, Ne.symm h]

theorem Sat.put (hs : Sat C n s a w) {w' : World} {F' : Nat → Prop} {h' : Hp} {v : V} {u : Value} {d : Option Tmp} (hd : trD n d = true) (hh : HSat C F' h' w') (hv : Rel F' C.B w' v u)
    (hk : ∀ i : Nat, Rel F' C.B w' (s.t i) (a.tmps.getD i undef)) : Sat C n ((s.seth h').put d v) (a.put d u) w' := by
  cases d with
  | none => exact ⟨⟨F', hh, hk⟩, hs.df, hs.sz⟩
  | some d =>
    have hd' : d < a.tmps.size := by rw [hs.sz]; simpa [trD] using hd
    refine ⟨⟨F', hh, fun i => ?_⟩, hs.df, by simp [Act.put, hs.sz]⟩
    simp only [S.put, S.set, S.seth, upd]
    by_cases hi : i = d
    · subst hi
      rw [if_pos rfl, getD_put_same hd']
      exact hv
    · rw [if_neg hi, getD_put_other hi]
      exact hk i

theorem Sat.setg (hs : Sat C n s a w) {g : Nat} {b : Bool} (hg : s.t g = .bool b) : Sat C n (s.set g (.bool b)) a w := by
  obtain ⟨F, hh, hr⟩ := hs.ex
  refine ⟨⟨F, hh, fun i => ?_⟩, hs.df, hs.sz⟩
  simp only [S.set, upd]
  by_cases hi : i = g
  · subst hi
    rw [if_pos rfl, ← hg]
    exact hr i
  · rw [if_neg hi]
    exact hr i

theorem yielded_of (hs : Sat C n s a w) {ops : Array Oper} {j t : Nat} {b : Bool} (hj : (ops[j]?).bind (·.dst) = some t) (ht : t < n) (hb : s.t t = .bool b) : yielded ops a.tmps j = some b := by
  obtain ⟨F, hh, hr⟩ := hs.ex
  have := hr t
  rw [hb] at this
  have hlt : t < a.tmps.size := by rw [hs.sz]; exact ht
  have hg : a.tmps.getD t undef = a.tmps[t] := by simp [hlt]
  rw [hg] at this
  generalize hu : a.tmps[t] = u at this
  cases this
  unfold yielded
  rw [hj]
  simp [hlt, hu]

theorem aops_cons {p : Prim} {T : CallT} {o : AO} {l : List AO} {K : S → Prop} : aops p T (o :: l) s K = aone p T o s fun s => aops p T l s K := rfl

theorem aoper_sound {T : CallT} (hT : CallOk P T) (hC : C.Ok) {ops : Array Oper} {o : Oper} {ao : AO} {op : AOp} {K : S → Prop} {Q : Exit → Act → World → Prop} (ht : trOp P o.op = some op) (hao : ao.op = op) (hd : trD n o.dst = true) (hdd : ao.d = o.dst) (hs : Sat C n s a w)
    (hK : aoper std T ao s K) : o.wp P a w (fun a' w' => ∃ s', Sat C n s' a' w' ∧ K s') Q := by
  obtain ⟨F, hh, hr⟩ := hs.ex
  subst hao
  refine Oper.wp_mono (fun a' w' hp => ?_) (aop_sound hT hC ht hh hr (aopP_imp hK))
  obtain ⟨u, v, h', F', rfl, hv, hh', hk, hKv⟩ := hp
  exact ⟨_, by rw [hdd]; exact Sat.put hs hd hh' hv fun i => hk _ _ (hr i), hKv⟩

theorem aone_sound {T : CallT} (hT : CallOk P T) (hC : C.Ok) {ops : Array Oper} {o : Oper} {ao : AO} {K : S → Prop} {Q : Exit → Act → World → Prop} {J : Act → World → Prop} (ht : trO P n ops o = some ao) (hs : Sat C n s a w) (hK : aone std T ao s K)
    (hJ : ∀ s' a' w', Sat C n s' a' w' → K s' → J a' w') : if Region.wanted o (yielded ops a.tmps) then o.wp P a w J Q ∨ (o.asks P a w ∧ LetsOut Q) else J (a.put o.dst undef) w := by
  unfold trO at ht
  split at ht
  · rename_i op hop
    split at ht
    · rename_i hd
      split at ht
      · rename_i hg
        cases ht
        have hw : Region.wanted o (yielded ops a.tmps) = true := by simp [Region.wanted, hg]
        rw [if_pos hw]
        refine .inl (Oper.wp_mono (fun a' w' ⟨s', h1, h2⟩ => hJ s' a' w' h1 h2) (aoper_sound hT hC (ops := ops) (ao := ⟨o.dst, none, op⟩) hop rfl hd rfl hs hK))
      · rename_i j want hg
        split at ht
        · rename_i t hj
          split at ht
          · rename_i htn
            cases ht
            have und : s.t t = .und → (if Region.wanted o (yielded ops a.tmps) then o.wp P a w J Q ∨ (o.asks P a w ∧ LetsOut Q) else J (a.put o.dst undef) w) ∨ ¬ K (s.put o.dst .und) := by
              intro hu
              by_cases hKu : K (s.put o.dst .und)
              · left
                obtain ⟨F, hh, hr⟩ := hs.ex
                have hlt : t < a.tmps.size := by rw [hs.sz]; exact htn
                have hru := hr t
                rw [hu] at hru
                have hgd : a.tmps.getD t undef = a.tmps[t] := by simp [hlt]
                rw [hgd] at hru
                generalize hv : a.tmps[t] = v at hru
                cases hru
                have hy : yielded ops a.tmps j = none := by unfold yielded; rw [hj]; simp [hlt, hv, undef]
                have hw : ¬ Region.wanted o (yielded ops a.tmps) = true := by simp [Region.wanted, hg, hy]
                rw [if_neg hw]
                exact hJ _ _ _ (Sat.put hs hd hh .und hr) hKu
              · exact .inr hKu
            have yes : s.t t = .bool want → aoper std T ⟨o.dst, some (t, want), op⟩ (s.set t (.bool want)) K → (if Region.wanted o (yielded ops a.tmps) then o.wp P a w J Q ∨ (o.asks P a w ∧ LetsOut Q) else J (a.put o.dst undef) w) := by
              intro hb hK
              have hy := yielded_of hs hj htn hb
              have hw : Region.wanted o (yielded ops a.tmps) = true := by simp [Region.wanted, hg, hy]
              rw [if_pos hw]
              exact .inl (Oper.wp_mono (fun a' w' ⟨s', h1, h2⟩ => hJ s' a' w' h1 h2) (aoper_sound hT hC (ops := ops) (ao := ⟨o.dst, some (t, want), op⟩) hop rfl hd rfl (hs.setg hb) hK))
            have no : ∀ b, b ≠ want → s.t t = .bool b → K ((s.set t (.bool b)).put o.dst .und) → (if Region.wanted o (yielded ops a.tmps) then o.wp P a w J Q ∨ (o.asks P a w ∧ LetsOut Q) else J (a.put o.dst undef) w) := by
              intro b hne hb hK
              have hy := yielded_of hs hj htn hb
              have hw : ¬ Region.wanted o (yielded ops a.tmps) = true := by simp [Region.wanted, hg, hy, hne]
              rw [if_neg hw]
              have hs2 := hs.setg hb
              obtain ⟨F, hh, hr⟩ := hs2.ex
              exact hJ _ _ _ (Sat.put hs2 hd hh .und hr) hK
            cases want with
            | true =>
              simp only [aone] at hK
              split at hK
              · rename_i b hb
                cases b with
                | true => exact yes hb hK
                | false => exact no false (by decide) hb hK
              · rename_i hu
                exact (und hu).resolve_right (fun h => h hK)
              · exact hK.elim
            | false =>
              simp only [aone] at hK
              split at hK
              · rename_i b hb
                cases b with
                | true => exact no true (by decide) hb hK
                | false => exact yes hb hK
              · rename_i hu
                exact (und hu).resolve_right (fun h => h hK)
              · exact hK.elim
          · cases ht
        · cases ht
    · cases ht
  · cases ht

theorem aops_sound {T : CallT} (hT : CallOk P T) (hC : C.Ok) {ops : Array Oper} {Q : Exit → Act → World → Prop} : ∀ (l : List Oper) (al : List AO) (s : S) (a : Act) (w : World) (K : S → Prop), trOs P n ops l = some al → Sat C n s a w → aops std T al s K →
    (∀ s' a' w', Sat C n s' a' w' → K s' → Q .normal a' w') → wpList P ops Q l a w := by
  intro l
  induction l with
  | nil =>
    intro al s a w K ht hs hK hQ
    simp only [trOs, Option.some.injEq] at ht
    subst ht
    exact hQ s a w hs hK
  | cons o l ih =>
    intro al s a w K ht hs hK hQ
    simp only [trOs] at ht
    split at ht
    · rename_i ao m ho hm
      cases ht
      rw [aops_cons] at hK
      exact aone_sound hT hC ho hs hK fun s' a' w' h1 h2 => ih m s' a' w' K hm h1 h2 hQ
    · cases ht
end
end Go.Proofs.Ytdmpbdmgaepndaa.AM
