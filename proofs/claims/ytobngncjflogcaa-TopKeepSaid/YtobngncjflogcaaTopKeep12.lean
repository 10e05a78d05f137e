/-
  Texts of the plain machine, put together: what the law TopKeep reaches.
-/
import Derived.Test.YtobngncjflogcaaTopKeep11
import Derived.Test.YtobngncjflogcaaTopKeep10
set_option linter.unusedVariables false
set_option linter.unusedSimpArgs false
namespace Go.Proofs.Ytobngncjflogcaa.AM
open Go Go.RowKit
set_option maxRecDepth 100000
set_option maxHeartbeats 2000000
theorem hd_new : HdOk 1 0 [] fun _ => 0 := ⟨by decide, by decide, by decide, fun _ _ => by decide⟩
theorem arc_new : Arc newD [] none ∧ newD.b = 0 ∧ newD.gn = 1 ∧ newD.old = false ∧ newD.tx = [] := by
  have hz : DkOk Z0 := by show diskT [] 0 [] 0 = 0; decide
  have ht : (headF 1 0 [] fun _ => 0).1 ++ (putFr 3 []).1 = encFs (flOf 1 0 [] (fun _ => 0) [] (some [])) := by
    rw [headF_fr hd_new, done_fr]
    show frB (headFr 1 0 [] fun _ => 0) ++ frB doneFr = _
    rw [enc_head, enc_done]
  have hl : (encFs (flOf 1 0 [] (fun _ => 0) [] (some []))).length ≤ 264462 := flOf_enc_len (o := some []) (by decide) (fun r hr => by cases hr) (by decide)
  obtain ⟨p1, p2, p3, p4⟩ := put_ok2 hz (.inl rfl) (t := encFs (flOf 1 0 [] (fun _ => 0) [] (some []))) (by show 0 + _ ≤ _; omega)
  obtain ⟨q1, q2, q3, q4⟩ := syn_ok2 p1 (.inl rfl)
  have e : newD = { synS (putS Z0 0 (encFs (flOf 1 0 [] (fun _ => 0) [] (some [])))) 0 with gn := 1, b := 0, tx := [], fs := fun _ => 0, tb := fun _ => 0, wh := true, gd := 0 } := by
    unfold newD
    rw [ht]; rfl
  obtain ⟨D, hD⟩ : ∃ D, newD = D := ⟨_, rfl⟩
  rw [e] at hD
  have k1 : D.b = 0 := by rw [← hD]
  have k2 : D.tx = [] := by rw [← hD]
  have k3 : D.gn = 1 := by rw [← hD]
  have k4 : D.sf = 0 := by rw [← hD]; rfl
  have k5 : D.fs = fun _ => 0 := by rw [← hD]
  have k6 : D.at' = 0 := by rw [← hD]; rfl
  have k7 : D.tb = fun _ => 0 := by rw [← hD]
  have k8 : D.old = false := by rw [← hD]; rfl
  have k9 : D.now = [] := by rw [← hD]; rfl
  have c1 : DkOk D := by rw [← hD]; exact q1
  have c2 : datOf D 0 = encFs (flOf 1 0 [] (fun _ => 0) [] (some [])) := by rw [← hD]; exact (q2 0).trans p2
  have c3 : safOf D 0 = ((encFs (flOf 1 0 [] (fun _ => 0) [] (some []))).length : Int) := by
    rw [← hD]
    have : safOf (synS (putS Z0 0 (encFs (flOf 1 0 [] (fun _ => 0) [] (some [])))) 0) 0 = _ := q3
    rw [p2] at this
    exact this
  have c4 : datOf D 1 = [] := by rw [← hD]; exact (q2 1).trans p3
  rw [e, hD]
  refine ⟨⟨.inl k6, c1, by rw [k3, k1, k2, k5]; exact hd_new, trivial, by rw [k7, k5]; exact EqT.refl _, by rw [k9, k2]; rfl, by rw [k4, k1]; decide, ⟨[], [], 0, rfl, ?_, Nat.le_refl _, ?_, ?_⟩, .inr ⟨k8, ?_⟩⟩, k1, k3, k8, k2⟩
  · rw [k6, k3, k1, k2, k5]; exact c2
  · rw [k6, k3, k1, k2, k5]; exact c3
  · rw [k4, k1]; decide
  · rw [k6]; exact c4
theorem shAddM_keeps (d : SC) (l : List Rev) (m : Option Mv) (r : Rev) : (shAddM d l m r).d.old = d.old ∧ (shAddM d l m r).d.gn = d.gn ∧ (shAddM d l m r).d.b = d.b ∧ (shAddM d l m r).d.tx = d.tx := by
  have hp : ∀ t, (put2 d m t).old = d.old ∧ (put2 d m t).gn = d.gn ∧ (put2 d m t).b = d.b ∧ (put2 d m t).tx = d.tx := by
    intro t
    unfold put2
    split
    · exact ⟨rfl, rfl, rfl, rfl⟩
    · split <;> exact ⟨rfl, rfl, rfl, rfl⟩
  unfold shAddM
  split
  · exact ⟨rfl, rfl, rfl, rfl⟩
  · split
    · exact ⟨rfl, rfl, rfl, rfl⟩
    · exact hp _
theorem arc_any {d : SC} {l : List Rev} {m : Option Mv} (h : Arc d l m) (r : Rev) : Arc (shAddM d l m r).d (shAddM d l m r).l m := by
  by_cases hn : nextF d.b d.tb l.length d.now.length r = 0
  · obtain ⟨_, h2, _, _, _, _, _, _, h9⟩ := arc_add h hn
    rw [h2]; exact h9
  · rw [arc_addE hn]; exact h
def remS (d : SC) (l : List Rev) : Option Mv → Nat
  | none => if d.old = true then 1 else 0
  | some m => if m.w = true then 2 else if m.c < 0 then (d.b + (l.length : Int) - m.f).toNat + 4 else (d.b + (l.length : Int) - m.f - m.c).toNat + 3
theorem rem_none (d : SC) (l : List Rev) : remS d l none = if d.old = true then 1 else 0 := rfl
theorem rem_some (d : SC) (l : List Rev) (f c : Int) (w : Bool) : remS d l (some ⟨f, c, w⟩) = if w = true then 2 else if c < 0 then (d.b + (l.length : Int) - f).toNat + 4 else (d.b + (l.length : Int) - f - c).toNat + 3 := rfl
def PhaseF (fl : Int) (d : SC) (m : Option Mv) : Prop := (∃ c w, m = some ⟨fl, c, w⟩) ∨ (m = none ∧ d.b = fl)
theorem step_rem {d : SC} {l : List Rev} {m : Option Mv} (h : Arc d l m) {fl : Int} (hp : PhaseF fl d m) :
    ((shStep d l m).v = false → m = none ∧ d.old = false ∧ shStep d l m = ⟨d, l, none, false⟩) ∧ ((shStep d l m).v = true → remS (shStep d l m).d (shStep d l m).l (shStep d l m).m + 1 = remS d l m) ∧ PhaseF fl (shStep d l m).d (shStep d l m).m := by
  obtain _ | ⟨f, c, w⟩ := m
  · rcases hp with ⟨c, w, h1⟩ | ⟨_, h1⟩
    · cases h1
    show (_ → _ ∧ _ ∧ step0 d l = _) ∧ (_ → _) ∧ PhaseF fl (step0 d l).d (step0 d l).m
    have es : shStep d l none = step0 d l := rfl
    rw [es]
    by_cases ho : d.old = true
    · have e : step0 d l = ⟨{ trmS d (1 - d.at') 0 with old := false }, l, none, true⟩ := by unfold step0; rw [if_pos ho]
      rw [e]
      refine ⟨fun h => (Bool.noConfusion h), fun _ => ?_, .inr ⟨rfl, h1⟩⟩
      show (if false = true then 1 else 0) + 1 = if d.old = true then 1 else 0
      rw [if_pos ho]; rfl
    · have e : step0 d l = ⟨d, l, none, false⟩ := by unfold step0; rw [if_neg ho]
      rw [e]
      exact ⟨fun _ => ⟨rfl, by cases hd : d.old; rfl; exact absurd hd ho, rfl⟩, fun h => (Bool.noConfusion h), .inr ⟨rfl, h1⟩⟩
  · have hf : f = fl := by
      rcases hp with ⟨c', w', h1⟩ | ⟨h1, _⟩
      · cases h1; rfl
      · cases h1
    subst hf
    obtain ⟨o1, hf, hg, ho⟩ := h.ot
    have hf : d.b ≤ f ∧ f ≤ d.b + (l.length : Int) := hf
    rcases ho with ⟨v1, v2, v3⟩ | ⟨v1, v2, v3, v4⟩ | ⟨v1, v2, v0, t1, t2, ks, v3, v4, v5, v6, v7⟩
    · have v1 : c = -1 := v1
      have v2 : w = false := v2
      subst v1 v2
      rw [shStep_neg (by decide)]
      refine ⟨fun h => Bool.noConfusion h, fun _ => ?_, .inl ⟨0, false, rfl⟩⟩
      show remS (putS (trmS d (1 - d.at') 0) (1 - d.at') _) l (some ⟨f, 0, false⟩) + 1 = _
      rw [rem_some, rem_some, if_neg (by decide), if_neg (by decide), if_neg (by decide), if_pos (by decide)]
      show (d.b + (l.length : Int) - f - 0).toNat + 3 + 1 = _
      omega
    · have v1 : 0 ≤ c := v1
      have v2 : w = false := v2
      have v3 : f + c ≤ d.b + (l.length : Int) := v3
      subst v2
      have hst : shStep d l (some ⟨f, c, false⟩) = step2 d l f c (fun r => (revF r).1) (putFr 3 []).1 := by
        show (if c < 0 then _ else _) = _
        rw [if_neg (by omega), if_pos rfl]
      rw [hst]
      unfold step2
      have er : remS d l (some ⟨f, c, false⟩) = (d.b + (l.length : Int) - f - c).toNat + 3 := by
        show (if false = true then 2 else if c < 0 then _ else _) = _
        rw [if_neg (by decide), if_neg (by omega)]
      rw [er]
      by_cases hlt : f + c < d.b + (l.length : Int)
      · rw [if_pos hlt]
        refine ⟨fun h => Bool.noConfusion h, fun _ => ?_, .inl ⟨c + 1, false, rfl⟩⟩
        show remS (putS d (1 - d.at') _) l (some ⟨f, c + 1, false⟩) + 1 = _
        rw [rem_some, if_neg (by decide), if_neg (by omega)]
        show (d.b + (l.length : Int) - f - (c + 1)).toNat + 3 + 1 = _
        omega
      · rw [if_neg hlt]
        refine ⟨fun h => Bool.noConfusion h, fun _ => ?_, .inl ⟨c, true, rfl⟩⟩
        show remS _ l (some ⟨f, c, true⟩) + 1 = _
        rw [rem_some, if_pos rfl]
        omega
    · have v1 : 0 ≤ c := v1
      have v2 : w = true := v2
      subst v2
      obtain ⟨q1, q2, q3, q4⟩ := syn_ok2 h.dk h.oat
      obtain ⟨F, hF, hr⟩ := arc_read h
      have hst : shStep d l (some ⟨f, c, true⟩) = step3 d ⟨d.gn + 1, f, txtAt d l f, F, tabG F f (sufAt d l f), sufAt d l f, true, ((datOf d (1 - d.at')).length : Int)⟩ := by
        show (if c < 0 then _ else _) = _
        rw [if_neg (by omega), if_neg (by simp), q2, hr]
      rw [hst]
      exact ⟨fun h => Bool.noConfusion h, fun _ => rfl, .inr ⟨rfl, rfl⟩⟩
theorem rem_le {d : SC} {l : List Rev} {m : Option Mv} (h : Arc d l m) : remS d l m ≤ 68 := by
  have := h.len
  obtain _ | ⟨f, c, w⟩ := m
  · rw [rem_none]; split <;> omega
  · obtain ⟨_, hf, _, _⟩ := h.ot
    have hf : d.b ≤ f ∧ f ≤ d.b + (l.length : Int) := hf
    rw [rem_some]
    split
    · omega
    · split <;> omega
theorem keptL_mem {a e : Int} {l : List Int} {head : Int} : ∀ (n : Nat), ∀ x ∈ keptL a e l head n, 0 ≤ x ∧ x < (n : Int)
  | 0, x, h => by cases h
  | n + 1, x, h => by
    unfold keptL at h
    rcases List.mem_append.1 h with h | h
    · have := keptL_mem n x h; omega
    · split at h
      · rw [List.mem_singleton.1 h]; omega
      · cases h
theorem keptL_head {a e : Int} {l : List Int} {head : Int} : ∀ (n : Nat), ∀ x ∈ keptL a e l head n, (keptL a e l head n).headD 0 ≤ x
  | 0, x, h => by cases h
  | n + 1, x, h => by
    have hm := keptL_mem (a := a) (e := e) (l := l) (head := head) n
    have ih := keptL_head (a := a) (e := e) (l := l) (head := head) n
    unfold keptL at h ⊢
    cases hk : keptL a e l head n with
    | nil =>
      rw [hk] at h
      rw [List.nil_append] at h ⊢
      split at h
      · rename_i hc
        rw [if_pos hc, List.mem_singleton.1 h]
        exact Int.le_refl _
      · cases h
    | cons y r =>
      rw [hk] at h hm ih
      show y ≤ x
      rcases List.mem_append.1 h with h | h
      · exact ih x h
      · split at h
        · rw [List.mem_singleton.1 h]
          have := hm y (by simp); omega
        · cases h
theorem of_all {p : Pol} {head : Int} (h : (ofF p head).2 = 0) : (∀ x ∈ (ofF p head).1, (flF p head).1 ≤ x ∧ x ≤ head) ∧ 0 ≤ (flF p head).1 ∧ (flF p head).1 ≤ head ∧ (ofF p head).1.length ≤ 641 ∧ (flF p head).2 = 0 := by
  obtain ⟨y, r, hy⟩ := ofF_ne h
  have hfl : flF p head = (y, 0) := by
    unfold flF
    rw [if_neg (fun g => g h), hy]; rfl
  have ho : (ofF p head).1 = keptL p.last p.every p.pins head (head.toNat + 1) ∧ 0 ≤ head ∧ head ≤ 640 := by
    unfold ofF at h ⊢
    split at h
    · rename_i hz; exact absurd h hz
    · rename_i hz
      rw [if_neg hz]
      split at h
      · contradiction
      · rename_i hy
        rw [if_neg hy]
        exact ⟨rfl, by omega, by omega⟩
  have hm : ∀ x ∈ (ofF p head).1, 0 ≤ x ∧ x ≤ head := by
    intro x hx
    rw [ho.1] at hx
    have := keptL_mem _ x hx
    omega
  have hh : ∀ x ∈ (ofF p head).1, y ≤ x := by
    intro x hx
    have e : (ofF p head).1.headD 0 = y := by rw [hy]; rfl
    rw [ho.1] at hx e
    have := keptL_head _ x hx
    rw [e] at this
    exact this
  rw [hfl]
  have hl := keptL_len p.last p.every p.pins head (head.toNat + 1)
  rw [← ho.1] at hl
  have h0 := hm y (by rw [hy]; simp)
  exact ⟨fun x hx => ⟨hh x hx, (hm x hx).2⟩, h0.1, h0.2, by omega, rfl⟩
theorem fl_same {p : Pol} {head : Int} : (flF p head).2 = (ofF p head).2 := by
  unfold flF
  split
  · rfl
  · rename_i h; exact (Decidable.of_not_not h).symm
end Go.Proofs.Ytobngncjflogcaa.AM

set_option linter.unusedVariables false
set_option linter.unusedSimpArgs false
namespace Go.Proofs.Ytobngncjflogcaa.AM
open Go Go.RowKit
set_option maxRecDepth 100000
set_option maxHeartbeats 2000000
theorem N900 : N3 900 1000900 901 := ⟨rfl, rfl, rfl⟩
theorem rt2_mv {k ka km bm : Nat} {m : Option Mv} (h : (!(Nat.beq km 0) && !(Nat.beq km 1000001)) = true) : rt2B k ka (mvN km bm m) = true := by
  cases m
  · rfl
  · show ((!(Nat.beq km 0) && !(Nat.beq km 1000001)) || _) = true
    rw [h]; rfl
theorem rt_mv {k km bm : Nat} {m : Option Mv} (h : (!(Nat.beq km 0)) = true) : rtB k (mvN km bm m) = true := by
  cases m
  · rfl
  · show ((!(Nat.beq km 0)) || _) = true
    rw [h]; rfl
/-- a shop as a ghost of a loop -/
structure GSh (bl : Nat) where
  d : SC
  l : List Rev
  m : Option Mv
  ba : Option Nat
  n : Nat
  rows : List (List V)
  mv : V
  mo : Ob
  bm : Nat
  hn : n = l.length
  hrows : rows = l.map encRev
  hmv : mv = mvN 901 bm m
  hmo : mo = obMv bm m
  arc : Arc d l m
structure YK1 (bl : Nat) (L : List Rev) extends GSh bl where
  i : Nat
  k : Int
  hi : i ≤ L.length
  hk : k = (i : Int)
  hm : m = none
  hb : d.b = 0
  ho : d.old = false
  hg : d.gn = 1
structure YK2 (ol : List Int) (tF : Int → List UInt8) where
  i : Nat
  k : Int
  bt : Option Nat
  nt : Nat
  rt : List (List V)
  hi : i ≤ ol.length
  hk : k = (i : Int)
  hnt : nt = i
  hrt : rt = strRows ((ol.take i).map tF)
structure YK3 (bl : Nat) (fl : Int) (d0 : SC) (l0 : List Rev) extends GSh bl where
  c : Int
  same : Same d0 l0 d l
  ph : PhaseF fl d m
  hc : c + (remS d l m : Int) ≤ 68
  hc0 : 0 ≤ c
structure YK4 (ol : List Int) where
  i : Nat
  k : Int
  hi : i ≤ ol.length
  hk : k = (i : Int)
def ac_tkp : AC := .seq (.region false [
    ⟨some 3, none, .box 53 3 (.t 1)⟩,
    ⟨some 4, none, .mov (.c (.bool false))⟩])
  (.seq (.region false [
    ⟨some 22, none, .call 17 []⟩,
    ⟨some 5, none, .mov (.t 22)⟩])
  (.seq (.seq (.region false [
    ⟨some 23, none, .call 11 []⟩,
    ⟨some 24, none, .not (.t 23)⟩,
    ⟨some 25, none, .mov (.t 24)⟩,
    ⟨some 26, some (25, false), .mov (.t 5)⟩,
    ⟨some 27, some (25, false), .eqp false (.t 26) (.c (.pointer none))⟩,
    ⟨some 28, none, .pick (.t 25) (.c (.bool true)) (.t 27)⟩])
  (.cond (.t 28)
    (.seq (.region false [
      ⟨some 4, none, .mov (.c (.bool false))⟩])
    (.ret))
    (.skip)))
  (.seq (.seq (.region false [
    ⟨some 29, none, .mov (.t 0)⟩,
    ⟨some 30, none, .len false (.t 29)⟩,
    ⟨some 31, none, .mov (.c (.int .i64 0))⟩])
  (.block 0 (.loop (.seq (.region false [
      ⟨some 32, none, .bin .lss (.t 31) (.t 30)⟩])
    (.seq (.cond (.t 32)
      (.skip)
      (.exit 0))
    (.seq (.block 1 (.seq (.region false [
      ⟨some 33, none, .iaddr 3 (.t 29) (.t 31)⟩,
      ⟨some 34, none, .loadn 3 (.t 33)⟩,
      ⟨some 7, none, .alloc 45 [(.int .i64 0), (.int .i64 0), (.slice none 0 0)]⟩,
      ⟨none, none, .store 3 (.t 7) (.t 34)⟩])
    (.region false [
      ⟨some 35, none, .mov (.t 5)⟩,
      ⟨some 36, none, .loadn 3 (.t 7)⟩,
      ⟨some 37, none, .call 18 [(.t 35), (.t 36)]⟩])))
    (.region false [
      ⟨some 38, none, .bin .add (.t 31) (.c (.int .i64 1))⟩,
      ⟨some 31, none, .mov (.t 38)⟩])))))))
  (.seq (.region true [
    ⟨some 40, none, .loadn 3 (.t 3)⟩,
    ⟨some 41, none, .mov (.t 5)⟩,
    ⟨some 42, none, .call 20 [(.t 41)]⟩,
    ⟨some 43, none, .call 19 [(.t 40), (.t 42)]⟩,
    ⟨some 39, none, .mov (.t 43)⟩,
    ⟨some 44, none, .ext 0 (.t 39)⟩,
    ⟨some 45, none, .ext 1 (.t 39)⟩,
    ⟨some 8, none, .mov (.t 44)⟩,
    ⟨some 9, none, .mov (.t 45)⟩])
  (.seq (.region true [
    ⟨some 47, none, .loadn 3 (.t 3)⟩,
    ⟨some 48, none, .mov (.t 5)⟩,
    ⟨some 49, none, .call 20 [(.t 48)]⟩,
    ⟨some 50, none, .call 21 [(.t 47), (.t 49)]⟩,
    ⟨some 46, none, .mov (.t 50)⟩,
    ⟨some 51, none, .ext 0 (.t 46)⟩,
    ⟨some 52, none, .ext 1 (.t 46)⟩,
    ⟨some 10, none, .mov (.t 51)⟩,
    ⟨some 11, none, .mov (.t 52)⟩])
  (.seq (.seq (.region false [
    ⟨some 53, none, .mov (.t 9)⟩,
    ⟨some 54, none, .bin .neq (.t 53) (.c (.int .i64 0))⟩,
    ⟨some 55, none, .mov (.t 54)⟩,
    ⟨some 56, some (55, false), .mov (.t 11)⟩,
    ⟨some 57, some (55, false), .bin .neq (.t 56) (.c (.int .i64 0))⟩,
    ⟨some 58, none, .pick (.t 55) (.c (.bool true)) (.t 57)⟩])
  (.cond (.t 58)
    (.seq (.region false [
      ⟨some 59, none, .mov (.t 9)⟩,
      ⟨some 60, none, .mov (.t 11)⟩,
      ⟨some 61, none, .bin .eql (.t 59) (.t 60)⟩,
      ⟨some 4, none, .mov (.t 61)⟩])
    (.ret))
    (.skip)))
  (.seq (.region false [
    ⟨some 12, none, .mov (.c (.slice none 0 0))⟩])
  (.seq (.seq (.region false [
    ⟨some 62, none, .mov (.t 8)⟩,
    ⟨some 63, none, .len false (.t 62)⟩,
    ⟨some 64, none, .mov (.c (.int .i64 0))⟩])
  (.block 2 (.loop (.seq (.region false [
      ⟨some 65, none, .bin .lss (.t 64) (.t 63)⟩])
    (.seq (.cond (.t 65)
      (.skip)
      (.exit 2))
    (.seq (.block 3 (.seq (.region false [
      ⟨some 66, none, .iaddr 1 (.t 62) (.t 64)⟩,
      ⟨some 67, none, .load1 (.t 66)⟩,
      ⟨some 14, none, .mov (.t 67)⟩])
    (.seq (.region false [
      ⟨some 69, none, .mov (.t 5)⟩,
      ⟨some 70, none, .mov (.t 14)⟩,
      ⟨some 71, none, .call 22 [(.t 69), (.t 70)]⟩,
      ⟨some 68, none, .mov (.t 71)⟩,
      ⟨some 72, none, .ext 0 (.t 68)⟩,
      ⟨some 73, none, .ext 1 (.t 68)⟩,
      ⟨some 15, none, .mov (.t 72)⟩,
      ⟨some 16, none, .mov (.t 73)⟩])
    (.seq (.seq (.region false [
      ⟨some 74, none, .mov (.t 16)⟩,
      ⟨some 75, none, .bin .neq (.t 74) (.c (.int .i64 0))⟩])
    (.cond (.t 75)
      (.seq (.region false [
        ⟨some 4, none, .mov (.c (.bool false))⟩])
      (.ret))
      (.skip)))
    (.region false [
      ⟨some 76, none, .mov (.t 12)⟩,
      ⟨some 77, none, .mov (.t 15)⟩,
      ⟨some 78, none, .bslice 9 1 [(.t 77)]⟩,
      ⟨some 79, none, .append 9 1 16 (.t 76) (.t 78)⟩,
      ⟨some 12, none, .mov (.t 79)⟩])))))
    (.region false [
      ⟨some 80, none, .bin .add (.t 64) (.c (.int .i64 1))⟩,
      ⟨some 64, none, .mov (.t 80)⟩])))))))
  (.seq (.seq (.region false [
    ⟨some 81, none, .mov (.t 5)⟩,
    ⟨some 82, none, .mov (.t 10)⟩,
    ⟨some 83, none, .call 23 [(.t 81), (.t 82)]⟩,
    ⟨some 84, none, .bin .neq (.t 83) (.c (.int .i64 0))⟩])
  (.cond (.t 84)
    (.seq (.region false [
      ⟨some 4, none, .mov (.c (.bool false))⟩])
    (.ret))
    (.skip)))
  (.seq (.seq (.region false [
    ⟨some 17, none, .mov (.c (.int .i64 0))⟩])
  (.block 4 (.loop (.seq (.seq (.region false [
      ⟨some 85, none, .mov (.t 5)⟩,
      ⟨some 86, none, .call 24 [(.t 85)]⟩])
    (.cond (.t 86)
      (.skip)
      (.exit 4)))
    (.seq (.block 5 (.seq (.region false [
      ⟨some 89, none, .mov (.t 17)⟩,
      ⟨some 90, none, .bin .gtr (.t 89) (.c (.int .i64 80))⟩])
    (.cond (.t 90)
      (.seq (.region false [
        ⟨some 4, none, .mov (.c (.bool false))⟩])
      (.ret))
      (.skip))))
    (.region false [
      ⟨some 87, none, .mov (.t 17)⟩,
      ⟨some 88, none, .bin .add (.t 87) (.c (.int .i64 1))⟩,
      ⟨some 17, none, .mov (.t 88)⟩]))))))
  (.seq (.seq (.region false [
    ⟨some 91, none, .mov (.t 8)⟩,
    ⟨some 92, none, .len false (.t 91)⟩,
    ⟨some 93, none, .mov (.c (.int .i64 0))⟩])
  (.block 6 (.loop (.seq (.region false [
      ⟨some 94, none, .bin .lss (.t 93) (.t 92)⟩])
    (.seq (.cond (.t 94)
      (.skip)
      (.exit 6))
    (.seq (.block 7 (.seq (.region false [
      ⟨some 95, none, .mov (.t 93)⟩,
      ⟨some 96, none, .iaddr 1 (.t 91) (.t 93)⟩,
      ⟨some 97, none, .load1 (.t 96)⟩,
      ⟨some 18, none, .mov (.t 95)⟩,
      ⟨some 19, none, .mov (.t 97)⟩])
    (.seq (.region false [
      ⟨some 99, none, .mov (.t 5)⟩,
      ⟨some 100, none, .mov (.t 19)⟩,
      ⟨some 101, none, .call 22 [(.t 99), (.t 100)]⟩,
      ⟨some 98, none, .mov (.t 101)⟩,
      ⟨some 102, none, .ext 0 (.t 98)⟩,
      ⟨some 103, none, .ext 1 (.t 98)⟩,
      ⟨some 20, none, .mov (.t 102)⟩,
      ⟨some 21, none, .mov (.t 103)⟩])
    (.seq (.region false [
      ⟨some 104, none, .mov (.t 21)⟩,
      ⟨some 105, none, .bin .neq (.t 104) (.c (.int .i64 0))⟩,
      ⟨some 106, none, .mov (.t 105)⟩,
      ⟨some 107, some (106, false), .mov (.t 20)⟩,
      ⟨some 108, some (106, false), .mov (.t 12)⟩,
      ⟨some 109, some (106, false), .mov (.t 18)⟩,
      ⟨some 110, some (106, false), .iaddr 1 (.t 108) (.t 109)⟩,
      ⟨some 111, some (106, false), .load1 (.t 110)⟩,
      ⟨some 112, some (106, false), .bin .neq (.t 107) (.t 111)⟩,
      ⟨some 113, none, .pick (.t 106) (.c (.bool true)) (.t 112)⟩])
    (.cond (.t 113)
      (.seq (.region false [
        ⟨some 4, none, .mov (.c (.bool false))⟩])
      (.ret))
      (.skip))))))
    (.region false [
      ⟨some 114, none, .bin .add (.t 93) (.c (.int .i64 1))⟩,
      ⟨some 93, none, .mov (.t 114)⟩])))))))
  (.seq (.region false [
    ⟨some 116, none, .mov (.t 5)⟩,
    ⟨some 117, none, .mov (.t 10)⟩,
    ⟨some 118, none, .bin .sub (.t 117) (.c (.int .i64 1))⟩,
    ⟨some 119, none, .call 22 [(.t 116), (.t 118)]⟩,
    ⟨some 115, none, .mov (.t 119)⟩,
    ⟨some 120, none, .ext 0 (.t 115)⟩,
    ⟨some 121, none, .ext 1 (.t 115)⟩,
    ⟨some 9, none, .mov (.t 121)⟩])
  (.seq (.region false [
    ⟨some 122, none, .mov (.t 9)⟩,
    ⟨some 123, none, .bin .eql (.t 122) (.c (.int .i64 9))⟩,
    ⟨some 124, none, .mov (.t 123)⟩,
    ⟨some 125, some (124, true), .mov (.t 5)⟩,
    ⟨some 126, some (124, true), .call 25 [(.t 125)]⟩,
    ⟨some 127, some (124, true), .mov (.t 10)⟩,
    ⟨some 128, some (124, true), .bin .eql (.t 126) (.t 127)⟩,
    ⟨some 129, none, .pick (.t 124) (.t 128) (.c (.bool false))⟩,
    ⟨some 4, none, .mov (.t 129)⟩])
  (.ret))))))))))))))
theorem ok_tkp : FnOk Try.prog 5 Try.f5 ac_tkp [.t 4] 2 drawD := ⟨Try.func5, by decide +kernel, by kernel_rfl, by kernel_rfl, by decide +kernel⟩
theorem vc_tkp (P : Prim) (hP : P = std) (T T1 : CallT) (hnew : SNewC T) (hbeg : Ans T 11 [] (.bool true)) (hadd : SAddC T) (hhd1 : SHeadC T1) (htext : STextC T) (hkeep : SKeep3C T) (hstep : SStep3C T) (hbase : SBaseC T)
    (L : List Rev) (hL : RevsOk L) (rows : List (List V)) (hrows : rows = L.map encRev) (pl pe : Int) (pp : List (List V)) (oF : Int → List Int) (oE fF : Int → Int)
    (hof : ∀ head rs, rs = iRows (oF head) → Ans T1 19 [.agg [.int .i64 pl, .int .i64 pe, .sl false 1 pp], .int .i64 head] (.tup [.sl false 1 rs, .int .i64 (oE head)]))
    (hfl : ∀ head, Ans T1 21 [.agg [.int .i64 pl, .int .i64 pe, .sl false 1 pp], .int .i64 head] (.tup [.int .i64 (fF head), .int .i64 (oE head)]))
    (hoe : ∀ head, oE head = 0 → (∀ x ∈ oF head, fF head ≤ x ∧ x ≤ head) ∧ 0 ≤ fF head ∧ fF head ≤ head ∧ (oF head).length ≤ 641)
    (R : S → Prop) (hR : ∀ s s' b, b = true → Ent s s' → Ret [.t 4] [.bool b] s' → R s) : awp P T T1 ac_tkp (S0 [.sl false 3 rows, .agg [.int .i64 pl, .int .i64 pe, .sl false 1 pp]] Hp.emp) R (fun _ _ => False) R := by
  have hl1 : P.rlen rows = (L.length : Int) := by rw [rlen_eq hP, hrows]; simp
  have hLm : L.length ≤ maxLen := hL.1
  cbv
  repeat' (first
    | (refine And.intro (by first | assumption | decide) ?_; try cbv)
    | (intro β2; try cbv))
  refine hnew 900 1000900 _ _ rfl rfl rfl rfl fun bl d0 hd0 => ?_
  obtain ⟨a1, a2, a3, a4, a5⟩ := arc_new
  rw [← hd0] at a1 a2 a3 a4 a5
  cbv
  repeat' (first
    | (refine And.intro (by first | assumption | decide) ?_; try cbv)
    | (intro β2; try cbv))
  refine hbeg _ _ ?_
  cbv
  repeat' (first
    | (refine And.intro (by first | assumption | decide) ?_; try cbv)
    | (intro β2; try cbv))
  refine ⟨YK1 bl L, fun y => [(3, .ptr 3 (some β2) 3 0 0), (5, .ptr 900 (some bl) 47 0 0), (29, .sl false 3 rows), (30, .int .i64 (P.rlen rows)), (31, .int .i64 y.k)],
    fun y => [(900, obSh bl (rowS y.d (.own 1000900 y.ba 3 y.n) y.mv)), (1000900, obV y.ba y.rows), (901, y.mo), (3, ⟨some β2, 53, 3, [[.int .i64 pl, .int .i64 pe, .sl false 1 pp]]⟩)], fun y => L.length - y.i,
    ⟨_, Ent.nilOb _ 901 124 3, ⟨⟨d0, [], none, none, 0, [], .nil, ⟨none, 124, 3, []⟩, 0, rfl, rfl, rfl, rfl, a1⟩, 0, 0, Nat.zero_le _, rfl, rfl, a2, a4, a3⟩, ⟨rfl, rfl, rfl, rfl, rfl, trivial⟩, ⟨rfl, rfl, rfl, rfl, trivial⟩⟩, ?_⟩
  rintro ⟨⟨d, ls, m, ba, n, rows2, mv, mo, bm, hn, hrows2, hmv, hmo, harc⟩, i, k, hi, hk, hm, hdb, hod, hgn⟩
  cbv
  have hm : m = none := hm
  have hdb : d.b = 0 := hdb
  have hod : d.old = false := hod
  have hgn : d.gn = 1 := hgn
  subst hm
  have hshok := harc.shOk
  have hlen := harc.len
  refine br_cases (fun g => ?_) (fun g => ?_)
  · have g1 : k < P.rlen rows := lt_t hP g
    rw [hl1] at g1
    have hil : i < L.length := by ((try simp only [nc] at *); omega)
    obtain ⟨r, hrr⟩ : ∃ r, L[i]? = some r := ⟨_, List.getElem?_eq_getElem hil⟩
    have hrow : P.row rows (P.nat k) [.int .i64 r.who, .int .i64 r.seq, .sl false 3 (r.delta.map encPart)] := row_of hP hk (by rw [hrows, List.getElem?_map, hrr]; rfl)
    have hrok := (hL.2 r (List.mem_of_getElem? hrr)).2.2
    obtain ⟨dr, hdr⟩ : ∃ dr, dr = r.delta.map encPart := ⟨_, rfl⟩
    obtain ⟨w, hw⟩ : ∃ w, w = r.who := ⟨_, rfl⟩
    obtain ⟨sq, hsq⟩ : ∃ w, w = r.seq := ⟨_, rfl⟩
    rw [← hdr, ← hw, ← hsq] at hrow
    have q1 : P.leP 0 k := le0 hP (by rw [hk]; exact Int.natCast_nonneg _)
    have q2 : P.ltP k (P.rlen rows) := ltI hP (by rw [hl1]; exact g1)
    have q3 : P.i64 (P.add k 1) := by rw [add_eq hP]; exact i64I hP (by have hm : maxLen = 9223372036854775807 := by decide
                                                                        ((try simp only [nc] at *); omega))
    have q4 : P.add k 1 = ((i + 1 : Nat) : Int) := by rw [add_eq hP, hk]; simp
    cbv
    repeat' (first
    | (refine And.intro (by first | assumption | decide) ?_; try cbv)
    | (intro β2; try cbv))
    refine ⟨_, hrow, ?_⟩
    cbv
    repeat' (first
    | (refine And.intro (by first | assumption | decide) ?_; try cbv)
    | (intro β2; try cbv))
    refine hadd 900 1000900 901 bl d ba n rows2 ls mv mo bm none r w sq dr _ _ ⟨hn, hrows2, hmv, hmo, rfl, rfl, rfl, N900⟩ ⟨hw, hsq, hdr⟩ hrok hshok.b hshok.at' fun v e ba' d' l' n' rows' bm' mv' mo' hA hn' hrows' hmv' hmo' => ?_
    have hk1 := shAddM_keeps d ls none r
    have hk2 := arc_any harc r
    rw [← hA] at hk1 hk2
    cbv
    repeat' (first
    | (refine And.intro (by first | assumption | decide) ?_; try cbv)
    | (intro β2; try cbv))
    refine ⟨_, Ent.refl _, ⟨⟨d', l', none, ba', n', rows', mv', mo', bm', hn', hrows', hmv', hmo', hk2⟩, i + 1, _, hil, q4, rfl, hk1.2.2.1.trans hdb, hk1.1.trans hod, hk1.2.1.trans hgn⟩, ⟨rfl, rfl, rfl, rfl, rfl, trivial⟩, ⟨rfl, rfl, rfl, rfl, trivial⟩, ?_⟩
    show L.length - (i + 1) < L.length - i; omega
  clear g
  -- what the policy keeps
  have hb4 : 0 ≤ d.b ∧ d.b ≤ 4294967295 := ⟨hshok.b.1, Int.le_trans hshok.b.2 (by decide)⟩
  have hmq : MQ mv := by rw [hmv]; exact mvN_mq _ _ _
  have hr1 : rtB 900 mv = true := by rw [hmv]; exact rt_mv rfl
  have hr2 : rt2B 900 1000900 mv = true := by rw [hmv]; exact rt2_mv rfl
  have hn2 : n ≤ 1000 := by rw [hn]; exact Nat.le_trans hshok.len (by decide)
  cbv
  repeat' (first
    | (refine And.intro (by first | assumption | decide) ?_; try cbv)
    | (intro β2; try cbv))
  refine hhd1 900 bl d 1000900 ba n mv _ _ hb4 hn2 hmq.1 rfl hr1 rfl fun q hq => ?_
  obtain ⟨rs, hrs⟩ : ∃ rs, rs = iRows (oF q) := ⟨_, rfl⟩
  cbv
  repeat' (first
    | (refine And.intro (by first | assumption | decide) ?_; try cbv)
    | (intro β2; try cbv))
  refine hof q rs hrs _ _ ?_
  cbv
  repeat' (first
    | (refine And.intro (by first | assumption | decide) ?_; try cbv)
    | (intro β2; try cbv))
  refine hhd1 900 bl d 1000900 ba n mv _ _ hb4 hn2 hmq.1 rfl hr1 rfl fun q' hq' => ?_
  obtain rfl : q' = q := by rw [hq', hq]
  cbv
  repeat' (first
    | (refine And.intro (by first | assumption | decide) ?_; try cbv)
    | (intro β2; try cbv))
  refine hfl q' _ _ ?_
  obtain ⟨e, he⟩ : ∃ e, oE q' = e := ⟨_, rfl⟩
  obtain ⟨fl, hfle⟩ : ∃ e, fF q' = e := ⟨_, rfl⟩
  rw [he, hfle]
  cbv
  repeat' (first
    | (refine And.intro (by first | assumption | decide) ?_; try cbv)
    | (intro β2; try cbv))
  refine br_cases (fun g => ?_) (fun g => ?_)
  · cbv
    repeat' (first
    | (refine And.intro (by first | assumption | decide) ?_; try cbv)
    | (intro β2; try cbv))
    exact hR _ _ _ (eq_T hP rfl) (Ent.refl _) rfl
  have g1 : e = 0 := ne_f hP g
  obtain ⟨ho1, ho2, ho3, ho4⟩ := hoe q' (he.trans g1)
  rw [hfle] at ho1 ho2 ho3
  obtain ⟨ol, hol⟩ : ∃ ol, oF q' = ol := ⟨_, rfl⟩
  rw [hol] at ho1 ho4 hrs
  have hhd : q' = d.b + (ls.length : Int) := by rw [hq, hn]
  cbv
  repeat' (first
    | (refine And.intro (by first | assumption | decide) ?_; try cbv)
    | (intro β2; try cbv))
  refine br_ff (ne_F hP g1) ?_
  cbv
  repeat' (first
    | (refine And.intro (by first | assumption | decide) ?_; try cbv)
    | (intro β2; try cbv))
  have hlr : P.rlen rs = (ol.length : Int) := by rw [rlen_eq hP, hrs]; simp [iRows]
  -- their texts
  refine ⟨YK2 ol (txtAt d ls), fun y => [(5, .ptr 900 (some bl) 47 0 0), (8, .sl false 1 rs), (10, .int .i64 fl), (12, .own 1000079 y.bt 1 y.nt), (62, .sl false 1 rs), (63, .int .i64 (P.rlen rs)), (64, .int .i64 y.k)],
    fun y => [(900, obSh bl (rowS d (.own 1000900 ba 3 n) mv)), (1000900, obV ba rows2), (901, mo), (1000079, ⟨y.bt, 9, 1, y.rt⟩)], fun y => ol.length - y.i,
    ⟨_, Ent.nil (i := 12) (k := 1000079) (ty := 9) (sz := 1) rfl rfl, ⟨0, 0, none, 0, [], Nat.zero_le _, rfl, rfl, by simp [strRows]⟩, ⟨rfl, rfl, rfl, rfl, rfl, rfl, rfl, trivial⟩, ⟨rfl, rfl, rfl, rfl, trivial⟩⟩, ?_⟩
  rintro ⟨i2, k2, bt, nt, rt, hi2, hk2, hnt, hrt⟩
  cbv
  refine br_cases (fun g => ?_) (fun g => ?_)
  · have g1 : k2 < P.rlen rs := lt_t hP g
    rw [hlr] at g1
    have hil : i2 < ol.length := by ((try simp only [nc] at *); omega)
    obtain ⟨x, hx⟩ : ∃ x, ol[i2]? = some x := ⟨_, List.getElem?_eq_getElem hil⟩
    have hrow : P.row rs (P.nat k2) [.int .i64 x] := row_of hP hk2 (by rw [hrs, iRows, List.getElem?_map, hx]; rfl)
    have hxb := ho1 x (List.mem_of_getElem? hx)
    have hst := stext_at harc (f := x) ⟨by rw [hdb]; omega, by rw [← hhd]; exact hxb.2⟩
    have hnx : rt ++ [[.str (txtAt d ls x)]] = strRows ((ol.take (i2 + 1)).map (txtAt d ls)) := by
      rw [hrt, List.take_add_one, hx]
      simp [strRows]
    obtain ⟨tx, htx⟩ : ∃ t, txtAt d ls x = t := ⟨_, rfl⟩
    rw [htx] at hst hnx
    have q1 : P.leP 0 k2 := le0 hP (by rw [hk2]; exact Int.natCast_nonneg _)
    have q2 : P.ltP k2 (P.rlen rs) := ltI hP (by rw [hlr]; exact g1)
    have q3 : P.i64 (P.add k2 1) := by rw [add_eq hP]; exact i64I hP (by ((try simp only [nc] at *); omega))
    have q4 : P.add k2 1 = ((i2 + 1 : Nat) : Int) := by rw [add_eq hP, hk2]; simp
    have f4 : P.neP rt nt := neP_of hP _ _ (by rw [hrt, hnt]; simp [strRows]; omega)
    have f5 : ∀ r, P.bytes (P.add (P.int nt) (P.rlen [r])) 16 := by intro r; subst hP; show ((nt : Int) + 1) * 16 ≤ _; ((try simp only [nc] at *); omega)
    have f6 : ∀ r, P.neP [r] 1 := by intro r; subst hP; rfl
    have f7 : ∀ r, P.rapp rt [r] = rt ++ [r] := by intro r; subst hP; rfl
    have f8 : ∀ r : List V, P.nadd nt (P.rlenN [r]) = i2 + 1 := by intro r; rw [← hnt]; subst hP; rfl
    cbv
    repeat' (first
    | (refine And.intro (by first | assumption | decide) ?_; try cbv)
    | (intro β2; try cbv))
    refine ⟨_, hrow, ?_⟩
    cbv
    repeat' (first
    | (refine And.intro (by first | assumption | decide) ?_; try cbv)
    | (intro β2; try cbv))
    refine htext 900 1000900 bl d ba n rows2 ls mv x _ _ hrows2 hn hshok.rv hb4 (by rw [← hn]; exact hn2) hmq rfl hr2 rfl rfl fun x' y' hx' hy' => ?_
    rw [hst] at hx' hy'
    have hx' : x' = tx := hx'
    have hy' : y' = 0 := hy'
    subst hx'
    cbv
    repeat' (first
    | (refine And.intro (by first | assumption | decide) ?_; try cbv)
    | (intro β2; try cbv))
    refine br_ff (ne_F hP hy') ?_
    cbv
    repeat' (first
      | (refine And.intro (by first | assumption | decide | exact f6 _ | exact f5 _) ?_; try cbv)
      | (intro β4; try cbv))
    rw [f7, f8]
    refine ⟨_, Ent.refl _, ⟨i2 + 1, _, _, i2 + 1, _, hil, q4, rfl, hnx⟩, ⟨rfl, rfl, rfl, rfl, rfl, rfl, rfl, trivial⟩, ⟨rfl, rfl, rfl, rfl, trivial⟩, ?_⟩
    show ol.length - (i2 + 1) < ol.length - i2; omega
  have g2 : ¬ k2 < P.rlen rs := lt_f hP g
  rw [hlr] at g2
  have hil2 : i2 = ol.length := by ((try simp only [nc] at *); omega)
  rw [hil2, List.take_length] at hrt
  rw [hil2] at hnt
  -- the move
  have u1 : ¬ fl < d.b := by omega
  have u2 : ¬ d.b + (ls.length : Int) < fl := by rw [← hhd]; omega
  have hkp : shKeep d ls.length none fl = (some ⟨fl, -1, false⟩, 0) := by
    unfold shKeep thereT
    rw [if_neg (by rw [hod]; simp), if_neg (by rw [if_neg u1, if_neg u2]; exact fun h => h rfl)]
  have harc2 : Arc d ls (some ⟨fl, -1, false⟩) := by
    have := arc_keep harc (by omega) fl
    rw [hkp] at this
    exact this
  have hrem0 := rem_le harc2
  cbv
  repeat' (first
    | (refine And.intro (by first | assumption | decide) ?_; try cbv)
    | (intro β2; try cbv))
  refine hkeep 900 1000900 901 bl d ba n rows2 ls mv mo bm none fl _ _ ⟨hn, hrows2, hmv, hmo, rfl, rfl, rfl, N900⟩ hb4 (by rw [← hn]; exact hn2) fun e' ba' n' rows' bm' m' mv' mo' hK hn' hrows' hmv' hmo' => ?_
  rw [hkp] at hK
  obtain ⟨rfl, rfl⟩ : m' = some ⟨fl, -1, false⟩ ∧ e' = 0 := ⟨congrArg Prod.fst hK, congrArg Prod.snd hK⟩
  cbv
  repeat' (first
    | (refine And.intro (by first | assumption | decide) ?_; try cbv)
    | (intro β2; try cbv))
  refine br_ff (ne_F hP rfl) ?_
  cbv
  repeat' (first
    | (refine And.intro (by first | assumption | decide) ?_; try cbv)
    | (intro β2; try cbv))
  refine ⟨YK3 bl fl d ls, fun y => [(5, .ptr 900 (some bl) 47 0 0), (8, .sl false 1 rs), (10, .int .i64 fl), (12, .own 1000079 bt 1 nt), (17, .int .i64 y.c)],
    fun y => [(900, obSh bl (rowS y.d (.own 1000900 y.ba 3 y.n) y.mv)), (1000900, obV y.ba y.rows), (901, y.mo), (1000079, ⟨bt, 9, 1, rt⟩)], fun y => remS y.d y.l y.m,
    ⟨_, Ent.refl _, ⟨⟨d, ls, some ⟨fl, -1, false⟩, ba', n', rows', mv', mo', bm', hn', hrows', hmv', hmo', harc2⟩, 0, .of rfl rfl, .inl ⟨_, _, rfl⟩, by show (0 : Int) + (remS d ls (some ⟨fl, -1, false⟩) : Int) ≤ 68; omega, by decide⟩, ⟨rfl, rfl, rfl, rfl, rfl, trivial⟩, ⟨rfl, rfl, rfl, rfl, trivial⟩⟩, ?_⟩
  rintro ⟨⟨d1, l1, m1, ba1, n1, rows1, mv1, mo1, bm1, hn1, hrows1, hmv1, hmo1, harc1⟩, c1, hsame, hph, hc1, hc10⟩
  cbv
  have hsame : Same d ls d1 l1 := hsame
  have hph : PhaseF fl d1 m1 := hph
  have hc1 : c1 + (remS d1 l1 m1 : Int) ≤ 68 := hc1
  obtain ⟨s1, s2, s3⟩ := step_rem harc1 hph
  have hss := arc_step harc1
  have htx1 : d1.tx.length ≤ maxLen := Nat.le_trans harc1.hd.tx (by decide)
  repeat' (first
    | (refine And.intro (by first | assumption | decide) ?_; try cbv)
    | (intro β2; try cbv))
  refine hstep 900 1000900 901 bl d1 ba1 n1 rows1 l1 mv1 mo1 bm1 m1 _ _ ⟨hn1, hrows1, hmv1, hmo1, rfl, rfl, rfl, N900⟩ (arc_stepOk harc1) htx1 fun v ba2 d2 l2 m2 n2 rows3 bm2 mv2 mo2 hS hn2' hrows2' hmv2 hmo2 => ?_
  rw [← hS] at s1 s2 s3 hss
  cbv
  repeat' (first
    | (refine And.intro (by first | assumption | decide) ?_; try cbv)
    | (intro β2; try cbv))
  refine br_cases (fun g => ?_) (fun g => ?_)
  · have g1 : v = true := g
    have s2 := s2 g1
    have u0 : c1 ≤ 68 := by ((try simp only [nc] at *); omega)
    have u3 : P.i64 (P.add c1 1) := by rw [add_eq hP]; exact i64I hP (by ((try simp only [nc] at *); omega))
    cbv
    repeat' (first
    | (refine And.intro (by first | assumption | decide) ?_; try cbv)
    | (intro β2; try cbv))
    refine br_ff (lt_F hP (by ((try simp only [nc] at *); omega))) ?_
    cbv
    repeat' (first
    | (refine And.intro (by first | assumption | decide) ?_; try cbv)
    | (intro β2; try cbv))
    refine ⟨_, Ent.refl _, ⟨⟨d2, l2, m2, ba2, n2, rows3, mv2, mo2, bm2, hn2', hrows2', hmv2, hmo2, hss.arc⟩, _, ⟨hss.same.hd.trans hsame.hd, Int.le_trans hsame.b hss.same.b, fun r r1 r2 => ?_⟩, s3, ?_, ?_⟩, ⟨rfl, rfl, rfl, rfl, rfl, trivial⟩, ⟨rfl, rfl, rfl, rfl, trivial⟩, ?_⟩
    · have h1 := hss.same.b
      have h2 := hss.same.hd
      have h3 := hss.same.tx r r1 r2
      rw [h3]
      exact hsame.tx r (Int.le_trans h1 r1) (by rw [← h2]; exact r2)
    · show P.add c1 1 + (remS d2 l2 m2 : Int) ≤ 68
      rw [add_eq hP]
      have s2 : remS d2 l2 m2 + 1 = remS d1 l1 m1 := s2
      ((try simp only [nc] at *); omega)
    · show 0 ≤ P.add c1 1
      rw [add_eq hP]; ((try simp only [nc] at *); omega)
    · show remS d2 l2 m2 < remS d1 l1 m1
      have s2 : remS d2 l2 m2 + 1 = remS d1 l1 m1 := s2
      omega
  have g1 : v = false := g
  obtain ⟨t1, t2, t3⟩ := s1 g1
  obtain ⟨rfl, rfl, rfl, rfl⟩ : d2 = d1 ∧ l2 = l1 ∧ m2 = none ∧ v = false := by
    have t3 : StR.mk d2 l2 m2 v = ⟨d1, l1, none, false⟩ := t3
    exact ⟨congrArg StR.d t3, congrArg StR.l t3, congrArg StR.m t3, congrArg StR.v t3⟩
  have hfl2 : d2.b = fl := by
    rcases s3 with ⟨c, w, h1⟩ | ⟨_, h1⟩
    · cases h1
    · exact h1
  have harc2b := hss.arc
  have harc2b : Arc d2 l2 none := harc2b
  have hshok2 := harc2b.shOk
  have hb42 : 0 ≤ d2.b ∧ d2.b ≤ 4294967295 := ⟨hshok2.b.1, Int.le_trans hshok2.b.2 (by decide)⟩
  have hmq2 : MQ mv2 := by rw [hmv2]; exact mvN_mq _ _ _
  have hr12 : rtB 900 mv2 = true := by rw [hmv2]; exact rt_mv rfl
  have hr22 : rt2B 900 1000900 mv2 = true := by rw [hmv2]; exact rt2_mv rfl
  have hn22 : l2.length ≤ 1000 := Nat.le_trans hshok2.len (by decide)
  cbv
  repeat' (first
    | (refine And.intro (by first | assumption | decide) ?_; try cbv)
    | (intro β2; try cbv))
  refine ⟨YK4 ol, fun y => [(5, .ptr 900 (some bl) 47 0 0), (10, .int .i64 fl), (12, .own 1000079 bt 1 nt), (91, .sl false 1 rs), (92, .int .i64 (P.rlen rs)), (93, .int .i64 y.k)],
    fun y => [(900, obSh bl (rowS d2 (.own 1000900 ba2 3 n2) mv2)), (1000900, obV ba2 rows3), (901, mo2), (1000079, ⟨bt, 9, 1, rt⟩)], fun y => ol.length - y.i,
    ⟨_, Ent.refl _, ⟨0, 0, Nat.zero_le _, rfl⟩, ⟨rfl, rfl, rfl, rfl, rfl, rfl, trivial⟩, ⟨rfl, rfl, rfl, rfl, trivial⟩⟩, ?_⟩
  rintro ⟨i4, k4, hi4, hk4⟩
  cbv
  refine br_cases (fun g => ?_) (fun g => ?_)
  · have g1 : k4 < P.rlen rs := lt_t hP g
    rw [hlr] at g1
    have hil : i4 < ol.length := by ((try simp only [nc] at *); omega)
    obtain ⟨x, hx⟩ : ∃ x, ol[i4]? = some x := ⟨_, List.getElem?_eq_getElem hil⟩
    have hrow : P.row rs (P.nat k4) [.int .i64 x] := row_of hP hk4 (by rw [hrs, iRows, List.getElem?_map, hx]; rfl)
    have hxb := ho1 x (List.mem_of_getElem? hx)
    have hxf : d2.b ≤ x ∧ x ≤ d2.b + (l2.length : Int) := ⟨by rw [hfl2]; exact hxb.1, by rw [hsame.hd, ← hhd]; exact hxb.2⟩
    have hst := stext_at harc2b hxf
    rw [hsame.tx x hxf.1 hxf.2] at hst
    obtain ⟨tx, htx⟩ : ∃ t, txtAt d ls x = t := ⟨_, rfl⟩
    have hrow2 : P.row rt (P.nat k4) [.str tx] := row_of hP hk4 (by rw [hrt, strRows, List.getElem?_map, List.getElem?_map, hx, ← htx]; rfl)
    rw [htx] at hst
    have q1 : P.leP 0 k4 := le0 hP (by rw [hk4]; exact Int.natCast_nonneg _)
    have q2 : P.ltP k4 (P.rlen rs) := ltI hP (by rw [hlr]; exact g1)
    have q3 : P.i64 (P.add k4 1) := by rw [add_eq hP]; exact i64I hP (by ((try simp only [nc] at *); omega))
    have q4 : P.add k4 1 = ((i4 + 1 : Nat) : Int) := by rw [add_eq hP, hk4]; simp
    have q5 : P.ltP k4 (P.int nt) := ltI hP (by rw [int_eq hP, hnt]; exact g1)
    cbv
    repeat' (first
    | (refine And.intro (by first | assumption | decide) ?_; try cbv)
    | (intro β2; try cbv))
    refine ⟨_, hrow, ?_⟩
    cbv
    repeat' (first
    | (refine And.intro (by first | assumption | decide) ?_; try cbv)
    | (intro β2; try cbv))
    refine htext 900 1000900 bl d2 ba2 n2 rows3 l2 mv2 x _ _ hrows2' hn2' hshok2.rv hb42 hn22 hmq2 rfl hr22 rfl rfl fun x' y' hx' hy' => ?_
    rw [hst] at hx' hy'
    have hx' : x' = tx := hx'
    have hy' : y' = 0 := hy'
    subst hx'
    cbv
    repeat' (first
    | (refine And.intro (by first | assumption | decide) ?_; try cbv)
    | (intro β2; try cbv))
    refine br_ff (ne_F hP hy') ?_
    cbv
    repeat' (first
    | (refine And.intro (by first | assumption | decide) ?_; try cbv)
    | (intro β2; try cbv))
    refine ⟨_, hrow2, ?_⟩
    cbv
    repeat' (first
    | (refine And.intro (by first | assumption | decide) ?_; try cbv)
    | (intro β2; try cbv))
    refine br_ff (sne_F hP rfl) ?_
    cbv
    repeat' (first
    | (refine And.intro (by first | assumption | decide) ?_; try cbv)
    | (intro β2; try cbv))
    refine ⟨_, Ent.refl _, ⟨i4 + 1, _, hil, q4⟩, ⟨rfl, rfl, rfl, rfl, rfl, rfl, trivial⟩, ⟨rfl, rfl, rfl, rfl, trivial⟩, ?_⟩
    show ol.length - (i4 + 1) < ol.length - i4; omega
  -- below the floor
  have u4 : P.i64 (P.sub fl 1) := by rw [sub_eq hP]; exact i64I hP (by omega)
  have hth : thereT d2.b l2.length (P.sub fl 1) = 9 := by
    unfold thereT
    rw [sub_eq hP, if_pos (by rw [hfl2]; omega)]
  have hst2 := stext_no (d := d2) (l := l2) (f := P.sub fl 1) (by rw [hth]; decide)
  rw [hth] at hst2
  cbv
  repeat' (first
    | (refine And.intro (by first | assumption | decide) ?_; try cbv)
    | (intro β2; try cbv))
  refine htext 900 1000900 bl d2 ba2 n2 rows3 l2 mv2 _ _ _ hrows2' hn2' hshok2.rv hb42 hn22 hmq2 rfl hr22 rfl rfl fun x' y' hx' hy' => ?_
  have hy' : y' = (stextT d2 l2 (P.sub fl 1)).2 := hy'
  rw [hst2] at hy'
  have hy' : y' = 9 := hy'
  cbv
  repeat' (first
    | (refine And.intro (by first | assumption | decide) ?_; try cbv)
    | (intro β2; try cbv))
  refine br_tt (eq_T hP hy') ?_
  cbv
  repeat' (first
    | (refine And.intro (by first | assumption | decide) ?_; try cbv)
    | (intro β2; try cbv))
  refine hbase 900 bl d2 (.own 1000900 ba2 3 n2) mv2 _ _ ⟨⟨.own _ _ _ _, rfl⟩, hmq2.1⟩ rfl hr12 rfl ?_
  cbv
  repeat' (first
    | (refine And.intro (by first | assumption | decide) ?_; try cbv)
    | (intro β2; try cbv))
  exact hR _ _ _ (eq_T hP hfl2) (Ent.refl _) rfl
theorem sp_law_topKeep (l : List Rev) (p : Pol) (hl : RevsOk l) (hp : p.Ok) : Spec Try.prog 5 [encRevs l, .agg (encPol p)] Hp.emp (Is (.bool true)) :=
  spec_pure dOk ok_tkp [.bool true] (.bool _) fun R hR => vc_tkp std rfl _ _ snewC (ansSame sp_begun rfl rfl) saddC sheadP stextE skeep3C sstep3C sbaseE l hl _ rfl p.last p.every (iRows p.pins) (fun h => (ofF p h).1) (fun h => (ofF p h).2) (fun h => (flF p h).1)
    (fun head rs hrs => by subst hrs; exact ansP (sp_kof p head) (fun _ => .cons (.same _) (.cons (.same _) .nil)) rfl)
    (fun head => by
      have : Ans (CallP Try.prog) 21 [.agg (encPol p), .int .i64 head] (.tup [.int .i64 (flF p head).1, .int .i64 (flF p head).2]) := ansP (sp_kfl p head) (fun _ => .cons (.same _) (.cons (.same _) .nil)) rfl
      rw [fl_same] at this
      exact this)
    (fun head h => by
      obtain ⟨a1, a2, a3, a4, _⟩ := of_all h
      exact ⟨a1, a2, a3, a4⟩) R fun s s' b hb he hr => by subst hb; exact hR s s' he hr
end Go.Proofs.Ytobngncjflogcaa.AM
