/-
  Texts of the plain machine, put together: what the law TopArchive reaches.
-/
import Derived.Test.YtobngncjflogcaaTopArchive14
import Derived.Test.YtobngncjflogcaaTopArchive10
import Derived.Test.YtobngncjflogcaaTopArchive13
set_option linter.unusedVariables false
set_option linter.unusedSimpArgs false
namespace Go.Proofs.Ytobngncjflogcaa.AM
open Go Go.RowKit
set_option maxRecDepth 100000
set_option maxHeartbeats 2000000
def FsLe (d : SC) : Prop := ∀ w, w < 8 → d.fs (2 * w + 1) ≤ d.b
theorem tab_le : ∀ (l : List Rev) (fs : Nat → Int) (b : Int), (∀ w, w < 8 → fs (2 * w + 1) ≤ b) → ∀ w, w < 8 → tabG fs b l (2 * w + 1) ≤ b + (l.length : Int)
  | [], fs, b, h, w, hw => by
    have := h w hw
    show fs (2 * w + 1) ≤ b + 0
    omega
  | r :: l, fs, b, h, w, hw => by
    have ih := tab_le l (addTb fs r.who.toNat r.seq (b + 1)) (b + 1) (fun w hw => by
      have := h w hw
      unfold addTb
      split
      · omega
      · split <;> omega) w hw
    show tabG (addTb fs r.who.toNat r.seq (b + 1)) (b + 1) l (2 * w + 1) ≤ b + ((l.length + 1 : Nat) : Int)
    omega
theorem arc_tb {d : SC} {l : List Rev} {m : Option Mv} (h : Arc d l m) (hf : FsLe d) (w : Nat) (hw : w < 8) : d.tb (2 * w + 1) ≤ d.b + (l.length : Int) := by
  rw [h.tb (2 * w + 1) (by omega)]
  exact tab_le l d.fs d.b hf w hw
theorem tabAt_le {d : SC} {l : List Rev} (hf : FsLe d) {f : Int} (h : d.b ≤ f) (w : Nat) (hw : w < 8) : tabAt d l f (2 * w + 1) ≤ f := by
  have := tab_le (l.take (f - d.b).toNat) d.fs d.b hf w hw
  have hl : (l.take (f - d.b).toNat).length ≤ (f - d.b).toNat := by rw [List.length_take]; exact Nat.min_le_left _ _
  unfold tabAt
  omega
theorem step_fs {d : SC} {l : List Rev} {m : Option Mv} (h : Arc d l m) (hf : FsLe d) : FsLe (shStep d l m).d := by
  obtain _ | ⟨f, c, w⟩ := m
  · show FsLe (step0 d l).d
    unfold step0
    split
    · exact hf
    · exact hf
  · obtain ⟨o1, hff, hg, ho⟩ := h.ot
    have hff : d.b ≤ f ∧ f ≤ d.b + (l.length : Int) := hff
    rcases ho with ⟨v1, v2, v3⟩ | ⟨v1, v2, v3, v4⟩ | ⟨v1, v2, v0, t1, t2, ks, v3, v4, v5, v6, v7⟩
    · have v1 : c = -1 := v1
      subst v1
      rw [shStep_neg (by decide)]
      exact hf
    · have v1 : 0 ≤ c := v1
      have v2 : w = false := v2
      subst v2
      have hst : shStep d l (some ⟨f, c, false⟩) = step2 d l f c (fun r => (revF r).1) (putFr 3 []).1 := by
        show (if c < 0 then _ else _) = _
        rw [if_neg (by omega), if_pos rfl]
      rw [hst]
      unfold step2
      split
      · exact hf
      · exact hf
    · have v1 : 0 ≤ c := v1
      have v2 : w = true := v2
      subst v2
      obtain ⟨q1, q2, q3, q4⟩ := syn_ok2 h.dk h.oat
      obtain ⟨F, hF, hr⟩ := arc_read h
      have hst : shStep d l (some ⟨f, c, true⟩) = step3 d ⟨d.gn + 1, f, txtAt d l f, F, tabG F f (sufAt d l f), sufAt d l f, true, ((datOf d (1 - d.at')).length : Int)⟩ := by
        show (if c < 0 then _ else _) = _
        rw [if_neg (by omega), if_neg (by simp), q2, hr]
      rw [hst]
      intro w hw
      show F (2 * w + 1) ≤ f
      rw [hF _ (by omega)]
      exact tabAt_le hf hff.1 w hw
theorem open_arc {D : SC} (hdk : DkOk D) {i : Int} (hi : i = 0 ∨ i = 1) {g b : Int} {tx : List UInt8} {t F : Nat → Int} {r1 r2 : List Rev} (hd : HdOk g b tx t) (hc : chainOk b t 0 tx (r1 ++ r2)) (hF : EqT F t)
    (hlen : (encFs (flOf g b tx t r1 (some r2))).length ≤ (datOf D i).length) (hdat : (datOf D i).take (encFs (flOf g b tx t r1 (some r2))).length = encFs (flOf g b tx t r1 (some r2))) :
    ∃ d', openD D.x1 D.x2 D.x3 D.x4 i ⟨g, b, tx, F, tabG F b (r1 ++ r2), r1 ++ r2, true, ((encFs (flOf g b tx t r1 (some r2))).length : Int)⟩ = d' ∧ Arc d' (r1 ++ r2) none ∧ d'.b = b ∧ d'.tx = tx ∧ d'.gn = g ∧ d'.sf = b + ((r1 ++ r2).length : Int) ∧ d'.fs = F := by
  obtain ⟨N, hN⟩ : ∃ N, (encFs (flOf g b tx t r1 (some r2))).length = N := ⟨_, rfl⟩
  rw [hN] at hlen hdat ⊢
  obtain ⟨E, hE⟩ : ∃ E : SC, (⟨D.x1, D.x2, D.x3, D.x4, i, g, b, tx, F, tabG F b (r1 ++ r2), true, (N : Int), [], 0, false⟩ : SC) = E := ⟨_, rfl⟩
  have ek : DkOk E := by rw [← hE]; exact hdk
  have ed : ∀ j, datOf E j = datOf D j := fun j => by rw [← hE]; rfl
  have hi' : 1 - i = 0 ∨ 1 - i = 1 := by omega
  have e1 : (1 : Int) - (1 - i) = i := by omega
  obtain ⟨p1, p2, p3, p4, p5⟩ := trm_ok2 ek hi (n := N) (by rw [ed]; exact hlen)
  obtain ⟨q1, q2, q3, q4, q5⟩ := trm_ok2 p1 hi' (n := 0) (Nat.zero_le _)
  rw [e1] at q3 q5
  obtain ⟨s1, s2, s3, s4⟩ := syn_ok2 q1 hi
  have hc' : chainOk b F 0 tx (r1 ++ r2) := chain_eqT _ _ _ _ _ hF.symm hc
  obtain ⟨d', hd'⟩ : ∃ d', openD D.x1 D.x2 D.x3 D.x4 i ⟨g, b, tx, F, tabG F b (r1 ++ r2), r1 ++ r2, true, (N : Int)⟩ = d' := ⟨_, rfl⟩
  have hdd : d' = { synS (trmS (trmS E i N) (1 - i) ((0 : Nat) : Int)) i with now := (textF tx (r1 ++ r2) ((r1 ++ r2).length : Int)).1, sf := b + ((r1 ++ r2).length : Int) } := by rw [← hd', ← hE]; rfl
  have ta := text_at hc' hd.tx (r1 ++ r2).length (Nat.le_refl _)
  rw [List.take_length] at ta
  have k1 : d'.b = b := by rw [hdd, ← hE]; rfl
  have k2 : d'.tx = tx := by rw [hdd, ← hE]; rfl
  have k3 : d'.gn = g := by rw [hdd, ← hE]; rfl
  have k4 : d'.sf = b + ((r1 ++ r2).length : Int) := by rw [hdd]
  have k5 : d'.fs = F := by rw [hdd, ← hE]; rfl
  have k6 : d'.at' = i := by rw [hdd, ← hE]; rfl
  have k7 : d'.tb = tabG F b (r1 ++ r2) := by rw [hdd, ← hE]; rfl
  have k8 : d'.old = false := by rw [hdd, ← hE]; rfl
  have k9 : d'.now = nowG tx (r1 ++ r2) := by rw [hdd, ta]
  have c1 : DkOk d' := by rw [hdd]; exact s1
  have cd : ∀ j, datOf d' j = datOf (trmS (trmS E i N) (1 - i) ((0 : Nat) : Int)) j := fun j => by rw [hdd]; exact s2 j
  have c2 : datOf d' i = encFs (flOf g b tx t r1 (some r2)) := by rw [cd, q3, p2, ed, hdat]
  have c3 : safOf d' i = ((encFs (flOf g b tx t r1 (some r2))).length : Int) := by
    have : safOf d' i = ((datOf (trmS (trmS E i N) (1 - i) ((0 : Nat) : Int)) i).length : Int) := by rw [hdd]; exact s3
    rw [this, q3, p2, ed, hdat]
  have c4 : datOf d' (1 - i) = [] := by rw [cd, q2]; rfl
  refine ⟨d', hd', ⟨by rw [k6]; exact hi, c1, by rw [k3, k1, k2, k5]; exact hd.eqT hF.symm, by rw [k1, k5, k2]; exact hc', by rw [k7, k5, k1]; exact EqT.refl _, by rw [k9, k2], by rw [k4, k1]; exact Int.le_refl _, ⟨r1, r2, r2.length, rfl, ?_, Nat.le_refl _, ?_, ?_⟩, .inr ⟨k8, by rw [k6]; exact c4⟩⟩, k1, k2, k3, k4, k5⟩
  · rw [k6, k3, k1, k2, k5, c2, flOf_eqT hF]
  · rw [k6, k3, k1, k2, k5, c3, List.take_length, flOf_eqT hF]
  · rw [k4, k1, List.length_append]; omega
def openA (i : Int) (M O : LogD × Int) (a1 : List UInt8) (a2 : Int) (b1 : List UInt8) (b2 : Int) : OpR := if i = 0 then openG M O a1 a2 b1 b2 else openG O M a1 a2 b1 b2
theorem openA_main {i : Int} (hi : i = 0 ∨ i = 1) {M O : LogD × Int} {a1 : List UInt8} {a2 : Int} {b1 : List UInt8} {b2 : Int} (hm : goodL M) (ho : goodL O → O.1.gen < M.1.gen) : openA i M O a1 a2 b1 b2 = ⟨openD a1 a2 b1 b2 i M.1, M.1.revs, 0⟩ := by
  unfold openA openG
  rcases hi with rfl | rfl
  · rw [if_pos rfl, if_pos hm, if_neg (fun h => by have := ho h.1; omega)]
  · rw [if_neg (by decide)]
    by_cases h : goodL O
    · rw [if_pos h, if_pos ⟨hm, ho h⟩]
    · rw [if_neg h, if_pos hm]
theorem openA_oth {i : Int} (hi : i = 0 ∨ i = 1) {M O : LogD × Int} {a1 : List UInt8} {a2 : Int} {b1 : List UInt8} {b2 : Int} (hm : goodL M) (ho : goodL O) (hg : M.1.gen < O.1.gen) : openA i M O a1 a2 b1 b2 = ⟨openD a1 a2 b1 b2 (1 - i) O.1, O.1.revs, 0⟩ := by
  unfold openA openG
  rcases hi with rfl | rfl
  · rw [if_pos rfl, if_pos hm, if_pos ⟨ho, hg⟩]; rfl
  · rw [if_neg (by decide), if_pos ho, if_neg (fun h => by omega)]; rfl
theorem not_nil : ¬ goodL (readL []) := fun h => absurd (show (7 : Int) = 0 from h.1) (by decide)
theorem not_none {g b : Int} {tx : List UInt8} {t : Nat → Int} (h : HdOk g b tx t) {r1 : List Rev} (hc : chainOk b t 0 tx r1) : ¬ goodL (readL (flOf g b tx t r1 none)) := by
  obtain ⟨F, hF, hr⟩ := readL_flOf h (r1 := r1) (o := none) (by rw [Option.getD_none, List.append_nil]; exact hc)
  rw [hr]
  intro h
  exact absurd (show false = true from h.2) (by decide)
/-- a chain's part -/
theorem chain_left {b : Int} {a c : List Rev} {t : Nat → Int} {i : Nat} {now : List UInt8} (h : chainOk b t i now (a ++ c)) : chainOk b t i now a := ((chain_app a c t i now).1 h).1
theorem chain_cut {b : Int} {r1 r2 : List Rev} {t : Nat → Int} {now : List UInt8} (h : chainOk b t 0 now (r1 ++ r2)) (j : Nat) : chainOk b t 0 now (r1 ++ r2.take j) := by
  have e : r1 ++ r2 = (r1 ++ r2.take j) ++ r2.drop j := by rw [List.append_assoc, List.take_append_drop]
  rw [e] at h
  exact chain_left h
/-- the disk behind a crash -/
def cutD (d : SC) (n0 n1 : Nat) : SC := { d with x1 := d.x1.take n0, x2 := n0, x3 := d.x3.take n1, x4 := n1 }
def cutI (n0 n1 : Nat) (i : Int) : Nat := if i = 0 then n0 else n1
theorem cutD_dat (d : SC) (n0 n1 : Nat) (i : Int) : datOf (cutD d n0 n1) i = (datOf d i).take (cutI n0 n1 i) := by
  unfold datOf cutI
  split <;> rfl
/-- what Open gives behind a crash -/
structure Opened (d : SC) (l : List Rev) (d' : SC) (l' : List Rev) : Prop where
  arc : Arc d' l' none
  lo : d.sf ≤ d'.b + (l'.length : Int)
  hi : d'.b + (l'.length : Int) ≤ d.b + (l.length : Int)
  b : d.b ≤ d'.b
  tx : ∀ r, d'.b ≤ r → r ≤ d'.b + (l'.length : Int) → txtAt d' l' r = txtAt d l r
  gn : d'.gn ≤ d.gn + 1
  fs : FsLe d → FsLe d'
theorem take_take_le {α} (l : List α) {a c : Nat} (h : a ≤ c) : (l.take c).take a = l.take a := by rw [List.take_take, Nat.min_eq_left h]
theorem open_ok {d : SC} {l : List Rev} {m : Option Mv} (h : Arc d l m) (n0 n1 : Nat) (h0 : d.x2 ≤ (n0 : Int) ∧ n0 ≤ d.x1.length) (h1 : d.x4 ≤ (n1 : Int) ∧ n1 ≤ d.x3.length) :
    ∃ d' l', openF (d.x1.take n0) n0 (d.x3.take n1) n1 = ⟨d', l', 0⟩ ∧ Opened d l d' l' := by
  obtain ⟨D, hD⟩ : ∃ D, cutD d n0 n1 = D := ⟨_, rfl⟩
  have hdl0 := h.dk.slot 0
  have hdl1 := h.dk.slot 1
  have hdl0 : d.x1.length ≤ 1048576 ∧ 0 ≤ d.x2 ∧ d.x2 ≤ (d.x1.length : Int) := hdl0
  have hdl1 : d.x3.length ≤ 1048576 ∧ 0 ≤ d.x4 ∧ d.x4 ≤ (d.x3.length : Int) := hdl1
  have hdk0 : diskT (d.x1.take n0) n0 (d.x3.take n1) n1 = 0 := dk_iff.2 ⟨slotT_iff.2 (by rw [List.length_take]; omega), slotT_iff.2 (by rw [List.length_take]; omega)⟩
  have hdk : DkOk D := by rw [← hD]; exact hdk0
  have hdat : ∀ i, datOf D i = (datOf d i).take (cutI n0 n1 i) := fun i => by rw [← hD]; exact cutD_dat d n0 n1 i
  have hN : ∀ i, safOf d i ≤ (cutI n0 n1 i : Int) ∧ cutI n0 n1 i ≤ (datOf d i).length := by
    intro i
    unfold safOf cutI datOf
    by_cases hi : i = 0
    · rw [if_pos hi, if_pos hi, if_pos hi]; exact h0
    · rw [if_neg hi, if_neg hi, if_neg hi]; exact h1
  have eO : openF (d.x1.take n0) n0 (d.x3.take n1) n1 = openA d.at' (readL (scanF (datOf D d.at')).1) (readL (scanF (datOf D (1 - d.at'))).1) D.x1 D.x2 D.x3 D.x4 := by
    unfold openF openA
    rw [if_neg (fun g => g hdk0)]
    rcases h.at' with ha | ha
    · rw [ha, if_pos rfl, ← hD]; rfl
    · rw [ha, if_neg (by decide), ← hD]; rfl
  rw [eO]
  obtain ⟨r1, r2, js, m1, m2, m3, m4, m5⟩ := h.mn
  have hc : chainOk d.b d.fs 0 d.tx (r1 ++ r2) := by rw [← m1]; exact h.ch
  have hNm := hN d.at'
  rw [m4] at hNm
  obtain ⟨j, j1, j2, j3, j4⟩ := cut_whole h.hd hc (cutI n0 n1 d.at') js m3 (by have := hNm.1; omega)
  have hcj := chain_cut hc j
  obtain ⟨F, hF, hMr⟩ := readL_flOf h.hd (r1 := r1) (o := some (r2.take j)) hcj
  have eM : readL (scanF (datOf D d.at')).1 = (⟨d.gn, d.b, d.tx, F, tabG F d.b (r1 ++ r2.take j), r1 ++ r2.take j, true, ((encFs (flOf d.gn d.b d.tx d.fs r1 (some (r2.take j)))).length : Int)⟩, 0) := by
    rw [hdat, m2, j3]; exact hMr
  have gM : goodL (readL (scanF (datOf D d.at')).1) := by rw [eM]; exact ⟨rfl, rfl⟩
  have main : (goodL (readL (scanF (datOf D (1 - d.at'))).1) → (readL (scanF (datOf D (1 - d.at'))).1).1.gen < d.gn) → ∃ d' l', openA d.at' (readL (scanF (datOf D d.at')).1) (readL (scanF (datOf D (1 - d.at'))).1) D.x1 D.x2 D.x3 D.x4 = ⟨d', l', 0⟩ ∧ Opened d l d' l' := by
    intro ho
    have hgen : (readL (scanF (datOf D d.at')).1).1.gen = d.gn := by rw [eM]
    have e := openA_main (O := readL (scanF (datOf D (1 - d.at'))).1) h.at' (a1 := D.x1) (a2 := D.x2) (b1 := D.x3) (b2 := D.x4) gM (fun g => by rw [hgen]; exact ho g)
    rw [e, eM]
    have hl2 : (encFs (flOf d.gn d.b d.tx d.fs r1 (some (r2.take j)))).length ≤ (datOf D d.at').length := by
      rw [hdat, List.length_take]; have := hNm.2; omega
    obtain ⟨d', hd', ha, k1, k2, k3, k4, k5⟩ := open_arc hdk h.at' h.hd hcj hF hl2 (by rw [hdat, take_take_le _ j4, m2]; exact enc_take j j2)
    have hll : (r1 ++ r2.take j).length = r1.length + j := by rw [List.length_append, List.length_take]; omega
    have hlt : r1 ++ r2.take j = l.take (r1.length + j) := by rw [m1, List.take_length_add_append]
    have hlen : r1.length + j ≤ l.length := by rw [m1, List.length_append]; omega
    refine ⟨d', r1 ++ r2.take j, by rw [hd'], ha, ?_, ?_, by rw [k1]; exact Int.le_refl _, ?_, by rw [k3]; omega, ?_⟩
    · rw [k1, hll]; omega
    · rw [k1, hll]; omega
    · intro r hr1 hr2
      rw [k1] at hr1 hr2
      rw [hll] at hr2
      unfold txtAt
      rw [k2, k1, hlt, take_take_le _ (by omega)]
    · intro hf w hw
      rw [k5, k1, hF _ (by omega)]
      exact hf w hw
  have hnil : datOf d (1 - d.at') = [] → ¬ goodL (readL (scanF (datOf D (1 - d.at'))).1) := by
    intro e
    rw [hdat, e, List.take_nil]
    exact not_nil
  obtain _ | mv := m
  · rcases h.ot with ⟨_, g, b, tx, t, s1, o, w1, w2, w3, w4⟩ | ⟨_, w⟩
    · refine main fun hg => ?_
      rw [hdat, w3] at hg ⊢
      rcases cut_cases w1 w2 (cutI n0 n1 (1 - d.at')) with e | ⟨k, k1, e⟩ | ⟨s2, k, rfl, k1, e, k2⟩
      · rw [e] at hg; exact absurd hg not_nil
      · rw [e] at hg
        refine absurd hg (not_none w1 ?_)
        have := chain_left w2
        rw [← List.take_append_drop k s1] at this
        exact chain_left this
      · rw [e]
        obtain ⟨F', _, hr⟩ := readL_flOf w1 (r1 := s1) (o := some (s2.take k)) (chain_cut w2 k)
        rw [hr]; exact w4
    · exact main fun hg => absurd hg (hnil w)
  · obtain ⟨o1, hf, hg, ho⟩ := h.ot
    obtain ⟨c1, c2, c3, c4⟩ := suf_chain h hf
    have hh := suf_hd h hf hg
    rcases ho with ⟨_, _, w⟩ | ⟨v1, v2, v3, v4⟩ | ⟨v1, v2, v0, t1, t2, ks, v3, v4, v5, v6, v7⟩
    · exact main fun hg => absurd hg (hnil w)
    · refine main fun hg => ?_
      rw [hdat, v4] at hg
      have hc2 : chainOk mv.f (tabAt d l mv.f) 0 (txtAt d l mv.f) ((sufAt d l mv.f).take mv.c.toNat ++ (none : Option (List Rev)).getD []) := by
        rw [Option.getD_none, List.append_nil]
        rw [← List.take_append_drop mv.c.toNat (sufAt d l mv.f)] at c1
        exact chain_left c1
      rcases cut_cases hh hc2 (cutI n0 n1 (1 - d.at')) with e | ⟨k, k1, e⟩ | ⟨s2, k, e0, _⟩
      · rw [e] at hg; exact absurd hg not_nil
      · rw [e] at hg
        refine absurd hg (not_none hh ?_)
        have := chain_left hc2
        rw [← List.take_append_drop k ((sufAt d l mv.f).take mv.c.toNat)] at this
        exact chain_left this
      · cases e0
    · have hc2 : chainOk mv.f (tabAt d l mv.f) 0 (txtAt d l mv.f) (t1 ++ t2) := by rw [← v3]; exact c1
      have hNo := hN (1 - d.at')
      have oth : ∀ k, ks ≤ k → k ≤ t2.length → (scanF ((encFs (flOf (d.gn + 1) mv.f (txtAt d l mv.f) (tabAt d l mv.f) t1 (some t2))).take (cutI n0 n1 (1 - d.at')))).1 = flOf (d.gn + 1) mv.f (txtAt d l mv.f) (tabAt d l mv.f) t1 (some (t2.take k)) → (encFs (flOf (d.gn + 1) mv.f (txtAt d l mv.f) (tabAt d l mv.f) t1 (some (t2.take k)))).length ≤ cutI n0 n1 (1 - d.at') →
          ∃ d' l', openA d.at' (readL (scanF (datOf D d.at')).1) (readL (scanF (datOf D (1 - d.at'))).1) D.x1 D.x2 D.x3 D.x4 = ⟨d', l', 0⟩ ∧ Opened d l d' l' := by
        intro k k1 k2 e ke
        have hck := chain_cut hc2 k
        obtain ⟨F', hF', hr⟩ := readL_flOf hh (r1 := t1) (o := some (t2.take k)) hck
        have eR : readL (scanF (datOf D (1 - d.at'))).1 = (⟨d.gn + 1, mv.f, txtAt d l mv.f, F', tabG F' mv.f (t1 ++ t2.take k), t1 ++ t2.take k, true, ((encFs (flOf (d.gn + 1) mv.f (txtAt d l mv.f) (tabAt d l mv.f) t1 (some (t2.take k)))).length : Int)⟩, 0) := by
          rw [hdat, v4, e]; exact hr
        have gO : goodL (readL (scanF (datOf D (1 - d.at'))).1) := by rw [eR]; exact ⟨rfl, rfl⟩
        rw [openA_oth h.at' gM gO (by rw [eM, eR]; show d.gn < d.gn + 1; omega), eR]
        have hl2 : (encFs (flOf (d.gn + 1) mv.f (txtAt d l mv.f) (tabAt d l mv.f) t1 (some (t2.take k)))).length ≤ (datOf D (1 - d.at')).length := by
          rw [hdat, List.length_take]; have := hNo.2; omega
        obtain ⟨d', hd', ha, q1, q2, q3, q4, q5⟩ := open_arc hdk h.oat hh hck hF' hl2 (by rw [hdat, take_take_le _ ke, v4]; exact enc_take k k2)
        have hll : (t1 ++ t2.take k).length = t1.length + k := by rw [List.length_append, List.length_take]; omega
        have hlt : t1 ++ t2.take k = (sufAt d l mv.f).take (t1.length + k) := by rw [v3, List.take_length_add_append]
        have hlen : t1.length + k ≤ (sufAt d l mv.f).length := by rw [v3, List.length_append]; omega
        rw [c4] at hlen
        refine ⟨d', t1 ++ t2.take k, by rw [hd'], ha, ?_, ?_, by rw [q1]; exact hf.1, ?_, by rw [q3]; omega, ?_⟩
        · rw [q1, hll]; omega
        · rw [q1, hll]; have := hf.2; omega
        · intro r hr1 hr2
          rw [q1] at hr1 hr2
          rw [hll] at hr2
          have hfb := hf.1
          have e3 : txtAt d' (t1 ++ t2.take k) r = nowG (txtAt d l mv.f) ((sufAt d l mv.f).take (r - mv.f).toNat) := by
            unfold txtAt
            rw [q2, q1, hlt, take_take_le _ (by omega)]; rfl
          have e2 : (r - d.b).toNat = (mv.f - d.b).toNat + (r - mv.f).toNat := by omega
          have e4 : l.take (r - d.b).toNat = l.take (mv.f - d.b).toNat ++ (sufAt d l mv.f).take (r - mv.f).toNat := by
            unfold sufAt
            rw [e2, List.take_add]
          have e5 : txtAt d l r = nowG d.tx (l.take (r - d.b).toNat) := rfl
          rw [e3, e5, e4, nowG_app]; rfl
        · intro hfs w hw
          rw [q5, q1, hF' _ (by omega)]
          exact tabAt_le hfs hf.1 w hw
      rcases v6 with v6 | v6
      · subst v6
        rcases cut_cases hh (o := some t2) hc2 (cutI n0 n1 (1 - d.at')) with e | ⟨k, k1, e⟩ | ⟨s2, k, e0, k1, e, k2⟩
        · refine main fun hg => ?_
          rw [hdat, v4, e] at hg
          exact absurd hg not_nil
        · refine main fun hg => ?_
          rw [hdat, v4, e] at hg
          refine absurd hg (not_none hh ?_)
          have := chain_left hc2
          rw [← List.take_append_drop k t1] at this
          exact chain_left this
        · cases e0
          exact oth k (Nat.zero_le _) k1 e k2
      · have := hNo.1
        rw [v6] at this
        obtain ⟨k, k1, k2, k3, k4⟩ := cut_whole hh hc2 (cutI n0 n1 (1 - d.at')) ks v5 (by omega)
        exact oth k k1 k2 k3 k4
theorem cutN_bd {x : List UInt8} {s k : Int} (h : 0 ≤ s ∧ s ≤ (x.length : Int)) : s ≤ cutN x s k ∧ cutN x s k ≤ (x.length : Int) := by
  unfold cutN
  omega
theorem crash_ok {d : SC} {l : List Rev} {m : Option Mv} (h : Arc d l m) (k0 k1 : Int) : ∃ d' l', openF (d.x1.take (cutN d.x1 d.x2 k0).toNat) (cutN d.x1 d.x2 k0) (d.x3.take (cutN d.x3 d.x4 k1).toNat) (cutN d.x3 d.x4 k1) = ⟨d', l', 0⟩ ∧ Opened d l d' l' := by
  have a0 : 0 ≤ d.x2 ∧ d.x2 ≤ (d.x1.length : Int) := (h.dk.slot 0).2
  have a1 : 0 ≤ d.x4 ∧ d.x4 ≤ (d.x3.length : Int) := (h.dk.slot 1).2
  have b0 := cutN_bd (k := k0) a0
  have b1 := cutN_bd (k := k1) a1
  obtain ⟨n0, e0⟩ : ∃ n : Nat, cutN d.x1 d.x2 k0 = (n : Int) := ⟨(cutN d.x1 d.x2 k0).toNat, by omega⟩
  obtain ⟨n1, e1⟩ : ∃ n : Nat, cutN d.x3 d.x4 k1 = (n : Int) := ⟨(cutN d.x3 d.x4 k1).toNat, by omega⟩
  rw [e0, e1, Int.toNat_natCast, Int.toNat_natCast]
  rw [e0] at b0
  rw [e1] at b1
  exact open_ok h n0 n1 (by omega) (by omega)
theorem sub_cases {d : SC} {l : List Rev} {m : Option Mv} (h : Arc d l m) (hf : FsLe d) (base who seq : Int) (x : List Part) (hw : 0 ≤ who ∧ who < 8) :
    (∃ v e, subF d l m base who seq x = ⟨d, l, v, e⟩ ∧ (e = 0 → v ≤ d.b + (l.length : Int))) ∨ ∃ r, nextF d.b d.tb l.length d.now.length r = 0 ∧ subF d l m base who seq x = shAddM d l m r := by
  have hla : slastT d.tb who = ⟨d.tb (2 * who.toNat), d.tb (2 * who.toNat + 1), 0⟩ := by
    unfold slastT
    rw [if_neg (by omega)]
  have htb := arc_tb h hf who.toNat (by omega)
  unfold subF
  rw [hla]
  split
  · exact .inl ⟨_, _, rfl, fun g => absurd g (by decide)⟩
  split
  · rename_i g; exact .inl ⟨_, _, rfl, fun g' => absurd g' g⟩
  split
  · exact .inl ⟨_, _, rfl, fun _ => htb⟩
  split
  · exact .inl ⟨_, _, rfl, fun g => absurd g (by decide)⟩
  split
  · rename_i g; exact .inl ⟨_, _, rfl, fun g' => absurd g' g⟩
  split
  · exact .inl ⟨_, _, rfl, fun g => absurd g (by decide)⟩
  split
  · rename_i g; exact .inl ⟨_, _, rfl, fun g' => absurd g' g⟩
  obtain ⟨r, hr⟩ : ∃ r : Rev, (⟨who, seq, (foldU x (srevsT d l base).1).1⟩ : Rev) = r := ⟨_, rfl⟩
  rw [hr]
  by_cases hn : nextF d.b d.tb l.length d.now.length r = 0
  · exact .inr ⟨r, hn, rfl⟩
  · exact .inl ⟨_, _, arc_addE hn, fun g => absurd g hn⟩
end Go.Proofs.Ytobngncjflogcaa.AM

set_option linter.unusedVariables false
set_option linter.unusedSimpArgs false
namespace Go.Proofs.Ytobngncjflogcaa.AM
open Go Go.RowKit
set_option maxRecDepth 100000
set_option maxHeartbeats 2000000
theorem Rel.winownO {F B : Nat → Prop} {w : World} {k k' sz : Nat} {b : Option Nat} {hi : Int} {u : Value} (h : Rel F B w (.win k b sz 0 hi) u) (hp : 0 < hi) : Rel F B w (.own k' b sz hi.toNat) u := by
  cases b with
  | some b => exact h.winown hp
  | none =>
    cases h with
    | winemp => omega
/-- objects and slots may be given other names -/
theorem Ent.namesT {s s' : S} (g : Nat → Nat) (ht : ∀ i, (s'.t i).rl z0 = (s.t i).rl z0 ∨ s'.t i = .junk) (hh : ∀ k o, s'.h k = some o → ∃ q, s.h (g k) = some q ∧ o.b = q.b ∧ o.ren z0 = q.ren z0) (hg : ∀ k k' o o', s'.h k = some o → s'.h k' = some o' → g k = g k' → k = k') : Ent s s' := by
  intro C n a w hC hs
  obtain ⟨F, h1, h2⟩ := hs.ex
  refine ⟨⟨F, ⟨fun k o hk => ?_, fun k k' o o' b hk hk' hb hb' => ?_, fun k o b hk hb => ?_, h1.old, h1.new, h1.lt, h1.ev⟩, fun i => ?_⟩, hs.df, hs.sz⟩
  · obtain ⟨q, q1, q2, q3⟩ := hh k o hk
    have := (h1.ob (g k) q q1).ren z0
    rw [← q3] at this
    exact this.unren z0
  · obtain ⟨q, q1, q2, q3⟩ := hh k o hk
    obtain ⟨q', q1', q2', q3'⟩ := hh k' o' hk'
    exact hg k k' o o' hk hk' (h1.inj _ _ q q' b q1 q1' (q2.symm.trans hb) (q2'.symm.trans hb'))
  · obtain ⟨q, q1, q2, q3⟩ := hh k o hk
    exact h1.live (g k) q b q1 (q2.symm.trans hb)
  · rcases ht i with h | h
    · have := (h2 i).rl z0
      rw [← h] at this
      exact this.unrl z0
    · rw [h]; exact .junk _
theorem Ent.renT {s : S} (l : List (Nat × Nat × Ob)) (t : Nat → V) (ht : ∀ i, (t i).rl z0 = (s.t i).rl z0 ∨ t i = .junk) (hn : (l.map (·.2.1)).Nodup) (ha : agreeG l s) : Ent s ⟨t, lookH (newN l)⟩ := by
  refine Ent.namesT (oldN l) ht (fun k o hk => (look_new l s k o ha hk).1) (fun k k' o o' hk hk' e => ?_)
  obtain ⟨_, p, hp, p1, p2⟩ := look_new l s k o ha hk
  obtain ⟨_, p', hp', p1', p2'⟩ := look_new l s k' o' ha hk'
  have := nodup_snd hn p hp p' hp' (by rw [p2, p2', e])
  rw [← p1, ← p1', this]
/-- the first rows of an own object become the object -/
theorem Ent.winownO {s : S} {i k ty sz : Nat} {b : Option Nat} {hi : Int} {rows : List (List V)} (hk : s.h k = some ⟨b, ty, sz, rows⟩) (hi' : s.t i = .win k b sz 0 hi) (hp : 0 < hi) : Ent s ⟨upd s.t i (.own k b sz hi.toNat), Hp.put s.h k ⟨b, ty, sz, rows.take hi.toNat⟩⟩ := by
  intro C n a w hC hs
  obtain ⟨F, h1, h2⟩ := hs.ex
  have look : ∀ j q, Hp.put s.h k ⟨b, ty, sz, rows.take hi.toNat⟩ j = some q → ∃ p, s.h j = some p ∧ p.b = q.b ∧ (ObSat F C.B w p → ObSat F C.B w q) := by
    intro j q hj
    simp only [Hp.put] at hj
    by_cases h : j = k
    · rw [if_pos h] at hj; cases hj; subst h; exact ⟨_, hk, rfl, fun h => h.take _⟩
    · rw [if_neg h] at hj; exact ⟨q, hj, rfl, id⟩
  refine ⟨⟨F, ⟨fun j q hj => ?_, fun j j' q q' b' hj hj' hb hb' => ?_, fun j q b' hj hb => ?_, h1.old, h1.new, h1.lt, h1.ev⟩, fun j => ?_⟩, hs.df, hs.sz⟩
  · obtain ⟨p, p1, p2, p3⟩ := look j q hj
    exact p3 (h1.ob j p p1)
  · obtain ⟨p, p1, p2, p3⟩ := look j q hj
    obtain ⟨p', p1', p2', p3'⟩ := look j' q' hj'
    exact h1.inj j j' p p' b' p1 p1' (p2.trans hb) (p2'.trans hb')
  · obtain ⟨p, p1, p2, p3⟩ := look j q hj
    exact h1.live j p b' p1 (p2.trans hb)
  · have h3 := h2 j
    show Rel F C.B w (upd s.t i (.own k b sz hi.toNat) j) _
    unfold upd
    by_cases h : j = i
    · rw [if_pos h]; subst h; rw [hi'] at h3; exact h3.winownO hp
    · rw [if_neg h]; exact h3
theorem obSh_z0 {bl k k' ka ka' : Nat} {d : SC} {ba : Option Nat} {n : Nat} : (obSh bl (rowS d (.own ka ba 3 n) .nil)).ren z0 = (obSh bl (rowS d (.own ka' ba 3 n) .nil)).ren z0 := by
  rw [obSh_ren, obSh_ren]; rfl
/-- the archive that was opened takes the old one's name, and the texts are cut -/
theorem Ent.crash {s : S} {bl : Nat} {d : SC} {ba bt : Option Nat} {n : Nat} {rows rt : List (List V)} {mo : Ob} {hi : Int} (hp : 0 < hi)
    (h5 : s.t 5 = .ptr 920 (some bl) 47 0 0) (h6 : s.t 6 = .win 1000027 bt 1 0 hi) (h16 : s.t 16 = .ptr 920 (some bl) 47 0 0)
    (k0 : s.h 920 = some (obSh bl (rowS d (.own 1000920 ba 3 n) .nil))) (k1 : s.h 1000920 = some (obV ba rows)) (k2 : s.h 921 = some mo) (k3 : s.h 1000027 = some ⟨bt, 9, 1, rt⟩) (hm : mo = obMv 0 none) {nt : Nat} (hnt : nt = hi.toNat) {rt' : List (List V)} (hrt : rt' = rt.take nt) :
    Ent s ⟨upd (upd s.t 6 (.own 1000027 bt 1 nt)) 5 (.ptr 900 (some bl) 47 0 0), lookH [(900, obSh bl (rowS d (.own 1000900 ba 3 n) .nil)), (1000900, obV ba rows), (901, mo), (1000027, ⟨bt, 9, 1, rt'⟩)]⟩ := by
  subst hnt hrt
  refine (Ent.winownO k3 h6 hp).trans ?_
  refine Ent.renT [(900, 920, obSh bl (rowS d (.own 1000900 ba 3 n) .nil)), (1000900, 1000920, obV ba rows), (901, 921, mo), (1000027, 1000027, ⟨bt, 9, 1, rt.take hi.toNat⟩)] _ (fun i => ?_) (by show ([920, 1000920, 921, 1000027] : List Nat).Nodup; decide) ⟨⟨_, k0, rfl, obSh_z0 (k := 0) (k' := 0)⟩, ⟨_, k1, rfl, rfl⟩, ⟨_, k2, rfl, rfl⟩, ⟨_, rfl, rfl, rfl⟩, trivial⟩
  left
  show (upd (upd s.t 6 _) 5 _ i).rl z0 = (upd s.t 6 _ i).rl z0
  unfold upd
  by_cases h : i = 5
  · subst h
    rw [if_pos rfl, if_neg (by decide), h5]; rfl
  · rw [if_neg h]; rfl
end Go.Proofs.Ytobngncjflogcaa.AM

set_option linter.unusedVariables false
set_option linter.unusedSimpArgs false
namespace Go.Proofs.Ytobngncjflogcaa.AM
open Go Go.RowKit
set_option maxRecDepth 100000
set_option maxHeartbeats 2000000
def ac_tput : AC := .seq (.region false [
    ⟨some 2, none, .mov (.c (.slice none 0 0))⟩])
  (.seq (.region false [
    ⟨some 3, none, .mov (.t 0)⟩,
    ⟨some 4, none, .build [(.int .i64 0), (.int .i64 0), (.string ⟨#[]⟩)] [(0, 1, (.c (.int .i64 2))), (2, 1, (.t 3))]⟩,
    ⟨some 5, none, .bslice 108 3 [(.t 4)]⟩,
    ⟨some 2, none, .mov (.t 5)⟩])
  (.ret))
theorem ok_tput : FnOk Try.prog 51 Try.f51 ac_tput [.t 2] 1 drawD := ⟨Try.func51, by decide +kernel, by kernel_rfl, by kernel_rfl, by decide +kernel⟩
theorem vc_tput (P : Prim) (hP : P = std) (T T1 : CallT) (s : List UInt8) (R : S → Prop) (hR : RetSl [.t 2] 3 [[.int .i64 2, .int .i64 0, .str s]] [] R) : awp P T T1 ac_tput (S0 [.str s] Hp.emp) R (fun _ _ => False) R := by
  obtain ⟨_, hR2, _⟩ := hR
  cbv
  repeat' (first
    | (refine And.intro (by first | assumption | decide) ?_; try cbv)
    | (intro β2; try cbv))
  exact hR2 _ _ 1000005 _ _ _ _ (Ent.refl _) rfl rfl ⟨rfl, rfl⟩
theorem sp_tput (s : List UInt8) : Spec Try.prog 51 [.str s] Hp.emp (Is (encParts [⟨2, 0, s⟩])) :=
  spec_frz dOk ok_tput fun R hR => vc_tput std rfl _ _ s R (retSl_of (parts_sz [⟨2, 0, s⟩]) (encParts_fz [⟨2, 0, s⟩]) (fun v hv => by cases hv) hR)
def ac_begun : AC := .seq (.region false [
    ⟨some 0, none, .mov (.c (.bool false))⟩])
  (.seq (.region false [
    ⟨some 6, none, .call 17 []⟩,
    ⟨some 1, none, .mov (.t 6)⟩])
  (.seq (.seq (.region false [
    ⟨some 7, none, .mov (.t 1)⟩,
    ⟨some 8, none, .eqp false (.t 7) (.c (.pointer none))⟩])
  (.cond (.t 8)
    (.seq (.region false [
      ⟨some 0, none, .mov (.c (.bool false))⟩])
    (.ret))
    (.skip)))
  (.seq (.region false [
    ⟨some 10, none, .mov (.t 1)⟩,
    ⟨some 11, none, .call 51 [(.c (.string ⟨#[97]⟩))]⟩,
    ⟨some 12, none, .build [(.int .i64 0), (.int .i64 0), (.slice none 0 0)] [(0, 1, (.c (.int .i64 1))), (1, 1, (.c (.int .i64 1))), (2, 1, (.t 11))]⟩,
    ⟨some 13, none, .call 18 [(.t 10), (.t 12)]⟩,
    ⟨some 9, none, .mov (.t 13)⟩,
    ⟨some 14, none, .ext 0 (.t 9)⟩,
    ⟨some 15, none, .ext 1 (.t 9)⟩,
    ⟨some 2, none, .mov (.t 14)⟩,
    ⟨some 3, none, .mov (.t 15)⟩])
  (.seq (.region false [
    ⟨some 17, none, .mov (.t 1)⟩,
    ⟨some 18, none, .call 22 [(.t 17), (.c (.int .i64 1))]⟩,
    ⟨some 16, none, .mov (.t 18)⟩,
    ⟨some 19, none, .ext 0 (.t 16)⟩,
    ⟨some 20, none, .ext 1 (.t 16)⟩,
    ⟨some 4, none, .mov (.t 19)⟩,
    ⟨some 5, none, .mov (.t 20)⟩])
  (.seq (.region false [
    ⟨some 21, none, .mov (.t 2)⟩,
    ⟨some 22, none, .bin .eql (.t 21) (.c (.int .i64 1))⟩,
    ⟨some 23, none, .mov (.t 22)⟩,
    ⟨some 24, some (23, true), .mov (.t 3)⟩,
    ⟨some 25, some (23, true), .bin .eql (.t 24) (.c (.int .i64 0))⟩,
    ⟨some 26, none, .pick (.t 23) (.t 25) (.c (.bool false))⟩,
    ⟨some 27, none, .mov (.t 26)⟩,
    ⟨some 28, some (27, true), .mov (.t 4)⟩,
    ⟨some 29, some (27, true), .bin .eql (.t 28) (.c (.string ⟨#[97]⟩))⟩,
    ⟨some 30, none, .pick (.t 27) (.t 29) (.c (.bool false))⟩,
    ⟨some 31, none, .mov (.t 30)⟩,
    ⟨some 32, some (31, true), .mov (.t 5)⟩,
    ⟨some 33, some (31, true), .bin .eql (.t 32) (.c (.int .i64 0))⟩,
    ⟨some 34, none, .pick (.t 31) (.t 33) (.c (.bool false))⟩,
    ⟨some 0, none, .mov (.t 34)⟩])
  (.ret))))))
theorem ok_begun : FnOk Try.prog 11 Try.f11 ac_begun [.t 0] 0 drawD := ⟨Try.func11, by decide +kernel, by kernel_rfl, by kernel_rfl, by decide +kernel⟩
def r1 : Rev := ⟨1, 1, [⟨2, 0, [97]⟩]⟩
theorem vc_begun (P : Prim) (hP : P = std) (T T1 : CallT) (hnew : SNewC T) (hadd : SAddC0 T) (htext : STextC T) (dr : List (List V)) (hdr : dr = r1.delta.map encPart) (hput : Ans T 51 [.str [97]] (.sl false 3 dr)) (hr : PartsOk r1.delta)
    (D : SC) (L : List Rev) (hn1 : newD.b = 0) (ha1 : (shAdd newD [] r1).v = 1) (ha2 : (shAdd newD [] r1).e = 0) (hD : (shAdd newD [] r1).d = D) (hL : (shAdd newD [] r1).l = L) (hLo : RevsOk L) (hDb : D.b = 0) (hLl : L.length ≤ 1000) (x1 : (stextT D L 1).1 = [97]) (x2 : (stextT D L 1).2 = 0)
    (R : S → Prop) (hR : ∀ s s' b, b = true → Ent s s' → Ret [.t 0] [.bool b] s' → R s) : awp P T T1 ac_begun (S0 [] Hp.emp) R (fun _ _ => False) R := by
  cbv
  repeat' (first
    | (refine And.intro (by first | assumption | decide) ?_; try cbv)
    | (intro β2; try cbv))
  refine hnew 20 21 _ _ rfl rfl rfl rfl fun β d hd => ?_
  cbv
  repeat' (first
    | (refine And.intro (by first | assumption | decide) ?_; try cbv)
    | (intro β2; try cbv))
  refine hput _ _ ?_
  cbv
  repeat' (first
    | (refine And.intro (by first | assumption | decide) ?_; try cbv)
    | (intro β2; try cbv))
  refine hadd 20 21 β d none 0 [] [] r1 1 1 dr _ _ rfl rfl ⟨rfl, rfl, hdr⟩ hr (by decide) (by rw [hd, hn1]; decide) rfl rfl rfl fun v e ba d2 n2 rows2 hv he hd2 hn2 hr2 => ?_
  rw [hd] at hv he hd2 hn2 hr2
  rw [ha1] at hv
  rw [ha2] at he
  rw [hD] at hd2
  rw [hL] at hn2 hr2
  cbv
  repeat' (first
    | (refine And.intro (by first | assumption | decide) ?_; try cbv)
    | (intro β2; try cbv))
  refine htext 20 21 β d2 ba n2 rows2 L .nil 1 _ _ hr2 hn2 hLo (by rw [hd2, hDb]; decide) hLl ⟨⟨.nil, rfl⟩, rfl⟩ rfl rfl rfl rfl fun x y hx hy => ?_
  rw [hd2, x1] at hx
  rw [hd2, x2] at hy
  cbv
  repeat' (first
    | (refine And.intro (by first | assumption | decide) ?_; try cbv)
    | (intro β2; try cbv))
  refine br_tt (eq_T hP hv) ?_
  cbv
  repeat' (first
    | (refine And.intro (by first | assumption | decide) ?_; try cbv)
    | (intro β2; try cbv))
  refine br_tt (eq_T hP he) ?_
  cbv
  repeat' (first
    | (refine And.intro (by first | assumption | decide) ?_; try cbv)
    | (intro β2; try cbv))
  refine br_tt (seq_T hP hx) ?_
  cbv
  repeat' (first
    | (refine And.intro (by first | assumption | decide) ?_; try cbv)
    | (intro β2; try cbv))
  exact hR _ _ _ (eq_T hP hy) (Ent.refl _) rfl
theorem r1_ok : PartsOk r1.delta := ⟨by decide, fun p hp => by
  have : p = ⟨2, 0, [97]⟩ := by simpa [r1] using hp
  subst this
  exact ⟨by unfold I64; decide, by unfold I64; decide, by decide⟩⟩
theorem add1 : shAdd newD [] r1 = ⟨addD { putS newD newD.at' (revF r1).1 with now := (doF r1.delta newD.now).1 } [] r1, [r1], 1, 0⟩ := by
  have h1 : nextF newD.b newD.tb ([] : List Rev).length newD.now.length r1 = 0 := by
    show nextF 0 (fun _ => 0) 0 ([] : List UInt8).length r1 = 0
    decide +kernel
  have h2 : (revF r1).2 = 0 := by decide +kernel
  unfold shAdd
  rw [if_neg (by rw [h1]; simp), if_neg (by rw [h2]; simp)]
  rfl
theorem sp_begun : Spec Try.prog 11 [] Hp.emp (Is (.bool true)) :=
  spec_pure dOk ok_begun [.bool true] (.bool _) fun R hR => vc_begun std rfl _ _ snewC saddC0 stextE _ rfl (ansSame (sp_tput [97]) rfl rfl) r1_ok
    (addD { putS newD newD.at' (revF r1).1 with now := (doF r1.delta newD.now).1 } [] r1) [r1] rfl (by rw [add1]) (by rw [add1]) (by rw [add1]) (by rw [add1]) ⟨by decide, fun r hr => by
      have : r = r1 := by simpa using hr
      subst this
      exact ⟨by unfold I64; decide, by unfold I64; decide, r1_ok⟩⟩ rfl (by decide)
    (by show (if thereT 0 1 1 ≠ 0 then (([], thereT 0 1 1) : List UInt8 × Int) else textF [] [r1] (1 - 0)).1 = _
        decide +kernel)
    (by show (if thereT 0 1 1 ≠ 0 then (([], thereT 0 1 1) : List UInt8 × Int) else textF [] [r1] (1 - 0)).2 = _
        decide +kernel)
    R fun s s' b hb he hr => by subst hb; exact hR s s' he hr
end Go.Proofs.Ytobngncjflogcaa.AM

set_option linter.unusedVariables false
set_option linter.unusedSimpArgs false
namespace Go.Proofs.Ytobngncjflogcaa.AM
open Go Go.RowKit
set_option maxRecDepth 100000
set_option maxHeartbeats 2000000
theorem N900 : N3 900 1000900 901 := ⟨rfl, rfl, rfl⟩
end Go.Proofs.Ytobngncjflogcaa.AM
