/-
  Texts of the plain machine, put together: what the law ShopOpens reaches.
-/
import Derived.Test.YtobngncjflogcaaShopOpens13
import Derived.Test.YtobngncjflogcaaShopOpens12
import Derived.Test.YtobngncjflogcaaShopOpens7
import Derived.Test.YtobngncjflogcaaShopOpens5
import Derived.Test.YtobngncjflogcaaShopOpens6
set_option linter.unusedVariables false
set_option linter.unusedSimpArgs false
namespace Go.Proofs.Ytobngncjflogcaa.AM
open Go Go.RowKit
set_option maxRecDepth 100000
set_option maxHeartbeats 2000000
theorem awp_upto {P : Prim} {T T1 : CallT} {N : S → Prop} {X : Nat → S → Prop} {R : S → Prop} : ∀ (n : Nat) (ac : AC) (s : S), awp P T T1 (uptoS n ac .skip) s (fun s => awp P T T1 (fromS n ac) s N X R) X R → awp P T T1 ac s N X R := by
  have key : ∀ (n : Nat) (ac : AC), (fun s => awp P T T1 (uptoS n ac .skip) s (fun s => awp P T T1 (fromS n ac) s N X R) X R) = fun s => awp P T T1 ac s N X R := by
    intro n
    induction n with
    | zero => intro ac; rfl
    | succ n ih =>
      intro ac
      cases ac with
      | seq x y =>
        funext s
        show awp P T T1 x s (fun s => awp P T T1 (uptoS n y .skip) s (fun s => awp P T T1 (fromS n y) s N X R) X R) X R = awp P T T1 x s (fun s => awp P T T1 y s N X R) X R
        rw [ih y]
      | _ => rfl
  intro n ac s h
  have := congrFun (key n ac) s
  exact this ▸ h
def totF : List Frame → Int
  | [] => 0
  | f :: l => (f.body.length : Int) + 7 + totF l
theorem tot_scan : ∀ (n : Nat) (s : List UInt8), totF (scanG n s).1 ≤ (s.length : Int)
  | 0, s => by simp [scanG, totF]
  | n + 1, s => by
    unfold scanG
    split
    · show (0 : Int) ≤ _; omega
    · rename_i h
      have hk := getFr_ok (Decidable.of_not_not h)
      have ih := tot_scan n (s.drop (getFr s).2.1.toNat)
      rw [List.length_drop] at ih
      show ((getFr s).1.body.length : Int) + 7 + totF (scanG n (s.drop (getFr s).2.1.toNat)).1 ≤ _
      omega
theorem tot_nn : ∀ l : List Frame, 0 ≤ totF l
  | [] => Int.le_refl _
  | f :: l => by have := tot_nn l; show 0 ≤ (f.body.length : Int) + 7 + totF l; omega
theorem step_good {L : LogD} {now : List UInt8} {f : Frame} {q : LogD × List UInt8} (h : stepL L now f = some q) : q.1.good = L.good + ((f.body.length : Int) + 7) := by
  unfold stepL at h
  split at h
  · split at h
    · cases h
    · cases h; rfl
  · split at h
    · split at h
      · cases h; rfl
      · cases h
    · cases h
theorem all_good : ∀ (fs : List Frame) (L : LogD) (now : List UInt8), L.good ≤ (allL fs L now).good ∧ (allL fs L now).good ≤ L.good + totF fs
  | [], L, now => ⟨Int.le_refl _, by show L.good ≤ L.good + 0; omega⟩
  | f :: fs, L, now => by
    rw [allL]
    have ht := tot_nn fs
    cases hs : stepL L now f with
    | none => exact ⟨Int.le_refl _, by show L.good ≤ L.good + ((f.body.length : Int) + 7 + totF fs); omega⟩
    | some q =>
      have h1 := step_good hs
      obtain ⟨h2, h3⟩ := all_good fs q.1 q.2
      refine ⟨?_, ?_⟩
      · show L.good ≤ (allL fs q.1 q.2).good; omega
      · show (allL fs q.1 q.2).good ≤ L.good + ((f.body.length : Int) + 7 + totF fs); omega
theorem read_good (fs : List Frame) : 0 ≤ (readL fs).1.good ∧ (readL fs).1.good ≤ totF fs := by
  have key : ∀ (hg hbs : List UInt8 → Int) (ht : List UInt8 → List UInt8) (hf : List UInt8 → Nat → Int) (ho : List UInt8 → Bool), 0 ≤ (readG hg hbs ht hf ho fs).1.good ∧ (readG hg hbs ht hf ho fs).1.good ≤ totF fs := by
    intro hg hbs ht hf ho
    cases fs with
    | nil => exact ⟨Int.le_refl _, Int.le_refl _⟩
    | cons f fs =>
      have e : readG hg hbs ht hf ho (f :: fs) = if f.kind ≠ 1 ∨ ho f.body = false then (zeroL, 3) else (allL fs (headG (hg f.body) (hbs f.body) (ht f.body) (hf f.body) ((f.body.length : Int) + 7)) (ht f.body), 0) := rfl
      have ht' := tot_nn fs
      rw [e]
      split
      · exact ⟨Int.le_refl _, by show (0 : Int) ≤ (f.body.length : Int) + 7 + totF fs; omega⟩
      · obtain ⟨h2, h3⟩ := all_good fs (headG (hg f.body) (hbs f.body) (ht f.body) (hf f.body) ((f.body.length : Int) + 7)) (ht f.body)
        have h4 : (headG (hg f.body) (hbs f.body) (ht f.body) (hf f.body) ((f.body.length : Int) + 7)).good = (f.body.length : Int) + 7 := rfl
        rw [h4] at h2 h3
        refine ⟨?_, ?_⟩
        · show 0 ≤ (allL fs _ _).good; omega
        · show (allL fs _ _).good ≤ (f.body.length : Int) + 7 + totF fs; omega
  exact key _ _ _ _ _
theorem good_len (s : List UInt8) : 0 ≤ (readL (scanF s).1).1.good ∧ (readL (scanF s).1).1.good ≤ (s.length : Int) := by
  obtain ⟨h1, h2⟩ := read_good (scanF s).1
  have := tot_scan (s.length + 1) s
  exact ⟨h1, Int.le_trans h2 this⟩
structure ROpR where
  d : RSh
  tx : List (List UInt8)
  l : List Rev
  e : Int
def ropenD (a1 b1 : List UInt8) (i : Int) (L : LogD) : RSh :=
  if i = 0 then ⟨a1.take L.good.toNat, ((a1.take L.good.toNat).length : Int), [], 0, 0, L.gen, L.base, L.first, L.base + (L.revs.length : Int), false, 0, 0, false, false⟩
  else ⟨[], 0, b1.take L.good.toNat, ((b1.take L.good.toNat).length : Int), 1, L.gen, L.base, L.first, L.base + (L.revs.length : Int), false, 0, 0, false, false⟩
def ropenL (a1 b1 : List UInt8) (i : Int) (L : LogD) : ROpR := ⟨ropenD a1 b1 i L, (textsF L.text L.revs).1, L.revs, 0⟩
def ropenE (e : Int) : ROpR := ⟨⟨[], 0, [], 0, 0, 0, 0, fun _ => 0, 0, false, 0, 0, false, false⟩, [], [], e⟩
def ropenG (A B : LogD × Int) (a1 b1 : List UInt8) : ROpR :=
  if goodL A then (if goodL B ∧ A.1.gen < B.1.gen then ropenL a1 b1 1 B.1 else ropenL a1 b1 0 A.1)
  else if goodL B then ropenL a1 b1 1 B.1 else ropenE 12
def ropenF (a1 : List UInt8) (a2 : Int) (b1 : List UInt8) (b2 : Int) : ROpR := if diskT a1 a2 b1 b2 ≠ 0 then ropenE (diskT a1 a2 b1 b2) else ropenG (readL (scanF a1).1) (readL (scanF b1).1) a1 b1
def ROpPost (y : ROpR) (x : V) (L' : List (Nat × Ob)) : Prop := (y.e ≠ 0 ∧ x = .tup [.nil, .int .i64 y.e] ∧ L' = []) ∨ (y.e = 0 ∧ ∃ bl, x = .tup [.ptr 53 (some bl) 31 0 0, .int .i64 0] ∧ L' = [(53, obRf bl y.d (.sl false 1 (strRows y.tx)) (.sl false 3 (y.l.map encRev)))])
theorem revRows_fz (l : List Rev) : ∀ r ∈ l.map encRev, ∀ v ∈ r, Fz v := fun r hr v hv => encRevs_fz l r hr v hv
theorem sp_ropen (a1 : List UInt8) (a2 : Int) (b1 : List UInt8) (b2 : Int) : Spec Try.prog 8 [.agg [.str a1, .int .i64 a2, .str b1, .int .i64 b2]] (lookH []) fun x h' => ∃ L', ROpPost (ropenF a1 a2 b1 b2) x L' ∧ h' = lookH L' := by
  refine spec_meth dOk ok_ropen (L := []) (ROpPost (ropenF a1 a2 b1 b2)) fun R hR => ?_
  obtain ⟨LA, eA, hA⟩ : ∃ L e, readL (scanF a1).1 = (L, e) := ⟨_, _, rfl⟩
  obtain ⟨LB, eB, hB⟩ : ∃ L e, readL (scanF b1).1 = (L, e) := ⟨_, _, rfl⟩
  have hgA := good_len a1
  have hgB := good_len b1
  rw [hA] at hgA
  rw [hB] at hgB
  obtain ⟨y, hy⟩ : ∃ y, ropenF a1 a2 b1 b2 = y := ⟨_, rfl⟩
  rw [hy] at hR
  unfold ropenF at hy
  rw [hA, hB] at hy
  have hE : ∀ (s s' : S) (e : Int), y = ropenE e → e ≠ 0 → Ent s s' → Ret [.t 2, .t 3] [.nil, .int .i64 e] s' → R s := by
    rintro s s' e rfl he hent hr
    exact hR s s' (.tup [.nil, .int .i64 e]) [] hent (resV_mono _ _ _ (fun x hx => by rw [hx]; rfl) hr) trivial (.tup _ (by simp; exact ⟨.nil, .int _ _⟩)) (fun p hp => by cases hp) (.inl ⟨he, rfl, rfl⟩)
  have hO : ∀ (s s' : S) (bl : Nat) (d : RSh) (tx : List (List UInt8)) (l : List Rev), y = ⟨d, tx, l, 0⟩ → Ent s s' → Ret [.t 2, .t 3] [.ptr 53 (some bl) 31 0 0, .int .i64 0] s' → agreeH [(53, obRf bl d (.sl false 1 (strRows tx)) (.sl false 3 (l.map encRev)))] s' → R s := by
    rintro s s' bl d tx l rfl hent hr ha
    exact hR s s' (.tup [.ptr 53 (some bl) 31 0 0, .int .i64 0]) _ hent (resV_mono _ _ _ (fun x hx => by rw [hx]; rfl) hr) ha (.tup _ (by simp; exact ⟨.ptr _ _ _ _ _, .int _ _⟩)) (fun p hp => by simp only [List.mem_singleton] at hp; subst hp; exact obRf_fz (strRows_fz _) (revRows_fz _)) (.inr ⟨rfl, bl, rfl, rfl⟩)
  refine awp_upto 9 ac_ropen _ ?_
  refine vc_ropA std rfl _ _ a1 a2 b1 b2 (diskT a1 a2 b1 b2) (ansW (sp_rdk a1 a2 b1 b2) (fun h => .cons (.same _) .nil) rfl) LA LB LA.whole LB.whole eA eB (LA.revs.map encRev) (LB.revs.map encRev) (fun hc => ?_) (fun hc => ?_) _ R ?_ ?_ ?_
  · have := ansSame (sp_rlog a1 (diskT_len hc).1) rfl rfl
    rw [hA] at this
    exact this
  · have := ansSame (sp_rlog b1 (diskT_len hc).2) rfl rfl
    rw [hB] at this
    exact this
  · rintro s s' e (⟨hc, rfl⟩ | ⟨hc, n1, n2, rfl⟩) hent hr
    · rw [if_pos hc] at hy
      exact hE s s' _ hy.symm hc hent hr
    · rw [if_neg (fun h => h hc)] at hy
      unfold ropenG at hy
      have n1 : ¬ goodL (LA, eA) := n1
      have n2 : ¬ goodL (LB, eB) := n2
      rw [if_neg n1, if_neg n2] at hy
      exact hE s s' 12 hy.symm (by decide) hent hr
  · intro hc hg hn s hs
    rw [if_neg (fun h => h hc)] at hy
    unfold ropenG at hy
    have gA : goodL (LA, eA) := hg
    have nB : ¬ (goodL (LB, eB) ∧ LA.gen < LB.gen) := hn
    rw [if_pos gA, if_neg nB] at hy
    have hok := readL_ok hA hg.1
    have hgd : 0 ≤ LA.good ∧ LA.good ≤ (a1.length : Int) := hgA
    obtain ⟨z, hz⟩ : ∃ z, z = a1.take LA.good.toNat := ⟨_, rfl⟩
    have hz2 : z = std.ssub a1 0 LA.good := hz
    refine awp_upto 1 _ _ ?_
    refine vc_ropB0 std rfl _ _ a1 a2 b1 b2 LA LA.whole (LA.revs.map encRev) hgd z (z.length : Int) hz2 (ansP (sp_rsafe z) (fun _ => .cons (.same _) .nil) rfl) _ R (fun s hs => ?_) s hs
    refine vc_ropD std rfl _ _ rheadE z [] (z.length : Int) 0 0 LA LA.whole (LA.revs.map encRev) (by rw [List.length_map]; exact hok.n) hok.b (strRows (textsF LA.text LA.revs).1) (textsF LA.text LA.revs).2 (strRows_fz _) (revRows_fz _) (ansStr (sp_rtexts LA.text LA.revs hok.rv) rfl rfl) R (fun s s' bl q hq he hr ha => ?_) s hs
    refine hO s s' bl _ _ _ ?_ he hr ha
    rw [← hy, hq, List.length_map, hz]
    rfl
  · intro hc hg hn s hs
    rw [if_neg (fun h => h hc)] at hy
    unfold ropenG at hy
    have gB : goodL (LB, eB) := hg
    have hn : goodL (LA, eA) → LA.gen < LB.gen := hn
    have hy : ropenL a1 b1 1 LB = y := by
      by_cases gA : goodL (LA, eA)
      · rw [if_pos gA, if_pos ⟨gB, hn gA⟩] at hy; exact hy
      · rw [if_neg gA, if_pos gB] at hy; exact hy
    have hok := readL_ok hB hg.1
    have hgd : 0 ≤ LB.good ∧ LB.good ≤ (b1.length : Int) := hgB
    obtain ⟨z, hz⟩ : ∃ z, z = b1.take LB.good.toNat := ⟨_, rfl⟩
    have hz2 : z = std.ssub b1 0 LB.good := hz
    refine awp_upto 1 _ _ ?_
    refine vc_ropB1 std rfl _ _ a1 a2 b1 b2 LB LB.whole (LB.revs.map encRev) hgd z (z.length : Int) hz2 (ansP (sp_rsafe z) (fun _ => .cons (.same _) .nil) rfl) _ R (fun s hs => ?_) s hs
    refine vc_ropD std rfl _ _ rheadE [] z 0 (z.length : Int) 1 LB LB.whole (LB.revs.map encRev) (by rw [List.length_map]; exact hok.n) hok.b (strRows (textsF LB.text LB.revs).1) (textsF LB.text LB.revs).2 (strRows_fz _) (revRows_fz _) (ansStr (sp_rtexts LB.text LB.revs hok.rv) rfl rfl) R (fun s s' bl q hq he hr ha => ?_) s hs
    refine hO s s' bl _ _ _ ?_ he hr ha
    rw [← hy, hq, List.length_map, hz]
    rfl
def ROpenC (T : CallT) : Prop := ∀ (k : Nat) (a1 : List UInt8) (a2 : Int) (b1 : List UInt8) (b2 : Int) (h : Hp) (K : V → Hp → Prop), h k = none →
  (∀ d tx l e, ⟨d, tx, l, e⟩ = ropenF a1 a2 b1 b2 → (e ≠ 0 → K (.tup [.nil, .int .i64 e]) h) ∧ (e = 0 → ∀ bl tr lr, tr = strRows tx → lr = l.map encRev → K (.tup [.ptr k (some bl) 31 0 0, .int .i64 0]) (h.puts [(k, obRf bl d (.sl false 1 tr) (.sl false 3 lr))]))) → T 8 [.agg [.str a1, .int .i64 a2, .str b1, .int .i64 b2]] h K
theorem ropenC : ROpenC (CallE Try.prog) := by
  intro k a1 a2 b1 b2 h K hk hK
  have l0 : lab [(53, k)] 53 = k := by simp [lab]
  have nd1 : ([(53, k)].map (·.1)).Nodup := by simp
  have nd2 : ([(53, k)].map (·.2)).Nodup := by simp
  refine callG (sp_ropen a1 a2 b1 b2) (m := [(53, k)]) (.cons (.same _) .nil) (fun j o hj => by cases hj) (fun q hq => ⟨lab_mem nd1 q hq, bal_mem nd2 q hq, fun o ho => by cases ho⟩) ?_
  obtain ⟨y, hy⟩ : ∃ y, ropenF a1 a2 b1 b2 = y := ⟨_, rfl⟩
  rw [hy] at hK ⊢
  obtain ⟨d, tx, l, e⟩ := y
  rintro x L' (⟨he, rfl, rfl⟩ | ⟨he, bl, rfl, rfl⟩)
  · have e0 : h.upd [(53, k)] (lookH []) = h := by
      funext i
      simp only [Hp.upd, List.any_cons, List.any_nil, Bool.or_false, decide_eq_true_eq]
      split
      · rename_i hi
        show (none : Option Ob) = _
        rw [← hi, hk]
      · rfl
    rw [e0]
    exact (hK d tx l e rfl).1 he
  · rw [upd_puts h _ _ rfl nd1 nd2 (by simp)]
    have e1 : backL [(53, k)] (Ob.ren (lab [(53, k)])) [(53, obRf bl d (.sl false 1 (strRows tx)) (.sl false 3 (l.map encRev)))] = [(k, obRf bl d (.sl false 1 (strRows tx)) (.sl false 3 (l.map encRev)))] := rfl
    rw [e1]
    have e2 : (V.tup [.ptr 53 (some bl) 31 0 0, .int .i64 0]).ren (lab [(53, k)]) = .tup [.ptr k (some bl) 31 0 0, .int .i64 0] := by
      show V.tup [.ptr (lab _ 53) (some bl) 31 0 0, .int .i64 0] = _
      rw [l0]
    rw [e2]
    exact (hK d tx l e rfl).2 he bl _ _ rfl rfl
def ac_rther : AC := .seq (.region false [
    ⟨some 4, none, .mov (.c (.int .i64 0))⟩])
  (.seq (.seq (.region false [
    ⟨some 5, none, .mov (.t 1)⟩,
    ⟨some 6, none, .mov (.t 0)⟩,
    ⟨some 7, none, .nilchk (.t 6)⟩,
    ⟨some 8, none, .faddr 6 (.t 7)⟩,
    ⟨some 9, none, .load1 (.t 8)⟩,
    ⟨some 10, none, .bin .lss (.t 5) (.t 9)⟩])
  (.cond (.t 10)
    (.seq (.region false [
      ⟨some 4, none, .mov (.c (.int .i64 9))⟩])
    (.ret))
    (.skip)))
  (.seq (.seq (.region false [
    ⟨some 11, none, .mov (.t 1)⟩,
    ⟨some 12, none, .mov (.t 0)⟩,
    ⟨some 13, none, .call 41 [(.t 12)]⟩,
    ⟨some 14, none, .bin .gtr (.t 11) (.t 13)⟩])
  (.cond (.t 14)
    (.seq (.region false [
      ⟨some 4, none, .mov (.c (.int .i64 8))⟩])
    (.ret))
    (.skip)))
  (.seq (.region false [
    ⟨some 4, none, .mov (.c (.int .i64 0))⟩])
  (.ret))))
theorem ok_rther : FnOk Try.prog 45 Try.f45 ac_rther [.t 4] 2 drawD := ⟨Try.func45, by decide +kernel, by kernel_rfl, by kernel_rfl, by decide +kernel⟩
theorem vc_rther (P : Prim) (hP : P = std) (T T1 : CallT) (hhd : RHeadC T) (bl : Nat) (d : RSh) (tr lr : List (List V)) (ht : ∀ r ∈ tr, ∀ v ∈ r, Fz v) (hl : ∀ r ∈ lr, ∀ v ∈ r, Fz v) (hb : 0 ≤ d.b ∧ d.b ≤ 4294967295) (hn : lr.length ≤ 1000) (j : Int) (y : Int) (hy : y = thereT d.b lr.length j)
    (R : S → Prop) (hR : ∀ s s' q, q = y → Ent s s' → Ret [.t 4] [.int .i64 q] s' → agreeH [(0, obRf bl d (.sl false 1 tr) (.sl false 3 lr))] s' → R s) : awp P T T1 ac_rther (S0 [.ptr 0 (some bl) 31 0 0, .int .i64 j] (lookH [(0, obRf bl d (.sl false 1 tr) (.sl false 3 lr))])) R (fun _ _ => False) R := by
  unfold thereT at hy
  cbv
  repeat' (first
    | (refine And.intro (by first | assumption | decide) ?_; try cbv)
    | (intro β2; try cbv))
  refine br_cases (fun g => ?_) (fun g => ?_)
  · have g1 : j < d.b := lt_t hP g
    rw [if_pos g1] at hy
    cbv
    repeat' (first
    | (refine And.intro (by first | assumption | decide) ?_; try cbv)
    | (intro β2; try cbv))
    exact hR _ _ _ hy.symm (Ent.refl _) rfl ⟨rfl, trivial⟩
  have g1 : ¬ j < d.b := lt_f hP g
  rw [if_neg g1] at hy
  cbv
  repeat' (first
    | (refine And.intro (by first | assumption | decide) ?_; try cbv)
    | (intro β2; try cbv))
  refine hhd 0 bl d tr lr _ _ ht hl hb hn rfl fun q hq => ?_
  cbv
  repeat' (first
    | (refine And.intro (by first | assumption | decide) ?_; try cbv)
    | (intro β2; try cbv))
  refine br_cases (fun g => ?_) (fun g => ?_)
  · have g2 : q < j := lt_t hP g
    rw [hq] at g2
    rw [if_pos g2] at hy
    cbv
    repeat' (first
    | (refine And.intro (by first | assumption | decide) ?_; try cbv)
    | (intro β2; try cbv))
    exact hR _ _ _ hy.symm (Ent.refl _) rfl ⟨rfl, trivial⟩
  have g2 : ¬ q < j := lt_f hP g
  rw [hq] at g2
  rw [if_neg g2] at hy
  cbv
  repeat' (first
    | (refine And.intro (by first | assumption | decide) ?_; try cbv)
    | (intro β2; try cbv))
  exact hR _ _ _ hy.symm (Ent.refl _) rfl ⟨rfl, trivial⟩
theorem sp_rther (bl : Nat) (d : RSh) (tr lr : List (List V)) (ht : ∀ r ∈ tr, ∀ v ∈ r, Fz v) (hl : ∀ r ∈ lr, ∀ v ∈ r, Fz v) (hb : 0 ≤ d.b ∧ d.b ≤ 4294967295) (hn : lr.length ≤ 1000) (j : Int) : Spec Try.prog 45 [.ptr 0 (some bl) 31 0 0, .int .i64 j] (lookH [(0, obRf bl d (.sl false 1 tr) (.sl false 3 lr))]) fun x h' => ∃ L', (x = .int .i64 (thereT d.b lr.length j) ∧ L' = [(0, obRf bl d (.sl false 1 tr) (.sl false 3 lr))]) ∧ h' = lookH L' :=
  spec_meth dOk ok_rther (L := [(0, obRf bl d (.sl false 1 tr) (.sl false 3 lr))]) (fun x L' => x = .int .i64 (thereT d.b lr.length j) ∧ L' = [(0, obRf bl d (.sl false 1 tr) (.sl false 3 lr))]) fun R hR =>
    vc_rther std rfl _ _ rheadE bl d tr lr ht hl hb hn j _ rfl R fun s s' q hq he hr ha => hR s s' _ _ he (resV_mono _ _ _ (fun x hx => by rw [hx, hq]; rfl) hr) ha (.int _ _) (fun p hp => by simp only [List.mem_singleton] at hp; subst hp; exact obRf_fz ht hl) ⟨rfl, rfl⟩
def RTherC (T : CallT) : Prop := ∀ (k bl : Nat) (d : RSh) (tr lr : List (List V)) (j : Int) (h : Hp) (K : V → Hp → Prop), (∀ r ∈ tr, ∀ v ∈ r, Fz v) → (∀ r ∈ lr, ∀ v ∈ r, Fz v) → (0 ≤ d.b ∧ d.b ≤ 4294967295) → lr.length ≤ 1000 → h k = some (obRf bl d (.sl false 1 tr) (.sl false 3 lr)) → (∀ q, q = thereT d.b lr.length j → K (.int .i64 q) h) → T 45 [.ptr k (some bl) 31 0 0, .int .i64 j] h K
theorem rtherE : RTherC (CallE Try.prog) := fun k bl d tr lr j h K ht hl hb hn hk hK => rdRE ht hl (sp_rther bl d tr lr ht hl hb hn j) (fun _ _ => .cons (.same _) .nil) (fun _ => rfl) hk (hK _ rfl)
def ac_rtxt : AC := .seq (.region false [
    ⟨some 4, none, .mov (.c (.string ⟨#[]⟩))⟩])
  (.seq (.region true [
    ⟨some 5, none, .mov (.t 0)⟩,
    ⟨some 6, none, .nilchk (.t 5)⟩,
    ⟨some 7, none, .faddr 23 (.t 6)⟩,
    ⟨some 8, none, .load1 (.t 7)⟩,
    ⟨some 9, none, .mov (.t 1)⟩,
    ⟨some 10, none, .mov (.t 0)⟩,
    ⟨some 11, none, .nilchk (.t 10)⟩,
    ⟨some 12, none, .faddr 6 (.t 11)⟩,
    ⟨some 13, none, .load1 (.t 12)⟩,
    ⟨some 14, none, .bin .sub (.t 9) (.t 13)⟩,
    ⟨some 15, none, .iaddr 1 (.t 8) (.t 14)⟩,
    ⟨some 16, none, .load1 (.t 15)⟩,
    ⟨some 4, none, .mov (.t 16)⟩])
  (.ret))
theorem ok_rtxt : FnOk Try.prog 46 Try.f46 ac_rtxt [.t 4] 2 drawD := ⟨Try.func46, by decide +kernel, by kernel_rfl, by kernel_rfl, by decide +kernel⟩
theorem vc_rtxt (P : Prim) (hP : P = std) (T T1 : CallT) (bl : Nat) (d : RSh) (tr lr : List (List V)) (j : Int) (m1 : P.i64 (P.sub j d.b)) (m2 : P.leP 0 (P.sub j d.b)) (s0 : List UInt8) (hrow : P.row tr (P.nat (P.sub j d.b)) [.str s0])
    (R : S → Prop) (hR : ∀ s s' q, q = s0 → Ent s s' → Ret [.t 4] [.str q] s' → agreeH [(0, obRf bl d (.sl false 1 tr) (.sl false 3 lr))] s' → R s) : awp P T T1 ac_rtxt (S0 [.ptr 0 (some bl) 31 0 0, .int .i64 j] (lookH [(0, obRf bl d (.sl false 1 tr) (.sl false 3 lr))])) R (fun _ _ => False) R := by
  cbv
  repeat' (first
    | (refine And.intro (by first | assumption | decide) ?_; try cbv)
    | (intro β2; try cbv))
  refine ⟨_, hrow, ?_⟩
  cbv
  repeat' (first
    | (refine And.intro (by first | assumption | decide) ?_; try cbv)
    | (intro β2; try cbv))
  exact hR _ _ _ rfl (Ent.refl _) rfl ⟨rfl, trivial⟩
theorem sp_rtxt (bl : Nat) (d : RSh) (tr lr : List (List V)) (ht : ∀ r ∈ tr, ∀ v ∈ r, Fz v) (hl : ∀ r ∈ lr, ∀ v ∈ r, Fz v) (hb : 0 ≤ d.b ∧ d.b ≤ 4294967295) (j : Int) (i : Nat) (hj : j - d.b = (i : Int)) (hi : i ≤ 1000) (s0 : List UInt8) (h0 : tr[i]? = some [.str s0]) : Spec Try.prog 46 [.ptr 0 (some bl) 31 0 0, .int .i64 j] (lookH [(0, obRf bl d (.sl false 1 tr) (.sl false 3 lr))]) fun x h' => ∃ L', (x = .str s0 ∧ L' = [(0, obRf bl d (.sl false 1 tr) (.sl false 3 lr))]) ∧ h' = lookH L' :=
  spec_meth dOk ok_rtxt (L := [(0, obRf bl d (.sl false 1 tr) (.sl false 3 lr))]) (fun x L' => x = .str s0 ∧ L' = [(0, obRf bl d (.sl false 1 tr) (.sl false 3 lr))]) fun R hR =>
    vc_rtxt std rfl _ _ bl d tr lr j (by show -9223372036854775808 ≤ j - d.b ∧ j - d.b ≤ 9223372036854775807; omega) (by show 0 ≤ j - d.b; omega) s0 (row_of rfl hj h0) R fun s s' q hq he hr ha => hR s s' _ _ he (resV_mono _ _ _ (fun x hx => by rw [hx, hq]; rfl) hr) ha (.str _) (fun p hp => by simp only [List.mem_singleton] at hp; subst hp; exact obRf_fz ht hl) ⟨rfl, rfl⟩
def RTxtC (T : CallT) : Prop := ∀ (k bl : Nat) (d : RSh) (tr lr : List (List V)) (j : Int) (i : Nat) (s0 : List UInt8) (h : Hp) (K : V → Hp → Prop), (∀ r ∈ tr, ∀ v ∈ r, Fz v) → (∀ r ∈ lr, ∀ v ∈ r, Fz v) → (0 ≤ d.b ∧ d.b ≤ 4294967295) → j - d.b = (i : Int) → i ≤ 1000 → tr[i]? = some [.str s0] → h k = some (obRf bl d (.sl false 1 tr) (.sl false 3 lr)) → K (.str s0) h → T 46 [.ptr k (some bl) 31 0 0, .int .i64 j] h K
theorem rtxtP : RTxtC (CallP Try.prog) := fun k bl d tr lr j i s0 h K ht hl hb hj hi h0 hk hK => rdRP ht hl (sp_rtxt bl d tr lr ht hl hb j i hj hi s0 h0) (fun _ _ => .cons (.same _) .nil) (fun _ => rfl) hk hK
def ac_rtab : AC := .seq (.region false [
    ⟨some 4, none, .alloc 79 [(.int .i64 0), (.int .i64 0), (.int .i64 0), (.int .i64 0), (.int .i64 0), (.int .i64 0), (.int .i64 0), (.int .i64 0), (.int .i64 0), (.int .i64 0), (.int .i64 0), (.int .i64 0), (.int .i64 0), (.int .i64 0), (.int .i64 0), (.int .i64 0)]⟩])
  (.seq (.region false [
    ⟨some 8, none, .mov (.t 0)⟩,
    ⟨some 9, none, .nilchk (.t 8)⟩,
    ⟨some 10, none, .faddr 7 (.t 9)⟩,
    ⟨some 11, none, .loadn 16 (.t 10)⟩,
    ⟨some 5, none, .alloc 79 [(.int .i64 0), (.int .i64 0), (.int .i64 0), (.int .i64 0), (.int .i64 0), (.int .i64 0), (.int .i64 0), (.int .i64 0), (.int .i64 0), (.int .i64 0), (.int .i64 0), (.int .i64 0), (.int .i64 0), (.int .i64 0), (.int .i64 0), (.int .i64 0)]⟩,
    ⟨none, none, .store 16 (.t 5) (.t 11)⟩])
  (.seq (.seq (.region false [
    ⟨some 12, none, .mov (.t 1)⟩,
    ⟨some 13, none, .mov (.t 0)⟩,
    ⟨some 14, none, .nilchk (.t 13)⟩,
    ⟨some 15, none, .faddr 6 (.t 14)⟩,
    ⟨some 16, none, .load1 (.t 15)⟩,
    ⟨some 17, none, .bin .sub (.t 12) (.t 16)⟩,
    ⟨some 18, none, .mov (.c (.int .i64 0))⟩])
  (.block 0 (.loop (.seq (.region false [
      ⟨some 19, none, .bin .lss (.t 18) (.t 17)⟩])
    (.seq (.cond (.t 19)
      (.skip)
      (.exit 0))
    (.seq (.block 1 (.seq (.region false [
      ⟨some 20, none, .mov (.t 18)⟩,
      ⟨some 6, none, .mov (.t 20)⟩])
    (.seq (.region false [
      ⟨some 21, none, .mov (.t 0)⟩,
      ⟨some 22, none, .nilchk (.t 21)⟩,
      ⟨some 23, none, .faddr 24 (.t 22)⟩,
      ⟨some 24, none, .load1 (.t 23)⟩,
      ⟨some 25, none, .mov (.t 6)⟩,
      ⟨some 26, none, .iaddr 3 (.t 24) (.t 25)⟩,
      ⟨some 27, none, .loadn 3 (.t 26)⟩,
      ⟨some 7, none, .alloc 45 [(.int .i64 0), (.int .i64 0), (.slice none 0 0)]⟩,
      ⟨none, none, .store 3 (.t 7) (.t 27)⟩])
    (.region true [
      ⟨some 28, none, .faddr 0 (.t 7)⟩,
      ⟨some 29, none, .load1 (.t 28)⟩,
      ⟨some 30, none, .faddr 1 (.t 7)⟩,
      ⟨some 31, none, .load1 (.t 30)⟩,
      ⟨some 32, none, .mov (.t 0)⟩,
      ⟨some 33, none, .nilchk (.t 32)⟩,
      ⟨some 34, none, .faddr 6 (.t 33)⟩,
      ⟨some 35, none, .load1 (.t 34)⟩,
      ⟨some 36, none, .mov (.t 6)⟩,
      ⟨some 37, none, .bin .add (.t 35) (.t 36)⟩,
      ⟨some 38, none, .bin .add (.t 37) (.c (.int .i64 1))⟩,
      ⟨some 39, none, .build [(.int .i64 0), (.int .i64 0)] [(0, 1, (.t 31)), (1, 1, (.t 38))]⟩,
      ⟨some 40, none, .iarr 8 2 (.t 5) (.t 29)⟩,
      ⟨none, none, .store 2 (.t 40) (.t 39)⟩]))))
    (.region false [
      ⟨some 41, none, .bin .add (.t 18) (.c (.int .i64 1))⟩,
      ⟨some 18, none, .mov (.t 41)⟩])))))))
  (.seq (.region false [
    ⟨some 42, none, .loadn 16 (.t 5)⟩,
    ⟨none, none, .store 16 (.t 4) (.t 42)⟩])
  (.ret))))
theorem ok_rtab : FnOk Try.prog 43 Try.f43 ac_rtab [.cn 4 16] 2 drawD := ⟨Try.func43, by decide +kernel, by kernel_rfl, by kernel_rfl, by decide +kernel⟩
theorem vc_rtab (P : Prim) (hP : P = std) (T T1 : CallT) (bl : Nat) (d : RSh) (tr : List (List V)) (l : List Rev) (lr : List (List V)) (hlr : lr = l.map encRev) (hb : 0 ≤ d.b ∧ d.b ≤ 4294967295) (hn2 : l.length ≤ 1000) (hwho : ∀ r ∈ l, 0 ≤ r.who ∧ r.who ≤ 7) (j : Int) (hj : d.b ≤ j ∧ j ≤ d.b + (l.length : Int)) (a : Nat) (haj : j - d.b = (a : Int))
    (R : S → Prop) (hR : ∀ (s s' : S) (tb : Nat → Int), tb = tabG d.fs d.b (l.take a) → Ent s s' → Ret [.cn 4 16] [tabV tb] s' → agreeH [(0, obRf bl d (.sl false 1 tr) (.sl false 3 lr))] s' → R s) : awp P T T1 ac_rtab (S0 [.ptr 0 (some bl) 31 0 0, .int .i64 j] (lookH [(0, obRf bl d (.sl false 1 tr) (.sl false 3 lr))])) R (fun _ _ => False) R := by
  have m1 : P.i64 (P.sub j d.b) := by rw [sub_eq hP]; exact i64I hP (by omega)
  obtain ⟨hi, hhi⟩ : ∃ hi, hi = P.sub j d.b := ⟨_, rfl⟩
  have hhi2 : hi = (a : Int) := by rw [hhi, sub_eq hP]; exact haj
  have hln : P.rlen lr = (l.length : Int) := by rw [rlen_eq hP, hlr]; simp
  cbv
  repeat' (first
    | (refine And.intro (by first | assumption | decide) ?_; try cbv)
    | (intro β2; try cbv))
  rename_i β4
  rw [← hhi]
  refine ⟨YSt d.fs d.b l a, fun y => [(0, .ptr 0 (some bl) 31 0 0), (4, .ptr 4 (some β4) 16 0 0), (5, .ptr 5 (some β2) 16 0 0), (17, .int .i64 hi), (18, .int .i64 y.k)],
    fun y => [(0, obRf bl d (.sl false 1 tr) (.sl false 3 lr)), (4, ⟨some β4, 79, 16, [[.int .i64 0, .int .i64 0, .int .i64 0, .int .i64 0, .int .i64 0, .int .i64 0, .int .i64 0, .int .i64 0, .int .i64 0, .int .i64 0, .int .i64 0, .int .i64 0, .int .i64 0, .int .i64 0, .int .i64 0, .int .i64 0]]⟩), (5, ⟨some β2, 79, 16, [[.int .i64 (y.tb 0), .int .i64 (y.tb 1), .int .i64 (y.tb 2), .int .i64 (y.tb 3), .int .i64 (y.tb 4), .int .i64 (y.tb 5), .int .i64 (y.tb 6), .int .i64 (y.tb 7), .int .i64 (y.tb 8), .int .i64 (y.tb 9), .int .i64 (y.tb 10), .int .i64 (y.tb 11), .int .i64 (y.tb 12), .int .i64 (y.tb 13), .int .i64 (y.tb 14), .int .i64 (y.tb 15)]]⟩)], fun y => l.length - y.i,
    ⟨_, Ent.refl _, ⟨0, 0, d.fs, by omega, rfl, by simp [tabG]⟩, ⟨rfl, rfl, rfl, rfl, rfl, trivial⟩, ⟨rfl, rfl, rfl, trivial⟩⟩, ?_⟩
  rintro ⟨i, k, tb, hi2, hk, htb⟩
  cbv
  refine br_cases (fun g => ?_) (fun g => ?_)
  · have g3 : k < hi := lt_t hP g
    have hil : i < l.length := by ((try simp only [nc] at *); omega)
    have hia : i + 1 ≤ a := by ((try simp only [nc] at *); omega)
    obtain ⟨r, hrr⟩ : ∃ r, l[i]? = some r := ⟨_, List.getElem?_eq_getElem hil⟩
    have hrow : P.row lr (P.nat k) [.int .i64 r.who, .int .i64 r.seq, .sl false 3 (r.delta.map encPart)] := row_of hP hk (by rw [hlr, List.getElem?_map, hrr]; rfl)
    have hxr := tabG_snoc d.fs d.b l i r hrr
    have hw8 := hwho r (List.mem_of_getElem? hrr)
    obtain ⟨w, hw⟩ : ∃ w, r.who = w := ⟨_, rfl⟩
    obtain ⟨sq, hsq⟩ : ∃ w, r.seq = w := ⟨_, rfl⟩
    rw [hw, hsq] at hrow hxr
    rw [hw] at hw8
    generalize r.delta.map encPart = dr at hrow
    obtain ⟨wn, hwn⟩ : ∃ wn, w.toNat = wn := ⟨_, rfl⟩
    have q1 : P.leP 0 k := le0 hP (by rw [hk]; exact Int.natCast_nonneg _)
    have q3 : P.i64 (P.add k 1) := by rw [add_eq hP]; exact i64I hP (by ((try simp only [nc] at *); omega))
    have q4 : P.add k 1 = ((i + 1 : Nat) : Int) := by rw [add_eq hP, hk]; simp
    have q5 : P.i64 (P.add d.b k) := by rw [add_eq hP]; exact i64I hP (by ((try simp only [nc] at *); omega))
    have q6 : P.i64 (P.add (P.add d.b k) 1) := by rw [add_eq hP, add_eq hP]; exact i64I hP (by ((try simp only [nc] at *); omega))
    have q7 : P.leP 0 w := le0 hP hw8.1
    have q8 : P.ltP w 8 := ltI hP (by omega)
    have hNk : P.nat w = wn := by rw [← hwn]; subst hP; rfl
    rw [hwn] at hxr
    cbv
    repeat' (first
    | (refine And.intro (by first | assumption | decide) ?_; try cbv)
    | (intro β2; try cbv))
    refine ⟨_, hrow, ?_⟩
    cbv
    repeat' (first
      | (refine And.intro (by first | assumption | decide) ?_; try cbv)
      | (intro β3; try cbv))
    have hc : wn = 0 ∨ wn = 1 ∨ wn = 2 ∨ wn = 3 ∨ wn = 4 ∨ wn = 5 ∨ wn = 6 ∨ wn = 7 := by omega
    rcases hc with rfl | rfl | rfl | rfl | rfl | rfl | rfl | rfl
    · refine ⟨0, hNk, ?_⟩
      cbv
      repeat' (first
        | (refine And.intro (by first | assumption | decide) ?_; try cbv)
        | (intro β5; try cbv))
      refine ⟨_, Ent.refl _, ⟨i + 1, _, addTb tb 0 sq (P.add (P.add d.b k) 1), hia, q4, ?_⟩, ⟨rfl, rfl, rfl, rfl, rfl, trivial⟩, ⟨rfl, rfl, rfl, trivial⟩, ?_⟩
      · rw [hxr, htb, add_eq hP, add_eq hP, hk]
      · show l.length - (i + 1) < l.length - i; omega
    · refine ⟨1, hNk, ?_⟩
      cbv
      repeat' (first
        | (refine And.intro (by first | assumption | decide) ?_; try cbv)
        | (intro β5; try cbv))
      refine ⟨_, Ent.refl _, ⟨i + 1, _, addTb tb 1 sq (P.add (P.add d.b k) 1), hia, q4, ?_⟩, ⟨rfl, rfl, rfl, rfl, rfl, trivial⟩, ⟨rfl, rfl, rfl, trivial⟩, ?_⟩
      · rw [hxr, htb, add_eq hP, add_eq hP, hk]
      · show l.length - (i + 1) < l.length - i; omega
    · refine ⟨2, hNk, ?_⟩
      cbv
      repeat' (first
        | (refine And.intro (by first | assumption | decide) ?_; try cbv)
        | (intro β5; try cbv))
      refine ⟨_, Ent.refl _, ⟨i + 1, _, addTb tb 2 sq (P.add (P.add d.b k) 1), hia, q4, ?_⟩, ⟨rfl, rfl, rfl, rfl, rfl, trivial⟩, ⟨rfl, rfl, rfl, trivial⟩, ?_⟩
      · rw [hxr, htb, add_eq hP, add_eq hP, hk]
      · show l.length - (i + 1) < l.length - i; omega
    · refine ⟨3, hNk, ?_⟩
      cbv
      repeat' (first
        | (refine And.intro (by first | assumption | decide) ?_; try cbv)
        | (intro β5; try cbv))
      refine ⟨_, Ent.refl _, ⟨i + 1, _, addTb tb 3 sq (P.add (P.add d.b k) 1), hia, q4, ?_⟩, ⟨rfl, rfl, rfl, rfl, rfl, trivial⟩, ⟨rfl, rfl, rfl, trivial⟩, ?_⟩
      · rw [hxr, htb, add_eq hP, add_eq hP, hk]
      · show l.length - (i + 1) < l.length - i; omega
    · refine ⟨4, hNk, ?_⟩
      cbv
      repeat' (first
        | (refine And.intro (by first | assumption | decide) ?_; try cbv)
        | (intro β5; try cbv))
      refine ⟨_, Ent.refl _, ⟨i + 1, _, addTb tb 4 sq (P.add (P.add d.b k) 1), hia, q4, ?_⟩, ⟨rfl, rfl, rfl, rfl, rfl, trivial⟩, ⟨rfl, rfl, rfl, trivial⟩, ?_⟩
      · rw [hxr, htb, add_eq hP, add_eq hP, hk]
      · show l.length - (i + 1) < l.length - i; omega
    · refine ⟨5, hNk, ?_⟩
      cbv
      repeat' (first
        | (refine And.intro (by first | assumption | decide) ?_; try cbv)
        | (intro β5; try cbv))
      refine ⟨_, Ent.refl _, ⟨i + 1, _, addTb tb 5 sq (P.add (P.add d.b k) 1), hia, q4, ?_⟩, ⟨rfl, rfl, rfl, rfl, rfl, trivial⟩, ⟨rfl, rfl, rfl, trivial⟩, ?_⟩
      · rw [hxr, htb, add_eq hP, add_eq hP, hk]
      · show l.length - (i + 1) < l.length - i; omega
    · refine ⟨6, hNk, ?_⟩
      cbv
      repeat' (first
        | (refine And.intro (by first | assumption | decide) ?_; try cbv)
        | (intro β5; try cbv))
      refine ⟨_, Ent.refl _, ⟨i + 1, _, addTb tb 6 sq (P.add (P.add d.b k) 1), hia, q4, ?_⟩, ⟨rfl, rfl, rfl, rfl, rfl, trivial⟩, ⟨rfl, rfl, rfl, trivial⟩, ?_⟩
      · rw [hxr, htb, add_eq hP, add_eq hP, hk]
      · show l.length - (i + 1) < l.length - i; omega
    · refine ⟨7, hNk, ?_⟩
      cbv
      repeat' (first
        | (refine And.intro (by first | assumption | decide) ?_; try cbv)
        | (intro β5; try cbv))
      refine ⟨_, Ent.refl _, ⟨i + 1, _, addTb tb 7 sq (P.add (P.add d.b k) 1), hia, q4, ?_⟩, ⟨rfl, rfl, rfl, rfl, rfl, trivial⟩, ⟨rfl, rfl, rfl, trivial⟩, ?_⟩
      · rw [hxr, htb, add_eq hP, add_eq hP, hk]
      · show l.length - (i + 1) < l.length - i; omega
  · have g3 : ¬ k < hi := lt_f hP g
    have hil : i = a := by ((try simp only [nc] at *); omega)
    subst hil
    cbv
    repeat' (first
    | (refine And.intro (by first | assumption | decide) ?_; try cbv)
    | (intro β2; try cbv))
    exact hR _ _ tb htb (Ent.refl _) ⟨rfl, rfl, Nat.zero_lt_succ 0, Nat.le_refl 16, rfl⟩ ⟨rfl, trivial⟩
theorem sp_rtab (bl : Nat) (d : RSh) (tr : List (List V)) (ht : ∀ r ∈ tr, ∀ v ∈ r, Fz v) (l : List Rev) (hb : 0 ≤ d.b ∧ d.b ≤ 4294967295) (hn2 : l.length ≤ 1000) (hwho : ∀ r ∈ l, 0 ≤ r.who ∧ r.who ≤ 7) (j : Int) (hj : d.b ≤ j ∧ j ≤ d.b + (l.length : Int)) : Spec Try.prog 43 [.ptr 0 (some bl) 31 0 0, .int .i64 j] (lookH [(0, obRf bl d (.sl false 1 tr) (.sl false 3 (l.map encRev)))])
    fun x h' => ∃ L', (x = tabV (tabG d.fs d.b (l.take (j - d.b).toNat)) ∧ L' = [(0, obRf bl d (.sl false 1 tr) (.sl false 3 (l.map encRev)))]) ∧ h' = lookH L' :=
  spec_meth dOk ok_rtab (L := [(0, obRf bl d (.sl false 1 tr) (.sl false 3 (l.map encRev)))]) (fun x L' => x = tabV (tabG d.fs d.b (l.take (j - d.b).toNat)) ∧ L' = [(0, obRf bl d (.sl false 1 tr) (.sl false 3 (l.map encRev)))]) fun R hR =>
    vc_rtab std rfl _ _ bl d tr l _ rfl hb hn2 hwho j hj (j - d.b).toNat (by omega) R fun s s' tb htb he hr ha => hR s s' _ _ he (resV_mono _ _ _ (fun x hx => by rw [hx, htb]; rfl) hr) ha (tabV_fz _) (fun p hp => by simp only [List.mem_singleton] at hp; subst hp; exact obRf_fz ht (revRows_fz _)) ⟨rfl, rfl⟩
def RTabC (T : CallT) : Prop := ∀ (k bl : Nat) (d : RSh) (tr : List (List V)) (l : List Rev) (lr : List (List V)) (j : Int) (h : Hp) (K : V → Hp → Prop), (∀ r ∈ tr, ∀ v ∈ r, Fz v) → lr = l.map encRev → (0 ≤ d.b ∧ d.b ≤ 4294967295) → l.length ≤ 1000 → (∀ r ∈ l, 0 ≤ r.who ∧ r.who ≤ 7) → (d.b ≤ j ∧ j ≤ d.b + (l.length : Int)) → h k = some (obRf bl d (.sl false 1 tr) (.sl false 3 lr)) → (∀ tb, tb = tabG d.fs d.b (l.take (j - d.b).toNat) → K (tabV tb) h) → T 43 [.ptr k (some bl) 31 0 0, .int .i64 j] h K
theorem rtabE : RTabC (CallE Try.prog) := fun k bl d tr l lr j h K ht hlr hb hn hw hj hk hK => by
  subst hlr
  exact rdRE ht (revRows_fz _) (sp_rtab bl d tr ht l hb hn hw j hj) (fun _ _ => .cons (.same _) .nil) (fun _ => rfl) hk (hK _ rfl)
end Go.Proofs.Ytobngncjflogcaa.AM

set_option linter.unusedVariables false
set_option linter.unusedSimpArgs false
namespace Go.Proofs.Ytobngncjflogcaa.AM
open Go Go.RowKit
set_option maxRecDepth 100000
set_option maxHeartbeats 2000000
structure N4 (k ka km kn : Nat) : Prop where
  a : Nat.beq k ka = false
  b : Nat.beq k kn = false
  c : Nat.beq ka kn = false
  d : Nat.beq km 0 = false
  e : Nat.beq km 1000001 = false
  f : Nat.beq km 1000041 = false
  g : Nat.beq km k = false
  h : Nat.beq km ka = false
  i : Nat.beq km kn = false
theorem neB {a b : Nat} (h : Nat.beq a b = false) : a ≠ b := by intro e; subst e; rw [Nat.beq_refl] at h; cases h
def SRevsC (T : CallT) : Prop := ∀ (k ka km kn bl : Nat) (d : SC) (ba : Option Nat) (n : Nat) (rows : List (List V)) (l : List Rev) (mv : V) (bm : Nat) (m : Option Mv) (j : Int) (h : Hp) (K : V → Hp → Prop), N4 k ka km kn → rows = l.map encRev → n = l.length → mv = mvN km bm m → (∀ r ∈ l, r.delta.length ≤ 1000000000) → (0 ≤ d.b ∧ d.b ≤ 4294967295) → l.length ≤ 1000 → h k = some (obSh bl (rowS d (.own ka ba 3 n) mv)) → h ka = some (obV ba rows) → h kn = none →
  (∀ x y, (x, y) = srevsT d l j → ∀ bo n' rows', n' = x.length → rows' = x.map encRev → K (.tup [.own kn bo 3 n', .int .i64 y]) (h.puts [(k, obSh bl (rowS d (.own ka ba 3 n) mv)), (ka, obV ba rows), (kn, obV bo rows')])) → T 44 [.ptr k (some bl) 47 0 0, .int .i64 j] h K
theorem srevsC : SRevsC (CallE Try.prog) := by
  rintro k ka km kn bl d ba n rows l mv bm m j h K hN rfl rfl rfl hdl hb hn hk hka hkn hK
  have n1 := neB hN.a
  have n2 := neB hN.b
  have n3 := neB hN.c
  have n1' : ¬ ka = k := fun e => n1 e.symm
  have n2' : ¬ kn = k := fun e => n2 e.symm
  have n3' : ¬ kn = ka := fun e => n3 e.symm
  have m1 := neB hN.d
  have m2 := neB hN.e
  have m3 := neB hN.f
  have m4 := neB hN.g
  have m5 := neB hN.h
  have m6 := neB hN.i
  have b0 : bal [(0, k), (1000001, ka), (1000041, kn)] k = 0 := by simp [bal]
  have b1 : bal [(0, k), (1000001, ka), (1000041, kn)] ka = 1000001 := by simp [bal, n1']
  have bm1 : bal [(0, k), (1000001, ka), (1000041, kn)] km = km := by simp [bal, m4, m5, m6]
  have l0 : lab [(0, k), (1000001, ka), (1000041, kn)] 0 = k := by simp [lab]
  have l1 : lab [(0, k), (1000001, ka), (1000041, kn)] 1000001 = ka := by simp [lab]
  have l2 : lab [(0, k), (1000001, ka), (1000041, kn)] 1000041 = kn := by simp [lab]
  have lm : lab [(0, k), (1000001, ka), (1000041, kn)] km = km := by simp [lab, m1, m2, m3]
  refine callN [(0, k), (1000001, ka), (1000041, kn)] (sp_srevs bl d ba l hdl hb hn j (mvN km bm m) (mvN_mq _ _ _)) (.cons ?_ (args_plain rfl)) (by show ([0, 1000001, 1000041] : List Nat).Nodup; decide) (by simp [n1, n2, n3]) (by simp) (fun p hp => ?_) (fun p hp => ?_) ?_ ?_
  · have := Arg.same (h := h) (m := [(0, k), (1000001, ka), (1000041, kn)]) (.ptr k (some bl) 47 0 0)
    simpa [V.ren, V.rl, b0] using this
  · simp only [S2, List.mem_cons, List.not_mem_nil, or_false] at hp
    rcases hp with rfl | rfl <;> simp
  · simp only [S2, List.mem_cons, List.not_mem_nil, or_false] at hp
    rcases hp with rfl | rfl
    · refine ⟨?_, rowS_fz (.own _ _ _ _) (mvN_fz _ _ _) bl⟩
      show (h (lab _ 0)).map _ = _
      rw [l0, hk, Option.map_some, obSh_ren, mvN_rl, bm1]
      show some (obSh bl (rowS d (.own (bal _ ka) ba 3 _) _)) = _
      rw [b1]
    · refine ⟨?_, encRevs_fz _⟩
      show (h (lab _ 1000001)).map _ = _
      rw [l1, hka, Option.map_some, obV_ren]
  · rintro v L' ⟨bo, _, rfl⟩; rfl
  · rintro v L' ⟨bo, rfl, rfl⟩
    have e : backL [(0, k), (1000001, ka), (1000041, kn)] (Ob.ren (lab [(0, k), (1000001, ka), (1000041, kn)])) [(0, obSh bl (rowS d (.own 1000001 ba 3 l.length) (mvN km bm m))), (1000001, obV ba (l.map encRev)), (1000041, obV bo ((srevsT d l j).1.map encRev))] = [(k, obSh bl (rowS d (.own ka ba 3 l.length) (mvN km bm m))), (ka, obV ba (l.map encRev)), (kn, obV bo ((srevsT d l j).1.map encRev))] := by
      simp only [backL, List.zipWith_cons_cons, List.zipWith_nil_left, obSh_ren, obV_ren, mvN_rl, lm]
      show [(k, obSh bl (rowS d (.own (lab _ 1000001) ba 3 l.length) _)), _, _] = _
      rw [l1]
    rw [e]
    have e2 : (V.tup [.own 1000041 bo 3 (srevsT d l j).1.length, .int .i64 (srevsT d l j).2]).ren (lab [(0, k), (1000001, ka), (1000041, kn)]) = .tup [.own kn bo 3 (srevsT d l j).1.length, .int .i64 (srevsT d l j).2] := by
      show V.tup [.own (lab _ 1000041) bo 3 _, _] = _
      rw [l2]; rfl
    rw [e2]
    exact hK _ _ rfl bo _ _ rfl rfl
end Go.Proofs.Ytobngncjflogcaa.AM

set_option linter.unusedVariables false
set_option linter.unusedSimpArgs false
namespace Go.Proofs.Ytobngncjflogcaa.AM
open Go Go.RowKit
set_option maxRecDepth 100000
set_option maxHeartbeats 2000000
theorem and2 {P : Prim} (hP : P = std) {a b c d : Int} (h1 : a = b) (h2 : c = d) : P.and (P.eq a b) (P.eq c d) = true := by
  subst hP h1 h2
  show (decide (a = a) && decide (c = c)) = true
  simp
theorem and4s {P : Prim} (hP : P = std) {x1 y1 x3 y3 : List UInt8} {x2 y2 x4 y4 : Int} (h1 : x1 = y1) (h2 : x2 = y2) (h3 : x3 = y3) (h4 : x4 = y4) : P.and (P.seq x1 y1) (P.and (P.eq x2 y2) (P.and (P.seq x3 y3) (P.eq x4 y4))) = true := by
  subst hP h1 h2 h3 h4
  show (decide (x1 = x1) && (decide (x2 = x2) && (decide (x3 = x3) && decide (x4 = x4)))) = true
  simp
section
variable {P : Prim} {T : CallT} {s : S} {d x y : Nat} {K : S → Prop}
theorem aone_ne0 (hP : P = std) (hx : s.t x = .int .i64 0) (hK : K ⟨upd s.t d (.bool false), s.h⟩) : aone P T ⟨some d, none, .bin .neq (.t x) (.c (.int .i64 0))⟩ s K := by
  subst hP
  show binP std .neq (s.t x) (.int .i64 0) _
  rw [hx]
  exact ⟨rfl, hK⟩
theorem aone_eqs2 (hP : P = std) {a b : Int} (hx : s.t x = .agg [.int .i64 a, .int .i64 b]) (hy : s.t y = .agg [.int .i64 a, .int .i64 b]) (hK : K ⟨upd s.t d (.bool false), s.h⟩) : aone P T ⟨some d, none, .eqs true [1, 1] (.t x) (.t y)⟩ s K := by
  simp only [aone, aoper, aopP, Opd.ev, hx, hy, eqsP, eqCs, eqC1, and2 hP (rfl : a = a) (rfl : b = b)]
  exact ⟨trivial, trivial, hK⟩
theorem aone_ixa2 {f : Nat → Int} {i a b : Int} {n : Nat} (hx : s.t x = tabV f) (hy : s.t y = .int .i64 i) (h0 : P.leP 0 i) (h8 : P.ltP i 8) (hn : P.nat i = n) (hc : ((tabV f).cells.drop (n * 2)).take 2 = [.int .i64 a, .int .i64 b]) (hK : K ⟨upd s.t d (.agg [.int .i64 a, .int .i64 b]), s.h⟩) : aone P T ⟨some d, none, .ixa true 8 2 (.t x) (.t y)⟩ s K := by
  simp only [aone, aoper, aopP, Opd.ev, hx, hy, tabV]
  refine ⟨h0, h8, rfl, rfl, n, hn, ?_⟩
  simp only [tabV, V.cells] at hc
  rw [hc]
  exact hK
theorem aone_pickF {v : V} (hx : s.t x = .bool false) (hy : s.t y = v) (hK : K ⟨upd s.t d v, s.h⟩) : aone P T ⟨some d, none, .pick (.t x) (.c (.bool true)) (.t y)⟩ s K := by
  simp only [aone, aoper, aopP, Opd.ev, hx, hy]
  exact hK
end
theorem awp_dr {P : Prim} {T T1 : CallT} {ops : List (AO × List Nat)} {n : Nat} (hn : ops.length = n) {y : AC} {s : S} {N : S → Prop} {X : Nat → S → Prop} {R : S → Prop} (h : anyA P T ops n [] s (fun s => awp P T T1 y s N X R)) : awp P T T1 (.seq (.dregion ops) y) s N X R := by
  subst hn; exact h
theorem tab_cells (f : Nat → Int) (n : Nat) (hn : n < 8) : ((tabV f).cells.drop (n * 2)).take 2 = [.int .i64 (f (2 * n)), .int .i64 (f (2 * n + 1))] := by
  have hc : n = 0 ∨ n = 1 ∨ n = 2 ∨ n = 3 ∨ n = 4 ∨ n = 5 ∨ n = 6 ∨ n = 7 := by omega
  rcases hc with rfl | rfl | rfl | rfl | rfl | rfl | rfl | rfl <;> rfl
def seOps : List (AO × List Nat) := [
  (⟨some 69, none, .mov (.t 7)⟩, []),
  (⟨some 70, none, .bin .neq (.t 69) (.c (.int .i64 0))⟩, [0]),
  (⟨some 71, none, .mov (.t 70)⟩, [1]),
  (⟨some 72, some (71, false), .loadn 2 (.t 6)⟩, [2]),
  (⟨some 73, some (71, false), .mov (.t 1)⟩, [2]),
  (⟨some 74, some (71, false), .mov (.t 1)⟩, [2]),
  (⟨some 75, some (71, false), .call 41 [.t 74]⟩, [5, 2, 2]),
  (⟨some 76, some (71, false), .call 43 [.t 73, .t 75]⟩, [4, 6, 6, 2]),
  (⟨some 77, some (71, false), .mov (.t 5)⟩, [2]),
  (⟨some 78, some (71, false), .ixa true 8 2 (.t 76) (.t 77)⟩, [7, 8, 2]),
  (⟨some 79, some (71, false), .eqs true [1, 1] (.t 72) (.t 78)⟩, [3, 9, 2]),
  (⟨some 80, none, .pick (.t 71) (.c (.bool true)) (.t 79)⟩, [2, 10])]
def seL (la lb q w : Int) (tb : Nat → Int) (b2 : Nat) : List (Nat × Nat × V) := [(0, 69, .int .i64 0), (1, 70, .bool false), (2, 71, .bool false), (3, 72, .agg [.int .i64 la, .int .i64 lb]), (4, 73, .ptr 50 (some b2) 31 0 0), (5, 74, .ptr 50 (some b2) 31 0 0), (6, 75, .int .i64 q), (7, 76, tabV tb), (8, 77, .int .i64 w), (9, 78, .agg [.int .i64 la, .int .i64 lb]), (10, 79, .bool false), (11, 80, .bool false)]
section
variable {la lb q w : Int} {tb : Nat → Int} {b2 : Nat}
theorem se1 : ((seL la lb q w tb b2).map (·.1)).Nodup := by show ([0, 1, 2, 3, 4, 5, 6, 7, 8, 9, 10, 11] : List Nat).Nodup; decide
theorem se2 : ((seL la lb q w tb b2).map (·.2.1)).Nodup := by show ([69, 70, 71, 72, 73, 74, 75, 76, 77, 78, 79, 80] : List Nat).Nodup; decide
theorem se_all {P : Prim} (hP : P = std) {T : CallT} {K : S → Prop} {t0 : Nat → V} {h0 : Hp} {b6 ty wn : Nat} (h7 : t0 7 = .int .i64 0) (h1 : t0 1 = .ptr 50 (some b2) 31 0 0) (h5 : t0 5 = .int .i64 w) (h6 : t0 6 = .ptr 6 (some b6) 2 0 0) (hh6 : h0 6 = some ⟨some b6, ty, 2, [[.int .i64 la, .int .i64 lb]]⟩)
    (hc1 : ∀ K, K (.int .i64 q) h0 → T 41 [.ptr 50 (some b2) 31 0 0] h0 K) (hc2 : ∀ K, K (tabV tb) h0 → T 43 [.ptr 50 (some b2) 31 0 0, .int .i64 q] h0 K)
    (hw0 : P.leP 0 w) (hw8 : P.ltP w 8) (hwn : P.nat w = wn) (htab : ((tabV tb).cells.drop (wn * 2)).take 2 = [.int .i64 la, .int .i64 lb])
    (hK : K ⟨ovA (seL la lb q w tb b2) t0, h0⟩) : anyA P T seOps 12 [] ⟨t0, h0⟩ K := by
  refine anyA_fam rfl (fun done => ⟨ovl done (seL la lb q w tb b2) t0, h0⟩) (fun done i o ps hj hf hq hcl K' hK' => ?_) (fun done hd => ?_) ?_
  · match i, hj with
    | 0, hj =>
      cases hj
      have hK' : K' ⟨ovl (0 :: done) (seL la lb q w tb b2) t0, h0⟩ := hK'
      show aone P T _ ⟨ovl done (seL la lb q w tb b2) t0, h0⟩ K'
      refine aone_mov (v := .int .i64 0) ((ovl_out (done := done) (seL la lb q w tb b2) t0 rfl).trans h7) ?_
      show K' ⟨upd (ovl done (seL la lb q w tb b2) t0) 69 _, h0⟩
      rw [ovl_upd (k := 0) (seL la lb q w tb b2) t0 se1 se2 (.head _)]
      exact hK'
    | 1, hj =>
      cases hj
      have hK' : K' ⟨ovl (1 :: done) (seL la lb q w tb b2) t0, h0⟩ := hK'
      show aone P T _ ⟨ovl done (seL la lb q w tb b2) t0, h0⟩ K'
      refine aone_ne0 hP (ovl_get (done := done) (hq 0 (by decide)) (seL la lb q w tb b2) t0 se2 (.head _)) ?_
      show K' ⟨upd (ovl done (seL la lb q w tb b2) t0) 70 _, h0⟩
      rw [ovl_upd (k := 1) (seL la lb q w tb b2) t0 se1 se2 (.tail _ (.head _))]
      exact hK'
    | 2, hj =>
      cases hj
      have hK' : K' ⟨ovl (2 :: done) (seL la lb q w tb b2) t0, h0⟩ := hK'
      show aone P T _ ⟨ovl done (seL la lb q w tb b2) t0, h0⟩ K'
      refine aone_mov (v := .bool false) (ovl_get (done := done) (hq 1 (by decide)) (seL la lb q w tb b2) t0 se2 (.tail _ (.head _))) ?_
      show K' ⟨upd (ovl done (seL la lb q w tb b2) t0) 71 _, h0⟩
      rw [ovl_upd (k := 2) (seL la lb q w tb b2) t0 se1 se2 (.tail _ (.tail _ (.head _)))]
      exact hK'
    | 3, hj =>
      cases hj
      have hK' : K' ⟨ovl (3 :: done) (seL la lb q w tb b2) t0, h0⟩ := hK'
      show aone P T _ ⟨ovl done (seL la lb q w tb b2) t0, h0⟩ K'
      refine aone_unless (ovl_get (done := done) (hq 2 (by decide)) (seL la lb q w tb b2) t0 se2 (.tail _ (.tail _ (.head _)))) ?_
      refine aone_loadn (cs := [.int .i64 la, .int .i64 lb]) ((ovl_out (done := done) (seL la lb q w tb b2) t0 rfl).trans h6) hh6 (by decide) ⟨by show (0 : Nat) + 2 ≤ 2; decide, rfl⟩ ?_
      show K' ⟨upd (ovl done (seL la lb q w tb b2) t0) 72 _, h0⟩
      rw [ovl_upd (k := 3) (seL la lb q w tb b2) t0 se1 se2 (.tail _ (.tail _ (.tail _ (.head _))))]
      exact hK'
    | 4, hj =>
      cases hj
      have hK' : K' ⟨ovl (4 :: done) (seL la lb q w tb b2) t0, h0⟩ := hK'
      show aone P T _ ⟨ovl done (seL la lb q w tb b2) t0, h0⟩ K'
      refine aone_unless (ovl_get (done := done) (hq 2 (by decide)) (seL la lb q w tb b2) t0 se2 (.tail _ (.tail _ (.head _)))) ?_
      refine aone_mov (v := .ptr 50 (some b2) 31 0 0) ((ovl_out (done := done) (seL la lb q w tb b2) t0 rfl).trans h1) ?_
      show K' ⟨upd (ovl done (seL la lb q w tb b2) t0) 73 _, h0⟩
      rw [ovl_upd (k := 4) (seL la lb q w tb b2) t0 se1 se2 (.tail _ (.tail _ (.tail _ (.tail _ (.head _)))))]
      exact hK'
    | 5, hj =>
      cases hj
      have hK' : K' ⟨ovl (5 :: done) (seL la lb q w tb b2) t0, h0⟩ := hK'
      show aone P T _ ⟨ovl done (seL la lb q w tb b2) t0, h0⟩ K'
      refine aone_unless (ovl_get (done := done) (hq 2 (by decide)) (seL la lb q w tb b2) t0 se2 (.tail _ (.tail _ (.head _)))) ?_
      refine aone_mov (v := .ptr 50 (some b2) 31 0 0) ((ovl_out (done := done) (seL la lb q w tb b2) t0 rfl).trans h1) ?_
      show K' ⟨upd (ovl done (seL la lb q w tb b2) t0) 74 _, h0⟩
      rw [ovl_upd (k := 5) (seL la lb q w tb b2) t0 se1 se2 (.tail _ (.tail _ (.tail _ (.tail _ (.tail _ (.head _))))))]
      exact hK'
    | 6, hj =>
      cases hj
      have hK' : K' ⟨ovl (6 :: done) (seL la lb q w tb b2) t0, h0⟩ := hK'
      show aone P T _ ⟨ovl done (seL la lb q w tb b2) t0, h0⟩ K'
      refine aone_unless (ovl_get (done := done) (hq 2 (by decide)) (seL la lb q w tb b2) t0 se2 (.tail _ (.tail _ (.head _)))) ?_
      show T 41 [ovl done (seL la lb q w tb b2) t0 74] h0 _
      rw [(ovl_get (done := done) (hq 5 (by decide)) (seL la lb q w tb b2) t0 se2 (.tail _ (.tail _ (.tail _ (.tail _ (.tail _ (.head _)))))))]
      refine hc1 _ ?_
      show K' ⟨upd (ovl done (seL la lb q w tb b2) t0) 75 _, h0⟩
      rw [ovl_upd (k := 6) (seL la lb q w tb b2) t0 se1 se2 (.tail _ (.tail _ (.tail _ (.tail _ (.tail _ (.tail _ (.head _)))))))]
      exact hK'
    | 7, hj =>
      cases hj
      have hK' : K' ⟨ovl (7 :: done) (seL la lb q w tb b2) t0, h0⟩ := hK'
      show aone P T _ ⟨ovl done (seL la lb q w tb b2) t0, h0⟩ K'
      refine aone_unless (ovl_get (done := done) (hq 2 (by decide)) (seL la lb q w tb b2) t0 se2 (.tail _ (.tail _ (.head _)))) ?_
      show T 43 [ovl done (seL la lb q w tb b2) t0 73, ovl done (seL la lb q w tb b2) t0 75] h0 _
      rw [(ovl_get (done := done) (hq 4 (by decide)) (seL la lb q w tb b2) t0 se2 (.tail _ (.tail _ (.tail _ (.tail _ (.head _)))))), (ovl_get (done := done) (hq 6 (by decide)) (seL la lb q w tb b2) t0 se2 (.tail _ (.tail _ (.tail _ (.tail _ (.tail _ (.tail _ (.head _))))))))]
      refine hc2 _ ?_
      show K' ⟨upd (ovl done (seL la lb q w tb b2) t0) 76 _, h0⟩
      rw [ovl_upd (k := 7) (seL la lb q w tb b2) t0 se1 se2 (.tail _ (.tail _ (.tail _ (.tail _ (.tail _ (.tail _ (.tail _ (.head _))))))))]
      exact hK'
    | 8, hj =>
      cases hj
      have hK' : K' ⟨ovl (8 :: done) (seL la lb q w tb b2) t0, h0⟩ := hK'
      show aone P T _ ⟨ovl done (seL la lb q w tb b2) t0, h0⟩ K'
      refine aone_unless (ovl_get (done := done) (hq 2 (by decide)) (seL la lb q w tb b2) t0 se2 (.tail _ (.tail _ (.head _)))) ?_
      refine aone_mov (v := .int .i64 w) ((ovl_out (done := done) (seL la lb q w tb b2) t0 rfl).trans h5) ?_
      show K' ⟨upd (ovl done (seL la lb q w tb b2) t0) 77 _, h0⟩
      rw [ovl_upd (k := 8) (seL la lb q w tb b2) t0 se1 se2 (.tail _ (.tail _ (.tail _ (.tail _ (.tail _ (.tail _ (.tail _ (.tail _ (.head _)))))))))]
      exact hK'
    | 9, hj =>
      cases hj
      have hK' : K' ⟨ovl (9 :: done) (seL la lb q w tb b2) t0, h0⟩ := hK'
      show aone P T _ ⟨ovl done (seL la lb q w tb b2) t0, h0⟩ K'
      refine aone_unless (ovl_get (done := done) (hq 2 (by decide)) (seL la lb q w tb b2) t0 se2 (.tail _ (.tail _ (.head _)))) ?_
      refine aone_ixa2 (ovl_get (done := done) (hq 7 (by decide)) (seL la lb q w tb b2) t0 se2 (.tail _ (.tail _ (.tail _ (.tail _ (.tail _ (.tail _ (.tail _ (.head _))))))))) (ovl_get (done := done) (hq 8 (by decide)) (seL la lb q w tb b2) t0 se2 (.tail _ (.tail _ (.tail _ (.tail _ (.tail _ (.tail _ (.tail _ (.tail _ (.head _)))))))))) hw0 hw8 hwn htab ?_
      show K' ⟨upd (ovl done (seL la lb q w tb b2) t0) 78 _, h0⟩
      rw [ovl_upd (k := 9) (seL la lb q w tb b2) t0 se1 se2 (.tail _ (.tail _ (.tail _ (.tail _ (.tail _ (.tail _ (.tail _ (.tail _ (.tail _ (.head _))))))))))]
      exact hK'
    | 10, hj =>
      cases hj
      have hK' : K' ⟨ovl (10 :: done) (seL la lb q w tb b2) t0, h0⟩ := hK'
      show aone P T _ ⟨ovl done (seL la lb q w tb b2) t0, h0⟩ K'
      refine aone_unless (ovl_get (done := done) (hq 2 (by decide)) (seL la lb q w tb b2) t0 se2 (.tail _ (.tail _ (.head _)))) ?_
      refine aone_eqs2 hP (ovl_get (done := done) (hq 3 (by decide)) (seL la lb q w tb b2) t0 se2 (.tail _ (.tail _ (.tail _ (.head _))))) (ovl_get (done := done) (hq 9 (by decide)) (seL la lb q w tb b2) t0 se2 (.tail _ (.tail _ (.tail _ (.tail _ (.tail _ (.tail _ (.tail _ (.tail _ (.tail _ (.head _))))))))))) ?_
      show K' ⟨upd (ovl done (seL la lb q w tb b2) t0) 79 _, h0⟩
      rw [ovl_upd (k := 10) (seL la lb q w tb b2) t0 se1 se2 (.tail _ (.tail _ (.tail _ (.tail _ (.tail _ (.tail _ (.tail _ (.tail _ (.tail _ (.tail _ (.head _)))))))))))]
      exact hK'
    | 11, hj =>
      cases hj
      have hK' : K' ⟨ovl (11 :: done) (seL la lb q w tb b2) t0, h0⟩ := hK'
      show aone P T _ ⟨ovl done (seL la lb q w tb b2) t0, h0⟩ K'
      refine aone_pickF (ovl_get (done := done) (hq 2 (by decide)) (seL la lb q w tb b2) t0 se2 (.tail _ (.tail _ (.head _)))) (ovl_get (done := done) (hq 10 (by decide)) (seL la lb q w tb b2) t0 se2 (.tail _ (.tail _ (.tail _ (.tail _ (.tail _ (.tail _ (.tail _ (.tail _ (.tail _ (.tail _ (.head _)))))))))))) ?_
      show K' ⟨upd (ovl done (seL la lb q w tb b2) t0) 80 _, h0⟩
      rw [ovl_upd (k := 11) (seL la lb q w tb b2) t0 se1 se2 (.tail _ (.tail _ (.tail _ (.tail _ (.tail _ (.tail _ (.tail _ (.tail _ (.tail _ (.tail _ (.tail _ (.head _))))))))))))]
      exact hK'
    | i + 12, hj => exact absurd (List.getElem?_eq_some_iff.1 hj).1 (by show ¬ i + 12 < 12; omega)
  · show K ⟨ovl done (seL la lb q w tb b2) t0, h0⟩
    rw [ovl_all _ _ (fun p hp => hd p.1 ?_)]
    · exact hK
    · have hm : p.1 ∈ (seL la lb q w tb b2).map (·.1) := List.mem_map.2 ⟨p, hp, rfl⟩
      have hall : ∀ x ∈ ([0, 1, 2, 3, 4, 5, 6, 7, 8, 9, 10, 11] : List Nat), x < 12 := by decide
      exact hall _ hm
  · show (⟨t0, h0⟩ : S) = ⟨ovl [] (seL la lb q w tb b2) t0, h0⟩
    rw [ovl_nil]
end
/-- an archive and the document's that are to be seen alike -/
structure Mch (d : SC) (l : List Rev) (dr : RSh) (tx : List (List UInt8)) : Prop where
  x1 : d.x1 = dr.x1
  x2 : d.x2 = dr.x2
  x3 : d.x3 = dr.x3
  x4 : d.x4 = dr.x4
  b : d.b = dr.b
  sf : d.sf = dr.sf
  bb : 0 ≤ d.b ∧ d.b ≤ 2147483647
  len : l.length ≤ 64
  rv : RevsOk l
  who : ∀ r ∈ l, 0 ≤ r.who ∧ r.who ≤ 7
  dl : ∀ r ∈ l, r.delta.length ≤ 10000000
  tb : ∀ j, j < 16 → d.tb j = tabG dr.fs dr.b l j
  tx : ∀ i : Nat, i ≤ l.length → ∃ s, tx[i]? = some s ∧ stextT d l (d.b + (i : Int)) = (s, 0)
structure YSe1 where
  w : Int
  h : -1 ≤ w ∧ w ≤ 9
structure YSe2 (b : Int) (n : Nat) where
  k : Int
  h : b - 1 ≤ k ∧ k ≤ b + (n : Int) + 2
def ac_seen : AC := .seq (.region false [
    ⟨some 4, none, .mov (.c (.bool false))⟩])
  (.seq (.seq (.region true [
    ⟨some 14, none, .mov (.t 0)⟩,
    ⟨some 15, none, .call 31 [(.t 14)]⟩,
    ⟨some 16, none, .mov (.t 1)⟩,
    ⟨some 17, none, .nilchk (.t 16)⟩,
    ⟨some 18, none, .faddr 0 (.t 17)⟩,
    ⟨some 19, none, .loadn 4 (.t 18)⟩,
    ⟨some 20, none, .eqs true [2, 1, 2, 1] (.t 15) (.t 19)⟩,
    ⟨some 21, none, .mov (.t 20)⟩,
    ⟨some 22, some (21, false), .mov (.t 0)⟩,
    ⟨some 23, some (21, false), .call 25 [(.t 22)]⟩,
    ⟨some 24, some (21, false), .mov (.t 1)⟩,
    ⟨some 25, some (21, false), .nilchk (.t 24)⟩,
    ⟨some 26, some (21, false), .faddr 6 (.t 25)⟩,
    ⟨some 27, some (21, false), .load1 (.t 26)⟩,
    ⟨some 28, some (21, false), .bin .neq (.t 23) (.t 27)⟩,
    ⟨some 29, none, .pick (.t 21) (.c (.bool true)) (.t 28)⟩,
    ⟨some 30, none, .mov (.t 29)⟩,
    ⟨some 31, some (30, false), .mov (.t 0)⟩,
    ⟨some 32, some (30, false), .call 20 [(.t 31)]⟩,
    ⟨some 33, some (30, false), .mov (.t 1)⟩,
    ⟨some 34, some (30, false), .call 41 [(.t 33)]⟩,
    ⟨some 35, some (30, false), .bin .neq (.t 32) (.t 34)⟩,
    ⟨some 36, none, .pick (.t 30) (.c (.bool true)) (.t 35)⟩,
    ⟨some 37, none, .mov (.t 36)⟩,
    ⟨some 38, some (37, false), .mov (.t 0)⟩,
    ⟨some 39, some (37, false), .call 32 [(.t 38)]⟩,
    ⟨some 40, some (37, false), .mov (.t 1)⟩,
    ⟨some 41, some (37, false), .nilchk (.t 40)⟩,
    ⟨some 42, some (37, false), .faddr 25 (.t 41)⟩,
    ⟨some 43, some (37, false), .load1 (.t 42)⟩,
    ⟨some 44, some (37, false), .bin .neq (.t 39) (.t 43)⟩,
    ⟨some 45, none, .pick (.t 37) (.c (.bool true)) (.t 44)⟩])
  (.cond (.t 45)
    (.seq (.region false [
      ⟨some 4, none, .mov (.c (.bool false))⟩])
    (.ret))
    (.skip)))
  (.seq (.seq (.region false [
    ⟨some 5, none, .mov (.c (.int .i64 (-1)))⟩])
  (.block 0 (.loop (.seq (.seq (.region false [
      ⟨some 46, none, .mov (.t 5)⟩,
      ⟨some 47, none, .bin .leq (.t 46) (.c (.int .i64 8))⟩])
    (.cond (.t 47)
      (.skip)
      (.exit 0)))
    (.seq (.block 1 (.seq (.region false [
      ⟨some 51, none, .mov (.t 0)⟩,
      ⟨some 52, none, .mov (.t 5)⟩,
      ⟨some 53, none, .call 42 [(.t 51), (.t 52)]⟩,
      ⟨some 50, none, .mov (.t 53)⟩,
      ⟨some 54, none, .ext 0 (.t 50)⟩,
      ⟨some 55, none, .ext 1 (.t 50)⟩,
      ⟨some 6, none, .alloc 78 [(.int .i64 0), (.int .i64 0)]⟩,
      ⟨none, none, .store 2 (.t 6) (.t 54)⟩,
      ⟨some 7, none, .mov (.t 55)⟩])
    (.seq (.region false [
      ⟨some 56, none, .mov (.t 5)⟩,
      ⟨some 57, none, .bin .lss (.t 56) (.c (.int .i64 0))⟩,
      ⟨some 58, none, .mov (.t 57)⟩,
      ⟨some 59, some (58, false), .mov (.t 5)⟩,
      ⟨some 60, some (58, false), .bin .gtr (.t 59) (.c (.int .i64 7))⟩,
      ⟨some 61, none, .pick (.t 58) (.c (.bool true)) (.t 60)⟩])
    (.cond (.t 61)
      (.seq (.region false [
        ⟨some 62, none, .mov (.t 7)⟩,
        ⟨some 63, none, .bin .neq (.t 62) (.c (.int .i64 1))⟩,
        ⟨some 64, none, .mov (.t 63)⟩,
        ⟨some 65, some (64, false), .loadn 2 (.t 6)⟩,
        ⟨some 66, some (64, false), .build [(.int .i64 0), (.int .i64 0)] []⟩,
        ⟨some 67, some (64, false), .eqs true [1, 1] (.t 65) (.t 66)⟩,
        ⟨some 68, none, .pick (.t 64) (.c (.bool true)) (.t 67)⟩])
      (.cond (.t 68)
        (.seq (.region false [
          ⟨some 4, none, .mov (.c (.bool false))⟩])
        (.ret))
        (.skip)))
      (.seq (.dregion [
        (⟨some 69, none, .mov (.t 7)⟩, []),
        (⟨some 70, none, .bin .neq (.t 69) (.c (.int .i64 0))⟩, [0]),
        (⟨some 71, none, .mov (.t 70)⟩, [1]),
        (⟨some 72, some (71, false), .loadn 2 (.t 6)⟩, [2]),
        (⟨some 73, some (71, false), .mov (.t 1)⟩, [2]),
        (⟨some 74, some (71, false), .mov (.t 1)⟩, [2]),
        (⟨some 75, some (71, false), .call 41 [(.t 74)]⟩, [5, 2, 2]),
        (⟨some 76, some (71, false), .call 43 [(.t 73), (.t 75)]⟩, [4, 6, 6, 2]),
        (⟨some 77, some (71, false), .mov (.t 5)⟩, [2]),
        (⟨some 78, some (71, false), .ixa true 8 2 (.t 76) (.t 77)⟩, [7, 8, 2]),
        (⟨some 79, some (71, false), .eqs true [1, 1] (.t 72) (.t 78)⟩, [3, 9, 2]),
        (⟨some 80, none, .pick (.t 71) (.c (.bool true)) (.t 79)⟩, [2, 10])])
      (.cond (.t 80)
        (.seq (.region false [
          ⟨some 4, none, .mov (.c (.bool false))⟩])
        (.ret))
        (.skip)))))))
    (.region false [
      ⟨some 48, none, .mov (.t 5)⟩,
      ⟨some 49, none, .bin .add (.t 48) (.c (.int .i64 1))⟩,
      ⟨some 5, none, .mov (.t 49)⟩]))))))
  (.seq (.seq (.region false [
    ⟨some 81, none, .mov (.t 1)⟩,
    ⟨some 82, none, .nilchk (.t 81)⟩,
    ⟨some 83, none, .faddr 6 (.t 82)⟩,
    ⟨some 84, none, .load1 (.t 83)⟩,
    ⟨some 85, none, .bin .sub (.t 84) (.c (.int .i64 1))⟩,
    ⟨some 8, none, .mov (.t 85)⟩])
  (.block 2 (.loop (.seq (.seq (.region false [
      ⟨some 86, none, .mov (.t 8)⟩,
      ⟨some 87, none, .mov (.t 1)⟩,
      ⟨some 88, none, .call 41 [(.t 87)]⟩,
      ⟨some 89, none, .bin .add (.t 88) (.c (.int .i64 1))⟩,
      ⟨some 90, none, .bin .leq (.t 86) (.t 89)⟩])
    (.cond (.t 90)
      (.skip)
      (.exit 2)))
    (.seq (.block 3 (.seq (.region false [
      ⟨some 94, none, .mov (.t 0)⟩,
      ⟨some 95, none, .mov (.t 8)⟩,
      ⟨some 96, none, .call 22 [(.t 94), (.t 95)]⟩,
      ⟨some 93, none, .mov (.t 96)⟩,
      ⟨some 97, none, .ext 0 (.t 93)⟩,
      ⟨some 98, none, .ext 1 (.t 93)⟩,
      ⟨some 9, none, .mov (.t 97)⟩,
      ⟨some 10, none, .mov (.t 98)⟩])
    (.seq (.region false [
      ⟨some 100, none, .mov (.t 0)⟩,
      ⟨some 101, none, .mov (.t 8)⟩,
      ⟨some 102, none, .call 44 [(.t 100), (.t 101)]⟩,
      ⟨some 99, none, .mov (.t 102)⟩,
      ⟨some 103, none, .ext 0 (.t 99)⟩,
      ⟨some 104, none, .ext 1 (.t 99)⟩,
      ⟨some 11, none, .mov (.t 103)⟩,
      ⟨some 12, none, .mov (.t 104)⟩])
    (.seq (.region false [
      ⟨some 105, none, .mov (.t 1)⟩,
      ⟨some 106, none, .mov (.t 8)⟩,
      ⟨some 107, none, .call 45 [(.t 105), (.t 106)]⟩,
      ⟨some 13, none, .mov (.t 107)⟩])
    (.seq (.region false [
      ⟨some 108, none, .mov (.t 13)⟩,
      ⟨some 109, none, .bin .neq (.t 108) (.c (.int .i64 0))⟩])
    (.cond (.t 109)
      (.seq (.region false [
        ⟨some 110, none, .mov (.t 10)⟩,
        ⟨some 111, none, .mov (.t 13)⟩,
        ⟨some 112, none, .bin .neq (.t 110) (.t 111)⟩,
        ⟨some 113, none, .mov (.t 112)⟩,
        ⟨some 114, some (113, false), .mov (.t 12)⟩,
        ⟨some 115, some (113, false), .mov (.t 13)⟩,
        ⟨some 116, some (113, false), .bin .neq (.t 114) (.t 115)⟩,
        ⟨some 117, none, .pick (.t 113) (.c (.bool true)) (.t 116)⟩,
        ⟨some 118, none, .mov (.t 117)⟩,
        ⟨some 119, some (118, false), .mov (.t 9)⟩,
        ⟨some 120, some (118, false), .bin .neq (.t 119) (.c (.string ⟨#[]⟩))⟩,
        ⟨some 121, none, .pick (.t 118) (.c (.bool true)) (.t 120)⟩,
        ⟨some 122, none, .mov (.t 121)⟩,
        ⟨some 123, some (122, false), .mov (.t 11)⟩,
        ⟨some 124, some (122, false), .len false (.t 123)⟩,
        ⟨some 125, some (122, false), .bin .neq (.t 124) (.c (.int .i64 0))⟩,
        ⟨some 126, none, .pick (.t 122) (.c (.bool true)) (.t 125)⟩])
      (.cond (.t 126)
        (.seq (.region false [
          ⟨some 4, none, .mov (.c (.bool false))⟩])
        (.ret))
        (.skip)))
      (.seq (.region true [
        ⟨some 127, none, .mov (.t 10)⟩,
        ⟨some 128, none, .bin .neq (.t 127) (.c (.int .i64 0))⟩,
        ⟨some 129, none, .mov (.t 128)⟩,
        ⟨some 130, some (129, false), .mov (.t 12)⟩,
        ⟨some 131, some (129, false), .bin .neq (.t 130) (.c (.int .i64 0))⟩,
        ⟨some 132, none, .pick (.t 129) (.c (.bool true)) (.t 131)⟩,
        ⟨some 133, none, .mov (.t 132)⟩,
        ⟨some 134, some (133, false), .mov (.t 9)⟩,
        ⟨some 135, some (133, false), .mov (.t 1)⟩,
        ⟨some 136, some (133, false), .mov (.t 8)⟩,
        ⟨some 137, some (133, false), .call 46 [(.t 135), (.t 136)]⟩,
        ⟨some 138, some (133, false), .bin .neq (.t 134) (.t 137)⟩,
        ⟨some 139, none, .pick (.t 133) (.c (.bool true)) (.t 138)⟩,
        ⟨some 140, none, .mov (.t 139)⟩,
        ⟨some 141, some (140, false), .mov (.t 11)⟩,
        ⟨some 142, some (140, false), .mov (.t 1)⟩,
        ⟨some 143, some (140, false), .nilchk (.t 142)⟩,
        ⟨some 144, some (140, false), .faddr 24 (.t 143)⟩,
        ⟨some 145, some (140, false), .load1 (.t 144)⟩,
        ⟨some 146, some (140, false), .mov (.t 8)⟩,
        ⟨some 147, some (140, false), .mov (.t 1)⟩,
        ⟨some 148, some (140, false), .nilchk (.t 147)⟩,
        ⟨some 149, some (140, false), .faddr 6 (.t 148)⟩,
        ⟨some 150, some (140, false), .load1 (.t 149)⟩,
        ⟨some 151, some (140, false), .bin .sub (.t 146) (.t 150)⟩,
        ⟨some 152, some (140, false), .slsl 3 (.t 145) (some (.t 151)) none⟩,
        ⟨some 153, some (140, false), .call 47 [(.t 141), (.t 152)]⟩,
        ⟨some 154, some (140, false), .not (.t 153)⟩,
        ⟨some 155, none, .pick (.t 140) (.c (.bool true)) (.t 154)⟩])
      (.cond (.t 155)
        (.seq (.region false [
          ⟨some 4, none, .mov (.c (.bool false))⟩])
        (.ret))
        (.skip)))))))))
    (.region false [
      ⟨some 91, none, .mov (.t 8)⟩,
      ⟨some 92, none, .bin .add (.t 91) (.c (.int .i64 1))⟩,
      ⟨some 8, none, .mov (.t 92)⟩]))))))
  (.seq (.region false [
    ⟨some 4, none, .mov (.c (.bool true))⟩])
  (.ret)))))
theorem ok_seen : FnOk Try.prog 9 Try.f9 ac_seen [.t 4] 2 drawD := ⟨Try.func9, by decide +kernel, by kernel_rfl, by kernel_rfl, by decide +kernel⟩
theorem vc_seen (P : Prim) (hP : P = std) (T T1 : CallT) (hdisk : SDiskC T1) (hbase : SBaseC T1) (hhd : SHeadC T1) (hsafe : SSafeC T1) (hrh1 : RHeadC T1) (hlast : SLastC T) (hrh : RHeadC T) (hrtab : RTabC T) (htext : STextC T) (hrevs : SRevsC T) (hther : RTherC T) (hrtxt : RTxtC T1)
    (hsame : ∀ (l' : List Rev) (n' : Nat) (rows' rs : List (List V)) (bo : Option Nat) (h : Hp) (K : V → Hp → Prop), n' = l'.length → rows' = l'.map encRev → rs = l'.map encRev → l'.length ≤ 64 → (∀ r ∈ l', r.delta.length ≤ 10000000) → h 1000300 = some ⟨bo, 45, 3, rows'⟩ → K (.bool true) h → T1 47 [.own 1000300 bo 3 n', .sl false 3 rs] h K)
    (bl b2 : Nat) (d : SC) (ba : Option Nat) (l : List Rev) (n : Nat) (hn : n = l.length) (rows : List (List V)) (hrows : rows = l.map encRev) (km bm : Nat) (m : Option Mv) (mv : V) (hmv : mv = mvN km bm m) (hN : N4 0 1000001 km 1000300) (dr : RSh) (tx : List (List UInt8)) (tr lr : List (List V)) (htr : tr = strRows tx) (hlr : lr = l.map encRev) (hM : Mch d l dr tx)
    (R : S → Prop) (hR : ∀ s s' b, b = true → Ent s s' → Ret [.t 4] [.bool b] s' → agreeH [(0, obSh bl (rowS d (.own 1000001 ba 3 n) mv)), (1000001, obV ba rows), (50, obRf b2 dr (.sl false 1 tr) (.sl false 3 lr))] s' → R s) :
    awp P T T1 ac_seen (S0 [.ptr 0 (some bl) 47 0 0, .ptr 50 (some b2) 31 0 0] (lookH [(0, obSh bl (rowS d (.own 1000001 ba 3 n) mv)), (1000001, obV ba rows), (50, obRf b2 dr (.sl false 1 tr) (.sl false 3 lr))])) R (fun _ _ => False) R := by
  have hbb := hM.bb
  have hlen := hM.len
  have hbe := hM.b
  have hb4 : 0 ≤ d.b ∧ d.b ≤ 4294967295 := ⟨hbb.1, Int.le_trans hbb.2 (by decide)⟩
  have hb4r : 0 ≤ dr.b ∧ dr.b ≤ 4294967295 := by rw [← hbe]; exact hb4
  have hmq : MQ mv := by rw [hmv]; exact mvN_mq _ _ _
  have hr1 : rtB 0 mv = true := rt0 hmq.2
  have hr2 : rt2B 0 1000001 mv = true := by rw [hmv]; exact rt2_mv (by rw [hN.d, hN.e]; rfl)
  have hn2 : n ≤ 1000 := by rw [hn]; omega
  have hln : l.length ≤ 1000 := by omega
  have hlrl : lr.length = l.length := by rw [hlr, List.length_map]
  have hlr2 : lr.length ≤ 1000 := by rw [hlrl]; exact hln
  have htz : ∀ r ∈ tr, ∀ v ∈ r, Fz v := by rw [htr]; exact strRows_fz _
  have hlz : ∀ r ∈ lr, ∀ v ∈ r, Fz v := by rw [hlr]; exact encRevs_fz _
  have hnr : (n : Int) = (lr.length : Int) := by rw [hlrl, hn]
  have hlI : (lr.length : Int) = (l.length : Int) := by rw [hlrl]
  have hrl : P.rlen lr = (lr.length : Int) := rlen_eq hP _
  have hdl : ∀ r ∈ l, r.delta.length ≤ 1000000000 := fun r hr => Nat.le_trans (hM.dl r hr) (by decide)
  have i1 : P.i64 (P.sub dr.b 1) := by rw [sub_eq hP]; exact i64I hP (by omega)
  have e1 : ∀ q q' : Int, q = d.b + (n : Int) → q' = dr.b + (lr.length : Int) → q = q' := fun q q' h1 h2 => by rw [h1, h2, ← hbe, hnr]
  cbv
  repeat' (first
    | (refine And.intro (by first | assumption | decide) ?_; try cbv)
    | (intro β6; try cbv))
  refine hdisk 0 bl d (.own 1000001 ba 3 n) mv _ _ ⟨⟨.own _ _ _ _, rfl⟩, hmq.1⟩ rfl hr1 rfl ?_
  cbv
  repeat' (first
    | (refine And.intro (by first | assumption | decide) ?_; try cbv)
    | (intro β6; try cbv))
  refine br_tt (and4s hP hM.x1 hM.x2 hM.x3 hM.x4) ?_
  cbv
  repeat' (first
    | (refine And.intro (by first | assumption | decide) ?_; try cbv)
    | (intro β6; try cbv))
  refine hbase 0 bl d (.own 1000001 ba 3 n) mv _ _ ⟨⟨.own _ _ _ _, rfl⟩, hmq.1⟩ rfl hr1 rfl ?_
  cbv
  repeat' (first
    | (refine And.intro (by first | assumption | decide) ?_; try cbv)
    | (intro β6; try cbv))
  refine br_ff (ne_F hP hbe) ?_
  cbv
  repeat' (first
    | (refine And.intro (by first | assumption | decide) ?_; try cbv)
    | (intro β6; try cbv))
  refine hhd 0 bl d 1000001 ba n mv _ _ hb4 hn2 hmq.1 rfl hr1 rfl fun q hq => ?_
  cbv
  repeat' (first
    | (refine And.intro (by first | assumption | decide) ?_; try cbv)
    | (intro β6; try cbv))
  refine hrh1 50 b2 dr tr lr _ _ htz hlz hb4r hlr2 rfl fun q' hq' => ?_
  cbv
  repeat' (first
    | (refine And.intro (by first | assumption | decide) ?_; try cbv)
    | (intro β6; try cbv))
  refine br_ff (ne_F hP (e1 _ _ hq hq')) ?_
  cbv
  repeat' (first
    | (refine And.intro (by first | assumption | decide) ?_; try cbv)
    | (intro β6; try cbv))
  refine hsafe 0 bl d (.own 1000001 ba 3 n) mv _ _ ⟨⟨.own _ _ _ _, rfl⟩, hmq.1⟩ rfl hr1 rfl ?_
  cbv
  repeat' (first
    | (refine And.intro (by first | assumption | decide) ?_; try cbv)
    | (intro β6; try cbv))
  refine br_ff (ne_F hP hM.sf) ?_
  cbv
  repeat' (first
    | (refine And.intro (by first | assumption | decide) ?_; try cbv)
    | (intro β6; try cbv))
  -- the table
  refine ⟨YSe1, fun y => [(0, .ptr 0 (some bl) 47 0 0), (1, .ptr 50 (some b2) 31 0 0), (5, .int .i64 y.w)],
    fun y => [(0, obSh bl (rowS d (.own 1000001 ba 3 n) mv)), (1000001, obV ba rows), (50, obRf b2 dr (.sl false 1 tr) (.sl false 3 lr))], fun y => (9 - y.w).toNat,
    ⟨_, Ent.refl _, ⟨-1, by omega, by omega⟩, ⟨rfl, rfl, rfl, trivial⟩, ⟨rfl, rfl, rfl, trivial⟩⟩, ?_⟩
  rintro ⟨w, hw⟩
  cbv
  have hw : -1 ≤ w ∧ w ≤ 9 := hw
  repeat' (first
    | (refine And.intro (by first | assumption | decide) ?_; try cbv)
    | (intro β6; try cbv))
  refine br_cases (fun g => ?_) (fun g => ?_)
  · have g1 : w ≤ 8 := le_t hP g
    clear g
    have i2 : P.i64 (P.add w 1) := by rw [add_eq hP]; exact i64I hP (by ((try simp only [nc] at *); omega))
    cbv
    repeat' (first
    | (refine And.intro (by first | assumption | decide) ?_; try cbv)
    | (intro β6; try cbv))
    refine hlast 0 bl d (.own 1000001 ba 3 n) mv w _ _ ⟨⟨.own _ _ _ _, rfl⟩, hmq.1⟩ rfl hr1 rfl fun la lb le hla hlb hle => ?_
    cbv
    repeat' (first
    | (refine And.intro (by first | assumption | decide) ?_; try cbv)
    | (intro β6; try cbv))
    refine br_cases (fun g => ?_) (fun g => ?_)
    · have g2 : w < 0 := lt_t hP g
      clear g
      have hs : slastT d.tb w = ⟨0, 0, 1⟩ := by unfold slastT; rw [if_pos (.inl g2)]
      rw [hs] at hla hlb hle
      cbv
      repeat' (first
    | (refine And.intro (by first | assumption | decide) ?_; try cbv)
    | (intro β6; try cbv))
      refine br_ff (ne_F hP hle) ?_
      cbv
      repeat' (first
    | (refine And.intro (by first | assumption | decide) ?_; try cbv)
    | (intro β6; try cbv))
      refine br_tt (and2 hP hla hlb) ?_
      cbv
      repeat' (first
    | (refine And.intro (by first | assumption | decide) ?_; try cbv)
    | (intro β6; try cbv))
      refine ⟨_, Ent.refl _, ⟨P.add w 1, by rw [add_eq hP]; ((try simp only [nc] at *); omega)⟩, ⟨rfl, rfl, rfl, trivial⟩, ⟨rfl, rfl, rfl, trivial⟩, ?_⟩
      show (9 - P.add w 1).toNat < (9 - w).toNat
      rw [add_eq hP]; omega
    have g2 : ¬ w < 0 := lt_f hP g
    clear g
    cbv
    repeat' (first
    | (refine And.intro (by first | assumption | decide) ?_; try cbv)
    | (intro β6; try cbv))
    refine br_cases (fun g => ?_) (fun g => ?_)
    · have g3 : 7 < w := lt_t hP g
      clear g
      have hs : slastT d.tb w = ⟨0, 0, 1⟩ := by unfold slastT; rw [if_pos (.inr g3)]
      rw [hs] at hla hlb hle
      cbv
      repeat' (first
    | (refine And.intro (by first | assumption | decide) ?_; try cbv)
    | (intro β6; try cbv))
      refine br_ff (ne_F hP hle) ?_
      cbv
      repeat' (first
    | (refine And.intro (by first | assumption | decide) ?_; try cbv)
    | (intro β6; try cbv))
      refine br_tt (and2 hP hla hlb) ?_
      cbv
      repeat' (first
    | (refine And.intro (by first | assumption | decide) ?_; try cbv)
    | (intro β6; try cbv))
      refine ⟨_, Ent.refl _, ⟨P.add w 1, by rw [add_eq hP]; ((try simp only [nc] at *); omega)⟩, ⟨rfl, rfl, rfl, trivial⟩, ⟨rfl, rfl, rfl, trivial⟩, ?_⟩
      show (9 - P.add w 1).toNat < (9 - w).toNat
      rw [add_eq hP]; omega
    have g3 : ¬ 7 < w := lt_f hP g
    clear g
    have hs : slastT d.tb w = ⟨d.tb (2 * w.toNat), d.tb (2 * w.toNat + 1), 0⟩ := by unfold slastT; rw [if_neg (by omega)]
    rw [hs] at hla hlb hle
    have hla : la = d.tb (2 * w.toNat) := hla
    have hlb : lb = d.tb (2 * w.toNat + 1) := hlb
    have hle : le = 0 := hle
    subst hle
    have hj : dr.b ≤ dr.b + (l.length : Int) ∧ dr.b + (l.length : Int) ≤ dr.b + (l.length : Int) := ⟨by omega, Int.le_refl _⟩
    have hta : tabG dr.fs dr.b (l.take (dr.b + (l.length : Int) - dr.b).toNat) = tabG dr.fs dr.b l := by
      have e : (dr.b + (l.length : Int) - dr.b).toNat = l.length := by omega
      rw [e, List.take_length]
    have hcell : ((tabV (tabG dr.fs dr.b l)).cells.drop (w.toNat * 2)).take 2 = [.int .i64 la, .int .i64 lb] := by
      rw [tab_cells _ _ (by omega), hla, hlb, hM.tb _ (by omega), hM.tb _ (by omega)]
    have hc2 : ∀ (h : Hp) (K : V → Hp → Prop), h 50 = some (obRf b2 dr (.sl false 1 tr) (.sl false 3 lr)) → K (tabV (tabG dr.fs dr.b l)) h → T 43 [.ptr 50 (some b2) 31 0 0, .int .i64 (dr.b + (l.length : Int))] h K := fun h K hk hK =>
      hrtab 50 b2 dr tr l lr _ h K htz hlr hb4r hln hM.who hj hk fun tb htb => by rw [htb, hta]; exact hK
    have hc1 : ∀ (h : Hp) (K : V → Hp → Prop), h 50 = some (obRf b2 dr (.sl false 1 tr) (.sl false 3 lr)) → K (.int .i64 (dr.b + (l.length : Int))) h → T 41 [.ptr 50 (some b2) 31 0 0] h K := fun h K hk hK =>
      hrh 50 b2 dr tr lr h K htz hlz hb4r hlr2 hk fun q hq => by
        have e : q = dr.b + (l.length : Int) := by ((try simp only [nc] at *); omega)
        rw [e]; exact hK
    refine awp_dr (ops := seOps) (n := 12) rfl ?_
    refine se_all hP (la := la) (lb := lb) (q := dr.b + (l.length : Int)) (w := w) (tb := tabG dr.fs dr.b l) (b2 := b2) (wn := w.toNat) rfl rfl rfl rfl rfl (fun K hK => hc1 _ K rfl hK) (fun K hK => hc2 _ K rfl hK) (le0 hP (by omega)) (ltI hP (by omega)) (by subst hP; rfl) hcell ?_
    cbv
    repeat' (first
    | (refine And.intro (by first | assumption | decide) ?_; try cbv)
    | (intro β6; try cbv))
    refine ⟨_, Ent.refl _, ⟨P.add w 1, by rw [add_eq hP]; ((try simp only [nc] at *); omega)⟩, ⟨rfl, rfl, rfl, trivial⟩, ⟨rfl, rfl, rfl, trivial⟩, ?_⟩
    show (9 - P.add w 1).toNat < (9 - w).toNat
    rw [add_eq hP]; omega
  clear g
  -- the texts
  cbv
  repeat' (first
    | (refine And.intro (by first | assumption | decide) ?_; try cbv)
    | (intro β6; try cbv))
  refine ⟨YSe2 d.b l.length, fun y => [(0, .ptr 0 (some bl) 47 0 0), (1, .ptr 50 (some b2) 31 0 0), (8, .int .i64 y.k)],
    fun y => [(0, obSh bl (rowS d (.own 1000001 ba 3 n) mv)), (1000001, obV ba rows), (50, obRf b2 dr (.sl false 1 tr) (.sl false 3 lr))], fun y => (d.b + (l.length : Int) + 2 - y.k).toNat,
    ⟨_, Ent.refl _, ⟨P.sub dr.b 1, by rw [sub_eq hP, hbe]; omega⟩, ⟨rfl, rfl, rfl, trivial⟩, ⟨rfl, rfl, rfl, trivial⟩⟩, ?_⟩
  rintro ⟨k, hk⟩
  have hk : d.b - 1 ≤ k ∧ k ≤ d.b + (l.length : Int) + 2 := hk
  have i3 : ∀ q, q = dr.b + (lr.length : Int) → P.i64 (P.add q 1) := fun q hq => by rw [add_eq hP, hq]; exact i64I hP (by omega)
  cbv
  repeat' (first
    | (refine And.intro (by first | assumption | decide) ?_; try cbv)
    | (intro β6; try cbv))
  refine hrh 50 b2 dr tr lr _ _ htz hlz hb4r hlr2 rfl fun qh hqh => ?_
  have i4 := i3 qh hqh
  cbv
  repeat' (first
    | (refine And.intro (by first | assumption | decide) ?_; try cbv)
    | (intro β6; try cbv))
  refine br_cases (fun g => ?_) (fun g => ?_)
  · have g1 : k ≤ P.add qh 1 := le_t hP g
    rw [add_eq hP, hqh] at g1
    clear g
    have i5 : P.i64 (P.add k 1) := by rw [add_eq hP]; exact i64I hP (by ((try simp only [nc] at *); omega))
    cbv
    repeat' (first
    | (refine And.intro (by first | assumption | decide) ?_; try cbv)
    | (intro β6; try cbv))
    refine htext 0 1000001 bl d ba n rows l mv k _ _ hrows hn hM.rv hb4 hln hmq rfl hr2 rfl rfl fun x y hx hy => ?_
    cbv
    repeat' (first
    | (refine And.intro (by first | assumption | decide) ?_; try cbv)
    | (intro β6; try cbv))
    refine hrevs 0 1000001 km 1000300 bl d ba n rows l mv bm m k _ _ hN hrows hn hmv hdl hb4 hln rfl rfl rfl fun l' y' hl' bo n' rows' hn' hrows' => ?_
    cbv
    repeat' (first
    | (refine And.intro (by first | assumption | decide) ?_; try cbv)
    | (intro β6; try cbv))
    refine hther 50 b2 dr tr lr k _ _ htz hlz hb4r hlr2 rfl fun wt hwt => ?_
    have hth : wt = thereT d.b l.length k := by rw [hwt, hbe, hlrl]
    cbv
    repeat' (first
    | (refine And.intro (by first | assumption | decide) ?_; try cbv)
    | (intro β6; try cbv))
    refine br_cases (fun g => ?_) (fun g => ?_)
    · have g2 : wt ≠ 0 := ne_t hP g
      clear g
      have g2' : thereT d.b l.length k ≠ 0 := by rw [← hth]; exact g2
      rw [stext_no g2'] at hx hy
      have hx : x = [] := hx
      have hy : y = wt := by rw [hy, hth]
      unfold srevsT at hl'
      rw [if_pos g2'] at hl'
      have hl1 : l' = [] := congrArg Prod.fst hl'
      have hl2 : y' = wt := (congrArg Prod.snd hl').trans hth.symm
      have hn0 : P.int n' = 0 := by rw [int_eq hP, hn', hl1]; rfl
      cbv
      repeat' (first
    | (refine And.intro (by first | assumption | decide) ?_; try cbv)
    | (intro β6; try cbv))
      refine br_ff (ne_F hP hy) ?_
      cbv
      repeat' (first
    | (refine And.intro (by first | assumption | decide) ?_; try cbv)
    | (intro β6; try cbv))
      refine br_ff (ne_F hP hl2) ?_
      cbv
      repeat' (first
    | (refine And.intro (by first | assumption | decide) ?_; try cbv)
    | (intro β6; try cbv))
      refine br_ff (sne_F hP hx) ?_
      cbv
      repeat' (first
    | (refine And.intro (by first | assumption | decide) ?_; try cbv)
    | (intro β6; try cbv))
      refine br_ff (ne_F hP hn0) ?_
      cbv
      repeat' (first
    | (refine And.intro (by first | assumption | decide) ?_; try cbv)
    | (intro β6; try cbv))
      refine ⟨_, Ent.refl _, ⟨P.add k 1, by rw [add_eq hP]; ((try simp only [nc] at *); omega)⟩, ⟨rfl, rfl, rfl, trivial⟩, ⟨rfl, rfl, rfl, trivial⟩, ?_⟩
      show (d.b + (l.length : Int) + 2 - P.add k 1).toNat < (d.b + (l.length : Int) + 2 - k).toNat
      rw [add_eq hP]; ((try simp only [nc] at *); omega)
    have g2 : wt = 0 := ne_f hP g
    clear g
    have g2' : thereT d.b l.length k = 0 := by rw [← hth]; exact g2
    have hkr : d.b ≤ k ∧ k ≤ d.b + (l.length : Int) := by
      unfold thereT at g2'
      split at g2'
      · exact absurd g2' (by decide)
      · split at g2'
        · exact absurd g2' (by decide)
        · omega
    obtain ⟨a, ha⟩ : ∃ a : Nat, k = d.b + (a : Int) := ⟨(k - d.b).toNat, by omega⟩
    have hal : a ≤ l.length := by ((try simp only [nc] at *); omega)
    obtain ⟨s0, hs0, hs1⟩ := hM.tx a hal
    rw [← ha] at hs1
    rw [hs1] at hx hy
    have hx : x = s0 := hx
    have hy : y = 0 := hy
    unfold srevsT at hl'
    rw [if_neg (fun h => h g2')] at hl'
    have hl1 : l' = l.drop (k - d.b).toNat := congrArg Prod.fst hl'
    have hl2 : y' = 0 := congrArg Prod.snd hl'
    have hka : k - dr.b = (a : Int) := by rw [← hbe]; ((try simp only [nc] at *); omega)
    have hka2 : (k - d.b).toNat = a := by ((try simp only [nc] at *); omega)
    rw [hka2] at hl1
    have htra : tr[a]? = some [.str s0] := by rw [htr, strRows, List.getElem?_map, hs0]; rfl
    have i6 : P.i64 (P.sub k dr.b) := by rw [sub_eq hP, hka]; exact i64I hP (by ((try simp only [nc] at *); omega))
    have i7 : P.leP 0 (P.sub k dr.b) := by rw [sub_eq hP, hka]; exact le0 hP (Int.natCast_nonneg _)
    have i8 : P.leP (P.sub k dr.b) (P.rlen lr) := by rw [sub_eq hP, hka, hrl]; exact leI hP (by rw [hlI]; ((try simp only [nc] at *); omega))
    have i9 : P.leP (P.rlen lr) (P.rlen lr) := leI hP (Int.le_refl _)
    have hrs : P.rsub lr (P.sub k dr.b) (P.rlen lr) = l'.map encRev := by
      rw [sub_eq hP, hka, hrl]
      have e : P.rsub lr (a : Int) (lr.length : Int) = (lr.take ((lr.length : Int)).toNat).drop ((a : Int)).toNat := by subst hP; rfl
      rw [e, Int.toNat_natCast, Int.toNat_natCast, List.take_length, hlr, hl1, List.map_drop]
    have hl64 : l'.length ≤ 64 := by rw [hl1, List.length_drop]; omega
    have hl'd : ∀ r ∈ l', r.delta.length ≤ 10000000 := fun r hr => hM.dl r (List.mem_of_mem_drop (hl1 ▸ hr))
    cbv
    repeat' (first
    | (refine And.intro (by first | assumption | decide) ?_; try cbv)
    | (intro β6; try cbv))
    refine br_ff (ne_F hP hy) ?_
    cbv
    repeat' (first
    | (refine And.intro (by first | assumption | decide) ?_; try cbv)
    | (intro β6; try cbv))
    refine br_ff (ne_F hP hl2) ?_
    cbv
    repeat' (first
    | (refine And.intro (by first | assumption | decide) ?_; try cbv)
    | (intro β6; try cbv))
    refine hrtxt 50 b2 dr tr lr k a s0 _ _ htz hlz hb4r hka (Nat.le_trans hal hln) htra rfl ?_
    cbv
    repeat' (first
    | (refine And.intro (by first | assumption | decide) ?_; try cbv)
    | (intro β6; try cbv))
    refine br_ff (sne_F hP hx) ?_
    cbv
    repeat' (first
    | (refine And.intro (by first | assumption | decide) ?_; try cbv)
    | (intro β6; try cbv))
    refine hsame l' n' rows' _ bo _ _ hn' hrows' hrs hl64 hl'd rfl ?_
    cbv
    repeat' (first
    | (refine And.intro (by first | assumption | decide) ?_; try cbv)
    | (intro β6; try cbv))
    refine ⟨_, Ent.refl _, ⟨P.add k 1, by rw [add_eq hP]; ((try simp only [nc] at *); omega)⟩, ⟨rfl, rfl, rfl, trivial⟩, ⟨rfl, rfl, rfl, trivial⟩, ?_⟩
    show (d.b + (l.length : Int) + 2 - P.add k 1).toNat < (d.b + (l.length : Int) + 2 - k).toNat
    rw [add_eq hP]; ((try simp only [nc] at *); omega)
  cbv
  repeat' (first
    | (refine And.intro (by first | assumption | decide) ?_; try cbv)
    | (intro β6; try cbv))
  exact hR _ _ _ rfl (Ent.refl _) rfl ⟨rfl, rfl, rfl, trivial⟩
def LSe (bl b2 : Nat) (d : SC) (ba : Option Nat) (n : Nat) (rows : List (List V)) (mv : V) (dr : RSh) (tr lr : List (List V)) : List (Nat × Ob) := [(0, obSh bl (rowS d (.own 1000001 ba 3 n) mv)), (1000001, obV ba rows), (50, obRf b2 dr (.sl false 1 tr) (.sl false 3 lr))]
theorem LSe_fz {bl b2 : Nat} {d : SC} {ba : Option Nat} {n : Nat} {l : List Rev} {km bm : Nat} {m : Option Mv} {dr : RSh} {tx : List (List UInt8)} {l2 : List Rev} : ∀ p ∈ LSe bl b2 d ba n (l.map encRev) (mvN km bm m) dr (strRows tx) (l2.map encRev), p.2.Fz := by
  intro p hp
  simp only [LSe, List.mem_cons, List.not_mem_nil, or_false] at hp
  rcases hp with rfl | rfl | rfl
  · exact rowS_fz (.own _ _ _ _) (mvN_fz _ _ _) bl
  · exact encRevs_fz _
  · exact obRf_fz (strRows_fz _) (encRevs_fz _)
theorem sp_seen (bl b2 : Nat) (d : SC) (ba : Option Nat) (l : List Rev) (km bm : Nat) (m : Option Mv) (hN : N4 0 1000001 km 1000300) (dr : RSh) (tx : List (List UInt8)) (hM : Mch d l dr tx) : Spec Try.prog 9 [.ptr 0 (some bl) 47 0 0, .ptr 50 (some b2) 31 0 0] (lookH (LSe bl b2 d ba l.length (l.map encRev) (mvN km bm m) dr (strRows tx) (l.map encRev)))
    fun x h' => ∃ L', (x = .bool true ∧ L' = LSe bl b2 d ba l.length (l.map encRev) (mvN km bm m) dr (strRows tx) (l.map encRev)) ∧ h' = lookH L' :=
  spec_meth dOk ok_seen (L := LSe bl b2 d ba l.length (l.map encRev) (mvN km bm m) dr (strRows tx) (l.map encRev)) (fun x L' => x = .bool true ∧ L' = LSe bl b2 d ba l.length (l.map encRev) (mvN km bm m) dr (strRows tx) (l.map encRev)) fun R hR =>
    vc_seen std rfl _ _ sdiskP sbaseP sheadP ssafeP rheadP slastE rheadE rtabE stextE srevsC rtherE rtxtP
      (fun l' n' rows' rs bo h K hn hrows hrs hl hd hk hK => by
        subst hn hrows hrs
        exact call_pureP (sp_srs l' (Nat.le_trans hl (by decide)) hd) (.cons (.own 1000300 bo 3 _ _ (rowsOf_own (by simp) hk) (by simp)) (.cons (.weak _ _) .nil)) hK)
      bl b2 d ba l _ rfl _ rfl km bm m _ rfl hN dr tx _ _ rfl rfl hM R fun s s' b hb he hr ha => hR s s' _ _ he (resV_mono _ _ _ (fun x hx => by rw [hx, hb]; rfl) hr) ha (.bool _) LSe_fz ⟨rfl, rfl⟩
structure N5 (k ka km kr : Nat) : Prop where
  a : k ≠ ka
  b : k ≠ kr
  c : ka ≠ kr
  d : km ≠ k
  e : km ≠ ka
  f : km ≠ kr
  g : N4 0 1000001 km 1000300
  h : km ≠ 50
def SeenC (T : CallT) : Prop := ∀ (k ka km kr bl b2 : Nat) (d : SC) (ba : Option Nat) (n : Nat) (rows : List (List V)) (l : List Rev) (mv : V) (bm : Nat) (m : Option Mv) (dr : RSh) (tx : List (List UInt8)) (tr lr : List (List V)) (h : Hp) (K : V → Hp → Prop), N5 k ka km kr → n = l.length → rows = l.map encRev → mv = mvN km bm m → tr = strRows tx → lr = l.map encRev → Mch d l dr tx →
  h k = some (obSh bl (rowS d (.own ka ba 3 n) mv)) → h ka = some (obV ba rows) → h kr = some (obRf b2 dr (.sl false 1 tr) (.sl false 3 lr)) → K (.bool true) h → T 9 [.ptr k (some bl) 47 0 0, .ptr kr (some b2) 31 0 0] h K
theorem seenC : SeenC (CallE Try.prog) := by
  rintro k ka km kr bl b2 d ba n rows l mv bm m dr tx tr lr h K hN rfl rfl rfl rfl rfl hM hk hka hkr hK
  obtain ⟨n1, n2, n3, n4, n5, n6, n7, n8⟩ := hN
  have n1' : ¬ ka = k := fun e => n1 e.symm
  have n2' : ¬ kr = k := fun e => n2 e.symm
  have n3' : ¬ kr = ka := fun e => n3 e.symm
  have m1 := neB n7.d
  have m2 := neB n7.e
  have b0 : bal [(0, k), (1000001, ka), (50, kr)] k = 0 := by simp [bal]
  have b1 : bal [(0, k), (1000001, ka), (50, kr)] ka = 1000001 := by simp [bal, n1']
  have b2' : bal [(0, k), (1000001, ka), (50, kr)] kr = 50 := by simp [bal, n2', n3']
  have bm1 : bal [(0, k), (1000001, ka), (50, kr)] km = km := by simp [bal, n4, n5, n6]
  have l0 : lab [(0, k), (1000001, ka), (50, kr)] 0 = k := by simp [lab]
  have l1 : lab [(0, k), (1000001, ka), (50, kr)] 1000001 = ka := by simp [lab]
  have l2 : lab [(0, k), (1000001, ka), (50, kr)] 50 = kr := by simp [lab]
  have lm : lab [(0, k), (1000001, ka), (50, kr)] km = km := by simp [lab, m1, m2, n8]
  refine callN [(0, k), (1000001, ka), (50, kr)] (sp_seen bl b2 d ba l km bm m n7 dr tx hM) (.cons ?_ (.cons ?_ .nil)) (by show ([0, 1000001, 50] : List Nat).Nodup; decide) (by simp [n1, n2, n3]) (by simp) (fun p hp => ?_) (fun p hp => ?_) ?_ ?_
  · have := Arg.same (h := h) (m := [(0, k), (1000001, ka), (50, kr)]) (.ptr k (some bl) 47 0 0)
    simpa [V.ren, V.rl, b0] using this
  · have := Arg.same (h := h) (m := [(0, k), (1000001, ka), (50, kr)]) (.ptr kr (some b2) 31 0 0)
    simpa [V.ren, V.rl, b2'] using this
  · simp only [LSe, List.mem_cons, List.not_mem_nil, or_false] at hp
    rcases hp with rfl | rfl | rfl <;> simp
  · refine ⟨?_, LSe_fz p hp⟩
    simp only [LSe, List.mem_cons, List.not_mem_nil, or_false] at hp
    rcases hp with rfl | rfl | rfl
    · show (h (lab _ 0)).map _ = _
      rw [l0, hk, Option.map_some, obSh_ren, mvN_rl, bm1]
      show some (obSh bl (rowS d (.own (bal _ ka) ba 3 _) _)) = _
      rw [b1]
    · show (h (lab _ 1000001)).map _ = _
      rw [l1, hka, Option.map_some, obV_ren]
    · show (h (lab _ 50)).map _ = _
      rw [l2, hkr]; rfl
  · rintro v L' ⟨_, rfl⟩; rfl
  · rintro v L' ⟨rfl, rfl⟩
    have e : backL [(0, k), (1000001, ka), (50, kr)] (Ob.ren (lab [(0, k), (1000001, ka), (50, kr)])) (LSe bl b2 d ba l.length (l.map encRev) (mvN km bm m) dr (strRows tx) (l.map encRev)) = [(k, obSh bl (rowS d (.own ka ba 3 l.length) (mvN km bm m))), (ka, obV ba (l.map encRev)), (kr, obRf b2 dr (.sl false 1 (strRows tx)) (.sl false 3 (l.map encRev)))] := by
      simp only [LSe, backL, List.zipWith_cons_cons, List.zipWith_nil_left, obSh_ren, obV_ren, mvN_rl, lm]
      show [(k, obSh bl (rowS d (.own (lab _ 1000001) ba 3 l.length) _)), _, _] = _
      rw [l1]; rfl
    rw [e]
    have e2 : h.puts [(k, obSh bl (rowS d (.own ka ba 3 l.length) (mvN km bm m))), (ka, obV ba (l.map encRev)), (kr, obRf b2 dr (.sl false 1 (strRows tx)) (.sl false 3 (l.map encRev)))] = h := by
      funext i
      show (match (if i = k then some _ else if i = ka then some _ else if i = kr then some _ else none) with | some o => some o | none => h i) = _
      by_cases h1 : i = k
      · rw [if_pos h1, h1, hk]
      · rw [if_neg h1]
        by_cases h2 : i = ka
        · rw [if_pos h2, h2, hka]
        · rw [if_neg h2]
          by_cases h3 : i = kr
          · rw [if_pos h3, h3, hkr]
          · rw [if_neg h3]
    rw [e2]; exact hK
end Go.Proofs.Ytobngncjflogcaa.AM

set_option linter.unusedVariables false
set_option linter.unusedSimpArgs false
namespace Go.Proofs.Ytobngncjflogcaa.AM
open Go Go.RowKit
set_option maxRecDepth 100000
set_option maxHeartbeats 2000000
theorem chain_dl {b : Int} {tb : Nat → Int} {i : Nat} {now : List UInt8} {l : List Rev} (hc : chainOk b tb i now l) : ∀ r ∈ l, r.delta.length ≤ 10000000 := fun r hr => by
  have := (checkF_ok (oneF_all (chain_one l _ _ _ hc r hr)).2.2).1
  omega
theorem texts_at {b : Int} {fs : Nat → Int} {tx : List UInt8} {l : List Rev} (hc : chainOk b fs 0 tx l) (htx : tx.length ≤ 500) (i : Nat) (hi : i ≤ l.length) : (textsF tx l).1[i]? = some (nowG tx (l.take i)) := by
  have h0 := (chain_go l _ _ _ hc).1
  have hl : l.length ≤ 64 := (revs_ok hc).2.2.2
  have e : textsF tx l = (tx :: (goT tx l).1, 0) := by
    unfold textsF
    rw [if_neg (by omega), if_neg (fun h => h h0)]
  have h1 := goT_at l tx i h0 hi
  have hlen : (tx :: (goT tx l).1).length = l.length + 1 := by rw [List.length_cons, goT_len l tx h0]
  have hlt : i < (tx :: (goT tx l).1).length := by rw [hlen]; omega
  rw [e, ← h1, List.getD_eq_getElem?_getD, List.getElem?_eq_getElem hlt]
  rfl
theorem openD_disk {a1 b1 : List UInt8} {a2 b2 : Int} (hdk : diskT a1 a2 b1 b2 = 0) {i : Int} (hi : i = 0 ∨ i = 1) {L : LogD} {g : Nat} (hg : L.good = (g : Int)) (hlen : g ≤ (if i = 0 then a1 else b1).length) :
    ∃ d', openD a1 a2 b1 b2 i L = d' ∧ datOf d' i = (if i = 0 then a1 else b1).take g ∧ safOf d' i = (((if i = 0 then a1 else b1).take g).length : Int) ∧ datOf d' (1 - i) = [] ∧ safOf d' (1 - i) = 0 ∧ d'.b = L.base ∧ d'.tx = L.text ∧ d'.tb = L.table ∧ d'.sf = L.base + (L.revs.length : Int) := by
  obtain ⟨E, hE⟩ : ∃ E : SC, (⟨a1, a2, b1, b2, i, L.gen, L.base, L.text, L.first, L.table, L.whole, L.good, [], 0, false⟩ : SC) = E := ⟨_, rfl⟩
  have ek : DkOk E := by rw [← hE]; exact hdk
  have ed : datOf E i = if i = 0 then a1 else b1 := by rw [← hE]; rfl
  have hi' : 1 - i = 0 ∨ 1 - i = 1 := by omega
  have e1 : (1 : Int) - (1 - i) = i := by omega
  obtain ⟨p1, p2, p3, p4, p5⟩ := trm_ok2 ek hi (n := g) (by rw [ed]; exact hlen)
  obtain ⟨q1, q2, q3, q4, q5⟩ := trm_ok2 p1 hi' (n := 0) (Nat.zero_le _)
  rw [e1] at q3 q5
  obtain ⟨s1, s2, s3, s4⟩ := syn_ok2 q1 hi
  have hs0 := (ek.slot (1 - i)).2.1
  obtain ⟨d', hd'⟩ : ∃ d', openD a1 a2 b1 b2 i L = d' := ⟨_, rfl⟩
  have hdd : d' = { synS (trmS (trmS E i (g : Int)) (1 - i) ((0 : Nat) : Int)) i with now := (textF L.text L.revs (L.revs.length : Int)).1, sf := L.base + (L.revs.length : Int) } := by rw [← hd', ← hE, ← hg]; rfl
  have cd : ∀ j, datOf d' j = datOf (trmS (trmS E i (g : Int)) (1 - i) ((0 : Nat) : Int)) j := fun j => by rw [hdd]; exact s2 j
  refine ⟨d', hd', by rw [cd, q3, p2, ed], ?_, by rw [cd, q2]; rfl, ?_, by rw [hdd, ← hE]; rfl, by rw [hdd, ← hE]; rfl, by rw [hdd, ← hE]; rfl, by rw [hdd]⟩
  · have : safOf d' i = ((datOf (trmS (trmS E i (g : Int)) (1 - i) ((0 : Nat) : Int)) i).length : Int) := by rw [hdd]; exact s3
    rw [this, q3, p2, ed]
  · have : safOf d' (1 - i) = safOf (trmS (trmS E i (g : Int)) (1 - i) ((0 : Nat) : Int)) (1 - i) := by rw [hdd]; exact s4
    rw [this, q4, p5]
    omega
theorem opens_at {a1 b1 : List UInt8} {a2 b2 : Int} (hdk : diskT a1 a2 b1 b2 = 0) {i : Int} (hi : i = 0 ∨ i = 1) {L : LogD} (hr : readL (scanF (if i = 0 then a1 else b1)).1 = (L, 0)) :
    Mch (openD a1 a2 b1 b2 i L) L.revs (ropenD a1 b1 i L) (textsF L.text L.revs).1 := by
  have hgl := good_len (if i = 0 then a1 else b1)
  rw [hr] at hgl
  have hgl : 0 ≤ L.good ∧ L.good ≤ ((if i = 0 then a1 else b1).length : Int) := hgl
  obtain ⟨g, hg⟩ : ∃ g : Nat, L.good = (g : Int) := ⟨L.good.toNat, by omega⟩
  obtain ⟨⟨now, hin⟩, hhd⟩ := readL_in (fs := (scanF (if i = 0 then a1 else b1)).1) (by rw [hr])
  rw [hr] at hin hhd
  have hch : chainOk L.base L.first 0 L.text L.revs := hin.ch
  have htb : L.table = tabG L.first L.base L.revs := hin.tb
  have hbb := hhd.b
  have htx : L.text.length ≤ 500 := hhd.tx
  unfold inR at hbb
  have hbb : 0 ≤ L.base ∧ L.base ≤ 2147483647 := hbb
  obtain ⟨v1, v2, v3, v4⟩ := revs_ok hch
  obtain ⟨d', hd', k1, k2, k3, k4, k5, k6, k7, k8⟩ := openD_disk hdk hi hg (by omega)
  rw [hd']
  have hgn : L.good.toNat = g := by omega
  have hb : (ropenD a1 b1 i L).b = L.base := by unfold ropenD; split <;> rfl
  have hf : (ropenD a1 b1 i L).fs = L.first := by unfold ropenD; split <;> rfl
  have hs : (ropenD a1 b1 i L).sf = L.base + (L.revs.length : Int) := by unfold ropenD; split <;> rfl
  have hx : d'.x1 = (ropenD a1 b1 i L).x1 ∧ d'.x2 = (ropenD a1 b1 i L).x2 ∧ d'.x3 = (ropenD a1 b1 i L).x3 ∧ d'.x4 = (ropenD a1 b1 i L).x4 := by
    unfold ropenD
    rw [hgn]
    rcases hi with rfl | rfl
    · exact ⟨k1, k2, k3, k4⟩
    · exact ⟨k3, k4, k1, k2⟩
  refine ⟨hx.1, hx.2.1, hx.2.2.1, hx.2.2.2, by rw [k5, hb], by rw [k8, hs], by rw [k5]; exact hbb, v4, v1, v2, chain_dl hch, fun j _ => by rw [k7, hf, hb, htb], fun a ha => ⟨_, texts_at hch htx a ha, ?_⟩⟩
  have ht : thereT d'.b L.revs.length (d'.b + (a : Int)) = 0 := by
    unfold thereT
    rw [if_neg (by omega), if_neg (by omega)]
  have e : d'.b + (a : Int) - d'.b = (a : Int) := by omega
  unfold stextT
  rw [if_neg (fun x => x ht), e, k6, text_at hch htx a ha]
theorem opens_same (a1 : List UInt8) (a2 : Int) (b1 : List UInt8) (b2 : Int) : (openF a1 a2 b1 b2).e = (ropenF a1 a2 b1 b2).e ∧ ((openF a1 a2 b1 b2).e = 0 → (ropenF a1 a2 b1 b2).l = (openF a1 a2 b1 b2).l ∧ Mch (openF a1 a2 b1 b2).d (openF a1 a2 b1 b2).l (ropenF a1 a2 b1 b2).d (ropenF a1 a2 b1 b2).tx) := by
  unfold openF ropenF
  by_cases hc : diskT a1 a2 b1 b2 ≠ 0
  · rw [if_pos hc, if_pos hc]
    exact ⟨rfl, fun h => absurd h hc⟩
  rw [if_neg hc, if_neg hc]
  have hdk : diskT a1 a2 b1 b2 = 0 := Decidable.of_not_not hc
  obtain ⟨LA, eA, hA⟩ : ∃ L e, readL (scanF a1).1 = (L, e) := ⟨_, _, rfl⟩
  obtain ⟨LB, eB, hB⟩ : ∃ L e, readL (scanF b1).1 = (L, e) := ⟨_, _, rfl⟩
  have mA : goodL (LA, eA) → Mch (openD a1 a2 b1 b2 0 LA) LA.revs (ropenD a1 b1 0 LA) (textsF LA.text LA.revs).1 := fun g => opens_at hdk (.inl rfl) (by rw [if_pos rfl, hA]; exact congrArg (fun e => (LA, e)) g.1)
  have mB : goodL (LB, eB) → Mch (openD a1 a2 b1 b2 1 LB) LB.revs (ropenD a1 b1 1 LB) (textsF LB.text LB.revs).1 := fun g => opens_at hdk (.inr rfl) (by rw [if_neg (by decide), hB]; exact congrArg (fun e => (LB, e)) g.1)
  rw [hA, hB]
  unfold openG ropenG
  by_cases gA : goodL (LA, eA)
  · rw [if_pos gA, if_pos gA]
    by_cases gB : goodL (LB, eB) ∧ LA.gen < LB.gen
    · rw [if_pos gB, if_pos gB]
      exact ⟨rfl, fun _ => ⟨rfl, mB gB.1⟩⟩
    · rw [if_neg gB, if_neg gB]
      exact ⟨rfl, fun _ => ⟨rfl, mA gA⟩⟩
  · rw [if_neg gA, if_neg gA]
    by_cases gB : goodL (LB, eB)
    · rw [if_pos gB, if_pos gB]
      exact ⟨rfl, fun _ => ⟨rfl, mB gB⟩⟩
    · rw [if_neg gB, if_neg gB]
      exact ⟨rfl, fun h => absurd (show (12 : Int) = 0 from h) (by decide)⟩
def ac_lsop : AC := .seq (.region false [
    ⟨some 1, none, .box 26 4 (.t 0)⟩,
    ⟨some 2, none, .mov (.c (.bool false))⟩])
  (.seq (.region false [
    ⟨some 8, none, .loadn 4 (.t 1)⟩,
    ⟨some 9, none, .call 7 [(.t 8)]⟩,
    ⟨some 7, none, .mov (.t 9)⟩,
    ⟨some 10, none, .ext 0 (.t 7)⟩,
    ⟨some 11, none, .ext 1 (.t 7)⟩,
    ⟨some 3, none, .mov (.t 10)⟩,
    ⟨some 4, none, .mov (.t 11)⟩])
  (.seq (.region false [
    ⟨some 13, none, .loadn 4 (.t 1)⟩,
    ⟨some 14, none, .call 8 [(.t 13)]⟩,
    ⟨some 12, none, .mov (.t 14)⟩,
    ⟨some 15, none, .ext 0 (.t 12)⟩,
    ⟨some 16, none, .ext 1 (.t 12)⟩,
    ⟨some 5, none, .mov (.t 15)⟩,
    ⟨some 6, none, .mov (.t 16)⟩])
  (.seq (.seq (.region false [
    ⟨some 17, none, .mov (.t 6)⟩,
    ⟨some 18, none, .bin .neq (.t 17) (.c (.int .i64 0))⟩])
  (.cond (.t 18)
    (.seq (.region false [
      ⟨some 19, none, .mov (.t 4)⟩,
      ⟨some 20, none, .mov (.t 6)⟩,
      ⟨some 21, none, .bin .eql (.t 19) (.t 20)⟩,
      ⟨some 22, none, .mov (.t 21)⟩,
      ⟨some 23, some (22, true), .mov (.t 3)⟩,
      ⟨some 24, some (22, true), .eqp false (.t 23) (.c (.pointer none))⟩,
      ⟨some 25, none, .pick (.t 22) (.t 24) (.c (.bool false))⟩,
      ⟨some 2, none, .mov (.t 25)⟩])
    (.ret))
    (.skip)))
  (.seq (.region false [
    ⟨some 26, none, .mov (.t 4)⟩,
    ⟨some 27, none, .bin .eql (.t 26) (.c (.int .i64 0))⟩,
    ⟨some 28, none, .mov (.t 27)⟩,
    ⟨some 29, some (28, true), .mov (.t 3)⟩,
    ⟨some 30, some (28, true), .eqp true (.t 29) (.c (.pointer none))⟩,
    ⟨some 31, none, .pick (.t 28) (.t 30) (.c (.bool false))⟩,
    ⟨some 32, none, .mov (.t 31)⟩,
    ⟨some 33, some (32, true), .mov (.t 3)⟩,
    ⟨some 34, some (32, true), .mov (.t 5)⟩,
    ⟨some 35, some (32, true), .call 9 [(.t 33), (.t 34)]⟩,
    ⟨some 36, none, .pick (.t 32) (.t 35) (.c (.bool false))⟩,
    ⟨some 2, none, .mov (.t 36)⟩])
  (.ret)))))
theorem ok_lsop : FnOk Try.prog 3 Try.f3 ac_lsop [.t 2] 1 drawD := ⟨Try.func3, by decide +kernel, by kernel_rfl, by kernel_rfl, by decide +kernel⟩
theorem n5_900 : N5 900 1000900 901 930 := ⟨by decide, by decide, by decide, by decide, by decide, by decide, ⟨rfl, rfl, rfl, rfl, rfl, rfl, rfl, rfl, rfl⟩, by decide⟩
theorem vc_lsop (P : Prim) (hP : P = std) (T T1 : CallT) (hopen : SOpenC T) (hropen : ROpenC T) (hseen : SeenC T) (a1 : List UInt8) (a2 : Int) (b1 : List UInt8) (b2 : Int)
    (R : S → Prop) (hR : ∀ s s' b, b = true → Ent s s' → Ret [.t 2] [.bool b] s' → R s) : awp P T T1 ac_lsop (S0 [.agg [.str a1, .int .i64 a2, .str b1, .int .i64 b2]] Hp.emp) R (fun _ _ => False) R := by
  obtain ⟨h1, h2⟩ := opens_same a1 a2 b1 b2
  have hNN : N3 900 1000900 901 := ⟨rfl, rfl, rfl⟩
  cbv
  repeat' (first
    | (refine And.intro (by first | assumption | decide) ?_; try cbv)
    | (intro β2; try cbv))
  refine hopen 900 1000900 901 a1 a2 b1 b2 _ _ hNN rfl rfl rfl fun d l e hO => ⟨fun he => ?_, fun he bl ba n rows mo hn hrows hmo => ?_⟩
  · rw [← hO] at h1
    have h1 : e = (ropenF a1 a2 b1 b2).e := h1
    cbv
    repeat' (first
      | (refine And.intro (by first | assumption | decide) ?_; try cbv)
      | (intro β3; try cbv))
    refine hropen 930 a1 a2 b1 b2 _ _ rfl fun dr tx l' e' hO' => ⟨fun he' => ?_, fun he' bl2 tr lr htr hlr => ?_⟩
    · rw [← hO'] at h1
      have h1 : e = e' := h1
      cbv
      repeat' (first
        | (refine And.intro (by first | assumption | decide) ?_; try cbv)
        | (intro β3; try cbv))
      refine br_tt (ne_T hP he') ?_
      cbv
      repeat' (first
        | (refine And.intro (by first | assumption | decide) ?_; try cbv)
        | (intro β3; try cbv))
      refine br_tt (eq_T hP h1) ?_
      cbv
      repeat' (first
        | (refine And.intro (by first | assumption | decide) ?_; try cbv)
        | (intro β3; try cbv))
      exact hR _ _ _ rfl (Ent.refl _) rfl
    · rw [← hO'] at h1
      exact absurd (Eq.trans h1 he') he
  · rw [← hO] at h1 h2
    have h1 : e = (ropenF a1 a2 b1 b2).e := h1
    obtain ⟨h3, hM⟩ := h2 he
    have h3 : (ropenF a1 a2 b1 b2).l = l := h3
    cbv
    repeat' (first
      | (refine And.intro (by first | assumption | decide) ?_; try cbv)
      | (intro β3; try cbv))
    refine hropen 930 a1 a2 b1 b2 _ _ rfl fun dr tx l' e' hO' => ⟨fun he' => ?_, fun he' bl2 tr lr htr hlr => ?_⟩
    · rw [← hO'] at h1
      exact absurd (Eq.trans (Eq.symm h1) he) he'
    · rw [← hO'] at h3 hM
      have h3 : l' = l := h3
      have hM : Mch d l dr tx := hM
      subst h3
      cbv
      repeat' (first
        | (refine And.intro (by first | assumption | decide) ?_; try cbv)
        | (intro β3; try cbv))
      refine br_ff (ne_F hP rfl) ?_
      cbv
      repeat' (first
        | (refine And.intro (by first | assumption | decide) ?_; try cbv)
        | (intro β3; try cbv))
      refine br_tt (eq_T hP rfl) ?_
      cbv
      repeat' (first
        | (refine And.intro (by first | assumption | decide) ?_; try cbv)
        | (intro β3; try cbv))
      refine hseen 900 1000900 901 930 bl bl2 d ba n rows l' .nil 0 none dr tx tr lr _ _ n5_900 hn hrows rfl htr hlr hM rfl rfl rfl ?_
      cbv
      repeat' (first
        | (refine And.intro (by first | assumption | decide) ?_; try cbv)
        | (intro β3; try cbv))
      exact hR _ _ _ rfl (Ent.refl _) rfl
theorem sp_law_shopOpens (d : Disk) (_ : d.Ok) : Spec Try.prog 3 [.agg (encDisk d)] Hp.emp (Is (.bool true)) :=
  spec_pure dOk ok_lsop [.bool true] (.bool _) fun R hR => vc_lsop std rfl _ _ sopenC ropenC seenC d.a.data d.a.safe d.b.data d.b.safe R fun s s' b hb he hr => by subst hb; exact hR s s' he hr
end Go.Proofs.Ytobngncjflogcaa.AM
