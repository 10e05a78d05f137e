/-
  Texts of the plain machine, put together: what the law TopKeep reaches.
-/
import Derived.Test.YtobngncjflogcaaTopKeep10
import Derived.Test.YtobngncjflogcaaTopKeep6
set_option linter.unusedVariables false
set_option linter.unusedSimpArgs false
namespace Go.Proofs.Ytobngncjflogcaa.AM
open Go Go.RowKit
set_option maxRecDepth 100000
set_option maxHeartbeats 2000000
def datOf (d : SC) (i : Int) : List UInt8 := if i = 0 then d.x1 else d.x3
def step3 (d : SC) (L : LogD) : StR := ⟨{ synS d (1 - d.at') with at' := 1 - d.at', gn := L.gen, b := L.base, tx := L.text, fs := L.first, tb := L.table, wh := L.whole, gd := L.good, sf := L.base + (L.revs.length : Int), old := true }, L.revs, none, true⟩
theorem vc_sstep3 (P : Prim) (hP : P = std) (T T1 : CallT) (hsyn : SSynC T) (hrd : HReadC T) (hhd : SHeadC T) (bl : Nat) (d : SC) (ba : Option Nat) (n : Nat) (rows : List (List V)) (bm : Nat) (f c : Int) (hc : 0 ≤ c) (hat : d.at' = 0 ∨ d.at' = 1)
    (hlen : (datOf (synS d (1 - d.at')) (1 - d.at')).length ≤ 1048576) (L : LogD) (hL : readL (scanF (datOf (synS d (1 - d.at')) (1 - d.at'))).1 = (L, 0)) (hLb : 0 ≤ L.base ∧ L.base ≤ 4294967295) (hLn : L.revs.length ≤ 1000)
    (hhd1 : SHeadC T1)
    (R : S → Prop) (hR : ∀ (s s' : S) (d' : SC) (ba' : Option Nat) (n' : Nat) (rows' : List (List V)), n' = L.revs.length → rows' = L.revs.map encRev → ⟨d', L.revs, none, true⟩ = step3 d L → Ent s s' → Ret [.t 2] [.bool true] s' → agreeH (S3 bl d' ba' n' rows' bm none) s' → R s) : awp P T T1 ac_sstep (S0 [.ptr 0 (some bl) 47 0 0] (lookH (S3 bl d ba n rows bm (some ⟨f, c, true⟩)))) R (fun _ _ => False) R := by
  have m1 : P.i64 (P.sub 1 d.at') := by rw [sub_eq hP]; exact i64I hP (by omega)
  have m2 : P.sub 1 d.at' = 1 - d.at' := sub_eq hP _ _
  have q1 : P.leP 0 (P.sub 1 d.at') := le0 hP (by rw [m2]; omega)
  have q2 : P.ltP (P.sub 1 d.at') 2 := ltI hP (by rw [m2]; omega)
  cbv
  repeat' (first
    | (refine And.intro (by first | assumption | decide) ?_; try cbv)
    | (intro β2; try cbv))
  refine br_cases (fun g => ?_) (fun g => ?_)
  · exact absurd (lt_t hP g) (by omega)
  cbv
  repeat' (first
    | (refine And.intro (by first | assumption | decide) ?_; try cbv)
    | (intro β2; try cbv))
  refine hsyn 0 bl d (.own 1000001 ba 3 n) (.ptr 1 (some bm) 3 0 0) _ _ _ ⟨⟨.own _ _ _ _, rfl⟩, .ptr _ _ _ _ _, rfl⟩ rfl rfl rfl fun d2 hd2 => ?_
  have hd2 : d2 = synS d (P.sub 1 d.at') := hd2
  rw [m2] at hd2
  cbv
  repeat' (first
    | (refine And.intro (by first | assumption | decide) ?_; try cbv)
    | (intro β2; try cbv))
  rcases hat with hat | hat
  · have hN : P.nat (P.sub 1 d.at') = 1 := by rw [m2, hat]; subst hP; rfl
    have hdat : datOf (synS d (1 - d.at')) (1 - d.at') = d2.x3 := by rw [← hd2, hat]; rfl
    rw [hdat] at hlen hL
    refine ⟨1, hN, ?_⟩
    cbv
    repeat' (first
      | (refine And.intro (by first | assumption | decide) ?_; try cbv)
      | (intro β5; try cbv))
    refine hrd 1000033 _ _ _ hlen rfl fun L' e ba' n' rows' hLe hn' hrows' => ?_
    have hLe : (L', e) = readL (scanF d2.x3).1 := hLe
    rw [hL] at hLe
    obtain ⟨rfl, rfl⟩ : L' = L ∧ e = 0 := ⟨congrArg Prod.fst hLe, congrArg Prod.snd hLe⟩
    refine ⟨fun _ => ?_, fun he => absurd rfl he, fun he => absurd rfl he⟩
    cbv
    repeat' (first
      | (refine And.intro (by first | assumption | decide) ?_; try cbv)
      | (intro β5; try cbv))
    refine hhd 0 bl { d2 with gn := L'.gen, b := L'.base, tx := L'.text, fs := L'.first, tb := L'.table, wh := L'.whole, gd := L'.good } 1000033 ba' n' (.ptr 1 (some bm) 3 0 0) _ _ hLb (by rw [hn']; exact hLn) ⟨.ptr _ _ _ _ _, rfl⟩ rfl rfl rfl fun q hq => ?_
    have hq2 : q = L'.base + (L'.revs.length : Int) := by rw [hq, hn']
    cbv
    repeat' (first
      | (refine And.intro (by first | assumption | decide) ?_; try cbv)
      | (intro β5; try cbv))
    refine hR _ _ { d2 with at' := P.sub 1 d.at', gn := L'.gen, b := L'.base, tx := L'.text, fs := L'.first, tb := L'.table, wh := L'.whole, gd := L'.good, sf := q, old := true } ba' n' rows' hn' hrows' (by rw [hd2, hq2, m2]; rfl)
      (Ent.trans (Ent.nilOb _ 999 124 3) (Ent.renL [(0, 0, obSh bl (rowS { d2 with at' := P.sub 1 d.at', gn := L'.gen, b := L'.base, tx := L'.text, fs := L'.first, tb := L'.table, wh := L'.whole, gd := L'.good, sf := q, old := true } (.own 1000001 ba' 3 n') .nil)), (1000001, 1000033, obV ba' rows'), (1, 999, obMv bm none)] (by show ([0, 1000033, 999] : List Nat).Nodup; decide) ⟨⟨_, rfl, rfl, rfl⟩, ⟨_, rfl, rfl, rfl⟩, ⟨_, rfl, rfl, rfl⟩, trivial⟩)) rfl ⟨rfl, rfl, rfl, trivial⟩
  · have hN : P.nat (P.sub 1 d.at') = 0 := by rw [m2, hat]; subst hP; rfl
    have hdat : datOf (synS d (1 - d.at')) (1 - d.at') = d2.x1 := by rw [← hd2, hat]; rfl
    rw [hdat] at hlen hL
    refine ⟨0, hN, ?_⟩
    cbv
    repeat' (first
      | (refine And.intro (by first | assumption | decide) ?_; try cbv)
      | (intro β5; try cbv))
    refine hrd 1000033 _ _ _ hlen rfl fun L' e ba' n' rows' hLe hn' hrows' => ?_
    have hLe : (L', e) = readL (scanF d2.x1).1 := hLe
    rw [hL] at hLe
    obtain ⟨rfl, rfl⟩ : L' = L ∧ e = 0 := ⟨congrArg Prod.fst hLe, congrArg Prod.snd hLe⟩
    refine ⟨fun _ => ?_, fun he => absurd rfl he, fun he => absurd rfl he⟩
    cbv
    repeat' (first
      | (refine And.intro (by first | assumption | decide) ?_; try cbv)
      | (intro β5; try cbv))
    refine hhd 0 bl { d2 with gn := L'.gen, b := L'.base, tx := L'.text, fs := L'.first, tb := L'.table, wh := L'.whole, gd := L'.good } 1000033 ba' n' (.ptr 1 (some bm) 3 0 0) _ _ hLb (by rw [hn']; exact hLn) ⟨.ptr _ _ _ _ _, rfl⟩ rfl rfl rfl fun q hq => ?_
    have hq2 : q = L'.base + (L'.revs.length : Int) := by rw [hq, hn']
    cbv
    repeat' (first
      | (refine And.intro (by first | assumption | decide) ?_; try cbv)
      | (intro β5; try cbv))
    refine hR _ _ { d2 with at' := P.sub 1 d.at', gn := L'.gen, b := L'.base, tx := L'.text, fs := L'.first, tb := L'.table, wh := L'.whole, gd := L'.good, sf := q, old := true } ba' n' rows' hn' hrows' (by rw [hd2, hq2, m2]; rfl)
      (Ent.trans (Ent.nilOb _ 999 124 3) (Ent.renL [(0, 0, obSh bl (rowS { d2 with at' := P.sub 1 d.at', gn := L'.gen, b := L'.base, tx := L'.text, fs := L'.first, tb := L'.table, wh := L'.whole, gd := L'.good, sf := q, old := true } (.own 1000001 ba' 3 n') .nil)), (1000001, 1000033, obV ba' rows'), (1, 999, obMv bm none)] (by show ([0, 1000033, 999] : List Nat).Nodup; decide) ⟨⟨_, rfl, rfl, rfl⟩, ⟨_, rfl, rfl, rfl⟩, ⟨_, rfl, rfl, rfl⟩, trivial⟩)) rfl ⟨rfl, rfl, rfl, trivial⟩
def shStep (d : SC) (l : List Rev) : Option Mv → StR
  | none => step0 d l
  | some m => if m.c < 0 then step1 d l m.f m.w (headF (d.gn + 1) m.f (stextT d l m.f).1 (tabG d.fs d.b (l.take (m.f - d.b).toNat))).1
    else if m.w = false then step2 d l m.f m.c (fun r => (revF r).1) (putFr 3 []).1
    else step3 d (readL (scanF (datOf (synS d (1 - d.at')) (1 - d.at'))).1).1
structure ShOk (d : SC) (l : List Rev) : Prop where
  at' : d.at' = 0 ∨ d.at' = 1
  b : 0 ≤ d.b ∧ d.b ≤ 2147483647
  gn : 0 ≤ d.gn ∧ d.gn ≤ 4294967295
  len : l.length ≤ 64
  rv : RevsOk l
  who : ∀ r ∈ l, 0 ≤ r.who ∧ r.who ≤ 7
  dl : ∀ r ∈ l, r.delta.length ≤ 1000000000
structure StepOk (d : SC) (l : List Rev) (m : Option Mv) : Prop extends ShOk d l where
  mv : ∀ f c w, m = some ⟨f, c, w⟩ → (d.b ≤ f ∧ f ≤ d.b + (l.length : Int)) ∧ c ≤ 4294967295 ∧ (0 ≤ c → w = true → (datOf (synS d (1 - d.at')) (1 - d.at')).length ≤ 1048576 ∧ (readL (scanF (datOf (synS d (1 - d.at')) (1 - d.at'))).1).2 = 0 ∧
    (0 ≤ (readL (scanF (datOf (synS d (1 - d.at')) (1 - d.at'))).1).1.base ∧ (readL (scanF (datOf (synS d (1 - d.at')) (1 - d.at'))).1).1.base ≤ 2147483647) ∧ (readL (scanF (datOf (synS d (1 - d.at')) (1 - d.at'))).1).1.revs.length ≤ 64)
theorem stext_len (d : SC) (l : List Rev) (j : Int) (hd : d.tx.length ≤ maxLen) : (stextT d l j).1.length ≤ maxLen := by
  have hm : (500 : Nat) ≤ maxLen := by decide
  unfold stextT
  split
  · exact Nat.zero_le _
  · unfold textF
    split
    · exact Nat.zero_le _
    · rename_i h
      have h2 := textsF_ok (Decidable.of_not_not h)
      split
      · exact Nat.zero_le _
      · rw [h2.2.2.2.1]
        simp only
        have h3 : ∀ (l : List Rev) (now : List UInt8), now.length ≤ 500 → (goT now l).2 = 0 → ∀ i, ((now :: (goT now l).1).getD i []).length ≤ 500 := by
          intro l
          induction l with
          | nil => intro now hn _ i; cases i with | zero => exact hn | succ i => simp [goT]
          | cons r l ih =>
            intro now hn hg i
            cases i with
            | zero => exact hn
            | succ i =>
              obtain ⟨_, c2, c3, c4⟩ := goT_cons hg
              rw [c4, List.getD_cons_succ]
              refine ih _ ?_ c3 i
              obtain ⟨k1, _, k3, _⟩ := doF_chain c2
              have := checkF_all k1
              have := out_of k1
              omega
        exact Nat.le_trans (h3 l d.tx h2.1 h2.2.2.1 _) hm
theorem sp_sstep (bl : Nat) (d : SC) (ba : Option Nat) (l : List Rev) (bm : Nat) (m : Option Mv) (hok : StepOk d l m) (htx : d.tx.length ≤ maxLen) : Spec Try.prog 24 [.ptr 0 (some bl) 47 0 0] (lookH (S3 bl d ba l.length (l.map encRev) bm m))
    fun x h' => ∃ L', (∃ ba' bm' d' l' m', (∃ v, x = .bool v ∧ ⟨d', l', m', v⟩ = shStep d l m) ∧ L' = S3 bl d' ba' l'.length (l'.map encRev) bm' m') ∧ h' = lookH L' := by
  have hb := hok.b
  have hb2 : 0 ≤ d.b ∧ d.b ≤ 4294967295 := ⟨hb.1, by omega⟩
  have hn2 : l.length ≤ 1000 := Nat.le_trans hok.len (by decide)
  refine spec_meth dOk ok_sstep (L := S3 bl d ba l.length (l.map encRev) bm m) (fun x L' => ∃ ba' bm' d' l' m', (∃ v, x = .bool v ∧ ⟨d', l', m', v⟩ = shStep d l m) ∧ L' = S3 bl d' ba' l'.length (l'.map encRev) bm' m') fun R hR => ?_
  obtain _ | ⟨f, c, w⟩ := m
  · exact vc_sstep0 std rfl _ _ strmC bl d ba l l.length (l.map encRev) bm hok.at' R fun s s' d' v hd he hr ha => hR s s' (.bool v) _ he (resV_mono _ _ _ (fun x hx => by rw [hx]; rfl) hr) ha (.bool _) S3_fz ⟨ba, bm, d', l, none, ⟨v, rfl, hd⟩, rfl⟩
  · obtain ⟨hf, hc2, hw⟩ := hok.mv f c w rfl
    by_cases hc : c < 0
    · have hst : shStep d l (some ⟨f, c, w⟩) = step1 d l f w (headF (d.gn + 1) f (stextT d l f).1 (tabG d.fs d.b (l.take (f - d.b).toNat))).1 := by
        show (if c < 0 then _ else _) = _
        rw [if_pos hc]
      exact vc_sstep1 std rfl _ _ strmC sputC stextE stabP bl d ba l hok.rv l.length rfl (l.map encRev) rfl bm f c w hc hok.at' hb2 hn2 hok.who hf hok.gn (headF (d.gn + 1) f (stextT d l f).1 (tabG d.fs d.b (l.take (f - d.b).toNat))).1 (headF (d.gn + 1) f (stextT d l f).1 (tabG d.fs d.b (l.take (f - d.b).toNat))).2 (by have := headF_len (d.gn + 1) f (stextT d l f).1 (tabG d.fs d.b (l.take (f - d.b).toNat)); omega)
        (fun x tb g hx htb hg => by subst hx htb hg; exact ansP (sp_hhead (d.gn + 1) f _ (stext_len d l f htx) _) (fun _ => .cons (.same _) (.cons (.same _) (.cons (.same _) (.cons (.same _) .nil)))) rfl) R
        fun s s' d' hd he hr ha => hR s s' (.bool true) _ he (resV_mono _ _ _ (fun x hx => by rw [hx]; rfl) hr) ha (.bool _) S3_fz ⟨ba, bm, d', l, some ⟨f, 0, w⟩, ⟨true, rfl, by rw [hst]; exact hd⟩, rfl⟩
    · cases w with
      | false =>
        have hst : shStep d l (some ⟨f, c, false⟩) = step2 d l f c (fun r => (revF r).1) (putFr 3 []).1 := by
          show (if c < 0 then _ else _) = _
          rw [if_neg hc, if_pos rfl]
        exact vc_sstep2 std rfl _ _ sputC sheadP bl d ba l l.length rfl (l.map encRev) rfl bm f c ⟨by omega, hc2⟩ hok.at' hb2 hn2 hf (fun r => (revF r).1) (fun r => (revF r).2) (fun r => by have := revF_len r; omega) (putFr 3 []).1 (by have := putFr_len 3 []; omega)
          (fun r hr => ansP (sp_hrevT r (hok.rv.2 r hr).2.2) (fun h => .cons (by
            obtain ⟨a1, a2⟩ := arg_agg (h := h) (m := []) (l := [.int .i64 r.who, .int .i64 r.seq, .sl false 3 (r.delta.map encPart)]) (l' := encRevT r) (.cons (.same _) (.cons (.same _) (.cons (.weak _ _) .nil)))
            exact .agg _ _ a1 a2) .nil) rfl) (ansSame sp_hdone rfl rfl) R
          fun s s' d' m' hd he hr ha => hR s s' (.bool true) _ he (resV_mono _ _ _ (fun x hx => by rw [hx]; rfl) hr) ha (.bool _) S3_fz ⟨ba, bm, d', l, some m', ⟨true, rfl, by rw [hst]; exact hd⟩, rfl⟩
      | true =>
        obtain ⟨w1, w2, w3, w4⟩ := hw (by omega) rfl
        obtain ⟨L, hL⟩ : ∃ L, (readL (scanF (datOf (synS d (1 - d.at')) (1 - d.at'))).1).1 = L := ⟨_, rfl⟩
        have hst : shStep d l (some ⟨f, c, true⟩) = step3 d L := by
          show (if c < 0 then _ else _) = _
          rw [if_neg hc, if_neg (by simp), hL]
        rw [hL] at w3 w4
        exact vc_sstep3 std rfl _ _ ssynC hreadC sheadE bl d ba l.length (l.map encRev) bm f c (by omega) hok.at' w1 L (Prod.ext hL w2) ⟨w3.1, by omega⟩ (by omega) sheadP R
          fun s s' d' ba' n' rows' hn' hrows' hd he hr ha => by
            subst hn' hrows'
            exact hR s s' (.bool true) _ he (resV_mono _ _ _ (fun x hx => by rw [hx]; rfl) hr) ha (.bool _) S3_fz ⟨ba', bm, d', L.revs, none, ⟨true, rfl, by rw [hst]; exact hd⟩, rfl⟩
end Go.Proofs.Ytobngncjflogcaa.AM

set_option linter.unusedVariables false
set_option linter.unusedSimpArgs false
namespace Go.Proofs.Ytobngncjflogcaa.AM
open Go Go.RowKit
set_option maxRecDepth 100000
set_option maxHeartbeats 2000000
def put2 (d : SC) (m : Option Mv) (t : List UInt8) : SC := match m with
  | none => putS d d.at' t
  | some m => if m.w = true then putS (putS d d.at' t) (1 - d.at') t else putS d d.at' t
theorem vc_saddN (P : Prim) (hP : P = std) (T T1 : CallT) (hpre : ∀ f vs h h' K, HEnt h h' → T f vs h' K → T f vs h K) (hput : SPutC T) (hadd : HAddC T) (hhd : SHeadC T) (bl bm : Nat) (d : SC) (ba : Option Nat) (l : List Rev) (n : Nat) (hn : n = l.length) (rows : List (List V)) (hrows : rows = l.map encRev) (hat : d.at' = 0 ∨ d.at' = 1)
    (r : Rev) (w q : Int) (dr : List (List V)) (hwq : w = r.who ∧ q = r.seq ∧ dr = r.delta.map encPart) (hdz : ∀ x ∈ dr, ∀ v ∈ x, Fz v) (hb : 0 ≤ d.b ∧ d.b ≤ 2147483647)
    (e1 : Int) (hdl : e1 = 0 → dr.length ≤ 1000000000) (h1 : ∀ (h : Hp) (K : V → Hp → Prop), h 1000001 = some ⟨ba, 45, 3, rows⟩ → K (.int .i64 e1) h → T1 60 [.agg [.int .i64 d.gn, .int .i64 d.b, .str d.tx, .int .i64 (d.fs 0), .int .i64 (d.fs 1), .int .i64 (d.fs 2), .int .i64 (d.fs 3), .int .i64 (d.fs 4), .int .i64 (d.fs 5), .int .i64 (d.fs 6), .int .i64 (d.fs 7), .int .i64 (d.fs 8), .int .i64 (d.fs 9), .int .i64 (d.fs 10), .int .i64 (d.fs 11), .int .i64 (d.fs 12), .int .i64 (d.fs 13), .int .i64 (d.fs 14), .int .i64 (d.fs 15), .int .i64 (d.tb 0), .int .i64 (d.tb 1), .int .i64 (d.tb 2), .int .i64 (d.tb 3), .int .i64 (d.tb 4), .int .i64 (d.tb 5), .int .i64 (d.tb 6), .int .i64 (d.tb 7), .int .i64 (d.tb 8), .int .i64 (d.tb 9), .int .i64 (d.tb 10), .int .i64 (d.tb 11), .int .i64 (d.tb 12), .int .i64 (d.tb 13), .int .i64 (d.tb 14), .int .i64 (d.tb 15), .own 1000001 ba 3 n, .bool d.wh, .int .i64 d.gd], .int .i64 (P.slen d.now), .agg [.int .i64 w, .int .i64 q, .sl false 3 dr]] h K)
    (he1 : e1 = 0 → (0 ≤ r.who ∧ r.who ≤ 7) ∧ l.length < 64) (t : List UInt8) (e : Int) (htl : t.length ≤ 140737488355328)
    (h2 : e1 = 0 → ∀ (k : Nat) (b : Option Nat) (n' : Nat) (h : Hp) (K : V → Hp → Prop), n' = dr.length → h k = some ⟨b, 108, 3, dr⟩ → K (.tup [.str t, .int .i64 e]) h → T 61 [.agg [.int .i64 w, .int .i64 q, .own k b 3 n']] h K)
    (u : List UInt8) (f : Int) (h3 : e1 = 0 → Ans T1 16 [.sl false 3 dr, .str d.now] (.tup [.str u, .int .i64 f]))
    (Y : AddR) (hY : Y = (if e1 ≠ 0 then ⟨d, l, 0, e1⟩ else if e ≠ 0 then ⟨d, l, 0, e⟩ else ⟨addD { put2 d (none : Option Mv) t with now := u } l r, l ++ [r], d.b + (l.length + 1 : Nat), 0⟩))
    (R : S → Prop) (hR : ∀ s s' ba' n' rows', n' = Y.l.length → rows' = Y.l.map encRev → Ent s s' → Ret [.t 4, .t 5] [.int .i64 Y.v, .int .i64 Y.e] s' → agreeH (S3 bl Y.d ba' n' rows' bm (none : Option Mv)) s' → R s) :
    awp P T T1 ac_sadd (S0 [.ptr 0 (some bl) 47 0 0, .agg [.int .i64 w, .int .i64 q, .sl false 3 dr]] (lookH (S3 bl d ba n rows bm (none : Option Mv)))) R (fun _ _ => False) R := by
  have f2 : dr.length = P.rlenN dr := by subst hP; rfl
  have m1 : P.i64 (P.sub 1 d.at') := by rw [sub_eq hP]; exact i64I hP (by omega)
  have m2 : P.sub 1 d.at' = 1 - d.at' := sub_eq hP _ _
  cbv
  repeat' (first
    | (refine And.intro (by first | assumption | decide) ?_; try cbv)
    | (intro β2; try cbv))
  refine h1 _ _ rfl ?_
  cbv
  repeat' (first
    | (refine And.intro (by first | assumption | decide) ?_; try cbv)
    | (intro β2; try cbv))
  refine br_cases (fun g => ?_) (fun g => ?_)
  · have g1 : e1 ≠ 0 := ne_t hP g
    rw [if_pos g1] at hY
    cbv
    repeat' (first
    | (refine And.intro (by first | assumption | decide) ?_; try cbv)
    | (intro β2; try cbv))
    subst hY
    exact hR _ _ ba n rows hn hrows (Ent.refl _) rfl ⟨rfl, rfl, rfl, trivial⟩
  have g1 : e1 = 0 := ne_f hP g
  rw [if_neg (fun hh => hh g1)] at hY
  obtain ⟨hw, hl64⟩ := he1 g1
  have hdl := hdl g1
  have f1 : P.bytes (P.rlen dr) 32 := by subst hP; show (dr.length : Int) * 32 ≤ _; ((try simp only [nc] at *); omega)
  cbv
  repeat' (first
    | (refine And.intro (by first | assumption | decide) ?_; try cbv)
    | (intro β2; try cbv))
  refine h2 g1 1000025 _ _ _ _ f2.symm rfl ?_
  cbv
  repeat' (first
    | (refine And.intro (by first | assumption | decide) ?_; try cbv)
    | (intro β2; try cbv))
  refine br_cases (fun g => ?_) (fun g => ?_)
  · have g2 : e ≠ 0 := ne_t hP g
    rw [if_pos g2] at hY
    cbv
    repeat' (first
    | (refine And.intro (by first | assumption | decide) ?_; try cbv)
    | (intro β2; try cbv))
    subst hY
    exact hR _ _ ba n rows hn hrows (Ent.refl _) rfl ⟨rfl, rfl, rfl, trivial⟩
  have g2 : e = 0 := ne_f hP g
  rw [if_neg (fun hh => hh g2)] at hY
  cbv
  repeat' (first
    | (refine And.intro (by first | assumption | decide) ?_; try cbv)
    | (intro β2; try cbv))
  refine hpre _ _ _ _ _ (HEnt.frzC (k := 1000025) (q := 3) (c := 2) rfl rfl rfl rfl rfl rfl f2 hdz) ?_
  refine hput 0 bl d (.own 1000001 ba 3 n) .nil _ _ _ _ htl ⟨⟨.own _ _ _ _, rfl⟩, .nil, rfl⟩ rfl rfl rfl fun d0 hd0 => ?_
  obtain ⟨d1, hd1⟩ : ∃ d1, d1 = d0 := ⟨_, rfl⟩
  rw [← hd1]
  rw [hd0] at hd1
  have hb1 : d1.b = d.b := by rw [hd1]; rfl
  have hnow1 : d1.now = d.now := by rw [hd1]; rfl
  have h3' : Ans T1 16 [.sl false 3 dr, .str d1.now] (.tup [.str u, .int .i64 f]) := by rw [hnow1]; exact h3 g1
  cbv
  repeat' (first
    | (refine And.intro (by first | assumption | decide) ?_; try cbv)
    | (intro β2; try cbv))
  refine h3' _ _ ?_
  cbv
  repeat' (first
    | (refine And.intro (by first | assumption | decide) ?_; try cbv)
    | (intro β2; try cbv))
  refine hadd 0 1000001 bl { d1 with now := u } ba n rows l .nil w q dr r _ _ hrows hn (by omega) hwq hw (by show 0 ≤ d1.b ∧ d1.b ≤ _; rw [hb1]; omega) ⟨⟨.nil, rfl⟩, rfl⟩ rfl rfl rfl rfl fun ba2 d2 n2 rows2 hd2 hn2 hrows2 => ?_
  have hb2 : d2.b = d.b := by rw [hd2]; exact hb1
  cbv
  repeat' (first
    | (refine And.intro (by first | assumption | decide) ?_; try cbv)
    | (intro β2; try cbv))
  refine hhd 0 bl d2 1000001 ba2 n2 .nil _ _ (by rw [hb2]; omega) (by omega) ⟨.nil, rfl⟩ rfl rfl rfl fun v hv => ?_
  cbv
  repeat' (first
    | (refine And.intro (by first | assumption | decide) ?_; try cbv)
    | (intro β2; try cbv))
  have hv2 : v = Y.v := by rw [hY, hv, hb2, hn2]
  have hYd : Y.d = d2 := by rw [hY, hd2, hd1]; rfl
  have hYl : Y.l = l ++ [r] := by rw [hY]
  have hYe : Y.e = 0 := by rw [hY]
  subst hv2
  refine hR _ _ ba2 n2 rows2 (by rw [hYl, hn2]; simp) (by rw [hYl, hrows2]) (Ent.refl _) (by rw [hYe]; rfl) ?_
  rw [hYd]
  exact ⟨rfl, rfl, rfl, trivial⟩
theorem vc_saddF (P : Prim) (hP : P = std) (T T1 : CallT) (hpre : ∀ f vs h h' K, HEnt h h' → T f vs h' K → T f vs h K) (hput : SPutC T) (hadd : HAddC T) (hhd : SHeadC T) (bl bm : Nat) (fm cm : Int) (d : SC) (ba : Option Nat) (l : List Rev) (n : Nat) (hn : n = l.length) (rows : List (List V)) (hrows : rows = l.map encRev) (hat : d.at' = 0 ∨ d.at' = 1)
    (r : Rev) (w q : Int) (dr : List (List V)) (hwq : w = r.who ∧ q = r.seq ∧ dr = r.delta.map encPart) (hdz : ∀ x ∈ dr, ∀ v ∈ x, Fz v) (hb : 0 ≤ d.b ∧ d.b ≤ 2147483647)
    (e1 : Int) (hdl : e1 = 0 → dr.length ≤ 1000000000) (h1 : ∀ (h : Hp) (K : V → Hp → Prop), h 1000001 = some ⟨ba, 45, 3, rows⟩ → K (.int .i64 e1) h → T1 60 [.agg [.int .i64 d.gn, .int .i64 d.b, .str d.tx, .int .i64 (d.fs 0), .int .i64 (d.fs 1), .int .i64 (d.fs 2), .int .i64 (d.fs 3), .int .i64 (d.fs 4), .int .i64 (d.fs 5), .int .i64 (d.fs 6), .int .i64 (d.fs 7), .int .i64 (d.fs 8), .int .i64 (d.fs 9), .int .i64 (d.fs 10), .int .i64 (d.fs 11), .int .i64 (d.fs 12), .int .i64 (d.fs 13), .int .i64 (d.fs 14), .int .i64 (d.fs 15), .int .i64 (d.tb 0), .int .i64 (d.tb 1), .int .i64 (d.tb 2), .int .i64 (d.tb 3), .int .i64 (d.tb 4), .int .i64 (d.tb 5), .int .i64 (d.tb 6), .int .i64 (d.tb 7), .int .i64 (d.tb 8), .int .i64 (d.tb 9), .int .i64 (d.tb 10), .int .i64 (d.tb 11), .int .i64 (d.tb 12), .int .i64 (d.tb 13), .int .i64 (d.tb 14), .int .i64 (d.tb 15), .own 1000001 ba 3 n, .bool d.wh, .int .i64 d.gd], .int .i64 (P.slen d.now), .agg [.int .i64 w, .int .i64 q, .sl false 3 dr]] h K)
    (he1 : e1 = 0 → (0 ≤ r.who ∧ r.who ≤ 7) ∧ l.length < 64) (t : List UInt8) (e : Int) (htl : t.length ≤ 140737488355328)
    (h2 : e1 = 0 → ∀ (k : Nat) (b : Option Nat) (n' : Nat) (h : Hp) (K : V → Hp → Prop), n' = dr.length → h k = some ⟨b, 108, 3, dr⟩ → K (.tup [.str t, .int .i64 e]) h → T 61 [.agg [.int .i64 w, .int .i64 q, .own k b 3 n']] h K)
    (u : List UInt8) (f : Int) (h3 : e1 = 0 → Ans T1 16 [.sl false 3 dr, .str d.now] (.tup [.str u, .int .i64 f]))
    (Y : AddR) (hY : Y = (if e1 ≠ 0 then ⟨d, l, 0, e1⟩ else if e ≠ 0 then ⟨d, l, 0, e⟩ else ⟨addD { put2 d (some ⟨fm, cm, false⟩ : Option Mv) t with now := u } l r, l ++ [r], d.b + (l.length + 1 : Nat), 0⟩))
    (R : S → Prop) (hR : ∀ s s' ba' n' rows', n' = Y.l.length → rows' = Y.l.map encRev → Ent s s' → Ret [.t 4, .t 5] [.int .i64 Y.v, .int .i64 Y.e] s' → agreeH (S3 bl Y.d ba' n' rows' bm (some ⟨fm, cm, false⟩ : Option Mv)) s' → R s) :
    awp P T T1 ac_sadd (S0 [.ptr 0 (some bl) 47 0 0, .agg [.int .i64 w, .int .i64 q, .sl false 3 dr]] (lookH (S3 bl d ba n rows bm (some ⟨fm, cm, false⟩ : Option Mv)))) R (fun _ _ => False) R := by
  have f2 : dr.length = P.rlenN dr := by subst hP; rfl
  have m1 : P.i64 (P.sub 1 d.at') := by rw [sub_eq hP]; exact i64I hP (by omega)
  have m2 : P.sub 1 d.at' = 1 - d.at' := sub_eq hP _ _
  cbv
  repeat' (first
    | (refine And.intro (by first | assumption | decide) ?_; try cbv)
    | (intro β2; try cbv))
  refine h1 _ _ rfl ?_
  cbv
  repeat' (first
    | (refine And.intro (by first | assumption | decide) ?_; try cbv)
    | (intro β2; try cbv))
  refine br_cases (fun g => ?_) (fun g => ?_)
  · have g1 : e1 ≠ 0 := ne_t hP g
    rw [if_pos g1] at hY
    cbv
    repeat' (first
    | (refine And.intro (by first | assumption | decide) ?_; try cbv)
    | (intro β2; try cbv))
    subst hY
    exact hR _ _ ba n rows hn hrows (Ent.refl _) rfl ⟨rfl, rfl, rfl, trivial⟩
  have g1 : e1 = 0 := ne_f hP g
  rw [if_neg (fun hh => hh g1)] at hY
  obtain ⟨hw, hl64⟩ := he1 g1
  have hdl := hdl g1
  have f1 : P.bytes (P.rlen dr) 32 := by subst hP; show (dr.length : Int) * 32 ≤ _; ((try simp only [nc] at *); omega)
  cbv
  repeat' (first
    | (refine And.intro (by first | assumption | decide) ?_; try cbv)
    | (intro β2; try cbv))
  refine h2 g1 1000025 _ _ _ _ f2.symm rfl ?_
  cbv
  repeat' (first
    | (refine And.intro (by first | assumption | decide) ?_; try cbv)
    | (intro β2; try cbv))
  refine br_cases (fun g => ?_) (fun g => ?_)
  · have g2 : e ≠ 0 := ne_t hP g
    rw [if_pos g2] at hY
    cbv
    repeat' (first
    | (refine And.intro (by first | assumption | decide) ?_; try cbv)
    | (intro β2; try cbv))
    subst hY
    exact hR _ _ ba n rows hn hrows (Ent.refl _) rfl ⟨rfl, rfl, rfl, trivial⟩
  have g2 : e = 0 := ne_f hP g
  rw [if_neg (fun hh => hh g2)] at hY
  cbv
  repeat' (first
    | (refine And.intro (by first | assumption | decide) ?_; try cbv)
    | (intro β2; try cbv))
  refine hpre _ _ _ _ _ (HEnt.frzC (k := 1000025) (q := 3) (c := 2) rfl rfl rfl rfl rfl rfl f2 hdz) ?_
  refine hput 0 bl d (.own 1000001 ba 3 n) (.ptr 1 (some bm) 3 0 0) _ _ _ _ htl ⟨⟨.own _ _ _ _, rfl⟩, .ptr _ _ _ _ _, rfl⟩ rfl rfl rfl fun d0 hd0 => ?_
  obtain ⟨d1, hd1⟩ : ∃ d1, d1 = d0 := ⟨_, rfl⟩
  rw [← hd1]
  rw [hd0] at hd1
  have hb1 : d1.b = d.b := by rw [hd1]; rfl
  have hnow1 : d1.now = d.now := by rw [hd1]; rfl
  have h3' : Ans T1 16 [.sl false 3 dr, .str d1.now] (.tup [.str u, .int .i64 f]) := by rw [hnow1]; exact h3 g1
  cbv
  repeat' (first
    | (refine And.intro (by first | assumption | decide) ?_; try cbv)
    | (intro β2; try cbv))
  refine h3' _ _ ?_
  cbv
  repeat' (first
    | (refine And.intro (by first | assumption | decide) ?_; try cbv)
    | (intro β2; try cbv))
  refine hadd 0 1000001 bl { d1 with now := u } ba n rows l (.ptr 1 (some bm) 3 0 0) w q dr r _ _ hrows hn (by omega) hwq hw (by show 0 ≤ d1.b ∧ d1.b ≤ _; rw [hb1]; omega) ⟨⟨.ptr _ _ _ _ _, rfl⟩, rfl⟩ rfl rfl rfl rfl fun ba2 d2 n2 rows2 hd2 hn2 hrows2 => ?_
  have hb2 : d2.b = d.b := by rw [hd2]; exact hb1
  cbv
  repeat' (first
    | (refine And.intro (by first | assumption | decide) ?_; try cbv)
    | (intro β2; try cbv))
  refine hhd 0 bl d2 1000001 ba2 n2 (.ptr 1 (some bm) 3 0 0) _ _ (by rw [hb2]; omega) (by omega) ⟨.ptr _ _ _ _ _, rfl⟩ rfl rfl rfl fun v hv => ?_
  cbv
  repeat' (first
    | (refine And.intro (by first | assumption | decide) ?_; try cbv)
    | (intro β2; try cbv))
  have hv2 : v = Y.v := by rw [hY, hv, hb2, hn2]
  have hYd : Y.d = d2 := by rw [hY, hd2, hd1]; rfl
  have hYl : Y.l = l ++ [r] := by rw [hY]
  have hYe : Y.e = 0 := by rw [hY]
  subst hv2
  refine hR _ _ ba2 n2 rows2 (by rw [hYl, hn2]; simp) (by rw [hYl, hrows2]) (Ent.refl _) (by rw [hYe]; rfl) ?_
  rw [hYd]
  exact ⟨rfl, rfl, rfl, trivial⟩
theorem vc_saddT (P : Prim) (hP : P = std) (T T1 : CallT) (hpre : ∀ f vs h h' K, HEnt h h' → T f vs h' K → T f vs h K) (hput : SPutC T) (hadd : HAddC T) (hhd : SHeadC T) (bl bm : Nat) (fm cm : Int) (d : SC) (ba : Option Nat) (l : List Rev) (n : Nat) (hn : n = l.length) (rows : List (List V)) (hrows : rows = l.map encRev) (hat : d.at' = 0 ∨ d.at' = 1)
    (r : Rev) (w q : Int) (dr : List (List V)) (hwq : w = r.who ∧ q = r.seq ∧ dr = r.delta.map encPart) (hdz : ∀ x ∈ dr, ∀ v ∈ x, Fz v) (hb : 0 ≤ d.b ∧ d.b ≤ 2147483647)
    (e1 : Int) (hdl : e1 = 0 → dr.length ≤ 1000000000) (h1 : ∀ (h : Hp) (K : V → Hp → Prop), h 1000001 = some ⟨ba, 45, 3, rows⟩ → K (.int .i64 e1) h → T1 60 [.agg [.int .i64 d.gn, .int .i64 d.b, .str d.tx, .int .i64 (d.fs 0), .int .i64 (d.fs 1), .int .i64 (d.fs 2), .int .i64 (d.fs 3), .int .i64 (d.fs 4), .int .i64 (d.fs 5), .int .i64 (d.fs 6), .int .i64 (d.fs 7), .int .i64 (d.fs 8), .int .i64 (d.fs 9), .int .i64 (d.fs 10), .int .i64 (d.fs 11), .int .i64 (d.fs 12), .int .i64 (d.fs 13), .int .i64 (d.fs 14), .int .i64 (d.fs 15), .int .i64 (d.tb 0), .int .i64 (d.tb 1), .int .i64 (d.tb 2), .int .i64 (d.tb 3), .int .i64 (d.tb 4), .int .i64 (d.tb 5), .int .i64 (d.tb 6), .int .i64 (d.tb 7), .int .i64 (d.tb 8), .int .i64 (d.tb 9), .int .i64 (d.tb 10), .int .i64 (d.tb 11), .int .i64 (d.tb 12), .int .i64 (d.tb 13), .int .i64 (d.tb 14), .int .i64 (d.tb 15), .own 1000001 ba 3 n, .bool d.wh, .int .i64 d.gd], .int .i64 (P.slen d.now), .agg [.int .i64 w, .int .i64 q, .sl false 3 dr]] h K)
    (he1 : e1 = 0 → (0 ≤ r.who ∧ r.who ≤ 7) ∧ l.length < 64) (t : List UInt8) (e : Int) (htl : t.length ≤ 140737488355328)
    (h2 : e1 = 0 → ∀ (k : Nat) (b : Option Nat) (n' : Nat) (h : Hp) (K : V → Hp → Prop), n' = dr.length → h k = some ⟨b, 108, 3, dr⟩ → K (.tup [.str t, .int .i64 e]) h → T 61 [.agg [.int .i64 w, .int .i64 q, .own k b 3 n']] h K)
    (u : List UInt8) (f : Int) (h3 : e1 = 0 → Ans T1 16 [.sl false 3 dr, .str d.now] (.tup [.str u, .int .i64 f]))
    (Y : AddR) (hY : Y = (if e1 ≠ 0 then ⟨d, l, 0, e1⟩ else if e ≠ 0 then ⟨d, l, 0, e⟩ else ⟨addD { put2 d (some ⟨fm, cm, true⟩ : Option Mv) t with now := u } l r, l ++ [r], d.b + (l.length + 1 : Nat), 0⟩))
    (R : S → Prop) (hR : ∀ s s' ba' n' rows', n' = Y.l.length → rows' = Y.l.map encRev → Ent s s' → Ret [.t 4, .t 5] [.int .i64 Y.v, .int .i64 Y.e] s' → agreeH (S3 bl Y.d ba' n' rows' bm (some ⟨fm, cm, true⟩ : Option Mv)) s' → R s) :
    awp P T T1 ac_sadd (S0 [.ptr 0 (some bl) 47 0 0, .agg [.int .i64 w, .int .i64 q, .sl false 3 dr]] (lookH (S3 bl d ba n rows bm (some ⟨fm, cm, true⟩ : Option Mv)))) R (fun _ _ => False) R := by
  have f2 : dr.length = P.rlenN dr := by subst hP; rfl
  have m1 : P.i64 (P.sub 1 d.at') := by rw [sub_eq hP]; exact i64I hP (by omega)
  have m2 : P.sub 1 d.at' = 1 - d.at' := sub_eq hP _ _
  cbv
  repeat' (first
    | (refine And.intro (by first | assumption | decide) ?_; try cbv)
    | (intro β2; try cbv))
  refine h1 _ _ rfl ?_
  cbv
  repeat' (first
    | (refine And.intro (by first | assumption | decide) ?_; try cbv)
    | (intro β2; try cbv))
  refine br_cases (fun g => ?_) (fun g => ?_)
  · have g1 : e1 ≠ 0 := ne_t hP g
    rw [if_pos g1] at hY
    cbv
    repeat' (first
    | (refine And.intro (by first | assumption | decide) ?_; try cbv)
    | (intro β2; try cbv))
    subst hY
    exact hR _ _ ba n rows hn hrows (Ent.refl _) rfl ⟨rfl, rfl, rfl, trivial⟩
  have g1 : e1 = 0 := ne_f hP g
  rw [if_neg (fun hh => hh g1)] at hY
  obtain ⟨hw, hl64⟩ := he1 g1
  have hdl := hdl g1
  have f1 : P.bytes (P.rlen dr) 32 := by subst hP; show (dr.length : Int) * 32 ≤ _; ((try simp only [nc] at *); omega)
  cbv
  repeat' (first
    | (refine And.intro (by first | assumption | decide) ?_; try cbv)
    | (intro β2; try cbv))
  refine h2 g1 1000025 _ _ _ _ f2.symm rfl ?_
  cbv
  repeat' (first
    | (refine And.intro (by first | assumption | decide) ?_; try cbv)
    | (intro β2; try cbv))
  refine br_cases (fun g => ?_) (fun g => ?_)
  · have g2 : e ≠ 0 := ne_t hP g
    rw [if_pos g2] at hY
    cbv
    repeat' (first
    | (refine And.intro (by first | assumption | decide) ?_; try cbv)
    | (intro β2; try cbv))
    subst hY
    exact hR _ _ ba n rows hn hrows (Ent.refl _) rfl ⟨rfl, rfl, rfl, trivial⟩
  have g2 : e = 0 := ne_f hP g
  rw [if_neg (fun hh => hh g2)] at hY
  cbv
  repeat' (first
    | (refine And.intro (by first | assumption | decide) ?_; try cbv)
    | (intro β2; try cbv))
  refine hpre _ _ _ _ _ (HEnt.frzC (k := 1000025) (q := 3) (c := 2) rfl rfl rfl rfl rfl rfl f2 hdz) ?_
  refine hput 0 bl d (.own 1000001 ba 3 n) (.ptr 1 (some bm) 3 0 0) _ _ _ _ htl ⟨⟨.own _ _ _ _, rfl⟩, .ptr _ _ _ _ _, rfl⟩ rfl rfl rfl fun d0 hd0 => ?_
  have hat0 : d0.at' = d.at' := by rw [hd0]; rfl
  have m3 : P.i64 (P.sub 1 d0.at') := by rw [hat0]; exact m1
  cbv
  repeat' (first
    | (refine And.intro (by first | assumption | decide) ?_; try cbv)
    | (intro β2; try cbv))
  refine hput 0 bl d0 (.own 1000001 ba 3 n) (.ptr 1 (some bm) 3 0 0) _ _ _ _ htl ⟨⟨.own _ _ _ _, rfl⟩, .ptr _ _ _ _ _, rfl⟩ rfl rfl rfl fun d1 hd1 => ?_
  have hd1 : d1 = putS d0 (P.sub 1 d0.at') t := hd1
  rw [hat0, m2, hd0] at hd1
  have hb1 : d1.b = d.b := by rw [hd1]; rfl
  have hnow1 : d1.now = d.now := by rw [hd1]; rfl
  have h3' : Ans T1 16 [.sl false 3 dr, .str d1.now] (.tup [.str u, .int .i64 f]) := by rw [hnow1]; exact h3 g1
  cbv
  repeat' (first
    | (refine And.intro (by first | assumption | decide) ?_; try cbv)
    | (intro β2; try cbv))
  refine h3' _ _ ?_
  cbv
  repeat' (first
    | (refine And.intro (by first | assumption | decide) ?_; try cbv)
    | (intro β2; try cbv))
  refine hadd 0 1000001 bl { d1 with now := u } ba n rows l (.ptr 1 (some bm) 3 0 0) w q dr r _ _ hrows hn (by omega) hwq hw (by show 0 ≤ d1.b ∧ d1.b ≤ _; rw [hb1]; omega) ⟨⟨.ptr _ _ _ _ _, rfl⟩, rfl⟩ rfl rfl rfl rfl fun ba2 d2 n2 rows2 hd2 hn2 hrows2 => ?_
  have hb2 : d2.b = d.b := by rw [hd2]; exact hb1
  cbv
  repeat' (first
    | (refine And.intro (by first | assumption | decide) ?_; try cbv)
    | (intro β2; try cbv))
  refine hhd 0 bl d2 1000001 ba2 n2 (.ptr 1 (some bm) 3 0 0) _ _ (by rw [hb2]; omega) (by omega) ⟨.ptr _ _ _ _ _, rfl⟩ rfl rfl rfl fun v hv => ?_
  cbv
  repeat' (first
    | (refine And.intro (by first | assumption | decide) ?_; try cbv)
    | (intro β2; try cbv))
  have hv2 : v = Y.v := by rw [hY, hv, hb2, hn2]
  have hYd : Y.d = d2 := by rw [hY, hd2, hd1]; rfl
  have hYl : Y.l = l ++ [r] := by rw [hY]
  have hYe : Y.e = 0 := by rw [hY]
  subst hv2
  refine hR _ _ ba2 n2 rows2 (by rw [hYl, hn2]; simp) (by rw [hYl, hrows2]) (Ent.refl _) (by rw [hYe]; rfl) ?_
  rw [hYd]
  exact ⟨rfl, rfl, rfl, trivial⟩
def shAddM (d : SC) (l : List Rev) (m : Option Mv) (r : Rev) : AddR := if nextF d.b d.tb l.length d.now.length r ≠ 0 then ⟨d, l, 0, nextF d.b d.tb l.length d.now.length r⟩ else if (revF r).2 ≠ 0 then ⟨d, l, 0, (revF r).2⟩
  else ⟨addD { put2 d m (revF r).1 with now := (doF r.delta d.now).1 } l r, l ++ [r], d.b + (l.length + 1 : Nat), 0⟩
theorem sp_saddM (bl bm : Nat) (d : SC) (ba : Option Nat) (l : List Rev) (m : Option Mv) (r : Rev) (hr : PartsOk r.delta) (hb : 0 ≤ d.b ∧ d.b ≤ 2147483647) (hat : d.at' = 0 ∨ d.at' = 1) : Spec Try.prog 18 [.ptr 0 (some bl) 47 0 0, .agg (encRev r)] (lookH (S3 bl d ba l.length (l.map encRev) bm m))
    fun x h' => ∃ L', (∃ ba' bm' d' l' m', (∃ v e, x = .tup [.int .i64 v, .int .i64 e] ∧ ⟨d', l', v, e⟩ = shAddM d l m r ∧ m' = m) ∧ L' = S3 bl d' ba' l'.length (l'.map encRev) bm' m') ∧ h' = lookH L' := by
  refine spec_meth dOk ok_sadd (L := S3 bl d ba l.length (l.map encRev) bm m) (fun x L' => ∃ ba' bm' d' l' m', (∃ v e, x = .tup [.int .i64 v, .int .i64 e] ∧ ⟨d', l', v, e⟩ = shAddM d l m r ∧ m' = m) ∧ L' = S3 bl d' ba' l'.length (l'.map encRev) bm' m') fun R hR => ?_
  have h1 : ∀ (h : Hp) (K : V → Hp → Prop), h 1000001 = some ⟨ba, 45, 3, l.map encRev⟩ → K (.int .i64 (nextF d.b d.tb l.length d.now.length r)) h → CallP Try.prog 60 [.agg [.int .i64 d.gn, .int .i64 d.b, .str d.tx, .int .i64 (d.fs 0), .int .i64 (d.fs 1), .int .i64 (d.fs 2), .int .i64 (d.fs 3), .int .i64 (d.fs 4), .int .i64 (d.fs 5), .int .i64 (d.fs 6), .int .i64 (d.fs 7), .int .i64 (d.fs 8), .int .i64 (d.fs 9), .int .i64 (d.fs 10), .int .i64 (d.fs 11), .int .i64 (d.fs 12), .int .i64 (d.fs 13), .int .i64 (d.fs 14), .int .i64 (d.fs 15), .int .i64 (d.tb 0), .int .i64 (d.tb 1), .int .i64 (d.tb 2), .int .i64 (d.tb 3), .int .i64 (d.tb 4), .int .i64 (d.tb 5), .int .i64 (d.tb 6), .int .i64 (d.tb 7), .int .i64 (d.tb 8), .int .i64 (d.tb 9), .int .i64 (d.tb 10), .int .i64 (d.tb 11), .int .i64 (d.tb 12), .int .i64 (d.tb 13), .int .i64 (d.tb 14), .int .i64 (d.tb 15), .own 1000001 ba 3 l.length, .bool d.wh, .int .i64 d.gd], .int .i64 (std.slen d.now), .agg [.int .i64 r.who, .int .i64 r.seq, .sl false 3 (r.delta.map encPart)]] h K :=
    fun h K h1 hK => call_pureP (sp_hnextT d.gn d.b d.tx d.fs d.tb l d.wh d.gd d.now.length r hb hr) (.cons (arg_log h1) (.cons (.same _) (.cons (.same _) .nil))) hK
  have he1 : nextF d.b d.tb l.length d.now.length r = 0 → (0 ≤ r.who ∧ r.who ≤ 7) ∧ l.length < 64 := fun h => ⟨⟨(one_who (nextF_ok h).1).1, (one_who (nextF_ok h).1).2.1⟩, (nextF_ok h).2⟩
  have hdl : nextF d.b d.tb l.length d.now.length r = 0 → (r.delta.map encPart).length ≤ 1000000000 := fun h => by
    rw [List.length_map]; exact (rev_ok (nextF_ok h).1).2
  have htl : (revF r).1.length ≤ 140737488355328 := by have := revF_len r; omega
  have h2 : nextF d.b d.tb l.length d.now.length r = 0 → ∀ (k : Nat) (b : Option Nat) (n' : Nat) (h : Hp) (K : V → Hp → Prop), n' = (r.delta.map encPart).length → h k = some ⟨b, 108, 3, r.delta.map encPart⟩ → K (.tup [.str (revF r).1, .int .i64 (revF r).2]) h → CallE Try.prog 61 [.agg [.int .i64 r.who, .int .i64 r.seq, .own k b 3 n']] h K :=
    fun _ k b n' h K hn hk hK => by
        subst hn
        refine ⟨h, HEnt.refl h, call_pure (sp_hrevT r hr) (.cons ?_ .nil) hK⟩
        obtain ⟨a1, a2⟩ := arg_agg (h := h) (m := []) (l := [.int .i64 r.who, .int .i64 r.seq, .own k b 3 (r.delta.map encPart).length]) (l' := encRevT r) (.cons (.same _) (.cons (.same _) (.cons (.own k b 3 _ _ (rowsOf_own rfl hk) (by simp)) .nil)))
        exact .agg _ _ a1 a2
  have h3 : nextF d.b d.tb l.length d.now.length r = 0 → Ans (CallP Try.prog) 16 [.sl false 3 (r.delta.map encPart), .str d.now] (.tup [.str (doF r.delta d.now).1, .int .i64 (doF r.delta d.now).2]) := fun _ => ansPs (sp_do r.delta hr.1 d.now) rfl rfl
  have hfin : ∀ (s s' : S) (ba' : Option Nat) (n' : Nat) (rows' : List (List V)), n' = (shAddM d l m r).l.length → rows' = (shAddM d l m r).l.map encRev → Ent s s' → Ret [.t 4, .t 5] [.int .i64 (shAddM d l m r).v, .int .i64 (shAddM d l m r).e] s' → agreeH (S3 bl (shAddM d l m r).d ba' n' rows' bm m) s' → R s := by
    intro s s' ba' n' rows' hn hrows he hr ha
    subst hn hrows
    exact hR s s' _ _ he (resV_mono _ _ _ (fun x hx => by rw [hx]; rfl) hr) ha (.tup _ (by simp; exact ⟨.int _ _, .int _ _⟩)) S3_fz ⟨ba', bm, _, _, m, ⟨_, _, rfl, rfl, rfl⟩, rfl⟩
  obtain _ | ⟨fm, cm, w⟩ := m
  · exact vc_saddN std rfl _ _ callE_pre sputC haddC sheadE bl bm d ba l _ rfl _ rfl hat r r.who r.seq (r.delta.map encPart) ⟨rfl, rfl, rfl⟩ (encParts_fz _) hb _ hdl h1 he1 (revF r).1 (revF r).2 htl h2 (doF r.delta d.now).1 (doF r.delta d.now).2 h3 (shAddM d l none r) rfl R hfin
  · cases w with
    | false => exact vc_saddF std rfl _ _ callE_pre sputC haddC sheadE bl bm fm cm d ba l _ rfl _ rfl hat r r.who r.seq (r.delta.map encPart) ⟨rfl, rfl, rfl⟩ (encParts_fz _) hb _ hdl h1 he1 (revF r).1 (revF r).2 htl h2 (doF r.delta d.now).1 (doF r.delta d.now).2 h3 (shAddM d l (some ⟨fm, cm, false⟩) r) rfl R hfin
    | true => exact vc_saddT std rfl _ _ callE_pre sputC haddC sheadE bl bm fm cm d ba l _ rfl _ rfl hat r r.who r.seq (r.delta.map encPart) ⟨rfl, rfl, rfl⟩ (encParts_fz _) hb _ hdl h1 he1 (revF r).1 (revF r).2 htl h2 (doF r.delta d.now).1 (doF r.delta d.now).2 h3 (shAddM d l (some ⟨fm, cm, true⟩) r) rfl R hfin
/-- a shop in a caller's memory -/
structure InH (h : Hp) (k ka km bl : Nat) (d : SC) (ba : Option Nat) (n : Nat) (rows : List (List V)) (l : List Rev) (mv : V) (mo : Ob) (bm : Nat) (m : Option Mv) : Prop where
  h1 : n = l.length
  h2 : rows = l.map encRev
  h3 : mv = mvN km bm m
  h4 : mo = obMv bm m
  h5 : h k = some (obSh bl (rowS d (.own ka ba 3 n) mv))
  h6 : h ka = some (obV ba rows)
  h7 : h km = some mo
  h8 : N3 k ka km
def SAddC (T : CallT) : Prop := ∀ (k ka km bl : Nat) (d : SC) (ba : Option Nat) (n : Nat) (rows : List (List V)) (l : List Rev) (mv : V) (mo : Ob) (bm : Nat) (m : Option Mv) (r : Rev) (w q : Int) (dr : List (List V)) (h : Hp) (K : V → Hp → Prop), InH h k ka km bl d ba n rows l mv mo bm m → (w = r.who ∧ q = r.seq ∧ dr = r.delta.map encPart) → PartsOk r.delta → (0 ≤ d.b ∧ d.b ≤ 2147483647) → (d.at' = 0 ∨ d.at' = 1) →
  (∀ v e ba' d' l' n' rows' bm' mv' mo', ⟨d', l', v, e⟩ = shAddM d l m r → n' = l'.length → rows' = l'.map encRev → mv' = mvN km bm' m → mo' = obMv bm' m → K (.tup [.int .i64 v, .int .i64 e]) (h.puts [(k, obSh bl (rowS d' (.own ka ba' 3 n') mv')), (ka, obV ba' rows'), (km, mo')])) → T 18 [.ptr k (some bl) 47 0 0, .agg [.int .i64 w, .int .i64 q, .sl false 3 dr]] h K
theorem saddC : SAddC (CallE Try.prog) := by
  rintro k ka km bl d ba n rows l mv mo bm m r w q dr h K ⟨rfl, rfl, rfl, rfl, hk, hka, hkm, hN⟩ ⟨rfl, rfl, rfl⟩ hr hb hat hK
  refine callS3 (rest := [.agg (encRev r)]) (post := fun x d' l' m' => ∃ v e, x = .tup [.int .i64 v, .int .i64 e] ∧ ⟨d', l', v, e⟩ = shAddM d l m r ∧ m' = m) (sp_saddM bl bm d ba l m r hr hb hat) (fun h m => .cons (.same _) .nil) (fun x d' l' m' g hp => ?_) hN hk hka hkm ?_
  · obtain ⟨v, e, rfl, _⟩ := hp; rfl
  · rintro x ba' bm' d' l' m' ⟨v, e, rfl, hp, rfl⟩
    exact hK v e ba' d' l' _ _ bm' _ _ hp rfl rfl rfl rfl
def SKeep3C (T : CallT) : Prop := ∀ (k ka km bl : Nat) (d : SC) (ba : Option Nat) (n : Nat) (rows : List (List V)) (l : List Rev) (mv : V) (mo : Ob) (bm : Nat) (m : Option Mv) (j : Int) (h : Hp) (K : V → Hp → Prop), InH h k ka km bl d ba n rows l mv mo bm m → (0 ≤ d.b ∧ d.b ≤ 4294967295) → l.length ≤ 1000 →
  (∀ e ba' n' rows' bm' m' mv' mo', (m', e) = shKeep d l.length m j → n' = l.length → rows' = l.map encRev → mv' = mvN km bm' m' → mo' = obMv bm' m' → K (.int .i64 e) (h.puts [(k, obSh bl (rowS d (.own ka ba' 3 n') mv')), (ka, obV ba' rows'), (km, mo')])) → T 23 [.ptr k (some bl) 47 0 0, .int .i64 j] h K
theorem skeep3C : SKeep3C (CallE Try.prog) := by
  rintro k ka km bl d ba n rows l mv mo bm m j h K ⟨rfl, rfl, rfl, rfl, hk, hka, hkm, hN⟩ hb hn hK
  refine callS3 (rest := [.int .i64 j]) (post := fun x d' l' m' => x = .int .i64 (shKeep d l.length m j).2 ∧ d' = d ∧ l' = l ∧ m' = (shKeep d l.length m j).1) (sp_skeep bl d ba l bm m hb hn j) (fun h m => .cons (.same _) .nil) (fun x d' l' m' g hp => ?_) hN hk hka hkm ?_
  · rw [hp.1]; rfl
  · rintro x ba' bm' d' l' m' ⟨rfl, rfl, rfl, rfl⟩
    exact hK _ ba' _ _ bm' _ _ _ rfl rfl rfl rfl rfl
def SStep3C (T : CallT) : Prop := ∀ (k ka km bl : Nat) (d : SC) (ba : Option Nat) (n : Nat) (rows : List (List V)) (l : List Rev) (mv : V) (mo : Ob) (bm : Nat) (m : Option Mv) (h : Hp) (K : V → Hp → Prop), InH h k ka km bl d ba n rows l mv mo bm m → StepOk d l m → d.tx.length ≤ maxLen →
  (∀ v ba' d' l' m' n' rows' bm' mv' mo', ⟨d', l', m', v⟩ = shStep d l m → n' = l'.length → rows' = l'.map encRev → mv' = mvN km bm' m' → mo' = obMv bm' m' → K (.bool v) (h.puts [(k, obSh bl (rowS d' (.own ka ba' 3 n') mv')), (ka, obV ba' rows'), (km, mo')])) → T 24 [.ptr k (some bl) 47 0 0] h K
theorem sstep3C : SStep3C (CallE Try.prog) := by
  rintro k ka km bl d ba n rows l mv mo bm m h K ⟨rfl, rfl, rfl, rfl, hk, hka, hkm, hN⟩ hok htx hK
  refine callS3 (rest := []) (post := fun x d' l' m' => ∃ v, x = .bool v ∧ ⟨d', l', m', v⟩ = shStep d l m) (sp_sstep bl d ba l bm m hok htx) (fun h m => .nil) (fun x d' l' m' g hp => ?_) hN hk hka hkm ?_
  · obtain ⟨v, rfl, _⟩ := hp; rfl
  · rintro x ba' bm' d' l' m' ⟨v, rfl, hp⟩
    exact hK v ba' d' l' m' _ _ bm' _ _ hp rfl rfl rfl rfl
end Go.Proofs.Ytobngncjflogcaa.AM

set_option linter.unusedVariables false
set_option linter.unusedSimpArgs false
namespace Go.Proofs.Ytobngncjflogcaa.AM
open Go Go.RowKit
set_option maxRecDepth 100000
set_option maxHeartbeats 2000000
def safOf (d : SC) (i : Int) : Int := if i = 0 then d.x2 else d.x4
def DkOk (d : SC) : Prop := diskT d.x1 d.x2 d.x3 d.x4 = 0
theorem slotT_iff {x : List UInt8} {n : Int} : slotT x n = 0 ↔ x.length ≤ 1048576 ∧ 0 ≤ n ∧ n ≤ (x.length : Int) := by
  constructor
  · exact slot_ok
  · intro h
    unfold slotT
    rw [if_neg (by omega), if_neg (by omega)]
theorem dk_iff {a1 b1 : List UInt8} {a2 b2 : Int} : diskT a1 a2 b1 b2 = 0 ↔ slotT a1 a2 = 0 ∧ slotT b1 b2 = 0 := by
  constructor
  · exact disk_ok
  · rintro ⟨h1, h2⟩
    unfold diskT
    rw [if_neg (fun h => h h1)]
    exact h2
theorem DkOk.slot {d : SC} (h : DkOk d) (i : Int) : (datOf d i).length ≤ 1048576 ∧ 0 ≤ safOf d i ∧ safOf d i ≤ ((datOf d i).length : Int) := by
  obtain ⟨h1, h2⟩ := dk_iff.1 h
  unfold datOf safOf
  split
  · exact slotT_iff.1 h1
  · exact slotT_iff.1 h2
theorem look_in {d : SC} (h : DkOk d) {i : Int} (hi : i = 0 ∨ i = 1) : lookT d.x1 d.x2 d.x3 d.x4 i = 0 := by
  unfold lookT
  rw [if_neg (fun g => g h), if_neg (by omega)]
theorem put_ok2 {d : SC} {i : Int} {t : List UInt8} (h : DkOk d) (hi : i = 0 ∨ i = 1) (hl : (datOf d i).length + t.length ≤ 1048576) :
    DkOk (putS d i t) ∧ datOf (putS d i t) i = datOf d i ++ t ∧ datOf (putS d i t) (1 - i) = datOf d (1 - i) ∧ ∀ j, safOf (putS d i t) j = safOf d j := by
  have hk := look_in h hi
  obtain ⟨h1, h2⟩ := dk_iff.1 h
  have s1 := slotT_iff.1 h1
  have s2 := slotT_iff.1 h2
  rcases hi with rfl | rfl
  · have hl : d.x1.length + t.length ≤ 1048576 := hl
    have e : appT d.x1 d.x2 d.x3 d.x4 0 t = ⟨d.x1 ++ t, d.x2, d.x3, d.x4, 0⟩ := by
      unfold appT
      rw [if_neg (fun g => g hk), if_pos rfl, if_neg (by omega)]
    have e2 : putS d 0 t = { d with x1 := d.x1 ++ t } := by
      unfold putS
      rw [e]
    rw [e2]
    exact ⟨dk_iff.2 ⟨(slotT_iff (x := d.x1 ++ t) (n := d.x2)).2 (by rw [List.length_append]; omega), h2⟩, rfl, rfl, fun j => rfl⟩
  · have hl : d.x3.length + t.length ≤ 1048576 := hl
    have e : appT d.x1 d.x2 d.x3 d.x4 1 t = ⟨d.x1, d.x2, d.x3 ++ t, d.x4, 0⟩ := by
      unfold appT
      rw [if_neg (fun g => g hk), if_neg (by decide), if_neg (by omega)]
    have e2 : putS d 1 t = { d with x3 := d.x3 ++ t } := by
      unfold putS
      rw [e]
    rw [e2]
    exact ⟨dk_iff.2 ⟨h1, (slotT_iff (x := d.x3 ++ t) (n := d.x4)).2 (by rw [List.length_append]; omega)⟩, rfl, rfl, fun j => rfl⟩
theorem syn_ok2 {d : SC} {i : Int} (h : DkOk d) (hi : i = 0 ∨ i = 1) :
    DkOk (synS d i) ∧ (∀ j, datOf (synS d i) j = datOf d j) ∧ safOf (synS d i) i = ((datOf d i).length : Int) ∧ safOf (synS d i) (1 - i) = safOf d (1 - i) := by
  have hk := look_in h hi
  obtain ⟨h1, h2⟩ := dk_iff.1 h
  have s1 := slotT_iff.1 h1
  have s2 := slotT_iff.1 h2
  rcases hi with rfl | rfl
  · have e : synT d.x1 d.x2 d.x3 d.x4 0 = ⟨d.x1, d.x1.length, d.x3, d.x4, 0⟩ := by
      unfold synT
      rw [if_neg (fun g => g hk), if_pos rfl]
    have e2 : synS d 0 = { d with x2 := d.x1.length } := by
      unfold synS
      rw [e]
    rw [e2]
    exact ⟨dk_iff.2 ⟨(slotT_iff (x := d.x1) (n := (d.x1.length : Int))).2 (by omega), h2⟩, fun j => rfl, rfl, rfl⟩
  · have e : synT d.x1 d.x2 d.x3 d.x4 1 = ⟨d.x1, d.x2, d.x3, d.x3.length, 0⟩ := by
      unfold synT
      rw [if_neg (fun g => g hk), if_neg (by decide)]
    have e2 : synS d 1 = { d with x4 := d.x3.length } := by
      unfold synS
      rw [e]
    rw [e2]
    exact ⟨dk_iff.2 ⟨h1, (slotT_iff (x := d.x3) (n := (d.x3.length : Int))).2 (by omega)⟩, fun j => rfl, rfl, rfl⟩
theorem trm_ok2 {d : SC} {i : Int} {n : Nat} (h : DkOk d) (hi : i = 0 ∨ i = 1) (hn : n ≤ (datOf d i).length) :
    DkOk (trmS d i n) ∧ datOf (trmS d i n) i = (datOf d i).take n ∧ datOf (trmS d i n) (1 - i) = datOf d (1 - i) ∧ safOf (trmS d i n) i = min (safOf d i) n ∧ safOf (trmS d i n) (1 - i) = safOf d (1 - i) := by
  have hk := look_in h hi
  obtain ⟨h1, h2⟩ := dk_iff.1 h
  have s1 := slotT_iff.1 h1
  have s2 := slotT_iff.1 h2
  rcases hi with rfl | rfl
  · have hn : n ≤ d.x1.length := hn
    have e : trmT d.x1 d.x2 d.x3 d.x4 0 n = ⟨d.x1.take n, min d.x2 n, d.x3, d.x4, 0⟩ := by
      unfold trmT
      rw [if_neg (fun g => g hk), if_pos rfl, if_neg (by omega), Int.toNat_natCast]
    have e2 : trmS d 0 n = { d with x1 := d.x1.take n, x2 := min d.x2 n } := by
      unfold trmS
      rw [e]
    rw [e2]
    exact ⟨dk_iff.2 ⟨(slotT_iff (x := d.x1.take n) (n := min d.x2 n)).2 (by rw [List.length_take]; omega), h2⟩, rfl, rfl, rfl, rfl⟩
  · have hn : n ≤ d.x3.length := hn
    have e : trmT d.x1 d.x2 d.x3 d.x4 1 n = ⟨d.x1, d.x2, d.x3.take n, min d.x4 n, 0⟩ := by
      unfold trmT
      rw [if_neg (fun g => g hk), if_neg (by decide), if_neg (by omega), Int.toNat_natCast]
    have e2 : trmS d 1 n = { d with x3 := d.x3.take n, x4 := min d.x4 n } := by
      unfold trmS
      rw [e]
    rw [e2]
    exact ⟨dk_iff.2 ⟨h1, (slotT_iff (x := d.x3.take n) (n := min d.x4 n)).2 (by rw [List.length_take]; omega)⟩, rfl, rfl, rfl, rfl⟩
theorem flat_eqT {g b : Int} {f k : Nat → Int} (h : EqT f k) : flatL g b f = flatL g b k := by
  unfold flatL
  rw [h 0 (by decide), h 1 (by decide), h 2 (by decide), h 3 (by decide), h 4 (by decide), h 5 (by decide), h 6 (by decide), h 7 (by decide), h 8 (by decide), h 9 (by decide), h 10 (by decide), h 11 (by decide), h 12 (by decide), h 13 (by decide), h 14 (by decide), h 15 (by decide)]
theorem flOf_eqT {g b : Int} {tx : List UInt8} {f k : Nat → Int} (h : EqT f k) (r1 : List Rev) (o : Option (List Rev)) : flOf g b tx f r1 o = flOf g b tx k r1 o := by
  unfold flOf headFr headBody
  rw [flat_eqT h]
theorem HdOk.eqT {g b : Int} {tx : List UInt8} {f k : Nat → Int} (h : HdOk g b tx f) (he : EqT f k) : HdOk g b tx k := ⟨h.g, h.b, h.tx, fun j hj => by rw [← he j hj]; exact h.t j hj⟩
theorem chain_shift {b : Int} (i : Nat) : ∀ (c : List Rev) (tb : Nat → Int) (k : Nat) (now : List UInt8), chainOk b tb (i + k) now c → chainOk (b + (i : Int)) tb k now c
  | [], _, _, _, _ => trivial
  | r :: c, tb, k, now, h => by
    refine ⟨?_, ?_⟩
    · have h1 := h.1
      unfold nextF at h1 ⊢
      by_cases g1 : oneF r ≠ 0
      · rw [if_pos g1] at h1; exact absurd h1 g1
      rw [if_neg g1] at h1 ⊢
      by_cases g2 : r.seq ≤ tb (2 * r.who.toNat)
      · rw [if_pos g2] at h1; exact absurd h1 (by decide)
      rw [if_neg g2] at h1 ⊢
      by_cases g3 : 64 ≤ ((i + k : Nat) : Int) ∨ 2147483647 ≤ b + ((i + k : Nat) : Int)
      · rw [if_pos g3] at h1; exact absurd h1 (by decide)
      rw [if_neg g3] at h1
      rw [if_neg (by omega)]
      exact h1
    · have h2 := h.2
      have e : b + (i : Int) + (k : Int) + 1 = b + ((i + k : Nat) : Int) + 1 := by omega
      rw [e]
      exact chain_shift i c _ (k + 1) _ h2
theorem addTb_inR {tb : Nat → Int} (h : ∀ j, j < 16 → inR (tb j)) {w : Nat} {q n : Int} (hq : inR q) (hn : inR n) : ∀ j, j < 16 → inR (addTb tb w q n j) := by
  intro j hj
  unfold addTb
  split
  · exact hq
  · split
    · exact hn
    · exact h j hj
theorem tab_inR {b : Int} (hb : 0 ≤ b) : ∀ (l : List Rev) (tb : Nat → Int) (i : Nat) (now : List UInt8), chainOk b tb i now l → (∀ j, j < 16 → inR (tb j)) → ∀ j, j < 16 → inR (tabG tb (b + (i : Int)) l j)
  | [], _, _, _, _, h => h
  | r :: l, tb, i, now, hc, h => by
    have h1 := next_one hc.1
    have h2 := oneF_all h1.1
    have := tab_inR hb l _ (i + 1) _ hc.2 (addTb_inR h ⟨h2.2.1.1, h2.2.1.2⟩ ⟨by omega, by omega⟩)
    have e : b + ((i + 1 : Nat) : Int) = b + (i : Int) + 1 := by omega
    rw [e] at this
    exact this
theorem enc_len : ∀ (l : List Frame), (∀ f ∈ l, FrOk f) → (encFs l).length ≤ 4007 * l.length
  | [], _ => Nat.le_refl _
  | f :: l, h => by
    have h1 := (h f (by simp)).2.2
    have h2 := enc_len l fun g hg => h g (by simp [hg])
    rw [encFs_cons, List.length_append, frB_len, List.length_cons]
    omega
theorem revs_ok {b : Int} {tb : Nat → Int} {i : Nat} {now : List UInt8} {l : List Rev} (hc : chainOk b tb i now l) : RevsOk l ∧ (∀ r ∈ l, 0 ≤ r.who ∧ r.who ≤ 7) ∧ (∀ r ∈ l, r.delta.length ≤ 1000000000) ∧ l.length ≤ 64 := by
  have h64 : l.length ≤ 64 := by
    rcases chain_len l _ _ _ hc with rfl | h
    · simp
    · omega
  have h1 := chain_one l _ _ _ hc
  have hm : maxLen = 9223372036854775807 := by decide
  exact ⟨⟨by omega, fun r hr => (rev_ok (h1 r hr)).1⟩, fun r hr => (oneF_all (h1 r hr)).1, fun r hr => (rev_ok (h1 r hr)).2, h64⟩
end Go.Proofs.Ytobngncjflogcaa.AM

set_option linter.unusedVariables false
set_option linter.unusedSimpArgs false
namespace Go.Proofs.Ytobngncjflogcaa.AM
open Go Go.RowKit
set_option maxRecDepth 100000
set_option maxHeartbeats 2000000
def tabAt (d : SC) (l : List Rev) (f : Int) : Nat → Int := tabG d.fs d.b (l.take (f - d.b).toNat)
def txtAt (d : SC) (l : List Rev) (f : Int) : List UInt8 := nowG d.tx (l.take (f - d.b).toNat)
def sufAt (d : SC) (l : List Rev) (f : Int) : List Rev := l.drop (f - d.b).toNat
/-- a slot that is whole: its log; what is safe holds it up to a revision -/
def Main (dat : List UInt8) (saf sf g b : Int) (tx : List UInt8) (fs : Nat → Int) (l : List Rev) : Prop :=
  ∃ r1 r2 js, l = r1 ++ r2 ∧ dat = encFs (flOf g b tx fs r1 (some r2)) ∧ js ≤ r2.length ∧ saf = ((encFs (flOf g b tx fs r1 (some (r2.take js)))).length : Int) ∧ sf ≤ b + (r1.length : Int) + js
/-- the other slot -/
def Low (dat : List UInt8) (gn : Int) : Prop := ∃ g b tx t r1 o, HdOk g b tx t ∧ chainOk b t 0 tx (r1 ++ o.getD []) ∧ dat = encFs (flOf g b tx t r1 o) ∧ g < gn
def OthM (d : SC) (l : List Rev) (m : Mv) : Prop :=
  (m.c = -1 ∧ m.w = false ∧ datOf d (1 - d.at') = []) ∨
  (0 ≤ m.c ∧ m.w = false ∧ m.f + m.c ≤ d.b + (l.length : Int) ∧ datOf d (1 - d.at') = encFs (flOf (d.gn + 1) m.f (txtAt d l m.f) (tabAt d l m.f) ((sufAt d l m.f).take m.c.toNat) none)) ∨
  (0 ≤ m.c ∧ m.w = true ∧ m.c ≤ 64 ∧ ∃ r1 r2 js, sufAt d l m.f = r1 ++ r2 ∧ datOf d (1 - d.at') = encFs (flOf (d.gn + 1) m.f (txtAt d l m.f) (tabAt d l m.f) r1 (some r2)) ∧ js ≤ r2.length ∧
    (js = 0 ∨ safOf d (1 - d.at') = ((encFs (flOf (d.gn + 1) m.f (txtAt d l m.f) (tabAt d l m.f) r1 (some (r2.take js)))).length : Int)) ∧ d.sf ≤ m.f + (r1.length : Int) + js)
def Oth (d : SC) (l : List Rev) : Option Mv → Prop
  | none => (d.old = true ∧ Low (datOf d (1 - d.at')) d.gn) ∨ (d.old = false ∧ datOf d (1 - d.at') = [])
  | some m => d.old = false ∧ (d.b ≤ m.f ∧ m.f ≤ d.b + (l.length : Int)) ∧ d.gn < 2147483647 ∧ OthM d l m
structure Arc (d : SC) (l : List Rev) (m : Option Mv) : Prop where
  at' : d.at' = 0 ∨ d.at' = 1
  dk : DkOk d
  hd : HdOk d.gn d.b d.tx d.fs
  ch : chainOk d.b d.fs 0 d.tx l
  tb : EqT d.tb (tabG d.fs d.b l)
  now : d.now = nowG d.tx l
  sf : d.sf ≤ d.b + (l.length : Int)
  mn : Main (datOf d d.at') (safOf d d.at') d.sf d.gn d.b d.tx d.fs l
  ot : Oth d l m
theorem Arc.oat {d : SC} {l : List Rev} {m : Option Mv} (h : Arc d l m) : 1 - d.at' = 0 ∨ 1 - d.at' = 1 := by rcases h.at' with h | h <;> omega
theorem Arc.len {d : SC} {l : List Rev} {m : Option Mv} (h : Arc d l m) : l.length ≤ 64 ∧ d.b + (l.length : Int) ≤ 2147483647 ∧ 0 ≤ d.b := by
  have hb := h.hd.b
  unfold inR at hb
  rcases chain_len l _ _ _ h.ch with rfl | g
  · simp only [List.length_nil]; omega
  · omega
theorem Arc.shOk {d : SC} {l : List Rev} {m : Option Mv} (h : Arc d l m) : ShOk d l := by
  obtain ⟨h1, h2, h3, h4⟩ := revs_ok h.ch
  have hb := h.hd.b
  have hg := h.hd.g
  unfold inR at hb hg
  exact ⟨h.at', hb, by omega, h4, h1, h2, h3⟩
theorem flOf_enc_len {g b : Int} {tx : List UInt8} {t : Nat → Int} (htx : tx.length ≤ 500) {r1 : List Rev} {o : Option (List Rev)} (hc : ∀ r ∈ r1 ++ o.getD [], oneF r = 0) (hl : (r1 ++ o.getD []).length ≤ 64) : (encFs (flOf g b tx t r1 o)).length ≤ 264462 := by
  have h1 := enc_len _ (flOf_ok (g := g) (b := b) (t := t) htx hc)
  rw [flOf_len] at h1
  rw [List.length_append] at hl
  cases o with
  | none => simp only at h1; omega
  | some r2 => simp only [Option.getD_some] at h1 hl; omega
theorem Arc.mlen {d : SC} {l : List Rev} {m : Option Mv} (h : Arc d l m) : (datOf d d.at').length ≤ 264462 := by
  obtain ⟨r1, r2, js, h1, h2, _⟩ := h.mn
  rw [h2]
  refine flOf_enc_len h.hd.tx (o := some r2) ?_ ?_
  · show ∀ r ∈ r1 ++ r2, _
    rw [← h1]; exact chain_one _ _ _ _ h.ch
  · show (r1 ++ r2).length ≤ 64
    rw [← h1]; exact h.len.1
theorem suf_chain {d : SC} {l : List Rev} {m : Option Mv} (h : Arc d l m) {f : Int} (hf : d.b ≤ f ∧ f ≤ d.b + (l.length : Int)) : chainOk f (tabAt d l f) 0 (txtAt d l f) (sufAt d l f) ∧ (txtAt d l f).length ≤ 500 ∧ (∀ j, j < 16 → inR (tabAt d l f j)) ∧ (sufAt d l f).length = (d.b + (l.length : Int) - f).toNat := by
  obtain ⟨a, ha⟩ : ∃ a : Nat, (f - d.b).toNat = a := ⟨_, rfl⟩
  have haf : f = d.b + (a : Int) := by omega
  have hal : a ≤ l.length := by omega
  have hc := h.ch
  rw [← List.take_append_drop a l] at hc
  obtain ⟨c1, c2⟩ := (chain_app (l.take a) (l.drop a) d.fs 0 d.tx).1 hc
  have e0 : d.b + ((0 : Nat) : Int) = d.b := by omega
  have e1 : 0 + (l.take a).length = a + 0 := by rw [List.length_take]; omega
  rw [e0, e1] at c2
  have c3 := chain_shift a _ _ _ _ c2
  have t1 := tab_inR h.len.2.2 (l.take a) d.fs 0 d.tx c1 h.hd.t
  rw [e0] at t1
  unfold tabAt txtAt sufAt
  rw [ha]
  refine ⟨by rw [haf]; exact c3, chain_now _ _ _ _ c1 h.hd.tx, t1, by rw [List.length_drop]; omega⟩
theorem suf_hd {d : SC} {l : List Rev} {m : Option Mv} (h : Arc d l m) {f : Int} (hf : d.b ≤ f ∧ f ≤ d.b + (l.length : Int)) (hg : d.gn < 2147483647) : HdOk (d.gn + 1) f (txtAt d l f) (tabAt d l f) := by
  obtain ⟨_, h2, h3, _⟩ := suf_chain h hf
  have := h.len
  have hg2 := h.hd.g
  unfold inR at hg2
  exact ⟨⟨by omega, by omega⟩, ⟨by omega, by omega⟩, h2, h3⟩
theorem stext_at {d : SC} {l : List Rev} {m : Option Mv} (h : Arc d l m) {f : Int} (hf : d.b ≤ f ∧ f ≤ d.b + (l.length : Int)) : stextT d l f = (txtAt d l f, 0) := by
  obtain ⟨a, ha⟩ : ∃ a : Nat, f - d.b = a := ⟨(f - d.b).toNat, by omega⟩
  have ht : thereT d.b l.length f = 0 := by
    unfold thereT
    rw [if_neg (by omega), if_neg (by omega)]
  unfold stextT txtAt
  rw [if_neg (fun x => x ht), ha, text_at h.ch h.hd.tx a (by omega), Int.toNat_natCast]
theorem stext_no {d : SC} {l : List Rev} {f : Int} (hf : thereT d.b l.length f ≠ 0) : stextT d l f = ([], thereT d.b l.length f) := by
  unfold stextT
  rw [if_pos hf]
/-- two archives that tell the same texts -/
structure Same (d : SC) (l : List Rev) (d' : SC) (l' : List Rev) : Prop where
  hd : d'.b + (l'.length : Int) = d.b + (l.length : Int)
  b : d.b ≤ d'.b
  tx : ∀ r, d'.b ≤ r → r ≤ d'.b + (l'.length : Int) → txtAt d' l' r = txtAt d l r
theorem Same.of {d d' : SC} {l : List Rev} (hb : d'.b = d.b) (ht : d'.tx = d.tx) : Same d l d' l := ⟨by rw [hb], by omega, fun r _ _ => by unfold txtAt; rw [hb, ht]⟩
theorem enc_snoc (g b : Int) (tx : List UInt8) (t : Nat → Int) (r1 r2 : List Rev) (r : Rev) : encFs (flOf g b tx t r1 (some r2)) ++ frB (revFr r) = encFs (flOf g b tx t r1 (some (r2 ++ [r]))) := by
  have e : flOf g b tx t r1 (some (r2 ++ [r])) = flOf g b tx t r1 (some r2) ++ [revFr r] := by
    show headFr g b tx t :: (r1.map revFr ++ doneFr :: (r2 ++ [r]).map revFr) = headFr g b tx t :: (r1.map revFr ++ doneFr :: r2.map revFr) ++ [revFr r]
    rw [List.map_append, List.cons_append, List.append_assoc, List.cons_append]; rfl
  rw [e, encFs_app]
  have : encFs [revFr r] = frB (revFr r) := by simp [encFs]
  rw [this]
theorem enc_snoc1 (g b : Int) (tx : List UInt8) (t : Nat → Int) (r1 : List Rev) (r : Rev) : encFs (flOf g b tx t r1 none) ++ frB (revFr r) = encFs (flOf g b tx t (r1 ++ [r]) none) := by
  have e : flOf g b tx t (r1 ++ [r]) none = flOf g b tx t r1 none ++ [revFr r] := by
    show headFr g b tx t :: ((r1 ++ [r]).map revFr ++ []) = headFr g b tx t :: (r1.map revFr ++ []) ++ [revFr r]
    rw [List.map_append, List.append_nil, List.append_nil, List.cons_append]; rfl
  rw [e, encFs_app]
  have : encFs [revFr r] = frB (revFr r) := by simp [encFs]
  rw [this]
theorem enc_done (g b : Int) (tx : List UInt8) (t : Nat → Int) (r1 : List Rev) : encFs (flOf g b tx t r1 none) ++ frB doneFr = encFs (flOf g b tx t r1 (some [])) := by
  have e : flOf g b tx t r1 (some []) = flOf g b tx t r1 none ++ [doneFr] := by
    show headFr g b tx t :: (r1.map revFr ++ [doneFr]) = headFr g b tx t :: (r1.map revFr ++ []) ++ [doneFr]
    rw [List.append_nil, List.cons_append]
  rw [e, encFs_app]
  have : encFs [doneFr] = frB doneFr := by simp [encFs]
  rw [this]
theorem enc_head (g b : Int) (tx : List UInt8) (t : Nat → Int) : frB (headFr g b tx t) = encFs (flOf g b tx t [] none) := by
  have : flOf g b tx t [] none = [headFr g b tx t] := rfl
  rw [this]
  simp [encFs]
theorem take_snoc {l : List Rev} {r : Rev} {a : Nat} (h : a ≤ l.length) : (l ++ [r]).take a = l.take a := List.take_append_of_le_length h
theorem drop_snoc {l : List Rev} {r : Rev} {a : Nat} (h : a ≤ l.length) : (l ++ [r]).drop a = l.drop a ++ [r] := List.drop_append_of_le_length h
/-- where the text of a revision lies behind an Add -/
theorem at_snoc {d d' : SC} {l : List Rev} {r : Rev} (hb : d'.b = d.b) (ht : d'.tx = d.tx) (hfs : d'.fs = d.fs) {f : Int} (hf : d.b ≤ f ∧ f ≤ d.b + (l.length : Int)) :
    txtAt d' (l ++ [r]) f = txtAt d l f ∧ tabAt d' (l ++ [r]) f = tabAt d l f ∧ sufAt d' (l ++ [r]) f = sufAt d l f ++ [r] := by
  have ha : (f - d.b).toNat ≤ l.length := by omega
  unfold txtAt tabAt sufAt
  rw [hb, ht, hfs, take_snoc ha, drop_snoc ha]
  exact ⟨rfl, rfl, rfl⟩
def othAdd (m : Option Mv) (x t : List UInt8) : List UInt8 := match m with
  | none => x
  | some m => if m.w = true then x ++ t else x
theorem arc_add {d : SC} {l : List Rev} {m : Option Mv} (h : Arc d l m) {r : Rev} (hn : nextF d.b d.tb l.length d.now.length r = 0) :
    (shAddM d l m r).e = 0 ∧ (shAddM d l m r).l = l ++ [r] ∧ (shAddM d l m r).v = d.b + (l.length : Int) + 1 ∧ (shAddM d l m r).d.b = d.b ∧ (shAddM d l m r).d.tx = d.tx ∧ (shAddM d l m r).d.gn = d.gn ∧ (shAddM d l m r).d.sf = d.sf ∧ (shAddM d l m r).d.fs = d.fs ∧ Arc (shAddM d l m r).d (l ++ [r]) m := by
  have h1 := (next_one hn).1
  have hr := revF_fr h1
  have hlt : (frB (revFr r)).length ≤ 4007 := by
    have := (revFr_ok h1).2.2
    rw [frB_len]; omega
  have eY : shAddM d l m r = ⟨addD { put2 d m (frB (revFr r)) with now := (doF r.delta d.now).1 } l r, l ++ [r], d.b + (l.length + 1 : Nat), 0⟩ := by
    unfold shAddM
    rw [if_neg (fun x => x hn), hr]
    exact if_neg (fun x => x rfl)
  have hP : ∀ D : SC, D = put2 d m (frB (revFr r)) → D.b = d.b ∧ D.tx = d.tx ∧ D.gn = d.gn ∧ D.sf = d.sf ∧ D.fs = d.fs ∧ D.at' = d.at' ∧ D.tb = d.tb ∧ D.old = d.old := by
    rintro D rfl
    unfold put2
    split
    · exact ⟨rfl, rfl, rfl, rfl, rfl, rfl, rfl, rfl⟩
    · split <;> exact ⟨rfl, rfl, rfl, rfl, rfl, rfl, rfl, rfl⟩
  have hml := h.mlen
  obtain ⟨p1, p2, p3, p4⟩ := put_ok2 h.dk h.at' (t := frB (revFr r)) (by omega)
  -- what is in the slots
  have hD : ∀ D : SC, D = put2 d m (frB (revFr r)) → DkOk D ∧ datOf D d.at' = datOf d d.at' ++ frB (revFr r) ∧ (∀ j, safOf D j = safOf d j) ∧ datOf D (1 - d.at') = othAdd m (datOf d (1 - d.at')) (frB (revFr r)) := by
    rintro D rfl
    obtain _ | ⟨f, c, w⟩ := m
    · exact ⟨p1, p2, p4, p3⟩
    · cases w with
      | false => exact ⟨p1, p2, p4, p3⟩
      | true =>
        have hp2 : put2 d (some ⟨f, c, true⟩) (frB (revFr r)) = putS (putS d d.at' (frB (revFr r))) (1 - d.at') (frB (revFr r)) := rfl
        rw [hp2]
        have hol : (datOf (putS d d.at' (frB (revFr r))) (1 - d.at')).length + (frB (revFr r)).length ≤ 1048576 := by
          rw [p3]
          obtain ⟨_, hf, hg, ho⟩ := h.ot
          rcases ho with ⟨_, hw, _⟩ | ⟨_, hw, _⟩ | ⟨_, _, _, r1, r2, js, e1, e2, _⟩
          · cases hw
          · cases hw
          · have e2 : datOf d (1 - d.at') = encFs (flOf (d.gn + 1) f (txtAt d l f) (tabAt d l f) r1 (some r2)) := e2
            have e1 : sufAt d l f = r1 ++ r2 := e1
            have hf : d.b ≤ f ∧ f ≤ d.b + (l.length : Int) := hf
            rw [e2]
            obtain ⟨s1, s2, s3, s4⟩ := suf_chain h hf
            have hh := h.len
            have := flOf_enc_len (g := d.gn + 1) (b := f) (t := tabAt d l f) s2 (r1 := r1) (o := some r2) (by rw [e1] at s1; exact chain_one _ _ _ _ s1) (by show (r1 ++ r2).length ≤ 64; rw [← e1, s4]; omega)
            omega
        obtain ⟨q1, q2, q3, q4⟩ := put_ok2 p1 h.oat (t := frB (revFr r)) hol
        have e1 : (1 : Int) - (1 - d.at') = d.at' := by omega
        rw [e1] at q3
        exact ⟨q1, by rw [q3, p2], fun j => by rw [q4, p4], by rw [q2, p3]; rfl⟩
  obtain ⟨a1, a2, a3, a4, a5, a6, a7, a8⟩ := hP _ rfl
  obtain ⟨b1, b2, b3, b4⟩ := hD _ rfl
  obtain ⟨D, hDe⟩ : ∃ D, put2 d m (frB (revFr r)) = D := ⟨_, rfl⟩
  rw [hDe] at eY a1 a2 a3 a4 a5 a6 a7 a8 b1 b2 b3 b4
  obtain ⟨D', hD'⟩ : ∃ D', addD { D with now := (doF r.delta d.now).1 } l r = D' := ⟨_, rfl⟩
  have k1 : D'.b = d.b := by rw [← hD']; exact a1
  have k2 : D'.tx = d.tx := by rw [← hD']; exact a2
  have k3 : D'.gn = d.gn := by rw [← hD']; exact a3
  have k4 : D'.sf = d.sf := by rw [← hD']; exact a4
  have k5 : D'.fs = d.fs := by rw [← hD']; exact a5
  have k6 : D'.at' = d.at' := by rw [← hD']; exact a6
  have k7 : D'.tb = addTb d.tb r.who.toNat r.seq (d.b + (l.length : Int) + 1) := by rw [← hD', ← a7, ← a1]; rfl
  have k8 : D'.old = d.old := by rw [← hD']; exact a8
  have k9 : D'.now = (doF r.delta d.now).1 := by rw [← hD']; rfl
  have c1 : DkOk D' := by rw [← hD']; exact b1
  have c2 : ∀ j, datOf D' j = datOf D j := fun j => by rw [← hD']; rfl
  have c3 : ∀ j, safOf D' j = safOf D j := fun j => by rw [← hD']; rfl
  rw [eY, hD']
  refine ⟨rfl, rfl, by show d.b + ((l.length + 1 : Nat) : Int) = _; omega, k1, k2, k3, k4, k5, ?_⟩
  show Arc D' (l ++ [r]) m
  have hx : nextF d.b (tabG d.fs d.b l) l.length (nowG d.tx l).length r = 0 := by rw [← next_eqT h.tb, ← h.now]; exact hn
  have hnew : chainOk d.b d.fs 0 d.tx (l ++ [r]) := by
    rw [chain_app]
    refine ⟨h.ch, ?_, trivial⟩
    have e0 : d.b + ((0 : Nat) : Int) = d.b := by omega
    rw [e0, Nat.zero_add]
    exact hx
  obtain ⟨r1, r2, js, m1, m2, m3, m4, m5⟩ := h.mn
  refine ⟨by rw [k6]; exact h.at', c1, by rw [k3, k1, k2, k5]; exact h.hd, by rw [k1, k5, k2]; exact hnew, ?_, ?_, ?_, ⟨r1, r2 ++ [r], js, ?_, ?_, ?_, ?_, ?_⟩, ?_⟩
  · rw [k7, k5, k1, tabG_app]
    exact h.tb.add _ _ _
  · rw [k9, k2, nowG_app, h.now]; rfl
  · rw [k4, k1, List.length_append]
    have := h.sf
    omega
  · rw [m1, List.append_assoc]
  · rw [k6, c2, b2, m2, k3, k1, k2, k5, enc_snoc]
  · rw [List.length_append]; omega
  · rw [k6, c3, b3, m4, k3, k1, k2, k5, take_snoc m3]
  · rw [k4, k1]; exact m5
  · have ho := h.ot
    obtain _ | ⟨f, c, w⟩ := m
    · show (_ ∧ _) ∨ (_ ∧ _)
      rw [k8, k6, c2, b4, k3]
      exact ho
    · obtain ⟨o1, o2, o3, o4⟩ := ho
      obtain ⟨t1, t2, t3⟩ := at_snoc (r := r) k1 k2 k5 o2
      have hf1 : d.b ≤ f := o2.1
      have hf2 : f ≤ d.b + (l.length : Int) := o2.2
      refine ⟨by rw [k8]; exact o1, by rw [k1, List.length_append]; exact ⟨hf1, by show f ≤ _; omega⟩, by rw [k3]; exact o3, ?_⟩
      rcases o4 with ⟨w1, w2, w3⟩ | ⟨w1, w2, w3, w4⟩ | ⟨w1, w2, w0, s1, s2, ks, w3, w4, w5, w6, w7⟩
      · have w2 : w = false := w2
        subst w2
        exact .inl ⟨w1, rfl, by rw [k6, c2, b4]; exact w3⟩
      · have w2 : w = false := w2
        subst w2
        refine .inr (.inl ⟨w1, rfl, by rw [k1, List.length_append]; have w3 : f + c ≤ d.b + (l.length : Int) := w3; show f + c ≤ _; omega, ?_⟩)
        rw [k6, c2, b4, k3, t1, t2, t3]
        have hs := (suf_chain h o2).2.2.2
        have w1 : 0 ≤ c := w1
        have w3 : f + c ≤ d.b + (l.length : Int) := w3
        rw [take_snoc (by show c.toNat ≤ _; rw [hs]; show c.toNat ≤ (d.b + (l.length : Int) - f).toNat; omega)]
        exact w4
      · have w2 : w = true := w2
        subst w2
        refine .inr (.inr ⟨w1, rfl, w0, s1, s2 ++ [r], ks, ?_, ?_, ?_, ?_, ?_⟩)
        · rw [t3, w3, List.append_assoc]
        · rw [k6, c2, b4, k3, t1, t2, ← enc_snoc, ← w4]; rfl
        · rw [List.length_append]; omega
        · rw [k6, c3, b3, k3, t1, t2, take_snoc w5]; exact w6
        · rw [k4]; exact w7
end Go.Proofs.Ytobngncjflogcaa.AM

set_option linter.unusedVariables false
set_option linter.unusedSimpArgs false
namespace Go.Proofs.Ytobngncjflogcaa.AM
open Go Go.RowKit
set_option maxRecDepth 100000
set_option maxHeartbeats 2000000
theorem arc_addE {d : SC} {l : List Rev} {m : Option Mv} {r : Rev} (hn : nextF d.b d.tb l.length d.now.length r ≠ 0) : shAddM d l m r = ⟨d, l, 0, nextF d.b d.tb l.length d.now.length r⟩ := by
  unfold shAddM
  rw [if_pos hn]
theorem arc_keep {d : SC} {l : List Rev} {m : Option Mv} (h : Arc d l m) (hg : d.gn < 2147483647) (j : Int) : Arc d l (shKeep d l.length m j).1 := by
  unfold shKeep
  split
  · exact h
  · rename_i h1
    split
    · exact h
    · rename_i h2
      obtain _ | ⟨f, c, w⟩ := m
      · have ho : d.old = false := by
          cases he : d.old
          · rfl
          · exact absurd (.inr he) h1
        refine ⟨h.at', h.dk, h.hd, h.ch, h.tb, h.now, h.sf, h.mn, ho, ?_, hg, .inl ⟨rfl, rfl, ?_⟩⟩
        · have ht : thereT d.b l.length j = 0 := Decidable.of_not_not h2
          unfold thereT at ht
          split at ht
          · exact absurd ht (by decide)
          · split at ht
            · exact absurd ht (by decide)
            · show d.b ≤ j ∧ j ≤ d.b + (l.length : Int); omega
        · rcases h.ot with ⟨h3, _⟩ | ⟨_, h3⟩
          · rw [ho] at h3; cases h3
          · exact h3
      · exact absurd (.inl rfl) h1
theorem arc_read {d : SC} {l : List Rev} {f c : Int} (h : Arc d l (some ⟨f, c, true⟩)) :
    ∃ F, EqT F (tabAt d l f) ∧ readL (scanF (datOf d (1 - d.at'))).1 = (⟨d.gn + 1, f, txtAt d l f, F, tabG F f (sufAt d l f), sufAt d l f, true, ((datOf d (1 - d.at')).length : Int)⟩, 0) := by
  obtain ⟨_, hf, hg, ho⟩ := h.ot
  have hf : d.b ≤ f ∧ f ≤ d.b + (l.length : Int) := hf
  rcases ho with ⟨_, hw, _⟩ | ⟨_, hw, _⟩ | ⟨_, _, _, r1, r2, js, e1, e2, _⟩
  · cases hw
  · cases hw
  · have e1 : sufAt d l f = r1 ++ r2 := e1
    have e2 : datOf d (1 - d.at') = encFs (flOf (d.gn + 1) f (txtAt d l f) (tabAt d l f) r1 (some r2)) := e2
    obtain ⟨s1, s2, s3, s4⟩ := suf_chain h hf
    have hh := suf_hd h hf hg
    have hc : chainOk f (tabAt d l f) 0 (txtAt d l f) (r1 ++ (some r2).getD []) := by show chainOk _ _ _ _ (r1 ++ r2); rw [← e1]; exact s1
    obtain ⟨F, hF, hr⟩ := readL_flOf hh hc
    refine ⟨F, hF, ?_⟩
    rw [e2, scan_all _ (flOf_ok s2 (chain_one _ _ _ _ hc)), hr]
    show (LogD.mk _ _ _ _ (tabG F f (r1 ++ r2)) (r1 ++ r2) true _, (0 : Int)) = _
    rw [e1]
theorem arc_stepOk {d : SC} {l : List Rev} {m : Option Mv} (h : Arc d l m) : StepOk d l m := by
  refine ⟨h.shOk, fun f c w hm => ?_⟩
  subst hm
  obtain ⟨_, hf, hg, ho⟩ := h.ot
  have hf : d.b ≤ f ∧ f ≤ d.b + (l.length : Int) := hf
  have hl := h.len
  refine ⟨hf, ?_, fun hc hw => ?_⟩
  · rcases ho with ⟨h1, _⟩ | ⟨_, _, h1, _⟩ | ⟨_, _, h1, _⟩
    · have h1 : c = -1 := h1
      omega
    · have h1 : f + c ≤ d.b + (l.length : Int) := h1
      omega
    · have h1 : c ≤ 64 := h1
      omega
  · subst hw
    have e := (syn_ok2 h.dk h.oat).2.1 (1 - d.at')
    obtain ⟨F, _, hr⟩ := arc_read h
    rw [e, hr]
    obtain ⟨_, _, _, s4⟩ := suf_chain h hf
    refine ⟨(h.dk.slot (1 - d.at')).1, rfl, ⟨by show 0 ≤ f; omega, by show f ≤ _; omega⟩, by show (sufAt d l f).length ≤ 64; rw [s4]; omega⟩
theorem suf_get {d : SC} {l : List Rev} {f c : Int} (hf : d.b ≤ f) (hc : 0 ≤ c) (hlt : f + c < d.b + (l.length : Int)) : ∃ r, l[(f + c - d.b).toNat]? = some r ∧ l.getD (f + c - d.b).toNat rev0 = r ∧ (sufAt d l f).take (c + 1).toNat = (sufAt d l f).take c.toNat ++ [r] := by
  have hi : (f + c - d.b).toNat < l.length := by omega
  refine ⟨l[(f + c - d.b).toNat], List.getElem?_eq_getElem hi, by rw [List.getD_eq_getElem?_getD, List.getElem?_eq_getElem hi]; rfl, ?_⟩
  have e : (c + 1).toNat = c.toNat + 1 := by omega
  unfold sufAt
  rw [e, List.take_add_one, List.getElem?_drop]
  have e2 : (f - d.b).toNat + c.toNat = (f + c - d.b).toNat := by omega
  rw [e2, List.getElem?_eq_getElem hi]
  rfl
theorem shStep_neg {d : SC} {l : List Rev} {f c : Int} {w : Bool} (hc : c < 0) : shStep d l (some ⟨f, c, w⟩) = step1 d l f w (headF (d.gn + 1) f (stextT d l f).1 (tabAt d l f)).1 := by
  show (if c < 0 then _ else _) = _
  rw [if_pos hc]; rfl
/-- what a step does to the texts -/
structure StepS (d : SC) (l : List Rev) (m : Option Mv) (y : StR) : Prop where
  arc : Arc y.d y.l y.m
  same : Same d l y.d y.l
  gn : y.d.gn ≤ d.gn + 1
  sf : d.sf ≤ y.d.sf
theorem step_same {d d' : SC} {l : List Rev} {m m' : Option Mv} {v : Bool} (h : Arc d' l m') (hb : d'.b = d.b) (ht : d'.tx = d.tx) (hg : d'.gn = d.gn) (hs : d'.sf = d.sf) : StepS d l m ⟨d', l, m', v⟩ := ⟨h, .of hb ht, by show d'.gn ≤ _; omega, by show _ ≤ d'.sf; omega⟩
theorem arc_step {d : SC} {l : List Rev} {m : Option Mv} (h : Arc d l m) : StepS d l m (shStep d l m) := by
  obtain ⟨r1, r2, js, m1, m2, m3, m4, m5⟩ := h.mn
  have e1 : (1 : Int) - (1 - d.at') = d.at' := by omega
  obtain _ | ⟨f, c, w⟩ := m
  · -- no move
    show StepS d l none (step0 d l)
    unfold step0
    split
    · rename_i ho
      obtain ⟨q1, q2, q3, q4, q5⟩ := trm_ok2 (n := 0) h.dk h.oat (Nat.zero_le _)
      rw [e1] at q3 q5
      have q2 : datOf (trmS d (1 - d.at') 0) (1 - d.at') = [] := q2
      refine step_same ⟨h.at', q1, h.hd, h.ch, h.tb, h.now, h.sf, ⟨r1, r2, js, m1, ?_, m3, ?_, m5⟩, .inr ⟨rfl, q2⟩⟩ rfl rfl rfl rfl
      · show datOf (trmS d (1 - d.at') 0) d.at' = _
        have q3 : datOf (trmS d (1 - d.at') 0) d.at' = datOf d d.at' := q3
        rw [q3]; exact m2
      · show safOf (trmS d (1 - d.at') 0) d.at' = _
        have q5 : safOf (trmS d (1 - d.at') 0) d.at' = safOf d d.at' := q5
        rw [q5]; exact m4
    · exact step_same h rfl rfl rfl rfl
  obtain ⟨o1, hf, hg, ho⟩ := h.ot
  have hf : d.b ≤ f ∧ f ≤ d.b + (l.length : Int) := hf
  obtain ⟨s1, s2, s3, s4⟩ := suf_chain h hf
  have hh := suf_hd h hf hg
  have hlen := h.len
  rcases ho with ⟨v1, v2, v3⟩ | ⟨v1, v2, v3, v4⟩ | ⟨v1, v2, v0, t1, t2, ks, v3, v4, v5, v6, v7⟩
  · -- the head
    have v1 : c = -1 := v1
    have v2 : w = false := v2
    subst v1 v2
    have hst : shStep d l (some ⟨f, -1, false⟩) = step1 d l f false (headF (d.gn + 1) f (stextT d l f).1 (tabAt d l f)).1 := shStep_neg (by decide)
    rw [hst, stext_at h hf, headF_fr hh]
    unfold step1
    obtain ⟨q1, q2, q3, q4, q5⟩ := trm_ok2 (n := 0) h.dk h.oat (Nat.zero_le _)
    rw [e1] at q3 q5
    have q2 : datOf (trmS d (1 - d.at') 0) (1 - d.at') = [] := q2
    have q3 : datOf (trmS d (1 - d.at') 0) d.at' = datOf d d.at' := q3
    have q5 : safOf (trmS d (1 - d.at') 0) d.at' = safOf d d.at' := q5
    have q1 : DkOk (trmS d (1 - d.at') 0) := q1
    have hfl := (headFr_ok (g := d.gn + 1) (b := f) (t := tabAt d l f) s2).2.2
    obtain ⟨p1, p2, p3, p4⟩ := put_ok2 q1 h.oat (t := frB (headFr (d.gn + 1) f (txtAt d l f) (tabAt d l f))) (by rw [q2, frB_len]; show 0 + _ ≤ _; omega)
    rw [e1] at p3
    refine step_same ⟨h.at', p1, h.hd, h.ch, h.tb, h.now, h.sf, ⟨r1, r2, js, m1, ?_, m3, ?_, m5⟩, o1, hf, hg, .inr (.inl ⟨by show (0 : Int) ≤ 0; decide, rfl, by show f + 0 ≤ d.b + (l.length : Int); omega, ?_⟩)⟩ rfl rfl rfl rfl
    · show datOf (putS (trmS d (1 - d.at') 0) (1 - d.at') _) d.at' = _
      rw [p3, q3]; exact m2
    · show safOf (putS (trmS d (1 - d.at') 0) (1 - d.at') _) d.at' = _
      rw [p4, q5]; exact m4
    · show datOf (putS (trmS d (1 - d.at') 0) (1 - d.at') _) (1 - d.at') = encFs (flOf (d.gn + 1) f (txtAt d l f) (tabAt d l f) ((sufAt d l f).take (0 : Int).toNat) none)
      rw [p2, q2, List.nil_append, enc_head]; rfl
  · have v1 : 0 ≤ c := v1
    have v2 : w = false := v2
    have v3 : f + c ≤ d.b + (l.length : Int) := v3
    have v4 : datOf d (1 - d.at') = encFs (flOf (d.gn + 1) f (txtAt d l f) (tabAt d l f) ((sufAt d l f).take c.toNat) none) := v4
    subst v2
    have hol : (datOf d (1 - d.at')).length ≤ 264462 := by
      rw [v4]
      refine flOf_enc_len s2 (o := none) (fun r hr => ?_) ?_
      · rw [Option.getD_none, List.append_nil] at hr
        exact chain_one _ _ _ _ s1 r (List.mem_of_mem_take hr)
      · rw [Option.getD_none, List.append_nil, List.length_take, s4]; omega
    have hst : shStep d l (some ⟨f, c, false⟩) = step2 d l f c (fun r => (revF r).1) (putFr 3 []).1 := by
      show (if c < 0 then _ else _) = _
      rw [if_neg (by omega), if_pos rfl]
    rw [hst]
    unfold step2
    by_cases hlt : f + c < d.b + (l.length : Int)
    · -- a revision
      rw [if_pos hlt]
      obtain ⟨r, g1, g2, g3⟩ := suf_get hf.1 v1 hlt
      have hr1 := chain_one _ _ _ _ h.ch r (List.mem_of_getElem? g1)
      rw [g2]
      have er : (fun r => (revF r).1) r = frB (revFr r) := by show (revF r).1 = _; rw [revF_fr hr1]
      rw [er]
      have hrl := (revFr_ok hr1).2.2
      obtain ⟨p1, p2, p3, p4⟩ := put_ok2 h.dk h.oat (t := frB (revFr r)) (by rw [frB_len]; omega)
      rw [e1] at p3
      refine step_same ⟨h.at', p1, h.hd, h.ch, h.tb, h.now, h.sf, ⟨r1, r2, js, m1, ?_, m3, ?_, m5⟩, o1, hf, hg, .inr (.inl ⟨by show (0 : Int) ≤ c + 1; omega, rfl, by show f + (c + 1) ≤ d.b + (l.length : Int); omega, ?_⟩)⟩ rfl rfl rfl rfl
      · show datOf (putS d (1 - d.at') _) d.at' = _
        rw [p3]; exact m2
      · show safOf (putS d (1 - d.at') _) d.at' = _
        rw [p4]; exact m4
      · show datOf (putS d (1 - d.at') _) (1 - d.at') = encFs (flOf (d.gn + 1) f (txtAt d l f) (tabAt d l f) ((sufAt d l f).take (c + 1).toNat) none)
        rw [p2, v4, g3, enc_snoc1]
    · -- Done
      rw [if_neg hlt, done_fr]
      have hdl : (frB doneFr).length = 7 := by rw [frB_len]; rfl
      obtain ⟨p1, p2, p3, p4⟩ := put_ok2 h.dk h.oat (t := frB doneFr) (by omega)
      rw [e1] at p3
      have hall : (sufAt d l f).take c.toNat = sufAt d l f := List.take_of_length_le (by rw [s4]; omega)
      refine step_same ⟨h.at', p1, h.hd, h.ch, h.tb, h.now, h.sf, ⟨r1, r2, js, m1, ?_, m3, ?_, m5⟩, o1, hf, hg, .inr (.inr ⟨v1, rfl, by show c ≤ 64; omega, sufAt d l f, [], 0, ?_, ?_, Nat.zero_le _, .inl rfl, ?_⟩)⟩ rfl rfl rfl rfl
      · show datOf (putS d (1 - d.at') _) d.at' = _
        rw [p3]; exact m2
      · show safOf (putS d (1 - d.at') _) d.at' = _
        rw [p4]; exact m4
      · show sufAt d l f = _
        rw [List.append_nil]
      · show datOf (putS d (1 - d.at') _) (1 - d.at') = encFs (flOf (d.gn + 1) f (txtAt d l f) (tabAt d l f) (sufAt d l f) (some []))
        rw [p2, v4, hall, enc_done]
      · show d.sf ≤ f + ((sufAt d l f).length : Int) + ((0 : Nat) : Int)
        have := h.sf
        rw [s4]; omega
  · -- over
    have v1 : 0 ≤ c := v1
    have v2 : w = true := v2
    subst v2
    have v3 : sufAt d l f = t1 ++ t2 := v3
    have v4 : datOf d (1 - d.at') = encFs (flOf (d.gn + 1) f (txtAt d l f) (tabAt d l f) t1 (some t2)) := v4
    obtain ⟨q1, q2, q3, q4⟩ := syn_ok2 h.dk h.oat
    rw [e1] at q4
    obtain ⟨F, hF, hr⟩ := arc_read h
    have hst : shStep d l (some ⟨f, c, true⟩) = step3 d ⟨d.gn + 1, f, txtAt d l f, F, tabG F f (sufAt d l f), sufAt d l f, true, ((datOf d (1 - d.at')).length : Int)⟩ := by
      show (if c < 0 then _ else _) = _
      rw [if_neg (by omega), if_neg (by simp), q2, hr]
    rw [hst]
    have hsl : d.b + (l.length : Int) = f + ((sufAt d l f).length : Int) := by rw [s4]; omega
    have hsl2 : (sufAt d l f).length = t1.length + t2.length := by rw [v3, List.length_append]
    refine ⟨⟨h.oat, q1, hh.eqT hF.symm, chain_eqT _ _ _ _ _ hF.symm s1, EqT.refl _, ?_, Int.le_refl _, ⟨t1, t2, t2.length, v3, ?_, Nat.le_refl _, ?_, ?_⟩, .inl ⟨rfl, ?_⟩⟩, ⟨?_, hf.1, fun r hr1 hr2 => ?_⟩, Int.le_refl _, ?_⟩
    · show d.now = nowG (txtAt d l f) (sufAt d l f)
      rw [h.now]
      unfold txtAt sufAt
      rw [← nowG_app, List.take_append_drop]
    · show datOf (synS d (1 - d.at')) (1 - d.at') = encFs (flOf (d.gn + 1) f (txtAt d l f) F t1 (some t2))
      rw [q2, v4, flOf_eqT hF]
    · show safOf (synS d (1 - d.at')) (1 - d.at') = ((encFs (flOf (d.gn + 1) f (txtAt d l f) F t1 (some (t2.take t2.length)))).length : Int)
      rw [q3, v4, flOf_eqT hF, List.take_length]
    · show f + ((sufAt d l f).length : Int) ≤ f + (t1.length : Int) + (t2.length : Int)
      omega
    · show Low (datOf (synS d (1 - d.at')) (1 - (1 - d.at'))) (d.gn + 1)
      rw [e1, q2]
      exact ⟨d.gn, d.b, d.tx, d.fs, r1, some r2, h.hd, by show chainOk _ _ _ _ (r1 ++ r2); rw [← m1]; exact h.ch, m2, by omega⟩
    · show f + ((sufAt d l f).length : Int) = _
      exact hsl.symm
    · show nowG (txtAt d l f) ((sufAt d l f).take (r - f).toNat) = txtAt d l r
      have hr1 : f ≤ r := hr1
      unfold txtAt sufAt
      rw [← nowG_app]
      congr 1
      have e2 : (r - d.b).toNat = (f - d.b).toNat + (r - f).toNat := by omega
      rw [e2, List.take_add]
    · show d.sf ≤ f + ((sufAt d l f).length : Int)
      have := h.sf
      omega
end Go.Proofs.Ytobngncjflogcaa.AM

set_option linter.unusedVariables false
set_option linter.unusedSimpArgs false
namespace Go.Proofs.Ytobngncjflogcaa.AM
open Go
set_option maxRecDepth 100000
set_option maxHeartbeats 2000000
def pinBad (r : Int) : Bool := decide (r < 0) || decide (2147483647 < r)
def polF (p : Pol) : Int := if p.last < 1 ∨ 2147483647 < p.last ∨ p.every < 0 ∨ 2147483647 < p.every then 1 else if 16 < p.pins.length then 2 else if p.pins.any pinBad then 1 else 0
def keptF (last every : Int) (pins : List Int) (head r : Int) : Bool := decide (head - last < r) || (decide (0 < every) && decide (r % every = 0)) || decide (r ∈ pins)
def keptL (last every : Int) (pins : List Int) (head : Int) : Nat → List Int
  | 0 => []
  | n + 1 => keptL last every pins head n ++ (if keptF last every pins head n then [(n : Int)] else [])
theorem keptL_len (last every : Int) (pins : List Int) (head : Int) (n : Nat) : (keptL last every pins head n).length ≤ n := by
  induction n with
  | zero => simp [keptL]
  | succ n ih => unfold keptL; split <;> simp <;> omega
theorem polF_ok {p : Pol} (h : polF p = 0) : 1 ≤ p.last ∧ p.last ≤ 2147483647 ∧ 0 ≤ p.every ∧ p.every ≤ 2147483647 ∧ p.pins.length ≤ 16 := by
  unfold polF at h
  split at h
  · contradiction
  · split at h
    · contradiction
    · omega
def ac_kcheck : AC := .seq (.region false [
    ⟨some 1, none, .box 53 3 (.t 0)⟩,
    ⟨some 2, none, .mov (.c (.int .i64 0))⟩])
  (.seq (.seq (.region false [
    ⟨some 5, none, .faddr 0 (.t 1)⟩,
    ⟨some 6, none, .load1 (.t 5)⟩,
    ⟨some 7, none, .bin .lss (.t 6) (.c (.int .i64 1))⟩,
    ⟨some 8, none, .mov (.t 7)⟩,
    ⟨some 9, some (8, false), .faddr 0 (.t 1)⟩,
    ⟨some 10, some (8, false), .load1 (.t 9)⟩,
    ⟨some 11, some (8, false), .bin .gtr (.t 10) (.c (.int .i64 2147483647))⟩,
    ⟨some 12, none, .pick (.t 8) (.c (.bool true)) (.t 11)⟩,
    ⟨some 13, none, .mov (.t 12)⟩,
    ⟨some 14, some (13, false), .faddr 1 (.t 1)⟩,
    ⟨some 15, some (13, false), .load1 (.t 14)⟩,
    ⟨some 16, some (13, false), .bin .lss (.t 15) (.c (.int .i64 0))⟩,
    ⟨some 17, none, .pick (.t 13) (.c (.bool true)) (.t 16)⟩,
    ⟨some 18, none, .mov (.t 17)⟩,
    ⟨some 19, some (18, false), .faddr 1 (.t 1)⟩,
    ⟨some 20, some (18, false), .load1 (.t 19)⟩,
    ⟨some 21, some (18, false), .bin .gtr (.t 20) (.c (.int .i64 2147483647))⟩,
    ⟨some 22, none, .pick (.t 18) (.c (.bool true)) (.t 21)⟩])
  (.cond (.t 22)
    (.seq (.region false [
      ⟨some 2, none, .mov (.c (.int .i64 1))⟩])
    (.ret))
    (.skip)))
  (.seq (.seq (.region false [
    ⟨some 23, none, .faddr 2 (.t 1)⟩,
    ⟨some 24, none, .load1 (.t 23)⟩,
    ⟨some 25, none, .len false (.t 24)⟩,
    ⟨some 26, none, .bin .gtr (.t 25) (.c (.int .i64 16))⟩])
  (.cond (.t 26)
    (.seq (.region false [
      ⟨some 2, none, .mov (.c (.int .i64 2))⟩])
    (.ret))
    (.skip)))
  (.seq (.seq (.region false [
    ⟨some 27, none, .faddr 2 (.t 1)⟩,
    ⟨some 28, none, .load1 (.t 27)⟩,
    ⟨some 29, none, .len false (.t 28)⟩,
    ⟨some 30, none, .mov (.c (.int .i64 0))⟩])
  (.block 0 (.loop (.seq (.region false [
      ⟨some 31, none, .bin .lss (.t 30) (.t 29)⟩])
    (.seq (.cond (.t 31)
      (.skip)
      (.exit 0))
    (.seq (.block 1 (.seq (.region false [
      ⟨some 32, none, .iaddr 1 (.t 28) (.t 30)⟩,
      ⟨some 33, none, .load1 (.t 32)⟩,
      ⟨some 4, none, .mov (.t 33)⟩])
    (.seq (.region false [
      ⟨some 34, none, .mov (.t 4)⟩,
      ⟨some 35, none, .bin .lss (.t 34) (.c (.int .i64 0))⟩,
      ⟨some 36, none, .mov (.t 35)⟩,
      ⟨some 37, some (36, false), .mov (.t 4)⟩,
      ⟨some 38, some (36, false), .bin .gtr (.t 37) (.c (.int .i64 2147483647))⟩,
      ⟨some 39, none, .pick (.t 36) (.c (.bool true)) (.t 38)⟩])
    (.cond (.t 39)
      (.seq (.region false [
        ⟨some 2, none, .mov (.c (.int .i64 1))⟩])
      (.ret))
      (.skip)))))
    (.region false [
      ⟨some 40, none, .bin .add (.t 30) (.c (.int .i64 1))⟩,
      ⟨some 30, none, .mov (.t 40)⟩])))))))
  (.seq (.region false [
    ⟨some 2, none, .mov (.c (.int .i64 0))⟩])
  (.ret)))))
theorem ok_kcheck : FnOk Try.prog 63 Try.f63 ac_kcheck [.t 2] 1 drawD := ⟨Try.func63, by decide +kernel, by kernel_rfl, by kernel_rfl, by decide +kernel⟩
theorem vc_kcheck (P : Prim) (hP : P = std) (T T1 : CallT) (a e : Int) (l : List Int) (rows : List (List V)) (hrows : rows = iRows l) (r : Int) (hr : polF ⟨a, e, l⟩ = r)
    (R : S → Prop) (hR : ∀ s s' q, q = r → Ent s s' → Ret [.t 2] [.int .i64 q] s' → R s) : awp P T T1 ac_kcheck (S0 [.agg [.int .i64 a, .int .i64 e, .sl false 1 rows]] Hp.emp) R (fun _ _ => False) R := by
  have hl1 : P.rlen rows = (l.length : Int) := by rw [rlen_eq hP, hrows]; simp [iRows]
  have bad : (a < 1 ∨ 2147483647 < a ∨ e < 0 ∨ 2147483647 < e) → 1 = r := by intro h; rw [← hr]; unfold polF; rw [if_pos h]
  cbv
  intro β1
  cbv
  refine br_cases (fun h => ?_) (fun h => ?_)
  · have := lt_t hP h
    cbv
    exact hR _ _ _ (bad (by omega)) (Ent.refl _) rfl
  have n1 := lt_f hP h
  cbv
  refine br_cases (fun h => ?_) (fun h => ?_)
  · have := lt_t hP h
    cbv
    exact hR _ _ _ (bad (by omega)) (Ent.refl _) rfl
  have n2 := lt_f hP h
  cbv
  refine br_cases (fun h => ?_) (fun h => ?_)
  · have := lt_t hP h
    cbv
    exact hR _ _ _ (bad (by omega)) (Ent.refl _) rfl
  have n3 := lt_f hP h
  cbv
  refine br_cases (fun h => ?_) (fun h => ?_)
  · have := lt_t hP h
    cbv
    exact hR _ _ _ (bad (by omega)) (Ent.refl _) rfl
  have n4 := lt_f hP h
  have hr2 : (if 16 < l.length then 2 else if l.any pinBad then 1 else 0) = r := by rw [← hr]; unfold polF; exact (if_neg (by simp only []; omega)).symm
  cbv
  refine br_cases (fun h => ?_) (fun h => ?_)
  · have h5 : 16 < P.rlen rows := lt_t hP h
    rw [hl1] at h5
    rw [if_pos (by ((try simp only [nc] at *); omega))] at hr2
    cbv
    exact hR _ _ _ hr2 (Ent.refl _) rfl
  have h5 : ¬ 16 < P.rlen rows := lt_f hP h
  rw [hl1] at h5
  have hl16 : l.length ≤ 16 := by ((try simp only [nc] at *); omega)
  rw [if_neg (by omega)] at hr2
  clear bad h
  cbv
  refine ⟨{ y : YIx Int l // y.pre.any pinBad = false }, fun y => [(28, .sl false 1 rows), (29, .int .i64 (P.rlen rows)), (30, .int .i64 y.1.k)], fun y => [], fun y => y.1.rest.length,
    ⟨_, Ent.refl _, ⟨⟨0, [], l, rfl, rfl⟩, rfl⟩, ⟨rfl, rfl, rfl, trivial⟩, trivial⟩, ?_⟩
  rintro ⟨⟨k, pre, rest, hd, hk⟩, hpre⟩
  simp only [] at hpre
  have hlp : pre.length + rest.length = l.length := by rw [hd]; simp
  cbv
  refine br_cases (fun h => ?_) (fun h => ?_)
  · have h5 : k < P.rlen rows := lt_t hP h
    rw [hl1] at h5
    rcases rest with _ | ⟨x, rest⟩
    · exfalso; simp at hlp; ((try simp only [nc] at *); omega)
    have hrow : P.row rows (P.nat k) [.int .i64 x] := row_of hP hk (by rw [hrows, iRows, List.getElem?_map, hd]; simp)
    have q1 : P.leP 0 k := le0 hP (by ((try simp only [nc] at *); omega))
    have q2 : P.i64 (P.add k 1) := by rw [add_eq hP]; exact i64I hP (by ((try simp only [nc] at *); omega))
    have bad : pinBad x = true → 1 = r := by
      intro hb
      rw [if_pos (by rw [hd]; simp [hb])] at hr2
      exact hr2
    cbv
    refine ⟨q1, _, hrow, ?_⟩
    cbv
    refine br_cases (fun h => ?_) (fun h => ?_)
    · have := lt_t hP h
      cbv
      exact hR _ _ _ (bad (by simp [pinBad, this])) (Ent.refl _) rfl
    have m1 := lt_f hP h
    cbv
    refine br_cases (fun h => ?_) (fun h => ?_)
    · have := lt_t hP h
      cbv
      exact hR _ _ _ (bad (by simp [pinBad, this])) (Ent.refl _) rfl
    have m2 := lt_f hP h
    cbv
    refine ⟨q2, ?_⟩
    refine ⟨_, Ent.refl _, ⟨⟨_, pre ++ [x], rest, by simp [hd], ?_⟩, ?_⟩, ⟨rfl, rfl, rfl, trivial⟩, trivial, by simp⟩
    · show P.add k 1 = _; rw [add_eq hP, hk]; simp
    · show (pre ++ [x]).any pinBad = false
      rw [List.any_append, hpre]; simp [pinBad]; omega
  · have h5 : ¬ k < P.rlen rows := lt_f hP h
    rw [hl1] at h5
    rcases rest with _ | ⟨a, rest⟩
    rotate_left
    · exfalso; simp at hlp; ((try simp only [nc] at *); omega)
    rw [List.append_nil] at hd
    rw [hd, hpre] at hr2
    cbv
    exact hR _ _ _ hr2 (Ent.refl _) rfl
theorem sp_kcheck (p : Pol) : Spec Try.prog 63 [.agg (encPol p)] Hp.emp (Is (.int .i64 (polF p))) :=
  spec_pure dOk ok_kcheck [.int .i64 (polF p)] (.int _ _) fun R hR => vc_kcheck std rfl _ _ p.last p.every p.pins _ rfl _ rfl R fun s s' q h he hr => by subst h; exact hR s s' he hr

def ac_kept : AC := .seq (.region false [
    ⟨some 3, none, .box 53 3 (.t 0)⟩,
    ⟨some 6, none, .mov (.c (.bool false))⟩])
  (.seq (.region false [
    ⟨some 7, none, .mov (.t 2)⟩,
    ⟨some 8, none, .mov (.t 1)⟩,
    ⟨some 9, none, .faddr 0 (.t 3)⟩,
    ⟨some 10, none, .load1 (.t 9)⟩,
    ⟨some 11, none, .bin .sub (.t 8) (.t 10)⟩,
    ⟨some 12, none, .bin .gtr (.t 7) (.t 11)⟩,
    ⟨some 13, none, .mov (.t 12)⟩,
    ⟨some 14, some (13, false), .faddr 1 (.t 3)⟩,
    ⟨some 15, some (13, false), .load1 (.t 14)⟩,
    ⟨some 16, some (13, false), .bin .gtr (.t 15) (.c (.int .i64 0))⟩,
    ⟨some 17, some (13, false), .mov (.t 16)⟩,
    ⟨some 18, some (17, true), .mov (.t 2)⟩,
    ⟨some 19, some (17, true), .faddr 1 (.t 3)⟩,
    ⟨some 20, some (17, true), .load1 (.t 19)⟩,
    ⟨some 21, some (17, true), .bin .rem (.t 18) (.t 20)⟩,
    ⟨some 22, some (17, true), .bin .eql (.t 21) (.c (.int .i64 0))⟩,
    ⟨some 23, some (13, false), .pick (.t 17) (.t 22) (.c (.bool false))⟩,
    ⟨some 24, none, .pick (.t 13) (.c (.bool true)) (.t 23)⟩,
    ⟨some 25, none, .mov (.t 24)⟩,
    ⟨some 26, some (25, false), .faddr 2 (.t 3)⟩,
    ⟨some 27, some (25, false), .load1 (.t 26)⟩,
    ⟨some 28, some (25, false), .mov (.t 2)⟩,
    ⟨some 29, some (25, false), .call 15 [(.t 27), (.t 28)]⟩,
    ⟨some 30, none, .pick (.t 25) (.c (.bool true)) (.t 29)⟩,
    ⟨some 6, none, .mov (.t 30)⟩])
  (.ret))
theorem ok_kept : FnOk Try.prog 64 Try.f64 ac_kept [.t 6] 3 drawD := ⟨Try.func64, by decide +kernel, by kernel_rfl, by kernel_rfl, by decide +kernel⟩
theorem vc_kept (P : Prim) (hP : P = std) (T T1 : CallT) (a e : Int) (l : List Int) (rows : List (List V)) (head x : Int) (ha : 1 ≤ a ∧ a ≤ 2147483647) (he : 0 ≤ e ∧ e ≤ 2147483647) (hh : 0 ≤ head ∧ head ≤ 640) (hx : 0 ≤ x ∧ x ≤ 640) (c : Bool) (hc : c = decide (x ∈ l))
    (hc1 : Ans T 15 [.sl false 1 rows, .int .i64 x] (.bool c)) (r : Bool) (hr : keptF a e l head x = r)
    (R : S → Prop) (hR : ∀ s s' q, q = r → Ent s s' → Ret [.t 6] [.bool q] s' → R s) : awp P T T1 ac_kept (S0 [.agg [.int .i64 a, .int .i64 e, .sl false 1 rows], .int .i64 head, .int .i64 x] Hp.emp) R (fun _ _ => False) R := by
  have o1 : P.i64 (P.sub head a) := by rw [sub_eq hP]; exact i64I hP (by omega)
  have o2 : P.leP 0 x := le0 hP hx.1
  unfold keptF at hr
  rw [← hc] at hr
  cbv
  intro β3
  cbv
  refine ⟨o1, ?_⟩
  refine br_cases (fun h => ?_) (fun h => ?_)
  · have h1 : P.sub head a < x := lt_t hP h
    rw [sub_eq hP] at h1
    cbv
    refine hR _ _ _ ?_ (Ent.refl _) rfl
    rw [← hr]; simp [h1]
  have h1 : ¬ P.sub head a < x := lt_f hP h
  rw [sub_eq hP] at h1
  rw [decide_eq_false h1, Bool.false_or] at hr
  cbv
  refine br_cases (fun h => ?_) (fun h => ?_)
  · have h2 : 0 < e := lt_t hP h
    have o3 : P.ltP 0 e := ltI hP h2
    rw [decide_eq_true h2, Bool.true_and] at hr
    cbv
    refine ⟨o2, o3, ?_⟩
    refine br_cases (fun h => ?_) (fun h => ?_)
    · have h3 : P.mod x e = 0 := eq_t hP h
      have h4 : x % e = 0 := by subst hP; exact h3
      cbv
      refine hR _ _ _ ?_ (Ent.refl _) rfl
      rw [← hr]; simp [h4]
    · have h3 : ¬ P.mod x e = 0 := eq_f hP h
      have h4 : ¬ x % e = 0 := by subst hP; exact h3
      rw [decide_eq_false h4, Bool.false_or] at hr
      cbv
      refine hc1 _ _ ?_
      cbv
      exact hR _ _ _ hr (Ent.refl _) rfl
  · have h2 : ¬ 0 < e := lt_f hP h
    rw [decide_eq_false h2, Bool.false_and, Bool.false_or] at hr
    cbv
    refine hc1 _ _ ?_
    cbv
    exact hR _ _ _ hr (Ent.refl _) rfl
theorem sp_kept (p : Pol) (hp : polF p = 0) (head x : Int) (hh : 0 ≤ head ∧ head ≤ 640) (hx : 0 ≤ x ∧ x ≤ 640) : Spec Try.prog 64 [.agg (encPol p), .int .i64 head, .int .i64 x] Hp.emp (Is (.bool (keptF p.last p.every p.pins head x))) := by
  obtain ⟨h1, h2, h3, h4, h5⟩ := polF_ok hp
  exact spec_pure dOk ok_kept [.bool _] (.bool _) fun R hR => vc_kept std rfl _ _ p.last p.every p.pins _ head x ⟨h1, h2⟩ ⟨h3, h4⟩ hh hx _ rfl (ansIn (sp_contains p.pins (by omega) x) rfl rfl) _ rfl R fun s s' q h he hr => by subst h; exact hR s s' he hr
def ofF (p : Pol) (head : Int) : List Int × Int := if polF p ≠ 0 then ([], polF p) else if head < 0 ∨ 640 < head then ([], 1) else (keptL p.last p.every p.pins head (head.toNat + 1), 0)
structure YKp (a e : Int) (l : List Int) (head : Int) where
  i : Nat
  k : Int
  n : Nat
  b : Option Nat
  rows : List (List V)
  hk : k = (i : Int)
  hi : k ≤ head + 1
  hrows : rows = iRows (keptL a e l head i)
  hn : n = (keptL a e l head i).length
def ac_kof : AC := .seq (.region false [
    ⟨some 2, none, .box 53 3 (.t 0)⟩,
    ⟨some 4, none, .mov (.c (.slice none 0 0))⟩,
    ⟨some 5, none, .mov (.c (.int .i64 0))⟩])
  (.seq (.seq (.region false [
    ⟨some 9, none, .loadn 3 (.t 2)⟩,
    ⟨some 10, none, .call 63 [(.t 9)]⟩,
    ⟨some 6, none, .mov (.t 10)⟩])
  (.seq (.region false [
    ⟨some 11, none, .mov (.t 6)⟩,
    ⟨some 12, none, .bin .neq (.t 11) (.c (.int .i64 0))⟩])
  (.cond (.t 12)
    (.seq (.region false [
      ⟨some 13, none, .mov (.t 6)⟩,
      ⟨some 4, none, .mov (.c (.slice none 0 0))⟩,
      ⟨some 5, none, .mov (.t 13)⟩])
    (.ret))
    (.skip))))
  (.seq (.seq (.region false [
    ⟨some 14, none, .mov (.t 1)⟩,
    ⟨some 15, none, .bin .lss (.t 14) (.c (.int .i64 0))⟩,
    ⟨some 16, none, .mov (.t 15)⟩,
    ⟨some 17, some (16, false), .mov (.t 1)⟩,
    ⟨some 18, some (16, false), .bin .gtr (.t 17) (.c (.int .i64 640))⟩,
    ⟨some 19, none, .pick (.t 16) (.c (.bool true)) (.t 18)⟩])
  (.cond (.t 19)
    (.seq (.region false [
      ⟨some 4, none, .mov (.c (.slice none 0 0))⟩,
      ⟨some 5, none, .mov (.c (.int .i64 1))⟩])
    (.ret))
    (.skip)))
  (.seq (.region false [
    ⟨some 7, none, .mov (.c (.slice none 0 0))⟩])
  (.seq (.seq (.region false [
    ⟨some 20, none, .mov (.t 1)⟩,
    ⟨some 21, none, .bin .add (.t 20) (.c (.int .i64 1))⟩,
    ⟨some 22, none, .mov (.c (.int .i64 0))⟩])
  (.block 0 (.loop (.seq (.region false [
      ⟨some 23, none, .bin .lss (.t 22) (.t 21)⟩])
    (.seq (.cond (.t 23)
      (.skip)
      (.exit 0))
    (.seq (.block 1 (.seq (.region false [
      ⟨some 24, none, .mov (.t 22)⟩,
      ⟨some 8, none, .mov (.t 24)⟩])
    (.seq (.region false [
      ⟨some 25, none, .loadn 3 (.t 2)⟩,
      ⟨some 26, none, .mov (.t 1)⟩,
      ⟨some 27, none, .mov (.t 8)⟩,
      ⟨some 28, none, .call 64 [(.t 25), (.t 26), (.t 27)]⟩])
    (.cond (.t 28)
      (.region false [
        ⟨some 29, none, .mov (.t 7)⟩,
        ⟨some 30, none, .mov (.t 8)⟩,
        ⟨some 31, none, .bslice 3 1 [(.t 30)]⟩,
        ⟨some 32, none, .append 3 1 8 (.t 29) (.t 31)⟩,
        ⟨some 7, none, .mov (.t 32)⟩])
      (.skip)))))
    (.region false [
      ⟨some 33, none, .bin .add (.t 22) (.c (.int .i64 1))⟩,
      ⟨some 22, none, .mov (.t 33)⟩])))))))
  (.seq (.region false [
    ⟨some 34, none, .mov (.t 7)⟩,
    ⟨some 4, none, .mov (.t 34)⟩,
    ⟨some 5, none, .mov (.c (.int .i64 0))⟩])
  (.ret))))))
theorem ok_kof : FnOk Try.prog 19 Try.f19 ac_kof [.t 4, .t 5] 2 drawD := ⟨Try.func19, by decide +kernel, by kernel_rfl, by kernel_rfl, by decide +kernel⟩
theorem vc_kof (P : Prim) (hP : P = std) (T T1 : CallT) (a e : Int) (l : List Int) (rows : List (List V)) (head c : Int)
    (hc1 : Ans T 63 [.agg [.int .i64 a, .int .i64 e, .sl false 1 rows]] (.int .i64 c)) (kF : Int → Bool) (hkF : ∀ x, kF x = keptF a e l head x)
    (hkept : c = 0 → 0 ≤ head → head ≤ 640 → ∀ x, 0 ≤ x → x ≤ 640 → Ans T 64 [.agg [.int .i64 a, .int .i64 e, .sl false 1 rows], .int .i64 head, .int .i64 x] (.bool (kF x)))
    (r : List Int) (re : Int) (g1 : c ≠ 0 → r = [] ∧ c = re) (g2 : c = 0 → head < 0 ∨ 640 < head → r = [] ∧ 1 = re) (g3 : c = 0 → 0 ≤ head → head ≤ 640 → keptL a e l head (head.toNat + 1) = r ∧ 0 = re)
    (R : S → Prop) (hR : ∀ x, x = re → RetSl [.t 4, .t 5] 1 (iRows r) [.int .i64 x] R) : awp P T T1 ac_kof (S0 [.agg [.int .i64 a, .int .i64 e, .sl false 1 rows], .int .i64 head] Hp.emp) R (fun _ _ => False) R := by
  cbv
  intro β2
  cbv
  refine hc1 _ _ ?_
  cbv
  refine br_cases (fun h => ?_) (fun h => ?_)
  · have hz := ne_t hP h
    obtain ⟨q1, q2⟩ := g1 hz
    cbv
    exact (hR _ q2).1 _ _ (Ent.refl _) rfl (by rw [q1]; rfl)
  have hz := ne_f hP h
  cbv
  refine br_cases (fun h => ?_) (fun h => ?_)
  · have hy := lt_t hP h
    obtain ⟨q1, q2⟩ := g2 hz (.inl hy)
    cbv
    exact (hR _ q2).1 _ _ (Ent.refl _) rfl (by rw [q1]; rfl)
  have hy1 := lt_f hP h
  cbv
  refine br_cases (fun h => ?_) (fun h => ?_)
  · have hy := lt_t hP h
    obtain ⟨q1, q2⟩ := g2 hz (.inr hy)
    cbv
    exact (hR _ q2).1 _ _ (Ent.refl _) rfl (by rw [q1]; rfl)
  have hy2 := lt_f hP h
  have hk := hkept hz (by omega) (by omega)
  obtain ⟨g4, g5⟩ := g3 hz (by omega) (by omega)
  have o1 : P.i64 (P.add head 1) := by rw [add_eq hP]; exact i64I hP (by omega)
  clear hkept g1 g2 g3 h hc1
  cbv
  refine ⟨o1, ?_⟩
  refine ⟨YKp a e l head, fun y => [(1, .int .i64 head), (2, .ptr 2 (some β2) 3 0 0), (7, .own 1000032 y.b 1 y.n), (21, .int .i64 (P.add head 1)), (22, .int .i64 y.k)],
    fun y => [(2, ⟨some β2, 53, 3, [[.int .i64 a, .int .i64 e, .sl false 1 rows]]⟩), (1000032, ⟨y.b, 3, 1, y.rows⟩)], fun y => (head + 1 - y.k).toNat,
    ⟨_, Ent.nil (i := 7) (k := 1000032) (ty := 3) (sz := 1) rfl rfl, ⟨0, 0, _, _, _, rfl, by omega, rfl, rfl⟩, ⟨rfl, rfl, rfl, rfl, rfl, trivial⟩, ⟨rfl, rfl, trivial⟩⟩, ?_⟩
  rintro ⟨i, k, n, b, rows2, hki, hi, hrows2, hn⟩
  have hlen := keptL_len a e l head i
  cbv
  refine br_cases (fun h => ?_) (fun h => ?_)
  · have h5 : k < P.add head 1 := lt_t hP h
    rw [add_eq hP] at h5
    have c1 := hk k (by ((try simp only [nc] at *); omega)) (by ((try simp only [nc] at *); omega))
    have q2 : P.i64 (P.add k 1) := by rw [add_eq hP]; exact i64I hP (by ((try simp only [nc] at *); omega))
    have q3 : P.add k 1 = ((i + 1 : Nat) : Int) := by rw [add_eq hP, hki]; ((try simp only [nc] at *); omega)
    have ho5 : P.neP rows2 n := by subst hP; show rows2.length = n; rw [hrows2, hn]; simp [iRows]
    have ho6 : ∀ r, P.bytes (P.add (P.int n) (P.rlen [r])) 8 := by intro r; subst hP; show ((n : Int) + 1) * 8 ≤ _; ((try simp only [nc] at *); omega)
    have ho7 : ∀ r, P.neP [r] 1 := by intro r; subst hP; rfl
    have hm : (head + 1 - P.add k 1).toNat < (head + 1 - k).toNat := by rw [add_eq hP]; omega
    have hi' : P.add k 1 ≤ head + 1 := by rw [add_eq hP]; omega
    have hst : keptL a e l head (i + 1) = keptL a e l head i ++ (if kF k then [k] else []) := by rw [hkF, hki]; rfl
    cbv
    refine c1 _ _ ?_
    cbv
    refine br_cases (fun h => ?_) (fun h => ?_)
    · rw [if_pos h] at hst
      cbv
      repeat' (first
        | (refine And.intro (by assumption) ?_; try cbv)
        | (refine And.intro (ho7 _) ?_; try cbv)
        | (refine And.intro (ho6 _) ?_; try cbv)
        | (intro β; try cbv))
      refine ⟨_, Ent.refl _, ⟨i + 1, _, _, _, _, q3, hi', ?_, ?_⟩, ⟨rfl, rfl, rfl, rfl, rfl, trivial⟩, ⟨rfl, rfl, trivial⟩, hm⟩
      · show P.rapp rows2 [[.int .i64 k]] = _
        rw [hst, hrows2]; subst hP; simp [std, iRows]
      · show P.nadd n (P.rlenN [_]) = _
        rw [hst, hn]; subst hP; simp [std]
    · rw [if_neg (by rw [h]; decide), List.append_nil] at hst
      cbv
      refine ⟨q2, ?_⟩
      exact ⟨_, Ent.refl _, ⟨i + 1, _, _, _, _, q3, hi', by rw [hst]; exact hrows2, by rw [hst]; exact hn⟩, ⟨rfl, rfl, rfl, rfl, rfl, trivial⟩, ⟨rfl, rfl, trivial⟩, hm⟩
  · have h5 : ¬ k < P.add head 1 := lt_f hP h
    rw [add_eq hP] at h5
    have e1 : head.toNat + 1 = i := by ((try simp only [nc] at *); omega)
    rw [e1] at g4
    cbv
    exact (hR _ g5).2.1 _ _ _ _ _ _ _ (Ent.refl _) rfl rfl ⟨by rw [hn, g4]; simp [iRows], by rw [hrows2, g4]⟩
theorem sp_kof (p : Pol) (head : Int) : Spec Try.prog 19 [.agg (encPol p), .int .i64 head] Hp.emp (Is (.tup [.sl false 1 (iRows (ofF p head).1), .int .i64 (ofF p head).2])) :=
  spec_frz dOk ok_kof fun R hR => vc_kof std rfl _ _ p.last p.every p.pins _ head _ (ansW (sp_kcheck p) (fun h => .cons (.same _) .nil) rfl) (fun x => keptF p.last p.every p.pins head x) (fun _ => rfl)
    (fun hz h0 h1 x hx0 hx1 => ansW (sp_kept p hz head x ⟨h0, h1⟩ ⟨hx0, hx1⟩) (fun h => .cons (.same _) (.cons (.same _) (.cons (.same _) .nil))) rfl) (ofF p head).1 (ofF p head).2
    (fun h => by unfold ofF; rw [if_pos h]; exact ⟨rfl, rfl⟩) (fun h h' => by unfold ofF; rw [if_neg (fun g => g h), if_pos h']; exact ⟨rfl, rfl⟩) (fun h h0 h1 => by unfold ofF; rw [if_neg (fun g => g h), if_neg (by omega)]; exact ⟨rfl, rfl⟩)
    R fun x hx => by subst hx; exact ints_ret (int_fz _) hR
theorem keptL_ne {a e : Int} {l : List Int} {head : Int} (ha : 1 ≤ a) (h0 : 0 ≤ head) : keptL a e l head (head.toNat + 1) ≠ [] := by
  have : keptF a e l head (head.toNat : Int) = true := by
    unfold keptF
    rw [decide_eq_true (by omega)]; rfl
  unfold keptL
  rw [if_pos this]
  simp
theorem ofF_ne {p : Pol} {head : Int} (h : (ofF p head).2 = 0) : ∃ x r, (ofF p head).1 = x :: r := by
  unfold ofF at h ⊢
  split at h
  · rename_i hz; exact absurd h hz
  · rename_i hz
    rw [if_neg hz]
    split at h
    · contradiction
    · rename_i hy
      rw [if_neg hy]
      have h1 := polF_ok (Decidable.of_not_not hz)
      have := keptL_ne (a := p.last) (e := p.every) (l := p.pins) (head := head) h1.1 (by omega)
      rcases hq : keptL p.last p.every p.pins head (head.toNat + 1) with _ | ⟨x, r⟩
      · exact absurd hq this
      · exact ⟨x, r, rfl⟩
def flF (p : Pol) (head : Int) : Int × Int := if (ofF p head).2 ≠ 0 then (0, (ofF p head).2) else ((ofF p head).1.headD 0, 0)
def ac_kfl : AC := .seq (.region false [
    ⟨some 2, none, .box 53 3 (.t 0)⟩,
    ⟨some 4, none, .mov (.c (.int .i64 0))⟩,
    ⟨some 5, none, .mov (.c (.int .i64 0))⟩])
  (.seq (.region false [
    ⟨some 9, none, .loadn 3 (.t 2)⟩,
    ⟨some 10, none, .mov (.t 1)⟩,
    ⟨some 11, none, .call 19 [(.t 9), (.t 10)]⟩,
    ⟨some 8, none, .mov (.t 11)⟩,
    ⟨some 12, none, .ext 0 (.t 8)⟩,
    ⟨some 13, none, .ext 1 (.t 8)⟩,
    ⟨some 6, none, .mov (.t 12)⟩,
    ⟨some 7, none, .mov (.t 13)⟩])
  (.seq (.seq (.region false [
    ⟨some 14, none, .mov (.t 7)⟩,
    ⟨some 15, none, .bin .neq (.t 14) (.c (.int .i64 0))⟩])
  (.cond (.t 15)
    (.seq (.region false [
      ⟨some 16, none, .mov (.t 7)⟩,
      ⟨some 4, none, .mov (.c (.int .i64 0))⟩,
      ⟨some 5, none, .mov (.t 16)⟩])
    (.ret))
    (.skip)))
  (.seq (.region false [
    ⟨some 17, none, .mov (.t 6)⟩,
    ⟨some 18, none, .iaddr 1 (.t 17) (.c (.int .i64 0))⟩,
    ⟨some 19, none, .load1 (.t 18)⟩,
    ⟨some 4, none, .mov (.t 19)⟩,
    ⟨some 5, none, .mov (.c (.int .i64 0))⟩])
  (.ret))))
theorem ok_kfl : FnOk Try.prog 21 Try.f21 ac_kfl [.t 4, .t 5] 2 drawD := ⟨Try.func21, by decide +kernel, by kernel_rfl, by kernel_rfl, by decide +kernel⟩
theorem vc_kfl (P : Prim) (hP : P = std) (T T1 : CallT) (a e : Int) (rows fr : List (List V)) (head c x : Int) (hc1 : Ans T 19 [.agg [.int .i64 a, .int .i64 e, .sl false 1 rows], .int .i64 head] (.tup [.sl false 1 fr, .int .i64 c]))
    (hrow : c = 0 → P.row fr (P.nat 0) [.int .i64 x]) (r re : Int) (g1 : c ≠ 0 → 0 = r ∧ c = re) (g2 : c = 0 → x = r ∧ 0 = re)
    (R : S → Prop) (hR : ∀ s s' q1 q2, q1 = r ∧ q2 = re → Ent s s' → Ret [.t 4, .t 5] [.int .i64 q1, .int .i64 q2] s' → R s) : awp P T T1 ac_kfl (S0 [.agg [.int .i64 a, .int .i64 e, .sl false 1 rows], .int .i64 head] Hp.emp) R (fun _ _ => False) R := by
  have o1 : P.leP 0 0 := le0 hP (by omega)
  cbv
  intro β2
  cbv
  refine hc1 _ _ ?_
  cbv
  refine br_cases (fun h => ?_) (fun h => ?_)
  · have hz := ne_t hP h
    cbv
    exact hR _ _ _ _ (g1 hz) (Ent.refl _) rfl
  · have hz := ne_f hP h
    have hr := hrow hz
    cbv
    refine ⟨o1, _, hr, ?_⟩
    cbv
    exact hR _ _ _ _ (g2 hz) (Ent.refl _) rfl
theorem sp_kfl (p : Pol) (head : Int) : Spec Try.prog 21 [.agg (encPol p), .int .i64 head] Hp.emp (Is (.tup [.int .i64 (flF p head).1, .int .i64 (flF p head).2])) :=
  spec_pure dOk ok_kfl [.int .i64 (flF p head).1, .int .i64 (flF p head).2] (.tup _ (by simp; exact ⟨.int _ _, .int _ _⟩)) fun R hR => vc_kfl std rfl _ _ p.last p.every _ (iRows (ofF p head).1) head (ofF p head).2 ((ofF p head).1.headD 0) (ansW (sp_kof p head) (fun h => .cons (.same _) (.cons (.same _) .nil)) rfl)
    (fun h => by obtain ⟨x, r, hx⟩ := ofF_ne h; rw [hx]; rfl) (flF p head).1 (flF p head).2 (fun h => by unfold flF; rw [if_pos h]; exact ⟨rfl, rfl⟩) (fun h => by unfold flF; rw [if_neg (fun g => g h)]; exact ⟨rfl, rfl⟩)
    R fun s s' q1 q2 h he hr => by obtain ⟨rfl, rfl⟩ := h; exact hR s s' he hr

end Go.Proofs.Ytobngncjflogcaa.AM
