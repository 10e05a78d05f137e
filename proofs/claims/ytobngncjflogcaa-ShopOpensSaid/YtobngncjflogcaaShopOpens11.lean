/-
  Texts of the plain machine, put together: what the law ShopOpens reaches.
-/
import Derived.Test.YtobngncjflogcaaShopOpens10
import Derived.Test.YtobngncjflogcaaShopOpens7
import Derived.Test.YtobngncjflogcaaShopOpens8
import Derived.Test.YtobngncjflogcaaShopOpens9
set_option linter.unusedVariables false
set_option linter.unusedSimpArgs false
namespace Go.Proofs.Ytobngncjflogcaa.AM
open Go Go.RowKit
set_option maxRecDepth 100000
set_option maxHeartbeats 2000000
theorem put_same {h : Hp} {k : Nat} {o : Ob} (hk : h k = some o) : Hp.put h k o = h := by
  funext i
  unfold Hp.put
  by_cases hi : i = k
  · rw [if_pos hi, hi, hk]
  · rw [if_neg hi]
def S1 (bl : Nat) (d : SC) (rv mv : V) : List (Nat × Ob) := [(0, obSh bl (rowS d rv mv))]
/-- a method that only reads the shop -/
theorem spec_rd {f : Nat} {fn : Func} {ac : AC} {rv : List RV} {rest : List V} (ok : FnOk Try.prog f fn ac rv (rest.length + 1) drawD) (vs : List V) (v : V) (hvs : oneV vs = v) (hv : Fz v) (bl : Nat) (d : SC) (r m : V) (hq : WQ r m)
    (h : ∀ R : S → Prop, (∀ (s s' : S), Ent s s' → Ret rv vs s' → agreeH (S1 bl d r m) s' → R s) → awp std (CallE Try.prog) (CallP Try.prog) ac (S0 (.ptr 0 (some bl) 47 0 0 :: rest) (lookH (S1 bl d r m))) R (fun _ _ => False) R) :
    Spec Try.prog f (.ptr 0 (some bl) 47 0 0 :: rest) (lookH (S1 bl d r m)) fun x h' => ∃ L', (x = v ∧ L' = S1 bl d r m) ∧ h' = lookH L' :=
  spec_meth dOk ok (L := S1 bl d r m) (fun x L' => x = v ∧ L' = S1 bl d r m) fun R hR => h R fun s s' he hr ha => hR s s' v _ he (resV_mono rv _ _ (fun x hx => by rw [hx]; exact hvs) hr) ha hv (fun p hp => by rw [List.mem_singleton.1 hp]; exact rowS_fz hq.1.1 hq.2.1 bl) ⟨rfl, rfl⟩
theorem rdE {f k bl : Nat} {rest : List V} {d : SC} {rv mv v : V} {Q : V → V → Prop} (hQ : ∀ g, Q (rv.rl g) (mv.rl g)) (hs : ∀ rv mv, Q rv mv → Spec Try.prog f (.ptr 0 (some bl) 47 0 0 :: rest) (lookH (S1 bl d rv mv)) fun x h' => ∃ L', (x = v ∧ L' = S1 bl d rv mv) ∧ h' = lookH L')
    (hrest : rest.all V.pl = true) (hv : ∀ g, v.ren g = v) (h1 : Fz rv) (h2 : Fz mv) (r1 : rtB k rv = true) (r2 : rtB k mv = true) {h : Hp} {K : V → Hp → Prop} (hk : h k = some (obSh bl (rowS d rv mv))) (hK : K v h) : CallE Try.prog f (.ptr k (some bl) 47 0 0 :: rest) h K :=
  callS hQ hs hrest hv h1 h2 r1 r2 hk (by rw [put_same hk]; exact hK)
def ac_shead : AC := .seq (.region false [
    ⟨some 2, none, .mov (.c (.int .i64 0))⟩])
  (.seq (.region true [
    ⟨some 3, none, .mov (.t 0)⟩,
    ⟨some 4, none, .nilchk (.t 3)⟩,
    ⟨some 5, none, .faddr 5 (.t 4)⟩,
    ⟨some 6, none, .faddr 1 (.t 5)⟩,
    ⟨some 7, none, .load1 (.t 6)⟩,
    ⟨some 8, none, .mov (.t 0)⟩,
    ⟨some 9, none, .nilchk (.t 8)⟩,
    ⟨some 10, none, .faddr 5 (.t 9)⟩,
    ⟨some 11, none, .faddr 35 (.t 10)⟩,
    ⟨some 12, none, .load1 (.t 11)⟩,
    ⟨some 13, none, .len false (.t 12)⟩,
    ⟨some 14, none, .bin .add (.t 7) (.t 13)⟩,
    ⟨some 2, none, .mov (.t 14)⟩])
  (.ret))
theorem ok_shead : FnOk Try.prog 20 Try.f20 ac_shead [.t 2] 1 drawD := ⟨Try.func20, by decide +kernel, by kernel_rfl, by kernel_rfl, by decide +kernel⟩
theorem vc_shead (P : Prim) (hP : P = std) (T T1 : CallT) (bl : Nat) (d : SC) (ka : Nat) (ba : Option Nat) (n : Nat) (mv : V) (hv2 : V.one mv = true) (hb : P.i64 (P.add d.b (P.int n))) (r : Int) (hr : P.add d.b (P.int n) = r)
    (R : S → Prop) (hR : ∀ s s' q, q = r → Ent s s' → Ret [.t 2] [.int .i64 q] s' → agreeH (S1 bl d (.own ka ba 3 n) mv) s' → R s) : awp P T T1 ac_shead (S0 [.ptr 0 (some bl) 47 0 0] (lookH (S1 bl d (.own ka ba 3 n) mv))) R (fun _ _ => False) R := by
  cbv
  repeat' (first
    | (refine And.intro (by first | assumption | decide) ?_; try cbv)
    | (intro β2; try cbv))
  exact hR _ _ _ hr (Ent.refl _) rfl ⟨rfl, trivial⟩
theorem sp_shead (bl : Nat) (d : SC) (ba : Option Nat) (n : Nat) (hb : 0 ≤ d.b ∧ d.b ≤ 4294967295) (hn : n ≤ 1000) (rv mv : V) (hq : OQ ba n rv mv) : Spec Try.prog 20 [.ptr 0 (some bl) 47 0 0] (lookH (S1 bl d rv mv)) fun x h' => ∃ L', (x = .int .i64 (d.b + (n : Int)) ∧ L' = S1 bl d rv mv) ∧ h' = lookH L' := by
  have hw := hq.wq
  obtain ⟨⟨ka, rfl⟩, hm⟩ := hq
  exact spec_rd ok_shead [.int .i64 (d.b + (n : Int))] _ rfl (.int _ _) bl d _ mv hw fun R hR => vc_shead std rfl _ _ bl d ka ba n mv hm.2 (i64I rfl (by rw [add_eq rfl, int_eq rfl]; omega)) (d.b + (n : Int)) (by rw [add_eq rfl, int_eq rfl]) R fun s s' q hq he hr ha => hR s s' he (by rw [← hq]; exact hr) ha
def SHeadC (T : CallT) : Prop := ∀ (k bl : Nat) (d : SC) (ka : Nat) (ba : Option Nat) (n : Nat) (mv : V) (h : Hp) (K : V → Hp → Prop), (0 ≤ d.b ∧ d.b ≤ 4294967295) → n ≤ 1000 → (Fz mv ∧ V.one mv = true) → rtB k (.own ka ba 3 n) = true → rtB k mv = true → h k = some (obSh bl (rowS d (.own ka ba 3 n) mv)) → (∀ q, q = d.b + (n : Int) → K (.int .i64 q) h) → T 20 [.ptr k (some bl) 47 0 0] h K
theorem sheadE : SHeadC (CallE Try.prog) := fun k bl d ka ba n mv h K hb hn hm r1 r2 hk hK => rdE (Q := OQ ba n) (fun g => OQ.rl ⟨⟨ka, rfl⟩, hm⟩ g) (fun rv mv hq => sp_shead bl d ba n hb hn rv mv hq) rfl (fun _ => rfl) (.own _ _ _ _) hm.1 r1 r2 hk (hK _ rfl)
theorem sheadP : SHeadC (CallP Try.prog) := fun k bl d ka ba n mv h K hb hn hm r1 r2 hk hK => callSP (Q := OQ ba n) (fun g => OQ.rl ⟨⟨ka, rfl⟩, hm⟩ g) (fun rv mv hq => sp_shead bl d ba n hb hn rv mv hq) rfl (fun _ => rfl) (.own _ _ _ _) hm.1 hk (hK _ rfl)
def ac_sbase : AC := .seq (.region false [
    ⟨some 2, none, .mov (.c (.int .i64 0))⟩])
  (.seq (.region false [
    ⟨some 3, none, .mov (.t 0)⟩,
    ⟨some 4, none, .nilchk (.t 3)⟩,
    ⟨some 5, none, .faddr 5 (.t 4)⟩,
    ⟨some 6, none, .faddr 1 (.t 5)⟩,
    ⟨some 7, none, .load1 (.t 6)⟩,
    ⟨some 2, none, .mov (.t 7)⟩])
  (.ret))
theorem ok_sbase : FnOk Try.prog 25 Try.f25 ac_sbase [.t 2] 1 drawD := ⟨Try.func25, by decide +kernel, by kernel_rfl, by kernel_rfl, by decide +kernel⟩
theorem vc_sbase (P : Prim) (hP : P = std) (T T1 : CallT) (bl : Nat) (d : SC) (rv mv : V) (hv1 : V.one rv = true) (hv2 : V.one mv = true)
    (R : S → Prop) (hR : ∀ s s', Ent s s' → Ret [.t 2] [.int .i64 d.b] s' → agreeH (S1 bl d rv mv) s' → R s) : awp P T T1 ac_sbase (S0 [.ptr 0 (some bl) 47 0 0] (lookH (S1 bl d rv mv))) R (fun _ _ => False) R := by
  cbv
  repeat' (first
    | (refine And.intro (by first | assumption | decide) ?_; try cbv)
    | (intro β2; try cbv))
  exact hR _ _ (Ent.refl _) rfl ⟨rfl, trivial⟩
theorem sp_sbase (bl : Nat) (d : SC) (rv mv : V) (hq : WQ rv mv) : Spec Try.prog 25 [.ptr 0 (some bl) 47 0 0] (lookH (S1 bl d rv mv)) fun x h' => ∃ L', (x = .int .i64 d.b ∧ L' = S1 bl d rv mv) ∧ h' = lookH L' :=
  spec_rd ok_sbase [.int .i64 d.b] _ rfl (.int _ _) bl d rv mv hq fun R hR => vc_sbase std rfl _ _ bl d rv mv hq.1.2 hq.2.2 R hR
def SBaseC (T : CallT) : Prop := ∀ (k bl : Nat) (d : SC) (rv mv : V) (h : Hp) (K : V → Hp → Prop), WQ rv mv → rtB k rv = true → rtB k mv = true → h k = some (obSh bl (rowS d rv mv)) → K (.int .i64 d.b) h → T 25 [.ptr k (some bl) 47 0 0] h K
theorem sbaseP : SBaseC (CallP Try.prog) := fun k bl d rv mv h K hq r1 r2 hk hK => callSP (Q := WQ) (fun g => hq.rl g) (fun rv mv hq => sp_sbase bl d rv mv hq) rfl (fun _ => rfl) hq.1.1 hq.2.1 hk hK
def ac_ssafe : AC := .seq (.region false [
    ⟨some 2, none, .mov (.c (.int .i64 0))⟩])
  (.seq (.region false [
    ⟨some 3, none, .mov (.t 0)⟩,
    ⟨some 4, none, .nilchk (.t 3)⟩,
    ⟨some 5, none, .faddr 44 (.t 4)⟩,
    ⟨some 6, none, .load1 (.t 5)⟩,
    ⟨some 2, none, .mov (.t 6)⟩])
  (.ret))
theorem ok_ssafe : FnOk Try.prog 32 Try.f32 ac_ssafe [.t 2] 1 drawD := ⟨Try.func32, by decide +kernel, by kernel_rfl, by kernel_rfl, by decide +kernel⟩
theorem vc_ssafe (P : Prim) (hP : P = std) (T T1 : CallT) (bl : Nat) (d : SC) (rv mv : V) (hv1 : V.one rv = true) (hv2 : V.one mv = true)
    (R : S → Prop) (hR : ∀ s s', Ent s s' → Ret [.t 2] [.int .i64 d.sf] s' → agreeH (S1 bl d rv mv) s' → R s) : awp P T T1 ac_ssafe (S0 [.ptr 0 (some bl) 47 0 0] (lookH (S1 bl d rv mv))) R (fun _ _ => False) R := by
  cbv
  repeat' (first
    | (refine And.intro (by first | assumption | decide) ?_; try cbv)
    | (intro β2; try cbv))
  exact hR _ _ (Ent.refl _) rfl ⟨rfl, trivial⟩
theorem sp_ssafe (bl : Nat) (d : SC) (rv mv : V) (hq : WQ rv mv) : Spec Try.prog 32 [.ptr 0 (some bl) 47 0 0] (lookH (S1 bl d rv mv)) fun x h' => ∃ L', (x = .int .i64 d.sf ∧ L' = S1 bl d rv mv) ∧ h' = lookH L' :=
  spec_rd ok_ssafe [.int .i64 d.sf] _ rfl (.int _ _) bl d rv mv hq fun R hR => vc_ssafe std rfl _ _ bl d rv mv hq.1.2 hq.2.2 R hR
def SSafeC (T : CallT) : Prop := ∀ (k bl : Nat) (d : SC) (rv mv : V) (h : Hp) (K : V → Hp → Prop), WQ rv mv → rtB k rv = true → rtB k mv = true → h k = some (obSh bl (rowS d rv mv)) → K (.int .i64 d.sf) h → T 32 [.ptr k (some bl) 47 0 0] h K
theorem ssafeP : SSafeC (CallP Try.prog) := fun k bl d rv mv h K hq r1 r2 hk hK => callSP (Q := WQ) (fun g => hq.rl g) (fun rv mv hq => sp_ssafe bl d rv mv hq) rfl (fun _ => rfl) hq.1.1 hq.2.1 hk hK
def thereT (b : Int) (n : Nat) (r : Int) : Int := if r < b then 9 else if b + (n : Int) < r then 8 else 0
def ac_sther : AC := .seq (.region false [
    ⟨some 4, none, .mov (.c (.int .i64 0))⟩])
  (.seq (.seq (.region false [
    ⟨some 5, none, .mov (.t 1)⟩,
    ⟨some 6, none, .mov (.t 0)⟩,
    ⟨some 7, none, .nilchk (.t 6)⟩,
    ⟨some 8, none, .faddr 5 (.t 7)⟩,
    ⟨some 9, none, .faddr 1 (.t 8)⟩,
    ⟨some 10, none, .load1 (.t 9)⟩,
    ⟨some 11, none, .bin .lss (.t 5) (.t 10)⟩])
  (.cond (.t 11)
    (.seq (.region false [
      ⟨some 4, none, .mov (.c (.int .i64 9))⟩])
    (.ret))
    (.skip)))
  (.seq (.seq (.region false [
    ⟨some 12, none, .mov (.t 1)⟩,
    ⟨some 13, none, .mov (.t 0)⟩,
    ⟨some 14, none, .call 20 [(.t 13)]⟩,
    ⟨some 15, none, .bin .gtr (.t 12) (.t 14)⟩])
  (.cond (.t 15)
    (.seq (.region false [
      ⟨some 4, none, .mov (.c (.int .i64 8))⟩])
    (.ret))
    (.skip)))
  (.seq (.region false [
    ⟨some 4, none, .mov (.c (.int .i64 0))⟩])
  (.ret))))
theorem ok_sther : FnOk Try.prog 65 Try.f65 ac_sther [.t 4] 2 drawD := ⟨Try.func65, by decide +kernel, by kernel_rfl, by kernel_rfl, by decide +kernel⟩
theorem vc_sther (P : Prim) (hP : P = std) (T T1 : CallT) (hhd : SHeadC T) (bl : Nat) (d : SC) (ka : Nat) (ba : Option Nat) (n : Nat) (mv : V) (hrt : rtB 0 (.own ka ba 3 n) = true) (hrm : rtB 0 mv = true) (hm : Fz mv ∧ V.one mv = true) (hb : 0 ≤ d.b ∧ d.b ≤ 4294967295) (hn : n ≤ 1000) (j r : Int) (hr : thereT d.b n j = r)
    (R : S → Prop) (hR : ∀ s s', Ent s s' → Ret [.t 4] [.int .i64 r] s' → agreeH (S1 bl d (.own ka ba 3 n) mv) s' → R s) : awp P T T1 ac_sther (S0 [.ptr 0 (some bl) 47 0 0, .int .i64 j] (lookH (S1 bl d (.own ka ba 3 n) mv))) R (fun _ _ => False) R := by
  have hv2 := hm.2
  unfold thereT at hr
  cbv
  repeat' (first
    | (refine And.intro (by first | assumption | decide) ?_; try cbv)
    | (intro β2; try cbv))
  refine br_cases (fun g => ?_) (fun g => ?_)
  · rw [if_pos (lt_t hP g)] at hr
    cbv
    repeat' (first
    | (refine And.intro (by first | assumption | decide) ?_; try cbv)
    | (intro β2; try cbv))
    subst hr
    exact hR _ _ (Ent.refl _) rfl ⟨rfl, trivial⟩
  rw [if_neg (lt_f hP g)] at hr
  cbv
  repeat' (first
    | (refine And.intro (by first | assumption | decide) ?_; try cbv)
    | (intro β2; try cbv))
  refine hhd 0 bl d ka ba n mv _ _ hb hn hm hrt hrm rfl fun q hq => ?_
  cbv
  repeat' (first
    | (refine And.intro (by first | assumption | decide) ?_; try cbv)
    | (intro β2; try cbv))
  refine br_cases (fun g => ?_) (fun g => ?_)
  · have g1 : q < j := lt_t hP g
    rw [hq] at g1
    rw [if_pos g1] at hr
    cbv
    repeat' (first
    | (refine And.intro (by first | assumption | decide) ?_; try cbv)
    | (intro β2; try cbv))
    subst hr
    exact hR _ _ (Ent.refl _) rfl ⟨rfl, trivial⟩
  · have g1 : ¬ q < j := lt_f hP g
    rw [hq] at g1
    rw [if_neg g1] at hr
    cbv
    repeat' (first
    | (refine And.intro (by first | assumption | decide) ?_; try cbv)
    | (intro β2; try cbv))
    subst hr
    exact hR _ _ (Ent.refl _) rfl ⟨rfl, trivial⟩
def noW : V → Bool
  | .win .. => false
  | _ => true
theorem rt0 {v : V} (h : noW v = true) : rtB 0 v = true := by
  cases v <;> first | rfl | (simp [rtB]; done) | cases h
theorem noW_rl {v : V} (h : noW v = true) (f : Nat → Nat) : noW (v.rl f) = true := by cases v <;> first | rfl | cases h
def TQ (ba : Option Nat) (n : Nat) (rv mv : V) : Prop := OQ ba n rv mv ∧ noW mv = true
theorem TQ.rl {ba : Option Nat} {n : Nat} {rv mv : V} (h : TQ ba n rv mv) (g : Nat → Nat) : TQ ba n (rv.rl g) (mv.rl g) := ⟨h.1.rl g, noW_rl h.2 g⟩
theorem sp_sther (bl : Nat) (d : SC) (ba : Option Nat) (n : Nat) (hb : 0 ≤ d.b ∧ d.b ≤ 4294967295) (hn : n ≤ 1000) (j : Int) (rv mv : V) (hq : TQ ba n rv mv) : Spec Try.prog 65 [.ptr 0 (some bl) 47 0 0, .int .i64 j] (lookH (S1 bl d rv mv)) fun x h' => ∃ L', (x = .int .i64 (thereT d.b n j) ∧ L' = S1 bl d rv mv) ∧ h' = lookH L' := by
  have hw := hq.1.wq
  obtain ⟨⟨⟨ka, rfl⟩, hm⟩, hnw⟩ := hq
  exact spec_rd ok_sther [.int .i64 (thereT d.b n j)] _ rfl (.int _ _) bl d _ mv hw fun R hR => vc_sther std rfl _ _ sheadE bl d ka ba n mv (rt0 rfl) (rt0 hnw) hm hb hn j _ rfl R hR
def SThereC (T : CallT) : Prop := ∀ (k bl : Nat) (d : SC) (ka : Nat) (ba : Option Nat) (n : Nat) (mv : V) (j : Int) (h : Hp) (K : V → Hp → Prop), (0 ≤ d.b ∧ d.b ≤ 4294967295) → n ≤ 1000 → (Fz mv ∧ V.one mv = true) → noW mv = true → rtB k (.own ka ba 3 n) = true → rtB k mv = true → h k = some (obSh bl (rowS d (.own ka ba 3 n) mv)) → (∀ q, q = thereT d.b n j → K (.int .i64 q) h) → T 65 [.ptr k (some bl) 47 0 0, .int .i64 j] h K
theorem stherE : SThereC (CallE Try.prog) := fun k bl d ka ba n mv j h K hb hn hm hw r1 r2 hk hK => rdE (Q := TQ ba n) (fun g => TQ.rl ⟨⟨⟨ka, rfl⟩, hm⟩, hw⟩ g) (fun rv mv hq => sp_sther bl d ba n hb hn j rv mv hq) rfl (fun _ => rfl) (.own _ _ _ _) hm.1 r1 r2 hk (hK _ rfl)
end Go.Proofs.Ytobngncjflogcaa.AM

set_option linter.unusedVariables false
set_option linter.unusedSimpArgs false
namespace Go.Proofs.Ytobngncjflogcaa.AM
open Go Go.RowKit
set_option maxRecDepth 100000
set_option maxHeartbeats 2000000
def S2 (bl : Nat) (d : SC) (ba : Option Nat) (n : Nat) (rows : List (List V)) (mv : V) : List (Nat × Ob) := [(0, obSh bl (rowS d (.own 1000001 ba 3 n) mv)), (1000001, obV ba rows)]
theorem S2_fz {bl : Nat} {d : SC} {ba : Option Nat} {n : Nat} {l : List Rev} {mv : V} (hm : Fz mv) : ∀ p ∈ S2 bl d ba n (l.map encRev) mv, p.2.Fz := by
  intro p hp
  rcases List.mem_cons.1 hp with rfl | hp
  · exact rowS_fz (.own _ _ _ _) hm bl
  · rw [List.mem_singleton.1 hp]; exact encRevs_fz _
/-- names come back from a call that is handed two objects -/
def rt2B (k ka : Nat) : V → Bool
  | .own j _ _ _ => (!(Nat.beq j 0) && !(Nat.beq j 1000001)) || (Nat.beq k 0 && Nat.beq ka 1000001)
  | .ptr j _ _ _ _ => (!(Nat.beq j 0) && !(Nat.beq j 1000001)) || (Nat.beq k 0 && Nat.beq ka 1000001)
  | .win .. => false
  | _ => true
theorem lab_bal2 {k ka j : Nat} (hne : k ≠ ka) (h : ((!(Nat.beq j 0) && !(Nat.beq j 1000001)) || (Nat.beq k 0 && Nat.beq ka 1000001)) = true) : lab [(0, k), (1000001, ka)] (bal [(0, k), (1000001, ka)] j) = j := by
  simp only [Bool.or_eq_true, Bool.and_eq_true] at h
  by_cases h1 : j = k
  · subst h1; simp [bal, lab]
  · by_cases h2 : j = ka
    · subst h2; simp [bal, lab, h1]
    · have e : bal [(0, k), (1000001, ka)] j = j := by simp [bal, h1, h2]
      rw [e]
      rcases h with h | ⟨h, h'⟩
      · have a : ¬ j = 0 := fun e => by subst e; exact absurd h.1 (by simp)
        have b : ¬ j = 1000001 := fun e => by subst e; exact absurd h.2 (by simp)
        simp [lab, a, b]
      · have a := Nat.eq_of_beq_eq_true h
        have b := Nat.eq_of_beq_eq_true h'
        have c : ¬ j = 0 := by omega
        have d : ¬ j = 1000001 := by omega
        simp [lab, c, d]
theorem rt2_ok {k ka : Nat} {v : V} (hne : k ≠ ka) (h : rt2B k ka v = true) : (v.rl (bal [(0, k), (1000001, ka)])).rl (lab [(0, k), (1000001, ka)]) = v := by
  cases v <;> first | rfl | (simp only [V.rl]; rw [lab_bal2 hne h]) | cases h
theorem S2_dom {k ka bl : Nat} {d : SC} {ba : Option Nat} {n : Nat} {rows : List (List V)} {mv : V} : ∀ j q, lookH (S2 bl d ba n rows mv) j = some q → ∃ p ∈ [(0, k), (1000001, ka)], p.1 = j := by
  intro j q hj
  simp only [S2, lookH] at hj
  split at hj
  · rename_i h0; exact ⟨(0, k), by simp, h0.symm⟩
  · split at hj
    · rename_i h0; exact ⟨(1000001, ka), by simp, h0.symm⟩
    · cases hj
theorem S2_obj {k ka bl : Nat} {d : SC} {ba : Option Nat} {n : Nat} {l : List Rev} {mv : V} {h : Hp} (hne : k ≠ ka) (hm : Fz mv) (hk : h k = some (obSh bl (rowS d (.own ka ba 3 n) mv))) (hka : h ka = some (obV ba (l.map encRev))) : ∀ p ∈ [(0, k), (1000001, ka)], lab [(0, k), (1000001, ka)] p.1 = p.2 ∧ bal [(0, k), (1000001, ka)] p.2 = p.1 ∧
    ∃ o, lookH (S2 bl d ba n (l.map encRev) (mv.rl (bal [(0, k), (1000001, ka)]))) p.1 = some o ∧ (h p.2).map (Ob.ren (bal [(0, k), (1000001, ka)])) = some o ∧ o.Fz := by
  have hne2 : ¬ ka = k := fun e => hne e.symm
  have hbk : bal [(0, k), (1000001, ka)] ka = 1000001 := by simp [bal, hne2]
  have hbk0 : bal [(0, k), (1000001, ka)] k = 0 := by simp [bal]
  intro p hp
  simp only [List.mem_cons, List.not_mem_nil, or_false] at hp
  rcases hp with rfl | rfl
  · refine ⟨by simp [lab], hbk0, _, rfl, ?_, rowS_fz (.own _ _ _ _) (hm.rl _) bl⟩
    rw [hk, Option.map_some, obSh_ren]
    show some (obSh bl (rowS d (.own (bal [(0, k), (1000001, ka)] ka) ba 3 n) _)) = _
    rw [hbk]
  · refine ⟨by simp [lab], hbk, _, rfl, ?_, encRevs_fz _⟩
    rw [hka, Option.map_some]
    exact congrArg some (obV_ren ba l _)
/-- the same, only read -/
theorem rdS2E {f k ka bl : Nat} {rest : List V} {d : SC} {ba : Option Nat} {n : Nat} {l : List Rev} {mv v : V} {Q : V → Prop} (hQ : ∀ g, Q (mv.rl g)) (hs : ∀ mv, Q mv → Spec Try.prog f (.ptr 0 (some bl) 47 0 0 :: rest) (lookH (S2 bl d ba n (l.map encRev) mv)) fun x h' => ∃ L', (x = v ∧ L' = S2 bl d ba n (l.map encRev) mv) ∧ h' = lookH L')
    (hrest : rest.all V.pl = true) (hv : ∀ g, v.ren g = v) (hm : Fz mv) (hne : Nat.beq k ka = false) (r2 : rt2B k ka mv = true) {h : Hp} {K : V → Hp → Prop} (hk : h k = some (obSh bl (rowS d (.own ka ba 3 n) mv))) (hka : h ka = some (obV ba (l.map encRev)))
    (hK : K v h) : CallE Try.prog f (.ptr k (some bl) 47 0 0 :: rest) h K := by
  have hne' : k ≠ ka := by intro e; subst e; rw [Nat.beq_refl] at hne; cases hne
  have hne2 : ¬ ka = k := fun e => hne' e.symm
  have hbk : bal [(0, k), (1000001, ka)] ka = 1000001 := by simp [bal, hne2]
  have hbk0 : bal [(0, k), (1000001, ka)] k = 0 := by simp [bal]
  have hlk : lab [(0, k), (1000001, ka)] 1000001 = ka := by simp [lab]
  refine callG (m := [(0, k), (1000001, ka)]) (hs (mv.rl (bal [(0, k), (1000001, ka)])) (hQ _)) (.cons ?_ (args_plain hrest)) S2_dom (fun p hp => ?_) ?_
  · have := Arg.same (h := h) (m := [(0, k), (1000001, ka)]) (.ptr k (some bl) 47 0 0)
    simpa [V.ren, V.rl, bal] using this
  · obtain ⟨a1, a2, o, a3, a4, a5⟩ := S2_obj hne' hm hk hka p hp
    refine ⟨a1, a2, fun o' ho' => ?_⟩
    rw [a3] at ho'
    cases ho'
    exact ⟨a4, a5⟩
  · rintro x L' ⟨rfl, rfl⟩
    have e : h.upd [(0, k), (1000001, ka)] (lookH (S2 bl d ba n (l.map encRev) (mv.rl (bal [(0, k), (1000001, ka)])))) = h := by
      funext i
      simp only [Hp.upd, List.any_cons, List.any_nil, Bool.or_false, Bool.or_eq_true, decide_eq_true_eq]
      by_cases h1 : ka = i
      · subst h1
        rw [if_pos (.inr rfl), hbk, hka]
        show (some (obV ba (l.map encRev))).map (Ob.ren (lab [(0, k), (1000001, ka)])) = _
        rw [Option.map_some, obV_ren]
      · by_cases h2 : k = i
        · subst h2
          rw [if_pos (.inl rfl), hbk0, hk]
          show (some (obSh bl (rowS d (.own 1000001 ba 3 n) (mv.rl (bal [(0, k), (1000001, ka)]))))).map (Ob.ren (lab [(0, k), (1000001, ka)])) = _
          rw [Option.map_some, obSh_ren, rt2_ok hne' r2]
          show some (obSh bl (rowS d (.own (lab [(0, k), (1000001, ka)] 1000001) ba 3 n) mv)) = _
          rw [hlk]
        · rw [if_neg (by rintro (h | h); exact h2 h; exact h1 h)]
    rw [e, hv]
    exact hK
def RTextC (T : CallT) : Prop := ∀ (ka : Nat) (ba : Option Nat) (n : Nat) (rows : List (List V)) (l : List Rev) (base : List UInt8) (j : Int) (h : Hp) (K : V → Hp → Prop), rows = l.map encRev → n = l.length → RevsOk l → h ka = some ⟨ba, 45, 3, rows⟩ → (∀ x y, x = (textF base l j).1 → y = (textF base l j).2 → K (.tup [.str x, .int .i64 y]) h) → T 12 [.str base, .own ka ba 3 n, .int .i64 j] h K
theorem rtextP : RTextC (CallP Try.prog) := by
  rintro ka ba n rows l base j h K rfl rfl hl hk hK
  exact call_pureP (sp_text base l j hl) (.cons (.same _) (.cons (.own ka ba 3 _ _ (rowsOf_own (by simp) hk) (by simp)) (.cons (.same _) .nil))) (hK _ _ rfl rfl)
def stextT (d : SC) (l : List Rev) (j : Int) : List UInt8 × Int := if thereT d.b l.length j ≠ 0 then ([], thereT d.b l.length j) else textF d.tx l (j - d.b)
def ac_stext : AC := .seq (.region false [
    ⟨some 4, none, .mov (.c (.string ⟨#[]⟩))⟩,
    ⟨some 5, none, .mov (.c (.int .i64 0))⟩])
  (.seq (.seq (.region false [
    ⟨some 7, none, .mov (.t 0)⟩,
    ⟨some 8, none, .mov (.t 1)⟩,
    ⟨some 9, none, .call 65 [(.t 7), (.t 8)]⟩,
    ⟨some 6, none, .mov (.t 9)⟩])
  (.seq (.region false [
    ⟨some 10, none, .mov (.t 6)⟩,
    ⟨some 11, none, .bin .neq (.t 10) (.c (.int .i64 0))⟩])
  (.cond (.t 11)
    (.seq (.region false [
      ⟨some 12, none, .mov (.t 6)⟩,
      ⟨some 4, none, .mov (.c (.string ⟨#[]⟩))⟩,
      ⟨some 5, none, .mov (.t 12)⟩])
    (.ret))
    (.skip))))
  (.seq (.region true [
    ⟨some 13, none, .mov (.t 0)⟩,
    ⟨some 14, none, .nilchk (.t 13)⟩,
    ⟨some 15, none, .faddr 5 (.t 14)⟩,
    ⟨some 16, none, .faddr 2 (.t 15)⟩,
    ⟨some 17, none, .load1 (.t 16)⟩,
    ⟨some 18, none, .mov (.t 0)⟩,
    ⟨some 19, none, .nilchk (.t 18)⟩,
    ⟨some 20, none, .faddr 5 (.t 19)⟩,
    ⟨some 21, none, .faddr 35 (.t 20)⟩,
    ⟨some 22, none, .load1 (.t 21)⟩,
    ⟨some 23, none, .mov (.t 1)⟩,
    ⟨some 24, none, .mov (.t 0)⟩,
    ⟨some 25, none, .nilchk (.t 24)⟩,
    ⟨some 26, none, .faddr 5 (.t 25)⟩,
    ⟨some 27, none, .faddr 1 (.t 26)⟩,
    ⟨some 28, none, .load1 (.t 27)⟩,
    ⟨some 29, none, .bin .sub (.t 23) (.t 28)⟩,
    ⟨some 30, none, .call 12 [(.t 17), (.t 22), (.t 29)]⟩,
    ⟨some 31, none, .ext 0 (.t 30)⟩,
    ⟨some 32, none, .ext 1 (.t 30)⟩,
    ⟨some 4, none, .mov (.t 31)⟩,
    ⟨some 5, none, .mov (.t 32)⟩])
  (.ret)))
theorem ok_stext : FnOk Try.prog 22 Try.f22 ac_stext [.t 4, .t 5] 2 drawD := ⟨Try.func22, by decide +kernel, by kernel_rfl, by kernel_rfl, by decide +kernel⟩
theorem vc_stext (P : Prim) (hP : P = std) (T T1 : CallT) (hth : SThereC T) (htx : RTextC T1) (bl : Nat) (d : SC) (ba : Option Nat) (l : List Rev) (n : Nat) (hn : n = l.length) (rows : List (List V)) (hrows : rows = l.map encRev) (hl : RevsOk l) (mv : V) (hrm : rtB 0 mv = true) (hm : Fz mv ∧ V.one mv = true) (hw : noW mv = true) (hb : 0 ≤ d.b ∧ d.b ≤ 4294967295) (hn2 : n ≤ 1000) (j : Int) (x : List UInt8) (y : Int) (hr : stextT d l j = (x, y))
    (R : S → Prop) (hR : ∀ s s', Ent s s' → Ret [.t 4, .t 5] [.str x, .int .i64 y] s' → agreeH (S2 bl d ba n rows mv) s' → R s) : awp P T T1 ac_stext (S0 [.ptr 0 (some bl) 47 0 0, .int .i64 j] (lookH (S2 bl d ba n rows mv))) R (fun _ _ => False) R := by
  have hv2 := hm.2
  unfold stextT at hr
  rw [← hn] at hr
  cbv
  repeat' (first
    | (refine And.intro (by first | assumption | decide) ?_; try cbv)
    | (intro β2; try cbv))
  refine hth 0 bl d 1000001 ba n mv j _ _ hb hn2 hm hw rfl hrm rfl fun q hq => ?_
  rw [← hq] at hr
  cbv
  repeat' (first
    | (refine And.intro (by first | assumption | decide) ?_; try cbv)
    | (intro β2; try cbv))
  refine br_cases (fun g => ?_) (fun g => ?_)
  · have g1 : q ≠ 0 := ne_t hP g
    rw [if_pos g1] at hr
    cases hr
    cbv
    repeat' (first
    | (refine And.intro (by first | assumption | decide) ?_; try cbv)
    | (intro β2; try cbv))
    exact hR _ _ (Ent.refl _) rfl ⟨rfl, rfl, trivial⟩
  have g1 : q = 0 := ne_f hP g
  rw [if_neg (fun hh => hh g1)] at hr
  have hj : d.b ≤ j ∧ j ≤ d.b + (n : Int) := by
    rw [g1] at hq
    unfold thereT at hq
    split at hq
    · cases hq
    · split at hq
      · cases hq
      · omega
  have m1 : P.i64 (P.sub j d.b) := by rw [sub_eq hP]; exact i64I hP (by omega)
  cbv
  repeat' (first
    | (refine And.intro (by first | assumption | decide) ?_; try cbv)
    | (intro β2; try cbv))
  refine htx 1000001 ba n rows l _ _ _ _ hrows hn hl rfl fun x' y' hx hy => ?_
  rw [sub_eq hP, hr] at hx hy
  cbv
  repeat' (first
    | (refine And.intro (by first | assumption | decide) ?_; try cbv)
    | (intro β2; try cbv))
  subst hx hy
  exact hR _ _ (Ent.refl _) rfl ⟨rfl, rfl, trivial⟩
def MQ (mv : V) : Prop := (Fz mv ∧ V.one mv = true) ∧ noW mv = true
theorem MQ.rl {mv : V} (h : MQ mv) (g : Nat → Nat) : MQ (mv.rl g) := ⟨⟨h.1.1.rl g, one_rl h.1.2 g⟩, noW_rl h.2 g⟩
theorem sp_stext (bl : Nat) (d : SC) (ba : Option Nat) (l : List Rev) (hl : RevsOk l) (hb : 0 ≤ d.b ∧ d.b ≤ 4294967295) (hn2 : l.length ≤ 1000) (j : Int) (mv : V) (hq : MQ mv) : Spec Try.prog 22 [.ptr 0 (some bl) 47 0 0, .int .i64 j] (lookH (S2 bl d ba l.length (l.map encRev) mv)) fun x h' => ∃ L', (x = .tup [.str (stextT d l j).1, .int .i64 (stextT d l j).2] ∧ L' = S2 bl d ba l.length (l.map encRev) mv) ∧ h' = lookH L' :=
  spec_meth dOk ok_stext (L := S2 bl d ba l.length (l.map encRev) mv) (fun x L' => x = .tup [.str (stextT d l j).1, .int .i64 (stextT d l j).2] ∧ L' = S2 bl d ba l.length (l.map encRev) mv) fun R hR =>
    vc_stext std rfl _ _ stherE rtextP bl d ba l _ rfl _ rfl hl mv (rt0 hq.2) hq.1 hq.2 hb hn2 j _ _ rfl R fun s s' he hr ha => hR s s' _ _ he (resV_mono _ _ _ (fun x hx => by rw [hx]; rfl) hr) ha (.tup _ (by simp; exact ⟨.str _, .int _ _⟩)) (S2_fz hq.1.1) ⟨rfl, rfl⟩
def STextC (T : CallT) : Prop := ∀ (k ka bl : Nat) (d : SC) (ba : Option Nat) (n : Nat) (rows : List (List V)) (l : List Rev) (mv : V) (j : Int) (h : Hp) (K : V → Hp → Prop), rows = l.map encRev → n = l.length → RevsOk l → (0 ≤ d.b ∧ d.b ≤ 4294967295) → l.length ≤ 1000 → MQ mv → Nat.beq k ka = false → rt2B k ka mv = true → h k = some (obSh bl (rowS d (.own ka ba 3 n) mv)) → h ka = some (obV ba rows) → (∀ x y, x = (stextT d l j).1 → y = (stextT d l j).2 → K (.tup [.str x, .int .i64 y]) h) → T 22 [.ptr k (some bl) 47 0 0, .int .i64 j] h K
theorem stextE : STextC (CallE Try.prog) := by
  rintro k ka bl d ba n rows l mv j h K rfl rfl hl hb hn hq hne hr hk hka hK
  exact rdS2E (Q := MQ) (fun g => hq.rl g) (fun mv hq => sp_stext bl d ba l hl hb hn j mv hq) rfl (fun _ => rfl) hq.1.1 hne hr hk hka (hK _ _ rfl rfl)
end Go.Proofs.Ytobngncjflogcaa.AM

set_option linter.unusedVariables false
set_option linter.unusedSimpArgs false
namespace Go.Proofs.Ytobngncjflogcaa.AM
open Go Go.RowKit
set_option maxRecDepth 100000
set_option maxHeartbeats 2000000
def inR (n : Int) : Prop := 0 ≤ n ∧ n ≤ 2147483647
instance (n : Int) : Decidable (inR n) := inferInstanceAs (Decidable (_ ∧ _))
def numsL (l : List Int) : List UInt8 := (l.map fun n => numL n.toNat).flatten
def flatL (g b : Int) (t : Nat → Int) : List Int := [g, b, t 0, t 1, t 2, t 3, t 4, t 5, t 6, t 7, t 8, t 9, t 10, t 11, t 12, t 13, t 14, t 15]
end Go.Proofs.Ytobngncjflogcaa.AM

set_option linter.unusedVariables false
set_option linter.unusedSimpArgs false
namespace Go.Proofs.Ytobngncjflogcaa.AM
open Go Go.RowKit
set_option maxRecDepth 100000
set_option maxHeartbeats 2000000
def Z0 : SC := ⟨[], 0, [], 0, 0, 0, 0, [], fun _ => 0, fun _ => 0, false, 0, [], 0, false⟩
end Go.Proofs.Ytobngncjflogcaa.AM

set_option linter.unusedVariables false
set_option linter.unusedSimpArgs false
namespace Go.Proofs.Ytobngncjflogcaa.AM
open Go Go.RowKit
set_option maxRecDepth 100000
set_option maxHeartbeats 2000000
structure L3 where
  a : Int
  b : Int
  e : Int
def slastT (tb : Nat → Int) (w : Int) : L3 := if w < 0 ∨ 7 < w then ⟨0, 0, 1⟩ else ⟨tb (2 * w.toNat), tb (2 * w.toNat + 1), 0⟩
def ac_slast : AC := .seq (.region false [
    ⟨some 4, none, .alloc 78 [(.int .i64 0), (.int .i64 0)]⟩,
    ⟨some 5, none, .mov (.c (.int .i64 0))⟩])
  (.seq (.seq (.region false [
    ⟨some 6, none, .mov (.t 1)⟩,
    ⟨some 7, none, .bin .lss (.t 6) (.c (.int .i64 0))⟩,
    ⟨some 8, none, .mov (.t 7)⟩,
    ⟨some 9, some (8, false), .mov (.t 1)⟩,
    ⟨some 10, some (8, false), .bin .gtr (.t 9) (.c (.int .i64 7))⟩,
    ⟨some 11, none, .pick (.t 8) (.c (.bool true)) (.t 10)⟩])
  (.cond (.t 11)
    (.seq (.region false [
      ⟨some 12, none, .build [(.int .i64 0), (.int .i64 0)] []⟩,
      ⟨none, none, .store 2 (.t 4) (.t 12)⟩,
      ⟨some 5, none, .mov (.c (.int .i64 1))⟩])
    (.ret))
    (.skip)))
  (.seq (.region false [
    ⟨some 13, none, .mov (.t 0)⟩,
    ⟨some 14, none, .mov (.t 1)⟩,
    ⟨some 15, none, .nilchk (.t 13)⟩,
    ⟨some 16, none, .faddr 5 (.t 15)⟩,
    ⟨some 17, none, .faddr 19 (.t 16)⟩,
    ⟨some 18, none, .iarr 8 2 (.t 17) (.t 14)⟩,
    ⟨some 19, none, .loadn 2 (.t 18)⟩,
    ⟨none, none, .store 2 (.t 4) (.t 19)⟩,
    ⟨some 5, none, .mov (.c (.int .i64 0))⟩])
  (.ret)))
theorem ok_slast : FnOk Try.prog 42 Try.f42 ac_slast [.cn 4 2, .t 5] 2 drawD := ⟨Try.func42, by decide +kernel, by kernel_rfl, by kernel_rfl, by decide +kernel⟩
theorem vc_slast (P : Prim) (hP : P = std) (T T1 : CallT) (bl : Nat) (d : SC) (rv mv : V) (hv1 : V.one rv = true) (hv2 : V.one mv = true) (wi : Int) (w : Nat) (hw : 0 ≤ wi → wi = (w : Int)) (Y : L3) (hY : Y = if wi < 0 ∨ 7 < wi then ⟨0, 0, 1⟩ else ⟨d.tb (2 * w), d.tb (2 * w + 1), 0⟩)
    (R : S → Prop) (hR : ∀ s s' a b e, a = Y.a ∧ b = Y.b ∧ e = Y.e → Ent s s' → Ret [.cn 4 2, .t 5] [.agg [.int .i64 a, .int .i64 b], .int .i64 e] s' → agreeH (S1 bl d rv mv) s' → R s) : awp P T T1 ac_slast (S0 [.ptr 0 (some bl) 47 0 0, .int .i64 wi] (lookH (S1 bl d rv mv))) R (fun _ _ => False) R := by
  cbv
  repeat' (first
    | (refine And.intro (by first | assumption | decide) ?_; try cbv)
    | (intro β2; try cbv))
  refine br_cases (fun g => ?_) (fun g => ?_)
  · have g1 : wi < 0 := lt_t hP g
    rw [if_pos (.inl g1)] at hY
    cbv
    repeat' (first
    | (refine And.intro (by first | assumption | decide) ?_; try cbv)
    | (intro β2; try cbv))
    refine hR _ _ _ _ _ ⟨?_, ?_, ?_⟩ (Ent.refl _) ⟨rfl, rfl, Nat.zero_lt_succ 0, Nat.le_refl 2, rfl⟩ ⟨rfl, trivial⟩ <;> rw [hY]
  have g1 : ¬ wi < 0 := lt_f hP g
  cbv
  repeat' (first
    | (refine And.intro (by first | assumption | decide) ?_; try cbv)
    | (intro β2; try cbv))
  refine br_cases (fun g => ?_) (fun g => ?_)
  · have g2 : 7 < wi := lt_t hP g
    rw [if_pos (.inr g2)] at hY
    cbv
    repeat' (first
    | (refine And.intro (by first | assumption | decide) ?_; try cbv)
    | (intro β2; try cbv))
    refine hR _ _ _ _ _ ⟨?_, ?_, ?_⟩ (Ent.refl _) ⟨rfl, rfl, Nat.zero_lt_succ 0, Nat.le_refl 2, rfl⟩ ⟨rfl, trivial⟩ <;> rw [hY]
  have g2 : ¬ 7 < wi := lt_f hP g
  rw [if_neg (fun h => h.elim g1 g2)] at hY
  have hw0 := hw (by omega)
  have q1 : P.leP 0 wi := le0 hP (by omega)
  have q2 : P.ltP wi 8 := ltI hP (by omega)
  have hNk : P.nat wi = w := by rw [hw0]; subst hP; rfl
  have hc : w = 0 ∨ w = 1 ∨ w = 2 ∨ w = 3 ∨ w = 4 ∨ w = 5 ∨ w = 6 ∨ w = 7 := by ((try simp only [nc] at *); omega)
  cbv
  repeat' (first
    | (refine And.intro (by first | assumption | decide) ?_; try cbv)
    | (intro β2; try cbv))
  rcases hc with rfl | rfl | rfl | rfl | rfl | rfl | rfl | rfl
  · refine ⟨0, hNk, ?_⟩
    cbv
    repeat' (first
      | (refine And.intro (by first | assumption | decide) ?_; try cbv)
      | (intro β2; try cbv))
    refine hR _ _ _ _ _ ⟨?_, ?_, ?_⟩ (Ent.refl _) ⟨rfl, rfl, Nat.zero_lt_succ 0, Nat.le_refl 2, rfl⟩ ⟨rfl, trivial⟩ <;> rw [hY]
  · refine ⟨1, hNk, ?_⟩
    cbv
    repeat' (first
      | (refine And.intro (by first | assumption | decide) ?_; try cbv)
      | (intro β2; try cbv))
    refine hR _ _ _ _ _ ⟨?_, ?_, ?_⟩ (Ent.refl _) ⟨rfl, rfl, Nat.zero_lt_succ 0, Nat.le_refl 2, rfl⟩ ⟨rfl, trivial⟩ <;> rw [hY]
  · refine ⟨2, hNk, ?_⟩
    cbv
    repeat' (first
      | (refine And.intro (by first | assumption | decide) ?_; try cbv)
      | (intro β2; try cbv))
    refine hR _ _ _ _ _ ⟨?_, ?_, ?_⟩ (Ent.refl _) ⟨rfl, rfl, Nat.zero_lt_succ 0, Nat.le_refl 2, rfl⟩ ⟨rfl, trivial⟩ <;> rw [hY]
  · refine ⟨3, hNk, ?_⟩
    cbv
    repeat' (first
      | (refine And.intro (by first | assumption | decide) ?_; try cbv)
      | (intro β2; try cbv))
    refine hR _ _ _ _ _ ⟨?_, ?_, ?_⟩ (Ent.refl _) ⟨rfl, rfl, Nat.zero_lt_succ 0, Nat.le_refl 2, rfl⟩ ⟨rfl, trivial⟩ <;> rw [hY]
  · refine ⟨4, hNk, ?_⟩
    cbv
    repeat' (first
      | (refine And.intro (by first | assumption | decide) ?_; try cbv)
      | (intro β2; try cbv))
    refine hR _ _ _ _ _ ⟨?_, ?_, ?_⟩ (Ent.refl _) ⟨rfl, rfl, Nat.zero_lt_succ 0, Nat.le_refl 2, rfl⟩ ⟨rfl, trivial⟩ <;> rw [hY]
  · refine ⟨5, hNk, ?_⟩
    cbv
    repeat' (first
      | (refine And.intro (by first | assumption | decide) ?_; try cbv)
      | (intro β2; try cbv))
    refine hR _ _ _ _ _ ⟨?_, ?_, ?_⟩ (Ent.refl _) ⟨rfl, rfl, Nat.zero_lt_succ 0, Nat.le_refl 2, rfl⟩ ⟨rfl, trivial⟩ <;> rw [hY]
  · refine ⟨6, hNk, ?_⟩
    cbv
    repeat' (first
      | (refine And.intro (by first | assumption | decide) ?_; try cbv)
      | (intro β2; try cbv))
    refine hR _ _ _ _ _ ⟨?_, ?_, ?_⟩ (Ent.refl _) ⟨rfl, rfl, Nat.zero_lt_succ 0, Nat.le_refl 2, rfl⟩ ⟨rfl, trivial⟩ <;> rw [hY]
  · refine ⟨7, hNk, ?_⟩
    cbv
    repeat' (first
      | (refine And.intro (by first | assumption | decide) ?_; try cbv)
      | (intro β2; try cbv))
    refine hR _ _ _ _ _ ⟨?_, ?_, ?_⟩ (Ent.refl _) ⟨rfl, rfl, Nat.zero_lt_succ 0, Nat.le_refl 2, rfl⟩ ⟨rfl, trivial⟩ <;> rw [hY]
theorem sp_slast (bl : Nat) (d : SC) (w : Int) (rv mv : V) (hq : WQ rv mv) : Spec Try.prog 42 [.ptr 0 (some bl) 47 0 0, .int .i64 w] (lookH (S1 bl d rv mv)) fun x h' => ∃ L', (x = .tup [.agg [.int .i64 (slastT d.tb w).a, .int .i64 (slastT d.tb w).b], .int .i64 (slastT d.tb w).e] ∧ L' = S1 bl d rv mv) ∧ h' = lookH L' :=
  spec_rd ok_slast [.agg [.int .i64 (slastT d.tb w).a, .int .i64 (slastT d.tb w).b], .int .i64 (slastT d.tb w).e] _ rfl (.tup _ (by simp; exact ⟨.agg _ (by simp; exact ⟨.int _ _, .int _ _⟩), .int _ _⟩)) bl d rv mv hq fun R hR => vc_slast std rfl _ _ bl d rv mv hq.1.2 hq.2.2 w w.toNat (fun h => by omega) (slastT d.tb w) rfl R
    fun s s' a b e h he hr ha => by obtain ⟨rfl, rfl, rfl⟩ := h; exact hR s s' he hr ha
def SLastC (T : CallT) : Prop := ∀ (k bl : Nat) (d : SC) (rv mv : V) (w : Int) (h : Hp) (K : V → Hp → Prop), WQ rv mv → rtB k rv = true → rtB k mv = true → h k = some (obSh bl (rowS d rv mv)) → (∀ a b e, a = (slastT d.tb w).a → b = (slastT d.tb w).b → e = (slastT d.tb w).e → K (.tup [.agg [.int .i64 a, .int .i64 b], .int .i64 e]) h) → T 42 [.ptr k (some bl) 47 0 0, .int .i64 w] h K
theorem slastE : SLastC (CallE Try.prog) := fun k bl d rv mv w h K hq r1 r2 hk hK => rdE (Q := WQ) (fun g => hq.rl g) (fun rv mv hq => sp_slast bl d w rv mv hq) rfl (fun _ => rfl) hq.1.1 hq.2.1 r1 r2 hk (hK _ _ _ rfl rfl rfl)
def ac_sdisk : AC := .seq (.region false [
    ⟨some 2, none, .alloc 26 [(.string ⟨#[]⟩), (.int .i64 0), (.string ⟨#[]⟩), (.int .i64 0)]⟩])
  (.seq (.region false [
    ⟨some 3, none, .mov (.t 0)⟩,
    ⟨some 4, none, .nilchk (.t 3)⟩,
    ⟨some 5, none, .faddr 0 (.t 4)⟩,
    ⟨some 6, none, .loadn 4 (.t 5)⟩,
    ⟨none, none, .store 4 (.t 2) (.t 6)⟩])
  (.ret))
theorem ok_sdisk : FnOk Try.prog 31 Try.f31 ac_sdisk [.cn 2 4] 1 drawD := ⟨Try.func31, by decide +kernel, by kernel_rfl, by kernel_rfl, by decide +kernel⟩
theorem vc_sdisk (P : Prim) (hP : P = std) (T T1 : CallT) (bl : Nat) (d : SC) (rv mv : V) (hv1 : V.one rv = true) (hv2 : V.one mv = true)
    (R : S → Prop) (hR : ∀ s s', Ent s s' → Ret [.cn 2 4] [.agg [.str d.x1, .int .i64 d.x2, .str d.x3, .int .i64 d.x4]] s' → agreeH (S1 bl d rv mv) s' → R s) : awp P T T1 ac_sdisk (S0 [.ptr 0 (some bl) 47 0 0] (lookH (S1 bl d rv mv))) R (fun _ _ => False) R := by
  cbv
  repeat' (first
    | (refine And.intro (by first | assumption | decide) ?_; try cbv)
    | (intro β2; try cbv))
  exact hR _ _ (Ent.refl _) ⟨rfl, rfl, Nat.zero_lt_succ 0, Nat.le_refl 4, rfl⟩ ⟨rfl, trivial⟩
theorem sp_sdisk (bl : Nat) (d : SC) (rv mv : V) (hq : WQ rv mv) : Spec Try.prog 31 [.ptr 0 (some bl) 47 0 0] (lookH (S1 bl d rv mv)) fun x h' => ∃ L', (x = .agg [.str d.x1, .int .i64 d.x2, .str d.x3, .int .i64 d.x4] ∧ L' = S1 bl d rv mv) ∧ h' = lookH L' :=
  spec_rd ok_sdisk [.agg [.str d.x1, .int .i64 d.x2, .str d.x3, .int .i64 d.x4]] _ rfl (.agg _ (by simp; exact ⟨.str _, .int _ _, .str _, .int _ _⟩)) bl d rv mv hq fun R hR => vc_sdisk std rfl _ _ bl d rv mv hq.1.2 hq.2.2 R hR
def SDiskC (T : CallT) : Prop := ∀ (k bl : Nat) (d : SC) (rv mv : V) (h : Hp) (K : V → Hp → Prop), WQ rv mv → rtB k rv = true → rtB k mv = true → h k = some (obSh bl (rowS d rv mv)) → K (.agg [.str d.x1, .int .i64 d.x2, .str d.x3, .int .i64 d.x4]) h → T 31 [.ptr k (some bl) 47 0 0] h K
theorem sdiskP : SDiskC (CallP Try.prog) := fun k bl d rv mv h K hq r1 r2 hk hK => callSP (Q := WQ) (fun g => hq.rl g) (fun rv mv hq => sp_sdisk bl d rv mv hq) rfl (fun _ => rfl) hq.1.1 hq.2.1 hk hK
end Go.Proofs.Ytobngncjflogcaa.AM

set_option linter.unusedVariables false
set_option linter.unusedSimpArgs false
namespace Go.Proofs.Ytobngncjflogcaa.AM
open Go Go.RowKit
set_option maxRecDepth 100000
set_option maxHeartbeats 2000000
/-- the last row's own slice is frozen; three objects are kept -/
theorem Ent.frzRev {s : S} {k q n ty : Nat} {b : Option Nat} {dr : List (List V)} {O o0 o1 : Ob} {pre : List (List V)} {x y : V} (hk : s.h k = some ⟨b, ty, 3, dr⟩) (hq : s.h q = some O) (hO : O.rows = pre ++ [[x, y, .own k b 3 n]]) (h0 : s.h 0 = some o0) (h1 : s.h 1000001 = some o1) (hn : dr.length = n) (hz : ∀ r ∈ dr, ∀ v ∈ r, Fz v) (hq0 : q ≠ 0) (hq1 : q ≠ 1000001) (hk0 : k ≠ 0) (hk1 : k ≠ 1000001) (hkq : k ≠ q) :
    Ent s ⟨s.t, lookH [(0, o0), (1000001, o1), (q, ⟨O.b, O.ty, O.sz, pre ++ [[x, y, .sl false 3 dr]]⟩)]⟩ := by
  have same : ∀ (j : Nat) (o : Ob), s.h j = some o → j ≠ k → j ≠ k ∧ ∃ q, s.h j = some q ∧ o.b = q.b ∧ o.ty = q.ty ∧ o.sz = q.sz ∧ o.rows.length = q.rows.length ∧ ∀ (i : Nat) (r r' : List V), q.rows[i]? = some r → o.rows[i]? = some r' → r'.length = r.length ∧ ∀ (l : Nat) (v v' : V), r[l]? = some v → r'[l]? = some v' → Frk k b 3 n dr v v' :=
    fun j o ho hj => ⟨hj, o, ho, rfl, rfl, rfl, rfl, fun i r r' h1 h2 => by rw [h1] at h2; cases h2; exact ⟨rfl, fun l v v' h3 h4 => by rw [h3] at h4; cases h4; exact .inl rfl⟩⟩
  refine Ent.freeze (o := ⟨b, ty, 3, dr⟩) hk rfl rfl hn hz (fun j => .inl rfl) (fun j q' hj => ?_)
  simp only [lookH] at hj
  split at hj
  · rename_i e; cases hj; subst e; exact same _ _ h0 (fun e => hk0 e.symm)
  · split at hj
    · rename_i e; cases hj; subst e; exact same _ _ h1 (fun e => hk1 e.symm)
    · split at hj
      · rename_i e
        cases hj
        subst e
        refine ⟨fun e => hkq e.symm, O, hq, rfl, rfl, rfl, by rw [hO]; simp, fun i r r' e1 e3 => ?_⟩
        rw [hO] at e1
        simp only at e3
        rw [List.getElem?_append] at e1 e3
        by_cases hi : i < pre.length
        · rw [if_pos hi] at e1 e3
          rw [e1] at e3; cases e3
          exact ⟨rfl, fun l v v' h4 h5 => by rw [h4] at h5; cases h5; exact .inl rfl⟩
        · rw [if_neg hi] at e1 e3
          cases hp : i - pre.length with
          | zero =>
            rw [hp] at e1 e3
            simp only [List.getElem?_cons_zero, Option.some.injEq] at e1 e3
            subst e1 e3
            refine ⟨rfl, fun l v v' h4 h5 => ?_⟩
            match l with
            | 0 => simp at h4 h5; subst h4 h5; exact .inl rfl
            | 1 => simp at h4 h5; subst h4 h5; exact .inl rfl
            | 2 => simp at h4 h5; subst h4 h5; exact .inr ⟨rfl, rfl⟩
            | l + 3 => simp at h4
          | succ m => rw [hp] at e1; simp at e1
      · cases hj
def srevsT (d : SC) (l : List Rev) (j : Int) : List Rev × Int := if thereT d.b l.length j ≠ 0 then ([], thereT d.b l.length j) else (l.drop (j - d.b).toNat, 0)
def ac_srevs : AC := .seq (.region false [
    ⟨some 4, none, .mov (.c (.slice none 0 0))⟩,
    ⟨some 5, none, .mov (.c (.int .i64 0))⟩])
  (.seq (.seq (.region false [
    ⟨some 10, none, .mov (.t 0)⟩,
    ⟨some 11, none, .mov (.t 1)⟩,
    ⟨some 12, none, .call 65 [(.t 10), (.t 11)]⟩,
    ⟨some 6, none, .mov (.t 12)⟩])
  (.seq (.region false [
    ⟨some 13, none, .mov (.t 6)⟩,
    ⟨some 14, none, .bin .neq (.t 13) (.c (.int .i64 0))⟩])
  (.cond (.t 14)
    (.seq (.region false [
      ⟨some 15, none, .mov (.t 6)⟩,
      ⟨some 4, none, .mov (.c (.slice none 0 0))⟩,
      ⟨some 5, none, .mov (.t 15)⟩])
    (.ret))
    (.skip))))
  (.seq (.region false [
    ⟨some 7, none, .mov (.c (.slice none 0 0))⟩])
  (.seq (.seq (.region true [
    ⟨some 16, none, .mov (.t 0)⟩,
    ⟨some 17, none, .nilchk (.t 16)⟩,
    ⟨some 18, none, .faddr 5 (.t 17)⟩,
    ⟨some 19, none, .faddr 35 (.t 18)⟩,
    ⟨some 20, none, .load1 (.t 19)⟩,
    ⟨some 21, none, .mov (.t 1)⟩,
    ⟨some 22, none, .mov (.t 0)⟩,
    ⟨some 23, none, .nilchk (.t 22)⟩,
    ⟨some 24, none, .faddr 5 (.t 23)⟩,
    ⟨some 25, none, .faddr 1 (.t 24)⟩,
    ⟨some 26, none, .load1 (.t 25)⟩,
    ⟨some 27, none, .bin .sub (.t 21) (.t 26)⟩,
    ⟨some 28, none, .slsl 3 (.t 20) (some (.t 27)) none⟩,
    ⟨some 29, none, .len false (.t 28)⟩,
    ⟨some 30, none, .mov (.c (.int .i64 0))⟩])
  (.block 0 (.loop (.seq (.region false [
      ⟨some 31, none, .bin .lss (.t 30) (.t 29)⟩])
    (.seq (.cond (.t 31)
      (.skip)
      (.exit 0))
    (.seq (.block 1 (.seq (.region false [
      ⟨some 32, none, .iaddr 3 (.t 28) (.t 30)⟩,
      ⟨some 33, none, .loadn 3 (.t 32)⟩,
      ⟨some 9, none, .alloc 45 [(.int .i64 0), (.int .i64 0), (.slice none 0 0)]⟩,
      ⟨none, none, .store 3 (.t 9) (.t 33)⟩])
    (.seq (.region false [
      ⟨some 34, none, .faddr 2 (.t 9)⟩,
      ⟨some 35, none, .load1 (.t 34)⟩,
      ⟨some 36, none, .append 108 3 32 (.c (.slice none 0 0)) (.t 35)⟩,
      ⟨some 37, none, .faddr 2 (.t 9)⟩,
      ⟨none, none, .store 1 (.t 37) (.t 36)⟩])
    (.region false [
      ⟨some 38, none, .mov (.t 7)⟩,
      ⟨some 39, none, .loadn 3 (.t 9)⟩,
      ⟨some 40, none, .bslice 45 3 [(.t 39)]⟩,
      ⟨some 41, none, .append 45 3 40 (.t 38) (.t 40)⟩,
      ⟨some 7, none, .mov (.t 41)⟩]))))
    (.region false [
      ⟨some 42, none, .bin .add (.t 30) (.c (.int .i64 1))⟩,
      ⟨some 30, none, .mov (.t 42)⟩])))))))
  (.seq (.region false [
    ⟨some 43, none, .mov (.t 7)⟩,
    ⟨some 4, none, .mov (.t 43)⟩,
    ⟨some 5, none, .mov (.c (.int .i64 0))⟩])
  (.ret)))))
theorem ok_srevs : FnOk Try.prog 44 Try.f44 ac_srevs [.t 4, .t 5] 2 drawD := ⟨Try.func44, by decide +kernel, by kernel_rfl, by kernel_rfl, by decide +kernel⟩
structure YRv (l : List Rev) (a : Nat) where
  i : Nat
  k : Int
  ba : Option Nat
  m : Nat
  rows : List (List V)
  hi : a + i ≤ l.length
  hk : k = (i : Int)
  hm : m = i
  hr : rows = ((l.drop a).take i).map encRev
theorem vc_srevs (P : Prim) (hP : P = std) (T T1 : CallT) (hth : SThereC T) (bl : Nat) (d : SC) (ba : Option Nat) (l : List Rev) (n : Nat) (hn : n = l.length) (rows : List (List V)) (hrows : rows = l.map encRev) (hdl : ∀ r ∈ l, r.delta.length ≤ 1000000000) (mv : V) (hrm : rtB 0 mv = true) (hm : Fz mv ∧ V.one mv = true) (hw : noW mv = true) (hb : 0 ≤ d.b ∧ d.b ≤ 4294967295) (hn2 : n ≤ 1000) (j : Int) (x : List Rev) (y : Int) (hr : srevsT d l j = (x, y))
    (R : S → Prop) (hR : ∀ s s' bo m ro, m = x.length → ro = x.map encRev → Ent s s' → Ret [.t 4, .t 5] [.own 1000041 bo 3 m, .int .i64 y] s' → agreeH [(0, obSh bl (rowS d (.own 1000001 ba 3 n) mv)), (1000001, obV ba rows), (1000041, obV bo ro)] s' → R s) : awp P T T1 ac_srevs (S0 [.ptr 0 (some bl) 47 0 0, .int .i64 j] (lookH (S2 bl d ba n rows mv))) R (fun _ _ => False) R := by
  have hv2 := hm.2
  unfold srevsT at hr
  rw [← hn] at hr
  cbv
  repeat' (first
    | (refine And.intro (by first | assumption | decide) ?_; try cbv)
    | (intro β2; try cbv))
  refine hth 0 bl d 1000001 ba n mv j _ _ hb hn2 hm hw rfl hrm rfl fun q hq => ?_
  rw [← hq] at hr
  cbv
  repeat' (first
    | (refine And.intro (by first | assumption | decide) ?_; try cbv)
    | (intro β2; try cbv))
  refine br_cases (fun g => ?_) (fun g => ?_)
  · have g1 : q ≠ 0 := ne_t hP g
    rw [if_pos g1] at hr
    cases hr
    cbv
    repeat' (first
    | (refine And.intro (by first | assumption | decide) ?_; try cbv)
    | (intro β2; try cbv))
    exact hR _ _ none 0 [] rfl rfl (Ent.nil (i := 4) (k := 1000041) (ty := 45) (sz := 3) rfl rfl) rfl ⟨rfl, rfl, rfl, trivial⟩
  have g1 : q = 0 := ne_f hP g
  rw [if_neg (fun hh => hh g1)] at hr
  have hj : d.b ≤ j ∧ j ≤ d.b + (n : Int) := by
    rw [g1] at hq
    unfold thereT at hq
    split at hq
    · cases hq
    · split at hq
      · cases hq
      · omega
  have m1 : P.i64 (P.sub j d.b) := by rw [sub_eq hP]; exact i64I hP (by omega)
  have m2 : P.leP 0 (P.sub j d.b) := le0 hP (by rw [sub_eq hP]; omega)
  have m3 : P.leP (P.sub j d.b) (P.int n) := leI hP (by rw [sub_eq hP, int_eq hP]; omega)
  have m4 : P.leP (P.int n) (P.int n) := leI hP (Int.le_refl _)
  obtain ⟨a, ha⟩ : ∃ a : Nat, P.sub j d.b = (a : Int) := ⟨(j - d.b).toNat, by rw [sub_eq hP]; omega⟩
  have haj : (j - d.b).toNat = a := by rw [sub_eq hP] at ha; omega
  have hal : a ≤ l.length := by rw [sub_eq hP] at ha; omega
  rw [haj] at hr
  simp only [Prod.mk.injEq] at hr
  obtain ⟨hx, hy⟩ := hr
  obtain ⟨lo, hlo⟩ : ∃ lo, lo = P.sub j d.b := ⟨_, rfl⟩
  have ha2 : lo = (a : Int) := by rw [hlo]; exact ha
  cbv
  repeat' (first
    | (refine And.intro (by first | assumption | decide) ?_; try cbv)
    | (intro β2; try cbv))
  rw [← hlo]
  refine ⟨YRv l a, fun y => [(0, .ptr 0 (some bl) 47 0 0), (7, .own 1000041 y.ba 3 y.m), (28, .win 1000001 ba 3 lo (P.int n)), (29, .int .i64 (P.sub (P.int n) lo)), (30, .int .i64 y.k)],
    fun y => [(0, obSh bl (rowS d (.own 1000001 ba 3 n) mv)), (1000001, obV ba rows), (1000041, obV y.ba y.rows)], fun y => l.length - y.i,
    ⟨_, Ent.nil (i := 7) (k := 1000041) (ty := 45) (sz := 3) rfl rfl, ⟨0, 0, none, 0, [], by omega, rfl, rfl, by simp⟩, ⟨rfl, rfl, rfl, rfl, rfl, trivial⟩, ⟨rfl, rfl, rfl, trivial⟩⟩, ?_⟩
  rintro ⟨i, k, bo, m, ro, hi, hk, hmi, hro⟩
  cbv
  refine br_cases (fun g => ?_) (fun g => ?_)
  · have g2 : k < P.sub (P.int n) lo := lt_t hP g
    have g3 : k < (n : Int) - lo := by rw [sub_eq hP, int_eq hP] at g2; exact g2
    have hil : a + i < l.length := by ((try simp only [nc] at *); omega)
    obtain ⟨r, hrr⟩ : ∃ r, l[a + i]? = some r := ⟨_, List.getElem?_eq_getElem hil⟩
    have hra : P.add lo k = ((a + i : Nat) : Int) := by rw [add_eq hP, ha2, hk]; simp
    have hrow : P.row rows (P.nat (P.add lo k)) [.int .i64 r.who, .int .i64 r.seq, .sl false 3 (r.delta.map encPart)] := row_of hP hra (by rw [hrows, List.getElem?_map, hrr]; rfl)
    have hdr : (r.delta.map encPart).length ≤ 1000000000 := by have := hdl r (List.mem_of_getElem? hrr); simpa using this
    have hdz := encParts_fz r.delta
    have hxr : ((l.drop a).take (i + 1)).map encRev = ro ++ [[.int .i64 r.who, .int .i64 r.seq, .sl false 3 (r.delta.map encPart)]] := by
      have e : (l.drop a)[i]? = some r := by rw [List.getElem?_drop]; exact hrr
      rw [hro, List.take_add_one, e]
      simp [encRev, encParts]
    generalize r.delta.map encPart = dr at hrow hdr hdz hxr
    obtain ⟨w, hw⟩ : ∃ w, r.who = w := ⟨_, rfl⟩
    obtain ⟨sq, hsq⟩ : ∃ w, r.seq = w := ⟨_, rfl⟩
    rw [hw, hsq] at hrow hxr
    have q1 : P.leP 0 k := le0 hP (by rw [hk]; exact Int.natCast_nonneg _)
    have q2 : P.ltP k (P.sub (P.int n) lo) := ltI hP g2
    have q3 : P.i64 (P.add k 1) := by rw [add_eq hP]; exact i64I hP (by ((try simp only [nc] at *); omega))
    have q4 : P.add k 1 = ((i + 1 : Nat) : Int) := by rw [add_eq hP, hk]; simp
    have f1 : P.bytes (P.rlen dr) 32 := by subst hP; show (dr.length : Int) * 32 ≤ _; ((try simp only [nc] at *); omega)
    have f2 : dr.length = P.rlenN dr := by subst hP; rfl
    have f4 : P.neP ro m := neP_of hP _ _ (by rw [hro, hmi]; simp; omega)
    have f5 : ∀ r, P.bytes (P.add (P.int m) (P.rlen [r])) 40 := by intro r; subst hP; show ((m : Int) + 1) * 40 ≤ _; ((try simp only [nc] at *); omega)
    have f6 : ∀ r, P.neP [r] 1 := by intro r; subst hP; rfl
    have f7 : ∀ r, P.rapp ro [r] = ro ++ [r] := by intro r; subst hP; rfl
    have f8 : ∀ r : List V, P.nadd m (P.rlenN [r]) = i + 1 := by intro r; rw [← hmi]; subst hP; rfl
    cbv
    repeat' (first
    | (refine And.intro (by first | assumption | decide) ?_; try cbv)
    | (intro β2; try cbv))
    refine ⟨_, hrow, ?_⟩
    cbv
    repeat' (first
      | (refine And.intro (by first | assumption | decide | exact f6 _ | exact f5 _) ?_; try cbv)
      | (intro β3; try cbv))
    rw [f7, f8]
    refine ⟨_, Ent.frzRev (k := 1000036) (q := 1000041) rfl rfl rfl rfl rfl f2 hdz (by decide) (by decide) (by decide) (by decide) (by decide), ⟨i + 1, _, _, i + 1, _, by omega, q4, rfl, hxr.symm⟩, ⟨rfl, rfl, rfl, rfl, rfl, trivial⟩, ⟨rfl, rfl, rfl, trivial⟩, ?_⟩
    show l.length - (i + 1) < l.length - i; omega
  · have g2 : ¬ k < P.sub (P.int n) lo := lt_f hP g
    have g3 : ¬ k < (n : Int) - lo := by rw [sub_eq hP, int_eq hP] at g2; exact g2
    have hil : a + i = l.length := by ((try simp only [nc] at *); omega)
    cbv
    repeat' (first
    | (refine And.intro (by first | assumption | decide) ?_; try cbv)
    | (intro β2; try cbv))
    subst hy
    refine hR _ _ bo m ro ?_ ?_ (Ent.refl _) rfl ⟨rfl, rfl, rfl, trivial⟩
    · rw [hmi, ← hx]; simp; omega
    · rw [hro, ← hx, List.take_of_length_le (by simp; omega)]
theorem sp_srevs (bl : Nat) (d : SC) (ba : Option Nat) (l : List Rev) (hdl : ∀ r ∈ l, r.delta.length ≤ 1000000000) (hb : 0 ≤ d.b ∧ d.b ≤ 4294967295) (hn2 : l.length ≤ 1000) (j : Int) (mv : V) (hq : MQ mv) : Spec Try.prog 44 [.ptr 0 (some bl) 47 0 0, .int .i64 j] (lookH (S2 bl d ba l.length (l.map encRev) mv))
    fun x h' => ∃ L', (∃ bo, x = .tup [.own 1000041 bo 3 (srevsT d l j).1.length, .int .i64 (srevsT d l j).2] ∧ L' = [(0, obSh bl (rowS d (.own 1000001 ba 3 l.length) mv)), (1000001, obV ba (l.map encRev)), (1000041, obV bo ((srevsT d l j).1.map encRev))]) ∧ h' = lookH L' :=
  spec_meth dOk ok_srevs (L := S2 bl d ba l.length (l.map encRev) mv) (fun x L' => ∃ bo, x = .tup [.own 1000041 bo 3 (srevsT d l j).1.length, .int .i64 (srevsT d l j).2] ∧ L' = [(0, obSh bl (rowS d (.own 1000001 ba 3 l.length) mv)), (1000001, obV ba (l.map encRev)), (1000041, obV bo ((srevsT d l j).1.map encRev))]) fun R hR =>
    vc_srevs std rfl _ _ stherE bl d ba l _ rfl _ rfl hdl mv (rt0 hq.2) hq.1 hq.2 hb hn2 j _ _ rfl R fun s s' bo m ro hm hro he hr ha => by
      subst hm hro
      refine hR s s' _ _ he (resV_mono _ _ _ (fun x hx => by rw [hx]; rfl) hr) ha (.tup _ (by simp; exact ⟨.own _ _ _ _, .int _ _⟩)) (fun p hp => ?_) ⟨bo, rfl, rfl⟩
      simp only [List.mem_cons, List.not_mem_nil, or_false] at hp
      rcases hp with rfl | rfl | rfl
      · exact rowS_fz (.own _ _ _ _) hq.1.1 bl
      · exact encRevs_fz _
      · exact encRevs_fz _
end Go.Proofs.Ytobngncjflogcaa.AM

set_option linter.unusedVariables false
set_option linter.unusedSimpArgs false
namespace Go.Proofs.Ytobngncjflogcaa.AM
open Go Go.RowKit
set_option maxRecDepth 100000
set_option maxHeartbeats 2000000
def ac_rlog : AC := .seq (.region false [
    ⟨some 2, none, .alloc 81 [(.int .i64 0), (.int .i64 0), (.string ⟨#[]⟩), (.int .i64 0), (.int .i64 0), (.int .i64 0), (.int .i64 0), (.int .i64 0), (.int .i64 0), (.int .i64 0), (.int .i64 0), (.int .i64 0), (.int .i64 0), (.int .i64 0), (.int .i64 0), (.int .i64 0), (.int .i64 0), (.int .i64 0), (.int .i64 0), (.int .i64 0), (.int .i64 0), (.int .i64 0), (.int .i64 0), (.int .i64 0), (.int .i64 0), (.int .i64 0), (.int .i64 0), (.int .i64 0), (.int .i64 0), (.int .i64 0), (.int .i64 0), (.int .i64 0), (.int .i64 0), (.int .i64 0), (.int .i64 0), (.slice none 0 0), (.bool false), (.int .i64 0)]⟩,
    ⟨some 3, none, .mov (.c (.int .i64 0))⟩])
  (.seq (.region false [
    ⟨some 21, none, .mov (.t 0)⟩,
    ⟨some 22, none, .call 73 [(.t 21)]⟩,
    ⟨some 20, none, .mov (.t 22)⟩,
    ⟨some 23, none, .ext 0 (.t 20)⟩,
    ⟨some 24, none, .ext 1 (.t 20)⟩,
    ⟨some 4, none, .mov (.t 23)⟩,
    ⟨some 5, none, .mov (.t 24)⟩])
  (.seq (.seq (.region false [
    ⟨some 25, none, .mov (.t 4)⟩,
    ⟨some 26, none, .len false (.t 25)⟩,
    ⟨some 27, none, .bin .eql (.t 26) (.c (.int .i64 0))⟩])
  (.cond (.t 27)
    (.seq (.region false [
      ⟨some 28, none, .build [(.int .i64 0), (.int .i64 0), (.string ⟨#[]⟩), (.int .i64 0), (.int .i64 0), (.int .i64 0), (.int .i64 0), (.int .i64 0), (.int .i64 0), (.int .i64 0), (.int .i64 0), (.int .i64 0), (.int .i64 0), (.int .i64 0), (.int .i64 0), (.int .i64 0), (.int .i64 0), (.int .i64 0), (.int .i64 0), (.int .i64 0), (.int .i64 0), (.int .i64 0), (.int .i64 0), (.int .i64 0), (.int .i64 0), (.int .i64 0), (.int .i64 0), (.int .i64 0), (.int .i64 0), (.int .i64 0), (.int .i64 0), (.int .i64 0), (.int .i64 0), (.int .i64 0), (.int .i64 0), (.slice none 0 0), (.bool false), (.int .i64 0)] []⟩,
      ⟨none, none, .store 38 (.t 2) (.t 28)⟩,
      ⟨some 3, none, .mov (.c (.int .i64 7))⟩])
    (.ret))
    (.skip)))
  (.seq (.region false [
    ⟨some 30, none, .mov (.t 4)⟩,
    ⟨some 31, none, .iaddr 2 (.t 30) (.c (.int .i64 0))⟩,
    ⟨some 32, none, .faddr 1 (.t 31)⟩,
    ⟨some 33, none, .load1 (.t 32)⟩,
    ⟨some 34, none, .call 74 [(.t 33), (.c (.int .i64 18))]⟩,
    ⟨some 29, none, .mov (.t 34)⟩,
    ⟨some 35, none, .ext 0 (.t 29)⟩,
    ⟨some 36, none, .ext 1 (.t 29)⟩,
    ⟨some 37, none, .ext 2 (.t 29)⟩,
    ⟨some 6, none, .mov (.t 35)⟩,
    ⟨some 7, none, .mov (.t 36)⟩,
    ⟨some 8, none, .mov (.t 37)⟩])
  (.seq (.seq (.region false [
    ⟨some 38, none, .mov (.t 4)⟩,
    ⟨some 39, none, .iaddr 2 (.t 38) (.c (.int .i64 0))⟩,
    ⟨some 40, none, .faddr 0 (.t 39)⟩,
    ⟨some 41, none, .load1 (.t 40)⟩,
    ⟨some 42, none, .bin .neq (.t 41) (.c (.int .i64 1))⟩,
    ⟨some 43, none, .mov (.t 42)⟩,
    ⟨some 44, some (43, false), .mov (.t 8)⟩,
    ⟨some 45, some (43, false), .not (.t 44)⟩,
    ⟨some 46, none, .pick (.t 43) (.c (.bool true)) (.t 45)⟩,
    ⟨some 47, none, .mov (.t 46)⟩,
    ⟨some 48, some (47, false), .mov (.t 7)⟩,
    ⟨some 49, some (47, false), .len true (.t 48)⟩,
    ⟨some 50, some (47, false), .bin .gtr (.t 49) (.c (.int .i64 500))⟩,
    ⟨some 51, none, .pick (.t 47) (.c (.bool true)) (.t 50)⟩])
  (.cond (.t 51)
    (.seq (.region false [
      ⟨some 52, none, .build [(.int .i64 0), (.int .i64 0), (.string ⟨#[]⟩), (.int .i64 0), (.int .i64 0), (.int .i64 0), (.int .i64 0), (.int .i64 0), (.int .i64 0), (.int .i64 0), (.int .i64 0), (.int .i64 0), (.int .i64 0), (.int .i64 0), (.int .i64 0), (.int .i64 0), (.int .i64 0), (.int .i64 0), (.int .i64 0), (.int .i64 0), (.int .i64 0), (.int .i64 0), (.int .i64 0), (.int .i64 0), (.int .i64 0), (.int .i64 0), (.int .i64 0), (.int .i64 0), (.int .i64 0), (.int .i64 0), (.int .i64 0), (.int .i64 0), (.int .i64 0), (.int .i64 0), (.int .i64 0), (.slice none 0 0), (.bool false), (.int .i64 0)] []⟩,
      ⟨none, none, .store 38 (.t 2) (.t 52)⟩,
      ⟨some 3, none, .mov (.c (.int .i64 3))⟩])
    (.ret))
    (.skip)))
  (.seq (.region true [
    ⟨some 53, none, .mov (.t 6)⟩,
    ⟨some 54, none, .iaddr 1 (.t 53) (.c (.int .i64 0))⟩,
    ⟨some 55, none, .load1 (.t 54)⟩,
    ⟨some 56, none, .mov (.t 6)⟩,
    ⟨some 57, none, .iaddr 1 (.t 56) (.c (.int .i64 1))⟩,
    ⟨some 58, none, .load1 (.t 57)⟩,
    ⟨some 59, none, .mov (.t 7)⟩,
    ⟨some 60, none, .mov (.t 4)⟩,
    ⟨some 61, none, .iaddr 2 (.t 60) (.c (.int .i64 0))⟩,
    ⟨some 62, none, .faddr 1 (.t 61)⟩,
    ⟨some 63, none, .load1 (.t 62)⟩,
    ⟨some 64, none, .len true (.t 63)⟩,
    ⟨some 65, none, .bin .add (.c (.int .i64 7)) (.t 64)⟩,
    ⟨some 66, none, .build [(.int .i64 0), (.int .i64 0), (.string ⟨#[]⟩), (.int .i64 0), (.int .i64 0), (.int .i64 0), (.int .i64 0), (.int .i64 0), (.int .i64 0), (.int .i64 0), (.int .i64 0), (.int .i64 0), (.int .i64 0), (.int .i64 0), (.int .i64 0), (.int .i64 0), (.int .i64 0), (.int .i64 0), (.int .i64 0), (.int .i64 0), (.int .i64 0), (.int .i64 0), (.int .i64 0), (.int .i64 0), (.int .i64 0), (.int .i64 0), (.int .i64 0), (.int .i64 0), (.int .i64 0), (.int .i64 0), (.int .i64 0), (.int .i64 0), (.int .i64 0), (.int .i64 0), (.int .i64 0), (.slice none 0 0), (.bool false), (.int .i64 0)] [(0, 1, (.t 55)), (1, 1, (.t 58)), (2, 1, (.t 59)), (37, 1, (.t 65))]⟩,
    ⟨some 9, none, .alloc 81 [(.int .i64 0), (.int .i64 0), (.string ⟨#[]⟩), (.int .i64 0), (.int .i64 0), (.int .i64 0), (.int .i64 0), (.int .i64 0), (.int .i64 0), (.int .i64 0), (.int .i64 0), (.int .i64 0), (.int .i64 0), (.int .i64 0), (.int .i64 0), (.int .i64 0), (.int .i64 0), (.int .i64 0), (.int .i64 0), (.int .i64 0), (.int .i64 0), (.int .i64 0), (.int .i64 0), (.int .i64 0), (.int .i64 0), (.int .i64 0), (.int .i64 0), (.int .i64 0), (.int .i64 0), (.int .i64 0), (.int .i64 0), (.int .i64 0), (.int .i64 0), (.int .i64 0), (.int .i64 0), (.slice none 0 0), (.bool false), (.int .i64 0)]⟩,
    ⟨none, none, .store 38 (.t 9) (.t 66)⟩])
  (.seq (.seq (.region false [
    ⟨some 67, none, .mov (.c (.int .i64 0))⟩])
  (.block 0 (.loop (.seq (.region false [
      ⟨some 68, none, .bin .lss (.t 67) (.c (.int .i64 8))⟩])
    (.seq (.cond (.t 68)
      (.skip)
      (.exit 0))
    (.seq (.block 1 (.seq (.region false [
      ⟨some 69, none, .mov (.t 67)⟩,
      ⟨some 10, none, .mov (.t 69)⟩])
    (.region true [
      ⟨some 70, none, .mov (.t 10)⟩,
      ⟨some 71, none, .mov (.t 6)⟩,
      ⟨some 72, none, .mov (.t 10)⟩,
      ⟨some 73, none, .bin .mul (.c (.int .i64 2)) (.t 72)⟩,
      ⟨some 74, none, .bin .add (.c (.int .i64 2)) (.t 73)⟩,
      ⟨some 75, none, .iaddr 1 (.t 71) (.t 74)⟩,
      ⟨some 76, none, .load1 (.t 75)⟩,
      ⟨some 77, none, .mov (.t 6)⟩,
      ⟨some 78, none, .mov (.t 10)⟩,
      ⟨some 79, none, .bin .mul (.c (.int .i64 2)) (.t 78)⟩,
      ⟨some 80, none, .bin .add (.c (.int .i64 3)) (.t 79)⟩,
      ⟨some 81, none, .iaddr 1 (.t 77) (.t 80)⟩,
      ⟨some 82, none, .load1 (.t 81)⟩,
      ⟨some 83, none, .build [(.int .i64 0), (.int .i64 0)] [(0, 1, (.t 76)), (1, 1, (.t 82))]⟩,
      ⟨some 84, none, .faddr 3 (.t 9)⟩,
      ⟨some 85, none, .iarr 8 2 (.t 84) (.t 70)⟩,
      ⟨none, none, .store 2 (.t 85) (.t 83)⟩])))
    (.region false [
      ⟨some 86, none, .bin .add (.t 67) (.c (.int .i64 1))⟩,
      ⟨some 67, none, .mov (.t 86)⟩])))))))
  (.seq (.region false [
    ⟨some 87, none, .faddr 3 (.t 9)⟩,
    ⟨some 88, none, .loadn 16 (.t 87)⟩,
    ⟨some 89, none, .faddr 19 (.t 9)⟩,
    ⟨none, none, .store 16 (.t 89) (.t 88)⟩])
  (.seq (.region false [
    ⟨some 90, none, .mov (.t 7)⟩,
    ⟨some 11, none, .mov (.t 90)⟩])
  (.seq (.seq (.region false [
    ⟨some 91, none, .mov (.t 4)⟩,
    ⟨some 92, none, .slsl 2 (.t 91) (some (.c (.int .i64 1))) none⟩,
    ⟨some 93, none, .len false (.t 92)⟩,
    ⟨some 94, none, .mov (.c (.int .i64 0))⟩])
  (.block 2 (.loop (.seq (.region false [
      ⟨some 95, none, .bin .lss (.t 94) (.t 93)⟩])
    (.seq (.cond (.t 95)
      (.skip)
      (.exit 2))
    (.seq (.block 3 (.seq (.region false [
      ⟨some 96, none, .iaddr 2 (.t 92) (.t 94)⟩,
      ⟨some 97, none, .loadn 2 (.t 96)⟩,
      ⟨some 13, none, .alloc 139 [(.int .i64 0), (.string ⟨#[]⟩)]⟩,
      ⟨none, none, .store 2 (.t 13) (.t 97)⟩])
    (.seq (.seq (.region false [
      ⟨some 98, none, .faddr 0 (.t 13)⟩,
      ⟨some 99, none, .load1 (.t 98)⟩,
      ⟨some 100, none, .bin .eql (.t 99) (.c (.int .i64 3))⟩,
      ⟨some 101, none, .mov (.t 100)⟩,
      ⟨some 102, some (101, true), .faddr 1 (.t 13)⟩,
      ⟨some 103, some (101, true), .load1 (.t 102)⟩,
      ⟨some 104, some (101, true), .bin .eql (.t 103) (.c (.string ⟨#[]⟩))⟩,
      ⟨some 105, none, .pick (.t 101) (.t 104) (.c (.bool false))⟩,
      ⟨some 106, none, .mov (.t 105)⟩,
      ⟨some 107, some (106, true), .faddr 36 (.t 9)⟩,
      ⟨some 108, some (106, true), .load1 (.t 107)⟩,
      ⟨some 109, some (106, true), .not (.t 108)⟩,
      ⟨some 110, none, .pick (.t 106) (.t 109) (.c (.bool false))⟩])
    (.cond (.t 110)
      (.seq (.region false [
        ⟨some 111, none, .faddr 36 (.t 9)⟩,
        ⟨none, none, .store 1 (.t 111) (.c (.bool true))⟩])
      (.seq (.region false [
        ⟨some 112, none, .faddr 37 (.t 9)⟩,
        ⟨some 113, none, .load1 (.t 112)⟩,
        ⟨some 114, none, .bin .add (.t 113) (.c (.int .i64 7))⟩,
        ⟨some 115, none, .faddr 37 (.t 9)⟩,
        ⟨none, none, .store 1 (.t 115) (.t 114)⟩])
      (.exit 3)))
      (.skip)))
    (.seq (.region false [
      ⟨some 117, none, .faddr 1 (.t 13)⟩,
      ⟨some 118, none, .load1 (.t 117)⟩,
      ⟨some 119, none, .call 74 [(.t 118), (.c (.int .i64 2))]⟩,
      ⟨some 116, none, .mov (.t 119)⟩,
      ⟨some 120, none, .ext 0 (.t 116)⟩,
      ⟨some 121, none, .ext 1 (.t 116)⟩,
      ⟨some 122, none, .ext 2 (.t 116)⟩,
      ⟨some 14, none, .mov (.t 120)⟩,
      ⟨some 15, none, .mov (.t 121)⟩,
      ⟨some 16, none, .mov (.t 122)⟩])
    (.seq (.seq (.region false [
      ⟨some 123, none, .faddr 0 (.t 13)⟩,
      ⟨some 124, none, .load1 (.t 123)⟩,
      ⟨some 125, none, .bin .neq (.t 124) (.c (.int .i64 2))⟩,
      ⟨some 126, none, .mov (.t 125)⟩,
      ⟨some 127, some (126, false), .mov (.t 16)⟩,
      ⟨some 128, some (126, false), .not (.t 127)⟩,
      ⟨some 129, none, .pick (.t 126) (.c (.bool true)) (.t 128)⟩])
    (.cond (.t 129)
      (.exit 2)
      (.skip)))
    (.seq (.region false [
      ⟨some 131, none, .mov (.t 15)⟩,
      ⟨some 132, none, .call 75 [(.t 131)]⟩,
      ⟨some 130, none, .mov (.t 132)⟩,
      ⟨some 133, none, .ext 0 (.t 130)⟩,
      ⟨some 134, none, .ext 1 (.t 130)⟩,
      ⟨some 17, none, .mov (.t 133)⟩,
      ⟨some 18, none, .mov (.t 134)⟩])
    (.seq (.region true [
      ⟨some 135, none, .mov (.t 14)⟩,
      ⟨some 136, none, .iaddr 1 (.t 135) (.c (.int .i64 0))⟩,
      ⟨some 137, none, .load1 (.t 136)⟩,
      ⟨some 138, none, .mov (.t 14)⟩,
      ⟨some 139, none, .iaddr 1 (.t 138) (.c (.int .i64 1))⟩,
      ⟨some 140, none, .load1 (.t 139)⟩,
      ⟨some 141, none, .mov (.t 17)⟩,
      ⟨some 142, none, .build [(.int .i64 0), (.int .i64 0), (.slice none 0 0)] [(0, 1, (.t 137)), (1, 1, (.t 140)), (2, 1, (.t 141))]⟩,
      ⟨some 19, none, .alloc 45 [(.int .i64 0), (.int .i64 0), (.slice none 0 0)]⟩,
      ⟨none, none, .store 3 (.t 19) (.t 142)⟩])
    (.seq (.seq (.region false [
      ⟨some 143, none, .mov (.t 18)⟩,
      ⟨some 144, none, .bin .neq (.t 143) (.c (.int .i64 0))⟩,
      ⟨some 145, none, .mov (.t 144)⟩,
      ⟨some 146, some (145, false), .loadn 38 (.t 9)⟩,
      ⟨some 147, some (145, false), .mov (.t 11)⟩,
      ⟨some 148, some (145, false), .len true (.t 147)⟩,
      ⟨some 149, some (145, false), .loadn 3 (.t 19)⟩,
      ⟨some 150, some (145, false), .call 76 [(.t 146), (.t 148), (.t 149)]⟩,
      ⟨some 151, some (145, false), .bin .neq (.t 150) (.c (.int .i64 0))⟩,
      ⟨some 152, none, .pick (.t 145) (.c (.bool true)) (.t 151)⟩])
    (.cond (.t 152)
      (.exit 2)
      (.skip)))
    (.seq (.region false [
      ⟨some 154, none, .mov (.t 17)⟩,
      ⟨some 155, none, .mov (.t 11)⟩,
      ⟨some 156, none, .call 77 [(.t 154), (.t 155)]⟩,
      ⟨some 153, none, .mov (.t 156)⟩,
      ⟨some 157, none, .ext 0 (.t 153)⟩,
      ⟨some 158, none, .ext 1 (.t 153)⟩,
      ⟨some 11, none, .mov (.t 157)⟩])
    (.seq (.region false [
      ⟨some 159, none, .faddr 35 (.t 9)⟩,
      ⟨some 160, none, .load1 (.t 159)⟩,
      ⟨some 161, none, .loadn 3 (.t 19)⟩,
      ⟨some 162, none, .bslice 45 3 [(.t 161)]⟩,
      ⟨some 163, none, .append 45 3 40 (.t 160) (.t 162)⟩,
      ⟨some 164, none, .faddr 35 (.t 9)⟩,
      ⟨none, none, .store 1 (.t 164) (.t 163)⟩])
    (.seq (.region false [
      ⟨some 165, none, .faddr 0 (.t 19)⟩,
      ⟨some 166, none, .load1 (.t 165)⟩,
      ⟨some 167, none, .faddr 1 (.t 19)⟩,
      ⟨some 168, none, .load1 (.t 167)⟩,
      ⟨some 169, none, .faddr 1 (.t 9)⟩,
      ⟨some 170, none, .load1 (.t 169)⟩,
      ⟨some 171, none, .faddr 35 (.t 9)⟩,
      ⟨some 172, none, .load1 (.t 171)⟩,
      ⟨some 173, none, .len false (.t 172)⟩,
      ⟨some 174, none, .bin .add (.t 170) (.t 173)⟩,
      ⟨some 175, none, .build [(.int .i64 0), (.int .i64 0)] [(0, 1, (.t 168)), (1, 1, (.t 174))]⟩,
      ⟨some 176, none, .faddr 19 (.t 9)⟩,
      ⟨some 177, none, .iarr 8 2 (.t 176) (.t 166)⟩,
      ⟨none, none, .store 2 (.t 177) (.t 175)⟩])
    (.region false [
      ⟨some 178, none, .faddr 37 (.t 9)⟩,
      ⟨some 179, none, .load1 (.t 178)⟩,
      ⟨some 180, none, .faddr 1 (.t 13)⟩,
      ⟨some 181, none, .load1 (.t 180)⟩,
      ⟨some 182, none, .len true (.t 181)⟩,
      ⟨some 183, none, .bin .add (.c (.int .i64 7)) (.t 182)⟩,
      ⟨some 184, none, .bin .add (.t 179) (.t 183)⟩,
      ⟨some 185, none, .faddr 37 (.t 9)⟩,
      ⟨none, none, .store 1 (.t 185) (.t 184)⟩]))))))))))))
    (.region false [
      ⟨some 186, none, .bin .add (.t 94) (.c (.int .i64 1))⟩,
      ⟨some 94, none, .mov (.t 186)⟩])))))))
  (.seq (.region false [
    ⟨some 187, none, .loadn 38 (.t 9)⟩,
    ⟨none, none, .store 38 (.t 2) (.t 187)⟩,
    ⟨some 3, none, .mov (.c (.int .i64 0))⟩])
  (.ret)))))))))))
theorem ok_rlog : FnOk Try.prog 38 Try.f38 ac_rlog [.cn 2 38, .t 3] 1 drawD := ⟨Try.func38, by decide +kernel, by kernel_rfl, by kernel_rfl, by decide +kernel⟩
structure YL8 (F : Nat → Int) where
  i : Nat
  k : Int
  f : Nat → Int
  hi : i ≤ 8
  hk : k = (i : Int)
  hf : ∀ j, j < 16 → f j = if j < 2 * i then F j else 0
theorem vc_rlog (P : Prim) (hP : P = std) (T T1 : CallT) (s : List UInt8) (Fs : List Frame) (hfs : ∀ f ∈ Fs, f.body.length ≤ 4000) (hfl : Fs.length ≤ 1048576) (frs : List (List V)) (hfrs : frs = frRows Fs) (fn : Int)
    (h1 : Ans T 73 [.str s] (.tup [.sl false 2 frs, .int .i64 fn])) (hg hb : List UInt8 → Int) (ht : List UInt8 → List UInt8) (hf : List UInt8 → Nat → Int) (ho : List UInt8 → Bool)
    (nr : List UInt8 → List (List V)) (no : List UInt8 → Bool) (nt : List UInt8 → List UInt8) (h2 : ∀ x, x.length ≤ 4000 → Ans T 74 [.str x, .int .i64 18] (.tup [.sl false 1 (nr x), .str (nt x), .bool (no x)]))
    (hnr : ∀ x, no x = true → nr x = iRows (hg x :: hb x :: (List.range 16).map (hf x)) ∧ nt x = ht x) (hho : ∀ x, ho x = (no x && decide ((nt x).length ≤ 500))) (hbb : ∀ x, 0 ≤ hb x ∧ hb x ≤ 2147483647)
    (nr2 : List UInt8 → List (List V)) (no2 : List UInt8 → Bool) (nt2 : List UInt8 → List UInt8) (h3 : ∀ x, x.length ≤ 4000 → Ans T 74 [.str x, .int .i64 2] (.tup [.sl false 1 (nr2 x), .str (nt2 x), .bool (no2 x)]))
    (rw rq : List UInt8 → Int) (rd : List UInt8 → List (List V)) (ro : List UInt8 → Bool) (e2 : List UInt8 → Int) (hnr2 : ∀ x, no2 x = true → nr2 x = iRows [rw x, rq x])
    (h3b : ∀ x, x.length ≤ 4000 → no2 x = true → Ans T 75 [.str (nt2 x)] (.tup [.sl false 3 (rd x), .int .i64 (e2 x)]))
    (hrv : ∀ x, rw x = (revB x).who ∧ rq x = (revB x).seq ∧ rd x = (revB x).delta.map encPart ∧ ro x = revOk x) (hro : ∀ x, ro x = true ↔ (no2 x = true ∧ e2 x = 0 ∧ oneF (revB x) = 0))
    (nx : Int → (Nat → Int) → Nat → Int → Rev → Int) (h4 : NxC T 76 nx) (hnx : ∀ b tb n sz r, nx b tb n sz r = nextF b tb n sz r)
    (dt : List UInt8 → List UInt8 → List UInt8) (de : List UInt8 → List UInt8 → Int) (h5 : ∀ x now, Ans T 77 [.sl false 3 (rd x), .str now] (.tup [.str (dt x now), .int .i64 (de x now)])) (hdt : ∀ x now, dt x now = (doF (revB x).delta now).1)
    (rl : LogD) (re : Int) (hr : readG hg hb ht hf ho Fs = (rl, re))
    (R : S → Prop) (hR : RetLog [.cn 2 38, .t 3] 1000163 rl re R) : awp P T T1 ac_rlog (S0 [.str s] Hp.emp) R (fun _ _ => False) R := by
  have hl1 : P.rlen frs = (Fs.length : Int) := by rw [rlen_eq hP, hfrs]; simp [frRows]
  have z0 : P.leP 0 0 := le0 hP (by decide)
  have z1 : P.leP 0 1 := le0 hP (by decide)
  have hnl8 : ∀ i : Nat, i < 8 → P.leP 0 (i : Int) ∧ P.ltP (i : Int) 8 := fun i hi => ⟨le0 hP (by omega), ltI hP (by omega)⟩
  have hN : ∀ i : Nat, P.nat (i : Int) = i := fun i => by subst hP; rfl
  cbv
  intro β2
  cbv
  refine h1 _ _ ?_
  cbv
  rcases Fs with _ | ⟨⟨k0, b0⟩, fs⟩
  · have e0 : P.rlen frs = 0 := by rw [hl1]; rfl
    simp only [readG, Prod.mk.injEq] at hr
    refine br_tt (eq_T hP e0) ?_
    cbv
    repeat' (first
      | (refine And.intro (by first | assumption | decide) ?_; try cbv)
      | (intro β9; try cbv))
    exact hR _ _ _ _ _ _ (fun _ => 0) (fun _ => 0) _ _ [] _ (Ent.refl _) ⟨rfl, rfl, Nat.zero_lt_succ 0, Nat.le_refl 38, rfl⟩ (.inl ⟨rfl, rfl, by decide⟩) ⟨by rw [← hr.1]; rfl, by rw [← hr.1]; rfl, by rw [← hr.1]; rfl, by rw [← hr.1]; rfl, fun _ _ => by rw [← hr.1]; rfl, fun _ _ => by rw [← hr.1]; rfl, by rw [← hr.1]; rfl, by rw [← hr.1]; rfl, hr.2⟩
  have e0 : ¬ P.rlen frs = 0 := by rw [hl1]; simp only [List.length_cons]; ((try simp only [nc] at *); omega)
  have row0 : P.row frs (P.nat 0) [.int .i64 k0, .str b0] := row_of hP (i := 0) rfl (by rw [hfrs]; rfl)
  have hb4 : b0.length ≤ 4000 := hfs ⟨k0, b0⟩ (by simp)
  have c2 := h2 b0 hb4
  have hnr0 := hnr b0
  have hho0 := hho b0
  have hbb0 := hbb b0
  simp only [readG] at hr
  have bad : (k0 ≠ 1 ∨ ho b0 = false) → zeroL = rl ∧ 3 = re := fun h => by
    rw [if_pos h] at hr; simpa using hr
  clear h2 hnr hho hbb
  refine br_ff (eq_F hP e0) ?_
  cbv
  repeat' (first
    | (refine And.intro (by first | assumption | decide) ?_; try cbv)
    | (intro β9; try cbv))
  refine ⟨_, row0, ?_⟩
  cbv
  repeat' (first
    | (refine And.intro (by first | assumption | decide) ?_; try cbv)
    | (intro β9; try cbv))
  refine c2 _ _ ?_
  cbv
  repeat' (first
    | (refine And.intro (by first | assumption | decide) ?_; try cbv)
    | (intro β9; try cbv))
  refine ⟨_, row0, ?_⟩
  cbv
  clear c2
  refine br_cases (fun g => ?_) (fun g => ?_)
  · obtain ⟨r1, r2⟩ := bad (.inl (ne_t hP g))
    cbv
    repeat' (first
      | (refine And.intro (by first | assumption | decide) ?_; try cbv)
      | (intro β9; try cbv))
    exact hR _ _ _ _ _ _ (fun _ => 0) (fun _ => 0) _ _ [] _ (Ent.refl _) ⟨rfl, rfl, Nat.zero_lt_succ 0, Nat.le_refl 38, rfl⟩ (.inl ⟨rfl, rfl, by decide⟩) ⟨by rw [← r1]; rfl, by rw [← r1]; rfl, by rw [← r1]; rfl, by rw [← r1]; rfl, fun _ _ => by rw [← r1]; rfl, fun _ _ => by rw [← r1]; rfl, by rw [← r1]; rfl, by rw [← r1]; rfl, r2⟩
  have hk1 : k0 = 1 := ne_f hP g
  cbv
  refine br_cases (fun g => ?_) (fun g => ?_)
  rotate_left
  · obtain ⟨r1, r2⟩ := bad (.inr (by rw [hho0, g]; rfl))
    cbv
    repeat' (first
      | (refine And.intro (by first | assumption | decide) ?_; try cbv)
      | (intro β9; try cbv))
    exact hR _ _ _ _ _ _ (fun _ => 0) (fun _ => 0) _ _ [] _ (Ent.refl _) ⟨rfl, rfl, Nat.zero_lt_succ 0, Nat.le_refl 38, rfl⟩ (.inl ⟨rfl, rfl, by decide⟩) ⟨by rw [← r1]; rfl, by rw [← r1]; rfl, by rw [← r1]; rfl, by rw [← r1]; rfl, fun _ _ => by rw [← r1]; rfl, fun _ _ => by rw [← r1]; rfl, by rw [← r1]; rfl, by rw [← r1]; rfl, r2⟩
  have hno := g
  obtain ⟨hn1, hn2⟩ := hnr0 hno
  rw [hno] at hho0
  cbv
  refine br_cases (fun g => ?_) (fun g => ?_)
  · have g5 : 500 < P.slen (nt b0) := lt_t hP g
    rw [slen_eq hP] at g5
    obtain ⟨r1, r2⟩ := bad (.inr (by rw [hho0, decide_eq_false (by ((try simp only [nc] at *); omega))]; rfl))
    cbv
    repeat' (first
      | (refine And.intro (by first | assumption | decide) ?_; try cbv)
      | (intro β9; try cbv))
    exact hR _ _ _ _ _ _ (fun _ => 0) (fun _ => 0) _ _ [] _ (Ent.refl _) ⟨rfl, rfl, Nat.zero_lt_succ 0, Nat.le_refl 38, rfl⟩ (.inl ⟨rfl, rfl, by decide⟩) ⟨by rw [← r1]; rfl, by rw [← r1]; rfl, by rw [← r1]; rfl, by rw [← r1]; rfl, fun _ _ => by rw [← r1]; rfl, fun _ _ => by rw [← r1]; rfl, by rw [← r1]; rfl, by rw [← r1]; rfl, r2⟩
  have g5 : ¬ 500 < P.slen (nt b0) := lt_f hP g
  rw [slen_eq hP] at g5
  have hok : ho b0 = true := by rw [hho0, decide_eq_true (by ((try simp only [nc] at *); omega))]; rfl
  rw [if_neg (by rw [hok]; simp [hk1])] at hr
  simp only [Prod.mk.injEq] at hr
  obtain ⟨hrl, hre⟩ := hr
  obtain ⟨L0, hL0⟩ : ∃ L, L = headG (hg b0) (hb b0) (ht b0) (hf b0) ((b0.length : Int) + 7) := ⟨_, rfl⟩
  have l01 : hg b0 = L0.gen := by rw [hL0]; rfl
  have l02 : hb b0 = L0.base := by rw [hL0]; rfl
  have l03 : ht b0 = L0.text := by rw [hL0]; rfl
  have l04 : ∀ j, hf b0 j = L0.first j := fun j => by rw [hL0]; rfl
  have l05 : hf b0 = L0.table := by rw [hL0]; rfl
  have l06 : L0.revs = [] := by rw [hL0]; rfl
  have l07 : false = L0.whole := by rw [hL0]; rfl
  have l08 : L0.good = (b0.length : Int) + 7 := by rw [hL0]; rfl
  have l09 : 0 ≤ L0.base ∧ L0.base ≤ 2147483647 := by rw [hL0]; exact hbb0
  rw [← hL0] at hrl
  clear hL0
  have n0 : P.row (nr b0) (P.nat 0) [.int .i64 (hg b0)] := row_of hP (i := 0) rfl (by rw [hn1]; rfl)
  have n1 : P.row (nr b0) (P.nat 1) [.int .i64 (hb b0)] := row_of hP (i := 1) rfl (by rw [hn1]; rfl)
  have nj : ∀ (j : Nat) (k : Int), k = ((j + 2 : Nat) : Int) → j < 16 → P.row (nr b0) (P.nat k) [.int .i64 (hf b0 j)] := fun j k hk hj => row_of hP hk (by
    rw [hn1, iRows, List.getElem?_map]
    show ((List.map (hf b0) (List.range 16))[j]?).map _ = _
    rw [List.getElem?_map, List.getElem?_range hj]; rfl)
  rw [hn2]
  generalize nr b0 = nrr at n0 n1 nj ⊢
  have g1 : P.add 7 (P.slen b0) = (b0.length : Int) + 7 := by rw [add_eq hP, slen_eq hP]; omega
  have g2 : P.i64 (P.add 7 (P.slen b0)) := by rw [g1]; exact i64I hP (by ((try simp only [nc] at *); omega))
  have z2 : P.leP 1 (P.rlen frs) := leI hP (by rw [hl1]; simp only [List.length_cons]; ((try simp only [nc] at *); omega))
  have z3 : P.leP (P.rlen frs) (P.rlen frs) := leI hP (Int.le_refl _)
  have esub : P.rsub frs 1 (P.rlen frs) = frRows fs := by
    rw [hl1, hfrs]; subst hP
    show ((frRows (⟨k0, b0⟩ :: fs)).take ((((⟨k0, b0⟩ : Frame) :: fs).length : Int)).toNat).drop 1 = _
    rw [Int.toNat_natCast, List.take_of_length_le (by simp [frRows])]; rfl
  obtain ⟨fr2, hfr2⟩ : ∃ fr2, fr2 = P.rsub frs 1 (P.rlen frs) := ⟨_, rfl⟩
  have hl2 : P.rlen fr2 = (fs.length : Int) := by rw [rlen_eq hP, hfr2, esub]; simp [frRows]
  clear bad g hnr0 hn1 hn2 hno hok hho0
  cbv
  repeat' (first
    | (refine And.intro (by first | assumption | decide) ?_; try cbv)
    | (intro β9; try cbv))
  refine ⟨_, n0, ?_⟩
  cbv
  repeat' (first
    | (refine And.intro (by first | assumption | decide) ?_; try cbv)
    | (intro β9; try cbv))
  refine ⟨_, n1, ?_⟩
  cbv
  repeat' (first
    | (refine And.intro (by first | assumption | decide) ?_; try cbv)
    | (intro β9; try cbv))
  refine ⟨_, row0, ?_⟩
  cbv
  repeat' (first
    | (refine And.intro (by first | assumption | decide) ?_; try cbv)
    | (intro β6; try cbv))
  refine ⟨YL8 (hf b0), fun y => [(2, .ptr 2 (some β2) 38 0 0), (4, .sl false 2 frs), (6, .sl false 1 nrr), (7, .str (ht b0)), (9, .ptr 9 (some β6) 38 0 0), (67, .int .i64 y.k)],
    fun y => [(2, ⟨some β2, 81, 38, [[.int .i64 0, .int .i64 0, .str [], .int .i64 0, .int .i64 0, .int .i64 0, .int .i64 0, .int .i64 0, .int .i64 0, .int .i64 0, .int .i64 0, .int .i64 0, .int .i64 0, .int .i64 0, .int .i64 0, .int .i64 0, .int .i64 0, .int .i64 0, .int .i64 0, .int .i64 0, .int .i64 0, .int .i64 0, .int .i64 0, .int .i64 0, .int .i64 0, .int .i64 0, .int .i64 0, .int .i64 0, .int .i64 0, .int .i64 0, .int .i64 0, .int .i64 0, .int .i64 0, .int .i64 0, .int .i64 0, .nilsl, .bool false, .int .i64 0]]⟩), (9, ⟨some β6, 81, 38, [[.int .i64 (hg b0), .int .i64 (hb b0), .str (ht b0), .int .i64 (y.f 0), .int .i64 (y.f 1), .int .i64 (y.f 2), .int .i64 (y.f 3), .int .i64 (y.f 4), .int .i64 (y.f 5), .int .i64 (y.f 6), .int .i64 (y.f 7), .int .i64 (y.f 8), .int .i64 (y.f 9), .int .i64 (y.f 10), .int .i64 (y.f 11), .int .i64 (y.f 12), .int .i64 (y.f 13), .int .i64 (y.f 14), .int .i64 (y.f 15), .int .i64 0, .int .i64 0, .int .i64 0, .int .i64 0, .int .i64 0, .int .i64 0, .int .i64 0, .int .i64 0, .int .i64 0, .int .i64 0, .int .i64 0, .int .i64 0, .int .i64 0, .int .i64 0, .int .i64 0, .int .i64 0, .nilsl, .bool false, .int .i64 (P.add 7 (P.slen b0))]]⟩)], fun y => 8 - y.i,
    ⟨_, Ent.refl _, ⟨0, 0, fun _ => 0, by omega, rfl, fun j _ => by simp⟩, ⟨rfl, rfl, rfl, rfl, rfl, rfl, trivial⟩, ⟨rfl, rfl, trivial⟩⟩, ?_⟩
  rintro ⟨i, k, f, hi, hk, hff⟩
  cbv
  refine br_cases (fun g => ?_) (fun g => ?_)
  · have h5' : k < 8 := lt_t hP g
    have hi8 : i < 8 := by ((try simp only [nc] at *); omega)
    have q1 : P.leP 0 k := (by have := (hnl8 i hi8).1; rw [← hk] at this; exact this)
    have q2 : P.ltP k 8 := (by have := (hnl8 i hi8).2; rw [← hk] at this; exact this)
    have m3 : P.i64 (P.add k 1) := by rw [add_eq hP]; exact i64I hP (by ((try simp only [nc] at *); omega))
    have e1 : P.add k 1 = ((i + 1 : Nat) : Int) := by rw [add_eq hP, hk]; ((try simp only [nc] at *); omega)
    have hNk : P.nat k = i := by rw [hk]; exact hN i
    have em : P.mul 2 k = ((2 * i : Nat) : Int) := by subst hP; show 2 * k = _; ((try simp only [nc] at *); omega)
    have m4 : P.i64 (P.mul 2 k) := by rw [em]; exact i64I hP (by omega)
    have ea : P.add 2 (P.mul 2 k) = ((2 * i + 2 : Nat) : Int) := by rw [add_eq hP, em]; ((try simp only [nc] at *); omega)
    have eb : P.add 3 (P.mul 2 k) = (((2 * i + 1) + 2 : Nat) : Int) := by rw [add_eq hP, em]; ((try simp only [nc] at *); omega)
    have m5 : P.i64 (P.add 2 (P.mul 2 k)) := by rw [ea]; exact i64I hP (by omega)
    have m6 : P.i64 (P.add 3 (P.mul 2 k)) := by rw [eb]; exact i64I hP (by omega)
    have m7 : P.leP 0 (P.add 2 (P.mul 2 k)) := le0 hP (by rw [ea]; omega)
    have m8 : P.leP 0 (P.add 3 (P.mul 2 k)) := le0 hP (by rw [eb]; omega)
    have r1 := nj (2 * i) _ ea (by omega)
    have r2 := nj (2 * i + 1) _ eb (by omega)
    have fin : ∀ f' : Nat → Int, f' (2 * i) = hf b0 (2 * i) → f' (2 * i + 1) = hf b0 (2 * i + 1) → (∀ j, j ≠ 2 * i → j ≠ 2 * i + 1 → f' j = f j) → ∀ j, j < 16 → f' j = if j < 2 * (i + 1) then hf b0 j else 0 := by
      intro f' a b c j hj
      by_cases j1 : j = 2 * i
      · subst j1; rw [a, if_pos (by omega)]
      · by_cases j2 : j = 2 * i + 1
        · subst j2; rw [b, if_pos (by omega)]
        · rw [c j j1 j2, hff j hj]
          by_cases j3 : j < 2 * i
          · rw [if_pos j3, if_pos (by omega)]
          · rw [if_neg j3, if_neg (by omega)]
    generalize hf b0 (2 * i) = v3 at r1 fin
    generalize hf b0 (2 * i + 1) = v4 at r2 fin
    have hc : i = 0 ∨ i = 1 ∨ i = 2 ∨ i = 3 ∨ i = 4 ∨ i = 5 ∨ i = 6 ∨ i = 7 := by omega
    clear hR h5' g nj n0 n1 em ea eb
    cbv
    repeat' (first
      | (refine And.intro (by first | assumption | decide) ?_; try cbv)
      | (intro β9; try cbv))
    refine ⟨_, r1, ?_⟩
    cbv
    repeat' (first
      | (refine And.intro (by first | assumption | decide) ?_; try cbv)
      | (intro β9; try cbv))
    refine ⟨_, r2, ?_⟩
    cbv
    repeat' (first
      | (refine And.intro (by first | assumption | decide) ?_; try cbv)
      | (intro β9; try cbv))
    rcases hc with rfl | rfl | rfl | rfl | rfl | rfl | rfl | rfl
    · refine ⟨0, hNk, ?_⟩
      cbv
      refine ⟨m3, ?_⟩
      exact ⟨_, Ent.refl _, ⟨0 + 1, _, fun j => if j = 0 then v3 else if j = 1 then v4 else f j, by decide, e1, fin _ rfl rfl (fun j h1 h2 => (if_neg h1).trans (if_neg h2))⟩, ⟨rfl, rfl, rfl, rfl, rfl, rfl, trivial⟩, ⟨rfl, rfl, trivial⟩, by show 8 - (0 + 1) < 8 - 0; decide⟩
    · refine ⟨1, hNk, ?_⟩
      cbv
      refine ⟨m3, ?_⟩
      exact ⟨_, Ent.refl _, ⟨1 + 1, _, fun j => if j = 2 then v3 else if j = 3 then v4 else f j, by decide, e1, fin _ rfl rfl (fun j h1 h2 => (if_neg h1).trans (if_neg h2))⟩, ⟨rfl, rfl, rfl, rfl, rfl, rfl, trivial⟩, ⟨rfl, rfl, trivial⟩, by show 8 - (1 + 1) < 8 - 1; decide⟩
    · refine ⟨2, hNk, ?_⟩
      cbv
      refine ⟨m3, ?_⟩
      exact ⟨_, Ent.refl _, ⟨2 + 1, _, fun j => if j = 4 then v3 else if j = 5 then v4 else f j, by decide, e1, fin _ rfl rfl (fun j h1 h2 => (if_neg h1).trans (if_neg h2))⟩, ⟨rfl, rfl, rfl, rfl, rfl, rfl, trivial⟩, ⟨rfl, rfl, trivial⟩, by show 8 - (2 + 1) < 8 - 2; decide⟩
    · refine ⟨3, hNk, ?_⟩
      cbv
      refine ⟨m3, ?_⟩
      exact ⟨_, Ent.refl _, ⟨3 + 1, _, fun j => if j = 6 then v3 else if j = 7 then v4 else f j, by decide, e1, fin _ rfl rfl (fun j h1 h2 => (if_neg h1).trans (if_neg h2))⟩, ⟨rfl, rfl, rfl, rfl, rfl, rfl, trivial⟩, ⟨rfl, rfl, trivial⟩, by show 8 - (3 + 1) < 8 - 3; decide⟩
    · refine ⟨4, hNk, ?_⟩
      cbv
      refine ⟨m3, ?_⟩
      exact ⟨_, Ent.refl _, ⟨4 + 1, _, fun j => if j = 8 then v3 else if j = 9 then v4 else f j, by decide, e1, fin _ rfl rfl (fun j h1 h2 => (if_neg h1).trans (if_neg h2))⟩, ⟨rfl, rfl, rfl, rfl, rfl, rfl, trivial⟩, ⟨rfl, rfl, trivial⟩, by show 8 - (4 + 1) < 8 - 4; decide⟩
    · refine ⟨5, hNk, ?_⟩
      cbv
      refine ⟨m3, ?_⟩
      exact ⟨_, Ent.refl _, ⟨5 + 1, _, fun j => if j = 10 then v3 else if j = 11 then v4 else f j, by decide, e1, fin _ rfl rfl (fun j h1 h2 => (if_neg h1).trans (if_neg h2))⟩, ⟨rfl, rfl, rfl, rfl, rfl, rfl, trivial⟩, ⟨rfl, rfl, trivial⟩, by show 8 - (5 + 1) < 8 - 5; decide⟩
    · refine ⟨6, hNk, ?_⟩
      cbv
      refine ⟨m3, ?_⟩
      exact ⟨_, Ent.refl _, ⟨6 + 1, _, fun j => if j = 12 then v3 else if j = 13 then v4 else f j, by decide, e1, fin _ rfl rfl (fun j h1 h2 => (if_neg h1).trans (if_neg h2))⟩, ⟨rfl, rfl, rfl, rfl, rfl, rfl, trivial⟩, ⟨rfl, rfl, trivial⟩, by show 8 - (6 + 1) < 8 - 6; decide⟩
    · refine ⟨7, hNk, ?_⟩
      cbv
      refine ⟨m3, ?_⟩
      exact ⟨_, Ent.refl _, ⟨7 + 1, _, fun j => if j = 14 then v3 else if j = 15 then v4 else f j, by decide, e1, fin _ rfl rfl (fun j h1 h2 => (if_neg h1).trans (if_neg h2))⟩, ⟨rfl, rfl, rfl, rfl, rfl, rfl, trivial⟩, ⟨rfl, rfl, trivial⟩, by show 8 - (7 + 1) < 8 - 7; decide⟩
  have h5' : ¬ k < 8 := lt_f hP g
  have hi8 : i = 8 := by ((try simp only [nc] at *); omega)
  subst hi8
  have hff2 : ∀ j, j < 16 → f j = hf b0 j := fun j hj => by rw [hff j hj, if_pos (by omega)]
  clear nj n0 n1 h5' g e0
  cbv
  repeat' (first
    | (refine And.intro (by first | assumption | decide) ?_; try cbv)
    | (intro β9; try cbv))
  rw [← hfr2, hff2 0 (by decide), hff2 1 (by decide), hff2 2 (by decide), hff2 3 (by decide), hff2 4 (by decide), hff2 5 (by decide), hff2 6 (by decide), hff2 7 (by decide), hff2 8 (by decide), hff2 9 (by decide), hff2 10 (by decide), hff2 11 (by decide), hff2 12 (by decide), hff2 13 (by decide), hff2 14 (by decide), hff2 15 (by decide)]
  clear hff hff2
  clear f
  refine ⟨YRd fs L0 (ht b0), fun y => [(2, .ptr 2 (some β2) 38 0 0), (9, .ptr 9 (some β6) 38 0 0), (11, .str y.now), (92, .sl false 2 fr2), (93, .int .i64 (P.rlen fr2)), (94, .int .i64 y.k)],
    fun y => [(2, ⟨some β2, 81, 38, [[.int .i64 0, .int .i64 0, .str [], .int .i64 0, .int .i64 0, .int .i64 0, .int .i64 0, .int .i64 0, .int .i64 0, .int .i64 0, .int .i64 0, .int .i64 0, .int .i64 0, .int .i64 0, .int .i64 0, .int .i64 0, .int .i64 0, .int .i64 0, .int .i64 0, .int .i64 0, .int .i64 0, .int .i64 0, .int .i64 0, .int .i64 0, .int .i64 0, .int .i64 0, .int .i64 0, .int .i64 0, .int .i64 0, .int .i64 0, .int .i64 0, .int .i64 0, .int .i64 0, .int .i64 0, .int .i64 0, .nilsl, .bool false, .int .i64 0]]⟩), (9, ⟨some β6, 81, 38, [[.int .i64 y.gn, .int .i64 y.b, .str y.tx, .int .i64 (y.fs' 0), .int .i64 (y.fs' 1), .int .i64 (y.fs' 2), .int .i64 (y.fs' 3), .int .i64 (y.fs' 4), .int .i64 (y.fs' 5), .int .i64 (y.fs' 6), .int .i64 (y.fs' 7), .int .i64 (y.fs' 8), .int .i64 (y.fs' 9), .int .i64 (y.fs' 10), .int .i64 (y.fs' 11), .int .i64 (y.fs' 12), .int .i64 (y.fs' 13), .int .i64 (y.fs' 14), .int .i64 (y.fs' 15), .int .i64 (y.tb 0), .int .i64 (y.tb 1), .int .i64 (y.tb 2), .int .i64 (y.tb 3), .int .i64 (y.tb 4), .int .i64 (y.tb 5), .int .i64 (y.tb 6), .int .i64 (y.tb 7), .int .i64 (y.tb 8), .int .i64 (y.tb 9), .int .i64 (y.tb 10), .int .i64 (y.tb 11), .int .i64 (y.tb 12), .int .i64 (y.tb 13), .int .i64 (y.tb 14), .int .i64 (y.tb 15), .own 1000163 y.ba 3 y.n, .bool y.wh, .int .i64 y.gd]]⟩), (1000163, ⟨y.ba, 45, 3, y.rows⟩)], fun y => y.rest.length,
    ⟨_, Ent.nilcell (k := 9) (k' := 1000163) (ty := 45) (sz := 3) (r := 0) (c := 35) rfl rfl rfl rfl, ⟨0, [], fs, L0, ht b0, none, 0, [], hg b0, hb b0, P.add 7 (P.slen b0), ht b0, hf b0, hf b0, false, rfl, rfl, rfl, by rw [l06]; rfl, by rw [l06]; rfl, rfl, by rw [l06]; exact Nat.zero_le _, ⟨by rw [l08]; exact Int.add_nonneg (Int.natCast_nonneg _) (by decide), by rw [l08]; show (b0.length : Int) + 7 ≤ 4007 * (0 + 1); ((try simp only [nc] at *); omega)⟩, ⟨l01, l02, by rw [g1, l08], l03, fun j _ => l04 j, l05, l07⟩⟩, ⟨rfl, rfl, rfl, rfl, rfl, rfl, trivial⟩, ⟨rfl, rfl, rfl, trivial⟩⟩, ?_⟩
  rintro ⟨k, pre, rest, L, now, ba, n, rows, gn, b, gd, tx, fs', tb, wh, hd, hk, hall, hn, hrows, hb0, hlen, hgd, he⟩
  rw [hrl] at hall
  replace hk : k = (pre.length : Int) := hk
  have hlp : pre.length + rest.length = fs.length := by rw [hd]; simp
  simp only [List.length_cons] at hfl
  obtain ⟨he1, he2, he3, he4, he5, he6, he7⟩ := he
  have hnl : n = rows.length := by rw [hn, hrows]; simp
  have hbase : 0 ≤ b ∧ b ≤ 2147483647 := by rw [he2, hb0]; exact l09
  have fin : rl = L → gn = rl.gen ∧ b = rl.base ∧ gd = rl.good ∧ tx = rl.text ∧ (∀ j, j < 16 → fs' j = rl.first j) ∧ (∀ j, j < 16 → tb j = rl.table j) ∧ wh = rl.whole ∧ rows = rl.revs.map encRev ∧ (0 : Int) = re := fun h => by
    rw [h]; exact ⟨he1, he2, he3, he4, he5, fun j _ => by rw [he6], he7, hrows, hre⟩
  cbv
  refine br_cases (fun g => ?_) (fun g => ?_)
  rotate_left
  · have h6' : ¬ k < P.rlen fr2 := lt_f hP g
    rw [hl2] at h6'
    rcases rest with _ | ⟨y, rest⟩
    rotate_left
    · exfalso; simp at hlp; ((try simp only [nc] at *); omega)
    cbv
    repeat' (first
      | (refine And.intro (by first | assumption | decide) ?_; try cbv)
      | (intro β9; try cbv))
    exact hR _ _ _ _ _ _ _ _ _ _ _ _ (Ent.refl _) ⟨rfl, rfl, Nat.zero_lt_succ 0, Nat.le_refl 38, rfl⟩ (.inr ⟨ba, n, rfl, rfl, hnl⟩) (fin (hall))
  have h6' : k < P.rlen fr2 := lt_t hP g
  rw [hl2] at h6'
  rcases rest with _ | ⟨⟨kd, bd⟩, rest⟩
  · exfalso; simp at hlp; ((try simp only [nc] at *); omega)
  have hbd : bd.length ≤ 4000 := hfs ⟨kd, bd⟩ (by rw [hd]; simp)
  have row1 : P.row fr2 (P.nat k) [.int .i64 kd, .str bd] := row_of hP hk (by rw [hfr2, esub, frRows, List.getElem?_map, hd]; simp [encFrame])
  have q1 : P.leP 0 k := le0 hP (by ((try simp only [nc] at *); omega))
  have q2 : P.i64 (P.add k 1) := by rw [add_eq hP]; exact i64I hP (by ((try simp only [nc] at *); omega))
  have q3 : P.add k 1 = (((pre ++ [(⟨kd, bd⟩ : Frame)]).length : Nat) : Int) := by rw [add_eq hP, hk]; simp
  have d1 : P.add 7 (P.slen bd) = (bd.length : Int) + 7 := by rw [add_eq hP, slen_eq hP]; omega
  have d2 : P.i64 (P.add 7 (P.slen bd)) := by rw [d1]; exact i64I hP (by ((try simp only [nc] at *); omega))
  have d3 : P.add gd (P.add 7 (P.slen bd)) = L.good + ((bd.length : Int) + 7) := by rw [add_eq hP gd, d1, he3]
  have d4 : P.i64 (P.add gd (P.add 7 (P.slen bd))) := by rw [d3]; exact i64I hP (by ((try simp only [nc] at *); omega))
  have d5 : 0 ≤ L.good + ((bd.length : Int) + 7) ∧ L.good + ((bd.length : Int) + 7) ≤ 4007 * (((pre ++ [(⟨kd, bd⟩ : Frame)]).length : Int) + 1) := by rw [List.length_append]; simp only [List.length_cons, List.length_nil]; ((try simp only [nc] at *); omega)
  have d6 : P.i64 (P.add gd 7) := by rw [add_eq hP, he3]; exact i64I hP (by ((try simp only [nc] at *); omega))
  rw [allL] at hall
  unfold stepL at hall
  simp only [] at hall
  have c3 := h3 bd hbd
  -- what comes behind a frame that is no Done
  have other : ∀ (Q : Prop), Q → Q := fun _ h => h
  clear g
  cbv
  repeat' (first
    | (refine And.intro (by first | assumption | decide) ?_; try cbv)
    | (intro β9; try cbv))
  refine ⟨_, row1, ?_⟩
  cbv
  intro β10
  cbv
  repeat' (first
    | (refine And.intro (by first | assumption | decide) ?_; try cbv)
    | (intro β9; try cbv))
  clear row1
  refine br_cases (fun g => ?_) (fun g => ?_)
  · have hk3 : kd = 3 := eq_t hP g
    rw [if_pos hk3] at hall
    cbv
    repeat' (first
      | (refine And.intro (by first | assumption | decide) ?_; try cbv)
      | (intro β9; try cbv))
    refine br_cases (fun g => ?_) (fun g => ?_)
    · have hbe : bd = [] := seq_t hP g
      cbv
      repeat' (first
        | (refine And.intro (by first | assumption | decide) ?_; try cbv)
        | (intro β9; try cbv))
      rcases wh with _ | _
      · rw [if_neg (by rintro (h | h); rw [← he7] at h; cases h; exact h hbe)] at hall
        have d7 : P.add gd 7 = L.good + ((bd.length : Int) + 7) := by rw [add_eq hP, he3, hbe]; rfl
        cbv
        repeat' (first
          | (refine And.intro (by first | assumption | decide) ?_; try cbv)
          | (intro β9; try cbv))
        exact ⟨_, Ent.refl _, ⟨_, pre ++ [⟨kd, bd⟩], rest, ⟨L.gen, L.base, L.text, L.first, L.table, L.revs, true, L.good + ((bd.length : Int) + 7)⟩, now, ba, n, rows, gn, b, P.add gd 7, tx, fs', tb, true, by simp [hd], q3, hrl.trans hall, hn, hrows, hb0, hlen, d5, ⟨he1, he2, d7, he4, he5, he6, rfl⟩⟩, ⟨rfl, rfl, rfl, rfl, rfl, rfl, trivial⟩, ⟨rfl, rfl, rfl, trivial⟩, by simp⟩
      · rw [if_pos (.inl he7.symm)] at hall
        cbv
        repeat' (first
          | (refine And.intro (by first | assumption | decide) ?_; try cbv)
          | (intro β9; try cbv))
        refine c3 _ _ ?_
        cbv
        repeat' (first
          | (refine And.intro (by first | assumption | decide) ?_; try cbv)
          | (intro β9; try cbv))
        refine br_tt (ne_T hP (by rw [hk3]; decide)) ?_
        cbv
        repeat' (first
          | (refine And.intro (by first | assumption | decide) ?_; try cbv)
          | (intro β9; try cbv))
        exact hR _ _ _ _ _ _ _ _ _ _ _ _ (Ent.refl _) ⟨rfl, rfl, Nat.zero_lt_succ 0, Nat.le_refl 38, rfl⟩ (.inr ⟨ba, n, rfl, rfl, hnl⟩) (fin (hall))
    · rw [if_pos (.inr (seq_f hP g))] at hall
      cbv
      repeat' (first
        | (refine And.intro (by first | assumption | decide) ?_; try cbv)
        | (intro β9; try cbv))
      refine c3 _ _ ?_
      cbv
      repeat' (first
        | (refine And.intro (by first | assumption | decide) ?_; try cbv)
        | (intro β9; try cbv))
      refine br_tt (ne_T hP (by rw [hk3]; decide)) ?_
      cbv
      repeat' (first
        | (refine And.intro (by first | assumption | decide) ?_; try cbv)
        | (intro β9; try cbv))
      exact hR _ _ _ _ _ _ _ _ _ _ _ _ (Ent.refl _) ⟨rfl, rfl, Nat.zero_lt_succ 0, Nat.le_refl 38, rfl⟩ (.inr ⟨ba, n, rfl, rfl, hnl⟩) (fin (hall))
  have hk3 : ¬ kd = 3 := eq_f hP g
  rw [if_neg hk3] at hall
  clear other
  cbv
  repeat' (first
    | (refine And.intro (by first | assumption | decide) ?_; try cbv)
    | (intro β9; try cbv))
  refine c3 _ _ ?_
  cbv
  repeat' (first
    | (refine And.intro (by first | assumption | decide) ?_; try cbv)
    | (intro β9; try cbv))
  refine br_cases (fun g => ?_) (fun g => ?_)
  · have hk2 : ¬ kd = 2 := ne_t hP g
    rw [if_neg hk2] at hall
    cbv
    repeat' (first
      | (refine And.intro (by first | assumption | decide) ?_; try cbv)
      | (intro β9; try cbv))
    exact hR _ _ _ _ _ _ _ _ _ _ _ _ (Ent.refl _) ⟨rfl, rfl, Nat.zero_lt_succ 0, Nat.le_refl 38, rfl⟩ (.inr ⟨ba, n, rfl, rfl, hnl⟩) (fin (hall))
  have hk2 : kd = 2 := ne_f hP g
  rw [if_pos hk2] at hall
  obtain ⟨rv, hrvd⟩ : ∃ rv, rv = revB bd := ⟨_, rfl⟩
  obtain ⟨w1, w2, w3, w4⟩ := hrv bd
  have w5 := hdt bd now
  have w6 := h5 bd now
  have w7 := hro bd
  have w8 := hnr2 bd
  have w9 := h3b bd hbd
  rw [← hrvd] at w1 w2 w3 w5 hall w7
  rw [← w4] at hall
  rw [← w5] at hall
  have hpo : PartsOk rv.delta := by rw [hrvd]; exact readF_ok _
  have hwho : oneF rv = 0 → 0 ≤ rv.who ∧ rv.who ≤ 7 := fun h => ⟨(one_who h).1, (one_who h).2.1⟩
  clear h3 hrv hdt h5 g hro hnr2 h3b c3
  generalize ro bd = okb at w4 w7 hall
  generalize no2 bd = noo at w7 w8 w9 ⊢
  generalize nr2 bd = nr9 at w8 ⊢
  generalize nt2 bd = nt9 at w9 ⊢
  generalize rd bd = dr at w3 w6 w9
  generalize rw bd = wd at w1 w8
  generalize rq bd = qd at w2 w8
  generalize dt bd now = now2 at w6 hall
  generalize de bd now = e6 at w6
  generalize e2 bd = e9 at w7 w9
  cbv
  repeat' (first
    | (refine And.intro (by first | assumption | decide) ?_; try cbv)
    | (intro β9; try cbv))
  rcases noo with _ | _
  · rw [if_neg (by rintro ⟨h, _⟩; have := (w7.1 h).1; cases this)] at hall
    cbv
    repeat' (first
      | (refine And.intro (by first | assumption | decide) ?_; try cbv)
      | (intro β9; try cbv))
    exact hR _ _ _ _ _ _ _ _ _ _ _ _ (Ent.refl _) ⟨rfl, rfl, Nat.zero_lt_succ 0, Nat.le_refl 38, rfl⟩ (.inr ⟨ba, n, rfl, rfl, hnl⟩) (fin (hall))
  have x8 := w8 rfl
  have n0 : P.row nr9 (P.nat 0) [.int .i64 wd] := row_of hP (i := 0) rfl (by rw [x8]; rfl)
  have n1 : P.row nr9 (P.nat 1) [.int .i64 qd] := row_of hP (i := 1) rfl (by rw [x8]; rfl)
  have hnxe : nx b tb L.revs.length (P.slen now) rv = nextF L.base L.table L.revs.length now.length rv := by rw [hnx, he2, he6, slen_eq hP]
  cbv
  repeat' (first
    | (refine And.intro (by first | assumption | decide) ?_; try cbv)
    | (intro β9; try cbv))
  refine w9 rfl _ _ ?_
  cbv
  repeat' (first
    | (refine And.intro (by first | assumption | decide) ?_; try cbv)
    | (intro β9; try cbv))
  refine ⟨_, n0, ?_⟩
  cbv
  repeat' (first
    | (refine And.intro (by first | assumption | decide) ?_; try cbv)
    | (intro β9; try cbv))
  refine ⟨_, n1, ?_⟩
  cbv
  repeat' (first
    | (refine And.intro (by first | assumption | decide) ?_; try cbv)
    | (intro β9; try cbv))
  clear n0 n1 w8 w9 x8
  refine br_cases (fun g => ?_) (fun g => ?_)
  · have hx := ne_t hP g
    rw [if_neg (by rintro ⟨h, _⟩; exact hx (w7.1 h).2.1)] at hall
    cbv
    repeat' (first
      | (refine And.intro (by first | assumption | decide) ?_; try cbv)
      | (intro β9; try cbv))
    exact hR _ _ _ _ _ _ _ _ _ _ _ _ (Ent.refl _) ⟨rfl, rfl, Nat.zero_lt_succ 0, Nat.le_refl 38, rfl⟩ (.inr ⟨ba, n, rfl, rfl, hnl⟩) (fin (hall))
  have hx9 := ne_f hP g
  cbv
  repeat' (first
    | (refine And.intro (by first | assumption | decide) ?_; try cbv)
    | (intro β9; try cbv))
  refine h4 1000163 ba n rows gn b gd (P.slen now) wd qd tx fs' tb wh L.revs dr rv _ _ hrows hn ⟨w1, w2, w3⟩ hpo hbase rfl ?_
  generalize nx b tb L.revs.length (P.slen now) rv = e0 at hnxe ⊢
  cbv
  repeat' (first
    | (refine And.intro (by first | assumption | decide) ?_; try cbv)
    | (intro β9; try cbv))
  refine br_cases (fun g => ?_) (fun g => ?_)
  · have hx := ne_t hP g
    rw [hnxe] at hx
    rw [if_neg (by rintro ⟨_, h⟩; exact hx h)] at hall
    cbv
    repeat' (first
      | (refine And.intro (by first | assumption | decide) ?_; try cbv)
      | (intro β9; try cbv))
    exact hR _ _ _ _ _ _ _ _ _ _ _ _ (Ent.refl _) ⟨rfl, rfl, Nat.zero_lt_succ 0, Nat.le_refl 38, rfl⟩ (.inr ⟨ba, n, rfl, rfl, hnl⟩) (fin (hall))
  have hx := ne_f hP g
  rw [hnxe] at hx
  obtain ⟨x1, x2⟩ := nextF_ok hx
  rw [if_pos ⟨w7.2 ⟨rfl, hx9, x1⟩, hx⟩] at hall
  have hw := hwho x1
  have f4 : P.neP rows n := neP_of hP _ _ hnl.symm
  have f5 : ∀ r, P.bytes (P.add (P.int n) (P.rlen [r])) 40 := by intro r; subst hP; show ((n : Int) + 1) * 40 ≤ _; ((try simp only [nc] at *); omega)
  have f6 : ∀ r, P.neP [r] 1 := by intro r; subst hP; rfl
  have f7 : P.rapp rows [[.int .i64 wd, .int .i64 qd, .sl false 3 dr]] = (L.revs ++ [rv]).map encRev := by rw [hrows, w1, w2, w3]; subst hP; simp [std, encRev, encParts]
  have f8 : P.nadd n (P.rlenN [[.int .i64 wd, .int .i64 qd, .sl false 3 dr]]) = (L.revs ++ [rv]).length := by rw [hn]; subst hP; simp [std]
  have f9 : P.int (P.nadd n (P.rlenN [[.int .i64 wd, .int .i64 qd, .sl false 3 dr]])) = (L.revs.length : Int) + 1 := by rw [f8, int_eq hP]; simp
  have v1 : P.add b (P.int (P.nadd n (P.rlenN [[.int .i64 wd, .int .i64 qd, .sl false 3 dr]]))) = L.base + (L.revs.length : Int) + 1 := by rw [add_eq hP, f9, he2]; omega
  have v2 : P.i64 (P.add b (P.int (P.nadd n (P.rlenN [[.int .i64 wd, .int .i64 qd, .sl false 3 dr]])))) := by rw [v1]; rw [he2] at hbase; exact i64I hP (by ((try simp only [nc] at *); omega))
  obtain ⟨wn, hwn⟩ : ∃ wn : Nat, wn = rv.who.toNat := ⟨_, rfl⟩
  have hwe : wd = (wn : Int) := by rw [w1, hwn]; omega
  have hw8 : wn < 8 := by omega
  have u1 : P.leP 0 wd := le0 hP (by omega)
  have u2 : P.ltP wd 8 := ltI hP (by omega)
  have hNw : P.nat wd = wn := by rw [hwe]; exact hN wn
  cbv
  repeat' (first
    | (refine And.intro (by first | assumption | decide | exact f6 _ | exact f5 _) ?_; try cbv)
    | (intro β9; try cbv))
  refine w6 _ _ ?_
  cbv
  repeat' (first
    | (refine And.intro (by first | assumption | decide | exact f6 _ | exact f5 _) ?_; try cbv)
    | (intro β9; try cbv))
  have fin2 : ∀ tb' : Nat → Int, tb' = addTb tb wn qd (P.add b (P.int (P.nadd n (P.rlenN [[.int .i64 wd, .int .i64 qd, .sl false 3 dr]])))) → tb' = addTb L.table rv.who.toNat rv.seq (L.base + (L.revs.length : Int) + 1) := fun tb' h => by rw [h, v1, w2, hwn, he6]
  have hc : wn = 0 ∨ wn = 1 ∨ wn = 2 ∨ wn = 3 ∨ wn = 4 ∨ wn = 5 ∨ wn = 6 ∨ wn = 7 := by omega
  rcases hc with rfl | rfl | rfl | rfl | rfl | rfl | rfl | rfl
  · refine ⟨0, hNw, ?_⟩
    cbv
    repeat' (first
      | (refine And.intro (by first | assumption | decide) ?_; try cbv)
      | (intro β9; try cbv))
    exact ⟨_, Ent.refl _, ⟨_, pre ++ [⟨kd, bd⟩], rest, ⟨L.gen, L.base, L.text, L.first, addTb L.table rv.who.toNat rv.seq (L.base + (L.revs.length : Int) + 1), L.revs ++ [rv], L.whole, L.good + ((bd.length : Int) + 7)⟩, now2, _, _, _, gn, b, P.add gd (P.add 7 (P.slen bd)), tx, fs', (fun j => if j = 0 then qd else if j = 1 then P.add b (P.int (P.nadd n (P.rlenN [[.int .i64 wd, .int .i64 qd, .sl false 3 dr]]))) else tb j), wh, by simp [hd], q3, hrl.trans hall, f8, f7, hb0, by show (L.revs ++ [rv]).length ≤ 64; simp; omega, d5, ⟨he1, he2, d3, he4, he5, fin2 _ rfl, he7⟩⟩, ⟨rfl, rfl, rfl, rfl, rfl, rfl, trivial⟩, ⟨rfl, rfl, rfl, trivial⟩, by simp⟩
  · refine ⟨1, hNw, ?_⟩
    cbv
    repeat' (first
      | (refine And.intro (by first | assumption | decide) ?_; try cbv)
      | (intro β9; try cbv))
    exact ⟨_, Ent.refl _, ⟨_, pre ++ [⟨kd, bd⟩], rest, ⟨L.gen, L.base, L.text, L.first, addTb L.table rv.who.toNat rv.seq (L.base + (L.revs.length : Int) + 1), L.revs ++ [rv], L.whole, L.good + ((bd.length : Int) + 7)⟩, now2, _, _, _, gn, b, P.add gd (P.add 7 (P.slen bd)), tx, fs', (fun j => if j = 2 then qd else if j = 3 then P.add b (P.int (P.nadd n (P.rlenN [[.int .i64 wd, .int .i64 qd, .sl false 3 dr]]))) else tb j), wh, by simp [hd], q3, hrl.trans hall, f8, f7, hb0, by show (L.revs ++ [rv]).length ≤ 64; simp; omega, d5, ⟨he1, he2, d3, he4, he5, fin2 _ rfl, he7⟩⟩, ⟨rfl, rfl, rfl, rfl, rfl, rfl, trivial⟩, ⟨rfl, rfl, rfl, trivial⟩, by simp⟩
  · refine ⟨2, hNw, ?_⟩
    cbv
    repeat' (first
      | (refine And.intro (by first | assumption | decide) ?_; try cbv)
      | (intro β9; try cbv))
    exact ⟨_, Ent.refl _, ⟨_, pre ++ [⟨kd, bd⟩], rest, ⟨L.gen, L.base, L.text, L.first, addTb L.table rv.who.toNat rv.seq (L.base + (L.revs.length : Int) + 1), L.revs ++ [rv], L.whole, L.good + ((bd.length : Int) + 7)⟩, now2, _, _, _, gn, b, P.add gd (P.add 7 (P.slen bd)), tx, fs', (fun j => if j = 4 then qd else if j = 5 then P.add b (P.int (P.nadd n (P.rlenN [[.int .i64 wd, .int .i64 qd, .sl false 3 dr]]))) else tb j), wh, by simp [hd], q3, hrl.trans hall, f8, f7, hb0, by show (L.revs ++ [rv]).length ≤ 64; simp; omega, d5, ⟨he1, he2, d3, he4, he5, fin2 _ rfl, he7⟩⟩, ⟨rfl, rfl, rfl, rfl, rfl, rfl, trivial⟩, ⟨rfl, rfl, rfl, trivial⟩, by simp⟩
  · refine ⟨3, hNw, ?_⟩
    cbv
    repeat' (first
      | (refine And.intro (by first | assumption | decide) ?_; try cbv)
      | (intro β9; try cbv))
    exact ⟨_, Ent.refl _, ⟨_, pre ++ [⟨kd, bd⟩], rest, ⟨L.gen, L.base, L.text, L.first, addTb L.table rv.who.toNat rv.seq (L.base + (L.revs.length : Int) + 1), L.revs ++ [rv], L.whole, L.good + ((bd.length : Int) + 7)⟩, now2, _, _, _, gn, b, P.add gd (P.add 7 (P.slen bd)), tx, fs', (fun j => if j = 6 then qd else if j = 7 then P.add b (P.int (P.nadd n (P.rlenN [[.int .i64 wd, .int .i64 qd, .sl false 3 dr]]))) else tb j), wh, by simp [hd], q3, hrl.trans hall, f8, f7, hb0, by show (L.revs ++ [rv]).length ≤ 64; simp; omega, d5, ⟨he1, he2, d3, he4, he5, fin2 _ rfl, he7⟩⟩, ⟨rfl, rfl, rfl, rfl, rfl, rfl, trivial⟩, ⟨rfl, rfl, rfl, trivial⟩, by simp⟩
  · refine ⟨4, hNw, ?_⟩
    cbv
    repeat' (first
      | (refine And.intro (by first | assumption | decide) ?_; try cbv)
      | (intro β9; try cbv))
    exact ⟨_, Ent.refl _, ⟨_, pre ++ [⟨kd, bd⟩], rest, ⟨L.gen, L.base, L.text, L.first, addTb L.table rv.who.toNat rv.seq (L.base + (L.revs.length : Int) + 1), L.revs ++ [rv], L.whole, L.good + ((bd.length : Int) + 7)⟩, now2, _, _, _, gn, b, P.add gd (P.add 7 (P.slen bd)), tx, fs', (fun j => if j = 8 then qd else if j = 9 then P.add b (P.int (P.nadd n (P.rlenN [[.int .i64 wd, .int .i64 qd, .sl false 3 dr]]))) else tb j), wh, by simp [hd], q3, hrl.trans hall, f8, f7, hb0, by show (L.revs ++ [rv]).length ≤ 64; simp; omega, d5, ⟨he1, he2, d3, he4, he5, fin2 _ rfl, he7⟩⟩, ⟨rfl, rfl, rfl, rfl, rfl, rfl, trivial⟩, ⟨rfl, rfl, rfl, trivial⟩, by simp⟩
  · refine ⟨5, hNw, ?_⟩
    cbv
    repeat' (first
      | (refine And.intro (by first | assumption | decide) ?_; try cbv)
      | (intro β9; try cbv))
    exact ⟨_, Ent.refl _, ⟨_, pre ++ [⟨kd, bd⟩], rest, ⟨L.gen, L.base, L.text, L.first, addTb L.table rv.who.toNat rv.seq (L.base + (L.revs.length : Int) + 1), L.revs ++ [rv], L.whole, L.good + ((bd.length : Int) + 7)⟩, now2, _, _, _, gn, b, P.add gd (P.add 7 (P.slen bd)), tx, fs', (fun j => if j = 10 then qd else if j = 11 then P.add b (P.int (P.nadd n (P.rlenN [[.int .i64 wd, .int .i64 qd, .sl false 3 dr]]))) else tb j), wh, by simp [hd], q3, hrl.trans hall, f8, f7, hb0, by show (L.revs ++ [rv]).length ≤ 64; simp; omega, d5, ⟨he1, he2, d3, he4, he5, fin2 _ rfl, he7⟩⟩, ⟨rfl, rfl, rfl, rfl, rfl, rfl, trivial⟩, ⟨rfl, rfl, rfl, trivial⟩, by simp⟩
  · refine ⟨6, hNw, ?_⟩
    cbv
    repeat' (first
      | (refine And.intro (by first | assumption | decide) ?_; try cbv)
      | (intro β9; try cbv))
    exact ⟨_, Ent.refl _, ⟨_, pre ++ [⟨kd, bd⟩], rest, ⟨L.gen, L.base, L.text, L.first, addTb L.table rv.who.toNat rv.seq (L.base + (L.revs.length : Int) + 1), L.revs ++ [rv], L.whole, L.good + ((bd.length : Int) + 7)⟩, now2, _, _, _, gn, b, P.add gd (P.add 7 (P.slen bd)), tx, fs', (fun j => if j = 12 then qd else if j = 13 then P.add b (P.int (P.nadd n (P.rlenN [[.int .i64 wd, .int .i64 qd, .sl false 3 dr]]))) else tb j), wh, by simp [hd], q3, hrl.trans hall, f8, f7, hb0, by show (L.revs ++ [rv]).length ≤ 64; simp; omega, d5, ⟨he1, he2, d3, he4, he5, fin2 _ rfl, he7⟩⟩, ⟨rfl, rfl, rfl, rfl, rfl, rfl, trivial⟩, ⟨rfl, rfl, rfl, trivial⟩, by simp⟩
  · refine ⟨7, hNw, ?_⟩
    cbv
    repeat' (first
      | (refine And.intro (by first | assumption | decide) ?_; try cbv)
      | (intro β9; try cbv))
    exact ⟨_, Ent.refl _, ⟨_, pre ++ [⟨kd, bd⟩], rest, ⟨L.gen, L.base, L.text, L.first, addTb L.table rv.who.toNat rv.seq (L.base + (L.revs.length : Int) + 1), L.revs ++ [rv], L.whole, L.good + ((bd.length : Int) + 7)⟩, now2, _, _, _, gn, b, P.add gd (P.add 7 (P.slen bd)), tx, fs', (fun j => if j = 14 then qd else if j = 15 then P.add b (P.int (P.nadd n (P.rlenN [[.int .i64 wd, .int .i64 qd, .sl false 3 dr]]))) else tb j), wh, by simp [hd], q3, hrl.trans hall, f8, f7, hb0, by show (L.revs ++ [rv]).length ≤ 64; simp; omega, d5, ⟨he1, he2, d3, he4, he5, fin2 _ rfl, he7⟩⟩, ⟨rfl, rfl, rfl, rfl, rfl, rfl, trivial⟩, ⟨rfl, rfl, rfl, trivial⟩, by simp⟩
end Go.Proofs.Ytobngncjflogcaa.AM
