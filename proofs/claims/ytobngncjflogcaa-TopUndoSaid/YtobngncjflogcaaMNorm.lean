/-
  Norm, the program's and the document's.
-/
import Derived.Test.YtobngncjflogcaaBC
set_option linter.unusedVariables false
set_option linter.unusedSimpArgs false
namespace Go.Proofs.Ytobngncjflogcaa.AM
open Go
set_option maxRecDepth 100000
set_option maxHeartbeats 2000000
/-! a maker's methods, called -/
def MkC (T : CallT) (f : Nat) (args : List V) (pre : Mk → Prop) (g : Mk → Mk) (r : Nat → Option Nat → Nat → V) : Prop :=
  ∀ (k ka b : Nat) (ba : Option Nat) (n : Nat) (put : List UInt8) (cut : Int) (rows : List (List V)) (m : Mk) (h : Hp) (K : V → Hp → Prop), n = m.out.length ∧ rows = m.out.map encPart ∧ put = m.put ∧ cut = m.cut → pre m → Nat.beq k ka = false →
    h k = some ⟨some b, 151, 3, [[.own ka ba 3 n, .str put, .int .i64 cut]]⟩ → h ka = some ⟨ba, 108, 3, rows⟩ →
    (∀ (ba' : Option Nat) (n' : Nat) (put' : List UInt8) (cut' : Int) (rows' : List (List V)), n' = (g m).out.length ∧ rows' = (g m).out.map encPart ∧ put' = (g m).put ∧ cut' = (g m).cut →
      K (r ka ba' n') (Hp.put (Hp.put h k ⟨some b, 151, 3, [[.own ka ba' 3 n', .str put', .int .i64 cut']]⟩) ka ⟨ba', 108, 3, rows'⟩)) → T f (.ptr k (some b) 3 0 0 :: args) h K
theorem mkC_of {f : Nat} {args : List V} {pre : Mk → Prop} {g : Mk → Mk} {r0 : Mk → Option Nat → V} {r : Nat → Option Nat → Nat → V} (hs : ∀ m, pre m → MkSpec f args m (g m) (r0 m)) (ha : args.all V.pl = true) (hr : ∀ m k ka ba, (r0 m ba).ren (lab [(0, k), (1000000, ka)]) = r ka ba (g m).out.length) : MkC (CallE Try.prog) f args pre g r := by
  rintro k ka b ba n put cut rows m h K ⟨rfl, rfl, rfl, rfl⟩ hp hne hk hka hK
  have hne' : k ≠ ka := by intro e; subst e; rw [Nat.beq_refl] at hne; cases hne
  exact ansMk (hs m hp) ha hne' hk hka fun ba' => by rw [hr]; exact hK ba' _ _ _ _ ⟨rfl, rfl, rfl, rfl⟩
def unitR : Nat → Option Nat → Nat → V := fun _ _ _ => .tup []
def doneR : Nat → Option Nat → Nat → V := fun ka ba n => .own ka ba 3 n
theorem keepC (k : Int) (hk : 0 ≤ k ∧ k ≤ 1000000) : MkC (CallE Try.prog) 81 [.int .i64 k] (fun m => ∃ j w, m.Bd j w ∧ j ≤ 2000000) (fun m => m.doKeep k) unitR :=
  mkC_of (fun m ⟨j, w, hb, hj⟩ => sp_mkeep m k (by have := hb.flush.1; omega) (fun p hp => by have := hb.flush.2 p hp; unfold I64; omega) (by have := hb.len; omega)) rfl (fun _ _ _ _ => rfl)
theorem putC (s : List UInt8) (hs : s.length ≤ 1000000000) : MkC (CallE Try.prog) 82 [.str s] (fun m => m.put.length + s.length ≤ 1000000000) (fun m => m.doPut s) unitR :=
  mkC_of (fun m h => sp_mput m s (by omega)) rfl (fun _ _ _ _ => rfl)
theorem cutC (k : Int) (hk : 0 ≤ k ∧ k ≤ 1000000) : MkC (CallE Try.prog) 83 [.int .i64 k] (fun m => ∃ j w, m.Bd j w ∧ j ≤ 2000000) (fun m => m.doCut k) unitR :=
  mkC_of (fun m ⟨j, w, hb, hj⟩ => sp_mcut m k (by have := hb.cut; unfold I64; omega)) rfl (fun _ _ _ _ => rfl)
theorem doneC : MkC (CallE Try.prog) 84 [] (fun m => m.out.length ≤ 100000000) (fun m => ⟨m.flush, [], 0⟩) doneR :=
  mkC_of (r0 := fun m ba' => .own 1000000 ba' 3 m.flush.length) (fun m h => sp_mdone m h) rfl (fun m k ka ba => by simp [V.ren, V.rl, lab, doneR])

/-! a slice and plain values are handed back -/
def RetSl (rv : List RV) (sz : Nat) (rows' : List (List V)) (tl : List V) (R : S → Prop) : Prop :=
  (∀ (s s' : S), Ent s s' → Ret rv (.nilsl :: tl) s' → rows' = [] → R s) ∧
  (∀ (s s' : S) (k : Nat) (b : Option Nat) (ty n : Nat) (rows : List (List V)), Ent s s' → Ret rv (.own k b sz n :: tl) s' → s'.h k = some ⟨b, ty, sz, rows⟩ → n = rows'.length ∧ rows = rows' → R s) ∧
  (∀ (s s' : S) (rows : List (List V)), Ent s s' → Ret rv (.sl false sz rows :: tl) s' → rows = rows' → R s)
theorem oneV_tup {a b : V} {l : List V} : oneV (a :: b :: l) = .tup (a :: b :: l) := rfl
theorem fr_tup {h : Hp} : ∀ {l : List V}, (∀ v ∈ l, Fz v) → Fr h (.tup l) (.tup l) := fun hz => .same _ (.tup _ hz)
theorem fr_one {h : Hp} {v v' : V} {tl : List V} (h1 : Fr h v v') (hz : ∀ v ∈ tl, Fz v) : Fr h (oneV (v :: tl)) (oneV (v' :: tl)) := by
  cases tl with
  | nil => exact h1
  | cons a tl => exact .tup_cons h1 (fr_tup hz)
theorem retSl_of {rv : List RV} {sz : Nat} {rows' : List (List V)} {tl : List V} {R : S → Prop} (hsz : ∀ r ∈ rows', r.length = sz) (hz : ∀ r ∈ rows', ∀ v ∈ r, Fz v) (htl : ∀ v ∈ tl, Fz v) (hR : ∀ s s', Ent s s' → RetF rv (oneV (.sl false sz rows' :: tl)) s' → R s) : RetSl rv sz rows' tl R := by
  refine ⟨?_, ?_, ?_⟩
  · rintro s s' he hr rfl
    exact hR s s' he (resV_mono _ _ _ (fun x hx => by subst hx; exact fr_one (.nilsl sz) htl) hr)
  · rintro s s' k b ty n rows he hr h1 ⟨rfl, rfl⟩
    exact hR s s' he (resV_mono _ _ _ (fun x hx => by subst hx; exact fr_one (.rows h1 rfl rfl rfl hsz hz) htl) hr)
  · rintro s s' rows he hr rfl
    exact hR s s' he (resV_mono _ _ _ (fun x hx => by subst hx; exact fr_one (.same _ (.sl _ _ hz)) htl) hr)
theorem parts_sz (d : List Part) : ∀ r ∈ d.map encPart, r.length = 3 := by
  intro r hr; obtain ⟨p, _, rfl⟩ := List.mem_map.1 hr; rfl
theorem int_fz (e : Int) : ∀ v ∈ [V.int .i64 e], Fz v := by intro v hv; simp at hv; subst hv; exact .int _ _

/-! are two deltas the same -/
instance : DecidableEq Part := fun a b => by
  cases a with
  | mk k n t => cases b with
    | mk k' n' t' => exact decidable_of_iff (k = k' ∧ n = n' ∧ t = t') (by simp)
def ac_eqp : AC := .seq (.region false [
    ⟨some 4, none, .mov (.c (.bool false))⟩])
  (.seq (.seq (.region false [
    ⟨some 6, none, .mov (.t 0)⟩,
    ⟨some 7, none, .len false (.t 6)⟩,
    ⟨some 8, none, .mov (.t 1)⟩,
    ⟨some 9, none, .len false (.t 8)⟩,
    ⟨some 10, none, .bin .neq (.t 7) (.t 9)⟩])
  (.cond (.t 10)
    (.seq (.region false [
      ⟨some 4, none, .mov (.c (.bool false))⟩])
    (.ret))
    (.skip)))
  (.seq (.seq (.region false [
    ⟨some 11, none, .mov (.t 0)⟩,
    ⟨some 12, none, .len false (.t 11)⟩,
    ⟨some 13, none, .mov (.c (.int .i64 0))⟩])
  (.block 0 (.loop (.seq (.region false [
      ⟨some 14, none, .bin .lss (.t 13) (.t 12)⟩])
    (.seq (.cond (.t 14)
      (.skip)
      (.exit 0))
    (.seq (.block 1 (.seq (.region false [
      ⟨some 15, none, .mov (.t 13)⟩,
      ⟨some 5, none, .mov (.t 15)⟩])
    (.seq (.region true [
      ⟨some 16, none, .mov (.t 0)⟩,
      ⟨some 17, none, .mov (.t 5)⟩,
      ⟨some 18, none, .iaddr 3 (.t 16) (.t 17)⟩,
      ⟨some 19, none, .loadn 3 (.t 18)⟩,
      ⟨some 20, none, .mov (.t 1)⟩,
      ⟨some 21, none, .mov (.t 5)⟩,
      ⟨some 22, none, .iaddr 3 (.t 20) (.t 21)⟩,
      ⟨some 23, none, .loadn 3 (.t 22)⟩,
      ⟨some 24, none, .eqs true [1, 1, 2] (.t 19) (.t 23)⟩])
    (.cond (.t 24)
      (.seq (.region false [
        ⟨some 4, none, .mov (.c (.bool false))⟩])
      (.ret))
      (.skip)))))
    (.region false [
      ⟨some 25, none, .bin .add (.t 13) (.c (.int .i64 1))⟩,
      ⟨some 13, none, .mov (.t 25)⟩])))))))
  (.seq (.region false [
    ⟨some 4, none, .mov (.c (.bool true))⟩])
  (.ret))))
theorem ok_eqp : FnOk Try.prog 126 Try.f126 ac_eqp [.t 4] 2 drawD := ⟨Try.func126, by decide +kernel, by kernel_rfl, by kernel_rfl, by decide +kernel⟩
theorem vc_eqp (P : Prim) (hP : P = std) (T T1 : CallT) (a b : List Part) (hla : a.length ≤ maxLen) (ra rb : List (List V)) (hra : ra = a.map encPart) (hrb : rb = b.map encPart) (r : Bool) (hr : decide (a = b) = r)
    (R : S → Prop) (hR : ∀ s s', Ent s s' → Ret [.t 4] [.bool r] s' → R s) : awp P T T1 ac_eqp (S0 [.sl true 3 ra, .sl true 3 rb] Hp.emp) R (fun _ _ => False) R := by
  have h1 : P.rlen ra = a.length := by subst hP; simp [std, hra]
  have h2 : P.rlen rb = b.length := by subst hP; simp [std, hrb]
  have hm : maxLen = 9223372036854775807 := by decide
  cbv
  refine br_cases (fun h => ?_) (fun h => ?_)
  · cbv
    refine hR _ _ (Ent.refl _) ?_
    cbv
    clear hR; subst hP
    have : a.length ≠ b.length := by simp [std, nc] at h h1 h2; omega
    have : r = false := by rw [← hr, decide_eq_false_iff_not]; intro e; subst e; exact this rfl
    rw [this]
  have hll : a.length = b.length := by clear hR; subst hP; simp [std, nc] at h h1 h2; omega
  cbv
  refine ⟨{ y : Int × List Part × List Part × List Part × List Part // a = y.2.1 ++ y.2.2.1 ∧ b = y.2.2.2.1 ++ y.2.2.2.2 ∧ y.1 = y.2.1.length ∧ y.2.1 = y.2.2.2.1 }, fun y => [(0, .sl true 3 ra), (1, .sl true 3 rb), (12, .int .i64 (P.rlen ra)), (13, .int .i64 y.1.1)], fun _ => [], fun y => y.1.2.2.1.length,
    ⟨_, Ent.refl _, ⟨(0, [], a, [], b), rfl, rfl, rfl, rfl⟩, ⟨rfl, rfl, rfl, rfl, trivial⟩, trivial⟩, ?_⟩
  rintro ⟨⟨k, p1, r1, p2, r2⟩, ha, hb, hk, hp⟩
  dsimp only at ha hb hk hp
  subst hp
  have hl1 : a.length = p1.length + r1.length := by rw [ha]; simp
  have hl2 : b.length = p1.length + r2.length := by rw [hb]; simp
  cbv
  refine br_cases (fun h => ?_) (fun h => ?_)
  · rcases r1 with _ | ⟨⟨kd, n, t⟩, r1⟩
    · exfalso; clear hR; subst hP; simp [std, nc] at h h1 hk hl1; omega
    rcases r2 with _ | ⟨⟨kd', n', t'⟩, r2⟩
    · exfalso; simp at hl2 hl1; omega
    have hrow := row_at hra ha hk P hP
    have hrow2 := row_at hrb hb hk P hP
    have ho : P.leP 0 k := by clear hR; subst hP; simp [std, nc] at *; omega
    have ho2 : P.i64 (P.add k 1) := by clear hR hrow hrow2; subst hP; simp [std, I64, nc] at *; omega
    cbv
    refine ⟨ho, _, hrow, ?_⟩
    cbv
    refine ⟨ho, _, hrow2, ?_⟩
    cbv
    refine br_cases (fun h => ?_) (fun h => ?_)
    · cbv
      refine ⟨ho2, _, Ent.refl _, ⟨(_, p1 ++ [⟨kd, n, t⟩], r1, p1 ++ [⟨kd', n', t'⟩], r2), ?_⟩, ⟨rfl, rfl, rfl, rfl, trivial⟩, trivial, by simp⟩
      clear hR ho ho2 hrow hrow2; subst hP
      simp [std] at h
      simp [ha, hb, hk, std, h]
    · cbv
      refine hR _ _ (Ent.refl _) ?_
      cbv
      clear hR ho ho2 hrow hrow2; subst hP
      have : r = false := by
        rw [← hr, decide_eq_false_iff_not]
        intro e
        rw [ha, hb] at e
        simp at e
        simp [std, e] at h
      rw [this]
  · cbv
    refine hR _ _ (Ent.refl _) ?_
    cbv
    clear hR; subst hP
    have e1 : r1 = [] := by simp [std, nc] at h h1 hk; exact List.eq_nil_of_length_eq_zero (by omega)
    have e2 : r2 = [] := by subst e1; exact List.eq_nil_of_length_eq_zero (by simp at hl1; omega)
    subst e1 e2
    have : r = true := by rw [← hr, decide_eq_true_eq, ha, hb]
    rw [this]
theorem sp_eqp (a b : List Part) (hla : a.length ≤ maxLen) : Spec Try.prog 126 [.sl true 3 (a.map encPart), .sl true 3 (b.map encPart)] Hp.emp (Is (.bool (decide (a = b)))) :=
  spec_pure dOk ok_eqp [.bool (decide (a = b))] (.bool _) fun R hR => vc_eqp std rfl _ _ a b hla _ _ rfl rfl _ rfl R hR
def ac_same : AC := .seq (.region false [
    ⟨some 4, none, .mov (.c (.bool false))⟩])
  (.seq (.region false [
    ⟨some 5, none, .mov (.t 0)⟩,
    ⟨some 6, none, .mov (.t 1)⟩,
    ⟨some 7, none, .call 126 [(.t 5), (.t 6)]⟩,
    ⟨some 4, none, .mov (.t 7)⟩])
  (.ret))
theorem ok_same : FnOk Try.prog 109 Try.f109 ac_same [.t 4] 2 drawD := ⟨Try.func109, by decide +kernel, by kernel_rfl, by kernel_rfl, by decide +kernel⟩
theorem vc_same (P : Prim) (hP : P = std) (T T1 : CallT) (ra rb : List (List V)) (r : Bool) (hc1 : Ans T 126 [.sl true 3 ra, .sl true 3 rb] (.bool r))
    (R : S → Prop) (hR : ∀ s s', Ent s s' → Ret [.t 4] [.bool r] s' → R s) : awp P T T1 ac_same (S0 [.sl true 3 ra, .sl true 3 rb] Hp.emp) R (fun _ _ => False) R := by
  cbv
  refine hc1 _ _ ?_
  cbv
  exact hR _ _ (Ent.refl _) rfl
theorem sp_same (a b : List Part) (hla : a.length ≤ maxLen) : Spec Try.prog 109 [.sl true 3 (a.map encPart), .sl true 3 (b.map encPart)] Hp.emp (Is (.bool (decide (a = b)))) :=
  spec_pure dOk ok_same [.bool (decide (a = b))] (.bool _) fun R hR => vc_same std rfl _ _ _ _ _ (ansW (sp_eqp a b hla) (fun h => .cons (.same _) (.cons (.same _) .nil)) rfl) R hR

/-! Norm -/
def nfit (p : Part) : Int := if p.kind < 1 ∨ 3 < p.kind ∨ p.n < 0 ∨ (p.kind = 2 ∧ 0 < p.n) ∨ (p.kind ≠ 2 ∧ p.text ≠ []) then 3 else if 500 < p.n ∨ 500 < (p.text.length : Int) then 2 else 0
def nchk : List Part → Int
  | [] => 0
  | p :: l => if nfit p = 0 then nchk l else nfit p
def normF (l : List Part) : List Part × Int := if 1600 < l.length then ([], 2) else if nchk l = 0 then (if checkF (mkD (toks l)) = 0 then (mkD (toks l), 0) else ([], 2)) else ([], nchk l)
theorem nfit_bd {p : Part} (h : nfit p = 0) : 0 ≤ p.n ∧ p.n ≤ 500 ∧ p.text.length ≤ 500 := by
  unfold nfit at h
  grind
theorem nchk_ok : ∀ (l : List Part), nchk l = 0 → ∀ p ∈ l, nfit p = 0
  | [], _ => by simp
  | p :: l, h => by
    unfold nchk at h
    split at h
    · rename_i h1
      intro q hq
      rcases List.mem_cons.1 hq with rfl | hq
      · exact h1
      · exact nchk_ok l h q hq
    · contradiction
theorem nchk_app (a b : List Part) (h : ∀ p ∈ a, nfit p = 0) : nchk (a ++ b) = nchk b := by
  induction a with
  | nil => rfl
  | cons p a ih =>
    have h1 := h p (by simp)
    simp only [List.cons_append, nchk, h1, ↓reduceIte]
    exact ih fun q hq => h q (by simp [hq])
theorem run_part (m : Mk) (p : Part) (h : 0 ≤ p.n) : m.run (toks1 p) = if p.kind = 1 then m.doKeep p.n else if p.kind = 2 then m.doPut p.text else m.doCut p.n := by
  have e : ((p.n.toNat : Nat) : Int) = p.n := by omega
  unfold toks1
  by_cases h2 : p.kind = 2
  · rw [if_pos h2, Mk.run_put, if_neg (by omega), if_pos h2]
  · rw [if_neg h2]
    by_cases h1 : p.kind = 1
    · rw [if_pos h1, if_pos h1, Mk.run_keep, e]
    · rw [if_neg h1, if_neg h1, if_neg h2, Mk.run_cut, e]
theorem run_parts (m : Mk) (pre : List Part) (p : Part) : m.run (toks (pre ++ [p])) = (m.run (toks pre)).run (toks1 p) := by
  rw [toks_app, Mk.run_app]; simp [toks]
theorem bd_part {m : Mk} {j w : Nat} (h : m.Bd j w) (p : Part) (hp : 0 ≤ p.n ∧ p.n ≤ 500 ∧ p.text.length ≤ 500) : (m.run (toks1 p)).Bd (j + 500) (w + 500) := by
  rw [run_part m p hp.1]
  split
  · exact (h.doKeep p.n hp.1).mono (by omega) (by omega)
  · split
    · exact (h.doPut p.text).mono (by omega) (by omega)
    · exact (h.doCut p.n hp.1).mono (by omega) (by omega)
theorem bd_parts : ∀ (l : List Part) {m : Mk} {j w : Nat}, m.Bd j w → (∀ p ∈ l, 0 ≤ p.n ∧ p.n ≤ 500 ∧ p.text.length ≤ 500) → (m.run (toks l)).Bd (j + 500 * l.length) (w + 500 * l.length)
  | [], m, j, w, h, _ => by simpa [toks, Mk.run] using h
  | p :: l, m, j, w, h, hp => by
    have h1 := bd_part h p (hp p (by simp))
    have h2 := bd_parts l h1 fun q hq => hp q (by simp [hq])
    simp only [toks, Mk.run_app]
    exact h2.mono (by simp only [List.length_cons]; omega) (by simp only [List.length_cons]; omega)
theorem mkD_two {ts : List Tok} {p : Part} (hp : p ∈ mkD ts) (h : fitF p ≠ 0) : fitF p = 2 ∧ checkF (mkD ts) ≠ 0 := by
  refine ⟨(mkD_fit ts p hp).resolve_left h, fun hc => ?_⟩
  exact h (chk_ok 0 _ (checkF_ok hc).2.1 p hp)

structure YN (d : List Part) where
  k : Int
  pre : List Part
  rest : List Part
  m : Mk
  n : Nat
  put : List UInt8
  cut : Int
  rows : List (List V)
  ba : Option Nat
  hd : d = pre ++ rest
  hk : k = (pre.length : Int)
  hm : n = m.out.length ∧ rows = m.out.map encPart ∧ put = m.put ∧ cut = m.cut
  hrun : m = Mk.new.run (toks pre)
  hok : ∀ p ∈ pre, nfit p = 0
structure YI (α : Type) (d : List α) (A : α → Prop) where
  k : Int
  pre : List α
  rest : List α
  hd : d = pre ++ rest
  hk : k = (pre.length : Int)
  hok : ∀ p ∈ pre, A p
end Go.Proofs.Ytobngncjflogcaa.AM
