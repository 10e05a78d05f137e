/-
  Deltas the other way: the law TurnSays.
-/
import Derived.Test.YtobngncjflogcaaMMade
import Derived.Test.YtobngncjflogcaaMFits
set_option linter.unusedVariables false
set_option linter.unusedSimpArgs false
namespace Go.Proofs.Ytobngncjflogcaa.AM
open Go
set_option maxRecDepth 100000
set_option maxHeartbeats 2000000
def turnF (d : List Part) (s : List UInt8) : List Part × Int := if fitsF d s.length = 0 then (mkD (turnT (toks d) s), 0) else ([], fitsF d s.length)
theorem turnT_keep (n : Nat) (ts : List Tok) (s : List UInt8) : turnT (List.replicate n .keep ++ ts) s = List.replicate n .keep ++ turnT ts (s.drop n) := by
  induction n generalizing s with
  | zero => simp
  | succ n ih => simp [List.replicate_succ, turnT, ih, List.drop_drop, Nat.add_comm]
theorem turnT_cut (n : Nat) (ts : List Tok) (s : List UInt8) : turnT (List.replicate n .cut ++ ts) s = (s.take n).map .put ++ turnT ts (s.drop n) := by
  induction n generalizing s with
  | zero => simp
  | succ n ih => cases s <;> simp [List.replicate_succ, turnT, ih]
theorem turnT_put (t : List UInt8) (ts : List Tok) (s : List UInt8) : turnT (t.map .put ++ ts) s = List.replicate t.length .cut ++ turnT ts s := by
  induction t with
  | nil => simp
  | cons b t ih => simp [List.replicate_succ, turnT, ih]
def turn1 (m : Mk) (p : Part) (s : List UInt8) : Mk := if p.kind = 1 then m.doKeep p.n else if p.kind = 3 then m.doPut (s.take p.n.toNat) else m.doCut p.text.length
theorem turn_step (m : Mk) (p : Part) (rest : List Part) (s : List UInt8) (h : okP p) : m.run (turnT (toks (p :: rest)) s) = (turn1 m p s).run (turnT (toks rest) (if p.kind = 2 then s else s.drop p.n.toNat)) := by
  have h1 := okP_bd h
  have e : ((p.n.toNat : Nat) : Int) = p.n := by omega
  simp only [toks, toks1, turn1]
  by_cases k2 : p.kind = 2
  · rw [if_pos k2, if_pos k2, turnT_put, Mk.run_app, Mk.run_cut, if_neg (by omega), if_neg (by omega)]
  · rw [if_neg k2, if_neg k2]
    by_cases k1 : p.kind = 1
    · rw [if_pos k1, if_pos k1, turnT_keep, Mk.run_app, Mk.run_keep, e]
    · rw [if_neg k1, if_neg k1, if_pos (by omega), turnT_cut, Mk.run_app, Mk.run_put]
theorem bd_turn1 {m : Mk} {j w : Nat} (h : m.Bd j w) (p : Part) (s : List UInt8) (hp : okP p) : (turn1 m p s).Bd (j + 500) (w + 500) := by
  have h1 := okP_bd hp
  unfold turn1
  split
  · exact (h.doKeep p.n (by omega)).mono (by omega) (by omega)
  · split
    · exact (h.doPut _).mono (by omega) (by simp; omega)
    · exact (h.doCut _ (by omega)).mono (by simp; omega) (by omega)
theorem inT_cons (p : Part) (l : List Part) (h : okP p) : (inT (toks (p :: l)) : Int) = (if p.kind = 2 then 0 else p.n) + inT (toks l) := by
  have h1 := okP_bd h
  have h2 := inT_toks [p] (by simpa using h)
  simp only [toks, List.append_nil, inF] at h2
  simp only [toks, inT_app]
  have : (if p.kind = 1 ∨ p.kind = 3 then p.n else 0) = if p.kind = 2 then 0 else p.n := by split <;> split <;> omega
  rw [← this]
  omega
def ac_turn : AC := .seq (.region false [
    ⟨some 4, none, .mov (.c (.slice none 0 0))⟩,
    ⟨some 5, none, .mov (.c (.int .i64 0))⟩])
  (.seq (.seq (.region false [
    ⟨some 10, none, .mov (.t 0)⟩,
    ⟨some 11, none, .mov (.t 1)⟩,
    ⟨some 12, none, .len true (.t 11)⟩,
    ⟨some 13, none, .call 54 [(.t 10), (.t 12)]⟩,
    ⟨some 6, none, .mov (.t 13)⟩])
  (.seq (.region false [
    ⟨some 14, none, .mov (.t 6)⟩,
    ⟨some 15, none, .bin .neq (.t 14) (.c (.int .i64 0))⟩])
  (.cond (.t 15)
    (.seq (.region false [
      ⟨some 16, none, .mov (.t 6)⟩,
      ⟨some 4, none, .mov (.c (.slice none 0 0))⟩,
      ⟨some 5, none, .mov (.t 16)⟩])
    (.ret))
    (.skip))))
  (.seq (.region false [
    ⟨some 7, none, .alloc 151 [(.slice none 0 0), (.string ⟨#[]⟩), (.int .i64 0)]⟩])
  (.seq (.seq (.region false [
    ⟨some 17, none, .mov (.t 0)⟩,
    ⟨some 18, none, .len false (.t 17)⟩,
    ⟨some 19, none, .mov (.c (.int .i64 0))⟩])
  (.block 0 (.loop (.seq (.region false [
      ⟨some 20, none, .bin .lss (.t 19) (.t 18)⟩])
    (.seq (.cond (.t 20)
      (.skip)
      (.exit 0))
    (.seq (.block 1 (.seq (.region false [
      ⟨some 21, none, .iaddr 3 (.t 17) (.t 19)⟩,
      ⟨some 22, none, .loadn 3 (.t 21)⟩,
      ⟨some 9, none, .alloc 108 [(.int .i64 0), (.int .i64 0), (.string ⟨#[]⟩)]⟩,
      ⟨none, none, .store 3 (.t 9) (.t 22)⟩])
    (.seq (.region false [
      ⟨some 23, none, .faddr 0 (.t 9)⟩,
      ⟨some 24, none, .load1 (.t 23)⟩])
    (.block 2 (.seq (.region false [
      ⟨some 30, none, .bin .eql (.t 24) (.c (.int .i64 1))⟩,
      ⟨some 29, none, .mov (.t 30)⟩])
    (.cond (.t 29)
      (.seq (.region false [
        ⟨some 31, none, .faddr 1 (.t 9)⟩,
        ⟨some 32, none, .load1 (.t 31)⟩,
        ⟨some 33, none, .call 81 [(.t 7), (.t 32)]⟩])
      (.region false [
        ⟨some 34, none, .mov (.t 1)⟩,
        ⟨some 35, none, .faddr 1 (.t 9)⟩,
        ⟨some 36, none, .load1 (.t 35)⟩,
        ⟨some 37, none, .slstr (.t 34) (some (.t 36)) none⟩,
        ⟨some 1, none, .mov (.t 37)⟩]))
      (.seq (.region false [
        ⟨some 39, none, .bin .eql (.t 24) (.c (.int .i64 3))⟩,
        ⟨some 38, none, .mov (.t 39)⟩])
      (.cond (.t 38)
        (.seq (.region false [
          ⟨some 40, none, .mov (.t 1)⟩,
          ⟨some 41, none, .faddr 1 (.t 9)⟩,
          ⟨some 42, none, .load1 (.t 41)⟩,
          ⟨some 43, none, .slstr (.t 40) none (some (.t 42))⟩,
          ⟨some 44, none, .call 82 [(.t 7), (.t 43)]⟩])
        (.region false [
          ⟨some 45, none, .mov (.t 1)⟩,
          ⟨some 46, none, .faddr 1 (.t 9)⟩,
          ⟨some 47, none, .load1 (.t 46)⟩,
          ⟨some 48, none, .slstr (.t 45) (some (.t 47)) none⟩,
          ⟨some 1, none, .mov (.t 48)⟩]))
        (.region false [
          ⟨some 25, none, .faddr 2 (.t 9)⟩,
          ⟨some 26, none, .load1 (.t 25)⟩,
          ⟨some 27, none, .len true (.t 26)⟩,
          ⟨some 28, none, .call 83 [(.t 7), (.t 27)]⟩])))))))))
    (.region false [
      ⟨some 49, none, .bin .add (.t 19) (.c (.int .i64 1))⟩,
      ⟨some 19, none, .mov (.t 49)⟩])))))))
  (.seq (.region false [
    ⟨some 50, none, .call 84 [(.t 7)]⟩,
    ⟨some 4, none, .mov (.t 50)⟩,
    ⟨some 5, none, .mov (.c (.int .i64 0))⟩])
  (.ret)))))
theorem ok_turn : FnOk Try.prog 49 Try.f49 ac_turn [.t 4, .t 5] 2 drawD := ⟨Try.func49, by decide +kernel, by kernel_rfl, by kernel_rfl, by decide +kernel⟩
structure YT (d : List Part) (s0 : List UInt8) where
  k : Int
  pre : List Part
  rest : List Part
  s : List UInt8
  m : Mk
  n : Nat
  put : List UInt8
  cut : Int
  rows : List (List V)
  ba : Option Nat
  hd : d = pre ++ rest
  hk : k = (pre.length : Int)
  hm : n = m.out.length ∧ rows = m.out.map encPart ∧ put = m.put ∧ cut = m.cut
  hrun : Mk.new.run (turnT (toks d) s0) = m.run (turnT (toks rest) s)
  hs : s.length = inT (toks rest)
  hb : m.Bd (500 * pre.length) (500 * pre.length)
theorem vc_turn (P : Prim) (hP : P = std) (T T1 : CallT) (d : List Part) (s0 : List UInt8) (rows : List (List V)) (hrows : rows = d.map encPart) (c : Int) (hc : c = fitsF d s0.length)
    (hkeep : ∀ k : Int, 0 ≤ k ∧ k ≤ 1000000 → MkC T 81 [.int .i64 k] (fun m => ∃ j w, m.Bd j w ∧ j ≤ 2000000) (fun m => m.doKeep k) unitR)
    (hput : ∀ s : List UInt8, s.length ≤ 1000000000 → MkC T 82 [.str s] (fun m => m.put.length + s.length ≤ 1000000000) (fun m => m.doPut s) unitR)
    (hcut : ∀ k : Int, 0 ≤ k ∧ k ≤ 1000000 → MkC T 83 [.int .i64 k] (fun m => ∃ j w, m.Bd j w ∧ j ≤ 2000000) (fun m => m.doCut k) unitR)
    (hdone : MkC T 84 [] (fun m => m.out.length ≤ 100000000) (fun m => ⟨m.flush, [], 0⟩) doneR)
    (hc1 : Ans T 54 [.sl true 3 rows, .int .i64 (P.slen s0)] (.int .i64 c))
    (r : List Part) (e : Int) (hr : turnF d s0 = (r, e)) (rr : List (List V)) (hrr : rr = r.map encPart)
    (R : S → Prop) (hR : ∀ e2, e2 = e → RetSl [.t 4, .t 5] 3 rr [.int .i64 e2] R) : awp P T T1 ac_turn (S0 [.sl true 3 rows, .str s0] Hp.emp) R (fun _ _ => False) R := by
  have h1 : P.rlen rows = (d.length : Int) := by rw [rlen_eq hP, hrows]; simp
  unfold turnF at hr
  rw [← hc] at hr
  cbv
  refine hc1 _ _ ?_
  clear hc1
  cbv
  refine br_cases (fun h => ?_) (fun h => ?_)
  · have hcn : c ≠ 0 := ne_t hP h
    rw [if_neg hcn] at hr
    simp only [Prod.mk.injEq] at hr
    cbv
    exact (hR _ hr.2).1 _ _ (Ent.refl _) rfl (by rw [hrr, ← hr.1]; rfl)
  have hc0 : c = 0 := ne_f hP h
  rw [if_pos hc0] at hr
  simp only [Prod.mk.injEq] at hr
  obtain ⟨hz, hin⟩ := fitsF_ok (hc.symm.trans hc0)
  obtain ⟨hl, hok, hin500, hout500, _, _⟩ := checkF_all hz
  have hT := inT_toks d hok
  cbv
  intro β7
  cbv
  refine ⟨YT d s0, fun y => [(1, .str y.s), (7, .ptr 7 (some β7) 3 0 0), (17, .sl true 3 rows), (18, .int .i64 (P.rlen rows)), (19, .int .i64 y.k)],
    fun y => [(7, ⟨some β7, 151, 3, [[.own 1000999 y.ba 3 y.n, .str y.put, .int .i64 y.cut]]⟩), (1000999, ⟨y.ba, 108, 3, y.rows⟩)], fun y => y.rest.length,
    ⟨_, Ent.nilcell (k := 7) (k' := 1000999) (ty := 108) (sz := 3) (r := 0) (c := 0) rfl rfl rfl rfl, ⟨0, [], d, s0, Mk.new, _, _, _, _, _, rfl, rfl, ⟨rfl, rfl, rfl, rfl⟩, rfl, by ((try simp only [nc] at *); omega), Mk.bd_new⟩, ⟨rfl, rfl, rfl, rfl, rfl, trivial⟩, ⟨rfl, rfl, trivial⟩⟩, ?_⟩
  rintro ⟨k, pre, rest, s, m, n, put, cut, mrows, ba, hd, hk, hm, hrun, hs, hb⟩
  have hlp : pre.length + rest.length ≤ 1600 := by rw [hd] at hl; simpa using hl
  have hsl : s.length ≤ 500 := by
    have h3 := inT_toks rest fun p hp => hok p (by simp [hd, hp])
    have h4 := inF_app pre rest
    rw [← hd] at h4
    have h5 := (inF_bd pre fun p hp => hok p (by simp [hd, hp])).1
    omega
  cbv
  refine br_cases (fun h => ?_) (fun h => ?_)
  · have h2 : k < P.rlen rows := lt_t hP h
    rw [h1] at h2
    rcases rest with _ | ⟨⟨kd, pn, t⟩, rest⟩
    · exfalso; rw [hd] at h2; simp at h2; ((try simp only [nc] at *); omega)
    replace hk : k = (pre.length : Int) := hk
    have hp1 := hok ⟨kd, pn, t⟩ (by simp [hd])
    have hp := okP_bd hp1
    simp only [] at hp
    have hrow := row_at hrows hd hk P hP
    have ho : P.leP 0 k := le0 hP (by ((try simp only [nc] at *); omega))
    have ho2 : P.i64 (P.add k 1) := by rw [add_eq hP]; exact i64I hP (by ((try simp only [nc] at *); omega))
    have hst := turn_step m ⟨kd, pn, t⟩ rest s hp1
    have hic := inT_cons ⟨kd, pn, t⟩ rest hp1
    have hbs := bd_turn1 hb ⟨kd, pn, t⟩ s hp1
    simp only [turn1] at hst hbs
    simp only [] at hic
    rw [← hrun] at hst
    have hpb := hb.put
    have ho3 : P.leP 0 pn := le0 hP (by omega)
    have ho4 : kd ≠ 2 → P.leP pn (P.slen s) := fun hk2 => leI hP (by rw [slen_eq hP]; rw [if_neg hk2] at hic; ((try simp only [nc] at *); omega))
    have ho5 : P.leP (P.slen s) (P.slen s) := leI hP (Int.le_refl _)
    have ho6 : P.leP 0 0 := le0 hP (by omega)
    have es1 : P.ssub s pn (P.slen s) = s.drop pn.toNat := by rw [slen_eq hP]; subst hP; show (s.take ((s.length : Nat) : Int).toNat).drop pn.toNat = _; simp
    have es2 : P.ssub s 0 pn = s.take pn.toNat := by subst hP; show (s.take pn.toNat).drop (0 : Int).toNat = _; simp
    have kc := hkeep pn ⟨by omega, by omega⟩
    have pc := hput (P.ssub s 0 pn) (by rw [es2]; simp; omega)
    have cc := hcut (P.slen t) ⟨by rw [slen_eq hP]; omega, by rw [slen_eq hP]; omega⟩
    clear hkeep hput hcut hdone hR
    cbv
    refine ⟨ho, _, hrow, ?_⟩
    cbv
    intro β9
    cbv
    refine br_cases (fun h => ?_) (fun h => ?_)
    · have hk1 : kd = 1 := eq_t hP h
      have ho7 := ho4 (by omega)
      cbv
      refine kc _ _ _ _ _ _ _ _ m _ _ hm ⟨_, _, hb, by omega⟩ rfl rfl rfl fun ba' n' put' cut' rows' hm' => ?_
      cbv
      refine ⟨ho3, ho7, ho5, ho2, ?_⟩
      refine ⟨_, Ent.refl _, ⟨_, pre ++ [⟨kd, pn, t⟩], rest, _, _, _, _, _, _, _, by simp [hd], ?_, hm', ?_, ?_, ?_⟩, ⟨rfl, rfl, rfl, rfl, rfl, trivial⟩, ⟨rfl, rfl, trivial⟩, by simp⟩
      · show P.add k 1 = _; rw [add_eq hP, hk]; simp
      · show _ = Mk.run _ (turnT _ (P.ssub s pn (P.slen s)))
        rw [es1, hst, if_pos hk1, if_neg (by omega)]
      · show (P.ssub s pn (P.slen s)).length = _
        rw [es1]; rw [if_neg (by omega)] at hic; simp; ((try simp only [nc] at *); omega)
      · rw [if_pos hk1] at hbs; exact hbs.mono (by simp; omega) (by simp; omega)
    · have hk1 : ¬ kd = 1 := eq_f hP h
      cbv
      refine br_cases (fun h => ?_) (fun h => ?_)
      · have hk3 : kd = 3 := eq_t hP h
        have ho7 := ho4 (by omega)
        cbv
        refine ⟨ho6, ho3, ho7, ?_⟩
        refine pc _ _ _ _ _ _ _ _ m _ _ hm (by rw [es2]; simp; omega) rfl rfl rfl fun ba' n' put' cut' rows' hm' => ?_
        cbv
        refine ⟨ho3, ho7, ho5, ho2, ?_⟩
        refine ⟨_, Ent.refl _, ⟨_, pre ++ [⟨kd, pn, t⟩], rest, _, _, _, _, _, _, _, by simp [hd], ?_, hm', ?_, ?_, ?_⟩, ⟨rfl, rfl, rfl, rfl, rfl, trivial⟩, ⟨rfl, rfl, trivial⟩, by simp⟩
        · show P.add k 1 = _; rw [add_eq hP, hk]; simp
        · show _ = Mk.run _ (turnT _ (P.ssub s pn (P.slen s)))
          rw [es1, hst, if_neg hk1, if_pos hk3, if_neg (by omega), es2]
        · show (P.ssub s pn (P.slen s)).length = _
          rw [es1]; rw [if_neg (by omega)] at hic; simp; ((try simp only [nc] at *); omega)
        · rw [if_neg hk1, if_pos hk3, ← es2] at hbs; exact hbs.mono (by simp; omega) (by simp; omega)
      · have hk3 : ¬ kd = 3 := eq_f hP h
        have hk2 : kd = 2 := by omega
        cbv
        refine cc _ _ _ _ _ _ _ _ m _ _ hm ⟨_, _, hb, by omega⟩ rfl rfl rfl fun ba' n' put' cut' rows' hm' => ?_
        cbv
        refine ⟨ho2, ?_⟩
        refine ⟨_, Ent.refl _, ⟨_, pre ++ [⟨kd, pn, t⟩], rest, _, _, _, _, _, _, _, by simp [hd], ?_, hm', ?_, ?_, ?_⟩, ⟨rfl, rfl, rfl, rfl, rfl, trivial⟩, ⟨rfl, rfl, trivial⟩, by simp⟩
        · show P.add k 1 = _; rw [add_eq hP, hk]; simp
        · show _ = Mk.run (Mk.doCut m (P.slen t)) _
          rw [hst, if_neg hk1, if_neg hk3, if_pos hk2, slen_eq hP]
        · rw [if_pos hk2] at hic; ((try simp only [nc] at *); omega)
        · rw [if_neg hk1, if_neg hk3] at hbs
          show Mk.Bd (Mk.doCut m (P.slen t)) _ _
          rw [slen_eq hP]; exact hbs.mono (by simp; omega) (by simp; omega)
  · have h2 : ¬ k < P.rlen rows := lt_f hP h
    rw [h1] at h2
    rcases rest with _ | ⟨p, rest⟩
    rotate_left
    · exfalso; rw [hd] at h2; simp at h2; ((try simp only [nc] at *); omega)
    have hbl := hb.len
    cbv
    refine hdone _ _ _ _ _ _ _ _ m _ _ hm (by omega) rfl rfl rfl fun ba' n' put' cut' rows' hm' => ?_
    obtain ⟨hn', hrows', _, _⟩ := hm'
    have hfin : r = m.flush := by rw [← hr.1]; show (Mk.new.run _).flush = _; rw [hrun]; rfl
    cbv
    exact (hR _ hr.2).2.1 _ _ _ _ _ _ _ (Ent.refl _) rfl rfl ⟨by rw [hrr, hfin, hn']; simp, by rw [hrr, hfin, hrows']⟩
theorem turn_len (d : List Part) (s : List UInt8) : (turnF d s).1.length ≤ 10000000 := by
  unfold turnF
  split
  · rename_i h
    obtain ⟨hz, _⟩ := fitsF_ok h
    have h1 : ∀ (ts : List Tok) (s : List UInt8), (turnT ts s).length ≤ ts.length := by
      intro ts
      induction ts with
      | nil => intro s; simp [turnT]
      | cons t ts ih =>
        intro s
        cases t
        · have := ih (s.drop 1); simp [turnT] at *; omega
        · have := ih s; simp [turnT] at *; omega
        · have := ih (s.drop 1); simp [turnT] at *; omega
    have h2 := h1 (toks d) s
    have h3 := fits_len hz
    exact mkD_len _ (by omega)
  · simp
theorem sp_turn (d : List Part) (hd : d.length ≤ maxLen) (s : List UInt8) : Spec Try.prog 49 [.sl true 3 (d.map encPart), .str s] Hp.emp (Is (.tup [encParts (turnF d s).1, .int .i64 (turnF d s).2])) :=
  spec_frz dOk ok_turn fun R hR => vc_turn std rfl _ _ d s _ rfl _ rfl (fun k hk => keepC k hk) (fun s hs => putC s hs) (fun k hk => cutC k hk) doneC (ansW (sp_fits d hd s.length) (fun h => .cons (.same _) (.cons (.same _) .nil)) rfl) _ _ rfl _ rfl R fun e2 he => by
    subst he
    exact retSl_of (parts_sz _) (encParts_fz _) (int_fz _) fun s s' he hr => hR s s' he hr

/-! the document's Turn -/
structure YRt (l : List (Nat × Nat)) where
  k : Int
  pre : List (Nat × Nat)
  rest : List (Nat × Nat)
  n : Nat
  b : Option Nat
  rows : List (List V)
  hd : l = pre ++ rest
  hk : k = (pre.length : Int)
  hrows : rows = pairRows (pre.map fun p => (p.2, p.1))
  hn : n = pre.length
theorem mkD_turn (ts : List Tok) (s : List UInt8) (hs : s.length = inT ts) : mkD (turnT ts s) = mkD (madeT (outT ts) s 0 0 ((pairsT ts 0 0).map fun p => (p.2, p.1))) := by
  obtain ⟨h1, h2, h3⟩ := turnT_spec ts s 0 0 hs
  have := mkD_made (turnT ts s) (doT ts s) (by rw [h1, doT_len ts s hs])
  rw [this, h1, h2, h3]
theorem outT_le (ts : List Tok) : outT ts ≤ ts.length := by
  induction ts with
  | nil => simp [outT]
  | cons t ts ih => cases t <;> simp [outT] <;> omega
end Go.Proofs.Ytobngncjflogcaa.AM
