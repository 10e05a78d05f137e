/-
  Norm: contracts, and the law.
-/
import Derived.Test.YtdmpbdmgaepndaaMNorm
set_option linter.unusedVariables false
set_option linter.unusedSimpArgs false
namespace Go.Proofs.Ytdmpbdmgaepndaa.AM
open Go
set_option maxRecDepth 100000
set_option maxHeartbeats 2000000
theorem rowsOf_own {h : Hp} {k sz n ty : Nat} {b : Option Nat} {rs : List (List V)} (hn : n = rs.length) (hk : h k = some ⟨b, ty, sz, rs⟩) : rowsOf h sz (.own k b sz n) = some rs := by
  simp only [rowsOf, hk]
  rw [if_pos ⟨trivial, trivial, trivial, by omega⟩, hn, List.take_length]
/-- a row of the call's own is handed to a function that reads it -/
theorem ownCall {f sz ty : Nat} {rows : List (List V)} {v : V} (hs : Spec Try.prog f [.sl true sz rows] Hp.emp (Is v)) (hv : v.ren (lab []) = v) (h : Hp) (K : V → Hp → Prop) (k : Nat) (b : Option Nat) (n : Nat) (rs : List (List V)) (hrs : rs = rows) (hn : n = rs.length) (hk : h k = some ⟨b, ty, sz, rs⟩) (hK : K v h) : CallE Try.prog f [.own k b sz n] h K :=
  ⟨h, HEnt.refl h, call_pure hs (.cons (.own k b sz n rows (by rw [rowsOf_own hn hk, hrs]) (by simp)) .nil) (by rw [hv]; exact hK)⟩
theorem norm_len (l : List Part) : (normF l).1.length ≤ 3000000 := by
  unfold normF
  split
  · simp
  · split
    · rename_i h1 h2
      split
      · have := (bd_parts l Mk.bd_new fun p hp => nfit_bd (nchk_ok l h2 p hp)).flush.1
        simp only [Mk.run] at this
        show (mkD (toks l)).length ≤ _
        unfold mkD
        simp only [Mk.run]
        omega
      · simp
    · simp
theorem sp_norm (l : List Part) (hl : l.length ≤ maxLen) : Spec Try.prog 65 [.sl true 3 (l.map encPart)] Hp.emp (Is (.tup [encParts (normF l).1, .int .i64 (normF l).2])) :=
  spec_frz dOk ok_norm fun R hR => vc_norm std rfl _ _ l hl _ rfl (fun k hk => keepC k hk) (fun s hs => putC s hs) (fun k hk => cutC k hk) doneC (fun k n t => ansW (sp_fit ⟨_, _, _⟩) (fun h => .cons (.same _) .nil) rfl)
    (fun d h K k b n rs hd hrs hn hk hK => ownCall (sp_check d (by have : maxLen = 9223372036854775807 := by decide
                                                                   omega)) rfl h K k b n rs hrs hn hk hK) _ _ rfl _ rfl R fun e2 he => by
    subst he
    exact retSl_of (parts_sz _) (encParts_fz _) (int_fz _) fun s s' he hr => hR s s' he hr

/-! the document's Norm -/
def ac_rnorm : AC := .seq (.region false [
    ⟨some 2, none, .mov (.c (.slice none 0 0))⟩,
    ⟨some 3, none, .mov (.c (.int .i64 0))⟩])
  (.seq (.seq (.region false [
    ⟨some 7, none, .mov (.t 0)⟩,
    ⟨some 8, none, .len false (.t 7)⟩,
    ⟨some 9, none, .bin .gtr (.t 8) (.c (.int .i64 1600))⟩])
  (.cond (.t 9)
    (.seq (.region false [
      ⟨some 2, none, .mov (.c (.slice none 0 0))⟩,
      ⟨some 3, none, .mov (.c (.int .i64 2))⟩])
    (.ret))
    (.skip)))
  (.seq (.seq (.region false [
    ⟨some 10, none, .mov (.t 0)⟩,
    ⟨some 11, none, .len false (.t 10)⟩,
    ⟨some 12, none, .mov (.c (.int .i64 0))⟩])
  (.block 0 (.loop (.seq (.region false [
      ⟨some 13, none, .bin .lss (.t 12) (.t 11)⟩])
    (.seq (.cond (.t 13)
      (.skip)
      (.exit 0))
    (.seq (.block 1 (.seq (.region false [
      ⟨some 14, none, .iaddr 3 (.t 10) (.t 12)⟩,
      ⟨some 15, none, .loadn 3 (.t 14)⟩,
      ⟨some 5, none, .alloc 132 [(.int .i64 0), (.int .i64 0), (.string ⟨#[]⟩)]⟩,
      ⟨none, none, .store 3 (.t 5) (.t 15)⟩])
    (.seq (.seq (.region false [
      ⟨some 16, none, .faddr 0 (.t 5)⟩,
      ⟨some 17, none, .load1 (.t 16)⟩,
      ⟨some 18, none, .bin .lss (.t 17) (.c (.int .i64 1))⟩,
      ⟨some 19, none, .mov (.t 18)⟩,
      ⟨some 20, some (19, false), .faddr 0 (.t 5)⟩,
      ⟨some 21, some (19, false), .load1 (.t 20)⟩,
      ⟨some 22, some (19, false), .bin .gtr (.t 21) (.c (.int .i64 3))⟩,
      ⟨some 23, none, .pick (.t 19) (.c (.bool true)) (.t 22)⟩,
      ⟨some 24, none, .mov (.t 23)⟩,
      ⟨some 25, some (24, false), .faddr 1 (.t 5)⟩,
      ⟨some 26, some (24, false), .load1 (.t 25)⟩,
      ⟨some 27, some (24, false), .bin .lss (.t 26) (.c (.int .i64 0))⟩,
      ⟨some 28, none, .pick (.t 24) (.c (.bool true)) (.t 27)⟩,
      ⟨some 29, none, .mov (.t 28)⟩,
      ⟨some 30, some (29, false), .faddr 0 (.t 5)⟩,
      ⟨some 31, some (29, false), .load1 (.t 30)⟩,
      ⟨some 32, some (29, false), .bin .eql (.t 31) (.c (.int .i64 2))⟩,
      ⟨some 33, some (29, false), .mov (.t 32)⟩,
      ⟨some 34, some (33, true), .faddr 1 (.t 5)⟩,
      ⟨some 35, some (33, true), .load1 (.t 34)⟩,
      ⟨some 36, some (33, true), .bin .neq (.t 35) (.c (.int .i64 0))⟩,
      ⟨some 37, some (29, false), .pick (.t 33) (.t 36) (.c (.bool false))⟩,
      ⟨some 38, none, .pick (.t 29) (.c (.bool true)) (.t 37)⟩,
      ⟨some 39, none, .mov (.t 38)⟩,
      ⟨some 40, some (39, false), .faddr 0 (.t 5)⟩,
      ⟨some 41, some (39, false), .load1 (.t 40)⟩,
      ⟨some 42, some (39, false), .bin .neq (.t 41) (.c (.int .i64 2))⟩,
      ⟨some 43, some (39, false), .mov (.t 42)⟩,
      ⟨some 44, some (43, true), .faddr 2 (.t 5)⟩,
      ⟨some 45, some (43, true), .load1 (.t 44)⟩,
      ⟨some 46, some (43, true), .bin .neq (.t 45) (.c (.string ⟨#[]⟩))⟩,
      ⟨some 47, some (39, false), .pick (.t 43) (.t 46) (.c (.bool false))⟩,
      ⟨some 48, none, .pick (.t 39) (.c (.bool true)) (.t 47)⟩])
    (.cond (.t 48)
      (.seq (.region false [
        ⟨some 2, none, .mov (.c (.slice none 0 0))⟩,
        ⟨some 3, none, .mov (.c (.int .i64 3))⟩])
      (.ret))
      (.skip)))
    (.seq (.region false [
      ⟨some 49, none, .faddr 1 (.t 5)⟩,
      ⟨some 50, none, .load1 (.t 49)⟩,
      ⟨some 51, none, .faddr 2 (.t 5)⟩,
      ⟨some 52, none, .load1 (.t 51)⟩,
      ⟨some 53, none, .len true (.t 52)⟩,
      ⟨some 54, none, .mm true (.t 50) (.t 53)⟩,
      ⟨some 55, none, .bin .gtr (.t 54) (.c (.int .i64 500))⟩])
    (.cond (.t 55)
      (.seq (.region false [
        ⟨some 2, none, .mov (.c (.slice none 0 0))⟩,
        ⟨some 3, none, .mov (.c (.int .i64 2))⟩])
      (.ret))
      (.skip))))))
    (.region false [
      ⟨some 56, none, .bin .add (.t 12) (.c (.int .i64 1))⟩,
      ⟨some 12, none, .mov (.t 56)⟩])))))))
  (.seq (.region false [
    ⟨some 57, none, .mov (.t 0)⟩,
    ⟨some 58, none, .call 97 [(.t 57)]⟩,
    ⟨some 59, none, .call 106 [(.t 58)]⟩,
    ⟨some 6, none, .mov (.t 59)⟩])
  (.seq (.seq (.region false [
    ⟨some 60, none, .mov (.t 6)⟩,
    ⟨some 61, none, .call 37 [(.t 60)]⟩,
    ⟨some 62, none, .bin .neq (.t 61) (.c (.int .i64 0))⟩])
  (.cond (.t 62)
    (.seq (.region false [
      ⟨some 2, none, .mov (.c (.slice none 0 0))⟩,
      ⟨some 3, none, .mov (.c (.int .i64 2))⟩])
    (.ret))
    (.skip)))
  (.seq (.region false [
    ⟨some 63, none, .mov (.t 6)⟩,
    ⟨some 2, none, .mov (.t 63)⟩,
    ⟨some 3, none, .mov (.c (.int .i64 0))⟩])
  (.ret))))))
theorem ok_rnorm : FnOk Try.prog 66 Try.f66 ac_rnorm [.t 2, .t 3] 1 drawD := ⟨Try.func66, by decide +kernel, by kernel_rfl, by kernel_rfl, by decide +kernel⟩
theorem vc_rnorm (P : Prim) (hP : P = std) (T T1 : CallT) (l : List Part) (hl1 : l.length ≤ maxLen) (rows : List (List V)) (hrows : rows = l.map encPart) (pv : V) (mr : List (List V)) (hmr : mr = (mkD (toks l)).map encPart) (cv : Int) (hcv : cv = checkF (mkD (toks l)))
    (hof : l.length ≤ 1600 → nchk l = 0 → Ans T 97 [.sl true 3 rows] pv) (hpd : l.length ≤ 1600 → nchk l = 0 → Ans T 106 [pv] (.sl false 3 mr)) (hdelta : l.length ≤ 1600 → nchk l = 0 → Ans T 37 [.sl false 3 mr] (.int .i64 cv))
    (r : List Part) (e : Int) (hr : normF l = (r, e)) (rr : List (List V)) (hrr : rr = r.map encPart)
    (R : S → Prop) (hR : ∀ e2, e2 = e → RetSl [.t 2, .t 3] 3 rr [.int .i64 e2] R) : awp P T T1 ac_rnorm (S0 [.sl true 3 rows] Hp.emp) R (fun _ _ => False) R := by
  have h1 : P.rlen rows = l.length := by subst hP; simp [std, hrows]
  cbv
  refine br_cases (fun h => ?_) (fun h => ?_)
  · cbv
    refine (hR _ ?_).1 _ _ (Ent.refl _) rfl ?_
    all_goals (clear hR hof hpd hdelta; subst hP; simp [std, nc] at h h1; have h3 : 1600 < l.length := by omega)
    all_goals (rw [normF, if_pos h3] at hr; cases hr; first | rfl | simpa using hrr)
  have hll : l.length ≤ 1600 := by clear hR hof hpd hdelta; subst hP; simp [std, nc] at h h1; omega
  cbv
  refine ⟨YI Part l (fun p => nfit p = 0), fun y => [(0, .sl true 3 rows), (10, .sl true 3 rows), (11, .int .i64 (P.rlen rows)), (12, .int .i64 y.k)],
    fun y => [], fun y => y.rest.length, ⟨_, Ent.refl _, ⟨0, [], l, rfl, rfl, by simp⟩, ⟨rfl, rfl, rfl, rfl, trivial⟩, trivial⟩, ?_⟩
  rintro ⟨k, pre, rest, hd, hk, hok⟩
  have hlp : pre.length + rest.length ≤ 1600 := by rw [hd] at hll; simpa using hll
  cbv
  refine br_cases (fun h => ?_) (fun h => ?_)
  · clear hof hpd hdelta
    rcases rest with _ | ⟨⟨kd, pn, t⟩, rest⟩
    · exfalso; clear hR; subst hP; simp [std, nc] at h h1 hk; rw [hd] at h1; simp at h1; omega
    replace hk : k = (pre.length : Int) := hk
    have hrow := row_at hrows hd hk P hP
    have ho : P.leP 0 k := by clear hR; subst hP; simp only [std]; omega
    have ho2 : P.i64 (P.add k 1) := by clear hR; subst hP; simp only [std, I64]; omega
    cbv
    refine ⟨ho, _, hrow, ?_⟩
    cbv
    intro β6
    cbv
    by_cases hf : nfit ⟨kd, pn, t⟩ = 0
    · have hf' := hf
      simp only [nfit] at hf'
      have hok' : ∀ p ∈ pre ++ [⟨kd, pn, t⟩], nfit p = 0 := by intro p hp; rcases List.mem_append.1 hp with hp | hp; exact hok p hp; simp at hp; subst hp; exact hf
      repeat' (first
        | (refine br_cases (fun h => ?_) (fun h => ?_) <;> try cbv)
        | (refine And.intro (by assumption) ?_; try cbv))
      all_goals first
        | (exfalso; clear hR hrow ho ho2; subst hP; simp [std, nc] at *; grind)
        | (refine ⟨_, Ent.refl _, ⟨_, pre ++ [⟨kd, pn, t⟩], rest, by simp [hd], ?_, hok'⟩, ⟨rfl, rfl, rfl, rfl, trivial⟩, trivial, by simp⟩
           clear hR hrow ho ho2; subst hP; simp [std, hk])
    · have hnc : nchk l = nfit ⟨kd, pn, t⟩ := by rw [hd, nchk_app _ _ hok, nchk, if_neg hf]
      have hres : normF l = ([], nfit ⟨kd, pn, t⟩) := by rw [normF, if_neg (by omega), hnc, if_neg hf]
      rw [hr] at hres
      cases hres
      repeat' (first
        | (refine br_cases (fun h => ?_) (fun h => ?_) <;> try cbv))
      all_goals first
        | (exfalso; clear hR hrow ho ho2; subst hP; simp [std, nc] at *; simp [nfit] at hf; grind)
        | (refine (hR _ ?_).1 _ _ (Ent.refl _) rfl (by simpa using hrr)
           clear hR hrow ho ho2; subst hP; simp [std, nc] at *; simp only [nfit] at *; grind)
  · have hrest : rest = [] := by
      cases rest with
      | nil => rfl
      | cons p rest => exfalso; clear hR hof hpd hdelta; subst hP; simp [std, nc] at h h1 hk; rw [hd] at h1; simp at h1; omega
    subst hrest
    rw [List.append_nil] at hd
    subst hd
    have hnc : nchk l = 0 := by have := nchk_app l [] hok; simpa [nchk] using this
    have k1 := hof hll hnc
    have k2 := hpd hll hnc
    have k3 := hdelta hll hnc
    clear hof hpd hdelta
    cbv
    refine k1 _ _ ?_
    cbv
    refine k2 _ _ ?_
    cbv
    refine k3 _ _ ?_
    clear k1 k2 k3
    cbv
    refine br_cases (fun h => ?_) (fun h => ?_)
    · have hne : cv ≠ 0 := by clear hR; subst hP; simpa [std] using h
      rw [normF, if_neg (by omega), if_pos hnc, ← hcv, if_neg hne] at hr
      cases hr
      cbv
      exact (hR _ rfl).1 _ _ (Ent.refl _) rfl (by simpa using hrr)
    · have hz : cv = 0 := by clear hR; subst hP; simpa [std] using h
      rw [normF, if_neg (by omega), if_pos hnc, ← hcv, if_pos hz] at hr
      cases hr
      cbv
      exact (hR _ rfl).2.2 _ _ _ (Ent.refl _) rfl (by rw [hrr, hmr])
theorem puts_flat (ts : List Tok) : (puts ts).flatten.length ≤ ts.length := by
  induction ts with
  | nil => simp [puts]
  | cons t ts ih =>
    cases t
    · simp only [puts, List.flatten_cons, List.length_append, List.length_nil, List.length_cons]; omega
    · obtain ⟨p, r, h⟩ := puts_ne ts
      simp only [puts, h, consHead, List.flatten_cons, List.length_append, List.length_cons] at *; omega
    · simp only [puts, List.flatten_cons, List.length_append, List.length_nil, List.length_cons]; omega
/-- a delta's places' delta -/
theorem sp_pdT (ts : List Tok) (h : ts.length ≤ 1000000) : Spec Try.prog 106 [.agg [.sl true 1 (strRows (puts ts)), .sl true 1 (boolRows (kepts ts))]] Hp.emp (Is (encParts (mkD ts))) := by
  have := sp_pd (puts ts) (kepts ts) (puts_len ts) (by have := kepts_le ts; omega) (by have := puts_flat ts; omega)
  unfold plD at this
  rw [plRun_eq] at this
  exact this
theorem arg_pl (h : Hp) (ps : List (List UInt8)) (ks : List Bool) : Arg h [] (encPl ps ks) (.agg [.sl true 1 (strRows ps), .sl true 1 (boolRows ks)]) :=
  .agg _ _ rfl fun i v v' a b => by
    match i with
    | 0 => simp at a b; subst a b; exact .weak _ _
    | 1 => simp at a b; subst a b; exact .weak _ _
    | i + 2 => simp at a
theorem pl_ren (ps : List (List UInt8)) (ks : List Bool) : (encPl ps ks).ren (lab []) = encPl ps ks := rfl
theorem toks_le (l : List Part) (h1 : l.length ≤ 1600) (h2 : ∀ p ∈ l, 0 ≤ p.n ∧ p.n ≤ 500 ∧ p.text.length ≤ 500) : (toks l).length ≤ 1000000 := by have := toks_len l h2; omega
theorem mkD_len (ts : List Tok) (h : ts.length ≤ 1000000) : (mkD ts).length ≤ 10000000 := by
  have : ∀ (ts : List Tok) {m : Mk} {j w : Nat}, m.Bd j w → (m.run ts).Bd (j + ts.length) (w + ts.length) := by
    intro ts
    induction ts with
    | nil => intro m j w h; exact h
    | cons t ts ih =>
      intro m j w h
      have h1 : (m.tok t).Bd (j + 1) (w + 1) := by
        cases t
        · exact (h.doKeep 1 (by omega)).mono (by simp) (by omega)
        · exact (h.doPut [_]).mono (by omega) (by simp)
        · exact (h.doCut 1 (by omega)).mono (by simp) (by omega)
      exact (ih h1).mono (by simp; omega) (by simp; omega)
  have := (this ts Mk.bd_new).flush.1
  show (Mk.run Mk.new ts).flush.length ≤ _
  omega
theorem sp_rnorm (l : List Part) (hl : l.length ≤ maxLen) : Spec Try.prog 66 [.sl true 3 (l.map encPart)] Hp.emp (Is (.tup [encParts (normF l).1, .int .i64 (normF l).2])) :=
  spec_frz dOk ok_rnorm fun R hR => vc_rnorm std rfl _ _ l hl _ rfl (encPl (puts (toks l)) (kepts (toks l))) _ rfl _ rfl
    (fun h1 h2 => ansW (sp_rof l h1 fun p hp => nfit_bd (nchk_ok l h2 p hp)) (fun h => .cons (.same _) .nil) rfl)
    (fun h1 h2 => ansW (sp_pdT (toks l) (toks_le l h1 fun p hp => nfit_bd (nchk_ok l h2 p hp))) (fun h => .cons (arg_pl h _ _) .nil) rfl)
    (fun h1 h2 => ansL (sp_rdelta (mkD (toks l)) (by have := mkD_len _ (toks_le l h1 fun p hp => nfit_bd (nchk_ok l h2 p hp)); have : maxLen = 9223372036854775807 := by decide
                                                     omega)) rfl) _ _ rfl _ rfl R fun e2 he => by
    subst he
    exact retSl_of (parts_sz _) (encParts_fz _) (int_fz _) fun s s' he hr => hR s s' he hr

def ac_lpn : AC := .seq (.region false [
    ⟨some 2, none, .mov (.c (.bool false))⟩])
  (.seq (.region false [
    ⟨some 8, none, .mov (.t 0)⟩,
    ⟨some 9, none, .call 65 [(.t 8)]⟩,
    ⟨some 7, none, .mov (.t 9)⟩,
    ⟨some 10, none, .ext 0 (.t 7)⟩,
    ⟨some 11, none, .ext 1 (.t 7)⟩,
    ⟨some 3, none, .mov (.t 10)⟩,
    ⟨some 4, none, .mov (.t 11)⟩])
  (.seq (.region false [
    ⟨some 13, none, .mov (.t 0)⟩,
    ⟨some 14, none, .call 66 [(.t 13)]⟩,
    ⟨some 12, none, .mov (.t 14)⟩,
    ⟨some 15, none, .ext 0 (.t 12)⟩,
    ⟨some 16, none, .ext 1 (.t 12)⟩,
    ⟨some 5, none, .mov (.t 15)⟩,
    ⟨some 6, none, .mov (.t 16)⟩])
  (.seq (.region false [
    ⟨some 17, none, .mov (.t 3)⟩,
    ⟨some 18, none, .mov (.t 5)⟩,
    ⟨some 19, none, .call 67 [(.t 17), (.t 18)]⟩,
    ⟨some 20, none, .mov (.t 19)⟩,
    ⟨some 21, some (20, true), .mov (.t 4)⟩,
    ⟨some 22, some (20, true), .mov (.t 6)⟩,
    ⟨some 23, some (20, true), .bin .eql (.t 21) (.t 22)⟩,
    ⟨some 24, none, .pick (.t 20) (.t 23) (.c (.bool false))⟩,
    ⟨some 2, none, .mov (.t 24)⟩])
  (.ret))))
theorem ok_lpn : FnOk Try.prog 15 Try.f15 ac_lpn [.t 2] 1 drawD := ⟨Try.func15, by decide +kernel, by kernel_rfl, by kernel_rfl, by decide +kernel⟩
theorem vc_lpn (P : Prim) (hP : P = std) (T T1 : CallT) (rows ra : List (List V)) (e : Int) (hc1 : Ans T 65 [.sl false 3 rows] (.tup [.sl false 3 ra, .int .i64 e])) (hc2 : Ans T 66 [.sl false 3 rows] (.tup [.sl false 3 ra, .int .i64 e]))
    (hc3 : Ans T 67 [.sl false 3 ra, .sl false 3 ra] (.bool true))
    (R : S → Prop) (hR : ∀ s s', Ent s s' → Ret [.t 2] [.bool true] s' → R s) : awp P T T1 ac_lpn (S0 [.sl false 3 rows] Hp.emp) R (fun _ _ => False) R := by
  cbv
  repeat' (first | (intro β; try cbv) | (refine And.intro (by assumption) ?_; try cbv) | (refine br_cases (fun h => ?_) (fun h => ?_) <;> try cbv) | (refine Exists.intro _ (And.intro (by assumption) ?_); try cbv) | (refine hc1 _ _ ?_; try cbv) | (refine hc2 _ _ ?_; try cbv) | (refine hc3 _ _ ?_; try cbv) | (refine hc4 _ _ ?_; try cbv) | (refine hc5 _ _ ?_; try cbv) | (refine hc6 _ _ ?_; try cbv) | (refine And.intro (by (clear hR; subst hP; simp [std, I64, nc] at * <;> first | omega | grind)) ?_; try cbv))
  all_goals
    refine hR _ _ (Ent.refl _) ?_
    cbv
    clear hR hc1 hc2 hc3; subst hP; simp [std] at *
theorem ansL2 {f : Nat} {d d2 : List Part} {v : V} (h : Spec Try.prog f [.sl true 3 (d.map encPart), .sl true 3 (d2.map encPart)] Hp.emp (Is v)) (hv : v.ren (lab []) = v) : Ans (CallE Try.prog) f [encParts d, encParts d2] v := ansW h (fun _ => .cons (.weak _ _) (.cons (.weak _ _) .nil)) hv
theorem sp_law_partNorms (d : List Part) (hd : PartsOk d) : Spec Try.prog 15 [encParts d] Hp.emp (Is (.bool true)) :=
  spec_pure dOk ok_lpn [.bool true] (.bool _) fun R hR => vc_lpn std rfl _ _ (d.map encPart) ((normF d).1.map encPart) (normF d).2 (ansL (sp_norm d hd.1) rfl) (ansL (sp_rnorm d hd.1) rfl)
    (by have := ansL2 (sp_same (normF d).1 (normF d).1 (by have := norm_len d; have : maxLen = 9223372036854775807 := by decide
                                                           omega)) rfl
        rwa [decide_eq_true rfl] at this) R hR
end Go.Proofs.Ytdmpbdmgaepndaa.AM
