/-
  hot.Add as a contract, and when two logs are the same. (Printed by gen_hotr3.py.)
-/
import Derived.Test.YtobngncjflogcaaMHotR2
set_option linter.unusedVariables false
set_option linter.unusedSimpArgs false
namespace Go.Proofs.Ytobngncjflogcaa.AM
open Go Go.RowKit
set_option maxRecDepth 100000
set_option maxHeartbeats 2000000
def V.fz2 : V → Bool
  | .own _ _ _ _ => true
  | v => V.fz1 v
theorem fz_all2 : ∀ {l : List V}, l.all V.fz2 = true → ∀ v ∈ l, Fz v
  | [], _, v, h => by cases h
  | a :: l, h, v, hv => by
    simp only [List.all_cons, Bool.and_eq_true] at h
    rcases List.mem_cons.1 hv with rfl | hv
    · have := h.1
      cases v <;> first | exact .int _ _ | exact .str _ | exact .bool _ | exact .nilsl | exact .own _ _ _ _ | (simp [V.fz2, V.fz1] at this)
    · exact fz_all2 h.2 v hv
theorem rowL_fz {gn b : Int} {tx : List UInt8} {fs tb : Nat → Int} {k n : Nat} {ba : Option Nat} {wh : Bool} {gd : Int} (bl : Nat) : (obL bl (rowL gn b tx fs tb (.own k ba 3 n) wh gd)).Fz := by
  intro r hr
  simp only [obL, List.mem_singleton] at hr
  subst hr
  refine fz_all2 ?_
  rfl
theorem obL_ren {gn b : Int} {tx : List UInt8} {fs tb : Nat → Int} {k n : Nat} {ba : Option Nat} {wh : Bool} {gd : Int} (bl : Nat) (f : Nat → Nat) : (obL bl (rowL gn b tx fs tb (.own k ba 3 n) wh gd)).ren f = obL bl (rowL gn b tx fs tb (.own (f k) ba 3 n) wh gd) := rfl
theorem encRevs_fz (l : List Rev) : ∀ r ∈ l.map encRev, ∀ v ∈ r, Fz v := by
  intro r hr v hv
  obtain ⟨x, _, rfl⟩ := List.mem_map.1 hr
  simp [encRev] at hv
  rcases hv with rfl | rfl | rfl
  · exact .int _ _
  · exact .int _ _
  · exact .sl _ _ (encParts_fz _)
theorem encRevs_sz (l : List Rev) : ∀ r ∈ l.map encRev, r.length = 3 := by
  intro r hr; obtain ⟨p, _, rfl⟩ := List.mem_map.1 hr; rfl
theorem obV_ren (ba : Option Nat) (l : List Rev) (f : Nat → Nat) : (obV ba (l.map encRev)).ren f = obV ba (l.map encRev) := by
  simp [Ob.ren, obV, List.map_map, Function.comp_def, encRev, encParts, V.rl]
theorem sp_hadd (bl : Nat) (ba : Option Nat) (gn b gd : Int) (tx : List UInt8) (fs tb : Nat → Int) (wh : Bool) (l : List Rev) (hl : l.length ≤ 100) (r : Rev) (hw : 0 ≤ r.who ∧ r.who ≤ 7) (hb : 0 ≤ b ∧ b ≤ 2147483647) :
    Spec Try.prog 62 [.ptr 0 (some bl) 38 0 0, .agg (encRev r)] (lookH [(0, obL bl (rowL gn b tx fs tb (.own 1 ba 3 l.length) wh gd)), (1, obV ba (l.map encRev))])
    (fun v h' => ∃ L', (v = .tup [] ∧ ∃ ba', L' = [(0, obL bl (rowL gn b tx fs (addTb tb r.who.toNat r.seq (b + (l.length : Int) + 1)) (.own 1 ba' 3 (l.length + 1)) wh gd)), (1, obV ba' ((l ++ [r]).map encRev))]) ∧ h' = lookH L') :=
  spec_meth dOk ok_hadd (L := [(0, obL bl (rowL gn b tx fs tb (.own 1 ba 3 l.length) wh gd)), (1, obV ba (l.map encRev))])
    (fun v L' => v = .tup [] ∧ ∃ ba', L' = [(0, obL bl (rowL gn b tx fs (addTb tb r.who.toNat r.seq (b + (l.length : Int) + 1)) (.own 1 ba' 3 (l.length + 1)) wh gd)), (1, obV ba' ((l ++ [r]).map encRev))]) fun R hR =>
    vc_hadd std rfl _ _ bl ba gn b gd tx fs tb wh l.length (l.map encRev) (by simp) hl r.who.toNat (by omega) r.who r.seq (by omega) (r.delta.map encPart) hb ((l ++ [r]).map encRev) (by simp [encRev, encParts]) (l.length + 1) rfl (b + (l.length : Int) + 1) rfl R
      fun s0 s' ba' tb' r2 n2 htb hr2 hn2 he hr ha => by
        rw [htb 0, htb 1, htb 2, htb 3, htb 4, htb 5, htb 6, htb 7, htb 8, htb 9, htb 10, htb 11, htb 12, htb 13, htb 14, htb 15, hr2, hn2] at ha
        refine hR s0 s' (.tup []) [(0, obL bl (rowL gn b tx fs (addTb tb r.who.toNat r.seq (b + (l.length : Int) + 1)) (.own 1 ba' 3 (l.length + 1)) wh gd)), (1, obV ba' ((l ++ [r]).map encRev))] he hr ha (.tup _ (fun v hv => by cases hv)) (fun p hp => ?_) ⟨rfl, ba', rfl⟩
        rcases List.mem_cons.1 hp with rfl | hp
        · exact rowL_fz bl
        · rw [List.mem_singleton.1 hp]; exact encRevs_fz _
def AddC (T : CallT) : Prop := ∀ (k ka bl : Nat) (ba : Option Nat) (gn b gd : Int) (tx : List UInt8) (fs tb : Nat → Int) (wh : Bool) (n : Nat) (rows : List (List V)) (l : List Rev) (w q : Int) (dr : List (List V)) (r : Rev) (h : Hp) (K : V → Hp → Prop), rows = l.map encRev → n = l.length → l.length ≤ 100 → (w = r.who ∧ q = r.seq ∧ dr = r.delta.map encPart) → 0 ≤ r.who ∧ r.who ≤ 7 → 0 ≤ b ∧ b ≤ 2147483647 → Nat.beq k ka = false →
  h k = some ⟨some bl, 81, 38, [[.int .i64 gn, .int .i64 b, .str tx, .int .i64 (fs 0), .int .i64 (fs 1), .int .i64 (fs 2), .int .i64 (fs 3), .int .i64 (fs 4), .int .i64 (fs 5), .int .i64 (fs 6), .int .i64 (fs 7), .int .i64 (fs 8), .int .i64 (fs 9), .int .i64 (fs 10), .int .i64 (fs 11), .int .i64 (fs 12), .int .i64 (fs 13), .int .i64 (fs 14), .int .i64 (fs 15), .int .i64 (tb 0), .int .i64 (tb 1), .int .i64 (tb 2), .int .i64 (tb 3), .int .i64 (tb 4), .int .i64 (tb 5), .int .i64 (tb 6), .int .i64 (tb 7), .int .i64 (tb 8), .int .i64 (tb 9), .int .i64 (tb 10), .int .i64 (tb 11), .int .i64 (tb 12), .int .i64 (tb 13), .int .i64 (tb 14), .int .i64 (tb 15), .own ka ba 3 n, .bool wh, .int .i64 gd]]⟩ → h ka = some ⟨ba, 45, 3, rows⟩ →
  (∀ (ba' : Option Nat) (tb' : Nat → Int) (n' : Nat) (rows' : List (List V)), tb' = addTb tb r.who.toNat r.seq (b + (l.length : Int) + 1) → n' = l.length + 1 → rows' = (l ++ [r]).map encRev → K (.tup []) (Hp.put (Hp.put h k ⟨some bl, 81, 38, [[.int .i64 gn, .int .i64 b, .str tx, .int .i64 (fs 0), .int .i64 (fs 1), .int .i64 (fs 2), .int .i64 (fs 3), .int .i64 (fs 4), .int .i64 (fs 5), .int .i64 (fs 6), .int .i64 (fs 7), .int .i64 (fs 8), .int .i64 (fs 9), .int .i64 (fs 10), .int .i64 (fs 11), .int .i64 (fs 12), .int .i64 (fs 13), .int .i64 (fs 14), .int .i64 (fs 15), .int .i64 (tb' 0), .int .i64 (tb' 1), .int .i64 (tb' 2), .int .i64 (tb' 3), .int .i64 (tb' 4), .int .i64 (tb' 5), .int .i64 (tb' 6), .int .i64 (tb' 7), .int .i64 (tb' 8), .int .i64 (tb' 9), .int .i64 (tb' 10), .int .i64 (tb' 11), .int .i64 (tb' 12), .int .i64 (tb' 13), .int .i64 (tb' 14), .int .i64 (tb' 15), .own ka ba' 3 n', .bool wh, .int .i64 gd]]⟩) ka ⟨ba', 45, 3, rows'⟩)) →
  T 62 [.ptr k (some bl) 38 0 0, .agg [.int .i64 w, .int .i64 q, .sl false 3 dr]] h K
theorem addC : AddC (CallE Try.prog) := by
  rintro k ka bl ba gn b gd tx fs tb wh n rows l w q dr r h K rfl rfl hl ⟨rfl, rfl, rfl⟩ hw hb hne hk hka hK
  have hne' : k ≠ ka := by intro e; subst e; rw [Nat.beq_refl] at hne; cases hne
  have hne2 : ¬ ka = k := fun e => hne' e.symm
  have hbk : bal [(0, k), (1, ka)] ka = 1 := by simp [bal, hne2, hne']
  have hlk : lab [(0, k), (1, ka)] 1 = ka := by simp [lab]
  refine callG (m := [(0, k), (1, ka)]) (sp_hadd bl ba gn b gd tx fs tb wh l hl r hw hb) (.cons ?_ (.cons ?_ .nil)) (fun j q hj => ?_) (fun p hp => ?_) ?_
  · have := Arg.same (h := h) (m := [(0, k), (1, ka)]) (.ptr k (some bl) 38 0 0)
    simpa [V.ren, V.rl, bal] using this
  · exact Arg.same (.agg (encRev r))
  · simp only [lookH] at hj
    split at hj
    · rename_i h0; exact ⟨(0, k), by simp, h0.symm⟩
    · split at hj
      · rename_i h0; exact ⟨(1, ka), by simp, h0.symm⟩
      · cases hj
  · simp only [List.mem_cons, List.not_mem_nil, or_false] at hp
    rcases hp with rfl | rfl
    · refine ⟨by simp [lab], by simp [bal], fun x hx => ?_⟩
      simp only [lookH, ↓reduceIte, Option.some.injEq] at hx
      subst hx
      refine ⟨?_, rowL_fz bl⟩
      rw [hk, Option.map_some]
      have := obL_ren (gn := gn) (b := b) (tx := tx) (fs := fs) (tb := tb) (k := ka) (n := l.length) (ba := ba) (wh := wh) (gd := gd) bl (bal [(0, k), (1, ka)])
      rw [hbk] at this
      exact congrArg some this
    · refine ⟨by simp [lab], hbk, fun x hx => ?_⟩
      simp [lookH] at hx
      subst hx
      refine ⟨?_, encRevs_fz _⟩
      rw [hka, Option.map_some]
      exact congrArg some (obV_ren ba l _)
  · rintro v L' ⟨rfl, ba', rfl⟩
    have e : h.upd [(0, k), (1, ka)] (lookH [(0, obL bl (rowL gn b tx fs (addTb tb r.who.toNat r.seq (b + (l.length : Int) + 1)) (.own 1 ba' 3 (l.length + 1)) wh gd)), (1, obV ba' ((l ++ [r]).map encRev))]) =
        Hp.put (Hp.put h k (obL bl (rowL gn b tx fs (addTb tb r.who.toNat r.seq (b + (l.length : Int) + 1)) (.own ka ba' 3 (l.length + 1)) wh gd))) ka (obV ba' ((l ++ [r]).map encRev)) := by
      funext i
      simp only [Hp.upd, Hp.put, List.any_cons, List.any_nil, Bool.or_false, Bool.or_eq_true, decide_eq_true_eq]
      by_cases h1 : ka = i
      · subst h1
        rw [if_pos (.inr rfl), if_pos rfl, hbk]
        show (some (obV ba' ((l ++ [r]).map encRev))).map (Ob.ren (lab [(0, k), (1, ka)])) = _
        rw [Option.map_some, obV_ren]
      · by_cases h2 : k = i
        · subst h2
          rw [if_pos (.inl rfl), if_neg (fun e => h1 e.symm), if_pos rfl]
          have hb0 : bal [(0, k), (1, ka)] k = 0 := by simp [bal]
          rw [hb0]
          show (some (obL bl (rowL gn b tx fs (addTb tb r.who.toNat r.seq (b + (l.length : Int) + 1)) (.own 1 ba' 3 (l.length + 1)) wh gd))).map (Ob.ren (lab [(0, k), (1, ka)])) = _
          rw [Option.map_some, obL_ren, hlk]
        · rw [if_neg (by rintro (h | h); exact h2 h; exact h1 h), if_neg (fun e => h1 e.symm), if_neg (fun e => h2 e.symm)]
    rw [e]
    exact hK ba' _ _ _ rfl rfl rfl
/-! the same -/
def ac_srv : AC := .seq (.region false [
    ⟨some 2, none, .box 45 3 (.t 0)⟩,
    ⟨some 3, none, .box 45 3 (.t 1)⟩,
    ⟨some 4, none, .mov (.c (.bool false))⟩])
  (.seq (.region false [
    ⟨some 5, none, .faddr 0 (.t 2)⟩,
    ⟨some 6, none, .load1 (.t 5)⟩,
    ⟨some 7, none, .faddr 0 (.t 3)⟩,
    ⟨some 8, none, .load1 (.t 7)⟩,
    ⟨some 9, none, .bin .eql (.t 6) (.t 8)⟩,
    ⟨some 10, none, .mov (.t 9)⟩,
    ⟨some 11, some (10, true), .faddr 1 (.t 2)⟩,
    ⟨some 12, some (10, true), .load1 (.t 11)⟩,
    ⟨some 13, some (10, true), .faddr 1 (.t 3)⟩,
    ⟨some 14, some (10, true), .load1 (.t 13)⟩,
    ⟨some 15, some (10, true), .bin .eql (.t 12) (.t 14)⟩,
    ⟨some 16, none, .pick (.t 10) (.t 15) (.c (.bool false))⟩,
    ⟨some 17, none, .mov (.t 16)⟩,
    ⟨some 18, some (17, true), .faddr 2 (.t 2)⟩,
    ⟨some 19, some (17, true), .load1 (.t 18)⟩,
    ⟨some 20, some (17, true), .faddr 2 (.t 3)⟩,
    ⟨some 21, some (17, true), .load1 (.t 20)⟩,
    ⟨some 22, some (17, true), .call 109 [(.t 19), (.t 21)]⟩,
    ⟨some 23, none, .pick (.t 17) (.t 22) (.c (.bool false))⟩,
    ⟨some 4, none, .mov (.t 23)⟩])
  (.ret))
theorem ok_srv : FnOk Try.prog 80 Try.f80 ac_srv [.t 4] 2 drawD := ⟨Try.func80, by decide +kernel, by kernel_rfl, by kernel_rfl, by decide +kernel⟩
theorem vc_srv (P : Prim) (hP : P = std) (T T1 : CallT) (w q : Int) (dr : List (List V)) (h1 : Ans T 109 [.sl false 3 dr, .sl false 3 dr] (.bool true))
    (R : S → Prop) (hR : ∀ s s', Ent s s' → Ret [.t 4] [.bool true] s' → R s) : awp P T T1 ac_srv (S0 [.agg [.int .i64 w, .int .i64 q, .sl false 3 dr], .agg [.int .i64 w, .int .i64 q, .sl false 3 dr]] Hp.emp) R (fun _ _ => False) R := by
  cbv
  intro β
  cbv
  repeat' (first
    | (refine And.intro (by first | assumption | decide) ?_; try cbv)
    | (intro β2; try cbv))
  refine br_tt (eq_T hP rfl) ?_
  cbv
  repeat' (first
    | (refine And.intro (by first | assumption | decide) ?_; try cbv)
    | (intro β2; try cbv))
  refine br_tt (eq_T hP rfl) ?_
  cbv
  repeat' (first
    | (refine And.intro (by first | assumption | decide) ?_; try cbv)
    | (intro β2; try cbv))
  refine h1 _ _ ?_
  cbv
  repeat' (first
    | (refine And.intro (by first | assumption | decide) ?_; try cbv)
    | (intro β2; try cbv))
  exact hR _ _ (Ent.refl _) rfl
theorem sp_srv (r : Rev) (hr : r.delta.length ≤ 10000000) : Spec Try.prog 80 [.agg (encRev r), .agg (encRev r)] Hp.emp (Is (.bool true)) :=
  spec_pure dOk ok_srv [.bool true] (.bool _) fun R hR => vc_srv std rfl _ _ r.who r.seq (r.delta.map encPart) (same_self r.delta hr) R hR
def ac_eqr : AC := .seq (.region false [
    ⟨some 6, none, .mov (.c (.bool false))⟩])
  (.seq (.seq (.region false [
    ⟨some 10, none, .mov (.t 0)⟩,
    ⟨some 11, none, .len false (.t 10)⟩,
    ⟨some 12, none, .mov (.t 1)⟩,
    ⟨some 13, none, .len false (.t 12)⟩,
    ⟨some 14, none, .bin .neq (.t 11) (.t 13)⟩])
  (.cond (.t 14)
    (.seq (.region false [
      ⟨some 6, none, .mov (.c (.bool false))⟩])
    (.ret))
    (.skip)))
  (.seq (.seq (.region false [
    ⟨some 15, none, .mov (.t 0)⟩,
    ⟨some 16, none, .len false (.t 15)⟩,
    ⟨some 17, none, .mov (.c (.int .i64 0))⟩])
  (.block 0 (.loop (.seq (.region false [
      ⟨some 18, none, .bin .lss (.t 17) (.t 16)⟩])
    (.seq (.cond (.t 18)
      (.skip)
      (.exit 0))
    (.seq (.block 1 (.seq (.region false [
      ⟨some 19, none, .mov (.t 17)⟩,
      ⟨some 20, none, .iaddr 3 (.t 15) (.t 17)⟩,
      ⟨some 21, none, .loadn 3 (.t 20)⟩,
      ⟨some 8, none, .alloc 45 [(.int .i64 0), (.int .i64 0), (.slice none 0 0)]⟩,
      ⟨some 7, none, .mov (.t 19)⟩,
      ⟨none, none, .store 3 (.t 8) (.t 21)⟩])
    (.seq (.region false [
      ⟨some 22, none, .mov (.t 1)⟩,
      ⟨some 23, none, .mov (.t 7)⟩,
      ⟨some 24, none, .iaddr 3 (.t 22) (.t 23)⟩,
      ⟨some 25, none, .loadn 3 (.t 24)⟩,
      ⟨some 9, none, .alloc 45 [(.int .i64 0), (.int .i64 0), (.slice none 0 0)]⟩,
      ⟨none, none, .store 3 (.t 9) (.t 25)⟩])
    (.seq (.region false [
      ⟨some 26, none, .mov (.t 2)⟩,
      ⟨some 27, none, .loadn 3 (.t 8)⟩,
      ⟨some 28, none, .loadn 3 (.t 9)⟩,
      ⟨some 29, none, .callv (.t 26) [(.t 27), (.t 28)]⟩,
      ⟨some 30, none, .not (.t 29)⟩])
    (.cond (.t 30)
      (.seq (.region false [
        ⟨some 6, none, .mov (.c (.bool false))⟩])
      (.ret))
      (.skip))))))
    (.region false [
      ⟨some 31, none, .bin .add (.t 17) (.c (.int .i64 1))⟩,
      ⟨some 17, none, .mov (.t 31)⟩])))))))
  (.seq (.region false [
    ⟨some 6, none, .mov (.c (.bool true))⟩])
  (.ret))))
theorem ok_eqr : FnOk Try.prog 79 Try.f79 ac_eqr [.t 6] 3 drawD := ⟨Try.func79, by decide +kernel, by kernel_rfl, by kernel_rfl, by decide +kernel⟩
structure YEr (rows : List (List V)) where
  k : Int
  m : Nat
  hk : k = (m : Int)
  hm : m ≤ rows.length
theorem vc_eqr (P : Prim) (hP : P = std) (T T1 : CallT) (f : Nat) (rows : List (List V)) (hl : rows.length ≤ 10000000) (hf : ∀ r ∈ rows, ∃ a b dr, r = [.int .i64 a, .int .i64 b, .sl false 3 dr] ∧ Ans T f [.agg [.int .i64 a, .int .i64 b, .sl false 3 dr], .agg [.int .i64 a, .int .i64 b, .sl false 3 dr]] (.bool true))
    (R : S → Prop) (hR : ∀ s s', Ent s s' → Ret [.t 6] [.bool true] s' → R s) : awp P T T1 ac_eqr (S0 [.sl true 3 rows, .sl true 3 rows, .fn f []] Hp.emp) R (fun _ _ => False) R := by
  have h1 : P.rlen rows = (rows.length : Int) := rlen_eq hP rows
  cbv
  refine br_ff (ne_F hP rfl) ?_
  cbv
  refine ⟨YEr rows, fun y => [(1, .sl true 3 rows), (2, .fn f []), (15, .sl true 3 rows), (16, .int .i64 (P.rlen rows)), (17, .int .i64 y.k)], fun _ => [], fun y => rows.length - y.m,
    ⟨_, Ent.refl _, ⟨0, 0, rfl, Nat.zero_le _⟩, ⟨rfl, rfl, rfl, rfl, rfl, trivial⟩, trivial⟩, ?_⟩
  rintro ⟨k, m, hk, hm⟩
  cbv
  refine br_cases (fun h => ?_) (fun h => ?_)
  · have h5 : k < P.rlen rows := lt_t hP h
    rw [h1] at h5
    have hml : m < rows.length := by ((try simp only [nc] at *); omega)
    obtain ⟨r, hr⟩ : ∃ r, rows[m]? = some r := ⟨_, List.getElem?_eq_getElem hml⟩
    obtain ⟨a, b, dr, rfl, hx⟩ := hf r (List.mem_of_getElem? hr)
    have hrow : P.row rows (P.nat k) [.int .i64 a, .int .i64 b, .sl false 3 dr] := row_of hP hk hr
    have q1 : P.leP 0 k := le0 hP (by ((try simp only [nc] at *); omega))
    have q2 : P.i64 (P.add k 1) := by rw [add_eq hP]; exact i64I hP (by ((try simp only [nc] at *); omega))
    have q3 : P.add k 1 = ((m + 1 : Nat) : Int) := by rw [add_eq hP, hk]; simp
    cbv
    repeat' (first
      | (refine And.intro (by first | assumption | decide) ?_; try cbv)
      | (intro β2; try cbv))
    refine ⟨_, hrow, ?_⟩
    cbv
    repeat' (first
      | (refine And.intro (by first | assumption | decide) ?_; try cbv)
      | (intro β2; try cbv))
    refine ⟨_, hrow, ?_⟩
    cbv
    repeat' (first
      | (refine And.intro (by first | assumption | decide) ?_; try cbv)
      | (intro β2; try cbv))
    refine hx _ _ ?_
    cbv
    repeat' (first
      | (refine And.intro (by first | assumption | decide) ?_; try cbv)
      | (intro β2; try cbv))
    refine ⟨_, Ent.refl _, ⟨_, m + 1, q3, hml⟩, ⟨rfl, rfl, rfl, rfl, rfl, trivial⟩, trivial, ?_⟩
    show rows.length - (m + 1) < rows.length - m; omega
  · cbv
    exact hR _ _ (Ent.refl _) rfl
theorem sp_eqr (l : List Rev) (hl : l.length ≤ 10000000) (hd : ∀ r ∈ l, r.delta.length ≤ 10000000) : Spec Try.prog 79 [.sl true 3 (l.map encRev), .sl true 3 (l.map encRev), .fn 80 []] Hp.emp (Is (.bool true)) :=
  spec_pure dOk ok_eqr [.bool true] (.bool _) fun R hR => vc_eqr std rfl _ _ 80 (l.map encRev) (by simpa using hl) (fun x hx => by
    obtain ⟨r, h1, rfl⟩ := List.mem_map.1 hx
    exact ⟨_, _, _, rfl, ansW (sp_srv r (hd r h1)) (fun _ => .cons (.same _) (.cons (.same _) .nil)) rfl⟩) R hR
def ac_srs : AC := .seq (.region false [
    ⟨some 4, none, .mov (.c (.bool false))⟩])
  (.seq (.region false [
    ⟨some 5, none, .mov (.t 0)⟩,
    ⟨some 6, none, .mov (.t 1)⟩,
    ⟨some 7, none, .call 79 [(.t 5), (.t 6), (.c (.func (.func 80) #[] #[]))]⟩,
    ⟨some 4, none, .mov (.t 7)⟩])
  (.ret))
theorem ok_srs : FnOk Try.prog 47 Try.f47 ac_srs [.t 4] 2 drawD := ⟨Try.func47, by decide +kernel, by kernel_rfl, by kernel_rfl, by decide +kernel⟩
theorem vc_srs (P : Prim) (hP : P = std) (T T1 : CallT) (rows : List (List V)) (h1 : Ans T 79 [.sl true 3 rows, .sl true 3 rows, .fn 80 []] (.bool true))
    (R : S → Prop) (hR : ∀ s s', Ent s s' → Ret [.t 4] [.bool true] s' → R s) : awp P T T1 ac_srs (S0 [.sl true 3 rows, .sl true 3 rows] Hp.emp) R (fun _ _ => False) R := by
  cbv
  refine h1 _ _ ?_
  cbv
  exact hR _ _ (Ent.refl _) rfl
theorem fn_sameR {h : Hp} (f : Nat) : Arg h [] (.fn f []) (.fn f []) := .same (.fn f [])
theorem sp_srs (l : List Rev) (hl : l.length ≤ 10000000) (hd : ∀ r ∈ l, r.delta.length ≤ 10000000) : Spec Try.prog 47 [.sl true 3 (l.map encRev), .sl true 3 (l.map encRev)] Hp.emp (Is (.bool true)) :=
  spec_pure dOk ok_srs [.bool true] (.bool _) fun R hR => vc_srs std rfl _ _ (l.map encRev) (ansW (sp_eqr l hl hd) (fun _ => .cons (.same _) (.cons (.same _) (.cons (fn_sameR _) .nil))) rfl) R hR
theorem and16 {P : Prim} (hP : P = std) (f : Nat → Int) : P.and (P.eq (f 0) (f 0)) (P.and (P.eq (f 1) (f 1)) (P.and (P.eq (f 2) (f 2)) (P.and (P.eq (f 3) (f 3)) (P.and (P.eq (f 4) (f 4)) (P.and (P.eq (f 5) (f 5)) (P.and (P.eq (f 6) (f 6)) (P.and (P.eq (f 7) (f 7)) (P.and (P.eq (f 8) (f 8)) (P.and (P.eq (f 9) (f 9)) (P.and (P.eq (f 10) (f 10)) (P.and (P.eq (f 11) (f 11)) (P.and (P.eq (f 12) (f 12)) (P.and (P.eq (f 13) (f 13)) (P.and (P.eq (f 14) (f 14)) (P.eq (f 15) (f 15)))))))))))))))) = true := by
  rw [eq_T hP (rfl : f 0 = f 0), eq_T hP (rfl : f 1 = f 1), eq_T hP (rfl : f 2 = f 2), eq_T hP (rfl : f 3 = f 3), eq_T hP (rfl : f 4 = f 4), eq_T hP (rfl : f 5 = f 5), eq_T hP (rfl : f 6 = f 6), eq_T hP (rfl : f 7 = f 7), eq_T hP (rfl : f 8 = f 8), eq_T hP (rfl : f 9 = f 9), eq_T hP (rfl : f 10 = f 10), eq_T hP (rfl : f 11 = f 11), eq_T hP (rfl : f 12 = f 12), eq_T hP (rfl : f 13 = f 13), eq_T hP (rfl : f 14 = f 14), eq_T hP (rfl : f 15 = f 15)]
  subst hP; rfl
end Go.Proofs.Ytobngncjflogcaa.AM
