/-
  From one revision to a later one: part.Idle, revs.Between, the document's, and the law RevsBetweens.
-/
import Derived.Test.YtcdldpjmdelebaaMBtw
set_option linter.unusedVariables false
set_option linter.unusedSimpArgs false
namespace Go.Proofs.Ytcdldpjmdelebaa.AM
open Go
set_option maxRecDepth 100000
set_option maxHeartbeats 2000000
/-! nothing changed -/
theorem callE_ent {P : Program} (f : Nat) (vs : List V) (h h' : Hp) (K : V → Hp → Prop) (he : HEnt h h') (hc : CallE P f vs h' K) : CallE P f vs h K := by
  obtain ⟨h0, h1, h2⟩ := hc
  exact ⟨h0, fun C F w hC hs => h1 C F w hC (he C F w hC hs), h2⟩
def ac_idle : AC := .seq (.region false [
    ⟨some 2, none, .mov (.c (.slice none 0 0))⟩])
  (.seq (.region false [
    ⟨some 3, none, .alloc 161 [(.slice none 0 0), (.string ⟨#[]⟩), (.int .i64 0)]⟩])
  (.seq (.region false [
    ⟨some 4, none, .mov (.t 0)⟩,
    ⟨some 5, none, .call 100 [(.t 3), (.t 4)]⟩])
  (.seq (.region false [
    ⟨some 6, none, .call 102 [(.t 3)]⟩,
    ⟨some 2, none, .mov (.t 6)⟩])
  (.ret))))
theorem ok_idle : FnOk Try.prog 65 Try.f65 ac_idle [.t 2] 1 drawD := ⟨Try.func65, by decide +kernel, by kernel_rfl, by kernel_rfl, by decide +kernel⟩
theorem vc_idle (P : Prim) (hP : P = std) (T T1 : CallT) (n : Int) (m : List Part) (hm : (Mk.new.doKeep n).flush = m) (hl : ((Mk.new.doKeep n)).out.length ≤ 100000000)
    (hpre : ∀ f vs h h' K, HEnt h h' → T f vs h' K → T f vs h K)
    (hkeep : MkC T 100 [.int .i64 n] (fun m => ∃ j w, m.Bd j w ∧ j ≤ 2000000) (fun m => m.doKeep n) unitR)
    (hdone : MkC T 102 [] (fun m => m.out.length ≤ 100000000) (fun m => ⟨m.flush, [], 0⟩) doneR)
    (R : S → Prop) (hR : RetSl [.t 2] 3 (m.map encPart) [] R) : awp P T T1 ac_idle (S0 [.int .i64 n] Hp.emp) R (fun _ _ => False) R := by
  cbv
  intro β
  cbv
  refine hpre _ _ _ _ _ (HEnt.nilcell (k := 3) (k' := 1000999) (ty := 112) (sz := 3) (r := 0) (c := 0) rfl rfl rfl rfl) ?_
  refine hkeep _ _ _ _ _ _ _ _ Mk.new _ _ ⟨rfl, rfl, rfl, rfl⟩ ⟨0, 0, Mk.bd_new, by omega⟩ rfl rfl rfl fun ba' n' put' cut' rows' hm' => ?_
  cbv
  refine hdone _ _ _ _ _ _ _ _ _ _ _ hm' hl rfl rfl rfl fun ba2 n2 put2 cut2 rows2 hm2 => ?_
  obtain ⟨hn2, hr2, _, _⟩ := hm2
  cbv
  refine hR.2.1 _ _ _ _ _ _ _ (Ent.refl _) rfl rfl ⟨?_, ?_⟩
  · rw [hn2, List.length_map]; exact congrArg List.length hm
  · rw [hr2]; exact congrArg (List.map encPart) hm
theorem doKeep_len (n : Int) : (Mk.new.doKeep n).out.length ≤ 1 := by
  unfold Mk.doKeep
  split
  · simp [Mk.new]
  · simp [Mk.new, Mk.flush, addKeep]
theorem mkD_id (n : Nat) : (Mk.new.doKeep (n : Int)).flush = mkD (idT n) := by
  unfold mkD idT
  rw [Mk.run_keep]
theorem idle_eq (n : Nat) : mkD (idT n) = if n = 0 then [] else [⟨1, n, []⟩] := by
  rw [← mkD_id]
  cases n with
  | zero => rfl
  | succ n =>
    rw [if_neg (by omega)]
    unfold Mk.doKeep
    rw [if_neg (by omega)]
    simp [Mk.new, Mk.flush, addKeep]
theorem sp_idle (n : Nat) (hn : n ≤ 1000000) : Spec Try.prog 65 [.int .i64 n] Hp.emp (Is (encParts (mkD (idT n)))) :=
  spec_frz dOk ok_idle fun R hR => vc_idle std rfl _ _ n _ (mkD_id n) (by have := doKeep_len n; omega) callE_ent (keepC n (by omega)) doneC R (retSl_of (parts_sz _) (encParts_fz _) (by simp) hR)
def ac_rall : AC := .seq (.region false [
    ⟨some 2, none, .mov (.c (.slice none 0 0))⟩])
  (.seq (.seq (.region false [
    ⟨some 3, none, .mov (.t 0)⟩,
    ⟨some 4, none, .bin .eql (.t 3) (.c (.int .i64 0))⟩])
  (.cond (.t 4)
    (.seq (.region false [
      ⟨some 2, none, .mov (.c (.slice none 0 0))⟩])
    (.ret))
    (.skip)))
  (.seq (.region false [
    ⟨some 5, none, .mov (.t 0)⟩,
    ⟨some 6, none, .build [(.int .i64 0), (.int .i64 0), (.string ⟨#[]⟩)] [(0, 1, (.c (.int .i64 1))), (1, 1, (.t 5))]⟩,
    ⟨some 7, none, .bslice 112 3 [(.t 6)]⟩,
    ⟨some 2, none, .mov (.t 7)⟩])
  (.ret)))
theorem ok_rall : FnOk Try.prog 67 Try.f67 ac_rall [.t 2] 1 drawD := ⟨Try.func67, by decide +kernel, by kernel_rfl, by kernel_rfl, by decide +kernel⟩
theorem vc_rall (P : Prim) (hP : P = std) (T T1 : CallT) (n : Int) (rows : List (List V)) (h0 : n = 0 → rows = []) (h1 : n ≠ 0 → rows = [[.int .i64 1, .int .i64 n, .str []]])
    (R : S → Prop) (hR : RetSl [.t 2] 3 rows [] R) : awp P T T1 ac_rall (S0 [.int .i64 n] Hp.emp) R (fun _ _ => False) R := by
  cbv
  refine br_cases (fun h => ?_) (fun h => ?_)
  · cbv
    exact hR.1 _ _ (Ent.refl _) rfl (h0 (eq_t hP h))
  · have hr := h1 (eq_f hP h)
    cbv
    repeat' first | (refine And.intro (by assumption) ?_; try cbv) | (intro β; try cbv)
    exact hR.2.1 _ _ _ _ _ _ _ (Ent.refl _) rfl rfl ⟨by rw [hr]; rfl, by rw [hr]⟩
theorem sp_rall (n : Nat) (hn : n ≤ 1000000) : Spec Try.prog 67 [.int .i64 n] Hp.emp (Is (encParts (mkD (idT n)))) :=
  spec_frz dOk ok_rall fun R hR => vc_rall std rfl _ _ n _ (fun h => by rw [idle_eq, if_pos (by omega)]; rfl) (fun h => by rw [idle_eq, if_neg (by omega)]; rfl) R (retSl_of (parts_sz _) (encParts_fz _) (by simp) hR)
/-! Between -/
def ac_btw : AC := .seq (.region false [
    ⟨some 8, none, .mov (.c (.slice none 0 0))⟩,
    ⟨some 9, none, .mov (.c (.int .i64 0))⟩])
  (.seq (.region false [
    ⟨some 16, none, .mov (.t 0)⟩,
    ⟨some 17, none, .mov (.t 1)⟩,
    ⟨some 18, none, .call 64 [(.t 16), (.t 17)]⟩,
    ⟨some 15, none, .mov (.t 18)⟩,
    ⟨some 19, none, .ext 0 (.t 15)⟩,
    ⟨some 20, none, .ext 1 (.t 15)⟩,
    ⟨some 10, none, .mov (.t 19)⟩,
    ⟨some 11, none, .mov (.t 20)⟩])
  (.seq (.seq (.region false [
    ⟨some 21, none, .mov (.t 11)⟩,
    ⟨some 22, none, .bin .neq (.t 21) (.c (.int .i64 0))⟩])
  (.cond (.t 22)
    (.seq (.region false [
      ⟨some 23, none, .mov (.t 11)⟩,
      ⟨some 8, none, .mov (.c (.slice none 0 0))⟩,
      ⟨some 9, none, .mov (.t 23)⟩])
    (.ret))
    (.skip)))
  (.seq (.seq (.region false [
    ⟨some 24, none, .mov (.t 2)⟩,
    ⟨some 25, none, .bin .lss (.t 24) (.c (.int .i64 0))⟩,
    ⟨some 26, none, .mov (.t 25)⟩,
    ⟨some 27, some (26, false), .mov (.t 3)⟩,
    ⟨some 28, some (26, false), .mov (.t 1)⟩,
    ⟨some 29, some (26, false), .len false (.t 28)⟩,
    ⟨some 30, some (26, false), .bin .gtr (.t 27) (.t 29)⟩,
    ⟨some 31, none, .pick (.t 26) (.c (.bool true)) (.t 30)⟩,
    ⟨some 32, none, .mov (.t 31)⟩,
    ⟨some 33, some (32, false), .mov (.t 2)⟩,
    ⟨some 34, some (32, false), .mov (.t 3)⟩,
    ⟨some 35, some (32, false), .bin .gtr (.t 33) (.t 34)⟩,
    ⟨some 36, none, .pick (.t 32) (.c (.bool true)) (.t 35)⟩])
  (.cond (.t 36)
    (.seq (.region false [
      ⟨some 8, none, .mov (.c (.slice none 0 0))⟩,
      ⟨some 9, none, .mov (.c (.int .i64 1))⟩])
    (.ret))
    (.skip)))
  (.seq (.region false [
    ⟨some 37, none, .mov (.t 10)⟩,
    ⟨some 38, none, .mov (.t 2)⟩,
    ⟨some 39, none, .iaddr 1 (.t 37) (.t 38)⟩,
    ⟨some 40, none, .load1 (.t 39)⟩,
    ⟨some 41, none, .len true (.t 40)⟩,
    ⟨some 42, none, .call 65 [(.t 41)]⟩,
    ⟨some 12, none, .mov (.t 42)⟩])
  (.seq (.seq (.region false [
    ⟨some 43, none, .mov (.t 1)⟩,
    ⟨some 44, none, .mov (.t 2)⟩,
    ⟨some 45, none, .mov (.t 3)⟩,
    ⟨some 46, none, .slsl 3 (.t 43) (some (.t 44)) (some (.t 45))⟩,
    ⟨some 47, none, .len false (.t 46)⟩,
    ⟨some 48, none, .mov (.c (.int .i64 0))⟩])
  (.block 0 (.loop (.seq (.region false [
      ⟨some 49, none, .bin .lss (.t 48) (.t 47)⟩])
    (.seq (.cond (.t 49)
      (.skip)
      (.exit 0))
    (.seq (.block 1 (.seq (.region false [
      ⟨some 50, none, .iaddr 3 (.t 46) (.t 48)⟩,
      ⟨some 51, none, .loadn 3 (.t 50)⟩,
      ⟨some 14, none, .alloc 98 [(.int .i64 0), (.int .i64 0), (.slice none 0 0)]⟩,
      ⟨none, none, .store 3 (.t 14) (.t 51)⟩])
    (.seq (.region false [
      ⟨some 53, none, .mov (.t 12)⟩,
      ⟨some 54, none, .faddr 2 (.t 14)⟩,
      ⟨some 55, none, .load1 (.t 54)⟩,
      ⟨some 56, none, .call 54 [(.t 53), (.t 55)]⟩,
      ⟨some 52, none, .mov (.t 56)⟩,
      ⟨some 57, none, .ext 0 (.t 52)⟩,
      ⟨some 58, none, .ext 1 (.t 52)⟩,
      ⟨some 12, none, .mov (.t 57)⟩,
      ⟨some 11, none, .mov (.t 58)⟩])
    (.seq (.region false [
      ⟨some 59, none, .mov (.t 11)⟩,
      ⟨some 60, none, .bin .neq (.t 59) (.c (.int .i64 0))⟩])
    (.cond (.t 60)
      (.seq (.region false [
        ⟨some 61, none, .mov (.t 11)⟩,
        ⟨some 8, none, .mov (.c (.slice none 0 0))⟩,
        ⟨some 9, none, .mov (.t 61)⟩])
      (.ret))
      (.skip))))))
    (.region false [
      ⟨some 62, none, .bin .add (.t 48) (.c (.int .i64 1))⟩,
      ⟨some 48, none, .mov (.t 62)⟩])))))))
  (.seq (.region false [
    ⟨some 63, none, .mov (.t 12)⟩,
    ⟨some 8, none, .mov (.t 63)⟩,
    ⟨some 9, none, .mov (.c (.int .i64 0))⟩])
  (.ret)))))))
theorem ok_btw : FnOk Try.prog 22 Try.f22 ac_btw [.t 8, .t 9] 4 drawD := ⟨Try.func22, by decide +kernel, by kernel_rfl, by kernel_rfl, by decide +kernel⟩
structure YBt (res : List Part × Int) (l : List Rev) where
  j : Int
  pre : List Rev
  rest : List Rev
  x : List Part
  e : Int
  hd : l = pre ++ rest
  hj : j = (pre.length : Int)
  hx : x.length ≤ 10000000
  hr : lF x rest = res
theorem vc_btw (P : Prim) (hP : P = std) (T T1 : CallT) (base s : List UInt8) (l : List Rev) (i k : Int) (eP : List Part → List (List V)) (rows tr : List (List V)) (hrows : rows = revRows eP l) (c : Int) (x0 : List Part)
    (mC : List Part → List Part → List Part) (mE : List Part → List Part → Int) (hmC : ∀ d x, mC d x = (compF d x).1) (hmE : ∀ d x, mE d x = (compF d x).2)
    (hc1 : Ans T 64 [.str base, .sl true 3 rows] (.tup [.sl false 1 tr, .int .i64 c])) (hlen : c = 0 → l.length ≤ 64)
    (htr : c = 0 → 0 ≤ i → i ≤ k → k ≤ l.length → P.row tr (P.nat i) [.str s] ∧ Ans T 65 [.int .i64 (P.slen s)] (.sl false 3 (eP x0)))
    (hcomp : ∀ w q d x, ⟨w, q, d⟩ ∈ l → x.length ≤ 10000000 → Ans T 54 [.sl false 3 (eP x), .sl false 3 (eP d)] (.tup [.sl false 3 (eP (mC x d)), .int .i64 (mE x d)]))
    (hx0 : x0.length ≤ 10000000) (heP : eP [] = [])
    (r : List Part) (re : Int) (g1 : c ≠ 0 → r = [] ∧ c = re) (g2 : c = 0 → i < 0 ∨ (l.length : Int) < k ∨ k < i → r = [] ∧ 1 = re) (g3 : c = 0 → 0 ≤ i → i ≤ k → k ≤ l.length → lF x0 ((l.take k.toNat).drop i.toNat) = (r, re) ∧ re = 0)
    (R : S → Prop) (hR : ∀ x, x = re → RetSl [.t 8, .t 9] 3 (eP r) [.int .i64 x] R) : awp P T T1 ac_btw (S0 [.str base, .sl true 3 rows, .int .i64 i, .int .i64 k] Hp.emp) R (fun _ _ => False) R := by
  have hl1 : P.rlen rows = (l.length : Int) := by rw [rlen_eq hP, hrows]; simp [revRows]
  cbv
  refine hc1 _ _ ?_
  clear hc1
  cbv
  refine br_cases (fun h => ?_) (fun h => ?_)
  · have hz := ne_t hP h
    obtain ⟨q1, q2⟩ := g1 hz
    cbv
    exact (hR _ q2).1 _ _ (Ent.refl _) rfl (by rw [q1, heP])
  have hz := ne_f hP h
  have hl64 := hlen hz
  have bad : i < 0 ∨ (l.length : Int) < k ∨ k < i → ∀ s, Ret [.t 8, .t 9] [.nilsl, .int .i64 1] s → R s := fun hb s hs => by
    obtain ⟨q1, q2⟩ := g2 hz hb
    exact (hR _ q2).1 _ _ (Ent.refl _) hs (by rw [q1, heP])
  clear hlen g1 g2
  cbv
  refine br_cases (fun h => ?_) (fun h => ?_)
  · have hi : i < 0 := lt_t hP h
    cbv
    exact bad (.inl hi) _ rfl
  have hi : ¬ i < 0 := lt_f hP h
  cbv
  refine br_cases (fun h => ?_) (fun h => ?_)
  · have hk : P.rlen rows < k := lt_t hP h
    rw [hl1] at hk
    cbv
    exact bad (.inr (.inl hk)) _ rfl
  have hk : ¬ P.rlen rows < k := lt_f hP h
  rw [hl1] at hk
  cbv
  refine br_cases (fun h => ?_) (fun h => ?_)
  · have hik : k < i := lt_t hP h
    cbv
    exact bad (.inr (.inr hik)) _ rfl
  have hik : ¬ k < i := lt_f hP h
  obtain ⟨ht1, ht2⟩ := htr hz (by omega) (by omega) (by omega)
  obtain ⟨hres, hre⟩ := g3 hz (by omega) (by omega) (by omega)
  clear htr g3 bad h
  have ho2 : P.leP 0 i := le0 hP (by omega)
  have ho3 : P.leP i k := leI hP (by omega)
  have ho4 : P.leP k (P.rlen rows) := leI hP (by rw [hl1]; omega)
  have hsub : P.rsub rows i k = revRows eP ((l.take k.toNat).drop i.toNat) := by
    subst hP; show (rows.take k.toNat).drop i.toNat = _
    rw [hrows]; simp [revRows]
  generalize hsb : P.rsub rows i k = sub at hsub
  have hm2 : ∀ r ∈ (l.take k.toNat).drop i.toNat, r ∈ l := fun r hr => List.mem_of_mem_take (List.mem_of_mem_drop hr)
  have hl264 : ((l.take k.toNat).drop i.toNat).length ≤ 64 := by rw [List.length_drop, List.length_take]; omega
  generalize (l.take k.toNat).drop i.toNat = l2 at hres hsub hm2 hl264
  have hl2 : P.rlen sub = (l2.length : Int) := by rw [rlen_eq hP, hsub]; simp [revRows]
  cbv
  refine ⟨ho2, _, ht1, ?_⟩
  cbv
  refine ht2 _ _ ?_
  cbv
  refine ⟨ho2, ho3, ho4, ?_⟩
  refine ⟨YBt (r, re) l2, fun y => [(11, .int .i64 y.e), (12, .sl false 3 (eP y.x)), (46, .sl true 3 sub), (47, .int .i64 (P.rlen sub)), (48, .int .i64 y.j)], fun y => [], fun y => y.rest.length,
    ⟨_, Ent.refl _, ⟨0, [], l2, x0, c, rfl, rfl, hx0, hres⟩, ⟨rfl, rfl, by rw [← hsb]; rfl, by rw [← hsb]; rfl, rfl, trivial⟩, trivial⟩, ?_⟩
  rintro ⟨j, pre, rest, x, e, hd, hj, hx, hr⟩
  have hlp : pre.length + rest.length = l2.length := by rw [hd]; simp
  cbv
  refine br_cases (fun h => ?_) (fun h => ?_)
  · have h5 : j < P.rlen sub := lt_t hP h
    rw [hl2] at h5
    rcases rest with _ | ⟨⟨w, q, d⟩, rest⟩
    · exfalso; simp at hlp; ((try simp only [nc] at *); omega)
    have hmem : (⟨w, q, d⟩ : Rev) ∈ l := hm2 _ (by rw [hd]; simp)
    have c1 := hcomp w q d x hmem hx
    have hrow2 : P.row sub (P.nat j) [.int .i64 w, .int .i64 q, .sl false 3 (eP d)] := row_of hP hj (by rw [hsub, revRows, List.getElem?_map, hd]; simp)
    have q1 : P.leP 0 j := le0 hP (by ((try simp only [nc] at *); omega))
    have q2 : P.i64 (P.add j 1) := by rw [add_eq hP]; exact i64I hP (by ((try simp only [nc] at *); omega))
    have hr' : (if mE x d ≠ 0 then ([], mE x d) else lF (mC x d) rest) = (r, re) := by rw [hmE, hmC]; exact hr
    have hxl : (mC x d).length ≤ 10000000 := by rw [hmC]; exact comp_len x d
    clear hcomp
    cbv
    refine ⟨q1, _, hrow2, ?_⟩
    cbv
    intro β14
    cbv
    refine c1 _ _ ?_
    cbv
    refine br_cases (fun h => ?_) (fun h => ?_)
    · have hy := ne_t hP h
      rw [if_pos hy] at hr'
      simp only [Prod.mk.injEq] at hr'
      cbv
      exact (hR _ hr'.2).1 _ _ (Ent.refl _) rfl (by rw [← hr'.1, heP])
    · have hy := ne_f hP h
      rw [if_neg (fun h => h hy)] at hr'
      cbv
      refine ⟨q2, ?_⟩
      refine ⟨_, Ent.refl _, ⟨_, pre ++ [⟨w, q, d⟩], rest, mC x d, mE x d, by simp [hd], ?_, hxl, hr'⟩, ⟨rfl, rfl, rfl, rfl, rfl, trivial⟩, trivial, by simp⟩
      show P.add j 1 = _; rw [add_eq hP, hj]; simp
  · have h5 : ¬ j < P.rlen sub := lt_f hP h
    rw [hl2] at h5
    rcases rest with _ | ⟨y, rest⟩
    rotate_left
    · exfalso; simp at hlp; ((try simp only [nc] at *); omega)
    have hr1 : x = r ∧ 0 = re := by simpa [lF] using hr
    cbv
    exact (hR _ hr1.2).2.2 _ _ _ (Ent.refl _) rfl (by show eP x = eP r; rw [hr1.1])
theorem id_len (n : Nat) : (mkD (idT n)).length ≤ 10000000 := by
  rw [idle_eq]; split <;> simp
theorem btw_lF {base : List UInt8} {l : List Rev} {i k : Int} (h : (textsF base l).2 = 0) (h1 : 0 ≤ i) (h2 : i ≤ k) (h3 : k ≤ l.length) : lF (mkD (idT (txt base l i.toNat).length)) ((l.take k.toNat).drop i.toNat) = ((btwF base l i k).1, (btwF base l i k).2) ∧ (btwF base l i k).2 = 0 := by
  have hb : btwF base l i k = (mkD (rT ((l.take k.toNat).drop i.toNat) (txt base l k.toNat).length), 0) := by
    unfold btwF; rw [if_neg (fun g => g h), if_neg (by omega)]
  rw [lF_id _ _ _ (btw_chain h h1 h2 h3), hb]
  exact ⟨rfl, rfl⟩
theorem txt_row {base : List UInt8} {l : List Rev} {i : Int} (h : (textsF base l).2 = 0) (h1 : 0 ≤ i) (h3 : i ≤ l.length) : std.row (strRows (textsF base l).1) (std.nat i) [.str (txt base l i.toNat)] :=
  row_of rfl (i := i.toNat) (by omega) (by
    have := textsF_row (base := base) (l := l) (k := i) h h1 h3
    rw [strRows, List.getElem?_map, this]; rfl)
theorem txt_le {base : List UInt8} {l : List Rev} {i : Int} (h : (textsF base l).2 = 0) (h1 : 0 ≤ i) (h3 : i ≤ l.length) : (txt base l i.toNat).length ≤ 500 := (chain_le (btw_chain h h1 (Int.le_refl _) h3)).1
theorem sp_btw (base : List UInt8) (l : List Rev) (i k : Int) (hl : RevsOk l) : Spec Try.prog 22 [.str base, .sl true 3 (l.map encRev), .int .i64 i, .int .i64 k] Hp.emp (Is (.tup [encParts (btwF base l i k).1, .int .i64 (btwF base l i k).2])) :=
  spec_frz dOk ok_btw fun R hR => vc_btw std rfl _ _ base (txt base l i.toNat) l i k (fun d => d.map encPart) _ (strRows (textsF base l).1) rfl (textsF base l).2 (mkD (idT (txt base l i.toNat).length))
    (fun d x => (compF d x).1) (fun d x => (compF d x).2) (fun _ _ => rfl) (fun _ _ => rfl) (ansW (sp_texts base l hl) (fun h => .cons (.same _) (.cons (.same _) .nil)) rfl) (fun h => (textsF_ok h).2.1)
    (fun he h1 h2 h3 => ⟨txt_row he h1 (by omega), ansW (sp_idle _ (by have := txt_le (base := base) (l := l) he h1 (by omega); omega)) (fun h => .cons (.same _) .nil) rfl⟩)
    (fun w q d x hm hx => ansSame (sp_comp x d (len_of hx) (hl.2 _ hm).2.2.1) rfl rfl) (id_len _) rfl (btwF base l i k).1 (btwF base l i k).2
    (fun h => by unfold btwF; rw [if_pos h]; exact ⟨rfl, rfl⟩) (fun h h' => by unfold btwF; rw [if_neg (fun g => g h), if_pos h']; exact ⟨rfl, rfl⟩)
    (fun h h1 h2 h3 => btw_lF h h1 h2 h3) R (parts_ret hR)
/-! the document's -/
def ac_rbtw : AC := .seq (.region false [
    ⟨some 8, none, .mov (.c (.slice none 0 0))⟩])
  (.seq (.region false [
    ⟨some 14, none, .mov (.t 0)⟩,
    ⟨some 15, none, .mov (.t 1)⟩,
    ⟨some 16, none, .call 23 [(.t 14), (.t 15)]⟩,
    ⟨some 13, none, .mov (.t 16)⟩,
    ⟨some 17, none, .ext 0 (.t 13)⟩,
    ⟨some 18, none, .ext 1 (.t 13)⟩,
    ⟨some 9, none, .mov (.t 17)⟩,
    ⟨some 10, none, .mov (.t 18)⟩])
  (.seq (.region false [
    ⟨some 19, none, .mov (.t 9)⟩,
    ⟨some 20, none, .mov (.t 3)⟩,
    ⟨some 21, none, .iaddr 1 (.t 19) (.t 20)⟩,
    ⟨some 22, none, .load1 (.t 21)⟩,
    ⟨some 23, none, .len true (.t 22)⟩,
    ⟨some 24, none, .call 67 [(.t 23)]⟩,
    ⟨some 11, none, .mov (.t 24)⟩])
  (.seq (.seq (.region false [
    ⟨some 25, none, .mov (.t 3)⟩,
    ⟨some 26, none, .bin .sub (.t 25) (.c (.int .i64 1))⟩,
    ⟨some 12, none, .mov (.t 26)⟩])
  (.block 0 (.loop (.seq (.seq (.region false [
      ⟨some 27, none, .mov (.t 12)⟩,
      ⟨some 28, none, .mov (.t 2)⟩,
      ⟨some 29, none, .bin .geq (.t 27) (.t 28)⟩])
    (.cond (.t 29)
      (.skip)
      (.exit 0)))
    (.seq (.block 1 (.region false [
      ⟨some 33, none, .mov (.t 1)⟩,
      ⟨some 34, none, .mov (.t 12)⟩,
      ⟨some 35, none, .iaddr 3 (.t 33) (.t 34)⟩,
      ⟨some 36, none, .faddr 2 (.t 35)⟩,
      ⟨some 37, none, .load1 (.t 36)⟩,
      ⟨some 38, none, .mov (.t 11)⟩,
      ⟨some 39, none, .call 20 [(.t 37), (.t 38)]⟩,
      ⟨some 32, none, .mov (.t 39)⟩,
      ⟨some 40, none, .ext 0 (.t 32)⟩,
      ⟨some 41, none, .ext 1 (.t 32)⟩,
      ⟨some 11, none, .mov (.t 40)⟩]))
    (.region false [
      ⟨some 30, none, .mov (.t 12)⟩,
      ⟨some 31, none, .bin .sub (.t 30) (.c (.int .i64 1))⟩,
      ⟨some 12, none, .mov (.t 31)⟩]))))))
  (.seq (.region false [
    ⟨some 42, none, .mov (.t 11)⟩,
    ⟨some 8, none, .mov (.t 42)⟩])
  (.ret)))))
theorem ok_rbtw : FnOk Try.prog 24 Try.f24 ac_rbtw [.t 8] 4 drawD := ⟨Try.func24, by decide +kernel, by kernel_rfl, by kernel_rfl, by decide +kernel⟩
structure YRb (D : Nat → List Part) (i k : Nat) where
  n : Int
  m : Nat
  x : List Part
  hn : n = (m : Int) - 1
  h1 : i ≤ m
  h2 : m ≤ k
  hx : D m = x
theorem vc_rbtw (P : Prim) (hP : P = std) (T T1 : CallT) (base s : List UInt8) (l : List Rev) (i k : Nat) (eP : List Part → List (List V)) (rows tr : List (List V)) (hrows : rows = revRows eP l) (c : Int) (D : Nat → List Part)
    (mE : Nat → Int)
    (hc1 : Ans T 23 [.str base, .sl true 3 rows] (.tup [.sl false 1 tr, .int .i64 c])) (hlen : l.length ≤ 64) (hik : i ≤ k) (hkl : k ≤ l.length)
    (htr : P.row tr (P.nat k) [.str s]) (hall : Ans T 67 [.int .i64 (P.slen s)] (.sl false 3 (eP (D k))))
    (hcomp : ∀ (m : Nat) (w q : Int) (d : List Part), l[m]? = some ⟨w, q, d⟩ → i ≤ m → m < k → Ans T 20 [.sl false 3 (eP d), .sl false 3 (eP (D (m + 1)))] (.tup [.sl false 3 (eP (D m)), .int .i64 (mE m)]))
    (R : S → Prop) (hR : RetSl [.t 8] 3 (eP (D i)) [] R) : awp P T T1 ac_rbtw (S0 [.str base, .sl true 3 rows, .int .i64 i, .int .i64 k] Hp.emp) R (fun _ _ => False) R := by
  have hl1 : P.rlen rows = (l.length : Int) := by rw [rlen_eq hP, hrows]; simp [revRows]
  have ho1 : P.leP 0 (k : Int) := le0 hP (by omega)
  have ho2 : P.i64 (P.sub k 1) := by rw [sub_eq hP]; exact i64I hP (by omega)
  cbv
  refine hc1 _ _ ?_
  clear hc1
  cbv
  refine ⟨ho1, _, htr, ?_⟩
  cbv
  refine hall _ _ ?_
  cbv
  refine ⟨ho2, ?_⟩
  refine ⟨YRb D i k, fun y => [(1, .sl true 3 rows), (2, .int .i64 (i : Int)), (11, .sl false 3 (eP y.x)), (12, .int .i64 y.n)], fun y => [], fun y => y.m,
    ⟨_, Ent.refl _, ⟨P.sub k 1, k, D k, by rw [sub_eq hP], hik, Nat.le_refl _, rfl⟩, ⟨rfl, rfl, rfl, rfl, trivial⟩, trivial⟩, ?_⟩
  rintro ⟨n, m, x, hn, h1, h2, hx⟩
  cbv
  refine br_cases (fun h => ?_) (fun h => ?_)
  · have h5 : (i : Int) ≤ n := le_t hP h
    obtain ⟨m, rfl⟩ : ∃ m', m = m' + 1 := ⟨m - 1, by ((try simp only [nc] at *); omega)⟩
    have hlm : l[m]? = some (l[m]'(by omega)) := List.getElem?_eq_getElem (by omega)
    obtain ⟨⟨w, q, d⟩, hd⟩ : ∃ r, l[m]? = some r := ⟨_, hlm⟩
    have c1 := hcomp m w q d hd (by ((try simp only [nc] at *); omega)) (by omega)
    rw [hx] at c1
    have hrow2 : P.row rows (P.nat n) [.int .i64 w, .int .i64 q, .sl false 3 (eP d)] := row_of hP (i := m) (by ((try simp only [nc] at *); omega)) (by rw [hrows, revRows, List.getElem?_map, hd]; rfl)
    have q1 : P.leP 0 n := le0 hP (by ((try simp only [nc] at *); omega))
    have q2 : P.i64 (P.sub n 1) := by rw [sub_eq hP]; exact i64I hP (by ((try simp only [nc] at *); omega))
    have q3 : P.sub n 1 = (m : Int) - 1 := by rw [sub_eq hP]; ((try simp only [nc] at *); omega)
    clear hcomp
    cbv
    refine ⟨q1, _, hrow2, ?_⟩
    cbv
    refine c1 _ _ ?_
    cbv
    refine ⟨q2, ?_⟩
    refine ⟨_, Ent.refl _, ⟨_, m, D m, q3, by ((try simp only [nc] at *); omega), by omega, rfl⟩, ⟨rfl, rfl, rfl, rfl, trivial⟩, trivial, by simp⟩
  · have h5 : ¬ (i : Int) ≤ n := le_f hP h
    have : m = i := by ((try simp only [nc] at *); omega)
    subst this
    cbv
    exact hR.2.2 _ _ _ (Ent.refl _) rfl (by show eP x = _; rw [← hx])
theorem take_drop_cons {l : List Rev} {m k : Nat} {r : Rev} (h : l[m]? = some r) (hk : m < k) : (l.take k).drop m = r :: (l.take k).drop (m + 1) := by
  have h1 : (l.take k)[m]? = some r := by rw [List.getElem?_take, if_pos hk, h]
  obtain ⟨h2, h3⟩ := List.getElem?_eq_some_iff.1 h1
  rw [List.drop_eq_getElem_cons h2, h3]
theorem btw_len (base : List UInt8) (l : List Rev) (i k : Int) : (btwF base l i k).1.length ≤ 10000000 := by
  unfold btwF
  split
  · simp
  · rename_i h
    split
    · simp
    · rename_i h2
      have hc := btw_chain (base := base) (l := l) (i := i) (k := k) (Decidable.of_not_not h) (by omega) (by omega) (by omega)
      have h3 := checkF_mkD (rT ((l.take k.toNat).drop i.toNat) (txt base l k.toNat).length) (by have := chain_le hc; rw [(rT_sz hc).1]; omega) (by have := chain_le hc; rw [(rT_sz hc).2]; omega)
      have := (checkF_all h3).1
      simp only []
      omega
theorem rT_ck {base : List UInt8} {l : List Rev} {i k : Nat} (h : (textsF base l).2 = 0) (h2 : i ≤ k) (h3 : k ≤ l.length) : chainL (txt base l i).length ((l.take k).drop i) (txt base l k).length := by
  have := btw_chain (base := base) (l := l) (i := i) (k := k) h (by omega) (by omega) (by omega)
  simpa using this
theorem mkd_len {ts : List Tok} {a b : Nat} {l : List Rev} (hc : chainL a l b) (hts : ts = rT l b) : (mkD ts).length ≤ 10000000 := by
  subst hts
  have h3 := checkF_mkD (rT l b) (by have := chain_le hc; rw [(rT_sz hc).1]; omega) (by have := chain_le hc; rw [(rT_sz hc).2]; omega)
  have := (checkF_all h3).1
  omega
theorem sp_rbtw (base : List UInt8) (l : List Rev) (i k : Nat) (hl : RevsOk l) (he : (textsF base l).2 = 0) (hik : i ≤ k) (hk : k ≤ l.length) : Spec Try.prog 24 [.str base, .sl true 3 (l.map encRev), .int .i64 i, .int .i64 k] Hp.emp (Is (encParts (btwF base l i k).1)) := by
  have hb : (btwF base l i k).1 = mkD (rT ((l.take k).drop i) (txt base l k).length) := by
    unfold btwF; rw [if_neg (fun g => g he), if_neg (by omega)]; simp
  rw [hb]
  refine spec_frz dOk ok_rbtw fun R hR => vc_rbtw std rfl _ _ base (txt base l k) l i k (fun d => d.map encPart) _ (strRows (textsF base l).1) rfl (textsF base l).2 (fun m => mkD (rT ((l.take k).drop m) (txt base l k).length)) (fun _ => 0)
    (ansW (sp_rtexts base l hl) (fun h => .cons (.same _) (.cons (.same _) .nil)) rfl) (textsF_ok he).2.1 hik hk
    (by have := txt_row (base := base) (l := l) (i := k) he (by omega) (by omega); simpa using this) ?_ (fun m w q d hd h1 h2 => ?_) R (retSl_of (parts_sz _) (encParts_fz _) (by simp) hR)
  · have : (l.take k).drop k = [] := by simp
    rw [this]
    have h5 := (chain_le (rT_ck he hik hk)).2
    exact ansW (sp_rall (txt base l k).length (by omega)) (fun h => .cons (.same _) .nil) rfl
  · have hc := rT_ck (base := base) (l := l) (i := m) (k := k) he (by omega) hk
    have hc2 := rT_ck (base := base) (l := l) (i := m + 1) (k := k) he (by omega) hk
    rw [take_drop_cons hd h2] at hc ⊢
    have := rF_step _ _ _ _ hc
    have h7 := ansSame (sp_rcomp d (mkD (rT ((l.take k).drop (m + 1)) (txt base l k).length)) (hl.2 _ (List.mem_of_getElem? hd)).2.2.1 (len_of (mkd_len hc2 rfl))) rfl rfl
    rw [this] at h7
    exact h7
/-! the law -/
def ac_lbtw : AC := .seq (.region false [
    ⟨some 8, none, .mov (.c (.bool false))⟩])
  (.seq (.region false [
    ⟨some 14, none, .mov (.t 0)⟩,
    ⟨some 15, none, .mov (.t 1)⟩,
    ⟨some 16, none, .mov (.t 2)⟩,
    ⟨some 17, none, .mov (.t 3)⟩,
    ⟨some 18, none, .call 22 [(.t 14), (.t 15), (.t 16), (.t 17)]⟩,
    ⟨some 13, none, .mov (.t 18)⟩,
    ⟨some 19, none, .ext 0 (.t 13)⟩,
    ⟨some 20, none, .ext 1 (.t 13)⟩,
    ⟨some 9, none, .mov (.t 19)⟩,
    ⟨some 10, none, .mov (.t 20)⟩])
  (.seq (.region false [
    ⟨some 22, none, .mov (.t 0)⟩,
    ⟨some 23, none, .mov (.t 1)⟩,
    ⟨some 24, none, .call 23 [(.t 22), (.t 23)]⟩,
    ⟨some 21, none, .mov (.t 24)⟩,
    ⟨some 25, none, .ext 0 (.t 21)⟩,
    ⟨some 26, none, .ext 1 (.t 21)⟩,
    ⟨some 11, none, .mov (.t 25)⟩,
    ⟨some 12, none, .mov (.t 26)⟩])
  (.seq (.seq (.region false [
    ⟨some 27, none, .mov (.t 12)⟩,
    ⟨some 28, none, .bin .eql (.t 27) (.c (.int .i64 0))⟩,
    ⟨some 29, none, .mov (.t 28)⟩,
    ⟨some 30, some (29, true), .mov (.t 2)⟩,
    ⟨some 31, some (29, true), .bin .lss (.t 30) (.c (.int .i64 0))⟩,
    ⟨some 32, some (29, true), .mov (.t 31)⟩,
    ⟨some 33, some (32, false), .mov (.t 2)⟩,
    ⟨some 34, some (32, false), .mov (.t 3)⟩,
    ⟨some 35, some (32, false), .bin .gtr (.t 33) (.t 34)⟩,
    ⟨some 36, some (29, true), .pick (.t 32) (.c (.bool true)) (.t 35)⟩,
    ⟨some 37, some (29, true), .mov (.t 36)⟩,
    ⟨some 38, some (37, false), .mov (.t 3)⟩,
    ⟨some 39, some (37, false), .mov (.t 1)⟩,
    ⟨some 40, some (37, false), .len false (.t 39)⟩,
    ⟨some 41, some (37, false), .bin .gtr (.t 38) (.t 40)⟩,
    ⟨some 42, some (29, true), .pick (.t 37) (.c (.bool true)) (.t 41)⟩,
    ⟨some 43, none, .pick (.t 29) (.t 42) (.c (.bool false))⟩])
  (.cond (.t 43)
    (.region false [
      ⟨some 12, none, .mov (.c (.int .i64 1))⟩])
    (.skip)))
  (.seq (.seq (.region false [
    ⟨some 44, none, .mov (.t 12)⟩,
    ⟨some 45, none, .bin .neq (.t 44) (.c (.int .i64 0))⟩])
  (.cond (.t 45)
    (.seq (.region false [
      ⟨some 46, none, .mov (.t 10)⟩,
      ⟨some 47, none, .mov (.t 12)⟩,
      ⟨some 48, none, .bin .eql (.t 46) (.t 47)⟩,
      ⟨some 49, none, .mov (.t 48)⟩,
      ⟨some 50, some (49, true), .mov (.t 9)⟩,
      ⟨some 51, some (49, true), .len false (.t 50)⟩,
      ⟨some 52, some (49, true), .bin .eql (.t 51) (.c (.int .i64 0))⟩,
      ⟨some 53, none, .pick (.t 49) (.t 52) (.c (.bool false))⟩,
      ⟨some 8, none, .mov (.t 53)⟩])
    (.ret))
    (.skip)))
  (.seq (.region false [
    ⟨some 54, none, .mov (.t 10)⟩,
    ⟨some 55, none, .bin .eql (.t 54) (.c (.int .i64 0))⟩,
    ⟨some 56, none, .mov (.t 55)⟩,
    ⟨some 57, some (56, true), .mov (.t 9)⟩,
    ⟨some 58, some (56, true), .mov (.t 0)⟩,
    ⟨some 59, some (56, true), .mov (.t 1)⟩,
    ⟨some 60, some (56, true), .mov (.t 2)⟩,
    ⟨some 61, some (56, true), .mov (.t 3)⟩,
    ⟨some 62, some (56, true), .call 24 [(.t 58), (.t 59), (.t 60), (.t 61)]⟩,
    ⟨some 63, some (56, true), .call 21 [(.t 57), (.t 62)]⟩,
    ⟨some 64, none, .pick (.t 56) (.t 63) (.c (.bool false))⟩,
    ⟨some 8, none, .mov (.t 64)⟩])
  (.ret))))))
theorem ok_lbtw : FnOk Try.prog 6 Try.f6 ac_lbtw [.t 8] 4 drawD := ⟨Try.func6, by decide +kernel, by kernel_rfl, by kernel_rfl, by decide +kernel⟩
theorem vc_lbtw (P : Prim) (hP : P = std) (T T1 : CallT) (base : List UInt8) (i k n c e : Int) (rows tr dr : List (List V)) (hn : P.rlen rows = n)
    (h1 : Ans T 22 [.str base, .sl false 3 rows, .int .i64 i, .int .i64 k] (.tup [.sl false 3 dr, .int .i64 e])) (h2 : Ans T 23 [.str base, .sl false 3 rows] (.tup [.sl false 1 tr, .int .i64 c]))
    (h3 : c = 0 → 0 ≤ i → i ≤ k → k ≤ n → Ans T 24 [.str base, .sl false 3 rows, .int .i64 i, .int .i64 k] (.sl false 3 dr)) (h4 : Ans T 21 [.sl false 3 dr, .sl false 3 dr] (.bool true))
    (g1 : c ≠ 0 → dr = [] ∧ e = c) (g2 : c = 0 → i < 0 ∨ n < k ∨ k < i → dr = [] ∧ e = 1) (g3 : c = 0 → 0 ≤ i → i ≤ k → k ≤ n → e = 0)
    (R : S → Prop) (hR : ∀ s s' b, b = true → Ent s s' → Ret [.t 8] [.bool b] s' → R s) : awp P T T1 ac_lbtw (S0 [.str base, .sl false 3 rows, .int .i64 i, .int .i64 k] Hp.emp) R (fun _ _ => False) R := by
  have n1 : P.ne 1 0 = true := ne_T hP (by decide)
  cbv
  refine h1 _ _ ?_
  cbv
  refine h2 _ _ ?_
  clear h1 h2
  cbv
  by_cases hc : c = 0
  · refine br_tt (eq_T hP hc) ?_
    cbv
    by_cases hk : i < 0 ∨ n < k ∨ k < i
    · obtain ⟨q1, q2⟩ := g2 hc hk
      have fin : P.eq e 1 = true ∧ P.eq (P.rlen dr) 0 = true := ⟨eq_T hP q2, eq_T hP (by rw [rlen_eq hP, q1]; rfl)⟩
      have last : ∀ s s' : S, Ent s s' → Ret [.t 8] [.bool (P.eq (P.rlen dr) 0)] s' → R s := fun s s' he hr => hR s s' _ fin.2 he hr
      by_cases hk1 : i < 0
      · refine br_tt (lt_T hP hk1) ?_
        cbv
        refine br_tt n1 ?_
        cbv
        refine br_tt fin.1 ?_
        cbv
        exact last _ _ (Ent.refl _) rfl
      · refine br_ff (lt_F hP hk1) ?_
        cbv
        by_cases hk2 : k < i
        · refine br_tt (lt_T hP hk2) ?_
          cbv
          refine br_tt n1 ?_
          cbv
          refine br_tt fin.1 ?_
          cbv
          exact last _ _ (Ent.refl _) rfl
        · have hk3 : n < k := by omega
          rw [← hn] at hk3
          refine br_ff (lt_F hP hk2) ?_
          cbv
          refine br_tt (lt_T hP hk3) ?_
          cbv
          refine br_tt n1 ?_
          cbv
          refine br_tt fin.1 ?_
          cbv
          exact last _ _ (Ent.refl _) rfl
    · have hk1 : ¬ i < 0 := fun h => hk (.inl h)
      have hk2 : ¬ n < k := fun h => hk (.inr (.inl h))
      have hk3 : ¬ k < i := fun h => hk (.inr (.inr h))
      have f3 := h3 hc (by omega) (by omega) (by omega)
      have f4 := g3 hc (by omega) (by omega) (by omega)
      rw [← hn] at hk2
      refine br_ff (lt_F hP hk1) ?_
      cbv
      refine br_ff (lt_F hP hk3) ?_
      cbv
      refine br_ff (lt_F hP hk2) ?_
      cbv
      refine br_ff (ne_F hP hc) ?_
      cbv
      refine br_tt (eq_T hP f4) ?_
      cbv
      refine f3 _ _ ?_
      cbv
      refine h4 _ _ ?_
      cbv
      exact hR _ _ _ rfl (Ent.refl _) rfl
  · obtain ⟨q1, q2⟩ := g1 hc
    have fin : P.eq e c = true ∧ P.eq (P.rlen dr) 0 = true := ⟨eq_T hP q2, eq_T hP (by rw [rlen_eq hP, q1]; rfl)⟩
    refine br_ff (eq_F hP hc) ?_
    cbv
    refine br_tt (ne_T hP hc) ?_
    cbv
    refine br_tt fin.1 ?_
    cbv
    exact hR _ _ _ fin.2 (Ent.refl _) rfl
theorem sp_law_revsBetweens (base : List UInt8) (l : List Rev) (i k : Int) (_ : base.length ≤ maxLen) (hl : RevsOk l) (hi : I64 i) (hk : I64 k) : Spec Try.prog 6 [.str base, encRevs l, .int .i64 i, .int .i64 k] Hp.emp (Is (.bool true)) :=
  spec_pure dOk ok_lbtw [.bool true] (.bool _) fun R hR => vc_lbtw std rfl _ _ base i k l.length (textsF base l).2 (btwF base l i k).2 (l.map encRev) (strRows (textsF base l).1) ((btwF base l i k).1.map encPart) (by show ((l.map encRev).length : Int) = _; simp)
    (ansStr (sp_btw base l i k hl) rfl rfl) (ansStr (sp_rtexts base l hl) rfl rfl) (fun h h1 h2 h3 => by
      obtain ⟨a, rfl⟩ : ∃ a : Nat, i = a := ⟨i.toNat, by omega⟩
      obtain ⟨b, rfl⟩ : ∃ b : Nat, k = b := ⟨k.toNat, by omega⟩
      exact ansStr (sp_rbtw base l a b hl h (by omega) (by omega)) rfl rfl) (same_self _ (btw_len base l i k))
    (fun h => by unfold btwF; rw [if_pos h]; exact ⟨rfl, rfl⟩) (fun h h' => by unfold btwF; rw [if_neg (fun g => g h), if_pos h']; exact ⟨rfl, rfl⟩)
    (fun h h1 h2 h3 => by unfold btwF; rw [if_neg (fun g => g h), if_neg (by omega)])
    R fun s s' b h he hr => by subst h; exact hR s s' he hr
end Go.Proofs.Ytcdldpjmdelebaa.AM
