/-
  Blocks that cover an interval: the document's Covers, and the law TierCovers.
-/
import Derived.Test.YtlomnjlfmbolkaaMTier
import Derived.Test.YtlomnjlfmbolkaaMNorm2
set_option linter.unusedVariables false
set_option linter.unusedSimpArgs false
namespace Go.Proofs.Ytlomnjlfmbolkaa.AM
open Go
set_option maxRecDepth 100000
set_option maxHeartbeats 2000000
/-- what a call made, frozen -/
theorem spec_freeze {P : Program} {f : Nat} {args : List V} {post : V → List (Nat × Ob) → Prop} {v' : V} (hs : Spec P f args Hp.emp (fun v h' => ∃ L', post v L' ∧ h' = lookH L')) (hf : ∀ v L', post v L' → Fr (lookH L') v v') : Spec P f args Hp.emp (Is v') := by
  refine ⟨hs.fn, fun C us hC hl hr hh => Calls.mono (hs.run C us hC hl hr hh) ?_⟩
  rintro e w' ⟨u, v, h', F', rfl, hv, hh, L', hp, rfl⟩
  refine ⟨u, v', Hp.emp, Made F' (lookH L'), rfl, Fr.rel (C := C.nb) hh (hf v L' hp) hv, ⟨fun k o hk => by simp [Hp.emp] at hk, fun k k' o o' b hk => by simp [Hp.emp] at hk, fun k o b hk => by simp [Hp.emp] at hk, fun b hb => ?_, fun b hb => .inl (hh.new b hb), fun b hb => ?_, hh.ev⟩, rfl, rfl⟩
  · rcases hb with hb | ⟨k, o, hk, hb⟩
    · exact hh.old b hb
    · exact .inr (hh.live k o b hk hb).2
  · rcases hb with hb | ⟨k, o, hk, hb⟩
    · exact hh.lt b hb
    · exact (hh.ob k o hk).lt hb
def ac_covs : AC := .seq (.region false [
    ⟨some 4, none, .mov (.c (.slice none 0 0))⟩])
  (.seq (.seq (.region false [
    ⟨some 5, none, .mov (.c (.int .i64 6))⟩])
  (.block 0 (.loop (.seq (.seq (.region false [
      ⟨some 9, none, .mov (.t 5)⟩,
      ⟨some 10, none, .bin .geq (.t 9) (.c (.int .i64 0))⟩])
    (.cond (.t 10)
      (.skip)
      (.exit 0)))
    (.seq (.block 1 (.seq (.region false [
      ⟨some 6, none, .mov (.c (.int .i64 1))⟩])
    (.seq (.seq (.region false [
      ⟨some 13, none, .mov (.t 5)⟩,
      ⟨some 14, none, .mov (.c (.int .i64 0))⟩])
    (.block 2 (.loop (.seq (.region false [
        ⟨some 15, none, .bin .lss (.t 14) (.t 13)⟩])
      (.seq (.cond (.t 15)
        (.skip)
        (.exit 2))
      (.seq (.block 3 (.region false [
        ⟨some 16, none, .mov (.t 6)⟩,
        ⟨some 17, none, .bin .mul (.t 16) (.c (.int .i64 2))⟩,
        ⟨some 6, none, .mov (.t 17)⟩]))
      (.region false [
        ⟨some 18, none, .bin .add (.t 14) (.c (.int .i64 1))⟩,
        ⟨some 14, none, .mov (.t 18)⟩])))))))
    (.seq (.region false [
      ⟨some 19, none, .mov (.t 0)⟩,
      ⟨some 20, none, .mov (.t 6)⟩,
      ⟨some 21, none, .bin .add (.t 19) (.t 20)⟩,
      ⟨some 22, none, .bin .sub (.t 21) (.c (.int .i64 1))⟩,
      ⟨some 23, none, .mov (.t 6)⟩,
      ⟨some 24, none, .bin .quo (.t 22) (.t 23)⟩,
      ⟨some 7, none, .mov (.t 24)⟩])
    (.seq (.region false [
      ⟨some 25, none, .mov (.t 7)⟩,
      ⟨some 26, none, .bin .add (.t 25) (.c (.int .i64 1))⟩,
      ⟨some 27, none, .mov (.t 6)⟩,
      ⟨some 28, none, .bin .mul (.t 26) (.t 27)⟩,
      ⟨some 29, none, .mov (.t 1)⟩,
      ⟨some 30, none, .bin .leq (.t 28) (.t 29)⟩])
    (.cond (.t 30)
      (.seq (.region false [
        ⟨some 31, none, .mov (.t 0)⟩,
        ⟨some 32, none, .mov (.t 7)⟩,
        ⟨some 33, none, .mov (.t 6)⟩,
        ⟨some 34, none, .bin .mul (.t 32) (.t 33)⟩,
        ⟨some 35, none, .call 14 [(.t 31), (.t 34)]⟩,
        ⟨some 8, none, .mov (.t 35)⟩])
      (.seq (.region false [
        ⟨some 36, none, .mov (.t 8)⟩,
        ⟨some 37, none, .mov (.t 5)⟩,
        ⟨some 38, none, .mov (.t 7)⟩,
        ⟨some 39, none, .build [(.int .i64 0), (.int .i64 0)] [(0, 1, (.t 37)), (1, 1, (.t 38))]⟩,
        ⟨some 40, none, .bslice 28 2 [(.t 39)]⟩,
        ⟨some 41, none, .append 28 2 16 (.t 36) (.t 40)⟩,
        ⟨some 8, none, .mov (.t 41)⟩])
      (.seq (.region false [
        ⟨some 42, none, .mov (.t 8)⟩,
        ⟨some 43, none, .mov (.t 7)⟩,
        ⟨some 44, none, .bin .add (.t 43) (.c (.int .i64 1))⟩,
        ⟨some 45, none, .mov (.t 6)⟩,
        ⟨some 46, none, .bin .mul (.t 44) (.t 45)⟩,
        ⟨some 47, none, .mov (.t 1)⟩,
        ⟨some 48, none, .call 14 [(.t 46), (.t 47)]⟩,
        ⟨some 49, none, .append 28 2 16 (.t 42) (.t 48)⟩,
        ⟨some 4, none, .mov (.t 49)⟩])
      (.ret))))
      (.skip)))))))
    (.region false [
      ⟨some 11, none, .mov (.t 5)⟩,
      ⟨some 12, none, .bin .sub (.t 11) (.c (.int .i64 1))⟩,
      ⟨some 5, none, .mov (.t 12)⟩]))))))
  (.seq (.region false [
    ⟨some 4, none, .mov (.c (.slice none 0 0))⟩])
  (.ret)))
theorem ok_covs : FnOk Try.prog 14 Try.f14 ac_covs [.t 4] 2 drawD := ⟨Try.func14, by decide +kernel, by kernel_rfl, by kernel_rfl, by decide +kernel⟩
def obB (β : Option Nat) (rows : List (List V)) : Ob := ⟨β, 28, 2, rows⟩
def CovP (rows : List (List V)) (v : V) (L' : List (Nat × Ob)) : Prop := ∃ β n, v = .own 1000041 β 2 n ∧ L' = [(1000041, obB β rows)] ∧ n = rows.length
def CovC (T : CallT) (i k : Int) (rows : List (List V)) : Prop := ∀ (key : Nat) (h : Hp) (K : V → Hp → Prop), h key = none → (∀ (β : Option Nat) (n : Nat) (rows' : List (List V)), rows' = rows ∧ n = rows.length → K (.own key β 2 n) (Hp.put h key ⟨β, 28, 2, rows'⟩)) → T 14 [.int .i64 i, .int .i64 k] h K
theorem ren_pairs (l : List (Nat × Nat)) (f : Nat → Nat) : (pairRows l).map (·.map (V.rl f)) = pairRows l := by simp [pairRows, List.map_map, Function.comp_def, V.rl]
theorem covC_of {i k : Int} {l : List (Nat × Nat)} (hs : Spec Try.prog 14 [.int .i64 i, .int .i64 k] (lookH []) (fun v h' => ∃ L', CovP (pairRows l) v L' ∧ h' = lookH L')) : CovC (CallE Try.prog) i k (pairRows l) := by
  intro key h K hk hK
  refine callG hs (m := [(1000041, key)]) (.cons (.same _) (.cons (.same _) .nil)) (fun j o hj => by cases hj) (fun q hq => ?_) ?_
  · simp only [List.mem_singleton] at hq
    subst hq
    exact ⟨by simp [lab], by simp [bal], fun o ho => by cases ho⟩
  · rintro v L' ⟨β, n, rfl, rfl, hn⟩
    have e : h.upd [(1000041, key)] (lookH [(1000041, obB β (pairRows l))]) = Hp.put h key (obB β (pairRows l)) := by
      funext i
      by_cases h1 : i = key
      · subst h1; simp [Hp.upd, Hp.put, bal, lookH, Ob.ren, obB, ren_pairs]
      · have h2 : ¬ key = i := fun e => h1 e.symm
        simp [Hp.upd, Hp.put, h1, h2]
    rw [e]
    have : (V.own 1000041 β 2 n).ren (lab [(1000041, key)]) = .own key β 2 n := by simp [V.ren, V.rl, lab]
    rw [this]
    exact hK β n _ ⟨rfl, hn⟩
structure YCl (i k : Nat) where
  m : Nat
  lv : Int
  hlv : lv = (m : Int) - 1
  hm : m ≤ 7
  hl : rlF 7 i k = rlF m i k
structure YPw (m : Nat) where
  j : Nat
  jj : Int
  n : Int
  hjj : jj = (j : Int)
  hj : j ≤ m
  hn : n = ((2 ^ j : Nat) : Int)
theorem vc_covs (P : Prim) (hP : P = std) (T T1 : CallT) (i k : Nat) (hik : i ≤ k) (hk : k ≤ 64) (D : Nat → Nat → List (Nat × Nat)) (l : List (Nat × Nat))
    (hrec : ∀ (a b : Nat), a ≤ b → b ≤ k → i ≤ a → b - a < k - i → CovC T a b (pairRows (D a b)) ∧ (D a b).length ≤ 64)
    (h0 : rlF 7 i k = none → l = []) (h1 : ∀ n, rlF 7 i k = some n → l = (D i ((i + 2 ^ n - 1) / 2 ^ n * 2 ^ n) ++ [(n, (i + 2 ^ n - 1) / 2 ^ n)]) ++ D (((i + 2 ^ n - 1) / 2 ^ n + 1) * 2 ^ n) k)
    (R : S → Prop) (hR : ∀ (s s' : S) (β : Option Nat) (n : Nat) (rows : List (List V)), Ent s s' → resV s' [.t 4] (fun x => oneV x = .own 1000041 β 2 n) → agreeH [(1000041, ⟨β, 28, 2, rows⟩)] s' → rows = pairRows l ∧ n = l.length → R s) : awp P T T1 ac_covs (S0 [.int .i64 i, .int .i64 k] Hp.emp) R (fun _ _ => False) R := by
  cbv
  refine ⟨YCl i k, fun y => [(0, .int .i64 (i : Int)), (1, .int .i64 (k : Int)), (5, .int .i64 y.lv)], fun y => [], fun y => y.m,
    ⟨_, Ent.refl _, ⟨7, 6, rfl, by omega, rfl⟩, ⟨rfl, rfl, rfl, trivial⟩, trivial⟩, ?_⟩
  rintro ⟨m, lv, hlv, hm, hl⟩
  cbv
  refine br_cases (fun h => ?_) (fun h => ?_)
  · have h5 : 0 ≤ lv := le_t hP h
    obtain ⟨m, rfl⟩ : ∃ m', m = m' + 1 := ⟨m - 1, by ((try simp only [nc] at *); omega)⟩
    cbv
    refine ⟨YPw m, fun z => [(0, .int .i64 (i : Int)), (1, .int .i64 (k : Int)), (5, .int .i64 lv), (13, .int .i64 lv), (14, .int .i64 z.jj), (6, .int .i64 z.n)], fun z => [], fun z => m - z.j,
      ⟨_, Ent.refl _, ⟨0, 0, 1, rfl, Nat.zero_le _, rfl⟩, ⟨rfl, rfl, rfl, rfl, rfl, rfl, trivial⟩, trivial⟩, ?_⟩
    rintro ⟨j, jj, n, hjj, hj, hn⟩
    have hpw : 2 ^ j ≤ 64 := Nat.pow_le_pow_right (by decide) (show j ≤ 6 by omega)
    have hpw0 : 0 < 2 ^ j := Nat.pos_of_ne_zero (by simp)
    have hpw1 : 2 ^ (j + 1) = 2 * 2 ^ j := by rw [Nat.pow_succ]; omega
    cbv
    refine br_cases (fun h => ?_) (fun h => ?_)
    · have h6 : jj < lv := lt_t hP h
      have o1 : P.i64 (P.mul n 2) := by subst hP; show I64 (n * 2); unfold I64; ((try simp only [nc] at *); omega)
      have o2 : P.i64 (P.add jj 1) := by rw [add_eq hP]; exact i64I hP (by ((try simp only [nc] at *); omega))
      have e1 : P.mul n 2 = ((2 ^ (j + 1) : Nat) : Int) := by subst hP; show n * 2 = _; rw [hpw1]; ((try simp only [nc] at *); omega)
      have e2 : P.add jj 1 = ((j + 1 : Nat) : Int) := by rw [add_eq hP, hjj]; ((try simp only [nc] at *); omega)
      have e3 : j + 1 ≤ m := by ((try simp only [nc] at *); omega)
      cbv
      refine ⟨o1, ?_⟩
      cbv
      refine ⟨o2, ?_⟩
      exact ⟨_, Ent.refl _, ⟨j + 1, _, _, e2, e3, e1⟩, ⟨rfl, rfl, rfl, rfl, rfl, rfl, trivial⟩, trivial, by show m - (j + 1) < m - j; omega⟩
    · have h6 : ¬ jj < lv := lt_f hP h
      have hjm : j = m := by ((try simp only [nc] at *); omega)
      subst hjm
      have hrl : rlF (j + 1) i k = if ((i + 2 ^ j - 1) / 2 ^ j + 1) * 2 ^ j ≤ k then some j else rlF j i k := rfl
      obtain ⟨N, hN⟩ : ∃ N, N = 2 ^ j := ⟨_, rfl⟩
      rw [← hN] at hn hpw hpw0 hrl
      replace hn : n = (N : Int) := hn
      clear hpw1
      have hdiv : (i + N - 1) / N * N + N > i + N - 1 := by
        have := Nat.div_add_mod (i + N - 1) N
        have h7 := Nat.mod_lt (i + N - 1) hpw0
        rw [Nat.mul_comm] at this
        omega
      have hdiv2 : (i + N - 1) / N * N ≤ i + N - 1 := Nat.div_mul_le_self _ _
      have hmul : ((i + N - 1) / N + 1) * N = (i + N - 1) / N * N + N := by rw [Nat.add_mul, Nat.one_mul]
      have hdl : (i + N - 1) / N ≤ (i + N - 1) := Nat.div_le_self _ _
      obtain ⟨B, hB⟩ : ∃ B, B = (i + N - 1) / N := ⟨_, rfl⟩
      rw [← hB] at hrl hdiv hdiv2 hmul hdl
      obtain ⟨Z, hZ⟩ : ∃ Z, Z = i + N - 1 := ⟨_, rfl⟩
      have hZ1 : Z + 1 = i + N := by omega
      rw [← hZ] at hdiv hdiv2 hdl hB
      have hd3 : (i : Int) + (N : Int) - 1 = (Z : Int) := by omega
      have o1 : P.i64 (P.add (i : Int) n) := by rw [add_eq hP, hn]; exact i64I hP (by clear hB hdiv hdiv2 hmul hdl hZ; omega)
      have o2 : P.i64 (P.sub (P.add (i : Int) n) 1) := by rw [sub_eq hP, add_eq hP, hn, hd3]; exact i64I hP (by clear hB hdiv hdiv2 hmul hdl hZ; omega)
      have o3 : P.leP 0 (P.sub (P.add (i : Int) n) 1) := le0 hP (by rw [sub_eq hP, add_eq hP, hn, hd3]; exact Int.natCast_nonneg _)
      have o4 : P.ltP 0 n := ltI hP (by rw [hn]; clear hB hdiv hdiv2 hmul hdl hZ; omega)
      have e1 : P.div (P.sub (P.add (i : Int) n) 1) n = (B : Int) := by
        rw [sub_eq hP, add_eq hP, hn, hd3]
        subst hP
        rw [hB]
        exact (Int.natCast_ediv _ _).symm
      have o5 : P.i64 (P.div (P.sub (P.add (i : Int) n) 1) n) := by rw [e1]; exact i64I hP (by omega)
      have o6 : P.i64 (P.add (P.div (P.sub (P.add (i : Int) n) 1) n) 1) := by rw [e1, add_eq hP]; exact i64I hP (by omega)
      have e2 : P.mul (P.add (P.div (P.sub (P.add (i : Int) n) 1) n) 1) n = (((B + 1) * N : Nat) : Int) := by rw [e1, add_eq hP, hn]; subst hP; show ((B : Int) + 1) * (N : Int) = _; simp
      have hBN : B * N ≤ 200 := by omega
      have o7 : P.i64 (P.mul (P.add (P.div (P.sub (P.add (i : Int) n) 1) n) 1) n) := by rw [e2, hmul]; exact i64I hP (by omega)
      have e3 : P.mul (P.div (P.sub (P.add (i : Int) n) 1) n) n = ((B * N : Nat) : Int) := by rw [e1, hn]; subst hP; show (B : Int) * (N : Int) = _; simp
      have o8 : P.i64 (P.mul (P.div (P.sub (P.add (i : Int) n) 1) n) n) := by rw [e3]; exact i64I hP (by omega)
      cbv
      refine ⟨o1, o2, o3, o4, o5, ?_⟩
      cbv
      refine ⟨o6, o7, ?_⟩
      refine br_cases (fun h => ?_) (fun h => ?_)
      · have h7 : P.mul (P.add (P.div (P.sub (P.add (i : Int) n) 1) n) 1) n ≤ (k : Int) := le_t hP h
        rw [e2] at h7
        have h8 : (B + 1) * N ≤ k := Int.ofNat_le.1 h7
        have hsome : rlF 7 i k = some j := by rw [hl, hrl, if_pos h8]
        have hres := h1 j hsome
        rw [← hN, ← hZ, ← hB] at hres
        obtain ⟨c1, l1⟩ := hrec i (B * N) (by omega) (by omega) (Nat.le_refl _) (by omega)
        obtain ⟨c2, l2⟩ := hrec ((B + 1) * N) k h8 (Nat.le_refl _) (by omega) (by omega)
        rw [← e3] at c1
        rw [← e2] at c2
        have e4 : [[V.int .i64 lv, .int .i64 (P.div (P.sub (P.add (i : Int) n) 1) n)]] = pairRows [(j, B)] := by rw [e1, hlv]; simp [pairRows]
        clear hrec h0 h1
        cbv
        refine ⟨o8, ?_⟩
        refine c1 1000041 _ _ rfl fun β1 n1 rows1 hr1 => ?_
        have f4 : P.neP rows1 n1 := by subst hP; show rows1.length = n1; rw [hr1.1, hr1.2]
        have f5 : ∀ r, P.bytes (P.add (P.int n1) (P.rlen [r])) 16 := by intro r; subst hP; show ((n1 : Int) + 1) * 16 ≤ _; rw [hr1.2]; simp only [pairRows, List.length_map]; ((try simp only [nc] at *); omega)
        have f6 : ∀ r, P.neP [r] 1 := by intro r; subst hP; rfl
        cbv
        repeat' (first
          | (refine And.intro (by assumption) ?_; try cbv)
          | (refine And.intro (f6 _) ?_; try cbv)
          | (refine And.intro (f5 _) ?_; try cbv)
          | (intro β; try cbv))
        refine c2 1000048 _ _ rfl fun β3 n3 rows3 hr3 => ?_
        have f7 : P.neP rows3 n3 := by subst hP; show rows3.length = n3; rw [hr3.1, hr3.2]
        have f8 : ∀ r, P.neP (P.rapp rows1 [r]) (P.nadd n1 (P.rlenN [r])) := by intro r; subst hP; show (rows1 ++ [r]).length = n1 + 1; rw [hr1.1, hr1.2]; simp
        have f9 : ∀ r, P.bytes (P.add (P.int (P.nadd n1 (P.rlenN [r]))) (P.rlen rows3)) 16 := by intro r; subst hP; show (((n1 + 1 : Nat) : Int) + (rows3.length : Int)) * 16 ≤ _; rw [hr1.2, hr3.1]; simp only [pairRows, List.length_map]; ((try simp only [nc] at *); omega)
        have f10 : P.rapp (P.rapp rows1 [[V.int .i64 lv, .int .i64 (P.div (P.sub (P.add (i : Int) n) 1) n)]]) rows3 = pairRows l := by rw [e4, hr1.1, hr3.1, hres]; subst hP; simp [std, pairRows]
        have f11 : ∀ r, P.nadd (P.nadd n1 (P.rlenN [r])) (P.rlenN rows3) = l.length := by intro r; rw [hr1.2, hr3.1, hres]; subst hP; simp [std, pairRows]; omega
        cbv
        repeat' (first
          | (refine And.intro (by assumption) ?_; try cbv)
          | (refine And.intro (f8 _) ?_; try cbv)
          | (refine And.intro (f9 _) ?_; try cbv)
          | (intro β; try cbv))
        exact hR _ _ _ _ _ (Ent.refl _) rfl ⟨rfl, trivial⟩ ⟨f10, f11 _⟩
      · have h7 : ¬ P.mul (P.add (P.div (P.sub (P.add (i : Int) n) 1) n) 1) n ≤ (k : Int) := le_f hP h
        rw [e2] at h7
        have h8 : ¬ (B + 1) * N ≤ k := fun g => h7 (Int.ofNat_le.2 g)
        have o9 : P.i64 (P.sub lv 1) := by rw [sub_eq hP]; exact i64I hP (by ((try simp only [nc] at *); omega))
        have e9 : P.sub lv 1 = (j : Int) - 1 := by rw [sub_eq hP]; ((try simp only [nc] at *); omega)
        cbv
        refine ⟨o9, ?_⟩
        exact ⟨_, Ent.refl _, ⟨j, _, e9, by omega, by rw [hl, hrl, if_neg h8]⟩, ⟨rfl, rfl, rfl, trivial⟩, trivial, by simp⟩
  · have h5 : ¬ 0 ≤ lv := le_f hP h
    have hm0 : m = 0 := by ((try simp only [nc] at *); omega)
    subst hm0
    have hnone := h0 hl
    subst hnone
    cbv
    exact hR _ _ none 0 [] (Ent.nil (i := 4) (k := 1000041) (ty := 28) (sz := 2) rfl rfl) rfl ⟨rfl, trivial⟩ ⟨rfl, rfl⟩
theorem cov_fz (l : List (Nat × Nat)) : ∀ r ∈ pairRows l, ∀ v ∈ r, Fz v := pairRows_fz l
theorem rcF_len : ∀ (f i k : Nat), i ≤ k → (rcF f i k).length ≤ k - i
  | 0, _, _, _ => by simp [rcF]
  | f + 1, i, k, h => by
    unfold rcF
    split
    · simp
    · rename_i n hn
      have hr : ∀ m, rlF m i k = some n → ((i + 2 ^ n - 1) / 2 ^ n + 1) * 2 ^ n ≤ k := by
        intro m
        induction m with
        | zero => intro g; simp [rlF] at g
        | succ m ih =>
          intro g
          unfold rlF at g
          split at g
          · rename_i g2; cases g; exact g2
          · exact ih g
      have h1 := hr 7 hn
      have hp : 0 < 2 ^ n := Nat.pos_of_ne_zero (by simp)
      generalize 2 ^ n = N at *
      have h2 := Nat.div_add_mod (i + N - 1) N
      have h3 := Nat.mod_lt (i + N - 1) hp
      rw [Nat.mul_comm] at h2
      rw [Nat.add_mul, Nat.one_mul] at h1
      have i1 := rcF_len f i ((i + N - 1) / N * N) (by omega)
      have i2 := rcF_len f (((i + N - 1) / N + 1) * N) k (by rw [Nat.add_mul, Nat.one_mul]; omega)
      rw [Nat.add_mul, Nat.one_mul] at i2
      simp only [List.length_append, List.length_cons, List.length_nil]
      rw [Nat.add_mul, Nat.one_mul]
      omega
theorem sp_covs0 : ∀ (f i k : Nat), i ≤ k → k ≤ 64 → k - i < f → Spec Try.prog 14 [.int .i64 i, .int .i64 k] (lookH []) (fun v h' => ∃ L', CovP (pairRows (rcF f i k)) v L' ∧ h' = lookH L')
  | 0, _, _, _, _, h => absurd h (Nat.not_lt_zero _)
  | f + 1, i, k, h1, h2, h3 => by
    refine spec_meth dOk ok_covs (L := []) (CovP (pairRows (rcF (f + 1) i k))) fun R hR => ?_
    refine vc_covs std rfl _ _ i k h1 h2 (fun a b => rcF f a b) (rcF (f + 1) i k) (fun a b g1 g2 g3 g4 => ⟨covC_of (sp_covs0 f a b g1 (by omega) (by omega)), by have := rcF_len f a b g1; omega⟩) (fun hn => by unfold rcF; rw [hn]) (fun n hn => by rw [rcF, hn]) R fun s s' β n rows he hr ha hrows => ?_
    obtain ⟨rfl, rfl⟩ := hrows
    exact hR s s' _ [(1000041, ⟨β, 28, 2, _⟩)] he hr ha (.own _ _ _ _) (by intro p hp; simp at hp; subst hp; exact cov_fz _) ⟨β, _, rfl, rfl, by simp [pairRows]⟩
theorem sp_covs (i k : Nat) (h1 : i ≤ k) (h2 : k ≤ 64) : Spec Try.prog 14 [.int .i64 i, .int .i64 k] Hp.emp (Is (.sl false 2 (pairRows (covF 64 i k)))) := by
  rw [(cov_rc h1 h2).1]
  have e : (lookH [] : Hp) = Hp.emp := by funext i; rfl
  have := sp_covs0 65 i k h1 h2 (by omega)
  rw [e] at this
  refine spec_freeze this fun v L' hp => ?_
  obtain ⟨β, n, rfl, rfl, hn⟩ := hp
  exact .rows (o := obB β (pairRows (rcF 65 i k))) rfl rfl rfl hn.symm (pairRows_sz _) (pairRows_fz _)
end Go.Proofs.Ytlomnjlfmbolkaa.AM
