/-
  Deltas as bytes: code.Write and code.Read, the document's Code and Decode, and the law CodeSays.
-/
import Derived.Test.YtobngncjflogcaaMNum
import Derived.Test.YtobngncjflogcaaMNorm2
import Derived.Test.YtobngncjflogcaaMInts
import Derived.Test.YtobngncjflogcaaMU
set_option linter.unusedVariables false
set_option linter.unusedSimpArgs false
namespace Go.Proofs.Ytobngncjflogcaa.AM
open Go
set_option maxRecDepth 100000
set_option maxHeartbeats 2000000
/-! the plain law -/
def pcode (p : Part) : List UInt8 := numL (4 * (p.n + p.text.length) + p.kind).toNat ++ p.text
def codeF (d : List Part) : List UInt8 := numL d.length ++ (d.map pcode).flatten
def pcR : Nat → List UInt8 → List Part → Option (List UInt8 × List Part)
  | 0, s, out => some (s, out)
  | n + 1, s, out => if (getS s).2.2 ≠ 0 then none
    else if (getS s).1 % 4 = 2 then (if ((s.drop (getS s).2.1.toNat).length : Int) < (getS s).1 / 4 then none else pcR n ((s.drop (getS s).2.1.toNat).drop ((getS s).1 / 4).toNat) (out ++ [⟨2, 0, (s.drop (getS s).2.1.toNat).take ((getS s).1 / 4).toNat⟩]))
    else pcR n (s.drop (getS s).2.1.toNat) (out ++ [⟨(getS s).1 % 4, (getS s).1 / 4, []⟩])
def parseF (s : List UInt8) : Option (List UInt8 × List Part) := if (getS s).2.2 ≠ 0 then none else pcR (getS s).1.toNat (s.drop (getS s).2.1.toNat) []
def readF (s : List UInt8) : List Part × Int := match parseF s with
  | none => ([], 3)
  | some (r, d) => if r = [] ∧ checkF d = 0 then (d, 0) else ([], 3)
theorem pcR_spec : ∀ (n : Nat) (s : List UInt8) (out : List Part) (r : List UInt8) (d : List Part), pcR n s out = some (r, d) → ∃ e, d = out ++ e ∧ e.length = n ∧ s = (e.map pcode).flatten ++ r
  | 0, s, out, r, d, h => by
    simp only [pcR, Option.some.injEq, Prod.mk.injEq] at h
    exact ⟨[], by simp [h.2], rfl, by simp [h.1]⟩
  | n + 1, s, out, r, d, h => by
    unfold pcR at h
    split at h
    · cases h
    · rename_i h1
      obtain ⟨k, g1, g2, g3, _, g4, g5, g6⟩ := getS_num (Decidable.of_not_not h1)
      have hk : (getS s).2.1.toNat = k := by omega
      rw [hk] at h
      split at h
      · rename_i h2
        split at h
        · cases h
        · rename_i h3
          obtain ⟨e, e1, e2, e3⟩ := pcR_spec n _ _ r d h
          refine ⟨⟨2, 0, (s.drop k).take ((getS s).1 / 4).toNat⟩ :: e, by rw [e1]; simp, by simp [e2], ?_⟩
          have hl : ((s.drop k).take ((getS s).1 / 4).toNat).length = ((getS s).1 / 4).toNat := by rw [List.length_take]; omega
          have hx : (4 * (0 + (((s.drop k).take ((getS s).1 / 4).toNat).length : Int)) + 2).toNat = (getS s).1.toNat := by rw [hl]; omega
          rw [List.map_cons, List.flatten_cons, pcode]
          simp only []
          rw [hx, g6, List.append_assoc, List.append_assoc, ← e3, List.take_append_drop, List.take_append_drop]
      · rename_i h2
        obtain ⟨e, e1, e2, e3⟩ := pcR_spec n _ _ r d h
        refine ⟨⟨(getS s).1 % 4, (getS s).1 / 4, []⟩ :: e, by rw [e1]; simp, by simp [e2], ?_⟩
        have hx : (4 * ((getS s).1 / 4 + (([] : List UInt8).length : Int)) + (getS s).1 % 4).toNat = (getS s).1.toNat := by
          simp only [List.length_nil]; omega
        rw [List.map_cons, List.flatten_cons, pcode]
        simp only []
        rw [hx, g6, List.append_nil, List.append_assoc, ← e3, List.take_append_drop]
theorem parse_spec {s : List UInt8} {r : List UInt8} {d : List Part} (h : parseF s = some (r, d)) : s = codeF d ++ r := by
  unfold parseF at h
  split at h
  · cases h
  · rename_i h1
    obtain ⟨k, g1, g2, g3, _, g4, g5, g6⟩ := getS_num (Decidable.of_not_not h1)
    rw [show (getS s).2.1.toNat = k by omega] at h
    obtain ⟨e, e1, e2, e3⟩ := pcR_spec _ _ _ r d h
    rw [List.nil_append] at e1
    subst e1
    unfold codeF
    rw [e2, g6, List.append_assoc, ← e3, List.take_append_drop]
theorem read_code {s : List UInt8} {r : List UInt8} {d : List Part} (h : parseF s = some (r, d)) : r = [] ↔ codeF d = s := by
  have := parse_spec h
  constructor
  · rintro rfl; rw [this]; simp
  · intro g; rw [g] at this; exact List.append_right_eq_self.1 this.symm
theorem readF_len (s : List UInt8) : (readF s).1.length ≤ 10000000 := by
  unfold readF
  split
  · simp
  · split
    · rename_i h
      have := (checkF_all h.2).1
      simp only []; omega
    · simp
/-! put -/
def ac_cput : AC := .seq (.region false [
    ⟨some 2, none, .mov (.c (.string ⟨#[]⟩))⟩])
  (.seq (.region false [
    ⟨some 6, none, .mov (.t 0)⟩,
    ⟨some 7, none, .call 114 [(.t 6)]⟩,
    ⟨some 5, none, .mov (.t 7)⟩,
    ⟨some 8, none, .ext 0 (.t 5)⟩,
    ⟨some 9, none, .ext 1 (.t 5)⟩,
    ⟨some 3, none, .mov (.t 8)⟩,
    ⟨some 4, none, .mov (.t 9)⟩])
  (.seq (.region false [
    ⟨some 10, none, .mov (.t 3)⟩,
    ⟨some 2, none, .mov (.t 10)⟩])
  (.ret)))
theorem ok_cput : FnOk Try.prog 117 Try.f117 ac_cput [.t 2] 1 drawD := ⟨Try.func117, by decide +kernel, by kernel_rfl, by kernel_rfl, by decide +kernel⟩
theorem vc_cput (P : Prim) (hP : P = std) (T T1 : CallT) (n e : Int) (s : List UInt8) (h1 : Ans T 114 [.int .i64 n] (.tup [.str s, .int .i64 e]))
    (R : S → Prop) (hR : ∀ s0 s', Ent s0 s' → Ret [.t 2] [.str s] s' → R s0) : awp P T T1 ac_cput (S0 [.int .i64 n] Hp.emp) R (fun _ _ => False) R := by
  cbv
  refine h1 _ _ ?_
  cbv
  exact hR _ _ (Ent.refl _) rfl
theorem sp_cput (n : Int) : Spec Try.prog 117 [.int .i64 n] Hp.emp (Is (.str (putF n).1)) :=
  spec_pure dOk ok_cput [.str (putF n).1] (.str _) fun R hR => vc_cput std rfl _ _ n _ _ (ansW (sp_nput n) (fun _ => args_plain rfl) rfl) R hR
/-! Write -/
def ac_cwrite : AC := .seq (.region false [
    ⟨some 2, none, .mov (.c (.string ⟨#[]⟩))⟩,
    ⟨some 3, none, .mov (.c (.int .i64 0))⟩])
  (.seq (.seq (.region false [
    ⟨some 8, none, .mov (.t 0)⟩,
    ⟨some 9, none, .call 89 [(.t 8)]⟩,
    ⟨some 4, none, .mov (.t 9)⟩])
  (.seq (.region false [
    ⟨some 10, none, .mov (.t 4)⟩,
    ⟨some 11, none, .bin .neq (.t 10) (.c (.int .i64 0))⟩])
  (.cond (.t 11)
    (.seq (.region false [
      ⟨some 12, none, .mov (.t 4)⟩,
      ⟨some 2, none, .mov (.c (.string ⟨#[]⟩))⟩,
      ⟨some 3, none, .mov (.t 12)⟩])
    (.ret))
    (.skip))))
  (.seq (.region false [
    ⟨some 13, none, .mov (.t 0)⟩,
    ⟨some 14, none, .len false (.t 13)⟩,
    ⟨some 15, none, .call 117 [(.t 14)]⟩,
    ⟨some 5, none, .mov (.t 15)⟩])
  (.seq (.seq (.region false [
    ⟨some 16, none, .mov (.t 0)⟩,
    ⟨some 17, none, .len false (.t 16)⟩,
    ⟨some 18, none, .mov (.c (.int .i64 0))⟩])
  (.block 0 (.loop (.seq (.region false [
      ⟨some 19, none, .bin .lss (.t 18) (.t 17)⟩])
    (.seq (.cond (.t 19)
      (.skip)
      (.exit 0))
    (.seq (.block 1 (.seq (.region false [
      ⟨some 20, none, .iaddr 3 (.t 16) (.t 18)⟩,
      ⟨some 21, none, .loadn 3 (.t 20)⟩,
      ⟨some 7, none, .alloc 108 [(.int .i64 0), (.int .i64 0), (.string ⟨#[]⟩)]⟩,
      ⟨none, none, .store 3 (.t 7) (.t 21)⟩])
    (.seq (.region false [
      ⟨some 22, none, .faddr 0 (.t 7)⟩,
      ⟨some 23, none, .load1 (.t 22)⟩,
      ⟨some 24, none, .bin .eql (.t 23) (.c (.int .i64 2))⟩])
    (.cond (.t 24)
      (.region true [
        ⟨some 25, none, .mov (.t 5)⟩,
        ⟨some 26, none, .faddr 2 (.t 7)⟩,
        ⟨some 27, none, .load1 (.t 26)⟩,
        ⟨some 28, none, .len true (.t 27)⟩,
        ⟨some 29, none, .bin .mul (.c (.int .i64 4)) (.t 28)⟩,
        ⟨some 30, none, .bin .add (.t 29) (.c (.int .i64 2))⟩,
        ⟨some 31, none, .call 117 [(.t 30)]⟩,
        ⟨some 32, none, .faddr 2 (.t 7)⟩,
        ⟨some 33, none, .load1 (.t 32)⟩,
        ⟨some 34, none, .bin .add (.t 31) (.t 33)⟩,
        ⟨some 35, none, .bin .add (.t 25) (.t 34)⟩,
        ⟨some 5, none, .mov (.t 35)⟩])
      (.region false [
        ⟨some 36, none, .mov (.t 5)⟩,
        ⟨some 37, none, .faddr 1 (.t 7)⟩,
        ⟨some 38, none, .load1 (.t 37)⟩,
        ⟨some 39, none, .bin .mul (.c (.int .i64 4)) (.t 38)⟩,
        ⟨some 40, none, .faddr 0 (.t 7)⟩,
        ⟨some 41, none, .load1 (.t 40)⟩,
        ⟨some 42, none, .bin .add (.t 39) (.t 41)⟩,
        ⟨some 43, none, .call 117 [(.t 42)]⟩,
        ⟨some 44, none, .bin .add (.t 36) (.t 43)⟩,
        ⟨some 5, none, .mov (.t 44)⟩])))))
    (.region false [
      ⟨some 45, none, .bin .add (.t 18) (.c (.int .i64 1))⟩,
      ⟨some 18, none, .mov (.t 45)⟩])))))))
  (.seq (.region false [
    ⟨some 46, none, .mov (.t 5)⟩,
    ⟨some 2, none, .mov (.t 46)⟩,
    ⟨some 3, none, .mov (.c (.int .i64 0))⟩])
  (.ret)))))
theorem ok_cwrite : FnOk Try.prog 96 Try.f96 ac_cwrite [.t 2, .t 3] 1 drawD := ⟨Try.func96, by decide +kernel, by kernel_rfl, by kernel_rfl, by decide +kernel⟩
structure YCw (d : List Part) (a : List UInt8) where
  k : Int
  pre : List Part
  rest : List Part
  o : List UInt8
  hd : d = pre ++ rest
  hk : k = (pre.length : Int)
  ho : o = a ++ (pre.map pcode).flatten
  hol : o.length ≤ 5 + 505 * pre.length
theorem vc_cwrite (P : Prim) (hP : P = std) (T T1 : CallT) (tf : Bool) (d : List Part) (rows : List (List V)) (hrows : rows = d.map encPart) (c : Int) (pF : Int → List UInt8)
    (h1 : Ans T 89 [.sl tf 3 rows] (.int .i64 c)) (hc : c = 0 → d.length ≤ 1600 ∧ ∀ p ∈ d, okP p)
    (h2 : ∀ n, 0 ≤ n → n ≤ 100000 → Ans T 117 [.int .i64 n] (.str (pF n))) (h3 : ∀ n, 0 ≤ n → n ≤ 100000 → Ans T1 117 [.int .i64 n] (.str (pF n)))
    (hpF : ∀ n, 0 ≤ n → n ≤ 100000 → pF n = numL n.toNat) (r : List UInt8) (re : Int) (g1 : c ≠ 0 → [] = r ∧ c = re) (g2 : c = 0 → codeF d = r ∧ 0 = re)
    (R : S → Prop) (hR : ∀ s0 s' x y, x = r ∧ y = re → Ent s0 s' → Ret [.t 2, .t 3] [.str x, .int .i64 y] s' → R s0) : awp P T T1 ac_cwrite (S0 [.sl tf 3 rows] Hp.emp) R (fun _ _ => False) R := by
  have hl1 : P.rlen rows = (d.length : Int) := by rw [rlen_eq hP, hrows]; simp
  cbv
  refine h1 _ _ ?_
  clear h1
  cbv
  refine br_cases (fun h => ?_) (fun h => ?_)
  · have hx := g1 (ne_t hP h)
    cbv
    exact hR _ _ _ _ hx (Ent.refl _) rfl
  have hz := ne_f hP h
  obtain ⟨hd16, hdok⟩ := hc hz
  obtain ⟨hres, hre⟩ := g2 hz
  have f1 := h2 (P.rlen rows) (by rw [hl1]; exact Int.natCast_nonneg _) (by rw [hl1]; ((try simp only [nc] at *); omega))
  have f1e : pF (P.rlen rows) = numL d.length := by rw [hpF _ (by rw [hl1]; exact Int.natCast_nonneg _) (by rw [hl1]; ((try simp only [nc] at *); omega)), hl1]; rfl
  clear g1 g2 h hc
  cbv
  refine f1 _ _ ?_
  cbv
  refine ⟨YCw d (numL d.length), fun y => [(5, .str y.o), (16, .sl tf 3 rows), (17, .int .i64 (P.rlen rows)), (18, .int .i64 y.k)], fun y => [], fun y => y.rest.length,
    ⟨_, Ent.refl _, ⟨0, [], d, pF (P.rlen rows), rfl, rfl, by rw [f1e]; simp, by rw [f1e]; have := numL_len d.length; simp; omega⟩, ⟨rfl, rfl, rfl, rfl, trivial⟩, trivial⟩, ?_⟩
  rintro ⟨k, pre, rest, o, hd, hk, ho, hol⟩
  have hso : P.slen o = (o.length : Int) := by subst hP; rfl
  replace hk : k = (pre.length : Int) := hk
  have hlp : pre.length + rest.length = d.length := by rw [hd]; simp
  cbv
  refine br_cases (fun h => ?_) (fun h => ?_)
  · have h6 : k < P.rlen rows := lt_t hP h
    rw [hl1] at h6
    rcases rest with _ | ⟨⟨kd, pn, tx⟩, rest⟩
    · exfalso; simp at hlp; ((try simp only [nc] at *); omega)
    have hrow : P.row rows (P.nat k) [.int .i64 kd, .int .i64 pn, .str tx] := row_of hP hk (by rw [hrows, List.getElem?_map, hd]; simp [encPart])
    have hp := okP_bd (hdok ⟨kd, pn, tx⟩ (by rw [hd]; simp))
    obtain ⟨hp1, hp2, hp3, hp4⟩ := hp
    simp only [] at hp1 hp2 hp3 hp4
    have k1 : P.leP 0 k := le0 hP (by ((try simp only [nc] at *); omega))
    have k2 : P.i64 (P.add k 1) := by rw [add_eq hP]; exact i64I hP (by ((try simp only [nc] at *); omega))
    have k3 : P.add k 1 = (((pre ++ [(⟨kd, pn, tx⟩ : Part)]).length : Nat) : Int) := by rw [add_eq hP, hk]; simp
    have hst : P.slen tx = (tx.length : Int) := by subst hP; rfl
    cbv
    refine ⟨k1, _, hrow, ?_⟩
    cbv
    intro β
    cbv
    by_cases hk2 : kd = 2
    · have e1 : P.add (P.mul 4 (P.slen tx)) 2 = 4 * (tx.length : Int) + 2 := by rw [add_eq hP, hst]; subst hP; rfl
      have i1 : P.i64 (P.mul 4 (P.slen tx)) := by rw [hst]; subst hP; show I64 (4 * (tx.length : Int)); unfold I64; omega
      have i2 : P.i64 (P.add (P.mul 4 (P.slen tx)) 2) := by rw [e1]; exact i64I hP (by omega)
      have f2 := h3 (P.add (P.mul 4 (P.slen tx)) 2) (by rw [e1]; omega) (by rw [e1]; omega)
      have f2e := hpF (P.add (P.mul 4 (P.slen tx)) 2) (by rw [e1]; omega) (by rw [e1]; omega)
      have hn0 : pn = 0 := by omega
      have hpl : (pF (P.add (P.mul 4 (P.slen tx)) 2)).length ≤ 5 := by rw [f2e]; exact numL_len _
      have hsp : ∀ x : List UInt8, P.slen x = (x.length : Int) := by intro x; subst hP; rfl
      have hap : ∀ x y : List UInt8, (P.sapp x y).length = x.length + y.length := by intro x y; subst hP; exact List.length_append
      have j1 : P.i64 (P.add (P.slen (pF (P.add (P.mul 4 (P.slen tx)) 2))) (P.slen tx)) := by have hq := hpl; generalize pF (P.add (P.mul 4 (P.slen tx)) 2) = z at hq ⊢; rw [add_eq hP, hsp z, hsp tx]; exact i64I hP (by ((try simp only [nc] at *); omega))
      have j2 : P.i64 (P.add (P.slen o) (P.slen (P.sapp (pF (P.add (P.mul 4 (P.slen tx)) 2)) tx))) := by have hq := hpl; generalize pF (P.add (P.mul 4 (P.slen tx)) 2) = z at hq ⊢; rw [add_eq hP, hsp o, hsp, hap]; exact i64I hP (by ((try simp only [nc] at *); omega))
      have j3 : (P.sapp o (P.sapp (pF (P.add (P.mul 4 (P.slen tx)) 2)) tx)).length ≤ 5 + 505 * (pre ++ [(⟨kd, pn, tx⟩ : Part)]).length := by rw [hap, hap]; simp; omega
      have e2 : P.sapp o (P.sapp (pF (P.add (P.mul 4 (P.slen tx)) 2)) tx) = numL d.length ++ ((pre ++ [(⟨kd, pn, tx⟩ : Part)]).map pcode).flatten := by
        rw [f2e, e1, ho]
        subst hP
        show (_ ++ _) ++ (_ ++ tx) = _
        simp [pcode, hn0, hk2]
      refine br_tt (eq_T hP hk2) ?_
      cbv
      repeat' (first
        | (refine And.intro (by assumption) ?_; try cbv)
        | (intro β; try cbv))
      refine f2 _ _ ?_
      cbv
      repeat' (first
        | (refine And.intro (by assumption) ?_; try cbv)
        | (intro β; try cbv))
      exact ⟨_, Ent.refl _, ⟨_, pre ++ [⟨kd, pn, tx⟩], rest, _, by simp [hd], k3, e2, j3⟩, ⟨rfl, rfl, rfl, rfl, trivial⟩, trivial, by simp⟩
    · have hte : tx = [] := by rcases hp4 with g | g; exact absurd g.1 hk2; exact g.2.2
      have e1 : P.add (P.mul 4 pn) kd = 4 * pn + kd := by rw [add_eq hP]; subst hP; rfl
      have i1 : P.i64 (P.mul 4 pn) := by subst hP; show I64 (4 * pn); unfold I64; omega
      have i2 : P.i64 (P.add (P.mul 4 pn) kd) := by rw [e1]; exact i64I hP (by omega)
      have f2 := h2 (P.add (P.mul 4 pn) kd) (by rw [e1]; omega) (by rw [e1]; omega)
      have f2e := hpF (P.add (P.mul 4 pn) kd) (by rw [e1]; omega) (by rw [e1]; omega)
      have hpl : (pF (P.add (P.mul 4 pn) kd)).length ≤ 5 := by rw [f2e]; exact numL_len _
      have hsp : ∀ x : List UInt8, P.slen x = (x.length : Int) := by intro x; subst hP; rfl
      have hap : ∀ x y : List UInt8, (P.sapp x y).length = x.length + y.length := by intro x y; subst hP; exact List.length_append
      have j2 : P.i64 (P.add (P.slen o) (P.slen (pF (P.add (P.mul 4 pn) kd)))) := by rw [add_eq hP, hsp, hsp]; exact i64I hP (by ((try simp only [nc] at *); omega))
      have j3 : (P.sapp o (pF (P.add (P.mul 4 pn) kd))).length ≤ 5 + 505 * (pre ++ [(⟨kd, pn, tx⟩ : Part)]).length := by rw [hap]; simp; omega
      have e2 : P.sapp o (pF (P.add (P.mul 4 pn) kd)) = numL d.length ++ ((pre ++ [(⟨kd, pn, tx⟩ : Part)]).map pcode).flatten := by
        rw [f2e, e1, ho]
        subst hP
        show (_ ++ _) ++ _ = _
        simp [pcode, hte]
      refine br_ff (eq_F hP hk2) ?_
      cbv
      repeat' (first
        | (refine And.intro (by assumption) ?_; try cbv)
        | (intro β; try cbv))
      refine f2 _ _ ?_
      cbv
      repeat' (first
        | (refine And.intro (by assumption) ?_; try cbv)
        | (intro β; try cbv))
      exact ⟨_, Ent.refl _, ⟨_, pre ++ [⟨kd, pn, tx⟩], rest, _, by simp [hd], k3, e2, j3⟩, ⟨rfl, rfl, rfl, rfl, trivial⟩, trivial, by simp⟩
  · have h6 : ¬ k < P.rlen rows := lt_f hP h
    rw [hl1] at h6
    rcases rest with _ | ⟨y, rest⟩
    rotate_left
    · exfalso; simp at hlp; ((try simp only [nc] at *); omega)
    have : o = r := by rw [ho, ← hres, hd]; simp [codeF, hlp]
    cbv
    exact hR _ _ _ _ ⟨this, hre⟩ (Ent.refl _) rfl
theorem sp_cwrite (d : List Part) (hd : d.length ≤ maxLen) : Spec Try.prog 96 [.sl false 3 (d.map encPart)] Hp.emp (Is (.tup [.str (if checkF d = 0 then codeF d else []), .int .i64 (checkF d)])) :=
  spec_pure dOk ok_cwrite [.str (if checkF d = 0 then codeF d else []), .int .i64 (checkF d)] (.tup _ (by simp; exact ⟨.str _, .int _ _⟩)) fun R hR => vc_cwrite std rfl _ _ false d _ rfl (checkF d) (fun n => (putF n).1)
    (ansL (sp_check d hd) rfl) (fun h => ⟨(checkF_all h).1, (checkF_all h).2.1⟩) (fun n _ _ => ansW (sp_cput n) (fun _ => args_plain rfl) rfl) (fun n _ _ => ansP (sp_cput n) (fun _ => args_plain rfl) rfl)
    (fun n h0 h1 => by unfold putF; rw [if_neg (by omega)]) (if checkF d = 0 then codeF d else []) (checkF d) (fun h => by rw [if_neg h]; exact ⟨rfl, rfl⟩) (fun h => by rw [if_pos h]; exact ⟨rfl, h.symm⟩) R
    fun s0 s' x y h he hr => by obtain ⟨rfl, rfl⟩ := h; exact hR s0 s' he hr
theorem sp_cwriteT (d : List Part) (hd : d.length ≤ maxLen) : Spec Try.prog 96 [.sl true 3 (d.map encPart)] Hp.emp (Is (.tup [.str (if checkF d = 0 then codeF d else []), .int .i64 (checkF d)])) :=
  spec_pure dOk ok_cwrite [.str (if checkF d = 0 then codeF d else []), .int .i64 (checkF d)] (.tup _ (by simp; exact ⟨.str _, .int _ _⟩)) fun R hR => vc_cwrite std rfl _ _ true d _ rfl (checkF d) (fun n => (putF n).1)
    (ansW (sp_check d hd) (fun _ => .cons (.same _) .nil) rfl) (fun h => ⟨(checkF_all h).1, (checkF_all h).2.1⟩) (fun n _ _ => ansW (sp_cput n) (fun _ => args_plain rfl) rfl) (fun n _ _ => ansP (sp_cput n) (fun _ => args_plain rfl) rfl)
    (fun n h0 h1 => by unfold putF; rw [if_neg (by omega)]) (if checkF d = 0 then codeF d else []) (checkF d) (fun h => by rw [if_neg h]; exact ⟨rfl, rfl⟩) (fun h => by rw [if_pos h]; exact ⟨rfl, h.symm⟩) R
    fun s0 s' x y h he hr => by obtain ⟨rfl, rfl⟩ := h; exact hR s0 s' he hr
/-! the document's Code -/
def ac_rcode : AC := .seq (.region false [
    ⟨some 2, none, .mov (.c (.string ⟨#[]⟩))⟩])
  (.seq (.region false [
    ⟨some 6, none, .mov (.t 0)⟩,
    ⟨some 7, none, .len false (.t 6)⟩,
    ⟨some 8, none, .call 122 [(.t 7)]⟩,
    ⟨some 3, none, .mov (.t 8)⟩])
  (.seq (.seq (.region false [
    ⟨some 9, none, .mov (.t 0)⟩,
    ⟨some 10, none, .len false (.t 9)⟩,
    ⟨some 11, none, .mov (.c (.int .i64 0))⟩])
  (.block 0 (.loop (.seq (.region false [
      ⟨some 12, none, .bin .lss (.t 11) (.t 10)⟩])
    (.seq (.cond (.t 12)
      (.skip)
      (.exit 0))
    (.seq (.block 1 (.seq (.region false [
      ⟨some 13, none, .iaddr 3 (.t 9) (.t 11)⟩,
      ⟨some 14, none, .loadn 3 (.t 13)⟩,
      ⟨some 5, none, .alloc 108 [(.int .i64 0), (.int .i64 0), (.string ⟨#[]⟩)]⟩,
      ⟨none, none, .store 3 (.t 5) (.t 14)⟩])
    (.region true [
      ⟨some 15, none, .mov (.t 3)⟩,
      ⟨some 16, none, .faddr 1 (.t 5)⟩,
      ⟨some 17, none, .load1 (.t 16)⟩,
      ⟨some 18, none, .faddr 2 (.t 5)⟩,
      ⟨some 19, none, .load1 (.t 18)⟩,
      ⟨some 20, none, .len true (.t 19)⟩,
      ⟨some 21, none, .bin .add (.t 17) (.t 20)⟩,
      ⟨some 22, none, .bin .mul (.c (.int .i64 4)) (.t 21)⟩,
      ⟨some 23, none, .faddr 0 (.t 5)⟩,
      ⟨some 24, none, .load1 (.t 23)⟩,
      ⟨some 25, none, .bin .add (.t 22) (.t 24)⟩,
      ⟨some 26, none, .call 122 [(.t 25)]⟩,
      ⟨some 27, none, .faddr 2 (.t 5)⟩,
      ⟨some 28, none, .load1 (.t 27)⟩,
      ⟨some 29, none, .bin .add (.t 26) (.t 28)⟩,
      ⟨some 30, none, .bin .add (.t 15) (.t 29)⟩,
      ⟨some 3, none, .mov (.t 30)⟩])))
    (.region false [
      ⟨some 31, none, .bin .add (.t 11) (.c (.int .i64 1))⟩,
      ⟨some 11, none, .mov (.t 31)⟩])))))))
  (.seq (.region false [
    ⟨some 32, none, .mov (.t 3)⟩,
    ⟨some 2, none, .mov (.t 32)⟩])
  (.ret))))
theorem ok_rcode : FnOk Try.prog 105 Try.f105 ac_rcode [.t 2] 1 drawD := ⟨Try.func105, by decide +kernel, by kernel_rfl, by kernel_rfl, by decide +kernel⟩
theorem vc_rcode (P : Prim) (hP : P = std) (T T1 : CallT) (d : List Part) (rows : List (List V)) (hrows : rows = d.map encPart) (pF : Int → List UInt8) (hd16 : d.length ≤ 1600) (hdok : ∀ p ∈ d, okP p)
    (h2 : ∀ n, 0 ≤ n → n ≤ 100000 → Ans T 122 [.int .i64 n] (.str (pF n))) (h3 : ∀ n, 0 ≤ n → n ≤ 100000 → Ans T1 122 [.int .i64 n] (.str (pF n)))
    (hpF : ∀ n, 0 ≤ n → n ≤ 100000 → pF n = numL n.toNat) (r : List UInt8) (hres : codeF d = r)
    (R : S → Prop) (hR : ∀ s0 s' x, x = r → Ent s0 s' → Ret [.t 2] [.str x] s' → R s0) : awp P T T1 ac_rcode (S0 [.sl true 3 rows] Hp.emp) R (fun _ _ => False) R := by
  have hl1 : P.rlen rows = (d.length : Int) := by rw [rlen_eq hP, hrows]; simp
  have f1 := h2 (P.rlen rows) (by rw [hl1]; exact Int.natCast_nonneg _) (by rw [hl1]; ((try simp only [nc] at *); omega))
  have f1e : pF (P.rlen rows) = numL d.length := by rw [hpF _ (by rw [hl1]; exact Int.natCast_nonneg _) (by rw [hl1]; ((try simp only [nc] at *); omega)), hl1]; rfl
  cbv
  refine f1 _ _ ?_
  cbv
  refine ⟨YCw d (numL d.length), fun y => [(3, .str y.o), (9, .sl true 3 rows), (10, .int .i64 (P.rlen rows)), (11, .int .i64 y.k)], fun y => [], fun y => y.rest.length,
    ⟨_, Ent.refl _, ⟨0, [], d, pF (P.rlen rows), rfl, rfl, by rw [f1e]; simp, by rw [f1e]; have := numL_len d.length; simp; omega⟩, ⟨rfl, rfl, rfl, rfl, trivial⟩, trivial⟩, ?_⟩
  rintro ⟨k, pre, rest, o, hd, hk, ho, hol⟩
  have hsp : ∀ x : List UInt8, P.slen x = (x.length : Int) := by intro x; subst hP; rfl
  have hap : ∀ x y : List UInt8, (P.sapp x y).length = x.length + y.length := by intro x y; subst hP; exact List.length_append
  replace hk : k = (pre.length : Int) := hk
  have hlp : pre.length + rest.length = d.length := by rw [hd]; simp
  cbv
  refine br_cases (fun h => ?_) (fun h => ?_)
  · have h6 : k < P.rlen rows := lt_t hP h
    rw [hl1] at h6
    rcases rest with _ | ⟨⟨kd, pn, tx⟩, rest⟩
    · exfalso; simp at hlp; ((try simp only [nc] at *); omega)
    have hrow : P.row rows (P.nat k) [.int .i64 kd, .int .i64 pn, .str tx] := row_of hP hk (by rw [hrows, List.getElem?_map, hd]; simp [encPart])
    have hp := okP_bd (hdok ⟨kd, pn, tx⟩ (by rw [hd]; simp))
    obtain ⟨hp1, hp2, hp3, hp4⟩ := hp
    simp only [] at hp1 hp2 hp3 hp4
    have k1 : P.leP 0 k := le0 hP (by ((try simp only [nc] at *); omega))
    have k2 : P.i64 (P.add k 1) := by rw [add_eq hP]; exact i64I hP (by ((try simp only [nc] at *); omega))
    have k3 : P.add k 1 = (((pre ++ [(⟨kd, pn, tx⟩ : Part)]).length : Nat) : Int) := by rw [add_eq hP, hk]; simp
    have hst := hsp tx
    have a1 : P.add pn (P.slen tx) = pn + (tx.length : Int) := by rw [add_eq hP, hst]
    have i1 : P.i64 (P.add pn (P.slen tx)) := by rw [a1]; exact i64I hP (by omega)
    have a2 : P.mul 4 (P.add pn (P.slen tx)) = 4 * (pn + (tx.length : Int)) := by rw [a1]; subst hP; rfl
    have i2 : P.i64 (P.mul 4 (P.add pn (P.slen tx))) := by rw [a2]; exact i64I hP (by omega)
    have a3 : P.add (P.mul 4 (P.add pn (P.slen tx))) kd = 4 * (pn + (tx.length : Int)) + kd := by rw [add_eq hP, a2]
    have i3 : P.i64 (P.add (P.mul 4 (P.add pn (P.slen tx))) kd) := by rw [a3]; exact i64I hP (by omega)
    have f2 := h3 (P.add (P.mul 4 (P.add pn (P.slen tx))) kd) (by rw [a3]; omega) (by rw [a3]; omega)
    have f2e := hpF (P.add (P.mul 4 (P.add pn (P.slen tx))) kd) (by rw [a3]; omega) (by rw [a3]; omega)
    have hpl : (pF (P.add (P.mul 4 (P.add pn (P.slen tx))) kd)).length ≤ 5 := by rw [f2e]; exact numL_len _
    have e2 : P.sapp o (P.sapp (pF (P.add (P.mul 4 (P.add pn (P.slen tx))) kd)) tx) = numL d.length ++ ((pre ++ [(⟨kd, pn, tx⟩ : Part)]).map pcode).flatten := by
      rw [f2e, a3, ho]
      subst hP
      show (_ ++ _) ++ (_ ++ tx) = _
      simp [pcode]
    generalize pF (P.add (P.mul 4 (P.add pn (P.slen tx))) kd) = z at f2 hpl e2
    have j1 : P.i64 (P.add (P.slen z) (P.slen tx)) := by rw [add_eq hP, hsp z, hsp tx]; exact i64I hP (by ((try simp only [nc] at *); omega))
    have j2 : P.i64 (P.add (P.slen o) (P.slen (P.sapp z tx))) := by rw [add_eq hP, hsp o, hsp, hap]; exact i64I hP (by ((try simp only [nc] at *); omega))
    have j3 : (P.sapp o (P.sapp z tx)).length ≤ 5 + 505 * (pre ++ [(⟨kd, pn, tx⟩ : Part)]).length := by rw [hap, hap]; simp; omega
    cbv
    refine ⟨k1, _, hrow, ?_⟩
    cbv
    intro β
    cbv
    repeat' (first
      | (refine And.intro (by assumption) ?_; try cbv)
      | (intro β; try cbv))
    refine f2 _ _ ?_
    cbv
    repeat' (first
      | (refine And.intro (by assumption) ?_; try cbv)
      | (intro β; try cbv))
    exact ⟨_, Ent.refl _, ⟨_, pre ++ [⟨kd, pn, tx⟩], rest, _, by simp [hd], k3, e2, j3⟩, ⟨rfl, rfl, rfl, rfl, trivial⟩, trivial, by simp⟩
  · have h6 : ¬ k < P.rlen rows := lt_f hP h
    rw [hl1] at h6
    rcases rest with _ | ⟨y, rest⟩
    rotate_left
    · exfalso; simp at hlp; ((try simp only [nc] at *); omega)
    have : o = r := by rw [ho, ← hres, hd]; simp [codeF, hlp]
    cbv
    exact hR _ _ _ this (Ent.refl _) rfl
theorem sp_rcode (d : List Part) (h : checkF d = 0) : Spec Try.prog 105 [.sl true 3 (d.map encPart)] Hp.emp (Is (.str (codeF d))) :=
  spec_pure dOk ok_rcode [.str (codeF d)] (.str _) fun R hR => vc_rcode std rfl _ _ d _ rfl (fun n => numL n.toNat) (checkF_all h).1 (checkF_all h).2.1
    (fun n h0 h1 => ansW (sp_rnum n h0 (by omega)) (fun _ => args_plain rfl) rfl) (fun n h0 h1 => ansP (sp_rnum n h0 (by omega)) (fun _ => args_plain rfl) rfl) (fun n _ _ => rfl) _ rfl R
    fun s0 s' x h he hr => by subst h; exact hR s0 s' he hr
/-! the reader -/
def obR (b : Nat) (s : List UInt8) (bad : Bool) : Ob := ⟨some b, 192, 2, [[.str s, .bool bad]]⟩
theorem obR_fz (b : Nat) (s : List UInt8) (bad : Bool) : (obR b s bad).Fz := by
  intro r hr v hv
  simp only [obR, List.mem_singleton] at hr
  subst hr
  simp only [List.mem_cons, List.not_mem_nil, or_false] at hv
  rcases hv with rfl | rfl
  · exact .str _
  · exact .bool _
def rnumF (s : List UInt8) (bad : Bool) : List UInt8 × Bool × Int := if (getS s).2.2 ≠ 0 then (s, true, 0) else (s.drop (getS s).2.1.toNat, bad, (getS s).1)
def rtextF (s : List UInt8) (bad : Bool) (n : Int) : List UInt8 × Bool × List UInt8 := if (s.length : Int) < n then (s, true, []) else (s.drop n.toNat, bad, s.take n.toNat)
def ac_rdn : AC := .seq (.region false [
    ⟨some 2, none, .mov (.c (.int .i64 0))⟩])
  (.seq (.region false [
    ⟨some 7, none, .mov (.t 0)⟩,
    ⟨some 8, none, .nilchk (.t 7)⟩,
    ⟨some 9, none, .faddr 0 (.t 8)⟩,
    ⟨some 10, none, .load1 (.t 9)⟩,
    ⟨some 11, none, .call 118 [(.t 10)]⟩,
    ⟨some 6, none, .mov (.t 11)⟩,
    ⟨some 12, none, .ext 0 (.t 6)⟩,
    ⟨some 13, none, .ext 1 (.t 6)⟩,
    ⟨some 14, none, .ext 2 (.t 6)⟩,
    ⟨some 3, none, .mov (.t 12)⟩,
    ⟨some 4, none, .mov (.t 13)⟩,
    ⟨some 5, none, .mov (.t 14)⟩])
  (.seq (.seq (.region false [
    ⟨some 15, none, .mov (.t 5)⟩,
    ⟨some 16, none, .bin .neq (.t 15) (.c (.int .i64 0))⟩])
  (.cond (.t 16)
    (.seq (.region false [
      ⟨some 17, none, .mov (.t 0)⟩,
      ⟨some 18, none, .nilchk (.t 17)⟩,
      ⟨some 19, none, .faddr 1 (.t 18)⟩,
      ⟨none, none, .store 1 (.t 19) (.c (.bool true))⟩])
    (.seq (.region false [
      ⟨some 2, none, .mov (.c (.int .i64 0))⟩])
    (.ret)))
    (.skip)))
  (.seq (.region false [
    ⟨some 20, none, .mov (.t 0)⟩,
    ⟨some 21, none, .mov (.t 0)⟩,
    ⟨some 22, none, .nilchk (.t 21)⟩,
    ⟨some 23, none, .faddr 0 (.t 22)⟩,
    ⟨some 24, none, .load1 (.t 23)⟩,
    ⟨some 25, none, .mov (.t 4)⟩,
    ⟨some 26, none, .slstr (.t 24) (some (.t 25)) none⟩,
    ⟨some 27, none, .nilchk (.t 20)⟩,
    ⟨some 28, none, .faddr 0 (.t 27)⟩,
    ⟨none, none, .store 1 (.t 28) (.t 26)⟩])
  (.seq (.region false [
    ⟨some 29, none, .mov (.t 3)⟩,
    ⟨some 2, none, .mov (.t 29)⟩])
  (.ret)))))
theorem ok_rdn : FnOk Try.prog 119 Try.f119 ac_rdn [.t 2] 1 drawD := ⟨Try.func119, by decide +kernel, by kernel_rfl, by kernel_rfl, by decide +kernel⟩
theorem vc_rdn (P : Prim) (hP : P = std) (T T1 : CallT) (b : Nat) (s : List UInt8) (bad : Bool) (n k e : Int) (h1 : Ans T 118 [.str s] (.tup [.int .i64 n, .int .i64 k, .int .i64 e])) (hk : e = 0 → 0 ≤ k ∧ k ≤ s.length)
    (s2 : List UInt8) (bad2 : Bool) (v : Int) (g1 : e ≠ 0 → s = s2 ∧ true = bad2 ∧ 0 = v) (g2 : e = 0 → s.drop k.toNat = s2 ∧ bad = bad2 ∧ n = v)
    (R : S → Prop) (hR : ∀ s0 s' x y z, x = s2 ∧ y = bad2 ∧ z = v → Ent s0 s' → resV s' [.t 2] (fun q => oneV q = .int .i64 z) → agreeH [(0, ⟨some b, 192, 2, [[.str x, .bool y]]⟩)] s' → R s0) :
    awp P T T1 ac_rdn (S0 [.ptr 0 (some b) 2 0 0] (lookH [(0, ⟨some b, 192, 2, [[.str s, .bool bad]]⟩)])) R (fun _ _ => False) R := by
  have hsp : P.slen s = (s.length : Int) := by subst hP; rfl
  cbv
  refine h1 _ _ ?_
  cbv
  refine br_cases (fun h => ?_) (fun h => ?_)
  · have hx := g1 (ne_t hP h)
    cbv
    repeat' (first
      | (refine And.intro (by assumption) ?_; try cbv)
      | (intro β; try cbv))
    exact hR _ _ _ _ _ hx (Ent.refl _) rfl ⟨rfl, trivial⟩
  · have he := ne_f hP h
    obtain ⟨x1, x2, x3⟩ := g2 he
    obtain ⟨y1, y2⟩ := hk he
    have l1 : P.leP 0 k := le0 hP y1
    have l2 : P.leP k (P.slen s) := leI hP (by rw [hsp]; exact y2)
    have l3 : P.leP (P.slen s) (P.slen s) := leI hP (Int.le_refl _)
    have e1 : P.ssub s k (P.slen s) = s2 := by
      rw [hsp, ← x1]; subst hP
      show (s.take ((s.length : Int)).toNat).drop k.toNat = _
      rw [Int.toNat_natCast, List.take_length]
    cbv
    repeat' (first
      | (refine And.intro (by assumption) ?_; try cbv)
      | (intro β; try cbv))
    exact hR _ _ _ _ _ ⟨e1, x2, x3⟩ (Ent.refl _) rfl ⟨rfl, trivial⟩
def ac_rdt : AC := .seq (.region false [
    ⟨some 4, none, .mov (.c (.string ⟨#[]⟩))⟩])
  (.seq (.seq (.region false [
    ⟨some 6, none, .mov (.t 1)⟩,
    ⟨some 7, none, .mov (.t 0)⟩,
    ⟨some 8, none, .nilchk (.t 7)⟩,
    ⟨some 9, none, .faddr 0 (.t 8)⟩,
    ⟨some 10, none, .load1 (.t 9)⟩,
    ⟨some 11, none, .len true (.t 10)⟩,
    ⟨some 12, none, .bin .gtr (.t 6) (.t 11)⟩])
  (.cond (.t 12)
    (.seq (.region false [
      ⟨some 13, none, .mov (.t 0)⟩,
      ⟨some 14, none, .nilchk (.t 13)⟩,
      ⟨some 15, none, .faddr 1 (.t 14)⟩,
      ⟨none, none, .store 1 (.t 15) (.c (.bool true))⟩])
    (.seq (.region false [
      ⟨some 4, none, .mov (.c (.string ⟨#[]⟩))⟩])
    (.ret)))
    (.skip)))
  (.seq (.region false [
    ⟨some 16, none, .mov (.t 0)⟩,
    ⟨some 17, none, .nilchk (.t 16)⟩,
    ⟨some 18, none, .faddr 0 (.t 17)⟩,
    ⟨some 19, none, .load1 (.t 18)⟩,
    ⟨some 20, none, .mov (.t 1)⟩,
    ⟨some 21, none, .slstr (.t 19) none (some (.t 20))⟩,
    ⟨some 5, none, .mov (.t 21)⟩])
  (.seq (.region false [
    ⟨some 22, none, .mov (.t 0)⟩,
    ⟨some 23, none, .mov (.t 0)⟩,
    ⟨some 24, none, .nilchk (.t 23)⟩,
    ⟨some 25, none, .faddr 0 (.t 24)⟩,
    ⟨some 26, none, .load1 (.t 25)⟩,
    ⟨some 27, none, .mov (.t 1)⟩,
    ⟨some 28, none, .slstr (.t 26) (some (.t 27)) none⟩,
    ⟨some 29, none, .nilchk (.t 22)⟩,
    ⟨some 30, none, .faddr 0 (.t 29)⟩,
    ⟨none, none, .store 1 (.t 30) (.t 28)⟩])
  (.seq (.region false [
    ⟨some 31, none, .mov (.t 5)⟩,
    ⟨some 4, none, .mov (.t 31)⟩])
  (.ret)))))
theorem ok_rdt : FnOk Try.prog 120 Try.f120 ac_rdt [.t 4] 2 drawD := ⟨Try.func120, by decide +kernel, by kernel_rfl, by kernel_rfl, by decide +kernel⟩
theorem vc_rdt (P : Prim) (hP : P = std) (T T1 : CallT) (b : Nat) (s : List UInt8) (bad : Bool) (n : Int) (hn : 0 ≤ n)
    (s2 : List UInt8) (bad2 : Bool) (v : List UInt8) (g1 : (s.length : Int) < n → s = s2 ∧ true = bad2 ∧ [] = v) (g2 : n ≤ s.length → s.drop n.toNat = s2 ∧ bad = bad2 ∧ s.take n.toNat = v)
    (R : S → Prop) (hR : ∀ s0 s' x y z, x = s2 ∧ y = bad2 ∧ z = v → Ent s0 s' → resV s' [.t 4] (fun q => oneV q = .str z) → agreeH [(0, ⟨some b, 192, 2, [[.str x, .bool y]]⟩)] s' → R s0) :
    awp P T T1 ac_rdt (S0 [.ptr 0 (some b) 2 0 0, .int .i64 n] (lookH [(0, ⟨some b, 192, 2, [[.str s, .bool bad]]⟩)])) R (fun _ _ => False) R := by
  have hsp : P.slen s = (s.length : Int) := by subst hP; rfl
  cbv
  refine br_cases (fun h => ?_) (fun h => ?_)
  · have hq : P.slen s < n := lt_t hP h
    rw [hsp] at hq
    have hx := g1 hq
    cbv
    repeat' (first
      | (refine And.intro (by assumption) ?_; try cbv)
      | (intro β; try cbv))
    exact hR _ _ _ _ _ hx (Ent.refl _) rfl ⟨rfl, trivial⟩
  · have hq : ¬ P.slen s < n := lt_f hP h
    rw [hsp] at hq
    obtain ⟨x1, x2, x3⟩ := g2 (by omega)
    have l0 : P.leP 0 0 := le0 hP (Int.le_refl 0)
    have l1 : P.leP 0 n := le0 hP hn
    have l2 : P.leP n (P.slen s) := leI hP (by rw [hsp]; omega)
    have l3 : P.leP (P.slen s) (P.slen s) := leI hP (Int.le_refl _)
    have e1 : P.ssub s n (P.slen s) = s2 := by
      rw [hsp, ← x1]; subst hP
      show (s.take ((s.length : Int)).toNat).drop n.toNat = _
      rw [Int.toNat_natCast, List.take_length]
    have e2 : P.ssub s 0 n = v := by
      rw [← x3]; subst hP
      show (s.take n.toNat).drop (0 : Int).toNat = _
      simp
    cbv
    repeat' (first
      | (refine And.intro (by assumption) ?_; try cbv)
      | (intro β; try cbv))
    exact hR _ _ _ _ _ ⟨e1, x2, e2⟩ (Ent.refl _) rfl ⟨rfl, trivial⟩
theorem getS_k {s : List UInt8} (h : (getS s).2.2 = 0) : 0 ≤ (getS s).2.1 ∧ (getS s).2.1 ≤ s.length := by
  obtain ⟨k, g1, _, g3, _⟩ := getS_num h
  omega
theorem sp_rdn (b : Nat) (s : List UInt8) (bad : Bool) (hs : s.length ≤ maxLen) : Spec Try.prog 119 [.ptr 0 (some b) 2 0 0] (lookH [(0, obR b s bad)]) (fun v h' => ∃ L', (v = .int .i64 (rnumF s bad).2.2 ∧ L' = [(0, obR b (rnumF s bad).1 (rnumF s bad).2.1)]) ∧ h' = lookH L') :=
  spec_meth dOk ok_rdn (L := [(0, obR b s bad)]) (fun v L' => v = .int .i64 (rnumF s bad).2.2 ∧ L' = [(0, obR b (rnumF s bad).1 (rnumF s bad).2.1)]) fun R hR =>
    vc_rdn std rfl _ _ b s bad (getS s).1 (getS s).2.1 (getS s).2.2 (ansW (sp_nget s hs) (fun _ => args_plain rfl) rfl) getS_k (rnumF s bad).1 (rnumF s bad).2.1 (rnumF s bad).2.2
      (fun h => by unfold rnumF; rw [if_pos h]; exact ⟨rfl, rfl, rfl⟩) (fun h => by unfold rnumF; rw [if_neg (fun g => g h)]; exact ⟨rfl, rfl, rfl⟩) R
      fun s0 s' x y z h he hr ha => by
        obtain ⟨rfl, rfl, rfl⟩ := h
        exact hR s0 s' _ [(0, _)] he hr ha (.int _ _) (by intro p hp; simp at hp; subst hp; exact obR_fz _ _ _) ⟨rfl, rfl⟩
theorem sp_rdt (b : Nat) (s : List UInt8) (bad : Bool) (n : Int) (hn : 0 ≤ n) : Spec Try.prog 120 [.ptr 0 (some b) 2 0 0, .int .i64 n] (lookH [(0, obR b s bad)]) (fun v h' => ∃ L', (v = .str (rtextF s bad n).2.2 ∧ L' = [(0, obR b (rtextF s bad n).1 (rtextF s bad n).2.1)]) ∧ h' = lookH L') :=
  spec_meth dOk ok_rdt (L := [(0, obR b s bad)]) (fun v L' => v = .str (rtextF s bad n).2.2 ∧ L' = [(0, obR b (rtextF s bad n).1 (rtextF s bad n).2.1)]) fun R hR =>
    vc_rdt std rfl _ _ b s bad n hn (rtextF s bad n).1 (rtextF s bad n).2.1 (rtextF s bad n).2.2
      (fun h => by unfold rtextF; rw [if_pos h]; exact ⟨rfl, rfl, rfl⟩) (fun h => by unfold rtextF; rw [if_neg (by omega)]; exact ⟨rfl, rfl, rfl⟩) R
      fun s0 s' x y z h he hr ha => by
        obtain ⟨rfl, rfl, rfl⟩ := h
        exact hR s0 s' _ [(0, _)] he hr ha (.str _) (by intro p hp; simp at hp; subst hp; exact obR_fz _ _ _) ⟨rfl, rfl⟩
def RnC (T : CallT) : Prop := ∀ (k b : Nat) (s : List UInt8) (bad : Bool) (h : Hp) (K : V → Hp → Prop), s.length ≤ maxLen → h k = some ⟨some b, 192, 2, [[.str s, .bool bad]]⟩ →
  (∀ (s2 : List UInt8) (bad2 : Bool) (v : Int), s2 = (rnumF s bad).1 ∧ bad2 = (rnumF s bad).2.1 ∧ v = (rnumF s bad).2.2 → K (.int .i64 v) (Hp.put h k ⟨some b, 192, 2, [[.str s2, .bool bad2]]⟩)) → T 119 [.ptr k (some b) 2 0 0] h K
def RtC (T : CallT) : Prop := ∀ (k b : Nat) (s : List UInt8) (bad : Bool) (n : Int) (h : Hp) (K : V → Hp → Prop), 0 ≤ n → h k = some ⟨some b, 192, 2, [[.str s, .bool bad]]⟩ →
  (∀ (s2 : List UInt8) (bad2 : Bool) (v : List UInt8), s2 = (rtextF s bad n).1 ∧ bad2 = (rtextF s bad n).2.1 ∧ v = (rtextF s bad n).2.2 → K (.str v) (Hp.put h k ⟨some b, 192, 2, [[.str s2, .bool bad2]]⟩)) → T 120 [.ptr k (some b) 2 0 0, .int .i64 n] h K
theorem obR_ren (b : Nat) (s : List UInt8) (bad : Bool) (f : Nat → Nat) : (obR b s bad).ren f = obR b s bad := by simp [Ob.ren, obR, V.rl]
theorem rnC : RnC (CallE Try.prog) := by
  intro k b s bad h K hs hk hK
  refine call1 (sp_rdn b s bad hs) (fun v L' h => ⟨_, h.2⟩) rfl (obR_ren _ _ _) (obR_fz _ _ _) hk ?_
  rintro v o' ⟨rfl, h2⟩
  simp only [List.cons.injEq, Prod.mk.injEq, and_true, true_and] at h2
  subst h2
  rw [obR_ren]
  exact hK _ _ _ ⟨rfl, rfl, rfl⟩
theorem rtC : RtC (CallE Try.prog) := by
  intro k b s bad n h K hn hk hK
  refine call1 (sp_rdt b s bad n hn) (fun v L' h => ⟨_, h.2⟩) rfl (obR_ren _ _ _) (obR_fz _ _ _) hk ?_
  rintro v o' ⟨rfl, h2⟩
  simp only [List.cons.injEq, Prod.mk.injEq, and_true, true_and] at h2
  subst h2
  rw [obR_ren]
  exact hK _ _ _ ⟨rfl, rfl, rfl⟩
/-! Read -/
def ac_cread : AC := .seq (.region false [
    ⟨some 2, none, .mov (.c (.slice none 0 0))⟩,
    ⟨some 3, none, .mov (.c (.int .i64 0))⟩])
  (.seq (.region false [
    ⟨some 9, none, .mov (.t 0)⟩,
    ⟨some 10, none, .build [(.string ⟨#[]⟩), (.bool false)] [(0, 1, (.t 9))]⟩,
    ⟨some 11, none, .box 192 2 (.t 10)⟩,
    ⟨some 4, none, .mov (.t 11)⟩])
  (.seq (.region false [
    ⟨some 5, none, .mov (.c (.slice none 0 0))⟩])
  (.seq (.seq (.region false [
    ⟨some 12, none, .mov (.t 4)⟩,
    ⟨some 13, none, .call 119 [(.t 12)]⟩,
    ⟨some 6, none, .mov (.t 13)⟩])
  (.block 0 (.loop (.seq (.seq (.region false [
      ⟨some 14, none, .mov (.t 6)⟩,
      ⟨some 15, none, .bin .gtr (.t 14) (.c (.int .i64 0))⟩,
      ⟨some 16, none, .mov (.t 15)⟩,
      ⟨some 17, some (16, true), .mov (.t 4)⟩,
      ⟨some 18, some (16, true), .nilchk (.t 17)⟩,
      ⟨some 19, some (16, true), .faddr 1 (.t 18)⟩,
      ⟨some 20, some (16, true), .load1 (.t 19)⟩,
      ⟨some 21, some (16, true), .not (.t 20)⟩,
      ⟨some 22, none, .pick (.t 16) (.t 21) (.c (.bool false))⟩])
    (.cond (.t 22)
      (.skip)
      (.exit 0)))
    (.seq (.block 1 (.seq (.region false [
      ⟨some 25, none, .mov (.t 4)⟩,
      ⟨some 26, none, .call 119 [(.t 25)]⟩,
      ⟨some 7, none, .mov (.t 26)⟩])
    (.seq (.region false [
      ⟨some 27, none, .mov (.t 7)⟩,
      ⟨some 28, none, .bin .rem (.t 27) (.c (.int .i64 4))⟩,
      ⟨some 29, none, .build [(.int .i64 0), (.int .i64 0), (.string ⟨#[]⟩)] [(0, 1, (.t 28))]⟩,
      ⟨some 8, none, .alloc 108 [(.int .i64 0), (.int .i64 0), (.string ⟨#[]⟩)]⟩,
      ⟨none, none, .store 3 (.t 8) (.t 29)⟩])
    (.seq (.seq (.region false [
      ⟨some 30, none, .faddr 0 (.t 8)⟩,
      ⟨some 31, none, .load1 (.t 30)⟩,
      ⟨some 32, none, .bin .eql (.t 31) (.c (.int .i64 2))⟩])
    (.cond (.t 32)
      (.region false [
        ⟨some 33, none, .mov (.t 4)⟩,
        ⟨some 34, none, .mov (.t 7)⟩,
        ⟨some 35, none, .bin .quo (.t 34) (.c (.int .i64 4))⟩,
        ⟨some 36, none, .call 120 [(.t 33), (.t 35)]⟩,
        ⟨some 37, none, .faddr 2 (.t 8)⟩,
        ⟨none, none, .store 1 (.t 37) (.t 36)⟩])
      (.region false [
        ⟨some 38, none, .mov (.t 7)⟩,
        ⟨some 39, none, .bin .quo (.t 38) (.c (.int .i64 4))⟩,
        ⟨some 40, none, .faddr 1 (.t 8)⟩,
        ⟨none, none, .store 1 (.t 40) (.t 39)⟩])))
    (.region false [
      ⟨some 41, none, .mov (.t 5)⟩,
      ⟨some 42, none, .loadn 3 (.t 8)⟩,
      ⟨some 43, none, .bslice 108 3 [(.t 42)]⟩,
      ⟨some 44, none, .append 108 3 32 (.t 41) (.t 43)⟩,
      ⟨some 5, none, .mov (.t 44)⟩])))))
    (.region false [
      ⟨some 23, none, .mov (.t 6)⟩,
      ⟨some 24, none, .bin .sub (.t 23) (.c (.int .i64 1))⟩,
      ⟨some 6, none, .mov (.t 24)⟩]))))))
  (.seq (.seq (.region false [
    ⟨some 45, none, .mov (.t 4)⟩,
    ⟨some 46, none, .nilchk (.t 45)⟩,
    ⟨some 47, none, .faddr 1 (.t 46)⟩,
    ⟨some 48, none, .load1 (.t 47)⟩,
    ⟨some 49, none, .mov (.t 48)⟩,
    ⟨some 50, some (49, false), .mov (.t 4)⟩,
    ⟨some 51, some (49, false), .nilchk (.t 50)⟩,
    ⟨some 52, some (49, false), .faddr 0 (.t 51)⟩,
    ⟨some 53, some (49, false), .load1 (.t 52)⟩,
    ⟨some 54, some (49, false), .bin .neq (.t 53) (.c (.string ⟨#[]⟩))⟩,
    ⟨some 55, none, .pick (.t 49) (.c (.bool true)) (.t 54)⟩,
    ⟨some 56, none, .mov (.t 55)⟩,
    ⟨some 57, some (56, false), .mov (.t 5)⟩,
    ⟨some 58, some (56, false), .call 89 [(.t 57)]⟩,
    ⟨some 59, some (56, false), .bin .neq (.t 58) (.c (.int .i64 0))⟩,
    ⟨some 60, none, .pick (.t 56) (.c (.bool true)) (.t 59)⟩])
  (.cond (.t 60)
    (.seq (.region false [
      ⟨some 2, none, .mov (.c (.slice none 0 0))⟩,
      ⟨some 3, none, .mov (.c (.int .i64 3))⟩])
    (.ret))
    (.skip)))
  (.seq (.region false [
    ⟨some 61, none, .mov (.t 5)⟩,
    ⟨some 2, none, .mov (.t 61)⟩,
    ⟨some 3, none, .mov (.c (.int .i64 0))⟩])
  (.ret))))))
theorem ok_cread : FnOk Try.prog 100 Try.f100 ac_cread [.t 2, .t 3] 1 drawD := ⟨Try.func100, by decide +kernel, by kernel_rfl, by kernel_rfl, by decide +kernel⟩
structure YRe (Q : List UInt8) where
  n : Nat
  nn : Int
  s : List UInt8
  bad : Bool
  out : List Part
  b : Option Nat
  c : Nat
  rows : List (List V)
  hnn : nn = (n : Int)
  hs : s.length ≤ maxLen
  good : bad = false → parseF Q = pcR n s out
  badd : bad = true → parseF Q = none
  hln : out.length + n ≤ 2147483647
  hrows : rows = out.map encPart
  hc : c = out.length
theorem vc_cread (P : Prim) (hP : P = std) (T T1 : CallT) (Q : List UInt8) (hQ : Q.length ≤ maxLen) (hrn : RnC T) (hrt : RtC T)
    (hck : ∀ (d : List Part) (h : Hp) (K : V → Hp → Prop) (k : Nat) (b : Option Nat) (n : Nat) (rs : List (List V)), d.length ≤ maxLen → rs = d.map encPart → n = rs.length → h k = some ⟨b, 108, 3, rs⟩ → K (.int .i64 (checkF d)) h → T 89 [.own k b 3 n] h K)
    (cF : List Part → Int) (hcF : ∀ d, cF d = checkF d)
    (r : List Part) (e : Int) (hr : readF Q = (r, e)) (rr : List (List V)) (hrr : rr = r.map encPart)
    (R : S → Prop) (hR : ∀ e2, e2 = e → RetSl [.t 2, .t 3] 3 rr [.int .i64 e2] R) : awp P T T1 ac_cread (S0 [.str Q] Hp.emp) R (fun _ _ => False) R := by
  have hml : maxLen = 9223372036854775807 := by decide
  have bad3 : r = [] ∧ 3 = e → ∀ s s', Ent s s' → Ret [.t 2, .t 3] [.nilsl, .int .i64 3] s' → R s := fun hx s s' he hret => (hR _ hx.2).1 _ _ he hret (by rw [hrr, hx.1]; rfl)
  have z4 : P.ltP 0 4 := ltI hP (by decide)
  cbv
  intro β
  cbv
  refine hrn _ _ _ _ _ _ hQ rfl fun s1 bad1 v1 hv1 => ?_
  cbv
  refine ⟨YRe Q, fun y => [(4, .ptr 11 (some β) 2 0 0), (5, .own 1000044 y.b 3 y.c), (6, .int .i64 y.nn)], fun y => [(11, ⟨some β, 192, 2, [[.str y.s, .bool y.bad]]⟩), (1000044, ⟨y.b, 108, 3, y.rows⟩)], fun y => y.n,
    ⟨_, Ent.nil (i := 5) (k := 1000044) (ty := 108) (sz := 3) rfl rfl, ⟨v1.toNat, v1, s1, bad1, [], _, _, _, ?_, ?_, ?_, ?_, ?_, rfl, rfl⟩, ⟨rfl, rfl, rfl, trivial⟩, ⟨rfl, rfl, trivial⟩⟩, ?_⟩
  · obtain ⟨_, _, h3⟩ := hv1
    have : 0 ≤ v1 := by
      rw [h3]; unfold rnumF
      split
      · exact Int.le_refl 0
      · rename_i hx
        obtain ⟨k, _, _, _, _, g4, _⟩ := getS_num (Decidable.of_not_not hx)
        exact g4
    ((try simp only [nc] at *); omega)
  · obtain ⟨h1, _, _⟩ := hv1
    rw [h1]; unfold rnumF
    split
    · exact hQ
    · simp only [List.length_drop]; omega
  · intro hb
    obtain ⟨h1, h2, h3⟩ := hv1
    unfold rnumF at h1 h2 h3
    split at h2
    · rw [h2] at hb; cases hb
    · rename_i hx
      rw [if_neg hx] at h1 h3
      dsimp only at h1 h3
      unfold parseF
      rw [if_neg hx, h1, h3]
  · intro hb
    obtain ⟨h1, h2, h3⟩ := hv1
    unfold rnumF at h2
    split at h2
    · rename_i hx; unfold parseF; rw [if_pos hx]
    · rw [h2] at hb; cases hb
  · obtain ⟨_, _, h3⟩ := hv1
    have : v1 ≤ 2147483647 := by
      rw [h3]; unfold rnumF
      split
      · exact (by decide : (0 : Int) ≤ 2147483647)
      · rename_i hx
        obtain ⟨k, _, _, _, _, _, g5, _⟩ := getS_num (Decidable.of_not_not hx)
        exact g5
    simp only [List.length_nil]; omega
  clear hv1
  rintro ⟨n, nn, s, bad, out, b, c, rows, hnn, hs, good, badd, hln, hrows, hc⟩
  replace hnn : nn = (n : Int) := hnn
  cases bad with
  | true =>
    have hx := badd rfl
    have hre : r = [] ∧ 3 = e := by unfold readF at hr; rw [hx] at hr; simp only [Prod.mk.injEq] at hr; exact ⟨hr.1.symm, hr.2⟩
    cbv
    refine br_cases (fun h => ?_) (fun h => ?_)
    · cbv
      exact bad3 hre _ _ (Ent.refl _) rfl
    · cbv
      exact bad3 hre _ _ (Ent.refl _) rfl
  | false =>
    have hpa := good rfl
    cbv
    refine br_cases (fun h => ?_) (fun h => ?_)
    · have h6 : 0 < nn := lt_t hP h
      obtain ⟨n, rfl⟩ : ∃ n', n = n' + 1 := ⟨n - 1, by ((try simp only [nc] at *); omega)⟩
      cbv
      refine hrn _ _ _ _ _ _ hs rfl fun s2 bad2 x hx => ?_
      obtain ⟨x1, x2, x3⟩ := hx
      have hx0 : 0 ≤ x ∧ x ≤ 2147483647 := by
        rw [x3]; unfold rnumF
        split
        · exact ⟨(by decide : (0 : Int) ≤ 0), (by decide : (0 : Int) ≤ 2147483647)⟩
        · rename_i hx
          obtain ⟨k, _, _, _, _, g4, g5, _⟩ := getS_num (Decidable.of_not_not hx)
          exact ⟨g4, g5⟩
      have hs2 : s2.length ≤ maxLen := by
        rw [x1]; unfold rnumF
        split
        · exact hs
        · simp only [List.length_drop]; omega
      have a1 : P.leP 0 x := le0 hP hx0.1
      have a2 : P.div x 4 = x / 4 := by subst hP; rfl
      have a3 : P.mod x 4 = x % 4 := by subst hP; rfl
      have a4 : P.i64 (P.div x 4) := by rw [a2]; exact i64I hP (by omega)
      have a5 : P.i64 (P.sub nn 1) := by rw [sub_eq hP]; exact i64I hP (by ((try simp only [nc] at *); omega))
      have a6 : P.sub nn 1 = (n : Int) := by rw [sub_eq hP]; ((try simp only [nc] at *); omega)
      have f4 : P.neP rows c := by subst hP; show rows.length = c; rw [hrows, hc]; simp
      have f5 : ∀ r, P.bytes (P.add (P.int c) (P.rlen [r])) 32 := by intro r; subst hP; show ((c : Int) + 1) * 32 ≤ _; rw [hc]; ((try simp only [nc] at *); omega)
      have f6 : ∀ r, P.neP [r] 1 := by intro r; subst hP; rfl
      have f7 : ∀ p : Part, P.rapp rows [encPart p] = (out ++ [p]).map encPart := by intro p; rw [hrows]; subst hP; simp [std]
      have f8 : ∀ (r : List V) (p : Part), P.nadd c (P.rlenN [r]) = (out ++ [p]).length := by intro r p; rw [hc]; subst hP; simp [std]
      have f9 : ∀ p : Part, (out ++ [p]).length + n ≤ 2147483647 := by intro p; simp; omega
      cbv
      refine ⟨a1, z4, ?_⟩
      intro β8
      cbv
      refine br_cases (fun h => ?_) (fun h => ?_)
      · have hk2 : P.mod x 4 = 2 := eq_t hP h
        cbv
        refine ⟨a1, z4, a4, ?_⟩
        refine hrt _ _ _ _ _ _ _ (by show 0 ≤ P.div x 4; rw [a2]; omega) rfl fun s3 bad3' v hv => ?_
        obtain ⟨w1, w2, w3⟩ := hv
        cbv
        repeat' (first
          | (refine And.intro (by assumption) ?_; try cbv)
          | (refine And.intro (f6 _) ?_; try cbv)
          | (refine And.intro (f5 _) ?_; try cbv)
          | (intro β; try cbv))
        refine ⟨_, Ent.refl _, ⟨n, _, s3, bad3', out ++ [⟨P.mod x 4, 0, v⟩], _, _, _, a6, ?_, ?_, ?_, f9 _, f7 ⟨P.mod x 4, 0, v⟩, f8 _ _⟩, ⟨rfl, rfl, rfl, trivial⟩, ⟨rfl, rfl, trivial⟩, Nat.lt_succ_self n⟩
        · rw [w1]; unfold rtextF
          split
          · exact hs2
          · simp only [List.length_drop]; omega
        · intro hb
          rw [hpa]
          unfold rtextF at w1 w2 w3
          split at w2
          · rw [w2] at hb; cases hb
          · rename_i hl
            rw [if_neg hl] at w1 w3
            dsimp only at w1 w3
            unfold rnumF at x1 x2 x3
            split at x2
            · rename_i he
              rw [if_pos he] at x3
              rw [a3, x3] at hk2
              exact absurd hk2 (by show ¬ (0 : Int) % 4 = 2; decide)
            · rename_i he
              rw [if_neg he] at x1 x3
              dsimp only at x1 x3
              rw [pcR, if_neg he, if_pos (by rw [← x3, ← a3]; exact hk2), if_neg (by rw [← x1, ← x3, ← a2]; exact hl), w1, w3, hk2, a2, x1, x3]
        · intro hb
          rw [hpa]
          unfold rtextF at w2
          split at w2
          · rename_i hl
            unfold rnumF at x1 x2 x3
            split at x2
            · rename_i he
              rw [pcR, if_pos he]
            · rename_i he
              rw [if_neg he] at x1 x3
              dsimp only at x1 x3
              rw [pcR, if_neg he, if_pos (by rw [← x3, ← a3]; exact hk2), if_pos (by rw [← x1, ← x3, ← a2]; exact hl)]
          · unfold rnumF at x2
            split at x2
            · rename_i he
              rw [pcR, if_pos he]
            · rw [w2, x2] at hb; cases hb
      · have hk2 : ¬ P.mod x 4 = 2 := eq_f hP h
        cbv
        refine ⟨a1, z4, a4, ?_⟩
        repeat' (first
          | (refine And.intro (by assumption) ?_; try cbv)
          | (refine And.intro (f6 _) ?_; try cbv)
          | (refine And.intro (f5 _) ?_; try cbv)
          | (intro β; try cbv))
        refine ⟨_, Ent.refl _, ⟨n, _, s2, bad2, out ++ [⟨P.mod x 4, P.div x 4, []⟩], _, _, _, a6, hs2, ?_, ?_, f9 _, f7 ⟨P.mod x 4, P.div x 4, []⟩, f8 _ _⟩, ⟨rfl, rfl, rfl, trivial⟩, ⟨rfl, rfl, trivial⟩, Nat.lt_succ_self n⟩
        · intro hb
          rw [hpa]
          unfold rnumF at x1 x2 x3
          split at x2
          · rw [x2] at hb; cases hb
          · rename_i he
            rw [if_neg he] at x1 x3
            dsimp only at x1 x3
            rw [pcR, if_neg he, if_neg (by rw [← x3, ← a3]; exact hk2), x1, a2, a3, x3]
        · intro hb
          rw [hpa]
          unfold rnumF at x2
          split at x2
          · rename_i he
            rw [pcR, if_pos he]
          · rw [x2] at hb; cases hb
    · have h6 : ¬ 0 < nn := lt_f hP h
      have hn0 : n = 0 := by ((try simp only [nc] at *); omega)
      subst hn0
      have hpr : parseF Q = some (s, out) := hpa
      unfold readF at hr
      rw [hpr] at hr
      simp only [] at hr
      have hol : out.length ≤ maxLen := by omega
      have hcl : c = rows.length := by rw [hc, hrows]; simp
      cbv
      refine br_cases (fun h => ?_) (fun h => ?_)
      · have hne : ¬ s = [] := sne_t hP h
        rw [if_neg (fun g => hne g.1)] at hr
        simp only [Prod.mk.injEq] at hr
        cbv
        exact bad3 ⟨hr.1.symm, hr.2⟩ _ _ (Ent.refl _) rfl
      · have hne : s = [] := sne_f hP h
        cbv
        refine hck out _ _ _ _ _ _ hol hrows hcl rfl ?_
        rw [← hcF]
        cbv
        refine br_cases (fun h => ?_) (fun h => ?_)
        · have hc0 := ne_t hP h
          rw [hcF] at hc0
          rw [if_neg (fun g => hc0 g.2)] at hr
          simp only [Prod.mk.injEq] at hr
          cbv
          exact bad3 ⟨hr.1.symm, hr.2⟩ _ _ (Ent.refl _) rfl
        · have hc0 := ne_f hP h
          rw [hcF] at hc0
          rw [if_pos ⟨hne, hc0⟩] at hr
          simp only [Prod.mk.injEq] at hr
          cbv
          exact (hR _ hr.2).2.1 _ _ _ _ _ _ _ (Ent.refl _) rfl rfl ⟨by rw [hcl, hrr, hrows, hr.1], by rw [hrr, hrows, hr.1]⟩
theorem sp_cread (Q : List UInt8) (hQ : Q.length ≤ maxLen) : Spec Try.prog 100 [.str Q] Hp.emp (Is (.tup [encParts (readF Q).1, .int .i64 (readF Q).2])) :=
  spec_frz dOk ok_cread fun R hR => vc_cread std rfl _ _ Q hQ rnC rtC (fun d h K k b n rs hd hrs hn hk hK => ownCall (sp_check d hd) rfl h K k b n rs hrs hn hk hK) checkF (fun _ => rfl) (readF Q).1 (readF Q).2 rfl _ rfl R
    fun x hx => by subst hx; exact retSl_of (parts_sz _) (encParts_fz _) (int_fz _) hR
/-! Decode -/
def ac_rdec : AC := .seq (.region false [
    ⟨some 2, none, .mov (.c (.slice none 0 0))⟩,
    ⟨some 3, none, .mov (.c (.int .i64 0))⟩])
  (.seq (.region false [
    ⟨some 13, none, .mov (.t 0)⟩,
    ⟨some 14, none, .call 103 [(.t 13)]⟩,
    ⟨some 12, none, .mov (.t 14)⟩,
    ⟨some 15, none, .ext 0 (.t 12)⟩,
    ⟨some 16, none, .ext 1 (.t 12)⟩,
    ⟨some 17, none, .ext 2 (.t 12)⟩,
    ⟨some 4, none, .mov (.t 15)⟩,
    ⟨some 5, none, .mov (.t 16)⟩,
    ⟨some 6, none, .mov (.t 17)⟩])
  (.seq (.seq (.region false [
    ⟨some 18, none, .mov (.t 6)⟩,
    ⟨some 19, none, .bin .neq (.t 18) (.c (.int .i64 0))⟩])
  (.cond (.t 19)
    (.seq (.region false [
      ⟨some 2, none, .mov (.c (.slice none 0 0))⟩,
      ⟨some 3, none, .mov (.c (.int .i64 3))⟩])
    (.ret))
    (.skip)))
  (.seq (.region false [
    ⟨some 7, none, .mov (.c (.slice none 0 0))⟩])
  (.seq (.seq (.region false [
    ⟨some 20, none, .mov (.t 4)⟩,
    ⟨some 21, none, .mov (.c (.int .i64 0))⟩])
  (.block 0 (.loop (.seq (.region false [
      ⟨some 22, none, .bin .lss (.t 21) (.t 20)⟩])
    (.seq (.cond (.t 22)
      (.skip)
      (.exit 0))
    (.seq (.block 1 (.seq (.region false [
      ⟨some 24, none, .mov (.t 0)⟩,
      ⟨some 25, none, .mov (.t 5)⟩,
      ⟨some 26, none, .slstr (.t 24) (some (.t 25)) none⟩,
      ⟨some 27, none, .call 103 [(.t 26)]⟩,
      ⟨some 23, none, .mov (.t 27)⟩,
      ⟨some 28, none, .ext 0 (.t 23)⟩,
      ⟨some 29, none, .ext 1 (.t 23)⟩,
      ⟨some 30, none, .ext 2 (.t 23)⟩,
      ⟨some 8, none, .mov (.t 28)⟩,
      ⟨some 9, none, .mov (.t 29)⟩,
      ⟨some 10, none, .mov (.t 30)⟩])
    (.seq (.seq (.region false [
      ⟨some 31, none, .mov (.t 10)⟩,
      ⟨some 32, none, .bin .neq (.t 31) (.c (.int .i64 0))⟩])
    (.cond (.t 32)
      (.seq (.region false [
        ⟨some 2, none, .mov (.c (.slice none 0 0))⟩,
        ⟨some 3, none, .mov (.c (.int .i64 3))⟩])
      (.ret))
      (.skip)))
    (.seq (.region false [
      ⟨some 33, none, .mov (.t 5)⟩,
      ⟨some 34, none, .mov (.t 9)⟩,
      ⟨some 35, none, .bin .add (.t 33) (.t 34)⟩,
      ⟨some 5, none, .mov (.t 35)⟩])
    (.seq (.region false [
      ⟨some 36, none, .mov (.t 8)⟩,
      ⟨some 37, none, .bin .rem (.t 36) (.c (.int .i64 4))⟩,
      ⟨some 38, none, .mov (.t 8)⟩,
      ⟨some 39, none, .bin .quo (.t 38) (.c (.int .i64 4))⟩,
      ⟨some 40, none, .build [(.int .i64 0), (.int .i64 0), (.string ⟨#[]⟩)] [(0, 1, (.t 37)), (1, 1, (.t 39))]⟩,
      ⟨some 11, none, .alloc 108 [(.int .i64 0), (.int .i64 0), (.string ⟨#[]⟩)]⟩,
      ⟨none, none, .store 3 (.t 11) (.t 40)⟩])
    (.seq (.seq (.region false [
      ⟨some 41, none, .faddr 0 (.t 11)⟩,
      ⟨some 42, none, .load1 (.t 41)⟩,
      ⟨some 43, none, .bin .eql (.t 42) (.c (.int .i64 2))⟩])
    (.cond (.t 43)
      (.seq (.seq (.region false [
        ⟨some 44, none, .faddr 1 (.t 11)⟩,
        ⟨some 45, none, .load1 (.t 44)⟩,
        ⟨some 46, none, .mov (.t 0)⟩,
        ⟨some 47, none, .len true (.t 46)⟩,
        ⟨some 48, none, .mov (.t 5)⟩,
        ⟨some 49, none, .bin .sub (.t 47) (.t 48)⟩,
        ⟨some 50, none, .bin .gtr (.t 45) (.t 49)⟩])
      (.cond (.t 50)
        (.seq (.region false [
          ⟨some 2, none, .mov (.c (.slice none 0 0))⟩,
          ⟨some 3, none, .mov (.c (.int .i64 3))⟩])
        (.ret))
        (.skip)))
      (.seq (.region false [
        ⟨some 51, none, .mov (.t 0)⟩,
        ⟨some 52, none, .mov (.t 5)⟩,
        ⟨some 53, none, .mov (.t 5)⟩,
        ⟨some 54, none, .faddr 1 (.t 11)⟩,
        ⟨some 55, none, .load1 (.t 54)⟩,
        ⟨some 56, none, .bin .add (.t 53) (.t 55)⟩,
        ⟨some 57, none, .slstr (.t 51) (some (.t 52)) (some (.t 56))⟩,
        ⟨some 58, none, .faddr 2 (.t 11)⟩,
        ⟨none, none, .store 1 (.t 58) (.t 57)⟩,
        ⟨some 59, none, .faddr 1 (.t 11)⟩,
        ⟨none, none, .store 1 (.t 59) (.c (.int .i64 0))⟩])
      (.region false [
        ⟨some 60, none, .mov (.t 5)⟩,
        ⟨some 61, none, .faddr 2 (.t 11)⟩,
        ⟨some 62, none, .load1 (.t 61)⟩,
        ⟨some 63, none, .len true (.t 62)⟩,
        ⟨some 64, none, .bin .add (.t 60) (.t 63)⟩,
        ⟨some 5, none, .mov (.t 64)⟩])))
      (.skip)))
    (.region false [
      ⟨some 65, none, .mov (.t 7)⟩,
      ⟨some 66, none, .loadn 3 (.t 11)⟩,
      ⟨some 67, none, .bslice 108 3 [(.t 66)]⟩,
      ⟨some 68, none, .append 108 3 32 (.t 65) (.t 67)⟩,
      ⟨some 7, none, .mov (.t 68)⟩])))))))
    (.region false [
      ⟨some 69, none, .bin .add (.t 21) (.c (.int .i64 1))⟩,
      ⟨some 21, none, .mov (.t 69)⟩])))))))
  (.seq (.seq (.region false [
    ⟨some 70, none, .mov (.t 7)⟩,
    ⟨some 71, none, .call 104 [(.t 70)]⟩,
    ⟨some 72, none, .bin .neq (.t 71) (.c (.int .i64 0))⟩,
    ⟨some 73, none, .mov (.t 72)⟩,
    ⟨some 74, some (73, false), .mov (.t 7)⟩,
    ⟨some 75, some (73, false), .call 105 [(.t 74)]⟩,
    ⟨some 76, some (73, false), .mov (.t 0)⟩,
    ⟨some 77, some (73, false), .bin .neq (.t 75) (.t 76)⟩,
    ⟨some 78, none, .pick (.t 73) (.c (.bool true)) (.t 77)⟩])
  (.cond (.t 78)
    (.seq (.region false [
      ⟨some 2, none, .mov (.c (.slice none 0 0))⟩,
      ⟨some 3, none, .mov (.c (.int .i64 3))⟩])
    (.ret))
    (.skip)))
  (.seq (.region false [
    ⟨some 79, none, .mov (.t 7)⟩,
    ⟨some 2, none, .mov (.t 79)⟩,
    ⟨some 3, none, .mov (.c (.int .i64 0))⟩])
  (.ret)))))))
theorem ok_rdec : FnOk Try.prog 75 Try.f75 ac_rdec [.t 2, .t 3] 1 drawD := ⟨Try.func75, by decide +kernel, by kernel_rfl, by kernel_rfl, by decide +kernel⟩
structure YDe (Q : List UInt8) (N : Int) where
  n : Nat
  m : Nat
  j : Int
  k : Int
  s : List UInt8
  out : List Part
  b : Option Nat
  c : Nat
  rows : List (List V)
  hj : j = (m : Int)
  hN : N = (m : Int) + (n : Int)
  hk : 0 ≤ k ∧ k ≤ (Q.length : Int)
  hs : s = Q.drop k.toNat
  hp : parseF Q = pcR n s out
  hm : out.length = m
  hrows : rows = out.map encPart
  hc : c = out.length
theorem vc_rdec (P : Prim) (hP : P = std) (T T1 : CallT) (Q : List UInt8) (hQ : Q.length ≤ maxLen) (uN uK uE : List UInt8 → Int) (huN : ∀ s, uN s = (getS s).1) (huK : ∀ s, uK s = (getS s).2.1) (huE : ∀ s, uE s = (getS s).2.2)
    (hun : ∀ s, s.length ≤ maxLen → Ans T 103 [.str s] (.tup [.int .i64 (uN s), .int .i64 (uK s), .int .i64 (uE s)]))
    (hck : ∀ (d : List Part) (h : Hp) (K : V → Hp → Prop) (k : Nat) (b : Option Nat) (n : Nat) (rs : List (List V)), d.length ≤ maxLen → rs = d.map encPart → n = rs.length → h k = some ⟨b, 108, 3, rs⟩ → K (.int .i64 (checkF d)) h → T 104 [.own k b 3 n] h K)
    (cF : List Part → Int) (hcF : ∀ d, cF d = checkF d) (cd : List Part → List UInt8) (hcd : ∀ d, cd d = codeF d)
    (hcode : ∀ (d : List Part) (h : Hp) (K : V → Hp → Prop) (k : Nat) (b : Option Nat) (n : Nat) (rs : List (List V)), checkF d = 0 → rs = d.map encPart → n = rs.length → h k = some ⟨b, 108, 3, rs⟩ → K (.str (cd d)) h → T 105 [.own k b 3 n] h K)
    (r : List Part) (e : Int) (hr : readF Q = (r, e)) (rr : List (List V)) (hrr : rr = r.map encPart)
    (R : S → Prop) (hR : ∀ e2, e2 = e → RetSl [.t 2, .t 3] 3 rr [.int .i64 e2] R) : awp P T T1 ac_rdec (S0 [.str Q] Hp.emp) R (fun _ _ => False) R := by
  have hml : maxLen = 9223372036854775807 := by decide
  have bad3 : parseF Q = none → ∀ s s', Ent s s' → Ret [.t 2, .t 3] [.nilsl, .int .i64 3] s' → R s := fun hx s s' he hret => by
    have hre : r = [] ∧ 3 = e := by unfold readF at hr; rw [hx] at hr; simp only [Prod.mk.injEq] at hr; exact ⟨hr.1.symm, hr.2⟩
    exact (hR _ hre.2).1 _ _ he hret (by rw [hrr, hre.1]; rfl)
  have z4 : P.ltP 0 4 := ltI hP (by decide)
  have hsp : ∀ x : List UInt8, P.slen x = (x.length : Int) := by intro x; subst hP; rfl
  have c0 := hun Q hQ
  cbv
  refine c0 _ _ ?_
  cbv
  refine br_cases (fun h => ?_) (fun h => ?_)
  · have hx := ne_t hP h
    rw [huE] at hx
    cbv
    exact bad3 (by unfold parseF; rw [if_pos hx]) _ _ (Ent.refl _) rfl
  have he0 := ne_f hP h
  rw [huE] at he0
  obtain ⟨k0, w1, w2, w3, w4, w5, w6, w7⟩ := getS_num he0
  have w8 := getS_k he0
  rw [← huK] at w1 w8
  rw [← huN] at w5 w6 w7
  have hp0 : parseF Q = pcR (uN Q).toNat (Q.drop (uK Q).toNat) [] := by unfold parseF; rw [if_neg (fun g => g he0), huN, huK]
  generalize hNq : uN Q = N at w5 w6 w7 hp0 ⊢
  generalize hKq : uK Q = K0 at w1 w8 hp0 ⊢
  clear h c0
  cbv
  refine ⟨YDe Q N, fun y => [(0, .str Q), (5, .int .i64 y.k), (7, .own 1000068 y.b 3 y.c), (20, .int .i64 N), (21, .int .i64 y.j)], fun y => [(1000068, ⟨y.b, 108, 3, y.rows⟩)], fun y => y.n,
    ⟨_, Ent.nil (i := 7) (k := 1000068) (ty := 108) (sz := 3) rfl rfl, ⟨N.toNat, 0, 0, K0, _, [], _, _, _, rfl, by omega, w8, rfl, hp0, rfl, rfl, rfl⟩, ⟨rfl, rfl, rfl, rfl, rfl, trivial⟩, ⟨rfl, trivial⟩⟩, ?_⟩
  rintro ⟨n, m, j, k, s, out, b, c, rows, hj, hN, hk, hs, hp, hm, hrows, hc⟩
  replace hj : j = (m : Int) := hj
  replace hN : N = (m : Int) + (n : Int) := hN
  replace hk : 0 ≤ k ∧ k ≤ (Q.length : Int) := hk
  cbv
  refine br_cases (fun h => ?_) (fun h => ?_)
  · have h6 : j < N := lt_t hP h
    obtain ⟨n, rfl⟩ : ∃ n', n = n' + 1 := ⟨n - 1, by ((try simp only [nc] at *); omega)⟩
    have hsl : s.length ≤ maxLen := by rw [hs, List.length_drop]; omega
    have hsl2 : (s.length : Int) = (Q.length : Int) - k := by rw [hs, List.length_drop]; ((try simp only [nc] at *); omega)
    have l1 : P.leP 0 k := le0 hP hk.1
    have l2 : P.leP k (P.slen Q) := leI hP (by rw [hsp]; exact hk.2)
    have l3 : P.leP (P.slen Q) (P.slen Q) := leI hP (Int.le_refl _)
    have e1 : P.ssub Q k (P.slen Q) = s := by
      rw [hsp, hs]; subst hP
      show (Q.take ((Q.length : Int)).toNat).drop k.toNat = _
      rw [Int.toNat_natCast, List.take_length]
    have c1 := hun s hsl
    rw [← e1] at c1
    have b1 : P.i64 (P.add j 1) := by rw [add_eq hP]; exact i64I hP (by ((try simp only [nc] at *); omega))
    have b2 : P.add j 1 = ((m + 1 : Nat) : Int) := by rw [add_eq hP]; ((try simp only [nc] at *); omega)
    have f4 : P.neP rows c := by subst hP; show rows.length = c; rw [hrows, hc]; simp
    have f5 : ∀ r, P.bytes (P.add (P.int c) (P.rlen [r])) 32 := by intro r; subst hP; show ((c : Int) + 1) * 32 ≤ _; rw [hc]; ((try simp only [nc] at *); omega)
    have f6 : ∀ r, P.neP [r] 1 := by intro r; subst hP; rfl
    have f7 : ∀ p : Part, P.rapp rows [encPart p] = (out ++ [p]).map encPart := by intro p; rw [hrows]; subst hP; simp [std]
    have f8 : ∀ (r : List V) (p : Part), P.nadd c (P.rlenN [r]) = (out ++ [p]).length := by intro r p; rw [hc]; subst hP; simp [std]
    have f9 : ∀ p : Part, (out ++ [p]).length = m + 1 := by intro p; simp [hm]
    have f10 : N = ((m + 1 : Nat) : Int) + (n : Int) := by ((try simp only [nc] at *); omega)
    cbv
    refine ⟨l1, l2, l3, ?_⟩
    refine c1 _ _ ?_
    rw [e1]
    cbv
    refine br_cases (fun h => ?_) (fun h => ?_)
    · have hx := ne_t hP h
      rw [huE] at hx
      cbv
      exact bad3 (by rw [hp, pcR, if_pos hx]) _ _ (Ent.refl _) rfl
    have he1 := ne_f hP h
    rw [huE] at he1
    obtain ⟨k1, y1, y2, y3, y4, y5, y6, y7⟩ := getS_num he1
    have y8 := getS_k he1
    rw [← huK] at y1 y8
    rw [← huN] at y5 y6 y7
    rw [pcR, if_neg (fun g => g he1), ← huN, ← huK] at hp
    clear c1
    generalize uN s = x at y5 y6 y7 hp ⊢
    generalize uK s = u at y1 y8 hp ⊢
    clear y1
    have y9 : u ≤ (Q.length : Int) - k := by rw [← hsl2]; exact y8.2
    have y10 : 0 ≤ u := y8.1
    have a1 : P.leP 0 x := le0 hP y5
    have a2 : P.div x 4 = x / 4 := by subst hP; rfl
    have a3 : P.mod x 4 = x % 4 := by subst hP; rfl
    have a4 : P.i64 (P.div x 4) := by rw [a2]; exact i64I hP (by omega)
    have a5 : P.add k u = k + u := add_eq hP _ _
    have a6 : P.i64 (P.add k u) := by rw [a5]; exact i64I hP (by omega)
    have a7 : s.drop u.toNat = Q.drop (P.add k u).toNat := by rw [hs, List.drop_drop, a5]; congr 1; omega
    have a8 : 0 ≤ P.add k u ∧ P.add k u ≤ (Q.length : Int) := by rw [a5]; omega
    have a9 : (((s.drop u.toNat).length : Nat) : Int) = (Q.length : Int) - P.add k u := by rw [List.length_drop, a5]; ((try simp only [nc] at *); omega)
    cbv
    refine ⟨a6, ?_⟩
    cbv
    refine ⟨a1, z4, a1, z4, a4, ?_⟩
    intro β
    cbv
    refine br_cases (fun h => ?_) (fun h => ?_)
    · have hk2 : P.mod x 4 = 2 := eq_t hP h
      rw [if_pos (by rw [← a3]; exact hk2), a9] at hp
      have s1 : P.i64 (P.sub (P.slen Q) (P.add k u)) := by rw [sub_eq hP, hsp]; exact i64I hP (by ((try simp only [nc] at *); omega))
      cbv
      refine ⟨s1, ?_⟩
      refine br_cases (fun h => ?_) (fun h => ?_)
      · have hl : P.sub (P.slen Q) (P.add k u) < P.div x 4 := lt_t hP h
        rw [sub_eq hP, hsp, a2] at hl
        rw [if_pos hl] at hp
        cbv
        exact bad3 hp _ _ (Ent.refl _) rfl
      · have hl : ¬ P.sub (P.slen Q) (P.add k u) < P.div x 4 := lt_f hP h
        rw [sub_eq hP, hsp, a2] at hl
        rw [if_neg hl] at hp
        have t1 : P.add (P.add k u) (P.div x 4) = P.add k u + x / 4 := by rw [add_eq hP (P.add k u), a2]
        have t2 : P.i64 (P.add (P.add k u) (P.div x 4)) := by rw [t1]; exact i64I hP (by ((try simp only [nc] at *); omega))
        have t3 : P.leP 0 (P.add k u) := le0 hP a8.1
        have t4 : P.leP (P.add k u) (P.add (P.add k u) (P.div x 4)) := leI hP (by rw [t1]; ((try simp only [nc] at *); omega))
        have t5 : P.leP (P.add (P.add k u) (P.div x 4)) (P.slen Q) := leI hP (by rw [t1, hsp]; ((try simp only [nc] at *); omega))
        have t6 : P.ssub Q (P.add k u) (P.add (P.add k u) (P.div x 4)) = (s.drop u.toNat).take (x / 4).toNat := by
          rw [t1, a7]
          have ha := a8
          generalize P.add k u = A at ha ⊢
          subst hP
          show (Q.take (A + x / 4).toNat).drop A.toNat = _
          rw [List.drop_take]; congr 1; ((try simp only [nc] at *); omega)
        have t7 : P.slen ((s.drop u.toNat).take (x / 4).toNat) = x / 4 := by rw [hsp, List.length_take]; ((try simp only [nc] at *); omega)
        have t8 : P.add (P.add k u) (P.slen (P.ssub Q (P.add k u) (P.add (P.add k u) (P.div x 4)))) = P.add k u + x / 4 := by rw [t6, t7, add_eq hP (P.add k u)]
        have t9 : P.i64 (P.add (P.add k u) (P.slen (P.ssub Q (P.add k u) (P.add (P.add k u) (P.div x 4))))) := by rw [t8]; exact i64I hP (by ((try simp only [nc] at *); omega))
        cbv
        repeat' (first
          | (refine And.intro (by assumption) ?_; try cbv)
          | (refine And.intro (f6 _) ?_; try cbv)
          | (refine And.intro (f5 _) ?_; try cbv)
          | (intro β; try cbv))
        refine ⟨_, Ent.refl _, ⟨n, m + 1, _, _, (s.drop u.toNat).drop (x / 4).toNat, out ++ [⟨P.mod x 4, 0, P.ssub Q (P.add k u) (P.add (P.add k u) (P.div x 4))⟩], _, _, _, b2, f10, ?_, ?_, ?_, f9 _, f7 ⟨P.mod x 4, 0, P.ssub Q (P.add k u) (P.add (P.add k u) (P.div x 4))⟩, f8 _ _⟩, ⟨rfl, rfl, rfl, rfl, rfl, trivial⟩, ⟨rfl, trivial⟩, Nat.lt_succ_self n⟩
        · show 0 ≤ P.add (P.add k u) (P.slen (P.ssub Q (P.add k u) (P.add (P.add k u) (P.div x 4)))) ∧ P.add (P.add k u) (P.slen (P.ssub Q (P.add k u) (P.add (P.add k u) (P.div x 4)))) ≤ (Q.length : Int)
          rw [t8]; ((try simp only [nc] at *); omega)
        · show _ = Q.drop (P.add (P.add k u) (P.slen (P.ssub Q (P.add k u) (P.add (P.add k u) (P.div x 4))))).toNat
          rw [t8, a7, List.drop_drop]; congr 1; ((try simp only [nc] at *); omega)
        · rw [hp, hk2, t6]
    · have hk2 : ¬ P.mod x 4 = 2 := eq_f hP h
      rw [if_neg (by rw [← a3]; exact hk2)] at hp
      cbv
      repeat' (first
        | (refine And.intro (by assumption) ?_; try cbv)
        | (refine And.intro (f6 _) ?_; try cbv)
        | (refine And.intro (f5 _) ?_; try cbv)
        | (intro β; try cbv))
      exact ⟨_, Ent.refl _, ⟨n, m + 1, _, _, s.drop u.toNat, out ++ [⟨P.mod x 4, P.div x 4, []⟩], _, _, _, b2, f10, a8, a7, by rw [hp, a2, a3], f9 _, f7 ⟨P.mod x 4, P.div x 4, []⟩, f8 _ _⟩, ⟨rfl, rfl, rfl, rfl, rfl, trivial⟩, ⟨rfl, trivial⟩, Nat.lt_succ_self n⟩
  · have h6 : ¬ j < N := lt_f hP h
    have hn0 : n = 0 := by ((try simp only [nc] at *); omega)
    subst hn0
    have hpr : parseF Q = some (s, out) := hp
    have hrc := read_code hpr
    unfold readF at hr
    rw [hpr] at hr
    simp only [] at hr
    have hol : out.length ≤ maxLen := by ((try simp only [nc] at *); omega)
    have hcl : c = rows.length := by rw [hc, hrows]; simp
    have bad4 : ¬ (s = [] ∧ checkF out = 0) → ∀ s s', Ent s s' → Ret [.t 2, .t 3] [.nilsl, .int .i64 3] s' → R s := fun hx s s' he hret => by
      rw [if_neg hx] at hr
      simp only [Prod.mk.injEq] at hr
      exact (hR _ hr.2).1 _ _ he hret (by rw [hrr, ← hr.1]; rfl)
    cbv
    refine hck out _ _ _ _ _ _ hol hrows hcl rfl ?_
    rw [← hcF]
    cbv
    refine br_cases (fun h => ?_) (fun h => ?_)
    · have hc0 := ne_t hP h
      rw [hcF] at hc0
      cbv
      exact bad4 (fun g => hc0 g.2) _ _ (Ent.refl _) rfl
    · have hc0 := ne_f hP h
      rw [hcF] at hc0
      cbv
      refine hcode out _ _ _ _ _ _ hc0 hrows hcl rfl ?_
      cbv
      refine br_cases (fun h => ?_) (fun h => ?_)
      · have hne := sne_t hP h
        rw [hcd] at hne
        cbv
        exact bad4 (fun g => hne (hrc.1 g.1)) _ _ (Ent.refl _) rfl
      · have hne := sne_f hP h
        rw [hcd] at hne
        rw [if_pos ⟨hrc.2 hne, hc0⟩] at hr
        simp only [Prod.mk.injEq] at hr
        cbv
        exact (hR _ hr.2).2.1 _ _ _ _ _ _ _ (Ent.refl _) rfl rfl ⟨by rw [hcl, hrr, hrows, hr.1], by rw [hrr, hrows, hr.1]⟩
theorem sp_rdec (Q : List UInt8) (hQ : Q.length ≤ maxLen) : Spec Try.prog 75 [.str Q] Hp.emp (Is (.tup [encParts (readF Q).1, .int .i64 (readF Q).2])) :=
  spec_frz dOk ok_rdec fun R hR => vc_rdec std rfl _ _ Q hQ (fun s => (getS s).1) (fun s => (getS s).2.1) (fun s => (getS s).2.2) (fun _ => rfl) (fun _ => rfl) (fun _ => rfl) (fun s hs => ansW (sp_runnum s hs) (fun _ => args_plain rfl) rfl)
    (fun d h K k b n rs hd hrs hn hk hK => ownCall (sp_rdelta d hd) rfl h K k b n rs hrs hn hk hK) checkF (fun _ => rfl) codeF (fun _ => rfl)
    (fun d h K k b n rs hd hrs hn hk hK => ownCall (sp_rcode d hd) rfl h K k b n rs hrs hn hk hK) (readF Q).1 (readF Q).2 rfl _ rfl R
    fun x hx => by subst hx; exact retSl_of (parts_sz _) (encParts_fz _) (int_fz _) hR
/-! the law -/
end Go.Proofs.Ytobngncjflogcaa.AM
