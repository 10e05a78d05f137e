/-
  What two texts have in common (the document's Common), what a delta costs, and the law DiffSays.
-/
import Derived.Test.YtlomnjlfmbolkaaMDiff1
import Derived.Test.YtlomnjlfmbolkaaMDo2
set_option linter.unusedVariables false
set_option linter.unusedSimpArgs false
namespace Go.Proofs.Ytlomnjlfmbolkaa.AM
open Go
set_option maxRecDepth 100000
set_option maxHeartbeats 2000000
/-! names -/
theorem Ent.drop (s : S) (k : Nat) : Ent s ⟨s.t, Hp.del s.h k⟩ := by
  intro C n0 a w hC hs0
  obtain ⟨F, hs, h2⟩ := hs0.ex
  have look : ∀ j p, Hp.del s.h k j = some p → s.h j = some p := fun j p h => by
    simp only [Hp.del] at h
    by_cases hj : j = k
    · rw [if_pos hj] at h; cases h
    · rw [if_neg hj] at h; exact h
  exact ⟨⟨F, ⟨fun j p hj => hs.ob j p (look j p hj), fun j j' p p' b hj hj' => hs.inj j j' p p' b (look j p hj) (look j' p' hj'), fun j p b hj => hs.live j p b (look j p hj), hs.old, hs.new, hs.lt, hs.ev⟩, h2⟩, hs0.df, hs0.sz⟩
theorem Ent.moveS {s : S} {k k' i : Nat} {o : Ob} {b : Option Nat} {sz n : Nat} (hk : s.h k = some o) (hk' : s.h k' = none) (hi : s.t i = .own k b sz n) : Ent s ⟨upd s.t i (.own k' b sz n), Hp.put (Hp.del s.h k) k' o⟩ := by
  intro C n0 a w hC hs0
  obtain ⟨F, hs, h2⟩ := hs0.ex
  have look : ∀ j p, Hp.put (Hp.del s.h k) k' o j = some p → (j = k' ∧ p = o) ∨ (j ≠ k' ∧ j ≠ k ∧ s.h j = some p) := fun j p hj => by
    simp only [Hp.put, Hp.del] at hj
    by_cases h1 : j = k'
    · rw [if_pos h1] at hj; cases hj; exact .inl ⟨h1, rfl⟩
    · rw [if_neg h1] at hj
      by_cases h3 : j = k
      · rw [if_pos h3] at hj; cases hj
      · rw [if_neg h3] at hj; exact .inr ⟨h1, h3, hj⟩
  refine ⟨⟨F, ⟨fun j p hj => ?_, fun j j' p p' b1 hj hj' hb1 hb2 => ?_, fun j p b1 hj hb1 => ?_, hs.old, hs.new, hs.lt, hs.ev⟩, fun j => ?_⟩, hs0.df, hs0.sz⟩
  · rcases look j p hj with ⟨_, rfl⟩ | ⟨_, _, h⟩
    · exact hs.ob k _ hk
    · exact hs.ob j p h
  · rcases look j p hj with ⟨rfl, rfl⟩ | ⟨h1, h3, h4⟩ <;> rcases look j' p' hj' with ⟨rfl, rfl⟩ | ⟨h1', h3', h4'⟩
    · rfl
    · exact absurd (hs.inj k j' _ p' b1 hk h4' hb1 hb2).symm h3'
    · exact absurd (hs.inj j k p _ b1 h4 hk hb1 hb2) h3
    · exact hs.inj j j' p p' b1 h4 h4' hb1 hb2
  · rcases look j p hj with ⟨_, rfl⟩ | ⟨_, _, h⟩
    · exact hs.live k _ b1 hk hb1
    · exact hs.live j p b1 h hb1
  · simp only [upd]
    by_cases hj : j = i
    · rw [if_pos hj]
      have := h2 j
      rw [hj, hi] at this
      rw [hj]
      exact (Rk.own b sz n : Rk k k' _ _).rel this
    · rw [if_neg hj]; exact h2 j
/-! Common -/
def plc (s t : List UInt8) (i k : Nat) : Nat := lcs (s.take i).reverse (t.take k).reverse
theorem plc_zero_left (s t : List UInt8) (k : Nat) : plc s t 0 k = 0 := by unfold plc; rw [List.take_zero]; exact lcs_nil_left _
theorem plc_zero_right (s t : List UInt8) (i : Nat) : plc s t i 0 = 0 := by unfold plc; rw [List.take_zero]; exact lcs_nil_right _
theorem plc_step {s t : List UInt8} {i k : Nat} (hi : i < s.length) (hk : k < t.length) : plc s t (i + 1) (k + 1) = if s.getD i 0 = t.getD k 0 then 1 + plc s t i k else max (plc s t i (k + 1)) (plc s t (i + 1) k) := by
  have e1 : s.getD i 0 = s[i] := by rw [List.getD_eq_getElem?_getD, List.getElem?_eq_getElem hi]; rfl
  have e2 : t.getD k 0 = t[k] := by rw [List.getD_eq_getElem?_getD, List.getElem?_eq_getElem hk]; rfl
  unfold plc
  rw [List.take_succ_eq_append_getElem hi, List.take_succ_eq_append_getElem hk, List.reverse_append, List.reverse_append, List.reverse_singleton, List.reverse_singleton, List.singleton_append, List.singleton_append, lcs_cons, e1, e2]
theorem plc_all (s t : List UInt8) : plc s t s.length t.length = lcs s t := by
  unfold plc
  rw [List.take_length, List.take_length, lcs_reverse]
theorem plc_le (s t : List UInt8) (i k : Nat) : plc s t i k ≤ s.length := by
  obtain ⟨l, h1, _, h3⟩ := lcs_ex (s.take i).reverse (t.take k).reverse
  have := h1.length_le
  rw [List.length_reverse, List.length_take] at this
  unfold plc
  omega
/-- row i of the table, done up to place k -/
def comC (s t : List UInt8) (i k : Nat) : List Int := (List.range (t.length + 1)).map fun c => if c ≤ k then (plc s t i c : Int) else 0
theorem comC_len (s t : List UInt8) (i k : Nat) : (comC s t i k).length = t.length + 1 := by simp [comC]
theorem comC_get {s t : List UInt8} {i k c : Nat} (h : c < t.length + 1) : (comC s t i k)[c]? = some (if c ≤ k then (plc s t i c : Int) else 0) := by
  unfold comC; rw [List.getElem?_map, List.getElem?_range h]; rfl
theorem comC_ext {s t : List UInt8} {i k : Nat} {l : List Int} (hl : l.length = t.length + 1) (h : ∀ c, c < t.length + 1 → l[c]? = some (if c ≤ k then (plc s t i c : Int) else 0)) : comC s t i k = l := by
  refine List.ext_getElem? fun c => ?_
  by_cases hc : c < t.length + 1
  · rw [comC_get hc, h c hc]
  · rw [List.getElem?_eq_none (by rw [comC_len]; omega), List.getElem?_eq_none (by omega)]
theorem comC_zero (s t : List UInt8) : comC s t 0 t.length = List.replicate (t.length + 1) 0 := by
  refine comC_ext (by simp) fun c hc => ?_
  rw [List.getElem?_replicate, if_pos hc, plc_zero_left]
  split <;> rfl
theorem comC_start (s t : List UInt8) (i : Nat) : comC s t i 0 = List.replicate (t.length + 1) 0 := by
  refine comC_ext (by simp) fun c hc => ?_
  rw [List.getElem?_replicate, if_pos hc]
  split
  · have : c = 0 := by omega
    subst this; rw [plc_zero_right]; rfl
  · rfl
theorem comC_set {s t : List UInt8} {i k : Nat} (hk : k < t.length) {v : Int} (hv : v = (plc s t i (k + 1) : Int)) : (comC s t i k).set (k + 1) v = comC s t i (k + 1) := by
  symm
  refine comC_ext (by rw [List.length_set, comC_len]) fun c hc => ?_
  by_cases h : c = k + 1
  · subst h
    rw [List.getElem?_set_self (by rw [comC_len]; omega), if_pos (Nat.le_refl _), hv]
  · rw [List.getElem?_set_ne (fun e => h e.symm), comC_get hc]
    by_cases g : c ≤ k
    · rw [if_pos g, if_pos (by omega)]
    · rw [if_neg g, if_neg (by omega)]
def ac_com : AC := .seq (.region false [
    ⟨some 4, none, .mov (.c (.int .i64 0))⟩])
  (.seq (.region false [
    ⟨some 9, none, .mov (.t 1)⟩,
    ⟨some 10, none, .len true (.t 9)⟩,
    ⟨some 11, none, .bin .add (.t 10) (.c (.int .i64 1))⟩,
    ⟨some 12, none, .mkslice 3 1 8 [(.int .i64 0)] (.t 11) (.t 11)⟩,
    ⟨some 5, none, .mov (.t 12)⟩])
  (.seq (.seq (.region false [
    ⟨some 13, none, .mov (.t 0)⟩,
    ⟨some 14, none, .len true (.t 13)⟩,
    ⟨some 15, none, .mov (.c (.int .i64 0))⟩])
  (.block 0 (.loop (.seq (.region false [
      ⟨some 16, none, .bin .lss (.t 15) (.t 14)⟩])
    (.seq (.cond (.t 16)
      (.skip)
      (.exit 0))
    (.seq (.block 1 (.seq (.region false [
      ⟨some 17, none, .mov (.t 15)⟩,
      ⟨some 6, none, .mov (.t 17)⟩])
    (.seq (.region false [
      ⟨some 18, none, .mov (.t 1)⟩,
      ⟨some 19, none, .len true (.t 18)⟩,
      ⟨some 20, none, .bin .add (.t 19) (.c (.int .i64 1))⟩,
      ⟨some 21, none, .mkslice 3 1 8 [(.int .i64 0)] (.t 20) (.t 20)⟩,
      ⟨some 7, none, .mov (.t 21)⟩])
    (.seq (.seq (.region false [
      ⟨some 22, none, .mov (.t 1)⟩,
      ⟨some 23, none, .len true (.t 22)⟩,
      ⟨some 24, none, .mov (.c (.int .i64 0))⟩])
    (.block 2 (.loop (.seq (.region false [
        ⟨some 25, none, .bin .lss (.t 24) (.t 23)⟩])
      (.seq (.cond (.t 25)
        (.skip)
        (.exit 2))
      (.seq (.block 3 (.seq (.region false [
        ⟨some 26, none, .mov (.t 24)⟩,
        ⟨some 8, none, .mov (.t 26)⟩])
      (.seq (.region true [
        ⟨some 27, none, .mov (.t 7)⟩,
        ⟨some 28, none, .mov (.t 8)⟩,
        ⟨some 29, none, .bin .add (.t 28) (.c (.int .i64 1))⟩,
        ⟨some 30, none, .mov (.t 7)⟩,
        ⟨some 31, none, .mov (.t 8)⟩,
        ⟨some 32, none, .iaddr 1 (.t 30) (.t 31)⟩,
        ⟨some 33, none, .load1 (.t 32)⟩,
        ⟨some 34, none, .mov (.t 5)⟩,
        ⟨some 35, none, .mov (.t 8)⟩,
        ⟨some 36, none, .bin .add (.t 35) (.c (.int .i64 1))⟩,
        ⟨some 37, none, .iaddr 1 (.t 34) (.t 36)⟩,
        ⟨some 38, none, .load1 (.t 37)⟩,
        ⟨some 39, none, .mm true (.t 33) (.t 38)⟩,
        ⟨some 40, none, .iaddr 1 (.t 27) (.t 29)⟩,
        ⟨none, none, .store 1 (.t 40) (.t 39)⟩])
      (.seq (.region true [
        ⟨some 41, none, .mov (.t 0)⟩,
        ⟨some 42, none, .mov (.t 6)⟩,
        ⟨some 43, none, .ixs (.t 41) (.t 42)⟩,
        ⟨some 44, none, .mov (.t 1)⟩,
        ⟨some 45, none, .mov (.t 8)⟩,
        ⟨some 46, none, .ixs (.t 44) (.t 45)⟩,
        ⟨some 47, none, .bin .eql (.t 43) (.t 46)⟩])
      (.cond (.t 47)
        (.region false [
          ⟨some 48, none, .mov (.t 7)⟩,
          ⟨some 49, none, .mov (.t 8)⟩,
          ⟨some 50, none, .bin .add (.t 49) (.c (.int .i64 1))⟩,
          ⟨some 51, none, .mov (.t 5)⟩,
          ⟨some 52, none, .mov (.t 8)⟩,
          ⟨some 53, none, .iaddr 1 (.t 51) (.t 52)⟩,
          ⟨some 54, none, .load1 (.t 53)⟩,
          ⟨some 55, none, .bin .add (.t 54) (.c (.int .i64 1))⟩,
          ⟨some 56, none, .iaddr 1 (.t 48) (.t 50)⟩,
          ⟨none, none, .store 1 (.t 56) (.t 55)⟩])
        (.skip))))))
      (.region false [
        ⟨some 57, none, .bin .add (.t 24) (.c (.int .i64 1))⟩,
        ⟨some 24, none, .mov (.t 57)⟩])))))))
    (.region false [
      ⟨some 58, none, .mov (.t 7)⟩,
      ⟨some 5, none, .mov (.t 58)⟩])))))
    (.region false [
      ⟨some 59, none, .bin .add (.t 15) (.c (.int .i64 1))⟩,
      ⟨some 15, none, .mov (.t 59)⟩])))))))
  (.seq (.region false [
    ⟨some 60, none, .mov (.t 5)⟩,
    ⟨some 61, none, .mov (.t 1)⟩,
    ⟨some 62, none, .len true (.t 61)⟩,
    ⟨some 63, none, .iaddr 1 (.t 60) (.t 62)⟩,
    ⟨some 64, none, .load1 (.t 63)⟩,
    ⟨some 4, none, .mov (.t 64)⟩])
  (.ret))))
theorem ok_com : FnOk Try.prog 30 Try.f30 ac_com [.t 4] 2 drawD := ⟨Try.func30, by decide +kernel, by kernel_rfl, by kernel_rfl, by decide +kernel⟩
structure YC1 (s t : List UInt8) where
  i : Nat
  k : Int
  b : Option Nat
  rows : List (List V)
  hi : i ≤ s.length
  hk : k = (i : Int)
  hrows : rows = iRows (comC s t i t.length)
structure YC2 (s t : List UInt8) (i : Nat) where
  j : Nat
  k : Int
  b : Option Nat
  rows : List (List V)
  hj : j ≤ t.length
  hk : k = (j : Int)
  hrows : rows = iRows (comC s t (i + 1) j)
theorem vc_com (P : Prim) (hP : P = std) (T T1 : CallT) (s t : List UInt8) (hsl : s.length ≤ 500) (htl : t.length ≤ 500)
    (R : S → Prop) (hR : ∀ s0 s' x, x = (lcs s t : Int) → Ent s0 s' → Ret [.t 4] [.int .i64 x] s' → R s0) : awp P T T1 ac_com (S0 [.str s, .str t] Hp.emp) R (fun _ _ => False) R := by
  have hsp : P.slen s = (s.length : Int) := slen_eq hP s
  have htp : P.slen t = (t.length : Int) := slen_eq hP t
  obtain ⟨w, hw⟩ : ∃ w, w = t.length + 1 := ⟨_, rfl⟩
  have tn : P.add (P.slen t) 1 = (w : Int) := by rw [add_eq hP, htp, hw]; ((try simp only [nc] at *); omega)
  have t1 : P.i64 (P.add (P.slen t) 1) := by rw [tn]; exact i64I hP (by ((try simp only [nc] at *); omega))
  have t2 : P.leP 0 (P.add (P.slen t) 1) := le0 hP (by rw [tn]; ((try simp only [nc] at *); omega))
  have t3 : P.bytes (P.add (P.slen t) 1) 8 := by rw [tn]; subst hP; show (w : Int) * 8 ≤ _; ((try simp only [nc] at *); omega)
  have t4 : P.leP (P.add (P.slen t) 1) 140737488355328 := leI hP (by rw [tn]; ((try simp only [nc] at *); omega))
  have t5 : P.nat (P.add (P.slen t) 1) = w := by rw [tn]; subst hP; rfl
  have t6 : P.rrep (P.add (P.slen t) 1) [.int .i64 0] = iRows (List.replicate w 0) := by rw [tn]; subst hP; simp [std, iRows]
  have t7 : P.int (P.nat (P.add (P.slen t) 1)) = (w : Int) := by rw [t5]; exact int_eq hP w
  cbv
  repeat' (first
    | (refine And.intro (by first | assumption | rfl) ?_; try cbv)
    | (intro β; try cbv))
  refine ⟨YC1 s t, fun y => [(0, .str s), (1, .str t), (5, .own 1000012 y.b 1 (P.nat (P.add (P.slen t) 1))), (14, .int .i64 (P.slen s)), (15, .int .i64 y.k)],
    fun y => [(1000012, ⟨y.b, 3, 1, y.rows⟩)], fun y => s.length - y.i,
    ⟨_, Ent.refl _, ⟨0, 0, some β, P.rrep (P.add (P.slen t) 1) [.int .i64 0], by omega, rfl, by rw [t6, comC_zero, hw]⟩, ⟨rfl, rfl, rfl, rfl, rfl, trivial⟩, ⟨rfl, trivial⟩⟩, ?_⟩
  rintro ⟨i, k, b, rows, hi, hk, hrows⟩
  cbv
  refine br_cases (fun g => ?_) (fun g => ?_)
  · have g1 : k < P.slen s := lt_t hP g
    rw [hsp] at g1
    have his : i < s.length := by ((try simp only [nc] at *); omega)
    have k1 : P.i64 (P.add k 1) := by rw [add_eq hP]; exact i64I hP (by ((try simp only [nc] at *); omega))
    have k2 : P.add k 1 = ((i + 1 : Nat) : Int) := by rw [add_eq hP, hk]; ((try simp only [nc] at *); omega)
    have k3 : P.leP 0 k := le0 hP (by ((try simp only [nc] at *); omega))
    have k4 : P.ltP k (P.slen s) := ltI hP (by rw [hsp]; ((try simp only [nc] at *); omega))
    cbv
    repeat' (first
      | (refine And.intro (by first | assumption | rfl) ?_; try cbv)
      | (intro βn; try cbv))
    refine ⟨YC2 s t i, fun y => [(0, .str s), (1, .str t), (5, .own 1000012 b 1 (P.nat (P.add (P.slen t) 1))), (6, .int .i64 k), (7, .own 1000021 y.b 1 (P.nat (P.add (P.slen t) 1))), (14, .int .i64 (P.slen s)), (15, .int .i64 k), (23, .int .i64 (P.slen t)), (24, .int .i64 y.k)],
      fun y => [(1000012, ⟨b, 3, 1, rows⟩), (1000021, ⟨y.b, 3, 1, y.rows⟩)], fun y => t.length - y.j,
      ⟨_, Ent.refl _, ⟨0, 0, some βn, P.rrep (P.add (P.slen t) 1) [.int .i64 0], by omega, rfl, by rw [t6, comC_start, hw]⟩, ⟨rfl, rfl, rfl, rfl, rfl, rfl, rfl, rfl, rfl, trivial⟩, ⟨rfl, rfl, trivial⟩⟩, ?_⟩
    rintro ⟨j, k9, b9, rows9, hj, hk9, hrows9⟩
    cbv
    refine br_cases (fun g => ?_) (fun g => ?_)
    · have g3 : k9 < P.slen t := lt_t hP g
      rw [htp] at g3
      have hjt : j < t.length := by ((try simp only [nc] at *); omega)
      have q1 : P.i64 (P.add k9 1) := by rw [add_eq hP]; exact i64I hP (by ((try simp only [nc] at *); omega))
      have q2 : P.add k9 1 = ((j + 1 : Nat) : Int) := by rw [add_eq hP, hk9]; ((try simp only [nc] at *); omega)
      have q3 : P.leP 0 k9 := le0 hP (by ((try simp only [nc] at *); omega))
      have q4 : P.ltP k9 (P.slen t) := ltI hP (by rw [htp]; ((try simp only [nc] at *); omega))
      have q5 : P.leP 0 (P.add k9 1) := le0 hP (by rw [q2]; ((try simp only [nc] at *); omega))
      have q6 : P.ltP k9 (P.int (P.nat (P.add (P.slen t) 1))) := ltI hP (by rw [t7]; ((try simp only [nc] at *); omega))
      have q7 : P.ltP (P.add k9 1) (P.int (P.nat (P.add (P.slen t) 1))) := ltI hP (by rw [t7, q2]; ((try simp only [nc] at *); omega))
      have c1 : P.row rows9 (P.nat k9) [.int .i64 (plc s t (i + 1) j : Int)] := row_of hP hk9 (by rw [hrows9, iRows, List.getElem?_map, comC_get (by omega), if_pos (Nat.le_refl _)]; rfl)
      have c2 : P.row rows (P.nat (P.add k9 1)) [.int .i64 (plc s t i (j + 1) : Int)] := row_of hP q2 (by rw [hrows, iRows, List.getElem?_map, comC_get (by omega), if_pos (by omega)]; rfl)
      have c3 : P.row rows (P.nat k9) [.int .i64 (plc s t i j : Int)] := row_of hP hk9 (by rw [hrows, iRows, List.getElem?_map, comC_get (by omega), if_pos (by omega)]; rfl)
      obtain ⟨z, cz⟩ : ∃ z, P.row rows9 (P.nat (P.add k9 1)) [.int .i64 z] := ⟨_, row_of hP q2 (by rw [hrows9, iRows, List.getElem?_map, comC_get (by omega)]; rfl)⟩
      have hst := plc_step his hjt
      have hle := plc_le s t i j
      have hn : P.nat (P.add k9 1) = j + 1 := by rw [q2]; subst hP; rfl
      have newr : ∀ v : Int, v = (plc s t (i + 1) (j + 1) : Int) → P.rset rows9 (P.nat (P.add k9 1)) [.int .i64 v] = iRows (comC s t (i + 1) (j + 1)) := fun v hv => by
        rw [hrows9, hn, ← comC_set hjt hv]
        subst hP
        show (iRows _).set (j + 1) _ = _
        unfold iRows
        rw [List.map_set]
      have twice : ∀ a c : List V, P.rset (P.rset rows9 (P.nat (P.add k9 1)) a) (P.nat (P.add k9 1)) c = P.rset rows9 (P.nat (P.add k9 1)) c := fun a c => by
        subst hP
        show (rows9.set _ a).set _ c = rows9.set _ c
        rw [List.set_set]
      have rowN : ∀ a : List V, P.row (P.rset rows9 (P.nat (P.add k9 1)) a) (P.nat (P.add k9 1)) a := fun a => by
        subst hP
        show (rows9.set _ a)[_]? = some a
        refine List.getElem?_set_self ?_
        rw [hn, hrows9, iRows, List.length_map, comC_len]; omega
      have satE : P.sat s k = P.sat t k9 ↔ s.getD i 0 = t.getD j 0 := by
        rw [hk, hk9, sat_eqN hP, sat_eqN hP]
        exact ⟨fun h => UInt8.toNat.inj (by ((try simp only [nc] at *); omega)), fun h => by rw [h]⟩
      generalize plc s t (i + 1) j = x1 at c1 hst
      generalize plc s t i (j + 1) = x2 at c2 hst
      generalize plc s t i j = x3 at c3 hst hle
      have a1 : P.mx (x1 : Int) (x2 : Int) = ((max x2 x1 : Nat) : Int) := by rw [mx_eq hP]; ((try simp only [nc] at *); omega)
      have a2 : P.add (x3 : Int) 1 = ((1 + x3 : Nat) : Int) := by rw [add_eq hP]; ((try simp only [nc] at *); omega)
      have a3 : P.i64 (P.add (x3 : Int) 1) := by rw [a2]; exact i64I hP (by ((try simp only [nc] at *); omega))
      cbv
      repeat' (first
        | (refine And.intro (by first | assumption | rfl) ?_; try cbv)
        | (intro βi; try cbv))
      refine ⟨_, c1, ?_⟩
      cbv
      repeat' (first
        | (refine And.intro (by first | assumption | rfl) ?_; try cbv)
        | (intro βi; try cbv))
      refine ⟨_, c2, ?_⟩
      cbv
      repeat' (first
        | (refine And.intro (by first | assumption | rfl) ?_; try cbv)
        | (intro βi; try cbv))
      refine ⟨_, cz, ?_⟩
      cbv
      repeat' (first
        | (refine And.intro (by first | assumption | rfl) ?_; try cbv)
        | (intro βi; try cbv))
      refine br_cases (fun g => ?_) (fun g => ?_)
      · rw [if_pos (satE.1 (eq_t hP g))] at hst
        cbv
        repeat' (first
          | (refine And.intro (by first | assumption | rfl) ?_; try cbv)
          | (intro βi; try cbv))
        refine ⟨_, c3, ?_⟩
        cbv
        repeat' (first
          | (refine And.intro (by first | assumption | rfl) ?_; try cbv)
          | (intro βi; try cbv))
        refine ⟨_, rowN _, ?_⟩
        cbv
        repeat' (first
          | (refine And.intro (by first | assumption | rfl) ?_; try cbv)
          | (intro βi; try cbv))
        exact ⟨_, Ent.refl _, ⟨j + 1, _, b9, _, by omega, q2, (twice _ _).trans (newr (P.add (x3 : Int) 1) (by rw [a2, hst]))⟩, ⟨rfl, rfl, rfl, rfl, rfl, rfl, rfl, rfl, rfl, trivial⟩, ⟨rfl, rfl, trivial⟩, by show t.length - (j + 1) < t.length - j; omega⟩
      · rw [if_neg (fun x => eq_f hP g (satE.2 x))] at hst
        cbv
        repeat' (first
          | (refine And.intro (by first | assumption | rfl) ?_; try cbv)
          | (intro βi; try cbv))
        exact ⟨_, Ent.refl _, ⟨j + 1, _, b9, _, by omega, q2, newr (P.mx (x1 : Int) (x2 : Int)) (by rw [a1, hst])⟩, ⟨rfl, rfl, rfl, rfl, rfl, rfl, rfl, rfl, rfl, trivial⟩, ⟨rfl, rfl, trivial⟩, by show t.length - (j + 1) < t.length - j; omega⟩
    · have g3 : ¬ k9 < P.slen t := lt_f hP g
      rw [htp] at g3
      have hjt : j = t.length := by ((try simp only [nc] at *); omega)
      cbv
      refine ⟨k1, ?_⟩
      refine ⟨_, (Ent.drop _ 1000012).trans (Ent.moveS (k := 1000021) (k' := 1000012) (i := 5) (o := ⟨b9, 3, 1, rows9⟩) (b := b9) (sz := 1) rfl rfl rfl), ⟨i + 1, _, b9, rows9, his, k2, by rw [hrows9, hjt]⟩, ⟨rfl, rfl, rfl, rfl, rfl, trivial⟩, ⟨rfl, trivial⟩, by show s.length - (i + 1) < s.length - i; omega⟩
  · have g1 : ¬ k < P.slen s := lt_f hP g
    rw [hsp] at g1
    have his : i = s.length := by ((try simp only [nc] at *); omega)
    have q1 : P.leP 0 (P.slen t) := le0 hP (by rw [htp]; ((try simp only [nc] at *); omega))
    have q2 : P.ltP (P.slen t) (P.int (P.nat (P.add (P.slen t) 1))) := ltI hP (by rw [t7, htp]; ((try simp only [nc] at *); omega))
    have c1 : P.row rows (P.nat (P.slen t)) [.int .i64 (lcs s t : Int)] := row_of hP htp (by rw [hrows, iRows, List.getElem?_map, comC_get (by omega), if_pos (Nat.le_refl _), his, plc_all]; rfl)
    generalize lcs s t = x at c1 hR
    cbv
    repeat' (first
      | (refine And.intro (by first | assumption | rfl) ?_; try cbv)
      | (intro βi; try cbv))
    refine ⟨_, c1, ?_⟩
    cbv
    exact hR _ _ _ rfl (Ent.refl _) rfl
theorem sp_com (s t : List UInt8) (hsl : s.length ≤ 500) (htl : t.length ≤ 500) : Spec Try.prog 30 [.str s, .str t] Hp.emp (Is (.int .i64 (lcs s t : Int))) :=
  spec_pure dOk ok_com [.int .i64 (lcs s t : Int)] (.int _ _) fun R hR => vc_com std rfl _ _ s t hsl htl R fun s s' b h he hr => by subst h; exact hR s s' he hr
/-! Cost -/
def ac_cost : AC := .seq (.region false [
    ⟨some 2, none, .mov (.c (.int .i64 0))⟩])
  (.seq (.region false [
    ⟨some 3, none, .mov (.c (.int .i64 0))⟩])
  (.seq (.seq (.region false [
    ⟨some 6, none, .mov (.t 0)⟩,
    ⟨some 7, none, .len false (.t 6)⟩,
    ⟨some 8, none, .mov (.c (.int .i64 0))⟩])
  (.block 0 (.loop (.seq (.region false [
      ⟨some 9, none, .bin .lss (.t 8) (.t 7)⟩])
    (.seq (.cond (.t 9)
      (.skip)
      (.exit 0))
    (.seq (.block 1 (.seq (.region false [
      ⟨some 10, none, .iaddr 3 (.t 6) (.t 8)⟩,
      ⟨some 11, none, .loadn 3 (.t 10)⟩,
      ⟨some 5, none, .alloc 111 [(.int .i64 0), (.int .i64 0), (.string ⟨#[]⟩)]⟩,
      ⟨none, none, .store 3 (.t 5) (.t 11)⟩])
    (.seq (.region false [
      ⟨some 12, none, .faddr 0 (.t 5)⟩,
      ⟨some 13, none, .load1 (.t 12)⟩,
      ⟨some 14, none, .bin .neq (.t 13) (.c (.int .i64 1))⟩])
    (.cond (.t 14)
      (.region false [
        ⟨some 15, none, .mov (.t 3)⟩,
        ⟨some 16, none, .faddr 1 (.t 5)⟩,
        ⟨some 17, none, .load1 (.t 16)⟩,
        ⟨some 18, none, .faddr 2 (.t 5)⟩,
        ⟨some 19, none, .load1 (.t 18)⟩,
        ⟨some 20, none, .len true (.t 19)⟩,
        ⟨some 21, none, .bin .add (.t 17) (.t 20)⟩,
        ⟨some 22, none, .bin .add (.t 15) (.t 21)⟩,
        ⟨some 3, none, .mov (.t 22)⟩])
      (.skip)))))
    (.region false [
      ⟨some 23, none, .bin .add (.t 8) (.c (.int .i64 1))⟩,
      ⟨some 8, none, .mov (.t 23)⟩])))))))
  (.seq (.region false [
    ⟨some 24, none, .mov (.t 3)⟩,
    ⟨some 2, none, .mov (.t 24)⟩])
  (.ret))))
theorem ok_cost : FnOk Try.prog 29 Try.f29 ac_cost [.t 2] 1 drawD := ⟨Try.func29, by decide +kernel, by kernel_rfl, by kernel_rfl, by decide +kernel⟩
structure YCo (d : List Part) where
  k : Int
  pre : List Part
  rest : List Part
  c : Int
  hd : d = pre ++ rest
  hk : k = (pre.length : Int)
  hc : c = costP pre
theorem costP_bd (d : List Part) (h : ∀ p ∈ d, okP p) : 0 ≤ costP d ∧ costP d ≤ 1000 * d.length := by
  induction d with
  | nil => simp [costP]
  | cons p d ih =>
    have := ih fun q hq => h q (by simp [hq])
    have hp := okP_bd (h p (by simp))
    simp only [costP, List.length_cons]
    split <;> omega
theorem vc_cost (P : Prim) (hP : P = std) (T T1 : CallT) (d : List Part) (hl : d.length ≤ 1600) (hok : ∀ p ∈ d, okP p) (rows : List (List V)) (hrows : rows = d.map encPart)
    (R : S → Prop) (hR : ∀ s0 s' x, x = costP d → Ent s0 s' → Ret [.t 2] [.int .i64 x] s' → R s0) : awp P T T1 ac_cost (S0 [.sl true 3 rows] Hp.emp) R (fun _ _ => False) R := by
  have hl1 : P.rlen rows = (d.length : Int) := by rw [rlen_eq hP, hrows]; simp
  cbv
  refine ⟨YCo d, fun y => [(3, .int .i64 y.c), (6, .sl true 3 rows), (7, .int .i64 (P.rlen rows)), (8, .int .i64 y.k)], fun y => [], fun y => y.rest.length,
    ⟨_, Ent.refl _, ⟨0, [], d, 0, rfl, rfl, rfl⟩, ⟨rfl, rfl, rfl, rfl, trivial⟩, trivial⟩, ?_⟩
  rintro ⟨k, pre, rest, c, hd, hk, hc⟩
  replace hk : k = (pre.length : Int) := hk
  have hlp : pre.length + rest.length = d.length := by rw [hd]; simp
  cbv
  refine br_cases (fun h => ?_) (fun h => ?_)
  · have h6 : k < P.rlen rows := lt_t hP h
    rw [hl1] at h6
    rcases rest with _ | ⟨⟨kd, pn, tx⟩, rest⟩
    · exfalso; simp at hlp; ((try simp only [nc] at *); omega)
    have hrow : P.row rows (P.nat k) [.int .i64 kd, .int .i64 pn, .str tx] := row_of hP hk (by rw [hrows, List.getElem?_map, hd]; simp [encPart])
    have hp := okP_bd (hok ⟨kd, pn, tx⟩ (by rw [hd]; simp))
    simp only [] at hp
    have hb := costP_bd pre (fun p hp => hok p (by rw [hd]; simp [hp]))
    have k1 : P.leP 0 k := le0 hP (by ((try simp only [nc] at *); omega))
    have k2 : P.i64 (P.add k 1) := by rw [add_eq hP]; exact i64I hP (by ((try simp only [nc] at *); omega))
    have k3 : P.add k 1 = (((pre ++ [(⟨kd, pn, tx⟩ : Part)]).length : Nat) : Int) := by rw [add_eq hP, hk]; simp
    have a1 : P.add pn (P.slen tx) = pn + (tx.length : Int) := by rw [add_eq hP, slen_eq hP]
    have a2 : P.i64 (P.add pn (P.slen tx)) := by rw [a1]; exact i64I hP (by omega)
    have a3 : P.add c (P.add pn (P.slen tx)) = c + (pn + (tx.length : Int)) := by rw [add_eq hP c, a1]
    have a4 : P.i64 (P.add c (P.add pn (P.slen tx))) := by rw [a3, hc]; exact i64I hP (by ((try simp only [nc] at *); omega))
    have hcs : costP (pre ++ [⟨kd, pn, tx⟩]) = costP pre + (if kd = 1 then 0 else pn + (tx.length : Int)) := by rw [costP_app]; simp [costP]
    cbv
    repeat' (first
      | (refine And.intro (by first | assumption | rfl) ?_; try cbv)
      | (intro β; try cbv))
    refine ⟨_, hrow, ?_⟩
    cbv
    repeat' (first
      | (refine And.intro (by first | assumption | decide) ?_; try cbv)
      | (intro β; try cbv))
    refine br_cases (fun h => ?_) (fun h => ?_)
    · rw [if_neg (ne_t hP h)] at hcs
      cbv
      repeat' (first
        | (refine And.intro (by first | assumption | decide) ?_; try cbv)
        | (intro β; try cbv))
      exact ⟨_, Ent.refl _, ⟨_, pre ++ [⟨kd, pn, tx⟩], rest, _, by simp [hd], k3, a3.trans (by rw [hc, hcs])⟩, ⟨rfl, rfl, rfl, rfl, trivial⟩, trivial, by simp⟩
    · rw [if_pos (ne_f hP h)] at hcs
      cbv
      repeat' (first
        | (refine And.intro (by first | assumption | decide) ?_; try cbv)
        | (intro β; try cbv))
      exact ⟨_, Ent.refl _, ⟨_, pre ++ [⟨kd, pn, tx⟩], rest, _, by simp [hd], k3, by rw [hc, hcs]; simp⟩, ⟨rfl, rfl, rfl, rfl, trivial⟩, trivial, by simp⟩
  · have h6 : ¬ k < P.rlen rows := lt_f hP h
    rw [hl1] at h6
    rcases rest with _ | ⟨y, rest⟩
    rotate_left
    · exfalso; simp at hlp; ((try simp only [nc] at *); omega)
    cbv
    exact hR _ _ _ (by rw [hc, hd, List.append_nil]) (Ent.refl _) rfl
theorem sp_cost (d : List Part) (hl : d.length ≤ 1600) (hok : ∀ p ∈ d, okP p) : Spec Try.prog 29 [.sl true 3 (d.map encPart)] Hp.emp (Is (.int .i64 (costP d))) :=
  spec_pure dOk ok_cost [.int .i64 (costP d)] (.int _ _) fun R hR => vc_cost std rfl _ _ d hl hok _ rfl R fun s s' b h he hr => by subst h; exact hR s s' he hr
/-! the law -/
def ac_ldf : AC := .seq (.region false [
    ⟨some 4, none, .mov (.c (.bool false))⟩])
  (.seq (.region false [
    ⟨some 10, none, .mov (.t 0)⟩,
    ⟨some 11, none, .mov (.t 1)⟩,
    ⟨some 12, none, .call 27 [(.t 10), (.t 11)]⟩,
    ⟨some 9, none, .mov (.t 12)⟩,
    ⟨some 13, none, .ext 0 (.t 9)⟩,
    ⟨some 14, none, .ext 1 (.t 9)⟩,
    ⟨some 5, none, .mov (.t 13)⟩,
    ⟨some 6, none, .mov (.t 14)⟩])
  (.seq (.seq (.region false [
    ⟨some 15, none, .mov (.t 0)⟩,
    ⟨some 16, none, .len true (.t 15)⟩,
    ⟨some 17, none, .bin .gtr (.t 16) (.c (.int .i64 500))⟩,
    ⟨some 18, none, .mov (.t 17)⟩,
    ⟨some 19, some (18, false), .mov (.t 1)⟩,
    ⟨some 20, some (18, false), .len true (.t 19)⟩,
    ⟨some 21, some (18, false), .bin .gtr (.t 20) (.c (.int .i64 500))⟩,
    ⟨some 22, none, .pick (.t 18) (.c (.bool true)) (.t 21)⟩])
  (.cond (.t 22)
    (.seq (.region false [
      ⟨some 23, none, .mov (.t 6)⟩,
      ⟨some 24, none, .bin .eql (.t 23) (.c (.int .i64 2))⟩,
      ⟨some 25, none, .mov (.t 24)⟩,
      ⟨some 26, some (25, true), .mov (.t 5)⟩,
      ⟨some 27, some (25, true), .len false (.t 26)⟩,
      ⟨some 28, some (25, true), .bin .eql (.t 27) (.c (.int .i64 0))⟩,
      ⟨some 29, none, .pick (.t 25) (.t 28) (.c (.bool false))⟩,
      ⟨some 4, none, .mov (.t 29)⟩])
    (.ret))
    (.skip)))
  (.seq (.region false [
    ⟨some 31, none, .mov (.t 5)⟩,
    ⟨some 32, none, .mov (.t 0)⟩,
    ⟨some 33, none, .call 28 [(.t 31), (.t 32)]⟩,
    ⟨some 30, none, .mov (.t 33)⟩,
    ⟨some 34, none, .ext 0 (.t 30)⟩,
    ⟨some 35, none, .ext 1 (.t 30)⟩,
    ⟨some 7, none, .mov (.t 34)⟩,
    ⟨some 8, none, .mov (.t 35)⟩])
  (.seq (.region false [
    ⟨some 36, none, .mov (.t 6)⟩,
    ⟨some 37, none, .bin .eql (.t 36) (.c (.int .i64 0))⟩,
    ⟨some 38, none, .mov (.t 37)⟩,
    ⟨some 39, some (38, true), .mov (.t 8)⟩,
    ⟨some 40, some (38, true), .bin .eql (.t 39) (.c (.int .i64 0))⟩,
    ⟨some 41, none, .pick (.t 38) (.t 40) (.c (.bool false))⟩,
    ⟨some 42, none, .mov (.t 41)⟩,
    ⟨some 43, some (42, true), .mov (.t 7)⟩,
    ⟨some 44, some (42, true), .mov (.t 1)⟩,
    ⟨some 45, some (42, true), .bin .eql (.t 43) (.t 44)⟩,
    ⟨some 46, none, .pick (.t 42) (.t 45) (.c (.bool false))⟩,
    ⟨some 47, none, .mov (.t 46)⟩,
    ⟨some 48, some (47, true), .mov (.t 5)⟩,
    ⟨some 49, some (47, true), .call 29 [(.t 48)]⟩,
    ⟨some 50, some (47, true), .mov (.t 0)⟩,
    ⟨some 51, some (47, true), .len true (.t 50)⟩,
    ⟨some 52, some (47, true), .mov (.t 1)⟩,
    ⟨some 53, some (47, true), .len true (.t 52)⟩,
    ⟨some 54, some (47, true), .bin .add (.t 51) (.t 53)⟩,
    ⟨some 55, some (47, true), .mov (.t 0)⟩,
    ⟨some 56, some (47, true), .mov (.t 1)⟩,
    ⟨some 57, some (47, true), .call 30 [(.t 55), (.t 56)]⟩,
    ⟨some 58, some (47, true), .bin .mul (.c (.int .i64 2)) (.t 57)⟩,
    ⟨some 59, some (47, true), .bin .sub (.t 54) (.t 58)⟩,
    ⟨some 60, some (47, true), .bin .eql (.t 49) (.t 59)⟩,
    ⟨some 61, none, .pick (.t 47) (.t 60) (.c (.bool false))⟩,
    ⟨some 4, none, .mov (.t 61)⟩])
  (.ret)))))
theorem ok_ldf : FnOk Try.prog 7 Try.f7 ac_ldf [.t 4] 2 drawD := ⟨Try.func7, by decide +kernel, by kernel_rfl, by kernel_rfl, by decide +kernel⟩
theorem vc_ldf (P : Prim) (hP : P = std) (T T1 : CallT) (s t : List UInt8) (dr : List (List V)) (e c : Int) (x : Nat)
    (h1 : Ans T 27 [.str s, .str t] (.tup [.sl false 3 dr, .int .i64 e])) (hb : 500 < s.length ∨ 500 < t.length → dr = [] ∧ e = 2)
    (hg : ¬ (500 < s.length ∨ 500 < t.length) → e = 0 ∧ Ans T 28 [.sl false 3 dr, .str s] (.tup [.str t, .int .i64 0]) ∧ Ans T 29 [.sl false 3 dr] (.int .i64 c) ∧ Ans T 30 [.str s, .str t] (.int .i64 (x : Int)) ∧ c = (s.length : Int) + t.length - 2 * (x : Int) ∧ x ≤ 500)
    (R : S → Prop) (hR : ∀ s s' b, b = true → Ent s s' → Ret [.t 4] [.bool b] s' → R s) : awp P T T1 ac_ldf (S0 [.str s, .str t] Hp.emp) R (fun _ _ => False) R := by
  have hsp : P.slen s = (s.length : Int) := slen_eq hP s
  have htp : P.slen t = (t.length : Int) := slen_eq hP t
  cbv
  refine h1 _ _ ?_
  clear h1
  cbv
  by_cases hs : 500 < s.length
  · obtain ⟨g1, g2⟩ := hb (.inl hs)
    have g3 : P.rlen dr = 0 := by rw [rlen_eq hP, g1]; rfl
    refine br_tt (lt_T hP (by show 500 < P.slen s; rw [hsp]; ((try simp only [nc] at *); omega))) ?_
    cbv
    refine br_tt (eq_T hP g2) ?_
    cbv
    exact hR _ _ _ (eq_T hP g3) (Ent.refl _) rfl
  refine br_ff (lt_F hP (by show ¬ 500 < P.slen s; rw [hsp]; ((try simp only [nc] at *); omega))) ?_
  cbv
  by_cases ht : 500 < t.length
  · obtain ⟨g1, g2⟩ := hb (.inr ht)
    have g3 : P.rlen dr = 0 := by rw [rlen_eq hP, g1]; rfl
    refine br_tt (lt_T hP (by show 500 < P.slen t; rw [htp]; ((try simp only [nc] at *); omega))) ?_
    cbv
    refine br_tt (eq_T hP g2) ?_
    cbv
    exact hR _ _ _ (eq_T hP g3) (Ent.refl _) rfl
  refine br_ff (lt_F hP (by show ¬ 500 < P.slen t; rw [htp]; ((try simp only [nc] at *); omega))) ?_
  obtain ⟨g1, g2, g3, g4, g5, g6⟩ := hg (by omega)
  have a1 : P.add (P.slen s) (P.slen t) = (s.length : Int) + t.length := by rw [add_eq hP, hsp, htp]
  have a2 : P.i64 (P.add (P.slen s) (P.slen t)) := by rw [a1]; exact i64I hP (by ((try simp only [nc] at *); omega))
  have a3 : P.mul 2 (x : Int) = 2 * (x : Int) := by subst hP; rfl
  have a4 : P.i64 (P.mul 2 (x : Int)) := by rw [a3]; exact i64I hP (by ((try simp only [nc] at *); omega))
  have a5 : P.sub (P.add (P.slen s) (P.slen t)) (P.mul 2 (x : Int)) = c := by rw [sub_eq hP, a1, a3, g5]
  have a6 : P.i64 (P.sub (P.add (P.slen s) (P.slen t)) (P.mul 2 (x : Int))) := by rw [sub_eq hP, a1, a3]; exact i64I hP (by ((try simp only [nc] at *); omega))
  clear hg hb
  cbv
  refine g2 _ _ ?_
  cbv
  refine br_tt (eq_T hP g1) ?_
  cbv
  refine br_tt (eq_T hP rfl) ?_
  cbv
  refine br_tt (seq_T hP rfl) ?_
  cbv
  refine g3 _ _ ?_
  cbv
  refine ⟨a2, ?_⟩
  refine g4 _ _ ?_
  cbv
  refine ⟨a4, a6, ?_⟩
  cbv
  exact hR _ _ _ (eq_T hP a5.symm) (Ent.refl _) rfl
theorem sp_law_diffSays (s t : List UInt8) (_ : s.length ≤ maxLen) (_ : t.length ≤ maxLen) : Spec Try.prog 7 [.str s, .str t] Hp.emp (Is (.bool true)) :=
  spec_pure dOk ok_ldf [.bool true] (.bool _) fun R hR => vc_ldf std rfl _ _ s t ((diffF s t).1.map encPart) (diffF s t).2 (costP (diffF s t).1) (lcs s t) (ansSame (sp_diff s t) rfl rfl)
    (fun h => by unfold diffF; rw [if_pos h]; exact ⟨rfl, rfl⟩)
    (fun h => by
      obtain ⟨d1, d2, d3, d4⟩ := diff_all s t
      have hi : inT (toks (mkD (diffT s t))) ≤ 500 := by rw [inT_mkD, d2]; omega
      have ho : outT (toks (mkD (diffT s t))) ≤ 500 := by rw [outT_mkD, d3]; omega
      have hck : checkF (mkD (diffT s t)) = 0 := checkF_mkD _ (by omega) (by omega)
      obtain ⟨c1, c2, _⟩ := checkF_all hck
      have hin : (s.length : Int) = inF (mkD (diffT s t)) := by rw [← inT_toks _ c2, inT_mkD, d2]
      have hfit : fitsF (mkD (diffT s t)) s.length = 0 := by unfold fitsF; rw [if_neg (fun x => x hck), if_neg (fun x => x hin)]
      have hdo := sp_rdo (mkD (diffT s t)) (by have : maxLen = 9223372036854775807 := by decide
                                               omega) s
      have hdf : doF (mkD (diffT s t)) s = (t, 0) := by unfold doF; rw [if_pos hfit, doT_mkD, d1]
      rw [hdf] at hdo
      have e : diffF s t = (mkD (diffT s t), 0) := by unfold diffF; rw [if_neg h]
      rw [e]
      have hx := plc_le s t s.length t.length
      rw [plc_all] at hx
      exact ⟨rfl, ansLs hdo rfl rfl, ansL (sp_cost _ c1 c2) rfl, ansSame (sp_com s t (by omega) (by omega)) rfl rfl, by simp only []; rw [cost_mkD]; omega, by omega⟩)
    R fun s s' b h he hr => by subst h; exact hR s s' he hr
end Go.Proofs.Ytlomnjlfmbolkaa.AM
