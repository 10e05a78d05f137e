/-
  Texts of the plain machine, put together: what the law TopArchive reaches.
-/
import Derived.Test.YtobngncjflogcaaTopArchive10
import Derived.Test.YtobngncjflogcaaTopArchive5
import Derived.Test.YtobngncjflogcaaTopArchive9
import Derived.Test.YtobngncjflogcaaTopArchive6
set_option linter.unusedVariables false
set_option linter.unusedSimpArgs false
namespace Go.Proofs.Ytobngncjflogcaa.AM
open Go Go.RowKit
set_option maxRecDepth 100000
set_option maxHeartbeats 2000000
def z0 (_ : Nat) : Nat := 0
/-- objects may be given other names -/
theorem Ent.names {s s' : S} (g : Nat → Nat) (ht : ∀ i, s'.t i = s.t i ∨ s'.t i = .junk) (hh : ∀ k o, s'.h k = some o → ∃ q, s.h (g k) = some q ∧ o.b = q.b ∧ o.ren z0 = q.ren z0) (hg : ∀ k k' o o', s'.h k = some o → s'.h k' = some o' → g k = g k' → k = k') : Ent s s' := by
  intro C n a w hC hs
  obtain ⟨F, h1, h2⟩ := hs.ex
  refine ⟨⟨F, ⟨fun k o hk => ?_, fun k k' o o' b hk hk' hb hb' => ?_, fun k o b hk hb => ?_, h1.old, h1.new, h1.lt, h1.ev⟩, fun i => ?_⟩, hs.df, hs.sz⟩
  · obtain ⟨q, q1, q2, q3⟩ := hh k o hk
    have := (h1.ob (g k) q q1).ren z0
    rw [← q3] at this
    exact this.unren z0
  · obtain ⟨q, q1, q2, q3⟩ := hh k o hk
    obtain ⟨q', q1', q2', q3'⟩ := hh k' o' hk'
    exact hg k k' o o' hk hk' (h1.inj _ _ q q' b q1 q1' (q2.symm.trans hb) (q2'.symm.trans hb'))
  · obtain ⟨q, q1, q2, q3⟩ := hh k o hk
    exact h1.live (g k) q b q1 (q2.symm.trans hb)
  · rcases ht i with h | h
    · rw [h]; exact h2 i
    · rw [h]; exact .junk _
/-- the same, of a list of objects: each beside its old name -/
def agreeG : List (Nat × Nat × Ob) → S → Prop
  | [], _ => True
  | (_, j, o) :: l, s => (∃ q, s.h j = some q ∧ o.b = q.b ∧ o.ren z0 = q.ren z0) ∧ agreeG l s
def newN (l : List (Nat × Nat × Ob)) : List (Nat × Ob) := l.map fun p => (p.1, p.2.2)
def oldN (l : List (Nat × Nat × Ob)) (k : Nat) : Nat := match l with
  | [] => k
  | p :: l => if k = p.1 then p.2.1 else oldN l k
theorem look_new : ∀ (l : List (Nat × Nat × Ob)) (s : S) (k : Nat) (o : Ob), agreeG l s → lookH (newN l) k = some o → (∃ q, s.h (oldN l k) = some q ∧ o.b = q.b ∧ o.ren z0 = q.ren z0) ∧ ∃ p ∈ l, p.1 = k ∧ p.2.1 = oldN l k
  | [], _, _, _, _, h => by cases h
  | (k', j, o') :: l, s, k, o, ha, h => by
    simp only [newN, List.map_cons, lookH] at h
    by_cases hk : k = k'
    · rw [if_pos hk] at h
      cases h
      have e : oldN ((k', j, o') :: l) k = j := by simp [oldN, hk]
      rw [e]
      exact ⟨ha.1, _, List.mem_cons_self, hk.symm, rfl⟩
    · rw [if_neg hk] at h
      have e : oldN ((k', j, o') :: l) k = oldN l k := by simp [oldN, hk]
      rw [e]
      obtain ⟨h1, p, hp, h2⟩ := look_new l s k o ha.2 h
      exact ⟨h1, p, List.mem_cons_of_mem _ hp, h2⟩
theorem nodup_snd : ∀ {l : List (Nat × Nat × Ob)}, (l.map (·.2.1)).Nodup → ∀ p ∈ l, ∀ q ∈ l, p.2.1 = q.2.1 → p = q
  | [], _, p, hp, _, _, _ => by cases hp
  | x :: l, h, p, hp, q, hq, e => by
    rw [List.map_cons, List.nodup_cons] at h
    rcases List.mem_cons.1 hp with h1 | h1 <;> rcases List.mem_cons.1 hq with h2 | h2
    · rw [h1, h2]
    · rw [h1] at e; exact absurd (List.mem_map.2 ⟨q, h2, e.symm⟩) h.1
    · rw [h2] at e; exact absurd (List.mem_map.2 ⟨p, h1, e⟩) h.1
    · exact nodup_snd h.2 p h1 q h2 e
theorem lookH_some : ∀ {L : List (Nat × Ob)} {k : Nat}, k ∈ L.map (·.1) → ∃ o, lookH L k = some o
  | [], _, h => by cases h
  | (j, o) :: L, k, h => by
    simp only [lookH]
    by_cases he : k = j
    · rw [if_pos he]; exact ⟨_, rfl⟩
    · rw [if_neg he]
      rw [List.map_cons] at h
      rcases List.mem_cons.1 h with h | h
      · exact absurd h he
      · exact lookH_some h
theorem Ent.renL {s : S} (l : List (Nat × Nat × Ob)) (hn : (l.map (·.2.1)).Nodup) (ha : agreeG l s) : Ent s ⟨s.t, lookH (newN l)⟩ := by
  refine Ent.names (oldN l) (fun i => .inl rfl) (fun k o hk => (look_new l s k o ha hk).1) (fun k k' o o' hk hk' e => ?_)
  obtain ⟨_, p, hp, p1, p2⟩ := look_new l s k o ha hk
  obtain ⟨_, p', hp', p1', p2'⟩ := look_new l s k' o' ha hk'
  have := nodup_snd hn p hp p' hp' (by rw [p2, p2', e])
  rw [← p1, ← p1', this]
theorem Rel.winown {F B : Nat → Prop} {w : World} {k k' b sz : Nat} {hi : Int} {u : Value} (h : Rel F B w (.win k (some b) sz 0 hi) u) (hp : 0 < hi) : Rel F B w (.own k' (some b) sz hi.toNat) u := by
  cases h with
  | winemp => omega
  | win _ b _ cap _ _ c e fr h hs hm hn h0 h1 =>
    have e1 : (hi - 0).toNat = hi.toNat := by rw [Int.sub_zero]
    have e2 : (0 : Int).toNat * sz = 0 := by simp
    rw [e1, e2]
    exact .own _ b sz _ cap c e fr h (by simpa using hs) (by simpa using hm) (by rw [← e1]; exact hn)
theorem ObSat.take {F B : Nat → Prop} {w : World} {b : Option Nat} {ty sz : Nat} {rows : List (List V)} (h : ObSat F B w ⟨b, ty, sz, rows⟩) (n : Nat) : ObSat F B w ⟨b, ty, sz, rows.take n⟩ := by
  unfold ObSat at h ⊢
  cases b with
  | none => simp only at h ⊢; rw [h]; simp
  | some b =>
    obtain ⟨c, cap, hc, h1, h2, h3, h4, h5⟩ := h
    have h3 : rows.length ≤ cap := h3
    refine ⟨c, cap, hc, h1, h2, by show (rows.take n).length ≤ cap; rw [List.length_take]; omega, fun r hr => h4 r (List.mem_of_mem_take hr), fun i j r v hi hj => ?_⟩
    refine h5 i j r v ?_ hj
    have hi : (rows.take n)[i]? = some r := hi
    rw [List.getElem?_take] at hi
    split at hi
    · exact hi
    · cases hi
/-- a slice of an own object's first rows becomes the object -/
theorem Ent.winown {s : S} {i k b ty sz : Nat} {hi : Int} {rows : List (List V)} (hk : s.h k = some ⟨some b, ty, sz, rows⟩) (hi' : s.t i = .win k (some b) sz 0 hi) (hp : 0 < hi) : Ent s ⟨upd s.t i (.own k (some b) sz hi.toNat), Hp.put s.h k ⟨some b, ty, sz, rows.take hi.toNat⟩⟩ := by
  intro C n a w hC hs
  obtain ⟨F, h1, h2⟩ := hs.ex
  have look : ∀ j q, Hp.put s.h k ⟨some b, ty, sz, rows.take hi.toNat⟩ j = some q → ∃ p, s.h j = some p ∧ p.b = q.b ∧ (ObSat F C.B w p → ObSat F C.B w q) := by
    intro j q hj
    simp only [Hp.put] at hj
    by_cases h : j = k
    · rw [if_pos h] at hj; cases hj; subst h; exact ⟨_, hk, rfl, fun h => h.take _⟩
    · rw [if_neg h] at hj; exact ⟨q, hj, rfl, id⟩
  refine ⟨⟨F, ⟨fun j q hj => ?_, fun j j' q q' b' hj hj' hb hb' => ?_, fun j q b' hj hb => ?_, h1.old, h1.new, h1.lt, h1.ev⟩, fun j => ?_⟩, hs.df, hs.sz⟩
  · obtain ⟨p, p1, p2, p3⟩ := look j q hj
    exact p3 (h1.ob j p p1)
  · obtain ⟨p, p1, p2, p3⟩ := look j q hj
    obtain ⟨p', p1', p2', p3'⟩ := look j' q' hj'
    exact h1.inj j j' p p' b' p1 p1' (p2.trans hb) (p2'.trans hb')
  · obtain ⟨p, p1, p2, p3⟩ := look j q hj
    exact h1.live j p b' p1 (p2.trans hb)
  · have h3 := h2 j
    show Rel F C.B w (upd s.t i (.own k (some b) sz hi.toNat) j) _
    unfold upd
    by_cases h : j = i
    · rw [if_pos h]; subst h; rw [hi'] at h3; exact h3.winown hp
    · rw [if_neg h]; exact h3
theorem lab_mem : ∀ {m : List (Nat × Nat)}, (m.map (·.1)).Nodup → ∀ p ∈ m, lab m p.1 = p.2
  | [], _, _, h => by cases h
  | (a, b) :: m, hn, p, hp => by
    rw [List.map_cons, List.nodup_cons] at hn
    rcases List.mem_cons.1 hp with rfl | hp
    · simp [lab]
    · have : p.1 ≠ a := fun e => hn.1 (List.mem_map.2 ⟨p, hp, e⟩)
      simp only [lab]
      rw [if_neg this]
      exact lab_mem hn.2 p hp
theorem bal_mem : ∀ {m : List (Nat × Nat)}, (m.map (·.2)).Nodup → ∀ p ∈ m, bal m p.2 = p.1
  | [], _, _, h => by cases h
  | (a, b) :: m, hn, p, hp => by
    rw [List.map_cons, List.nodup_cons] at hn
    rcases List.mem_cons.1 hp with rfl | hp
    · simp [bal]
    · have : p.2 ≠ b := fun e => hn.1 (List.mem_map.2 ⟨p, hp, e⟩)
      simp only [bal]
      rw [if_neg this]
      exact bal_mem hn.2 p hp
def Hp.puts (h : Hp) (l : List (Nat × Ob)) (i : Nat) : Option Ob := match lookH l i with
  | some o => some o
  | none => h i
def backL (m : List (Nat × Nat)) (F : Ob → Ob) (L : List (Nat × Ob)) : List (Nat × Ob) := List.zipWith (fun p q => (p.2, F q.2)) m L
theorem look_back (F : Ob → Ob) : ∀ (m : List (Nat × Nat)) (L : List (Nat × Ob)), L.map (·.1) = m.map (·.1) → (m.map (·.1)).Nodup → (m.map (·.2)).Nodup → ∀ i, lookH (backL m F L) i = if m.any (fun p => decide (p.2 = i)) then (lookH L (bal m i)).map F else none
  | [], [], _, _, _, i => rfl
  | [], _ :: _, h, _, _, _ => by cases h
  | _ :: _, [], h, _, _, _ => by cases h
  | (a, b) :: m, (c, o) :: L, h, n1, n2, i => by
    simp only [List.map_cons, List.cons.injEq] at h
    obtain ⟨h1, h2⟩ := h
    subst h1
    rw [List.map_cons, List.nodup_cons] at n1 n2
    have ih := look_back F m L h2 n1.2 n2.2 i
    show (if i = b then some (F o) else lookH (backL m F L) i) = _
    by_cases hi : i = b
    · subst hi
      simp [bal, lookH]
    · have hi2 : ¬ b = i := fun e => hi e.symm
      rw [if_neg hi, ih]
      simp only [List.any_cons, hi2, decide_false, Bool.false_or, bal, if_neg hi]
      by_cases hm : (m.any fun p => decide (p.2 = i)) = true
      · rw [if_pos hm, if_pos hm]
        obtain ⟨p, hp, hpi⟩ := List.any_eq_true.1 hm
        have hpi : p.2 = i := by simpa using hpi
        have hb := bal_mem n2.2 p hp
        rw [hpi] at hb
        rw [hb]
        have : p.1 ≠ c := fun e => n1.1 (List.mem_map.2 ⟨p, hp, e⟩)
        simp only [lookH]
        rw [if_neg this]
      · rw [if_neg hm, if_neg hm]
theorem upd_puts (h : Hp) (m : List (Nat × Nat)) (L : List (Nat × Ob)) (h1 : L.map (·.1) = m.map (·.1)) (n1 : (m.map (·.1)).Nodup) (n2 : (m.map (·.2)).Nodup) (hL : m ≠ []) : h.upd m (lookH L) = h.puts (backL m (Ob.ren (lab m)) L) := by
  have key := look_back (Ob.ren (lab m)) m L h1 n1 n2
  cases m with
  | nil => exact absurd rfl hL
  | cons q m =>
    funext i
    show (if ((q :: m).any fun p => decide (p.2 = i)) = true then (lookH L (bal (q :: m) i)).map (Ob.ren (lab (q :: m))) else h i) = _
    unfold Hp.puts
    rw [key i]
    by_cases hm : ((q :: m).any fun p => decide (p.2 = i)) = true
    · rw [if_pos hm, if_pos hm]
      obtain ⟨p, hp, hpi⟩ := List.any_eq_true.1 hm
      have hpi : p.2 = i := by simpa using hpi
      have hb := bal_mem n2 p hp
      rw [hpi] at hb
      rw [hb]
      have : ∃ o, lookH L p.1 = some o := lookH_some (by rw [h1]; exact List.mem_map.2 ⟨p, hp, rfl⟩)
      obtain ⟨o, ho⟩ := this
      rw [ho]; rfl
    · rw [if_neg hm, if_neg hm]
/-- a call that is handed some objects, and hands back some -/
theorem callN {P : Program} {f : Nat} {args args' : List V} {L : List (Nat × Ob)} (m : List (Nat × Nat)) {post : V → List (Nat × Ob) → Prop} (hs : Spec P f args' (lookH L) fun v' h' => ∃ L', post v' L' ∧ h' = lookH L') {h : Hp} {K : V → Hp → Prop} (ha : Args h m args args')
    (n1 : (m.map (·.1)).Nodup) (n2 : (m.map (·.2)).Nodup) (hne : m ≠ []) (hdom : ∀ p ∈ L, ∃ q ∈ m, q.1 = p.1) (hob : ∀ p ∈ L, ((h (lab m p.1)).map (Ob.ren (bal m)) = some p.2) ∧ p.2.Fz)
    (hL' : ∀ v L', post v L' → L'.map (·.1) = m.map (·.1)) (hK : ∀ v L', post v L' → K (v.ren (lab m)) (h.puts (backL m (Ob.ren (lab m)) L'))) : CallE P f args h K := by
  refine callG hs (m := m) ha (fun k o hk => ?_) (fun q hq => ?_) (fun v L' hp => ?_)
  · obtain ⟨q, hq, e⟩ := hdom _ (mem_of_lookH hk)
    exact ⟨q, hq, e⟩
  · refine ⟨lab_mem n1 q hq, bal_mem n2 q hq, fun o ho => ?_⟩
    have := hob _ (mem_of_lookH ho)
    simp only [lab_mem n1 q hq] at this
    exact this
  · rw [upd_puts h m L' (hL' v L' hp) n1 n2 hne]
    exact hK v L' hp
end Go.Proofs.Ytobngncjflogcaa.AM

set_option linter.unusedVariables false
set_option linter.unusedSimpArgs false
namespace Go.Proofs.Ytobngncjflogcaa.AM
open Go Go.RowKit
set_option maxRecDepth 100000
set_option maxHeartbeats 2000000
theorem numF_word : ∀ (f n : Nat), n < 128 ^ (f + 1) → Word (numF (f + 1) n) ∧ val (numF (f + 1) n) = n ∧ (0 < n → (numF (f + 1) n).getLast? ≠ some 0)
  | 0, n, h => by
    have h1 : n < 128 := by simpa using h
    rw [numF_small 0 n h1]
    have h2 := bt_toNat n (by omega)
    refine ⟨.one _ (by omega), by simp [val]; omega, fun h0 h3 => ?_⟩
    simp only [List.getLast?_singleton, Option.some.injEq] at h3
    rw [h3] at h2
    simp at h2
    omega
  | f + 1, n, h => by
    by_cases hn : n < 128
    · rw [numF_small _ n hn]
      have h2 := bt_toNat n (by omega)
      refine ⟨.one _ (by omega), by simp [val]; omega, fun h0 h3 => ?_⟩
      simp only [List.getLast?_singleton, Option.some.injEq] at h3
      rw [h3] at h2
      simp at h2
      omega
    · rw [numF_large _ n hn]
      have hd : n / 128 < 128 ^ (f + 1) := by
        rw [Nat.pow_succ] at h
        exact Nat.div_lt_of_lt_mul (by rw [Nat.mul_comm]; exact h)
      obtain ⟨h1, h2, h3⟩ := numF_word f (n / 128) hd
      have hb := bt_toNat (128 + n % 128) (by omega)
      refine ⟨.more _ _ (by omega) h1, by simp only [val, h2, hb]; omega, fun _ => ?_⟩
      have hne : numF (f + 1) (n / 128) ≠ [] := by intro e; rw [e] at h1; cases h1
      rw [List.getLast?_cons_of_ne_nil hne]
      exact h3 (by omega)
theorem word_lead : ∀ {l : List UInt8} (s : List UInt8), Word l → lead (l ++ s) + 1 = l.length
  | _, s, .one b h => by rw [List.singleton_append, lead_cons_lo b s h]; rfl
  | _, s, .more b r h hr => by
    rw [List.cons_append, lead_cons_hi b _ h, List.length_cons, ← word_lead s hr]
theorem word_last : ∀ {l : List UInt8} (s : List UInt8), Word l → (l ++ s)[lead (l ++ s)]? = l.getLast?
  | _, s, .one b h => by rw [List.singleton_append, lead_cons_lo b s h]; rfl
  | _, s, .more b r h hr => by
    have hne : r ≠ [] := by cases hr <;> simp
    rw [List.cons_append, lead_cons_hi b _ h, List.getElem?_cons_succ, List.getLast?_cons_of_ne_nil hne]
    exact word_last s hr
theorem getS_numL (n : Nat) (h : n ≤ 2147483647) (s : List UInt8) : getS (numL n ++ s) = ((n : Int), ((numL n).length : Int), 0) := by
  obtain ⟨h1, h2, h3⟩ := numF_word 4 n (by have : (128 : Nat) ^ (4 + 1) = 34359738368 := by decide
                                           omega)
  have hw : Word (numL n) := h1
  have h5 := numF_len 5 n
  have hl := word_lead s hw
  have h6 : (numL n).length ≤ 5 := h5
  have ht : (numL n ++ s).take (lead (numL n ++ s) + 1) = numL n := by rw [hl]; simp
  have hv : val (numL n) = n := h2
  unfold getS
  rw [if_neg (by omega), if_neg (by rw [List.length_append]; omega), ht, hv, if_neg]
  · rw [← hl]; simp
  · rintro (h7 | ⟨h7, h8⟩)
    · omega
    · rw [word_last s hw] at h8
      refine h3 ?_ h8
      by_cases hn : n < 128
      · have : numL n = [bt n] := numF_small 4 n hn
        have h9 : (numL n).length = 1 := by rw [this]; rfl
        omega
      · omega
theorem numL_two (n : Nat) (h : n < 16384) : (numL n).length ≤ 2 := by
  unfold numL
  by_cases hn : n < 128
  · rw [numF_small _ n hn]; simp
  · rw [numF_large _ n hn, numF_small _ (n / 128) (by omega)]; simp
theorem pcR_one {p : Part} (hp : okP p) (s : List UInt8) (n : Nat) (out : List Part) : pcR (n + 1) (pcode p ++ s) out = pcR n s (out ++ [p]) := by
  obtain ⟨h1, h2, h3, h4⟩ := okP_bd hp
  have hk : 1 ≤ p.kind ∧ p.kind ≤ 3 := by rcases h4 with ⟨h, _⟩ | ⟨h | h, _⟩ <;> omega
  have hv : ((4 * (p.n + p.text.length) + p.kind).toNat : Int) = 4 * (p.n + p.text.length) + p.kind := by omega
  have hg := getS_numL (4 * (p.n + p.text.length) + p.kind).toNat (by omega) (p.text ++ s)
  rw [hv] at hg
  have hd : (numL (4 * (p.n + p.text.length) + p.kind).toNat ++ (p.text ++ s)).drop (numL (4 * (p.n + p.text.length) + p.kind).toNat).length = p.text ++ s := by simp
  have e : pcode p ++ s = numL (4 * (p.n + p.text.length) + p.kind).toNat ++ (p.text ++ s) := by simp [pcode]
  rw [e, pcR, hg]
  simp only [Int.toNat_natCast, hd]
  rw [if_neg (fun h => h rfl)]
  rcases h4 with ⟨g1, g2, g3⟩ | ⟨g1, g2, g3⟩
  · rw [if_pos (by omega), if_neg (by rw [List.length_append]; omega)]
    have ht : ((4 * (p.n + (p.text.length : Int)) + p.kind) / 4).toNat = p.text.length := by omega
    rw [ht, List.drop_left, List.take_left]
    have : p = ⟨2, 0, p.text⟩ := by cases p; simp only at g1 g2; subst g1 g2; rfl
    rw [← this]
  · have h0 : p.text.length = 0 := by rw [g3]; rfl
    rw [if_neg (by omega), g3, List.nil_append]
    have a1 : (4 * (p.n + (([] : List UInt8).length : Int)) + p.kind) % 4 = p.kind := by simp only [List.length_nil]; omega
    have a2 : (4 * (p.n + (([] : List UInt8).length : Int)) + p.kind) / 4 = p.n := by simp only [List.length_nil]; omega
    rw [a1, a2]
    have : p = ⟨p.kind, p.n, []⟩ := by cases p; simp only at g3; subst g3; rfl
    rw [← this]
theorem pcR_all : ∀ (d : List Part) (s : List UInt8) (out : List Part), (∀ p ∈ d, okP p) → pcR d.length ((d.map pcode).flatten ++ s) out = some (s, out ++ d)
  | [], s, out, _ => by simp [pcR]
  | p :: d, s, out, h => by
    rw [List.map_cons, List.flatten_cons, List.append_assoc, List.length_cons, pcR_one (h p (by simp)), pcR_all d s _ fun q hq => h q (by simp [hq])]
    simp
theorem readF_code {d : List Part} (h : checkF d = 0) : readF (codeF d) = (d, 0) := by
  have h1 := checkF_all h
  have hg := getS_numL d.length (by omega) ((d.map pcode).flatten)
  have hp : parseF (codeF d) = some ([], d) := by
    unfold parseF codeF
    rw [hg]
    simp only [Int.toNat_natCast, List.drop_left]
    rw [if_neg (fun h => h rfl)]
    have := pcR_all d [] [] h1.2.1
    simpa using this
  unfold readF
  rw [hp]
  simp only
  rw [if_pos ⟨trivial, h⟩]
theorem code_len2 : ∀ (d : List Part), (∀ p ∈ d, okP p) → (((d.map pcode).flatten).length : Int) ≤ 2 * d.length + outF d ∧ (d.length : Int) ≤ inF d + outF d
  | [], _ => by simp [inF, outF]
  | p :: d, h => by
    obtain ⟨h1, h2, h3, h4⟩ := okP_bd (h p (by simp))
    obtain ⟨i1, i2⟩ := code_len2 d fun q hq => h q (by simp [hq])
    have hk : 1 ≤ p.kind ∧ p.kind ≤ 3 := by rcases h4 with ⟨h, _⟩ | ⟨h | h, _⟩ <;> omega
    have hl : (numL (4 * (p.n + p.text.length) + p.kind).toNat).length ≤ 2 := numL_two _ (by omega)
    simp only [List.map_cons, List.flatten_cons, List.length_append, List.length_cons, inF, outF, pcode]
    rcases h4 with ⟨g1, g2, g3⟩ | ⟨g1, g2, g3⟩
    · have : 0 < p.text.length := List.length_pos_iff.2 g3
      rw [if_neg (by omega), if_neg (by omega), if_neg (by omega)]
      omega
    · have h0 : p.text.length = 0 := by rw [g3]; rfl
      rw [if_pos g1]
      split <;> (try split) <;> omega
theorem codeF_len {d : List Part} (h : checkF d = 0) : (codeF d).length ≤ 2600 := by
  have h1 := checkF_all h
  obtain ⟨i1, i2⟩ := code_len2 d h1.2.1
  have := numL_two d.length (by omega)
  unfold codeF
  rw [List.length_append]
  omega
theorem tkF_num {n : Int} (h : inR n) (s : List UInt8) (b : Bool) : tkF (numL n.toNat ++ s, b) = ((s, b), n) := by
  obtain ⟨h1, h2⟩ := h
  have hg := getS_numL n.toNat (by omega) s
  unfold tkF
  simp only
  rw [hg, if_neg (fun h => h rfl)]
  simp only [Int.toNat_natCast, List.drop_left]
  rw [show ((n.toNat : Nat) : Int) = n by omega]
theorem numsL_cons (a : Int) (l : List Int) (s : List UInt8) : numsL (a :: l) ++ s = numL a.toNat ++ (numsL l ++ s) := by simp [numsL]
theorem tkS_nums (l : List Int) (hl : ∀ n ∈ l, inR n) (s : List UInt8) : ∀ i, i ≤ l.length → tkS (numsL l ++ s) i = (numsL (l.drop i) ++ s, true)
  | 0, _ => rfl
  | i + 1, h => by
    rw [tkS_succ, tkS_nums l hl s i (by omega)]
    have hi : i < l.length := h
    have e : l.drop i = l[i] :: l.drop (i + 1) := List.drop_eq_getElem_cons hi
    rw [e]
    rw [numsL_cons, tkF_num (hl _ (List.getElem_mem hi))]
theorem tkN_nums {l : List Int} (hl : ∀ n ∈ l, inR n) (s : List UInt8) {i : Nat} {n : Int} (h : l[i]? = some n) : tkN (numsL l ++ s) i = n := by
  obtain ⟨hi, rfl⟩ := List.getElem?_eq_some_iff.1 h
  unfold tkN
  rw [tkS_nums l hl s i (by omega)]
  have e : l.drop i = l[i] :: l.drop (i + 1) := List.drop_eq_getElem_cons hi
  rw [e]
  rw [numsL_cons, tkF_num (hl _ (List.getElem_mem hi))]
def revBody (r : Rev) : List UInt8 := numL r.who.toNat ++ numL r.seq.toNat ++ codeF r.delta
theorem oneF_all {r : Rev} (h : oneF r = 0) : (0 ≤ r.who ∧ r.who ≤ 7) ∧ (0 ≤ r.seq ∧ r.seq ≤ 2147483647) ∧ checkF r.delta = 0 := by
  unfold oneF at h
  split at h
  · exact absurd h (by decide)
  · exact ⟨by omega, by omega, h⟩
theorem revBody_len {r : Rev} (h : oneF r = 0) : (revBody r).length ≤ 4000 := by
  obtain ⟨_, _, h3⟩ := oneF_all h
  have := codeF_len h3
  have := numF_len 5 r.who.toNat
  have := numF_len 5 r.seq.toNat
  unfold revBody numL
  simp only [List.length_append]
  omega
theorem revB_body {r : Rev} (h : oneF r = 0) : revB (revBody r) = r ∧ revOk (revBody r) = true := by
  obtain ⟨h1, h2, h3⟩ := oneF_all h
  have hl : ∀ n ∈ [r.who, r.seq], inR n := by
    intro n hn
    simp only [List.mem_cons, List.not_mem_nil, or_false] at hn
    rcases hn with rfl | rfl
    · exact ⟨h1.1, by omega⟩
    · exact h2
  have e : revBody r = numsL [r.who, r.seq] ++ codeF r.delta := by simp [revBody, numsL]
  have a0 : tkN (revBody r) 0 = r.who := by rw [e]; exact tkN_nums hl _ rfl
  have a1 : tkN (revBody r) 1 = r.seq := by rw [e]; exact tkN_nums hl _ rfl
  have a2 : tkS (revBody r) 2 = (codeF r.delta, true) := by rw [e, tkS_nums _ hl _ 2 (by simp)]; simp [numsL]
  have hr : revB (revBody r) = r := by
    unfold revB
    rw [a0, a1, a2, readF_code h3]
  refine ⟨hr, ?_⟩
  unfold revOk
  rw [hr, a2, readF_code h3, h]
  rfl
def headBody (g b : Int) (tx : List UInt8) (t : Nat → Int) : List UInt8 := numsL (flatL g b t) ++ tx
theorem headBody_len {g b : Int} {tx : List UInt8} {t : Nat → Int} (h : tx.length ≤ 500) : (headBody g b tx t).length ≤ 4000 := by
  have := numsL_len (flatL g b t)
  rw [flat_len] at this
  unfold headBody
  rw [List.length_append]
  omega
structure HdOk (g b : Int) (tx : List UInt8) (t : Nat → Int) : Prop where
  g : inR g
  b : inR b
  tx : tx.length ≤ 500
  t : ∀ j, j < 16 → inR (t j)
theorem HdOk.flat {g b : Int} {tx : List UInt8} {t : Nat → Int} (h : HdOk g b tx t) : ∀ n ∈ flatL g b t, inR n := by
  intro n hn
  simp only [flatL, List.mem_cons, List.not_mem_nil, or_false] at hn
  rcases hn with rfl | rfl | rfl | rfl | rfl | rfl | rfl | rfl | rfl | rfl | rfl | rfl | rfl | rfl | rfl | rfl | rfl | rfl
  · exact h.g
  · exact h.b
  all_goals exact h.t _ (by decide)
theorem head_body {g b : Int} {tx : List UInt8} {t : Nat → Int} (h : HdOk g b tx t) : headOk (headBody g b tx t) = true ∧ tkN (headBody g b tx t) 0 = g ∧ tkN (headBody g b tx t) 1 = b ∧ (tkS (headBody g b tx t) 18).1 = tx ∧ ∀ j, j < 16 → tkN (headBody g b tx t) (j + 2) = t j := by
  have hs : tkS (headBody g b tx t) 18 = (tx, true) := by
    unfold headBody
    rw [tkS_nums _ h.flat tx 18 (by rw [flat_len]; exact Nat.le_refl _)]
    have : (flatL g b t).drop 18 = [] := rfl
    rw [this]; rfl
  refine ⟨?_, tkN_nums h.flat _ rfl, tkN_nums h.flat _ rfl, by rw [hs], fun j hj => tkN_nums h.flat _ ?_⟩
  · unfold headOk
    generalize tkS (headBody g b tx t) 18 = q at hs
    subst hs
    have := h.tx
    simpa using this
  · match j, hj with
    | 0, _ => rfl
    | 1, _ => rfl
    | 2, _ => rfl
    | 3, _ => rfl
    | 4, _ => rfl
    | 5, _ => rfl
    | 6, _ => rfl
    | 7, _ => rfl
    | 8, _ => rfl
    | 9, _ => rfl
    | 10, _ => rfl
    | 11, _ => rfl
    | 12, _ => rfl
    | 13, _ => rfl
    | 14, _ => rfl
    | 15, _ => rfl
    | j + 16, hj => omega
def FrOk (f : Frame) : Prop := 1 ≤ f.kind ∧ f.kind ≤ 255 ∧ f.body.length ≤ 4000
def frB (f : Frame) : List UInt8 := frameL f.kind f.body
theorem frB_len (f : Frame) : (frB f).length = f.body.length + 7 := by simp [frB, frameL, headL, fourL]
theorem by8_toNat {n : Int} (h : 0 ≤ n ∧ n ≤ 255) : ((by8 n).toNat : Int) = n := by
  rw [by8, UInt8.toNat_ofNat']
  omega
theorem fr_num {f : Frame} (h : FrOk f) (s : List UInt8) : frN (frB f ++ s) = f.body.length ∧ (((frB f ++ s).getD 0 0).toNat : Int) = f.kind := by
  obtain ⟨h1, h2, h3⟩ := h
  have e0 : (frB f ++ s).getD 0 0 = by8 f.kind := rfl
  have e1 : (frB f ++ s).getD 1 0 = by8 ((f.body.length : Int) / 256) := rfl
  have e2 : (frB f ++ s).getD 2 0 = by8 (f.body.length : Int) := rfl
  refine ⟨?_, by rw [e0]; exact by8_toNat (by omega)⟩
  unfold frN
  rw [e1, e2, ← by8_mod (f.body.length : Int)]
  have a1 := by8_toNat (n := (f.body.length : Int) / 256) (by omega)
  have a2 := by8_toNat (n := (f.body.length : Int) % 256) (by omega)
  omega
theorem getFr_fr {f : Frame} (h : FrOk f) (s : List UInt8) : getFr (frB f ++ s) = (f, (f.body.length : Int) + 7, 0) := by
  obtain ⟨e1, e2⟩ := fr_num h s
  obtain ⟨h1, h2, h3⟩ := h
  have hl : (frB f ++ s).length = f.body.length + 7 + s.length := by rw [List.length_append, frB_len]
  have hh : (headL f.kind f.body).length = f.body.length + 3 := by simp [headL]
  have hsp : frB f ++ s = headL f.kind f.body ++ (fourL (crcNat (headL f.kind f.body)) ++ s) := by simp [frB, frameL]
  have ht3 : (frB f ++ s).take (f.body.length + 3) = headL f.kind f.body := by
    rw [hsp, ← hh]; exact List.take_left
  have ht7 : (frB f ++ s).take (f.body.length + 7) = frB f := by rw [← frB_len f]; exact List.take_left
  have hd3 : (frB f).drop (f.body.length + 3) = fourL (crcNat (headL f.kind f.body)) := by
    have : frB f = headL f.kind f.body ++ fourL (crcNat (headL f.kind f.body)) := rfl
    rw [this, ← hh]; exact List.drop_left
  unfold getFr
  rw [e1, ht3, ht7, hd3, e2, if_neg (by omega), if_neg (by omega), if_neg (by omega), if_neg (fun h => h rfl)]
  have : (headL f.kind f.body).drop 3 = f.body := rfl
  rw [this]
theorem getD_take {l : List UInt8} {n i : Nat} (h : i < n) : (l.take n).getD i 0 = l.getD i 0 := by
  rw [List.getD_eq_getElem?_getD, List.getD_eq_getElem?_getD, List.getElem?_take, if_pos h]
theorem getFr_cut {f : Frame} (h : FrOk f) {n : Nat} (hn : n < f.body.length + 7) : (getFr ((frB f).take n)).2.2 ≠ 0 := by
  have hl : ((frB f).take n).length = n := by rw [List.length_take, frB_len]; omega
  unfold getFr
  rw [hl]
  by_cases h7 : n < 7
  · rw [if_pos h7]; decide
  rw [if_neg h7]
  have e : frN ((frB f).take n) = f.body.length := by
    have := (fr_num h []).1
    rw [List.append_nil] at this
    unfold frN at this ⊢
    rw [getD_take (by omega), getD_take (by omega)]
    exact this
  split
  · decide
  · rw [e, if_pos hn]; decide
theorem getFr_nil : (getFr []).2.2 ≠ 0 := by decide
theorem scanF_bad {s : List UInt8} (h : (getFr s).2.2 ≠ 0) : scanF s = ([], 0) := by
  unfold scanF
  rw [scanG, if_pos h]
theorem scanF_cons {f : Frame} (h : FrOk f) (s : List UInt8) : scanF (frB f ++ s) = (f :: (scanF s).1, (f.body.length : Int) + 7 + (scanF s).2) := by
  have hg := getFr_fr h s
  have hd : (frB f ++ s).drop (((f.body.length : Int) + 7).toNat) = s := by
    have : ((f.body.length : Int) + 7).toNat = (frB f).length := by rw [frB_len]; omega
    rw [this]; exact List.drop_left
  have hlt : s.length < (frB f ++ s).length := by rw [List.length_append, frB_len]; omega
  have e : scanF (frB f ++ s) = scanG ((frB f ++ s).length + 1) (frB f ++ s) := rfl
  rw [e, scanG, hg]
  simp only [hd]
  rw [if_neg (fun h => h rfl), scanG_eq _ s hlt]
def encFs (l : List Frame) : List UInt8 := (l.map frB).flatten
theorem encFs_cons (f : Frame) (l : List Frame) : encFs (f :: l) = frB f ++ encFs l := by simp [encFs]
theorem encFs_app (a b : List Frame) : encFs (a ++ b) = encFs a ++ encFs b := by simp [encFs]
theorem scan_cut : ∀ (l : List Frame), (∀ f ∈ l, FrOk f) → ∀ n : Nat, ∃ k, k ≤ l.length ∧ (scanF ((encFs l).take n)).1 = l.take k ∧ (encFs (l.take k)).length ≤ n ∧ ∀ j, j ≤ l.length → (encFs (l.take j)).length ≤ n → j ≤ k
  | [], _, n => ⟨0, Nat.le_refl _, by
      have : (encFs []).take n = [] := by simp [encFs]
      rw [this, scanF_bad getFr_nil]; rfl, by simp [encFs], fun j hj _ => hj⟩
  | f :: l, h, n => by
    have hf := h f (by simp)
    have hl := frB_len f
    by_cases hn : n < (frB f).length
    · refine ⟨0, Nat.zero_le _, ?_, by simp [encFs], fun j hj hlen => ?_⟩
      · rw [encFs_cons, List.take_append_of_le_length (by omega), scanF_bad (getFr_cut hf (by omega))]; rfl
      · cases j with
        | zero => exact Nat.le_refl _
        | succ j => rw [List.take_succ_cons, encFs_cons, List.length_append] at hlen; omega
    · obtain ⟨k, k1, k2, k3, k4⟩ := scan_cut l (fun g hg => h g (by simp [hg])) (n - (frB f).length)
      refine ⟨k + 1, by simpa using k1, ?_, ?_, fun j hj hlen => ?_⟩
      · have e : (encFs (f :: l)).take n = frB f ++ (encFs l).take (n - (frB f).length) := by
          rw [encFs_cons, List.take_append, List.take_of_length_le (by omega)]
        rw [e, scanF_cons hf, k2]; rfl
      · rw [List.take_succ_cons, encFs_cons, List.length_append]; omega
      · cases j with
        | zero => exact Nat.zero_le _
        | succ j =>
          rw [List.take_succ_cons, encFs_cons, List.length_append] at hlen
          have := k4 j (by simpa using hj) (by omega)
          omega
theorem scan_all (l : List Frame) (h : ∀ f ∈ l, FrOk f) : (scanF (encFs l)).1 = l := by
  obtain ⟨k, k1, k2, k3, k4⟩ := scan_cut l h (encFs l).length
  rw [List.take_length] at k2
  have := k4 l.length (Nat.le_refl _) (by rw [List.take_length]; exact Nat.le_refl _)
  rw [k2, List.take_of_length_le this]
end Go.Proofs.Ytobngncjflogcaa.AM

set_option linter.unusedVariables false
set_option linter.unusedSimpArgs false
namespace Go.Proofs.Ytobngncjflogcaa.AM
open Go
set_option maxRecDepth 100000
set_option maxHeartbeats 2000000
theorem okP_of {d : List Part} (h : checkF d = 0) : ∀ p ∈ d, okP p := (checkF_all h).2.1
theorem in_of {d : List Part} (h : checkF d = 0) : (inT (toks d) : Int) = inF d := (inT_toks _ (okP_of h))
theorem out_of {d : List Part} (h : checkF d = 0) : (outT (toks d) : Int) = outF d := (outT_toks _ (okP_of h))
theorem doF_chain {d : List Part} {s : List UInt8} (h : (doF d s).2 = 0) : checkF d = 0 ∧ inT (toks d) = s.length ∧ (doF d s).1.length = outT (toks d) ∧ s.length ≤ 500 := by
  unfold doF at h ⊢
  by_cases hf : fitsF d s.length = 0
  · obtain ⟨h1, h2⟩ := fitsF_ok hf
    have h3 := in_of h1
    have h4 := checkF_all h1
    rw [if_pos hf]
    have h5 : inT (toks d) = s.length := by omega
    refine ⟨h1, h5, ?_, by omega⟩
    exact doT_len _ _ h5.symm
  · rw [if_neg hf] at h; exact absurd h hf
def lastT (cur : List UInt8) (l : List Rev) : List UInt8 := (cur :: (goT cur l).1).getD l.length []
theorem goT_cons {cur : List UInt8} {r : Rev} {l : List Rev} (h : (goT cur (r :: l)).2 = 0) : oneF r = 0 ∧ (doF r.delta cur).2 = 0 ∧ (goT (doF r.delta cur).1 l).2 = 0 ∧ (goT cur (r :: l)).1 = (doF r.delta cur).1 :: (goT (doF r.delta cur).1 l).1 := by
  rw [goT] at h ⊢
  by_cases h1 : oneF r ≠ 0
  · rw [if_pos h1] at h; exact absurd h h1
  rw [if_neg h1] at h ⊢
  by_cases h2 : (doF r.delta cur).2 ≠ 0
  · rw [if_pos h2] at h; exact absurd h h2
  rw [if_neg h2] at h ⊢
  exact ⟨Decidable.of_not_not h1, Decidable.of_not_not h2, h, rfl⟩
theorem lastT_cons {cur : List UInt8} {r : Rev} {l : List Rev} (h : (goT cur (r :: l)).2 = 0) : lastT cur (r :: l) = lastT (doF r.delta cur).1 l := by
  unfold lastT
  rw [(goT_cons h).2.2.2]
  rfl
end Go.Proofs.Ytobngncjflogcaa.AM

set_option linter.unusedVariables false
set_option linter.unusedSimpArgs false
namespace Go.Proofs.Ytobngncjflogcaa.AM
open Go Go.RowKit
set_option maxRecDepth 100000
set_option maxHeartbeats 2000000
def EqT (f g : Nat → Int) : Prop := ∀ j, j < 16 → f j = g j
theorem EqT.refl (f : Nat → Int) : EqT f f := fun _ _ => rfl
theorem EqT.symm {f g : Nat → Int} (h : EqT f g) : EqT g f := fun j hj => (h j hj).symm
theorem EqT.trans {f g k : Nat → Int} (h : EqT f g) (h' : EqT g k) : EqT f k := fun j hj => (h j hj).trans (h' j hj)
theorem EqT.add {f g : Nat → Int} (h : EqT f g) (w : Nat) (q n : Int) : EqT (addTb f w q n) (addTb g w q n) := fun j hj => by
  unfold addTb
  split
  · rfl
  · split
    · rfl
    · exact h j hj
/-- the table behind some revisions -/
def tabG : (Nat → Int) → Int → List Rev → Nat → Int
  | fs, _, [] => fs
  | fs, b, r :: l => tabG (addTb fs r.who.toNat r.seq (b + 1)) (b + 1) l
theorem tabG_app : ∀ (a c : List Rev) (fs : Nat → Int) (b : Int), tabG fs b (a ++ c) = tabG (tabG fs b a) (b + a.length) c
  | [], c, fs, b => by simp [tabG]
  | r :: a, c, fs, b => by
    rw [List.cons_append, tabG, tabG, tabG_app a c]
    congr 1
    simp only [List.length_cons]; omega
theorem tabG_eqT : ∀ (a : List Rev) (f g : Nat → Int) (b : Int), EqT f g → EqT (tabG f b a) (tabG g b a)
  | [], _, _, _, h => h
  | r :: a, _, _, _, h => tabG_eqT a _ _ _ (h.add _ _ _)
/-- revisions that may come one behind the other: base, table, how many there are, the text -/
def chainOk (b : Int) : (Nat → Int) → Nat → List UInt8 → List Rev → Prop
  | _, _, _, [] => True
  | tb, i, now, r :: l => nextF b tb i now.length r = 0 ∧ chainOk b (addTb tb r.who.toNat r.seq (b + (i : Int) + 1)) (i + 1) (doF r.delta now).1 l
def nowG (now : List UInt8) : List Rev → List UInt8
  | [] => now
  | r :: l => nowG (doF r.delta now).1 l
theorem nowG_app : ∀ (a c : List Rev) (now : List UInt8), nowG now (a ++ c) = nowG (nowG now a) c
  | [], _, _ => rfl
  | r :: a, c, now => nowG_app a c _
theorem next_eqT {b : Int} {f g : Nat → Int} (h : EqT f g) (i : Nat) (n : Int) (r : Rev) : nextF b f i n r = nextF b g i n r := by
  unfold nextF
  by_cases h1 : oneF r ≠ 0
  · rw [if_pos h1, if_pos h1]
  · have := oneF_all (Decidable.of_not_not h1)
    rw [if_neg h1, if_neg h1, h (2 * r.who.toNat) (by omega)]
theorem chain_eqT {b : Int} : ∀ (l : List Rev) (f g : Nat → Int) (i : Nat) (now : List UInt8), EqT f g → chainOk b f i now l → chainOk b g i now l
  | [], _, _, _, _, _, _ => trivial
  | r :: l, f, g, i, now, h, hc => ⟨by rw [← next_eqT h]; exact hc.1, chain_eqT l _ _ _ _ (h.add _ _ _) hc.2⟩
theorem chain_app {b : Int} : ∀ (a c : List Rev) (tb : Nat → Int) (i : Nat) (now : List UInt8), chainOk b tb i now (a ++ c) ↔ chainOk b tb i now a ∧ chainOk b (tabG tb (b + (i : Int)) a) (i + a.length) (nowG now a) c
  | [], c, tb, i, now => by simp [chainOk, tabG, nowG]
  | r :: a, c, tb, i, now => by
    rw [List.cons_append, chainOk, chain_app a c, chainOk, tabG, nowG, and_assoc]
    have e1 : b + ((i + 1 : Nat) : Int) = b + (i : Int) + 1 := by omega
    have e2 : i + 1 + a.length = i + (r :: a).length := by simp only [List.length_cons]; omega
    rw [e1, e2]
theorem next_one {b : Int} {tb : Nat → Int} {i : Nat} {n : Int} {r : Rev} (h : nextF b tb i n r = 0) : oneF r = 0 ∧ fitsF r.delta n = 0 ∧ i < 64 ∧ b + (i : Int) < 2147483647 ∧ tb (2 * r.who.toNat) < r.seq := by
  unfold nextF at h
  by_cases h1 : oneF r ≠ 0
  · rw [if_pos h1] at h; exact absurd h h1
  rw [if_neg h1] at h
  by_cases h2 : r.seq ≤ tb (2 * r.who.toNat)
  · rw [if_pos h2] at h; exact absurd h (by decide)
  rw [if_neg h2] at h
  by_cases h3 : 64 ≤ (i : Int) ∨ 2147483647 ≤ b + i
  · rw [if_pos h3] at h; exact absurd h (by decide)
  rw [if_neg h3] at h
  exact ⟨Decidable.of_not_not h1, h, by omega, by omega, by omega⟩
theorem chain_one {b : Int} : ∀ (l : List Rev) (tb : Nat → Int) (i : Nat) (now : List UInt8), chainOk b tb i now l → ∀ r ∈ l, oneF r = 0
  | [], _, _, _, _, _, h => by cases h
  | r :: l, _, _, _, hc, q, hq => by
    rcases List.mem_cons.1 hq with rfl | hq
    · exact (next_one hc.1).1
    · exact chain_one l _ _ _ hc.2 q hq
theorem chain_len {b : Int} : ∀ (l : List Rev) (tb : Nat → Int) (i : Nat) (now : List UInt8), chainOk b tb i now l → l = [] ∨ i + l.length ≤ 64 ∧ b + ((i + l.length : Nat) : Int) ≤ 2147483647
  | [], _, _, _, _ => .inl rfl
  | r :: l, _, i, _, hc => by
    have h1 := next_one hc.1
    right
    rcases chain_len l _ _ _ hc.2 with rfl | h
    · simp only [List.length_cons, List.length_nil]; omega
    · simp only [List.length_cons]; omega
theorem do_of_next {b : Int} {tb : Nat → Int} {i : Nat} {now : List UInt8} {r : Rev} (h : nextF b tb i now.length r = 0) : (doF r.delta now).2 = 0 := by
  have := (next_one h).2.1
  unfold doF
  rw [if_pos this]
theorem chain_go {b : Int} : ∀ (l : List Rev) (tb : Nat → Int) (i : Nat) (now : List UInt8), chainOk b tb i now l → (goT now l).2 = 0 ∧ lastT now l = nowG now l
  | [], _, _, now, _ => ⟨rfl, rfl⟩
  | r :: l, tb, i, now, hc => by
    obtain ⟨h1, h2⟩ := chain_go l _ _ _ hc.2
    have h3 := (next_one hc.1).1
    have h4 := do_of_next hc.1
    have e : (goT now (r :: l)).2 = 0 := by rw [goT, if_neg (fun x => x h3), if_neg (fun x => x h4)]; exact h1
    refine ⟨e, ?_⟩
    rw [lastT_cons e, h2]; rfl
theorem chain_now {b : Int} : ∀ (l : List Rev) (tb : Nat → Int) (i : Nat) (now : List UInt8), chainOk b tb i now l → now.length ≤ 500 → (nowG now l).length ≤ 500
  | [], _, _, _, _, h => h
  | r :: l, tb, i, now, hc, h => by
    refine chain_now l _ _ _ hc.2 ?_
    obtain ⟨c1, _, c3, _⟩ := doF_chain (do_of_next hc.1)
    have := checkF_all c1
    have := out_of c1
    omega
/-- the text at each of the revisions -/
theorem goT_at : ∀ (l : List Rev) (now : List UInt8) (k : Nat), (goT now l).2 = 0 → k ≤ l.length → (now :: (goT now l).1).getD k [] = nowG now (l.take k)
  | _, _, 0, _, _ => rfl
  | [], _, k + 1, _, h => absurd h (by simp)
  | r :: l, now, k + 1, h, hk => by
    obtain ⟨_, _, c3, c4⟩ := goT_cons h
    rw [c4, List.getD_cons_succ, List.take_succ_cons, nowG]
    exact goT_at l _ k c3 (by simpa using hk)
theorem text_at {b : Int} {fs : Nat → Int} {tx : List UInt8} {l : List Rev} (hc : chainOk b fs 0 tx l) (htx : tx.length ≤ 500) (k : Nat) (hk : k ≤ l.length) : textF tx l (k : Int) = (nowG tx (l.take k), 0) := by
  have hg := (chain_go l _ _ _ hc).1
  have h64 : l.length ≤ 64 := by
    rcases chain_len l _ _ _ hc with rfl | h
    · simp
    · omega
  have ht : textsF tx l = (tx :: (goT tx l).1, 0) := by
    unfold textsF
    rw [if_neg (by omega), if_neg (fun x => x hg)]
  unfold textF
  rw [ht]
  rw [if_neg (fun x => x rfl), if_neg (by omega)]
  simp only [Int.toNat_natCast]
  rw [goT_at l tx k hg hk]
def revFr (r : Rev) : Frame := ⟨2, revBody r⟩
def doneFr : Frame := ⟨3, []⟩
def headFr (g b : Int) (tx : List UInt8) (t : Nat → Int) : Frame := ⟨1, headBody g b tx t⟩
theorem revFr_ok {r : Rev} (h : oneF r = 0) : FrOk (revFr r) := ⟨by show (1 : Int) ≤ 2; decide, by show (2 : Int) ≤ 255; decide, revBody_len h⟩
theorem doneFr_ok : FrOk doneFr := ⟨by decide, by decide, by decide⟩
theorem headFr_ok {g b : Int} {tx : List UInt8} {t : Nat → Int} (h : tx.length ≤ 500) : FrOk (headFr g b tx t) := ⟨by show (1 : Int) ≤ 1; decide, by show (1 : Int) ≤ 255; decide, headBody_len h⟩
theorem revF_fr {r : Rev} (h : oneF r = 0) : revF r = (frB (revFr r), 0) := by
  have := revBody_len h
  unfold revF
  rw [if_neg (fun x => x h)]
  have e : numL r.who.toNat ++ numL r.seq.toNat ++ codeF r.delta = revBody r := rfl
  rw [e]
  unfold putFr
  rw [if_neg (by omega), if_neg (by omega)]
  rfl
theorem headF_fr {g b : Int} {tx : List UInt8} {t : Nat → Int} (h : HdOk g b tx t) : headF g b tx t = (frB (headFr g b tx t), 0) := by
  have := headBody_len (g := g) (b := b) (t := t) h.tx
  have htx := h.tx
  unfold headF
  rw [if_pos h.flat, if_neg (by omega)]
  have e : numsL (flatL g b t) ++ tx = headBody g b tx t := rfl
  rw [e]
  unfold putFr
  rw [if_neg (by omega), if_neg (by omega)]
  rfl
theorem rev_ok {r : Rev} (h : oneF r = 0) : r.Ok ∧ r.delta.length ≤ 1000000000 := by
  obtain ⟨h1, h2, h3⟩ := oneF_all h
  have h4 := checkF_all h3
  have hm : maxLen = 9223372036854775807 := by decide
  refine ⟨⟨⟨by omega, by omega⟩, ⟨by omega, by omega⟩, by omega, fun p hp => ?_⟩, by omega⟩
  obtain ⟨b1, b2, b3, b4⟩ := okP_bd (h4.2.1 p hp)
  have hk : p.kind = 1 ∨ p.kind = 2 ∨ p.kind = 3 := by rcases b4 with h | ⟨h, _⟩ <;> omega
  exact ⟨⟨by omega, by omega⟩, ⟨by omega, by omega⟩, by omega⟩
theorem done_fr : (putFr 3 []).1 = frB doneFr := rfl
def runL : List Frame → LogD → List UInt8 → Option (LogD × List UInt8)
  | [], L, now => some (L, now)
  | f :: fs, L, now => match stepL L now f with
    | none => none
    | some (L2, n2) => runL fs L2 n2
theorem allL_run : ∀ (a c : List Frame) (L : LogD) (now : List UInt8) (q : LogD × List UInt8), runL a L now = some q → allL (a ++ c) L now = allL c q.1 q.2
  | [], c, L, now, q, h => by cases h; rfl
  | f :: a, c, L, now, q, h => by
    rw [List.cons_append, allL]
    rw [runL] at h
    cases hs : stepL L now f with
    | none => rw [hs] at h; cases h
    | some p =>
      rw [hs] at h
      exact allL_run a c _ _ q h
def LogD.addAll (L : LogD) (l : List Rev) : LogD := ⟨L.gen, L.base, L.text, L.first, tabG L.table (L.base + (L.revs.length : Int)) l, L.revs ++ l, L.whole, L.good + ((encFs (l.map revFr)).length : Int)⟩
theorem stepL_rev {L : LogD} {now : List UInt8} {r : Rev} (h : nextF L.base L.table L.revs.length now.length r = 0) : stepL L now (revFr r) = some (L.addAll [r], (doF r.delta now).1) := by
  have h1 := (next_one h).1
  obtain ⟨e1, e2⟩ := revB_body h1
  have hb : (revFr r).body = revBody r := rfl
  have hk : (revFr r).kind = 2 := rfl
  unfold stepL
  rw [hk, hb, e1, e2]
  rw [if_neg (by decide), if_pos rfl, if_pos ⟨rfl, h⟩]
  have e3 : ((encFs ([r].map revFr)).length : Int) = ((revBody r).length : Int) + 7 := by
    rw [List.map_cons, List.map_nil, encFs_cons, List.length_append, frB_len]
    have : (encFs []).length = 0 := rfl
    rw [this, hb]; omega
  unfold LogD.addAll
  rw [e3]
  rfl
theorem addAll_cons (L : LogD) (r : Rev) (l : List Rev) : (L.addAll [r]).addAll l = L.addAll (r :: l) := by
  unfold LogD.addAll
  simp only [List.map_cons, List.map_nil, encFs_cons, List.length_append, List.length_cons, List.length_nil, tabG]
  have e1 : L.base + ((L.revs.length + (0 + 1) : Nat) : Int) = L.base + (L.revs.length : Int) + 1 := by omega
  have e2 : L.good + (((frB (revFr r)).length + (encFs []).length : Nat) : Int) + ((encFs (l.map revFr)).length : Int) = L.good + (((frB (revFr r)).length + (encFs (l.map revFr)).length : Nat) : Int) := by
    have : (encFs []).length = 0 := rfl
    rw [this]; omega
  rw [e1, e2]
  simp
theorem addAll_nil (L : LogD) : L.addAll [] = L := by
  unfold LogD.addAll
  cases L
  simp [tabG, encFs]
theorem run_revs : ∀ (l : List Rev) (L : LogD) (now : List UInt8), chainOk L.base L.table L.revs.length now l → runL (l.map revFr) L now = some (L.addAll l, nowG now l)
  | [], L, now, _ => by rw [addAll_nil]; rfl
  | r :: l, L, now, hc => by
    rw [List.map_cons, runL, stepL_rev hc.1]
    simp only
    rw [run_revs l (L.addAll [r]) _ ?_, addAll_cons]
    · rfl
    · have e : (L.addAll [r]).revs.length = L.revs.length + 1 := by simp [LogD.addAll]
      have e2 : (L.addAll [r]).table = addTb L.table r.who.toNat r.seq (L.base + (L.revs.length : Int) + 1) := rfl
      rw [e, e2]
      exact hc.2
/-- the frames of a slot: a head, revisions, and (if it is whole) Done and what came behind -/
def tailOf : Option (List Rev) → List Frame
  | none => []
  | some r2 => doneFr :: r2.map revFr
def flOf (g b : Int) (tx : List UInt8) (t : Nat → Int) (r1 : List Rev) (o : Option (List Rev)) : List Frame := headFr g b tx t :: (r1.map revFr ++ tailOf o)
theorem readG_head {hg hb : List UInt8 → Int} {ht : List UInt8 → List UInt8} {hf : List UInt8 → Nat → Int} {ho : List UInt8 → Bool} {B : List UInt8} {g b : Int} {tx : List UInt8} {F : Nat → Int} (h0 : ho B = true) (h1 : hg B = g) (h2 : hb B = b) (h3 : ht B = tx) (h4 : hf B = F) (fs : List Frame) :
    readG hg hb ht hf ho (⟨1, B⟩ :: fs) = (allL fs (headG g b tx F ((B.length : Int) + 7)) tx, 0) := by
  subst h1 h2 h3 h4
  show (if (1 : Int) ≠ 1 ∨ ho B = false then _ else _) = _
  rw [if_neg]
  rintro (h | h)
  · exact h rfl
  · rw [h0] at h; cases h
theorem stepL_done {L : LogD} {now : List UInt8} (h : L.whole = false) : stepL L now doneFr = some (⟨L.gen, L.base, L.text, L.first, L.table, L.revs, true, L.good + 7⟩, now) := by
  unfold stepL
  have hk : doneFr.kind = 3 := rfl
  have hb : doneFr.body = [] := rfl
  rw [hk, hb, if_pos rfl, if_neg (by rw [h]; simp)]
  rfl
theorem logD_eq {g b : Int} {tx : List UInt8} {F t1 t2 : Nat → Int} {r1 r2 : List Rev} {w : Bool} {n1 n2 : Int} (ht : t1 = t2) (hr : r1 = r2) (hn : n1 = n2) : (⟨g, b, tx, F, t1, r1, w, n1⟩ : LogD) = ⟨g, b, tx, F, t2, r2, w, n2⟩ := by
  subst ht hr hn; rfl
theorem readL_flOf {g b : Int} {tx : List UInt8} {t : Nat → Int} (h : HdOk g b tx t) {r1 : List Rev} {o : Option (List Rev)} (hc : chainOk b t 0 tx (r1 ++ o.getD [])) :
    ∃ F, EqT F t ∧ readL (flOf g b tx t r1 o) = (⟨g, b, tx, F, tabG F b (r1 ++ o.getD []), r1 ++ o.getD [], o.isSome, ((encFs (flOf g b tx t r1 o)).length : Int)⟩, 0) := by
  obtain ⟨h1, h2, h3, h4, h5⟩ := head_body h
  have e0 : readL (flOf g b tx t r1 o) = readG (fun x => tkN x 0) (fun x => tkN x 1) (fun x => (tkS x 18).1) (fun x j => tkN x (j + 2)) headOk (headFr g b tx t :: (r1.map revFr ++ tailOf o)) := rfl
  have e1 := readG_head (hg := fun x => tkN x 0) (hb := fun x => tkN x 1) (ht := fun x => (tkS x 18).1) (hf := fun x j => tkN x (j + 2)) (F := fun j => tkN (headBody g b tx t) (j + 2)) h1 h2 h3 h4 rfl (r1.map revFr ++ tailOf o)
  refine ⟨fun j => tkN (headBody g b tx t) (j + 2), h5, ?_⟩
  have hF : EqT (fun j => tkN (headBody g b tx t) (j + 2)) t := h5
  rw [e0]
  refine Eq.trans e1 ?_
  clear e0 e1 h1 h2 h3 h4 h5
  generalize (fun j => tkN (headBody g b tx t) (j + 2)) = F at hF ⊢
  obtain ⟨c1, c2⟩ := (chain_app r1 (o.getD []) t 0 tx).1 hc
  have run1 := run_revs r1 (headG g b tx F (((headBody g b tx t).length : Int) + 7)) tx (chain_eqT r1 t F 0 tx hF.symm c1)
  rw [allL_run _ _ _ _ _ run1]
  have hl : ((encFs (flOf g b tx t r1 o)).length : Int) = ((headBody g b tx t).length : Int) + 7 + ((encFs (r1.map revFr)).length : Int) + ((encFs (tailOf o)).length : Int) := by
    unfold flOf
    rw [encFs_cons, encFs_app, List.length_append, List.length_append, frB_len]
    have : (headFr g b tx t).body = headBody g b tx t := rfl
    rw [this]; omega
  rw [hl]
  cases o with
  | none =>
    have ht : (encFs (tailOf none)).length = 0 := rfl
    rw [ht]
    simp [tailOf, allL, LogD.addAll, headG]
  | some r2 =>
    have hd : (encFs (tailOf (some r2))).length = 7 + (encFs (r2.map revFr)).length := by
      show (encFs (doneFr :: r2.map revFr)).length = _
      rw [encFs_cons, List.length_append, frB_len]; rfl
    rw [hd]
    have ea : ∀ (L : LogD) (now : List UInt8), L.whole = false → allL (tailOf (some r2)) L now = allL (r2.map revFr) ⟨L.gen, L.base, L.text, L.first, L.table, L.revs, true, L.good + 7⟩ now := by
      intro L now hw
      show allL (doneFr :: r2.map revFr) L now = _
      rw [allL, stepL_done hw]
    rw [ea _ _ rfl]
    have c3 := chain_eqT r2 _ _ _ _ (tabG_eqT r1 t F (b + ((0 : Nat) : Int)) hF.symm) c2
    rw [Nat.zero_add] at c3
    have run2 := run_revs r2 ⟨g, b, tx, F, tabG F (b + ((0 : Nat) : Int)) r1, [] ++ r1, true, ((headBody g b tx t).length : Int) + 7 + ((encFs (r1.map revFr)).length : Int) + 7⟩ (nowG tx r1) c3
    have e2 := allL_run _ [] _ _ _ run2
    rw [List.append_nil] at e2
    show (allL (r2.map revFr) ⟨g, b, tx, F, tabG F (b + ((0 : Nat) : Int)) r1, [] ++ r1, true, ((headBody g b tx t).length : Int) + 7 + ((encFs (r1.map revFr)).length : Int) + 7⟩ (nowG tx r1), (0 : Int)) = _
    rw [e2]
    have e3 : tabG F b (r1 ++ r2) = tabG (tabG F (b + ((0 : Nat) : Int)) r1) (b + (r1.length : Int)) r2 := by rw [tabG_app, Int.natCast_zero, Int.add_zero]
    refine congrArg (fun x => (x, (0 : Int))) ?_
    refine logD_eq e3.symm rfl ?_
    show ((headBody g b tx t).length : Int) + 7 + ((encFs (r1.map revFr)).length : Int) + 7 + ((encFs (r2.map revFr)).length : Int) = _
    omega
/-- parts of a slot's frames -/
theorem flOf_whole (g b : Int) (tx : List UInt8) (t : Nat → Int) (r1 r2 : List Rev) (j : Nat) : (flOf g b tx t r1 (some r2)).take (r1.length + 2 + j) = flOf g b tx t r1 (some (r2.take j)) := by
  have e : r1.length + 2 + j = ((r1.length + 1) + j) + 1 := by omega
  rw [e]
  show headFr g b tx t :: (r1.map revFr ++ doneFr :: r2.map revFr).take (r1.length + 1 + j) = _
  have e2 : (r1.map revFr ++ doneFr :: r2.map revFr).take (r1.length + 1 + j) = r1.map revFr ++ doneFr :: (r2.take j).map revFr := by
    have e3 : r1.length + 1 + j = (r1.map revFr).length + (j + 1) := by rw [List.length_map]; omega
    rw [e3, List.take_length_add_append, List.take_succ_cons, List.map_take]
  rw [e2]; rfl
theorem flOf_len (g b : Int) (tx : List UInt8) (t : Nat → Int) (r1 : List Rev) (o : Option (List Rev)) : (flOf g b tx t r1 o).length = r1.length + 1 + (match o with | none => 0 | some r2 => r2.length + 1) := by
  cases o <;> simp [flOf, tailOf]
  omega
theorem flOf_take (g b : Int) (tx : List UInt8) (t : Nat → Int) (r1 : List Rev) (o : Option (List Rev)) (k : Nat) (hk : k ≤ (flOf g b tx t r1 o).length) :
    k = 0 ∨ (∃ j, j ≤ r1.length ∧ k = j + 1 ∧ (flOf g b tx t r1 o).take k = flOf g b tx t (r1.take j) none) ∨ (∃ r2 j, o = some r2 ∧ j ≤ r2.length ∧ k = r1.length + 2 + j ∧ (flOf g b tx t r1 o).take k = flOf g b tx t r1 (some (r2.take j))) := by
  cases k with
  | zero => exact .inl rfl
  | succ k =>
    right
    have e : (flOf g b tx t r1 o).take (k + 1) = headFr g b tx t :: (r1.map revFr ++ tailOf o).take k := rfl
    by_cases hk2 : k ≤ r1.length
    · left
      refine ⟨k, hk2, rfl, ?_⟩
      rw [e, List.take_append_of_le_length (by rw [List.length_map]; exact hk2), ← List.map_take]
      simp [flOf, tailOf]
    · right
      cases o with
      | none => rw [flOf_len] at hk; simp only at hk; omega
      | some r2 =>
        rw [flOf_len] at hk
        simp only at hk
        refine ⟨r2, k + 1 - (r1.length + 2), rfl, by omega, by omega, ?_⟩
        have := flOf_whole g b tx t r1 r2 (k + 1 - (r1.length + 2))
        rw [← this]
        congr 1
        omega
theorem flOf_ok {g b : Int} {tx : List UInt8} {t : Nat → Int} (h : tx.length ≤ 500) {r1 : List Rev} {o : Option (List Rev)} (hc : ∀ r ∈ r1 ++ o.getD [], oneF r = 0) : ∀ f ∈ flOf g b tx t r1 o, FrOk f := by
  intro f hf
  unfold flOf at hf
  rcases List.mem_cons.1 hf with rfl | hf
  · exact headFr_ok h
  · rcases List.mem_append.1 hf with hf | hf
    · obtain ⟨r, hr, rfl⟩ := List.mem_map.1 hf
      exact revFr_ok (hc r (List.mem_append_left _ hr))
    · cases o with
      | none => cases hf
      | some r2 =>
        rcases List.mem_cons.1 hf with rfl | hf
        · exact doneFr_ok
        · obtain ⟨r, hr, rfl⟩ := List.mem_map.1 hf
          exact revFr_ok (hc r (List.mem_append_right _ hr))
/-- what is read of a part of a slot -/
theorem cut_cases {g b : Int} {tx : List UInt8} {t : Nat → Int} (h : HdOk g b tx t) {r1 : List Rev} {o : Option (List Rev)} (hc : chainOk b t 0 tx (r1 ++ o.getD [])) (n : Nat) :
    (scanF ((encFs (flOf g b tx t r1 o)).take n)).1 = [] ∨ (∃ j, j ≤ r1.length ∧ (scanF ((encFs (flOf g b tx t r1 o)).take n)).1 = flOf g b tx t (r1.take j) none) ∨
    (∃ r2 j, o = some r2 ∧ j ≤ r2.length ∧ (scanF ((encFs (flOf g b tx t r1 o)).take n)).1 = flOf g b tx t r1 (some (r2.take j)) ∧ (encFs (flOf g b tx t r1 (some (r2.take j)))).length ≤ n) := by
  obtain ⟨k, k1, k2, k3, k4⟩ := scan_cut (flOf g b tx t r1 o) (flOf_ok h.tx (chain_one _ _ _ _ hc)) n
  rcases flOf_take g b tx t r1 o k k1 with rfl | ⟨j, j1, rfl, j2⟩ | ⟨r2, j, rfl, j1, rfl, j2⟩
  · left; rw [k2]; rfl
  · right; left; exact ⟨j, j1, by rw [k2, j2]⟩
  · right; right
    rw [j2] at k2 k3
    exact ⟨r2, j, rfl, j1, k2, k3⟩
/-- what is read of a part of a slot that holds all that is safe -/
theorem cut_whole {g b : Int} {tx : List UInt8} {t : Nat → Int} (h : HdOk g b tx t) {r1 r2 : List Rev} (hc : chainOk b t 0 tx (r1 ++ r2)) (n js : Nat) (hj : js ≤ r2.length) (hn : (encFs (flOf g b tx t r1 (some (r2.take js)))).length ≤ n) :
    ∃ j, js ≤ j ∧ j ≤ r2.length ∧ (scanF ((encFs (flOf g b tx t r1 (some r2))).take n)).1 = flOf g b tx t r1 (some (r2.take j)) ∧ (encFs (flOf g b tx t r1 (some (r2.take j)))).length ≤ n := by
  obtain ⟨k, k1, k2, k3, k4⟩ := scan_cut (flOf g b tx t r1 (some r2)) (flOf_ok h.tx (o := some r2) (chain_one _ _ _ _ hc)) n
  have hk := k4 (r1.length + 2 + js) (by rw [flOf_len]; simp only; omega) (by rw [flOf_whole]; exact hn)
  have e := flOf_whole g b tx t r1 r2 (k - (r1.length + 2))
  rw [show r1.length + 2 + (k - (r1.length + 2)) = k by omega] at e
  rw [flOf_len] at k1
  simp only at k1
  refine ⟨k - (r1.length + 2), by omega, by omega, by rw [k2, e], by rw [← e]; exact k3⟩
theorem enc_take {g b : Int} {tx : List UInt8} {t : Nat → Int} {r1 r2 : List Rev} (j : Nat) (hj : j ≤ r2.length) : (encFs (flOf g b tx t r1 (some r2))).take (encFs (flOf g b tx t r1 (some (r2.take j)))).length = encFs (flOf g b tx t r1 (some (r2.take j))) := by
  have e : flOf g b tx t r1 (some r2) = flOf g b tx t r1 (some (r2.take j)) ++ (r2.drop j).map revFr := by
    show headFr g b tx t :: (r1.map revFr ++ doneFr :: r2.map revFr) = (headFr g b tx t :: (r1.map revFr ++ doneFr :: (r2.take j).map revFr)) ++ (r2.drop j).map revFr
    rw [List.cons_append, List.append_assoc, List.cons_append, ← List.map_append, List.take_append_drop]
  rw [e, encFs_app]
  exact List.take_left
end Go.Proofs.Ytobngncjflogcaa.AM

set_option linter.unusedVariables false
set_option linter.unusedSimpArgs false
namespace Go.Proofs.Ytobngncjflogcaa.AM
open Go Go.RowKit
set_option maxRecDepth 100000
set_option maxHeartbeats 2000000
theorem tabG_snoc (fs : Nat → Int) (b : Int) (l : List Rev) (i : Nat) (r : Rev) (h : l[i]? = some r) : tabG fs b (l.take (i + 1)) = addTb (tabG fs b (l.take i)) r.who.toNat r.seq (b + (i : Int) + 1) := by
  have hi : i < l.length := (List.getElem?_eq_some_iff.1 h).1
  rw [List.take_add_one, h, Option.toList_some, tabG_app]
  have e : ((l.take i).length : Int) = i := by rw [List.length_take]; omega
  rw [e]; rfl
def ac_stab : AC := .seq (.region false [
    ⟨some 4, none, .alloc 79 [(.int .i64 0), (.int .i64 0), (.int .i64 0), (.int .i64 0), (.int .i64 0), (.int .i64 0), (.int .i64 0), (.int .i64 0), (.int .i64 0), (.int .i64 0), (.int .i64 0), (.int .i64 0), (.int .i64 0), (.int .i64 0), (.int .i64 0), (.int .i64 0)]⟩])
  (.seq (.region false [
    ⟨some 8, none, .mov (.t 0)⟩,
    ⟨some 9, none, .nilchk (.t 8)⟩,
    ⟨some 10, none, .faddr 5 (.t 9)⟩,
    ⟨some 11, none, .faddr 3 (.t 10)⟩,
    ⟨some 12, none, .loadn 16 (.t 11)⟩,
    ⟨some 5, none, .alloc 79 [(.int .i64 0), (.int .i64 0), (.int .i64 0), (.int .i64 0), (.int .i64 0), (.int .i64 0), (.int .i64 0), (.int .i64 0), (.int .i64 0), (.int .i64 0), (.int .i64 0), (.int .i64 0), (.int .i64 0), (.int .i64 0), (.int .i64 0), (.int .i64 0)]⟩,
    ⟨none, none, .store 16 (.t 5) (.t 12)⟩])
  (.seq (.seq (.region true [
    ⟨some 13, none, .mov (.t 0)⟩,
    ⟨some 14, none, .nilchk (.t 13)⟩,
    ⟨some 15, none, .faddr 5 (.t 14)⟩,
    ⟨some 16, none, .faddr 35 (.t 15)⟩,
    ⟨some 17, none, .load1 (.t 16)⟩,
    ⟨some 18, none, .mov (.t 1)⟩,
    ⟨some 19, none, .mov (.t 0)⟩,
    ⟨some 20, none, .nilchk (.t 19)⟩,
    ⟨some 21, none, .faddr 5 (.t 20)⟩,
    ⟨some 22, none, .faddr 1 (.t 21)⟩,
    ⟨some 23, none, .load1 (.t 22)⟩,
    ⟨some 24, none, .bin .sub (.t 18) (.t 23)⟩,
    ⟨some 25, none, .slsl 3 (.t 17) none (some (.t 24))⟩,
    ⟨some 26, none, .len false (.t 25)⟩,
    ⟨some 27, none, .mov (.c (.int .i64 0))⟩])
  (.block 0 (.loop (.seq (.region false [
      ⟨some 28, none, .bin .lss (.t 27) (.t 26)⟩])
    (.seq (.cond (.t 28)
      (.skip)
      (.exit 0))
    (.seq (.block 1 (.seq (.region false [
      ⟨some 29, none, .mov (.t 27)⟩,
      ⟨some 30, none, .iaddr 3 (.t 25) (.t 27)⟩,
      ⟨some 31, none, .loadn 3 (.t 30)⟩,
      ⟨some 7, none, .alloc 45 [(.int .i64 0), (.int .i64 0), (.slice none 0 0)]⟩,
      ⟨some 6, none, .mov (.t 29)⟩,
      ⟨none, none, .store 3 (.t 7) (.t 31)⟩])
    (.region true [
      ⟨some 32, none, .faddr 0 (.t 7)⟩,
      ⟨some 33, none, .load1 (.t 32)⟩,
      ⟨some 34, none, .faddr 1 (.t 7)⟩,
      ⟨some 35, none, .load1 (.t 34)⟩,
      ⟨some 36, none, .mov (.t 0)⟩,
      ⟨some 37, none, .nilchk (.t 36)⟩,
      ⟨some 38, none, .faddr 5 (.t 37)⟩,
      ⟨some 39, none, .faddr 1 (.t 38)⟩,
      ⟨some 40, none, .load1 (.t 39)⟩,
      ⟨some 41, none, .mov (.t 6)⟩,
      ⟨some 42, none, .bin .add (.t 40) (.t 41)⟩,
      ⟨some 43, none, .bin .add (.t 42) (.c (.int .i64 1))⟩,
      ⟨some 44, none, .build [(.int .i64 0), (.int .i64 0)] [(0, 1, (.t 35)), (1, 1, (.t 43))]⟩,
      ⟨some 45, none, .iarr 8 2 (.t 5) (.t 33)⟩,
      ⟨none, none, .store 2 (.t 45) (.t 44)⟩])))
    (.region false [
      ⟨some 46, none, .bin .add (.t 27) (.c (.int .i64 1))⟩,
      ⟨some 27, none, .mov (.t 46)⟩])))))))
  (.seq (.region false [
    ⟨some 47, none, .loadn 16 (.t 5)⟩,
    ⟨none, none, .store 16 (.t 4) (.t 47)⟩])
  (.ret))))
theorem ok_stab : FnOk Try.prog 66 Try.f66 ac_stab [.cn 4 16] 2 drawD := ⟨Try.func66, by decide +kernel, by kernel_rfl, by kernel_rfl, by decide +kernel⟩
structure YSt (fs : Nat → Int) (b : Int) (l : List Rev) (a : Nat) where
  i : Nat
  k : Int
  tb : Nat → Int
  hi : i ≤ a
  hk : k = (i : Int)
  htb : tb = tabG fs b (l.take i)
theorem vc_stab (P : Prim) (hP : P = std) (T T1 : CallT) (bl : Nat) (d : SC) (ba : Option Nat) (l : List Rev) (n : Nat) (hn : n = l.length) (rows : List (List V)) (hrows : rows = l.map encRev) (mv : V) (hv2 : V.one mv = true) (hb : 0 ≤ d.b ∧ d.b ≤ 4294967295) (hn2 : n ≤ 1000) (hwho : ∀ r ∈ l, 0 ≤ r.who ∧ r.who ≤ 7) (j : Int) (hj : d.b ≤ j ∧ j ≤ d.b + (n : Int)) (a : Nat) (haj : j - d.b = (a : Int))
    (R : S → Prop) (hR : ∀ (s s' : S) (tb : Nat → Int), tb = tabG d.fs d.b (l.take a) → Ent s s' → Ret [.cn 4 16] [tabV tb] s' → agreeH (S2 bl d ba n rows mv) s' → R s) : awp P T T1 ac_stab (S0 [.ptr 0 (some bl) 47 0 0, .int .i64 j] (lookH (S2 bl d ba n rows mv))) R (fun _ _ => False) R := by
  have m1 : P.i64 (P.sub j d.b) := by rw [sub_eq hP]; exact i64I hP (by omega)
  have m2 : P.leP 0 (P.sub j d.b) := le0 hP (by rw [sub_eq hP]; omega)
  have m3 : P.leP (P.sub j d.b) (P.int n) := leI hP (by rw [sub_eq hP, int_eq hP]; omega)
  have m0 : P.leP 0 0 := leI hP (Int.le_refl _)
  obtain ⟨hi, hhi⟩ : ∃ hi, hi = P.sub j d.b := ⟨_, rfl⟩
  have hhi2 : hi = (a : Int) := by rw [hhi, sub_eq hP]; exact haj
  cbv
  repeat' (first
    | (refine And.intro (by first | assumption | decide) ?_; try cbv)
    | (intro β2; try cbv))
  rename_i β4
  rw [← hhi]
  refine ⟨YSt d.fs d.b l a, fun y => [(0, .ptr 0 (some bl) 47 0 0), (4, .ptr 4 (some β4) 16 0 0), (5, .ptr 5 (some β2) 16 0 0), (25, .win 1000001 ba 3 0 hi), (26, .int .i64 (P.sub hi 0)), (27, .int .i64 y.k)],
    fun y => [(0, obSh bl (rowS d (.own 1000001 ba 3 n) mv)), (1000001, obV ba rows), (4, ⟨some β4, 79, 16, [[.int .i64 0, .int .i64 0, .int .i64 0, .int .i64 0, .int .i64 0, .int .i64 0, .int .i64 0, .int .i64 0, .int .i64 0, .int .i64 0, .int .i64 0, .int .i64 0, .int .i64 0, .int .i64 0, .int .i64 0, .int .i64 0]]⟩), (5, ⟨some β2, 79, 16, [[.int .i64 (y.tb 0), .int .i64 (y.tb 1), .int .i64 (y.tb 2), .int .i64 (y.tb 3), .int .i64 (y.tb 4), .int .i64 (y.tb 5), .int .i64 (y.tb 6), .int .i64 (y.tb 7), .int .i64 (y.tb 8), .int .i64 (y.tb 9), .int .i64 (y.tb 10), .int .i64 (y.tb 11), .int .i64 (y.tb 12), .int .i64 (y.tb 13), .int .i64 (y.tb 14), .int .i64 (y.tb 15)]]⟩)], fun y => l.length - y.i,
    ⟨_, Ent.refl _, ⟨0, 0, d.fs, by omega, rfl, by simp [tabG]⟩, ⟨rfl, rfl, rfl, rfl, rfl, rfl, trivial⟩, ⟨rfl, rfl, rfl, rfl, trivial⟩⟩, ?_⟩
  rintro ⟨i, k, tb, hi2, hk, htb⟩
  cbv
  refine br_cases (fun g => ?_) (fun g => ?_)
  · have g2 : k < P.sub hi 0 := lt_t hP g
    have g3 : k < hi := by rw [sub_eq hP] at g2; omega
    have hil : i < l.length := by ((try simp only [nc] at *); omega)
    have hia : i + 1 ≤ a := by ((try simp only [nc] at *); omega)
    obtain ⟨r, hrr⟩ : ∃ r, l[i]? = some r := ⟨_, List.getElem?_eq_getElem hil⟩
    have hra : P.add 0 k = (i : Int) := by rw [add_eq hP, hk]; simp
    have hrow : P.row rows (P.nat (P.add 0 k)) [.int .i64 r.who, .int .i64 r.seq, .sl false 3 (r.delta.map encPart)] := row_of hP hra (by rw [hrows, List.getElem?_map, hrr]; rfl)
    have hxr := tabG_snoc d.fs d.b l i r hrr
    have hw8 := hwho r (List.mem_of_getElem? hrr)
    obtain ⟨w, hw⟩ : ∃ w, r.who = w := ⟨_, rfl⟩
    obtain ⟨sq, hsq⟩ : ∃ w, r.seq = w := ⟨_, rfl⟩
    rw [hw, hsq] at hrow hxr
    rw [hw] at hw8
    generalize r.delta.map encPart = dr at hrow
    obtain ⟨wn, hwn⟩ : ∃ wn, w.toNat = wn := ⟨_, rfl⟩
    have q1 : P.leP 0 k := le0 hP (by rw [hk]; exact Int.natCast_nonneg _)
    have q2 : P.ltP k (P.sub hi 0) := ltI hP g2
    have q3 : P.i64 (P.add k 1) := by rw [add_eq hP]; exact i64I hP (by ((try simp only [nc] at *); omega))
    have q4 : P.add k 1 = ((i + 1 : Nat) : Int) := by rw [add_eq hP, hk]; simp
    have q5 : P.i64 (P.add d.b k) := by rw [add_eq hP]; exact i64I hP (by ((try simp only [nc] at *); omega))
    have q6 : P.i64 (P.add (P.add d.b k) 1) := by rw [add_eq hP, add_eq hP]; exact i64I hP (by ((try simp only [nc] at *); omega))
    have q7 : P.leP 0 w := le0 hP hw8.1
    have q8 : P.ltP w 8 := ltI hP (by omega)
    have hNk : P.nat w = wn := by rw [← hwn]; subst hP; rfl
    rw [hwn] at hxr
    cbv
    repeat' (first
    | (refine And.intro (by first | assumption | decide) ?_; try cbv)
    | (intro β2; try cbv))
    refine ⟨_, hrow, ?_⟩
    cbv
    repeat' (first
      | (refine And.intro (by first | assumption | decide) ?_; try cbv)
      | (intro β3; try cbv))
    have hc : wn = 0 ∨ wn = 1 ∨ wn = 2 ∨ wn = 3 ∨ wn = 4 ∨ wn = 5 ∨ wn = 6 ∨ wn = 7 := by omega
    rcases hc with rfl | rfl | rfl | rfl | rfl | rfl | rfl | rfl
    · refine ⟨0, hNk, ?_⟩
      cbv
      repeat' (first
        | (refine And.intro (by first | assumption | decide) ?_; try cbv)
        | (intro β5; try cbv))
      refine ⟨_, Ent.refl _, ⟨i + 1, _, addTb tb 0 sq (P.add (P.add d.b k) 1), hia, q4, ?_⟩, ⟨rfl, rfl, rfl, rfl, rfl, rfl, trivial⟩, ⟨rfl, rfl, rfl, rfl, trivial⟩, ?_⟩
      · rw [hxr, htb, add_eq hP, add_eq hP, hk]
      · show l.length - (i + 1) < l.length - i; omega
    · refine ⟨1, hNk, ?_⟩
      cbv
      repeat' (first
        | (refine And.intro (by first | assumption | decide) ?_; try cbv)
        | (intro β5; try cbv))
      refine ⟨_, Ent.refl _, ⟨i + 1, _, addTb tb 1 sq (P.add (P.add d.b k) 1), hia, q4, ?_⟩, ⟨rfl, rfl, rfl, rfl, rfl, rfl, trivial⟩, ⟨rfl, rfl, rfl, rfl, trivial⟩, ?_⟩
      · rw [hxr, htb, add_eq hP, add_eq hP, hk]
      · show l.length - (i + 1) < l.length - i; omega
    · refine ⟨2, hNk, ?_⟩
      cbv
      repeat' (first
        | (refine And.intro (by first | assumption | decide) ?_; try cbv)
        | (intro β5; try cbv))
      refine ⟨_, Ent.refl _, ⟨i + 1, _, addTb tb 2 sq (P.add (P.add d.b k) 1), hia, q4, ?_⟩, ⟨rfl, rfl, rfl, rfl, rfl, rfl, trivial⟩, ⟨rfl, rfl, rfl, rfl, trivial⟩, ?_⟩
      · rw [hxr, htb, add_eq hP, add_eq hP, hk]
      · show l.length - (i + 1) < l.length - i; omega
    · refine ⟨3, hNk, ?_⟩
      cbv
      repeat' (first
        | (refine And.intro (by first | assumption | decide) ?_; try cbv)
        | (intro β5; try cbv))
      refine ⟨_, Ent.refl _, ⟨i + 1, _, addTb tb 3 sq (P.add (P.add d.b k) 1), hia, q4, ?_⟩, ⟨rfl, rfl, rfl, rfl, rfl, rfl, trivial⟩, ⟨rfl, rfl, rfl, rfl, trivial⟩, ?_⟩
      · rw [hxr, htb, add_eq hP, add_eq hP, hk]
      · show l.length - (i + 1) < l.length - i; omega
    · refine ⟨4, hNk, ?_⟩
      cbv
      repeat' (first
        | (refine And.intro (by first | assumption | decide) ?_; try cbv)
        | (intro β5; try cbv))
      refine ⟨_, Ent.refl _, ⟨i + 1, _, addTb tb 4 sq (P.add (P.add d.b k) 1), hia, q4, ?_⟩, ⟨rfl, rfl, rfl, rfl, rfl, rfl, trivial⟩, ⟨rfl, rfl, rfl, rfl, trivial⟩, ?_⟩
      · rw [hxr, htb, add_eq hP, add_eq hP, hk]
      · show l.length - (i + 1) < l.length - i; omega
    · refine ⟨5, hNk, ?_⟩
      cbv
      repeat' (first
        | (refine And.intro (by first | assumption | decide) ?_; try cbv)
        | (intro β5; try cbv))
      refine ⟨_, Ent.refl _, ⟨i + 1, _, addTb tb 5 sq (P.add (P.add d.b k) 1), hia, q4, ?_⟩, ⟨rfl, rfl, rfl, rfl, rfl, rfl, trivial⟩, ⟨rfl, rfl, rfl, rfl, trivial⟩, ?_⟩
      · rw [hxr, htb, add_eq hP, add_eq hP, hk]
      · show l.length - (i + 1) < l.length - i; omega
    · refine ⟨6, hNk, ?_⟩
      cbv
      repeat' (first
        | (refine And.intro (by first | assumption | decide) ?_; try cbv)
        | (intro β5; try cbv))
      refine ⟨_, Ent.refl _, ⟨i + 1, _, addTb tb 6 sq (P.add (P.add d.b k) 1), hia, q4, ?_⟩, ⟨rfl, rfl, rfl, rfl, rfl, rfl, trivial⟩, ⟨rfl, rfl, rfl, rfl, trivial⟩, ?_⟩
      · rw [hxr, htb, add_eq hP, add_eq hP, hk]
      · show l.length - (i + 1) < l.length - i; omega
    · refine ⟨7, hNk, ?_⟩
      cbv
      repeat' (first
        | (refine And.intro (by first | assumption | decide) ?_; try cbv)
        | (intro β5; try cbv))
      refine ⟨_, Ent.refl _, ⟨i + 1, _, addTb tb 7 sq (P.add (P.add d.b k) 1), hia, q4, ?_⟩, ⟨rfl, rfl, rfl, rfl, rfl, rfl, trivial⟩, ⟨rfl, rfl, rfl, rfl, trivial⟩, ?_⟩
      · rw [hxr, htb, add_eq hP, add_eq hP, hk]
      · show l.length - (i + 1) < l.length - i; omega
  · have g2 : ¬ k < P.sub hi 0 := lt_f hP g
    have g3 : ¬ k < hi := by rw [sub_eq hP] at g2; omega
    have hil : i = a := by ((try simp only [nc] at *); omega)
    subst hil
    cbv
    repeat' (first
    | (refine And.intro (by first | assumption | decide) ?_; try cbv)
    | (intro β2; try cbv))
    exact hR _ _ tb htb (Ent.refl _) ⟨rfl, rfl, Nat.zero_lt_succ 0, Nat.le_refl 16, rfl⟩ ⟨rfl, rfl, trivial⟩
theorem tabV_fz (f : Nat → Int) : Fz (tabV f) := .agg _ (by simp; exact ⟨.int _ _, .int _ _, .int _ _, .int _ _, .int _ _, .int _ _, .int _ _, .int _ _, .int _ _, .int _ _, .int _ _, .int _ _, .int _ _, .int _ _, .int _ _, .int _ _⟩)
theorem sp_stab (bl : Nat) (d : SC) (ba : Option Nat) (l : List Rev) (hb : 0 ≤ d.b ∧ d.b ≤ 4294967295) (hn2 : l.length ≤ 1000) (hwho : ∀ r ∈ l, 0 ≤ r.who ∧ r.who ≤ 7) (j : Int) (hj : d.b ≤ j ∧ j ≤ d.b + (l.length : Int)) (mv : V) (hq : MQ mv) : Spec Try.prog 66 [.ptr 0 (some bl) 47 0 0, .int .i64 j] (lookH (S2 bl d ba l.length (l.map encRev) mv))
    fun x h' => ∃ L', (x = tabV (tabG d.fs d.b (l.take (j - d.b).toNat)) ∧ L' = S2 bl d ba l.length (l.map encRev) mv) ∧ h' = lookH L' :=
  spec_meth dOk ok_stab (L := S2 bl d ba l.length (l.map encRev) mv) (fun x L' => x = tabV (tabG d.fs d.b (l.take (j - d.b).toNat)) ∧ L' = S2 bl d ba l.length (l.map encRev) mv) fun R hR =>
    vc_stab std rfl _ _ bl d ba l _ rfl _ rfl mv hq.1.2 hb hn2 hwho j hj (j - d.b).toNat (by omega) R fun s s' tb htb he hr ha => hR s s' _ _ he (resV_mono _ _ _ (fun x hx => by rw [hx, htb]; rfl) hr) ha (tabV_fz _) (S2_fz hq.1.1) ⟨rfl, rfl⟩
def STabC (T : CallT) : Prop := ∀ (k ka bl : Nat) (d : SC) (ba : Option Nat) (n : Nat) (rows : List (List V)) (l : List Rev) (mv : V) (j : Int) (h : Hp) (K : V → Hp → Prop), rows = l.map encRev → n = l.length → (0 ≤ d.b ∧ d.b ≤ 4294967295) → l.length ≤ 1000 → (∀ r ∈ l, 0 ≤ r.who ∧ r.who ≤ 7) → (d.b ≤ j ∧ j ≤ d.b + (l.length : Int)) → MQ mv → Nat.beq k ka = false → rt2B k ka mv = true → h k = some (obSh bl (rowS d (.own ka ba 3 n) mv)) → h ka = some (obV ba rows) →
  (∀ tb, tb = tabG d.fs d.b (l.take (j - d.b).toNat) → K (tabV tb) h) → T 66 [.ptr k (some bl) 47 0 0, .int .i64 j] h K
theorem stabP : STabC (CallP Try.prog) := by
  rintro k ka bl d ba n rows l mv j h K rfl rfl hb hn hwho hj hq hne hr hk hka hK
  exact rdS2P (Q := MQ) (fun g => hq.rl g) (fun mv hq => sp_stab bl d ba l hb hn hwho j hj mv hq) rfl (fun _ => rfl) hq.1.1 hne hk hka (hK _ rfl)
structure Mv where
  f : Int
  c : Int
  w : Bool
def mvN (km bm : Nat) : Option Mv → V
  | none => .nil
  | some _ => .ptr km (some bm) 3 0 0
def obMv (bm : Nat) : Option Mv → Ob
  | none => ⟨none, 124, 3, []⟩
  | some m => ⟨some bm, 124, 3, [[.int .i64 m.f, .int .i64 m.c, .bool m.w]]⟩
theorem mvN_fz (km bm : Nat) (m : Option Mv) : Fz (mvN km bm m) := by cases m <;> first | exact .nil | exact .ptr _ _ _ _ _
theorem mvN_one (km bm : Nat) (m : Option Mv) : V.one (mvN km bm m) = true := by cases m <;> rfl
theorem mvN_noW (km bm : Nat) (m : Option Mv) : noW (mvN km bm m) = true := by cases m <;> rfl
theorem mvN_mq (km bm : Nat) (m : Option Mv) : MQ (mvN km bm m) := ⟨⟨mvN_fz _ _ _, mvN_one _ _ _⟩, mvN_noW _ _ _⟩
theorem mvN_rl (km bm : Nat) (m : Option Mv) (g : Nat → Nat) : (mvN km bm m).rl g = mvN (g km) bm m := by cases m <;> rfl
theorem obMv_ren (bm : Nat) (m : Option Mv) (g : Nat → Nat) : (obMv bm m).ren g = obMv bm m := by cases m <;> rfl
theorem obMv_fz (bm : Nat) (m : Option Mv) : (obMv bm m).Fz := by
  intro r hr v hv
  cases m with
  | none => cases hr
  | some m =>
    simp only [obMv, List.mem_singleton] at hr
    subst hr
    simp only [List.mem_cons, List.not_mem_nil, or_false] at hv
    rcases hv with rfl | rfl | rfl
    · exact .int _ _
    · exact .int _ _
    · exact .bool _
def S3 (bl : Nat) (d : SC) (ba : Option Nat) (n : Nat) (rows : List (List V)) (bm : Nat) (m : Option Mv) : List (Nat × Ob) := [(0, obSh bl (rowS d (.own 1000001 ba 3 n) (mvN 1 bm m))), (1000001, obV ba rows), (1, obMv bm m)]
theorem S3_fz {bl : Nat} {d : SC} {ba : Option Nat} {n : Nat} {l : List Rev} {bm : Nat} {m : Option Mv} : ∀ p ∈ S3 bl d ba n (l.map encRev) bm m, p.2.Fz := by
  intro p hp
  simp only [S3, List.mem_cons, List.not_mem_nil, or_false] at hp
  rcases hp with rfl | rfl | rfl
  · exact rowS_fz (.own _ _ _ _) (mvN_fz _ _ _) bl
  · exact encRevs_fz _
  · exact obMv_fz _ _
/-- the names of a shop's three objects -/
structure N3 (k ka km : Nat) : Prop where
  a : Nat.beq k ka = false
  b : Nat.beq k km = false
  c : Nat.beq ka km = false
theorem N3.ne {k ka km : Nat} (h : N3 k ka km) : k ≠ ka ∧ k ≠ km ∧ ka ≠ km := by
  refine ⟨fun e => ?_, fun e => ?_, fun e => ?_⟩ <;> subst e
  · have := h.a; rw [Nat.beq_refl] at this; cases this
  · have := h.b; rw [Nat.beq_refl] at this; cases this
  · have := h.c; rw [Nat.beq_refl] at this; cases this
/-- a method that is handed the shop, its revisions and its move -/
theorem callS3 {f k ka km bl bm : Nat} {rest : List V} {d : SC} {ba : Option Nat} {n : Nat} {l : List Rev} {m : Option Mv} {post : V → SC → List Rev → Option Mv → Prop} (hs : Spec Try.prog f (.ptr 0 (some bl) 47 0 0 :: rest) (lookH (S3 bl d ba n (l.map encRev) bm m)) fun x h' => ∃ L', (∃ ba' bm' d' l' m', post x d' l' m' ∧ L' = S3 bl d' ba' l'.length (l'.map encRev) bm' m') ∧ h' = lookH L')
    (hrest : ∀ h m, Args h m rest rest) (hv : ∀ x d' l' m' g, post x d' l' m' → x.ren g = x) (hN : N3 k ka km) {h : Hp} {K : V → Hp → Prop} (hk : h k = some (obSh bl (rowS d (.own ka ba 3 n) (mvN km bm m)))) (hka : h ka = some (obV ba (l.map encRev))) (hkm : h km = some (obMv bm m))
    (hK : ∀ x ba' bm' d' l' m', post x d' l' m' → K x (h.puts [(k, obSh bl (rowS d' (.own ka ba' 3 l'.length) (mvN km bm' m'))), (ka, obV ba' (l'.map encRev)), (km, obMv bm' m')])) : CallE Try.prog f (.ptr k (some bl) 47 0 0 :: rest) h K := by
  obtain ⟨n1, n2, n3⟩ := hN.ne
  have n1' : ¬ ka = k := fun e => n1 e.symm
  have n2' : ¬ km = k := fun e => n2 e.symm
  have n3' : ¬ km = ka := fun e => n3 e.symm
  have b0 : bal [(0, k), (1000001, ka), (1, km)] k = 0 := by simp [bal]
  have b1 : bal [(0, k), (1000001, ka), (1, km)] ka = 1000001 := by simp [bal, n1']
  have b2 : bal [(0, k), (1000001, ka), (1, km)] km = 1 := by simp [bal, n2', n3']
  have l0 : lab [(0, k), (1000001, ka), (1, km)] 0 = k := by simp [lab]
  have l1 : lab [(0, k), (1000001, ka), (1, km)] 1000001 = ka := by simp [lab]
  have l2 : lab [(0, k), (1000001, ka), (1, km)] 1 = km := by simp [lab]
  refine callN [(0, k), (1000001, ka), (1, km)] hs (.cons ?_ (hrest h _)) (by simp) (by simp [n1, n2, n3]) (by simp) (fun p hp => ?_) (fun p hp => ?_) ?_ ?_
  · have := Arg.same (h := h) (m := [(0, k), (1000001, ka), (1, km)]) (.ptr k (some bl) 47 0 0)
    simpa [V.ren, V.rl, b0] using this
  · simp only [S3, List.mem_cons, List.not_mem_nil, or_false] at hp
    rcases hp with rfl | rfl | rfl <;> simp
  · simp only [S3, List.mem_cons, List.not_mem_nil, or_false] at hp
    rcases hp with rfl | rfl | rfl
    · refine ⟨?_, rowS_fz (.own _ _ _ _) (mvN_fz _ _ _) bl⟩
      show (h (lab _ 0)).map _ = _
      rw [l0, hk, Option.map_some, obSh_ren, mvN_rl, b2]
      show some (obSh bl (rowS d (.own (bal _ ka) ba 3 n) _)) = _
      rw [b1]
    · refine ⟨?_, encRevs_fz _⟩
      show (h (lab _ 1000001)).map _ = _
      rw [l1, hka, Option.map_some, obV_ren]
    · refine ⟨?_, obMv_fz _ _⟩
      show (h (lab _ 1)).map _ = _
      rw [l2, hkm, Option.map_some, obMv_ren]
  · rintro v L' ⟨ba', bm', d', l', m', _, rfl⟩; rfl
  · rintro v L' ⟨ba', bm', d', l', m', hp, rfl⟩
    rw [hv v d' l' m' _ hp]
    have e : backL [(0, k), (1000001, ka), (1, km)] (Ob.ren (lab [(0, k), (1000001, ka), (1, km)])) (S3 bl d' ba' l'.length (l'.map encRev) bm' m') = [(k, obSh bl (rowS d' (.own ka ba' 3 l'.length) (mvN km bm' m'))), (ka, obV ba' (l'.map encRev)), (km, obMv bm' m')] := by
      simp only [backL, S3, List.zipWith_cons_cons, List.zipWith_nil_left, obSh_ren, obV_ren, obMv_ren, mvN_rl, l2]
      show [(k, obSh bl (rowS d' (.own (lab _ 1000001) ba' 3 l'.length) _)), _, _] = _
      rw [l1]
    rw [e]
    exact hK v ba' bm' d' l' m' hp
end Go.Proofs.Ytobngncjflogcaa.AM

set_option linter.unusedVariables false
set_option linter.unusedSimpArgs false
namespace Go.Proofs.Ytobngncjflogcaa.AM
open Go Go.RowKit
set_option maxRecDepth 100000
set_option maxHeartbeats 2000000
def synW (d : SC) : Option Mv → SC
  | none => d
  | some m => if m.w = true then synS d (1 - d.at') else d
def shSync (d : SC) (n : Nat) (m : Option Mv) : SC := { synS (synW d m) (synW d m).at' with sf := d.b + (n : Int) }
def ac_ssyn2 : AC := .seq (.seq (.region false [
    ⟨some 2, none, .mov (.t 0)⟩,
    ⟨some 3, none, .nilchk (.t 2)⟩,
    ⟨some 4, none, .faddr 45 (.t 3)⟩,
    ⟨some 5, none, .load1 (.t 4)⟩,
    ⟨some 6, none, .eqp true (.t 5) (.c (.pointer none))⟩,
    ⟨some 7, none, .mov (.t 6)⟩,
    ⟨some 8, some (7, true), .mov (.t 0)⟩,
    ⟨some 9, some (7, true), .nilchk (.t 8)⟩,
    ⟨some 10, some (7, true), .faddr 45 (.t 9)⟩,
    ⟨some 11, some (7, true), .load1 (.t 10)⟩,
    ⟨some 12, some (7, true), .nilchk (.t 11)⟩,
    ⟨some 13, some (7, true), .faddr 2 (.t 12)⟩,
    ⟨some 14, some (7, true), .load1 (.t 13)⟩,
    ⟨some 15, none, .pick (.t 7) (.t 14) (.c (.bool false))⟩])
  (.cond (.t 15)
    (.region false [
      ⟨some 16, none, .mov (.t 0)⟩,
      ⟨some 17, none, .mov (.t 0)⟩,
      ⟨some 18, none, .nilchk (.t 17)⟩,
      ⟨some 19, none, .faddr 4 (.t 18)⟩,
      ⟨some 20, none, .load1 (.t 19)⟩,
      ⟨some 21, none, .bin .sub (.c (.int .i64 1)) (.t 20)⟩,
      ⟨some 22, none, .call 36 [(.t 16), (.t 21)]⟩])
    (.skip)))
  (.seq (.region false [
    ⟨some 23, none, .mov (.t 0)⟩,
    ⟨some 24, none, .mov (.t 0)⟩,
    ⟨some 25, none, .nilchk (.t 24)⟩,
    ⟨some 26, none, .faddr 4 (.t 25)⟩,
    ⟨some 27, none, .load1 (.t 26)⟩,
    ⟨some 28, none, .call 36 [(.t 23), (.t 27)]⟩])
  (.region false [
    ⟨some 29, none, .mov (.t 0)⟩,
    ⟨some 30, none, .mov (.t 0)⟩,
    ⟨some 31, none, .call 20 [(.t 30)]⟩,
    ⟨some 32, none, .nilchk (.t 29)⟩,
    ⟨some 33, none, .faddr 44 (.t 32)⟩,
    ⟨none, none, .store 1 (.t 33) (.t 31)⟩]))
theorem ok_ssyn2 : FnOk Try.prog 29 Try.f29 ac_ssyn2 [] 1 drawD := ⟨Try.func29, by decide +kernel, by kernel_rfl, by kernel_rfl, by decide +kernel⟩
theorem vc_ssyn2 (P : Prim) (hP : P = std) (T T1 : CallT) (hsyn : SSynC T) (hhd : SHeadC T) (bl : Nat) (d : SC) (ba : Option Nat) (n : Nat) (rows : List (List V)) (bm : Nat) (m : Option Mv) (hb : 0 ≤ d.b ∧ d.b ≤ 4294967295) (hn2 : n ≤ 1000) (hat : d.at' = 0 ∨ d.at' = 1)
    (R : S → Prop) (hR : ∀ (s s' : S) (d' : SC), d' = shSync d n m → Ent s s' → Ret [] [] s' → agreeH (S3 bl d' ba n rows bm m) s' → R s) : awp P T T1 ac_ssyn2 (S0 [.ptr 0 (some bl) 47 0 0] (lookH (S3 bl d ba n rows bm m))) R (fun _ _ => False) R := by
  have m1 : P.i64 (P.sub 1 d.at') := by rw [sub_eq hP]; exact i64I hP (by omega)
  have m2 : P.sub 1 d.at' = 1 - d.at' := sub_eq hP _ _
  obtain _ | ⟨f, c, w⟩ := m
  · cbv
    repeat' (first
    | (refine And.intro (by first | assumption | decide) ?_; try cbv)
    | (intro β2; try cbv))
    refine hsyn 0 bl d (.own 1000001 ba 3 n) .nil _ _ _ ⟨⟨.own _ _ _ _, rfl⟩, .nil, rfl⟩ rfl rfl rfl fun d2 hd2 => ?_
    have hb2 : d2.b = d.b := by rw [hd2]; rfl
    cbv
    repeat' (first
    | (refine And.intro (by first | assumption | decide) ?_; try cbv)
    | (intro β2; try cbv))
    refine hhd 0 bl d2 1000001 ba n .nil _ _ (by rw [hb2]; omega) hn2 ⟨.nil, rfl⟩ rfl rfl rfl fun q hq => ?_
    rw [hb2] at hq
    cbv
    repeat' (first
    | (refine And.intro (by first | assumption | decide) ?_; try cbv)
    | (intro β2; try cbv))
    exact hR _ _ { d2 with sf := q } (by rw [hd2, hq]; rfl) (Ent.refl _) rfl ⟨rfl, rfl, rfl, trivial⟩
  · cbv
    repeat' (first
    | (refine And.intro (by first | assumption | decide) ?_; try cbv)
    | (intro β2; try cbv))
    cases w
    · cbv
      repeat' (first
    | (refine And.intro (by first | assumption | decide) ?_; try cbv)
    | (intro β2; try cbv))
      refine hsyn 0 bl d (.own 1000001 ba 3 n) (.ptr 1 (some bm) 3 0 0) _ _ _ ⟨⟨.own _ _ _ _, rfl⟩, .ptr _ _ _ _ _, rfl⟩ rfl rfl rfl fun d2 hd2 => ?_
      have hb2 : d2.b = d.b := by rw [hd2]; rfl
      cbv
      repeat' (first
    | (refine And.intro (by first | assumption | decide) ?_; try cbv)
    | (intro β2; try cbv))
      refine hhd 0 bl d2 1000001 ba n (.ptr 1 (some bm) 3 0 0) _ _ (by rw [hb2]; omega) hn2 ⟨.ptr _ _ _ _ _, rfl⟩ rfl rfl rfl fun q hq => ?_
      rw [hb2] at hq
      cbv
      repeat' (first
    | (refine And.intro (by first | assumption | decide) ?_; try cbv)
    | (intro β2; try cbv))
      exact hR _ _ { d2 with sf := q } (by rw [hd2, hq]; rfl) (Ent.refl _) rfl ⟨rfl, rfl, rfl, trivial⟩
    · cbv
      repeat' (first
    | (refine And.intro (by first | assumption | decide) ?_; try cbv)
    | (intro β2; try cbv))
      refine hsyn 0 bl d (.own 1000001 ba 3 n) (.ptr 1 (some bm) 3 0 0) _ _ _ ⟨⟨.own _ _ _ _, rfl⟩, .ptr _ _ _ _ _, rfl⟩ rfl rfl rfl fun d1 hd1 => ?_
      rw [m2] at hd1
      have hb1 : d1.b = d.b := by rw [hd1]; rfl
      cbv
      repeat' (first
    | (refine And.intro (by first | assumption | decide) ?_; try cbv)
    | (intro β2; try cbv))
      refine hsyn 0 bl d1 (.own 1000001 ba 3 n) (.ptr 1 (some bm) 3 0 0) _ _ _ ⟨⟨.own _ _ _ _, rfl⟩, .ptr _ _ _ _ _, rfl⟩ rfl rfl rfl fun d2 hd2 => ?_
      have hb2 : d2.b = d.b := by rw [hd2, ← hb1]; rfl
      cbv
      repeat' (first
    | (refine And.intro (by first | assumption | decide) ?_; try cbv)
    | (intro β2; try cbv))
      refine hhd 0 bl d2 1000001 ba n (.ptr 1 (some bm) 3 0 0) _ _ (by rw [hb2]; omega) hn2 ⟨.ptr _ _ _ _ _, rfl⟩ rfl rfl rfl fun q hq => ?_
      rw [hb2] at hq
      cbv
      repeat' (first
    | (refine And.intro (by first | assumption | decide) ?_; try cbv)
    | (intro β2; try cbv))
      exact hR _ _ { d2 with sf := q } (by rw [hd2, hq, hd1]; rfl) (Ent.refl _) rfl ⟨rfl, rfl, rfl, trivial⟩
theorem sp_ssyn2 (bl : Nat) (d : SC) (ba : Option Nat) (l : List Rev) (bm : Nat) (m : Option Mv) (hb : 0 ≤ d.b ∧ d.b ≤ 4294967295) (hn2 : l.length ≤ 1000) (hat : d.at' = 0 ∨ d.at' = 1) : Spec Try.prog 29 [.ptr 0 (some bl) 47 0 0] (lookH (S3 bl d ba l.length (l.map encRev) bm m))
    fun x h' => ∃ L', (∃ ba' bm' d' l' m', (x = .tup [] ∧ d' = shSync d l.length m ∧ l' = l ∧ m' = m) ∧ L' = S3 bl d' ba' l'.length (l'.map encRev) bm' m') ∧ h' = lookH L' :=
  spec_meth dOk ok_ssyn2 (L := S3 bl d ba l.length (l.map encRev) bm m) (fun x L' => ∃ ba' bm' d' l' m', (x = .tup [] ∧ d' = shSync d l.length m ∧ l' = l ∧ m' = m) ∧ L' = S3 bl d' ba' l'.length (l'.map encRev) bm' m') fun R hR =>
    vc_ssyn2 std rfl _ _ ssynC sheadE bl d ba l.length (l.map encRev) bm m hb hn2 hat R fun s s' d' hd he hr ha => hR s s' _ _ he (resV_mono _ _ _ (fun x hx => by rw [hx]; rfl) hr) ha (.tup _ (fun v hv => by cases hv)) S3_fz ⟨ba, bm, d', l, m, ⟨rfl, hd, rfl, rfl⟩, rfl⟩
def shKeep (d : SC) (n : Nat) (m : Option Mv) (j : Int) : Option Mv × Int := if m.isSome = true ∨ d.old = true then (m, 13) else if thereT d.b n j ≠ 0 then (m, thereT d.b n j) else (some ⟨j, -1, false⟩, 0)
def ac_skeep : AC := .seq (.region false [
    ⟨some 4, none, .mov (.c (.int .i64 0))⟩])
  (.seq (.seq (.region false [
    ⟨some 6, none, .mov (.t 0)⟩,
    ⟨some 7, none, .nilchk (.t 6)⟩,
    ⟨some 8, none, .faddr 45 (.t 7)⟩,
    ⟨some 9, none, .load1 (.t 8)⟩,
    ⟨some 10, none, .eqp true (.t 9) (.c (.pointer none))⟩,
    ⟨some 11, none, .mov (.t 10)⟩,
    ⟨some 12, some (11, false), .mov (.t 0)⟩,
    ⟨some 13, some (11, false), .nilchk (.t 12)⟩,
    ⟨some 14, some (11, false), .faddr 46 (.t 13)⟩,
    ⟨some 15, some (11, false), .load1 (.t 14)⟩,
    ⟨some 16, none, .pick (.t 11) (.c (.bool true)) (.t 15)⟩])
  (.cond (.t 16)
    (.seq (.region false [
      ⟨some 4, none, .mov (.c (.int .i64 13))⟩])
    (.ret))
    (.skip)))
  (.seq (.seq (.region false [
    ⟨some 17, none, .mov (.t 0)⟩,
    ⟨some 18, none, .mov (.t 1)⟩,
    ⟨some 19, none, .call 65 [(.t 17), (.t 18)]⟩,
    ⟨some 5, none, .mov (.t 19)⟩])
  (.seq (.region false [
    ⟨some 20, none, .mov (.t 5)⟩,
    ⟨some 21, none, .bin .neq (.t 20) (.c (.int .i64 0))⟩])
  (.cond (.t 21)
    (.seq (.region false [
      ⟨some 22, none, .mov (.t 5)⟩,
      ⟨some 4, none, .mov (.t 22)⟩])
    (.ret))
    (.skip))))
  (.seq (.region false [
    ⟨some 23, none, .mov (.t 0)⟩,
    ⟨some 24, none, .mov (.t 1)⟩,
    ⟨some 25, none, .build [(.int .i64 0), (.int .i64 0), (.bool false)] [(0, 1, (.t 24)), (1, 1, (.c (.int .i64 (-1))))]⟩,
    ⟨some 26, none, .box 124 3 (.t 25)⟩,
    ⟨some 27, none, .nilchk (.t 23)⟩,
    ⟨some 28, none, .faddr 45 (.t 27)⟩,
    ⟨none, none, .store 1 (.t 28) (.t 26)⟩])
  (.seq (.region false [
    ⟨some 4, none, .mov (.c (.int .i64 0))⟩])
  (.ret)))))
theorem ok_skeep : FnOk Try.prog 23 Try.f23 ac_skeep [.t 4] 2 drawD := ⟨Try.func23, by decide +kernel, by kernel_rfl, by kernel_rfl, by decide +kernel⟩
theorem vc_skeep (P : Prim) (hP : P = std) (T T1 : CallT) (hth : SThereC T) (bl : Nat) (d : SC) (ba : Option Nat) (n : Nat) (rows : List (List V)) (bm : Nat) (m : Option Mv) (hb : 0 ≤ d.b ∧ d.b ≤ 4294967295) (hn2 : n ≤ 1000) (j : Int)
    (R : S → Prop) (hR : ∀ (s s' : S) (e : Int) (m' : Option Mv) (bm' : Nat), (m', e) = shKeep d n m j → Ent s s' → Ret [.t 4] [.int .i64 e] s' → agreeH (S3 bl d ba n rows bm' m') s' → R s) : awp P T T1 ac_skeep (S0 [.ptr 0 (some bl) 47 0 0, .int .i64 j] (lookH (S3 bl d ba n rows bm m))) R (fun _ _ => False) R := by
  obtain _ | ⟨f, c, w⟩ := m
  · cbv
    repeat' (first
    | (refine And.intro (by first | assumption | decide) ?_; try cbv)
    | (intro β2; try cbv))
    refine br_cases (fun g => ?_) (fun g => ?_)
    · have hod : d.old = true := g
      cbv
      repeat' (first
    | (refine And.intro (by first | assumption | decide) ?_; try cbv)
    | (intro β2; try cbv))
      exact hR _ _ 13 none bm (by unfold shKeep; rw [if_pos (.inr hod)]) (Ent.refl _) rfl ⟨rfl, rfl, rfl, trivial⟩
    have hod : d.old = false := g
    · cbv
      repeat' (first
    | (refine And.intro (by first | assumption | decide) ?_; try cbv)
    | (intro β2; try cbv))
      refine hth 0 bl d 1000001 ba n .nil j _ _ hb hn2 ⟨.nil, rfl⟩ rfl rfl rfl rfl fun q hq => ?_
      cbv
      repeat' (first
    | (refine And.intro (by first | assumption | decide) ?_; try cbv)
    | (intro β2; try cbv))
      have hk : shKeep d n none j = if thereT d.b n j ≠ 0 then (none, thereT d.b n j) else (some ⟨j, -1, false⟩, 0) := by
        unfold shKeep
        rw [if_neg (by rw [hod]; simp)]
      rw [← hq] at hk
      refine br_cases (fun g => ?_) (fun g => ?_)
      · have g1 : q ≠ 0 := ne_t hP g
        rw [if_pos g1] at hk
        cbv
        repeat' (first
    | (refine And.intro (by first | assumption | decide) ?_; try cbv)
    | (intro β2; try cbv))
        exact hR _ _ _ none bm hk.symm (Ent.refl _) rfl ⟨rfl, rfl, rfl, trivial⟩
      · have g1 : q = 0 := ne_f hP g
        rw [if_neg (fun h => h g1)] at hk
        cbv
        repeat' (first
    | (refine And.intro (by first | assumption | decide) ?_; try cbv)
    | (intro β2; try cbv))
        refine hR _ _ 0 (some ⟨j, -1, false⟩) β2 hk.symm (Ent.renL [(0, 0, obSh bl (rowS d (.own 1000001 ba 3 n) (.ptr 1 (some β2) 3 0 0))), (1000001, 1000001, obV ba rows), (1, 26, obMv β2 (some ⟨j, -1, false⟩))] (by show ([0, 1000001, 26] : List Nat).Nodup; decide) ⟨⟨_, rfl, rfl, rfl⟩, ⟨_, rfl, rfl, rfl⟩, ⟨_, rfl, rfl, rfl⟩, trivial⟩) rfl ⟨rfl, rfl, rfl, trivial⟩
  · cbv
    repeat' (first
    | (refine And.intro (by first | assumption | decide) ?_; try cbv)
    | (intro β2; try cbv))
    exact hR _ _ 13 (some ⟨f, c, w⟩) bm (by unfold shKeep; rw [if_pos (.inl rfl)]) (Ent.refl _) rfl ⟨rfl, rfl, rfl, trivial⟩
theorem sp_skeep (bl : Nat) (d : SC) (ba : Option Nat) (l : List Rev) (bm : Nat) (m : Option Mv) (hb : 0 ≤ d.b ∧ d.b ≤ 4294967295) (hn2 : l.length ≤ 1000) (j : Int) : Spec Try.prog 23 [.ptr 0 (some bl) 47 0 0, .int .i64 j] (lookH (S3 bl d ba l.length (l.map encRev) bm m))
    fun x h' => ∃ L', (∃ ba' bm' d' l' m', (x = .int .i64 (shKeep d l.length m j).2 ∧ d' = d ∧ l' = l ∧ m' = (shKeep d l.length m j).1) ∧ L' = S3 bl d' ba' l'.length (l'.map encRev) bm' m') ∧ h' = lookH L' :=
  spec_meth dOk ok_skeep (L := S3 bl d ba l.length (l.map encRev) bm m) (fun x L' => ∃ ba' bm' d' l' m', (x = .int .i64 (shKeep d l.length m j).2 ∧ d' = d ∧ l' = l ∧ m' = (shKeep d l.length m j).1) ∧ L' = S3 bl d' ba' l'.length (l'.map encRev) bm' m') fun R hR =>
    vc_skeep std rfl _ _ stherE bl d ba l.length (l.map encRev) bm m hb hn2 j R fun s s' e m' bm' hd he hr ha => hR s s' _ _ he (resV_mono _ _ _ (fun x hx => by rw [hx]; rfl) hr) ha (.int _ _) S3_fz ⟨ba, bm', d, l, m', ⟨by rw [← hd], rfl, rfl, by rw [← hd]⟩, rfl⟩
end Go.Proofs.Ytobngncjflogcaa.AM
