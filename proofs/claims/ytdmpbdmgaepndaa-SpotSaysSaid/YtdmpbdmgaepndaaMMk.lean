/-
  A delta being made: the maker's methods.
-/
import Derived.Test.YtdmpbdmgaepndaaMTok
import Derived.Test.YtdmpbdmgaepndaaMTypes
import Derived.Test.YtdmpbdmgaepndaaAmG
set_option linter.unusedVariables false
set_option linter.unusedSimpArgs false
namespace Go.Proofs.Ytdmpbdmgaepndaa.AM
open Go
set_option maxRecDepth 100000
set_option maxHeartbeats 2000000

/-- a maker and its parts in memory -/
def obM (b ka : Nat) (ba : Option Nat) (n : Nat) (put : List UInt8) (cut : Int) : Ob := ⟨some b, 136, 3, [[.own ka ba 3 n, .str put, .int .i64 cut]]⟩
def obA (ba : Option Nat) (rows : List (List V)) : Ob := ⟨ba, 132, 3, rows⟩
def hMk (b : Nat) (ba : Option Nat) (m : Mk) : List (Nat × Ob) := [(0, obM b 1000000 ba m.out.length m.put m.cut), (1000000, obA ba (m.out.map encPart))]
theorem encPart_fz (p : Part) : ∀ v ∈ encPart p, Fz v := by
  intro v hv
  simp only [encPart, List.mem_cons, List.not_mem_nil, or_false] at hv
  rcases hv with rfl | rfl | rfl
  · exact .int _ _
  · exact .int _ _
  · exact .str _
theorem encParts_fz (d : List Part) : ∀ r ∈ d.map encPart, ∀ v ∈ r, Fz v := by
  intro r hr
  obtain ⟨p, _, rfl⟩ := List.mem_map.1 hr
  exact encPart_fz p
theorem obM_fz {b ka n : Nat} {ba : Option Nat} {put : List UInt8} {cut : Int} : (obM b ka ba n put cut).Fz := by
  intro r hr v hv
  simp only [obM, List.mem_singleton] at hr
  subst hr
  simp only [List.mem_cons, List.not_mem_nil, or_false] at hv
  rcases hv with rfl | rfl | rfl
  · exact .own _ _ _ _
  · exact .str _
  · exact .int _ _
theorem obA_fz {ba : Option Nat} {d : List Part} : (obA ba (d.map encPart)).Fz := encParts_fz d

def MkSpec (f : Nat) (args : List V) (m m' : Mk) (r : Option Nat → V) : Prop := ∀ b ba, Spec Try.prog f (.ptr 0 (some b) 3 0 0 :: args) (lookH (hMk b ba m)) (fun v h' => ∃ L', (∃ ba', v = r ba' ∧ L' = hMk b ba' m') ∧ h' = lookH L')
theorem spec_mk {f : Nat} {fn : Func} {ac : AC} {rv : List RV} {args : List V} {D : Array Oper → List AO → Bool} (hD : DrawOk Try.prog D) (ok : FnOk Try.prog f fn ac rv (args.length + 1) D) {m m' : Mk} (r : Option Nat → V) (hr : ∀ ba, Fz (r ba))
    (h : ∀ (b : Nat) (ba : Option Nat) (R : S → Prop), (∀ (s s' : S) (ba' : Option Nat), Ent s s' → resV s' rv (fun x => oneV x = r ba') → s'.h 0 = some (obM b 1000000 ba' m'.out.length m'.put m'.cut) → s'.h 1000000 = some (obA ba' (m'.out.map encPart)) → R s) →
      awp std (CallE Try.prog) (CallP Try.prog) ac (S0 (.ptr 0 (some b) 3 0 0 :: args) (lookH (hMk b ba m))) R (fun _ _ => False) R) : MkSpec f args m m' r := fun b ba =>
  spec_meth hD ok (fun v L' => ∃ ba', v = r ba' ∧ L' = hMk b ba' m') fun R hR => h b ba R fun s s' ba' he hres h0 h1 => hR s s' (r ba') (hMk b ba' m') he hres ⟨h0, h1, trivial⟩ (hr ba')
    (by intro p hp; simp only [hMk, List.mem_cons, List.not_mem_nil, or_false] at hp; rcases hp with rfl | rfl; exact obM_fz; exact obA_fz) ⟨ba', rfl, rfl⟩

theorem mem_of_lookH : ∀ {L : List (Nat × Ob)} {k : Nat} {o : Ob}, lookH L k = some o → (k, o) ∈ L
  | [], _, _, h => by cases h
  | (j, q) :: L, k, o, h => by
    simp only [lookH] at h
    split at h
    · rename_i hk; cases h; rw [hk]; exact List.mem_cons_self
    · exact List.mem_cons_of_mem _ (mem_of_lookH h)
theorem callG {P : Program} {f : Nat} {args args' : List V} {L : List (Nat × Ob)} {m : List (Nat × Nat)} {post : V → List (Nat × Ob) → Prop} (hs : Spec P f args' (lookH L) fun v' h' => ∃ L', post v' L' ∧ h' = lookH L') {h : Hp} {K : V → Hp → Prop} (ha : Args h m args args')
    (hdom : ∀ k o, lookH L k = some o → ∃ q ∈ m, q.1 = k) (hm : ∀ q ∈ m, lab m q.1 = q.2 ∧ bal m q.2 = q.1 ∧ ∀ o, lookH L q.1 = some o → (h q.2).map (Ob.ren (bal m)) = some o ∧ o.Fz)
    (hK : ∀ v L', post v L' → K (v.ren (lab m)) (h.upd m (lookH L'))) : CallE P f args h K :=
  ⟨h, HEnt.refl h, m, args', lookH L, _, hs, ha, hdom, hm, by rintro v h' ⟨L', hp, rfl⟩; exact hK v L' hp⟩

theorem ren_parts (d : List Part) (f : Nat → Nat) : (d.map encPart).map (·.map (V.rl f)) = d.map encPart := by
  simp [List.map_map, Function.comp_def, encPart, V.rl]
theorem obA_ren (ba : Option Nat) (d : List Part) (f : Nat → Nat) : (obA ba (d.map encPart)).ren f = obA ba (d.map encPart) := by
  simp only [Ob.ren, obA, ren_parts]
theorem obM_ren (b ka n : Nat) (ba : Option Nat) (put : List UInt8) (cut : Int) (f : Nat → Nat) : (obM b ka ba n put cut).ren f = obM b (f ka) ba n put cut := by
  simp [Ob.ren, obM, V.rl]
/-- a maker's method is called -/
theorem call_mk {f : Nat} {args args' : List V} {m m' : Mk} {r : Option Nat → V} (hs : MkSpec f args' m m' r) {h : Hp} {K : V → Hp → Prop} {k ka b : Nat} {ba : Option Nat} (hne : k ≠ ka) (hargs : ∀ h, Args h [(0, k), (1000000, ka)] args args')
    (hk : h k = some (obM b ka ba m.out.length m.put m.cut)) (hka : h ka = some (obA ba (m.out.map encPart)))
    (hK : ∀ ba', K ((r ba').ren (lab [(0, k), (1000000, ka)])) (Hp.put (Hp.put h k (obM b ka ba' m'.out.length m'.put m'.cut)) ka (obA ba' (m'.out.map encPart)))) : CallE Try.prog f (.ptr k (some b) 3 0 0 :: args) h K := by
  have hne' : ¬ ka = k := fun e => hne e.symm
  refine callG (hs b ba) (m := [(0, k), (1000000, ka)]) (.cons ?_ (hargs h)) (fun j o hj => ?_) (fun q hq => ?_) ?_
  · have := Arg.same (h := h) (m := [(0, k), (1000000, ka)]) (.ptr k (some b) 3 0 0)
    simpa [V.ren, V.rl, bal] using this
  · simp only [hMk, lookH] at hj
    split at hj
    · rename_i h0; exact ⟨(0, k), by simp, h0.symm⟩
    · split at hj
      · rename_i h0; exact ⟨(1000000, ka), by simp, h0.symm⟩
      · cases hj
  · simp only [List.mem_cons, List.not_mem_nil, or_false] at hq
    rcases hq with rfl | rfl
    · refine ⟨by simp [lab], by simp [bal], fun o ho => ?_⟩
      simp only [hMk, lookH, ↓reduceIte, Option.some.injEq] at ho
      subst ho
      exact ⟨by rw [hk]; simp [Ob.ren, obM, V.rl, bal, hne'], obM_fz⟩
    · refine ⟨by simp [lab], by simp [bal, hne'], fun o ho => ?_⟩
      simp [hMk, lookH] at ho
      subst ho
      exact ⟨by rw [hka]; simp only [Option.map_some, Ob.ren, obA, ren_parts], obA_fz⟩
  · rintro v L' ⟨ba', rfl, rfl⟩
    have e : h.upd [(0, k), (1000000, ka)] (lookH (hMk b ba' m')) = Hp.put (Hp.put h k (obM b ka ba' m'.out.length m'.put m'.cut)) ka (obA ba' (m'.out.map encPart)) := by
      funext i
      by_cases h1 : ka = i
      · subst h1
        simp [Hp.upd, Hp.put, bal, hMk, lookH, hne', obA_ren]
      · by_cases h2 : k = i
        · subst h2
          simp [Hp.upd, Hp.put, bal, hMk, lookH, h1, hne, obM_ren, lab]
        · have h3 : ¬ i = ka := fun e => h1 e.symm
          have h4 : ¬ i = k := fun e => h2 e.symm
          simp [Hp.upd, Hp.put, h1, h2, h3, h4]
    rw [e]
    exact hK ba'

/-- how a maker's method ends -/
def MkEnd (rv : List RV) (r : Option Nat → List V) (b n' : Nat) (p' : List UInt8) (c' : Int) (rows' : List (List V)) (R : S → Prop) : Prop :=
  ∀ (s s' : S) (ba' : Option Nat) (n2 : Nat) (p2 : List UInt8) (c2 : Int) (rows2 : List (List V)), Ent s s' → s'.h 0 = some ⟨some b, 136, 3, [[.own 1000000 ba' 3 n2, .str p2, .int .i64 c2]]⟩ → s'.h 1000000 = some ⟨ba', 132, 3, rows2⟩ →
    Ret rv (r ba') s' → n2 = n' ∧ p2 = p' ∧ c2 = c' ∧ rows2 = rows' → R s
theorem mkEnd_of {rv : List RV} {r : Option Nat → List V} {b : Nat} {m' : Mk} {R : S → Prop} (hR : ∀ (s s' : S) (ba' : Option Nat), Ent s s' → resV s' rv (fun x => oneV x = oneV (r ba')) → s'.h 0 = some (obM b 1000000 ba' m'.out.length m'.put m'.cut) → s'.h 1000000 = some (obA ba' (m'.out.map encPart)) → R s) :
    MkEnd rv r b m'.out.length m'.put m'.cut (m'.out.map encPart) R := by
  rintro s s' ba' n2 p2 c2 rows2 he h0 h1 hr ⟨rfl, rfl, rfl, rfl⟩
  exact hR s s' ba' he (resV_mono rv _ _ (fun x hx => by rw [hx]) hr) h0 h1
def M0 (b : Nat) (ba : Option Nat) (n : Nat) (put : List UInt8) (cut : Int) (rows : List (List V)) : List (Nat × Ob) := [(0, ⟨some b, 136, 3, [[.own 1000000 ba 3 n, .str put, .int .i64 cut]]⟩), (1000000, ⟨ba, 132, 3, rows⟩)]
theorem specMk {f : Nat} {fn : Func} {ac : AC} {rv : List RV} {args : List V} {D : Array Oper → List AO → Bool} (hD : DrawOk Try.prog D) (ok : FnOk Try.prog f fn ac rv (args.length + 1) D) {m m' : Mk} (r : Option Nat → List V) (hr : ∀ ba, Fz (oneV (r ba)))
    (h : ∀ (b : Nat) (ba : Option Nat) (R : S → Prop), MkEnd rv r b m'.out.length m'.put m'.cut (m'.out.map encPart) R →
      awp std (CallE Try.prog) (CallP Try.prog) ac (S0 (.ptr 0 (some b) 3 0 0 :: args) (lookH (M0 b ba m.out.length m.put m.cut (m.out.map encPart)))) R (fun _ _ => False) R) : MkSpec f args m m' (fun ba => oneV (r ba)) :=
  spec_mk hD ok (fun ba => oneV (r ba)) hr fun b ba R hR => h b ba R (mkEnd_of hR)

def ac_flush : AC := .seq (.seq (.region false [
    ⟨some 2, none, .mov (.t 0)⟩,
    ⟨some 3, none, .nilchk (.t 2)⟩,
    ⟨some 4, none, .faddr 1 (.t 3)⟩,
    ⟨some 5, none, .load1 (.t 4)⟩,
    ⟨some 6, none, .bin .neq (.t 5) (.c (.string ⟨#[]⟩))⟩])
  (.cond (.t 6)
    (.region true [
      ⟨some 7, none, .mov (.t 0)⟩,
      ⟨some 8, none, .mov (.t 0)⟩,
      ⟨some 9, none, .nilchk (.t 8)⟩,
      ⟨some 10, none, .faddr 0 (.t 9)⟩,
      ⟨some 11, none, .load1 (.t 10)⟩,
      ⟨some 12, none, .mov (.t 0)⟩,
      ⟨some 13, none, .nilchk (.t 12)⟩,
      ⟨some 14, none, .faddr 1 (.t 13)⟩,
      ⟨some 15, none, .load1 (.t 14)⟩,
      ⟨some 16, none, .build [(.int .i64 0), (.int .i64 0), (.string ⟨#[]⟩)] [(0, 1, (.c (.int .i64 2))), (2, 1, (.t 15))]⟩,
      ⟨some 17, none, .bslice 132 3 [(.t 16)]⟩,
      ⟨some 18, none, .append 132 3 32 (.t 11) (.t 17)⟩,
      ⟨some 19, none, .nilchk (.t 7)⟩,
      ⟨some 20, none, .faddr 0 (.t 19)⟩,
      ⟨none, none, .store 1 (.t 20) (.t 18)⟩])
    (.skip)))
  (.seq (.seq (.region false [
    ⟨some 21, none, .mov (.t 0)⟩,
    ⟨some 22, none, .nilchk (.t 21)⟩,
    ⟨some 23, none, .faddr 2 (.t 22)⟩,
    ⟨some 24, none, .load1 (.t 23)⟩,
    ⟨some 25, none, .bin .gtr (.t 24) (.c (.int .i64 0))⟩])
  (.cond (.t 25)
    (.region true [
      ⟨some 26, none, .mov (.t 0)⟩,
      ⟨some 27, none, .mov (.t 0)⟩,
      ⟨some 28, none, .nilchk (.t 27)⟩,
      ⟨some 29, none, .faddr 0 (.t 28)⟩,
      ⟨some 30, none, .load1 (.t 29)⟩,
      ⟨some 31, none, .mov (.t 0)⟩,
      ⟨some 32, none, .nilchk (.t 31)⟩,
      ⟨some 33, none, .faddr 2 (.t 32)⟩,
      ⟨some 34, none, .load1 (.t 33)⟩,
      ⟨some 35, none, .build [(.int .i64 0), (.int .i64 0), (.string ⟨#[]⟩)] [(0, 1, (.c (.int .i64 3))), (1, 1, (.t 34))]⟩,
      ⟨some 36, none, .bslice 132 3 [(.t 35)]⟩,
      ⟨some 37, none, .append 132 3 32 (.t 30) (.t 36)⟩,
      ⟨some 38, none, .nilchk (.t 26)⟩,
      ⟨some 39, none, .faddr 0 (.t 38)⟩,
      ⟨none, none, .store 1 (.t 39) (.t 37)⟩])
    (.skip)))
  (.region false [
    ⟨some 40, none, .mov (.t 0)⟩,
    ⟨some 41, none, .mov (.t 0)⟩,
    ⟨some 42, none, .nilchk (.t 40)⟩,
    ⟨some 43, none, .faddr 1 (.t 42)⟩,
    ⟨none, none, .store 1 (.t 43) (.c (.string ⟨#[]⟩))⟩,
    ⟨some 44, none, .nilchk (.t 41)⟩,
    ⟨some 45, none, .faddr 2 (.t 44)⟩,
    ⟨none, none, .store 1 (.t 45) (.c (.int .i64 0))⟩]))
theorem ok_flush : FnOk Try.prog 123 Try.f123 ac_flush [] 1 drawD := ⟨Try.func123, by decide +kernel, by kernel_rfl, by kernel_rfl, by decide +kernel⟩
theorem vc_flush (P : Prim) (hP : P = std) (T T1 : CallT) (b : Nat) (ba : Option Nat) (n : Nat) (put : List UInt8) (cut : Int) (rows : List (List V)) (m : Mk) (hn : n = m.out.length) (hrows : rows = m.out.map encPart) (hput : put = m.put) (hcut : cut = m.cut) (hbd : m.out.length ≤ 100000000) (rows' : List (List V)) (n' : Nat) (hn' : n' = m.flush.length) (hrows' : rows' = m.flush.map encPart)
    (R : S → Prop) (hR : MkEnd [] (fun _ => []) b n' [] 0 rows' R) : awp P T T1 ac_flush (S0 [.ptr 0 (some b) 3 0 0] (lookH (M0 b ba n put cut rows))) R (fun _ _ => False) R := by
  cbv
  repeat' (first | (intro β; try cbv) | (refine And.intro (by assumption) ?_; try cbv) | (refine br_cases (fun h => ?_) (fun h => ?_) <;> try cbv) | (refine Exists.intro _ (And.intro (by assumption) ?_); try cbv) | (refine hc1 _ _ ?_; try cbv) | (refine hc2 _ _ ?_; try cbv) | (refine hc3 _ _ ?_; try cbv) | (refine hc4 _ _ ?_; try cbv) | (refine hc5 _ _ ?_; try cbv) | (refine hc6 _ _ ?_; try cbv) | (refine And.intro (by (clear hR; subst hP; simp [std, I64, nc] at * <;> first | omega | grind)) ?_; try cbv))
  all_goals
    refine hR _ _ _ _ _ _ _ (Ent.refl _) rfl rfl rfl ?_
    cbv
    clear hR; subst hP; subst hn' hrows' hn hrows hput hcut; simp [std, nc, Mk.flush] at *
    try simp [*]
    try exact ⟨rfl, rfl⟩
    try rfl
theorem sp_flush (m : Mk) (hbd : m.out.length ≤ 100000000) : MkSpec 123 [] m ⟨m.flush, [], 0⟩ (fun _ => .tup []) :=
  specMk dOk ok_flush (fun _ => []) (fun _ => .tup _ (by simp)) fun b ba R hR => vc_flush std rfl _ _ b ba _ _ _ _ m rfl rfl rfl rfl hbd _ _ rfl rfl R hR

def ac_mput : AC := .region false [
    ⟨some 4, none, .mov (.t 0)⟩,
    ⟨some 5, none, .nilchk (.t 4)⟩,
    ⟨some 6, none, .faddr 1 (.t 5)⟩,
    ⟨some 7, none, .load1 (.t 6)⟩,
    ⟨some 8, none, .mov (.t 1)⟩,
    ⟨some 9, none, .bin .add (.t 7) (.t 8)⟩,
    ⟨some 10, none, .nilchk (.t 4)⟩,
    ⟨some 11, none, .faddr 1 (.t 10)⟩,
    ⟨none, none, .store 1 (.t 11) (.t 9)⟩]
theorem ok_mput : FnOk Try.prog 95 Try.f95 ac_mput [] 2 drawD := ⟨Try.func95, by decide +kernel, by kernel_rfl, by kernel_rfl, by decide +kernel⟩
theorem vc_mput (P : Prim) (hP : P = std) (T T1 : CallT) (b : Nat) (ba : Option Nat) (n : Nat) (put s : List UInt8) (cut : Int) (rows : List (List V)) (hbd : (put.length : Int) + s.length ≤ 1000000000) (p' : List UInt8) (hp' : p' = put ++ s)
    (R : S → Prop) (hR : MkEnd [] (fun _ => []) b n p' cut rows R) : awp P T T1 ac_mput (S0 [.ptr 0 (some b) 3 0 0, .str s] (lookH (M0 b ba n put cut rows))) R (fun _ _ => False) R := by
  cbv
  repeat' (first | (intro β; try cbv) | (refine And.intro (by assumption) ?_; try cbv) | (refine br_cases (fun h => ?_) (fun h => ?_) <;> try cbv) | (refine Exists.intro _ (And.intro (by assumption) ?_); try cbv) | (refine hc1 _ _ ?_; try cbv) | (refine hc2 _ _ ?_; try cbv) | (refine hc3 _ _ ?_; try cbv) | (refine hc4 _ _ ?_; try cbv) | (refine hc5 _ _ ?_; try cbv) | (refine hc6 _ _ ?_; try cbv) | (refine And.intro (by (clear hR; subst hP; simp [std, I64, nc] at * <;> first | omega | grind)) ?_; try cbv))
  all_goals
    refine hR _ _ _ _ _ _ _ (Ent.refl _) rfl rfl rfl ?_
    cbv
    clear hR; subst hP; subst hp'; simp [std]
theorem sp_mput (m : Mk) (s : List UInt8) (hbd : (m.put.length : Int) + s.length ≤ 1000000000) : MkSpec 95 [.str s] m (m.doPut s) (fun _ => .tup []) :=
  specMk dOk ok_mput (fun _ => []) (fun _ => .tup _ (by simp)) fun b ba R hR => vc_mput std rfl _ _ b ba _ _ s _ _ hbd _ rfl R hR

def ac_mcut : AC := .region false [
    ⟨some 4, none, .mov (.t 0)⟩,
    ⟨some 5, none, .nilchk (.t 4)⟩,
    ⟨some 6, none, .faddr 2 (.t 5)⟩,
    ⟨some 7, none, .load1 (.t 6)⟩,
    ⟨some 8, none, .mov (.t 1)⟩,
    ⟨some 9, none, .bin .add (.t 7) (.t 8)⟩,
    ⟨some 10, none, .nilchk (.t 4)⟩,
    ⟨some 11, none, .faddr 2 (.t 10)⟩,
    ⟨none, none, .store 1 (.t 11) (.t 9)⟩]
theorem ok_mcut : FnOk Try.prog 94 Try.f94 ac_mcut [] 2 drawD := ⟨Try.func94, by decide +kernel, by kernel_rfl, by kernel_rfl, by decide +kernel⟩
theorem vc_mcut (P : Prim) (hP : P = std) (T T1 : CallT) (b : Nat) (ba : Option Nat) (n : Nat) (put : List UInt8) (cut k : Int) (rows : List (List V)) (hbd : I64 (cut + k)) (c' : Int) (hc' : c' = cut + k)
    (R : S → Prop) (hR : MkEnd [] (fun _ => []) b n put c' rows R) : awp P T T1 ac_mcut (S0 [.ptr 0 (some b) 3 0 0, .int .i64 k] (lookH (M0 b ba n put cut rows))) R (fun _ _ => False) R := by
  cbv
  repeat' (first | (intro β; try cbv) | (refine And.intro (by assumption) ?_; try cbv) | (refine br_cases (fun h => ?_) (fun h => ?_) <;> try cbv) | (refine Exists.intro _ (And.intro (by assumption) ?_); try cbv) | (refine hc1 _ _ ?_; try cbv) | (refine hc2 _ _ ?_; try cbv) | (refine hc3 _ _ ?_; try cbv) | (refine hc4 _ _ ?_; try cbv) | (refine hc5 _ _ ?_; try cbv) | (refine hc6 _ _ ?_; try cbv) | (refine And.intro (by (clear hR; subst hP; simp [std, I64, nc] at * <;> first | omega | grind)) ?_; try cbv))
  all_goals
    refine hR _ _ _ _ _ _ _ (Ent.refl _) rfl rfl rfl ?_
    cbv
    clear hR; subst hP; subst hc'; simp [std]
theorem sp_mcut (m : Mk) (k : Int) (hbd : I64 (m.cut + k)) : MkSpec 94 [.int .i64 k] m (m.doCut k) (fun _ => .tup []) :=
  specMk dOk ok_mcut (fun _ => []) (fun _ => .tup _ (by simp)) fun b ba R hR => vc_mcut std rfl _ _ b ba _ _ _ k _ hbd _ rfl R hR

/-! Keep, Done -/
theorem ansMk {f : Nat} {args : List V} {m m' : Mk} {r : Option Nat → V} (hs : MkSpec f args m m' r) (ha : args.all V.pl = true) {k ka b : Nat} {ba : Option Nat} (hne : k ≠ ka) {h : Hp} {K : V → Hp → Prop}
    (hk : h k = some ⟨some b, 136, 3, [[.own ka ba 3 m.out.length, .str m.put, .int .i64 m.cut]]⟩) (hka : h ka = some ⟨ba, 132, 3, m.out.map encPart⟩)
    (hK : ∀ ba', K ((r ba').ren (lab [(0, k), (1000000, ka)])) (Hp.put (Hp.put h k ⟨some b, 136, 3, [[.own ka ba' 3 m'.out.length, .str m'.put, .int .i64 m'.cut]]⟩) ka ⟨ba', 132, 3, m'.out.map encPart⟩)) : CallE Try.prog f (.ptr k (some b) 3 0 0 :: args) h K :=
  call_mk hs hne (fun h => args_plain ha) hk hka hK
/-- a call of a maker's method, as a text's proof takes it -/
def MkCall (T : CallT) (f : Nat) (k ka b : Nat) (ba : Option Nat) (args : List V) (n : Nat) (put : List UInt8) (cut : Int) (rows : List (List V)) (r : Option Nat → V) (n' : Nat) (put' : List UInt8) (cut' : Int) (rows' : List (List V)) : Prop :=
  ∀ (h : Hp) (K : V → Hp → Prop), h k = some ⟨some b, 136, 3, [[.own ka ba 3 n, .str put, .int .i64 cut]]⟩ → h ka = some ⟨ba, 132, 3, rows⟩ →
    (∀ ba', K (r ba') (Hp.put (Hp.put h k ⟨some b, 136, 3, [[.own ka ba' 3 n', .str put', .int .i64 cut']]⟩) ka ⟨ba', 132, 3, rows'⟩)) → T f (.ptr k (some b) 3 0 0 :: args) h K
theorem mkCall {f : Nat} {args : List V} {m m' : Mk} {r r' : Option Nat → V} (hs : MkSpec f args m m' r) (ha : args.all V.pl = true) (k ka b : Nat) (ba : Option Nat) (hne : k ≠ ka) (hr : ∀ ba', (r ba').ren (lab [(0, k), (1000000, ka)]) = r' ba') :
    MkCall (CallE Try.prog) f k ka b ba args m.out.length m.put m.cut (m.out.map encPart) r' m'.out.length m'.put m'.cut (m'.out.map encPart) := fun h K hk hka hK => ansMk hs ha hne hk hka fun ba' => by rw [hr]; exact hK ba'

end Go.Proofs.Ytdmpbdmgaepndaa.AM
