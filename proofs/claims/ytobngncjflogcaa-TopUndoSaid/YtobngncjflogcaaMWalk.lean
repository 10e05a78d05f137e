/-
  Going through a delta: the walker's methods.
-/
import Derived.Test.YtobngncjflogcaaMU
import Derived.Test.YtobngncjflogcaaBC
set_option linter.unusedVariables false
set_option linter.unusedSimpArgs false
namespace Go.Proofs.Ytobngncjflogcaa.AM
open Go
set_option maxRecDepth 100000
set_option maxHeartbeats 2000000
/-! plain -/
def sizeP (p : Part) : Int := if p.kind = 2 then p.text.length else p.n
def WkOk (l : List Part) (u : Int) : Prop := (∀ p ∈ l, okP p) ∧ match l with
  | [] => u = 0
  | p :: _ => 0 ≤ u ∧ u < sizeP p
def tokW (l : List Part) (u : Int) : List Tok := (toks l).drop u.toNat
def takeW (l : List Part) (u k : Int) : List Part × Int := match l with
  | [] => ([], u)
  | p :: r => if u + k = sizeP p then (r, 0) else (p :: r, u + k)
def chunk (p : Part) (u k : Int) : List Tok := if p.kind = 2 then ((p.text.drop u.toNat).take k.toNat).map .put else List.replicate k.toNat (if p.kind = 1 then .keep else .cut)
theorem toks1_size (p : Part) (h : okP p) : ((toks1 p).length : Int) = sizeP p := by
  have h1 := okP_bd h
  unfold toks1 sizeP
  split
  · simp
  · split <;> simp <;> omega
theorem size_pos {p : Part} (h : okP p) : 0 < sizeP p := by
  have h1 := okP_bd h
  unfold sizeP
  split
  · have : p.text ≠ [] := by rcases h1.2.2.2 with h | h; exact h.2.2; omega
    have := List.length_pos_iff.2 this
    omega
  · omega
theorem size_le {p : Part} (h : okP p) : sizeP p ≤ 500 := by
  have h1 := okP_bd h
  unfold sizeP
  split <;> omega
theorem takeW_ok {p : Part} {r : List Part} {u k : Int} (h : WkOk (p :: r) u) (hk : 0 ≤ k ∧ u + k ≤ sizeP p) : WkOk (takeW (p :: r) u k).1 (takeW (p :: r) u k).2 := by
  obtain ⟨h1, h2⟩ := h
  simp only [takeW]
  split
  · refine ⟨fun q hq => h1 q (by simp [hq]), ?_⟩
    cases r with
    | nil => rfl
    | cons q r => exact ⟨Int.le_refl _, size_pos (h1 q (by simp))⟩
  · exact ⟨h1, by simp only at h2 ⊢; omega⟩
theorem tok_chunk {p : Part} {r : List Part} {u k : Int} (h : WkOk (p :: r) u) (hk : 0 ≤ k ∧ u + k ≤ sizeP p) : tokW (p :: r) u = chunk p u k ++ tokW (takeW (p :: r) u k).1 (takeW (p :: r) u k).2 := by
  obtain ⟨h1, h2⟩ := h
  simp only at h2
  have hp := h1 p (by simp)
  have hs := toks1_size p hp
  have e1 : tokW (p :: r) u = (toks1 p).drop u.toNat ++ toks r := by
    unfold tokW
    simp only [toks]
    rw [List.drop_append_of_le_length (by omega)]
  have e2 : (toks1 p).drop u.toNat = chunk p u k ++ (toks1 p).drop (u + k).toNat := by
    have e3 : (toks1 p).drop (u + k).toNat = ((toks1 p).drop u.toNat).drop k.toNat := by rw [List.drop_drop]; congr 1; omega
    have e4 : chunk p u k = ((toks1 p).drop u.toNat).take k.toNat := by
      unfold chunk toks1 
      split
      · rw [← List.map_drop, ← List.map_take]
      · rename_i hk2
        have hsz : sizeP p = p.n := by simp [sizeP, hk2]
        split
        · rw [List.drop_replicate, List.take_replicate]; congr 1; omega
        · rw [List.drop_replicate, List.take_replicate]; congr 1; omega
    rw [e3, e4, List.take_append_drop]
  have e5 : tokW (takeW (p :: r) u k).1 (takeW (p :: r) u k).2 = (toks1 p).drop (u + k).toNat ++ toks r := by
    simp only [takeW]
    split
    · rename_i hh
      rw [List.drop_of_length_le (by omega)]
      simp [tokW]
    · unfold tokW
      simp only [toks]
      rw [List.drop_append_of_le_length (by omega)]
  rw [e1, e2, e5, List.append_assoc]
theorem chunk_len {p : Part} {r : List Part} {u k : Int} (h : WkOk (p :: r) u) (hk : 0 ≤ k ∧ u + k ≤ sizeP p) : (chunk p u k).length = k.toNat := by
  obtain ⟨h1, h2⟩ := h
  simp only at h2
  unfold chunk
  split
  · rename_i h3
    have : sizeP p = p.text.length := by simp [sizeP, h3]
    simp; omega
  · simp

/-! in memory -/
def obW (b : Nat) (rows : List (List V)) (u : Int) : Ob := ⟨some b, 182, 2, [[.sl false 3 rows, .int .i64 u]]⟩
theorem obW_fz {b : Nat} {l : List Part} {u : Int} : (obW b (l.map encPart) u).Fz := by
  intro r hr v hv
  simp only [obW, List.mem_singleton] at hr
  subst hr
  simp only [List.mem_cons, List.not_mem_nil, or_false] at hv
  rcases hv with rfl | rfl
  · exact .sl _ _ (encParts_fz l)
  · exact .int _ _
theorem obW_ren (b : Nat) (rows : List (List V)) (u : Int) (g : Nat → Nat) : (obW b rows u).ren g = obW b rows u := by simp [Ob.ren, obW, V.rl]
/-- a function that reads one object -/
theorem callP1 {P : Program} {f k sz : Nat} {b : Option Nat} {rest : List V} {o : Ob} {v : V} (hs : Spec P f (.ptr 0 b sz 0 0 :: rest) (lookH [(0, o)]) fun x h' => x = v ∧ h' = lookH [(0, o)])
    (hrest : rest.all V.pl = true) (ho : ∀ g, o.ren g = o) (hz : o.Fz) (hv : ∀ g, v.ren g = v) {h : Hp} {K : V → Hp → Prop} (hk : h k = some o) (hK : K v h) : CallP P f (.ptr k b sz 0 0 :: rest) h K := by
  refine ⟨[(0, k)], _, _, v, hs, .cons ?_ (args_plain hrest), fun j q hj => ?_, fun p hp => ?_, by rw [hv]; exact hK⟩
  · have := Arg.same (h := h) (m := [(0, k)]) (.ptr k b sz 0 0)
    simpa [V.ren, V.rl, bal] using this
  · simp only [lookH] at hj
    split at hj
    · rename_i h0; exact ⟨(0, k), by simp, h0.symm⟩
    · cases hj
  · simp only [List.mem_singleton] at hp
    subst hp
    exact ⟨by simp [lab], by simp [bal], o, by simp [lookH], by rw [hk, Option.map_some, ho], hz⟩
theorem callE1 {P : Program} {f k sz : Nat} {b : Option Nat} {rest : List V} {o : Ob} {v : V} (hs : Spec P f (.ptr 0 b sz 0 0 :: rest) (lookH [(0, o)]) fun x h' => x = v ∧ h' = lookH [(0, o)])
    (hrest : rest.all V.pl = true) (ho : ∀ g, o.ren g = o) (hz : o.Fz) (hv : ∀ g, v.ren g = v) {h : Hp} {K : V → Hp → Prop} (hk : h k = some o) (hK : K v (Hp.put h k o)) : CallE P f (.ptr k b sz 0 0 :: rest) h K := by
  refine call1 (post := fun x L' => x = v ∧ L' = [(0, o)]) ⟨hs.fn, fun C us a1 a2 a3 a4 => (hs.run C us a1 a2 a3 a4).mono ?_⟩ (fun x L' h => ⟨o, h.2⟩) hrest ho hz hk ?_
  · rintro e w' ⟨u, x, h', F', e1, e2, e3, rfl, rfl⟩
    exact ⟨u, _, _, F', e1, e2, e3, [(0, o)], ⟨rfl, rfl⟩, rfl⟩
  · rintro x o' ⟨rfl, ho'⟩
    simp only [List.cons.injEq, Prod.mk.injEq, and_true, true_and] at ho'
    subst ho'
    rw [hv, ho]
    exact hK
/-- a method that reads one object -/
theorem spec_read {P : Program} {f : Nat} {fn : Func} {ac : AC} {rv : List RV} {args : List V} {o : Ob} {D : Array Oper → List AO → Bool} (hD : DrawOk P D) (ok : FnOk P f fn ac rv args.length D) (v : V) (hv : Fz v) (ho : o.Fz)
    (h : ∀ R : S → Prop, (∀ (s s' : S), Ent s s' → resV s' rv (fun x => oneV x = v) → s'.h 0 = some o → R s) → awp std (CallE P) (CallP P) ac (S0 args (lookH [(0, o)])) R (fun _ _ => False) R) :
    Spec P f args (lookH [(0, o)]) (fun x h' => x = v ∧ h' = lookH [(0, o)]) := by
  have := spec_meth hD ok (L := [(0, o)]) (fun x L' => x = v ∧ L' = [(0, o)]) fun R hR => h R fun s s' he hr h0 => hR s s' v [(0, o)] he hr ⟨h0, trivial⟩ hv (by intro p hp; simp at hp; subst hp; exact ho) ⟨rfl, rfl⟩
  refine ⟨this.fn, fun C us a1 a2 a3 a4 => (this.run C us a1 a2 a3 a4).mono ?_⟩
  rintro e w' ⟨u, x, h', F', e1, e2, e3, L', ⟨rfl, rfl⟩, rfl⟩
  exact ⟨u, _, _, F', e1, e2, e3, rfl, rfl⟩

def kindW (l : List Part) : Int := match l with
  | [] => 0
  | p :: _ => p.kind
def ac_wkind : AC := .seq (.region false [
    ⟨some 2, none, .mov (.c (.int .i64 0))⟩])
  (.seq (.seq (.region false [
    ⟨some 3, none, .mov (.t 0)⟩,
    ⟨some 4, none, .nilchk (.t 3)⟩,
    ⟨some 5, none, .faddr 0 (.t 4)⟩,
    ⟨some 6, none, .load1 (.t 5)⟩,
    ⟨some 7, none, .len false (.t 6)⟩,
    ⟨some 8, none, .bin .eql (.t 7) (.c (.int .i64 0))⟩])
  (.cond (.t 8)
    (.seq (.region false [
      ⟨some 2, none, .mov (.c (.int .i64 0))⟩])
    (.ret))
    (.skip)))
  (.seq (.region false [
    ⟨some 9, none, .mov (.t 0)⟩,
    ⟨some 10, none, .nilchk (.t 9)⟩,
    ⟨some 11, none, .faddr 0 (.t 10)⟩,
    ⟨some 12, none, .load1 (.t 11)⟩,
    ⟨some 13, none, .iaddr 3 (.t 12) (.c (.int .i64 0))⟩,
    ⟨some 14, none, .faddr 0 (.t 13)⟩,
    ⟨some 15, none, .load1 (.t 14)⟩,
    ⟨some 2, none, .mov (.t 15)⟩])
  (.ret)))
theorem ok_wkind : FnOk Try.prog 86 Try.f86 ac_wkind [.t 2] 1 drawD := ⟨Try.func86, by decide +kernel, by kernel_rfl, by kernel_rfl, by decide +kernel⟩
theorem vc_wkind (P : Prim) (hP : P = std) (T T1 : CallT) (b : Nat) (l : List Part) (u : Int) (rows : List (List V)) (hrows : rows = l.map encPart) (r : Int) (hr : kindW l = r)
    (R : S → Prop) (hR : ∀ (s s' : S) (q : Int), q = r → Ent s s' → Ret [.t 2] [.int .i64 q] s' → s'.h 0 = some (⟨some b, 182, 2, [[.sl false 3 rows, .int .i64 u]]⟩) → R s) : awp P T T1 ac_wkind (S0 [.ptr 0 (some b) 2 0 0] (lookH [(0, ⟨some b, 182, 2, [[.sl false 3 rows, .int .i64 u]]⟩)])) R (fun _ _ => False) R := by
  have hl : P.rlen rows = (l.length : Int) := by rw [rlen_eq hP, hrows]; simp
  cbv
  refine br_cases (fun h => ?_) (fun h => ?_)
  · have h2 : P.rlen rows = 0 := eq_t hP h
    rw [hl] at h2
    have : l = [] := List.eq_nil_of_length_eq_zero (by ((try simp only [nc] at *); omega))
    subst this
    cbv
    exact hR _ _ _ hr (Ent.refl _) rfl rfl
  · have h2 : ¬ P.rlen rows = 0 := eq_f hP h
    rw [hl] at h2
    rcases l with _ | ⟨⟨kd, n, t⟩, l⟩
    · exact absurd rfl h2
    have hrow : P.row rows (P.nat 0) [.int .i64 kd, .int .i64 n, .str t] := row_of hP (i := 0) rfl (by rw [hrows]; rfl)
    have ho : P.leP 0 0 := le0 hP (by omega)
    cbv
    refine ⟨ho, _, hrow, ?_⟩
    cbv
    exact hR _ _ _ hr (Ent.refl _) rfl rfl
theorem sp_wkind (b : Nat) (l : List Part) (u : Int) : Spec Try.prog 86 [.ptr 0 (some b) 2 0 0] (lookH [(0, obW b (l.map encPart) u)]) (fun x h' => x = .int .i64 (kindW l) ∧ h' = lookH [(0, obW b (l.map encPart) u)]) :=
  spec_read dOk ok_wkind _ (.int _ _) obW_fz fun R hR => vc_wkind std rfl _ _ b l u _ rfl _ rfl R fun s s' q hq he hr h0 => by subst hq; exact hR s s' he (resV_mono _ _ _ (fun x hx => by subst hx; rfl) hr) h0

def ac_wsize : AC := .seq (.region false [
    ⟨some 2, none, .mov (.c (.int .i64 0))⟩])
  (.seq (.seq (.region false [
    ⟨some 3, none, .mov (.t 0)⟩,
    ⟨some 4, none, .nilchk (.t 3)⟩,
    ⟨some 5, none, .faddr 0 (.t 4)⟩,
    ⟨some 6, none, .load1 (.t 5)⟩,
    ⟨some 7, none, .iaddr 3 (.t 6) (.c (.int .i64 0))⟩,
    ⟨some 8, none, .faddr 0 (.t 7)⟩,
    ⟨some 9, none, .load1 (.t 8)⟩,
    ⟨some 10, none, .bin .eql (.t 9) (.c (.int .i64 2))⟩])
  (.cond (.t 10)
    (.seq (.region false [
      ⟨some 11, none, .mov (.t 0)⟩,
      ⟨some 12, none, .nilchk (.t 11)⟩,
      ⟨some 13, none, .faddr 0 (.t 12)⟩,
      ⟨some 14, none, .load1 (.t 13)⟩,
      ⟨some 15, none, .iaddr 3 (.t 14) (.c (.int .i64 0))⟩,
      ⟨some 16, none, .faddr 2 (.t 15)⟩,
      ⟨some 17, none, .load1 (.t 16)⟩,
      ⟨some 18, none, .len true (.t 17)⟩,
      ⟨some 2, none, .mov (.t 18)⟩])
    (.ret))
    (.skip)))
  (.seq (.region false [
    ⟨some 19, none, .mov (.t 0)⟩,
    ⟨some 20, none, .nilchk (.t 19)⟩,
    ⟨some 21, none, .faddr 0 (.t 20)⟩,
    ⟨some 22, none, .load1 (.t 21)⟩,
    ⟨some 23, none, .iaddr 3 (.t 22) (.c (.int .i64 0))⟩,
    ⟨some 24, none, .faddr 1 (.t 23)⟩,
    ⟨some 25, none, .load1 (.t 24)⟩,
    ⟨some 2, none, .mov (.t 25)⟩])
  (.ret)))
theorem ok_wsize : FnOk Try.prog 111 Try.f111 ac_wsize [.t 2] 1 drawD := ⟨Try.func111, by decide +kernel, by kernel_rfl, by kernel_rfl, by decide +kernel⟩
theorem vc_wsize (P : Prim) (hP : P = std) (T T1 : CallT) (b : Nat) (kd n : Int) (t : List UInt8) (l : List Part) (u : Int) (rows : List (List V)) (hrows : rows = (⟨kd, n, t⟩ :: l).map encPart) (r : Int) (hr : sizeP ⟨kd, n, t⟩ = r)
    (R : S → Prop) (hR : ∀ (s s' : S) (q : Int), q = r → Ent s s' → Ret [.t 2] [.int .i64 q] s' → s'.h 0 = some (⟨some b, 182, 2, [[.sl false 3 rows, .int .i64 u]]⟩) → R s) : awp P T T1 ac_wsize (S0 [.ptr 0 (some b) 2 0 0] (lookH [(0, ⟨some b, 182, 2, [[.sl false 3 rows, .int .i64 u]]⟩)])) R (fun _ _ => False) R := by
  have hrow : P.row rows (P.nat 0) [.int .i64 kd, .int .i64 n, .str t] := row_of hP (i := 0) rfl (by rw [hrows]; rfl)
  have ho : P.leP 0 0 := le0 hP (by omega)
  cbv
  refine ⟨ho, _, hrow, ?_⟩
  cbv
  refine br_cases (fun h => ?_) (fun h => ?_)
  · have hk : kd = 2 := eq_t hP h
    cbv
    refine ⟨ho, _, hrow, ?_⟩
    cbv
    refine hR _ _ _ ?_ (Ent.refl _) rfl rfl
    show P.slen t = r
    rw [slen_eq hP, ← hr, sizeP, if_pos hk]
  · have hk : ¬ kd = 2 := eq_f hP h
    cbv
    refine ⟨ho, _, hrow, ?_⟩
    cbv
    refine hR _ _ _ ?_ (Ent.refl _) rfl rfl
    rw [← hr, sizeP, if_neg hk]
theorem sp_wsize (b : Nat) (p : Part) (l : List Part) (u : Int) : Spec Try.prog 111 [.ptr 0 (some b) 2 0 0] (lookH [(0, obW b ((p :: l).map encPart) u)]) (fun x h' => x = .int .i64 (sizeP p) ∧ h' = lookH [(0, obW b ((p :: l).map encPart) u)]) :=
  spec_read dOk ok_wsize _ (.int _ _) obW_fz fun R hR => vc_wsize std rfl _ _ b p.kind p.n p.text l u _ rfl _ rfl R fun s s' q hq he hr h0 => by subst hq; exact hR s s' he (resV_mono _ _ _ (fun x hx => by subst hx; rfl) hr) h0
/-- how a walker's method that reads is called -/
def WkC (T : CallT) (f : Nat) (pre : List Part → Int → Prop) (r : List Part → Int → Int) (back : Bool) : Prop := ∀ (k b : Nat) (l : List Part) (u : Int) (rows : List (List V)) (h : Hp) (K : V → Hp → Prop), rows = l.map encPart → pre l u → h k = some ⟨some b, 182, 2, [[.sl false 3 rows, .int .i64 u]]⟩ →
  (∀ q : Int, q = r l u → K (.int .i64 q) (match back with
    | true => Hp.put h k ⟨some b, 182, 2, [[.sl false 3 rows, .int .i64 u]]⟩
    | false => h)) → T f [.ptr k (some b) 2 0 0] h K
theorem wkE {f : Nat} {pre : List Part → Int → Prop} {r : List Part → Int → Int} (hs : ∀ b l u, pre l u → Spec Try.prog f [.ptr 0 (some b) 2 0 0] (lookH [(0, obW b (l.map encPart) u)]) (fun x h' => x = .int .i64 (r l u) ∧ h' = lookH [(0, obW b (l.map encPart) u)])) : WkC (CallE Try.prog) f pre r true := by
  rintro k b l u rows h K rfl hp hk hK
  exact callE1 (hs b l u hp) rfl (obW_ren _ _ _) obW_fz (fun _ => rfl) hk (hK _ rfl)
theorem wkP {f : Nat} {pre : List Part → Int → Prop} {r : List Part → Int → Int} (hs : ∀ b l u, pre l u → Spec Try.prog f [.ptr 0 (some b) 2 0 0] (lookH [(0, obW b (l.map encPart) u)]) (fun x h' => x = .int .i64 (r l u) ∧ h' = lookH [(0, obW b (l.map encPart) u)])) : WkC (CallP Try.prog) f pre r false := by
  rintro k b l u rows h K rfl hp hk hK
  exact callP1 (hs b l u hp) rfl (obW_ren _ _ _) obW_fz (fun _ => rfl) hk (hK _ rfl)
def sizeL (l : List Part) : Int := match l with
  | [] => 0
  | p :: _ => sizeP p
theorem sizeP_call : WkC (CallP Try.prog) 111 (fun l _ => l ≠ []) (fun l _ => sizeL l) false := wkP fun b l u h => by
  cases l with
  | nil => exact absurd rfl h
  | cons p l => exact sp_wsize b p l u
theorem kindE_call : WkC (CallE Try.prog) 86 (fun _ _ => True) (fun l _ => kindW l) true := wkE fun b l u _ => sp_wkind b l u

def ac_wleft : AC := .seq (.region false [
    ⟨some 2, none, .mov (.c (.int .i64 0))⟩])
  (.seq (.region true [
    ⟨some 3, none, .mov (.t 0)⟩,
    ⟨some 4, none, .call 111 [(.t 3)]⟩,
    ⟨some 5, none, .mov (.t 0)⟩,
    ⟨some 6, none, .nilchk (.t 5)⟩,
    ⟨some 7, none, .faddr 1 (.t 6)⟩,
    ⟨some 8, none, .load1 (.t 7)⟩,
    ⟨some 9, none, .bin .sub (.t 4) (.t 8)⟩,
    ⟨some 2, none, .mov (.t 9)⟩])
  (.ret))
theorem ok_wleft : FnOk Try.prog 88 Try.f88 ac_wleft [.t 2] 1 drawD := ⟨Try.func88, by decide +kernel, by kernel_rfl, by kernel_rfl, by decide +kernel⟩
theorem vc_wleft (P : Prim) (hP : P = std) (T T1 : CallT) (hsz : WkC T1 111 (fun l _ => l ≠ []) (fun l _ => sizeL l) false) (b : Nat) (l : List Part) (u : Int) (hne : l ≠ []) (hi : I64 (sizeL l - u)) (rows : List (List V)) (hrows : rows = l.map encPart) (r : Int) (hr : sizeL l - u = r)
    (R : S → Prop) (hR : ∀ (s s' : S) (q : Int), q = r → Ent s s' → Ret [.t 2] [.int .i64 q] s' → s'.h 0 = some (⟨some b, 182, 2, [[.sl false 3 rows, .int .i64 u]]⟩) → R s) : awp P T T1 ac_wleft (S0 [.ptr 0 (some b) 2 0 0] (lookH [(0, ⟨some b, 182, 2, [[.sl false 3 rows, .int .i64 u]]⟩)])) R (fun _ _ => False) R := by
  cbv
  refine hsz _ _ _ _ _ _ _ hrows hne rfl fun q hq => ?_
  have ho : P.i64 (P.sub q u) := by rw [sub_eq hP, hq]; exact i64I hP hi
  cbv
  refine ⟨ho, ?_⟩
  refine hR _ _ _ ?_ (Ent.refl _) rfl rfl
  show P.sub q u = r
  rw [sub_eq hP, hq, hr]
theorem leftE_call : WkC (CallE Try.prog) 88 (fun l u => l ≠ [] ∧ WkOk l u) (fun l u => sizeL l - u) true := wkE fun b l u h =>
  spec_read dOk ok_wleft _ (.int _ _) obW_fz fun R hR => vc_wleft std rfl _ _ sizeP_call b l u h.1 (by
    obtain ⟨h1, h2, h3⟩ := h
    cases l with
    | nil => exact absurd rfl h1
    | cons p l =>
      simp only at h3
      have := size_le (h2 p (by simp))
      simp only [sizeL]
      unfold I64; omega) _ rfl _ rfl R fun s s' q hq he hr h0 => by subst hq; exact hR s s' he (resV_mono _ _ _ (fun x hx => by subst hx; rfl) hr) h0

/-! Take -/
def textW (l : List Part) (u k : Int) : List UInt8 := match l with
  | [] => []
  | p :: _ => if p.kind = 2 then (p.text.drop u.toNat).take k.toNat else []
def ac_wtake : AC := .seq (.region false [
    ⟨some 4, none, .mov (.c (.string ⟨#[]⟩))⟩])
  (.seq (.region false [
    ⟨some 5, none, .mov (.c (.string ⟨#[]⟩))⟩])
  (.seq (.seq (.region false [
    ⟨some 6, none, .mov (.t 0)⟩,
    ⟨some 7, none, .nilchk (.t 6)⟩,
    ⟨some 8, none, .faddr 0 (.t 7)⟩,
    ⟨some 9, none, .load1 (.t 8)⟩,
    ⟨some 10, none, .iaddr 3 (.t 9) (.c (.int .i64 0))⟩,
    ⟨some 11, none, .faddr 0 (.t 10)⟩,
    ⟨some 12, none, .load1 (.t 11)⟩,
    ⟨some 13, none, .bin .eql (.t 12) (.c (.int .i64 2))⟩])
  (.cond (.t 13)
    (.region true [
      ⟨some 14, none, .mov (.t 0)⟩,
      ⟨some 15, none, .nilchk (.t 14)⟩,
      ⟨some 16, none, .faddr 0 (.t 15)⟩,
      ⟨some 17, none, .load1 (.t 16)⟩,
      ⟨some 18, none, .iaddr 3 (.t 17) (.c (.int .i64 0))⟩,
      ⟨some 19, none, .faddr 2 (.t 18)⟩,
      ⟨some 20, none, .load1 (.t 19)⟩,
      ⟨some 21, none, .mov (.t 0)⟩,
      ⟨some 22, none, .nilchk (.t 21)⟩,
      ⟨some 23, none, .faddr 1 (.t 22)⟩,
      ⟨some 24, none, .load1 (.t 23)⟩,
      ⟨some 25, none, .mov (.t 0)⟩,
      ⟨some 26, none, .nilchk (.t 25)⟩,
      ⟨some 27, none, .faddr 1 (.t 26)⟩,
      ⟨some 28, none, .load1 (.t 27)⟩,
      ⟨some 29, none, .mov (.t 1)⟩,
      ⟨some 30, none, .bin .add (.t 28) (.t 29)⟩,
      ⟨some 31, none, .slstr (.t 20) (some (.t 24)) (some (.t 30))⟩,
      ⟨some 5, none, .mov (.t 31)⟩])
    (.skip)))
  (.seq (.seq (.region false [
    ⟨some 32, none, .mov (.t 0)⟩,
    ⟨some 33, none, .nilchk (.t 32)⟩,
    ⟨some 34, none, .faddr 1 (.t 33)⟩,
    ⟨some 35, none, .load1 (.t 34)⟩,
    ⟨some 36, none, .mov (.t 1)⟩,
    ⟨some 37, none, .bin .add (.t 35) (.t 36)⟩,
    ⟨some 38, none, .nilchk (.t 32)⟩,
    ⟨some 39, none, .faddr 1 (.t 38)⟩,
    ⟨none, none, .store 1 (.t 39) (.t 37)⟩])
  (.seq (.region true [
    ⟨some 40, none, .mov (.t 0)⟩,
    ⟨some 41, none, .nilchk (.t 40)⟩,
    ⟨some 42, none, .faddr 1 (.t 41)⟩,
    ⟨some 43, none, .load1 (.t 42)⟩,
    ⟨some 44, none, .mov (.t 0)⟩,
    ⟨some 45, none, .call 111 [(.t 44)]⟩,
    ⟨some 46, none, .bin .eql (.t 43) (.t 45)⟩])
  (.cond (.t 46)
    (.region false [
      ⟨some 47, none, .mov (.t 0)⟩,
      ⟨some 48, none, .mov (.t 0)⟩,
      ⟨some 49, none, .mov (.t 0)⟩,
      ⟨some 50, none, .nilchk (.t 49)⟩,
      ⟨some 51, none, .faddr 0 (.t 50)⟩,
      ⟨some 52, none, .load1 (.t 51)⟩,
      ⟨some 53, none, .slsl 3 (.t 52) (some (.c (.int .i64 1))) none⟩,
      ⟨some 54, none, .nilchk (.t 47)⟩,
      ⟨some 55, none, .faddr 0 (.t 54)⟩,
      ⟨none, none, .store 1 (.t 55) (.t 53)⟩,
      ⟨some 56, none, .nilchk (.t 48)⟩,
      ⟨some 57, none, .faddr 1 (.t 56)⟩,
      ⟨none, none, .store 1 (.t 57) (.c (.int .i64 0))⟩])
    (.skip))))
  (.seq (.region false [
    ⟨some 58, none, .mov (.t 5)⟩,
    ⟨some 4, none, .mov (.t 58)⟩])
  (.ret)))))
theorem ok_wtake : FnOk Try.prog 87 Try.f87 ac_wtake [.t 4] 2 drawD := ⟨Try.func87, by decide +kernel, by kernel_rfl, by kernel_rfl, by decide +kernel⟩
theorem vc_wtake (P : Prim) (hP : P = std) (T T1 : CallT) (hsz : WkC T1 111 (fun l _ => l ≠ []) (fun l _ => sizeL l) false) (b : Nat) (kd n : Int) (t : List UInt8) (l : List Part) (u k : Int) (hok : WkOk (⟨kd, n, t⟩ :: l) u) (hk : 0 ≤ k ∧ u + k ≤ sizeP ⟨kd, n, t⟩) (rows : List (List V)) (hrows : rows = (⟨kd, n, t⟩ :: l).map encPart)
    (s' : List UInt8) (hs' : s' = textW (⟨kd, n, t⟩ :: l) u k) (rows' : List (List V)) (u' : Int) (hrows' : rows' = (takeW (⟨kd, n, t⟩ :: l) u k).1.map encPart) (hu' : u' = (takeW (⟨kd, n, t⟩ :: l) u k).2)
    (R : S → Prop) (hR : ∀ (s s2 : S) (q : List UInt8) (rows2 : List (List V)) (u2 : Int), q = s' → rows2 = rows' → u2 = u' → Ent s s2 → Ret [.t 4] [.str q] s2 → s2.h 0 = some (⟨some b, 182, 2, [[.sl false 3 rows2, .int .i64 u2]]⟩) → R s) :
    awp P T T1 ac_wtake (S0 [.ptr 0 (some b) 2 0 0, .int .i64 k] (lookH [(0, ⟨some b, 182, 2, [[.sl false 3 rows, .int .i64 u]]⟩)])) R (fun _ _ => False) R := by
  have hp := hok.1 ⟨kd, n, t⟩ (by simp)
  have hub := hok.2
  simp only at hub
  have hsb := size_le hp
  have hrow : P.row rows (P.nat 0) [.int .i64 kd, .int .i64 n, .str t] := row_of hP (i := 0) rfl (by rw [hrows]; rfl)
  have ho : P.leP 0 0 := le0 hP (by omega)
  have ho1 : P.i64 (P.add u k) := by rw [add_eq hP]; exact i64I hP (by omega)
  have ho2 : P.leP 0 u := le0 hP (by omega)
  have ho3 : P.leP u (P.add u k) := leI hP (by rw [add_eq hP]; omega)
  have ho4 : kd = 2 → P.leP (P.add u k) (P.slen t) := fun h2 => leI hP (by rw [add_eq hP, slen_eq hP]; simp [sizeP, h2] at hk; omega)
  have ho5 : P.leP 0 1 := le0 hP (by omega)
  have ho6 : P.leP 1 (P.rlen rows) := leI hP (by rw [rlen_eq hP, hrows]; simp; omega)
  have ho7 : P.leP (P.rlen rows) (P.rlen rows) := leI hP (Int.le_refl _)
  have es : kd = 2 → P.ssub t u (P.add u k) = (t.drop u.toNat).take k.toNat := fun h2 => by
    rw [add_eq hP]; subst hP
    show (t.take (u + k).toNat).drop u.toNat = _
    rw [List.drop_take, show (u + k).toNat - u.toNat = k.toNat by omega]
  have er : P.rsub rows 1 (P.rlen rows) = l.map encPart := by
    rw [rlen_eq hP, hrows]; subst hP
    show (List.take ((_ : Nat) : Int).toNat _).drop (1 : Int).toNat = _
    simp [List.take_of_length_le]
  cbv
  refine ⟨ho, _, hrow, ?_⟩
  cbv
  refine br_cases (fun h => ?_) (fun h => ?_)
  · have hk2 : kd = 2 := eq_t hP h
    have hss : s' = P.ssub t u (P.add u k) := by rw [hs', es hk2]; simp [textW, hk2]
    have ho8 := ho4 hk2
    cbv
    refine ⟨ho, _, hrow, ?_⟩
    cbv
    refine ⟨ho1, ho2, ho3, ho8, ho1, ?_⟩
    refine hsz _ _ _ _ _ _ _ hrows (by simp) rfl fun q hq => ?_
    have hq2 : q = sizeP ⟨kd, n, t⟩ := hq
    cbv
    refine br_cases (fun h => ?_) (fun h => ?_)
    · have h2 : P.add u k = q := eq_t hP h
      rw [add_eq hP, hq2] at h2
      cbv
      refine ⟨ho5, ho6, ho7, ?_⟩
      refine hR _ _ _ _ _ hss.symm ?_ ?_ (Ent.refl _) rfl rfl
      · show P.rsub rows 1 (P.rlen rows) = rows'
        rw [er, hrows']; simp [takeW, h2]
      · rw [hu']; simp [takeW, h2]
    · have h2 : ¬ P.add u k = q := eq_f hP h
      rw [add_eq hP, hq2] at h2
      cbv
      refine hR _ _ _ _ _ hss.symm ?_ ?_ (Ent.refl _) rfl rfl
      · rw [hrows', hrows]; simp [takeW, h2]
      · show P.add u k = u'
        rw [add_eq hP, hu']; simp [takeW, h2]
  · have hk2 : ¬ kd = 2 := eq_f hP h
    have hss : s' = [] := by rw [hs']; simp [textW, hk2]
    cbv
    refine ⟨ho1, ?_⟩
    refine hsz _ _ _ _ _ _ _ hrows (by simp) rfl fun q hq => ?_
    have hq2 : q = sizeP ⟨kd, n, t⟩ := hq
    cbv
    refine br_cases (fun h => ?_) (fun h => ?_)
    · have h2 : P.add u k = q := eq_t hP h
      rw [add_eq hP, hq2] at h2
      cbv
      refine ⟨ho5, ho6, ho7, ?_⟩
      refine hR _ _ _ _ _ hss.symm ?_ ?_ (Ent.refl _) rfl rfl
      · show P.rsub rows 1 (P.rlen rows) = rows'
        rw [er, hrows']; simp [takeW, h2]
      · rw [hu']; simp [takeW, h2]
    · have h2 : ¬ P.add u k = q := eq_f hP h
      rw [add_eq hP, hq2] at h2
      cbv
      refine hR _ _ _ _ _ hss.symm ?_ ?_ (Ent.refl _) rfl rfl
      · rw [hrows', hrows]; simp [takeW, h2]
      · show P.add u k = u'
        rw [add_eq hP, hu']; simp [takeW, h2]
theorem sp_wtake (b : Nat) (p : Part) (l : List Part) (u k : Int) (hok : WkOk (p :: l) u) (hk : 0 ≤ k ∧ u + k ≤ sizeP p) : Spec Try.prog 87 [.ptr 0 (some b) 2 0 0, .int .i64 k] (lookH [(0, obW b ((p :: l).map encPart) u)])
    (fun v h' => ∃ L', (v = .str (textW (p :: l) u k) ∧ L' = [(0, obW b ((takeW (p :: l) u k).1.map encPart) (takeW (p :: l) u k).2)]) ∧ h' = lookH L') :=
  spec_meth dOk ok_wtake (L := [(0, obW b ((p :: l).map encPart) u)]) (fun v L' => v = .str (textW (p :: l) u k) ∧ L' = [(0, obW b ((takeW (p :: l) u k).1.map encPart) (takeW (p :: l) u k).2)]) fun R hR =>
    vc_wtake std rfl _ _ sizeP_call b p.kind p.n p.text l u k hok hk _ rfl _ rfl _ _ rfl rfl R fun s s2 q rows2 u2 h1 h2 h3 he hr h0 => by
      subst h1 h2 h3
      exact hR s s2 (.str (textW (p :: l) u k)) [(0, obW b ((takeW (p :: l) u k).1.map encPart) (takeW (p :: l) u k).2)] he (resV_mono _ _ _ (fun x hx => by subst hx; rfl) hr) ⟨h0, trivial⟩ (.str _) (by intro p hp; simp at hp; subst hp; exact obW_fz) ⟨rfl, rfl⟩
/-- how Take is called -/
def TakeC (T : CallT) : Prop := ∀ (k b : Nat) (p : Part) (l : List Part) (u n : Int) (rows : List (List V)) (h : Hp) (K : V → Hp → Prop), rows = (p :: l).map encPart → WkOk (p :: l) u → 0 ≤ n ∧ u + n ≤ sizeP p → h k = some ⟨some b, 182, 2, [[.sl false 3 rows, .int .i64 u]]⟩ →
  (∀ (q : List UInt8) (rows' : List (List V)) (u' : Int), q = textW (p :: l) u n → rows' = (takeW (p :: l) u n).1.map encPart → u' = (takeW (p :: l) u n).2 → K (.str q) (Hp.put h k ⟨some b, 182, 2, [[.sl false 3 rows', .int .i64 u']]⟩)) → T 87 [.ptr k (some b) 2 0 0, .int .i64 n] h K
theorem takeC : TakeC (CallE Try.prog) := by
  rintro k b p l u n rows h K rfl hok hn hk hK
  refine call1 (sp_wtake b p l u n hok hn) (fun v L' h => ⟨_, h.2⟩) rfl (obW_ren _ _ _) obW_fz hk ?_
  rintro v o' ⟨rfl, ho'⟩
  simp only [List.cons.injEq, Prod.mk.injEq, and_true, true_and] at ho'
  subst ho'
  rw [obW_ren]
  exact hK _ _ _ rfl rfl rfl

/-! Walk -/
def ac_walk : AC := .seq (.region false [
    ⟨some 2, none, .mov (.c (.pointer none))⟩])
  (.seq (.region false [
    ⟨some 3, none, .mov (.t 0)⟩,
    ⟨some 4, none, .build [(.slice none 0 0), (.int .i64 0)] [(0, 1, (.t 3))]⟩,
    ⟨some 5, none, .box 182 2 (.t 4)⟩,
    ⟨some 2, none, .mov (.t 5)⟩])
  (.ret))
theorem ok_walk : FnOk Try.prog 85 Try.f85 ac_walk [.t 2] 1 drawD := ⟨Try.func85, by decide +kernel, by kernel_rfl, by kernel_rfl, by decide +kernel⟩
theorem sp_walk (d : List Part) : Spec Try.prog 85 [.sl false 3 (d.map encPart)] (lookH []) (fun v h' => ∃ L', (∃ b, v = .ptr 5 (some b) 2 0 0 ∧ L' = [(5, obW b (d.map encPart) 0)]) ∧ h' = lookH L') :=
  spec_meth dOk ok_walk (L := []) (fun v L' => ∃ b, v = .ptr 5 (some b) 2 0 0 ∧ L' = [(5, obW b (d.map encPart) 0)]) fun R hR => by
    have hfz : ∀ b, (obW b (d.map encPart) 0).Fz := fun b => obW_fz
    unfold obW at hR hfz
    generalize d.map encPart = rows at hR hfz ⊢
    cbv
    intro β
    exact hR _ _ (.ptr 5 (some β) 2 0 0) [(5, _)] (Ent.refl _) rfl ⟨rfl, trivial⟩ (.ptr _ _ _ _ _) (by intro p hp; simp at hp; subst hp; exact hfz β) ⟨β, rfl, rfl⟩
def WalkC (T : CallT) : Prop := ∀ (k : Nat) (d : List Part) (rows : List (List V)) (h : Hp) (K : V → Hp → Prop), rows = d.map encPart → Nat.beq k 5 = false → h k = none → (∀ b : Nat, K (.ptr k (some b) 2 0 0) (Hp.put h k ⟨some b, 182, 2, [[.sl false 3 rows, .int .i64 0]]⟩)) → T 85 [.sl false 3 rows] h K
theorem walkC : WalkC (CallE Try.prog) := by
  rintro k d rows h K rfl hne hk hK
  refine callG (sp_walk d) (m := [(5, k)]) (.cons (.same _) .nil) (fun j o hj => by cases hj) (fun q hq => ?_) ?_
  · simp only [List.mem_singleton] at hq
    subst hq
    exact ⟨by simp [lab], by simp [bal], fun o ho => by cases ho⟩
  · rintro v L' ⟨b, rfl, rfl⟩
    have e : h.upd [(5, k)] (lookH [(5, obW b (d.map encPart) 0)]) = Hp.put h k (obW b (d.map encPart) 0) := by
      funext i
      by_cases h1 : i = k
      · subst h1; simp [Hp.upd, Hp.put, bal, lookH, obW_ren]
      · have h2 : ¬ k = i := fun e => h1 e.symm
        simp [Hp.upd, Hp.put, h1, h2]
    rw [e]
    have : (V.ptr 5 (some b) 2 0 0).ren (lab [(5, k)]) = .ptr k (some b) 2 0 0 := by simp [V.ren, V.rl, lab]
    rw [this]
    exact hK b
end Go.Proofs.Ytobngncjflogcaa.AM
