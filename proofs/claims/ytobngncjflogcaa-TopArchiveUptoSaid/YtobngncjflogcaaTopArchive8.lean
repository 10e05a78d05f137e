/-
  Texts of the plain machine, put together: what the law TopArchive reaches.
-/
import Derived.Test.YtobngncjflogcaaTopArchive5
import Derived.Test.YtobngncjflogcaaTopArchive6
import Derived.Test.YtobngncjflogcaaTopArchive7
set_option linter.unusedVariables false
set_option linter.unusedSimpArgs false
namespace Go.Proofs.Ytobngncjflogcaa.AM
open Go
set_option maxRecDepth 100000
set_option maxHeartbeats 2000000
def sizeP (p : Part) : Int := if p.kind = 2 then p.text.length else p.n
def WkOk (l : List Part) (u : Int) : Prop := (∀ p ∈ l, okP p) ∧ match l with
  | [] => u = 0
  | p :: _ => 0 ≤ u ∧ u < sizeP p
def tokW (l : List Part) (u : Int) : List Tok := (toks l).drop u.toNat
def takeW (l : List Part) (u k : Int) : List Part × Int := match l with
  | [] => ([], u)
  | p :: r => if u + k = sizeP p then (r, 0) else (p :: r, u + k)
def chunk (p : Part) (u k : Int) : List Tok := if p.kind = 2 then ((p.text.drop u.toNat).take k.toNat).map .put else List.replicate k.toNat (if p.kind = 1 then .keep else .cut)
theorem toks1_size (p : Part) (h : okP p) : ((toks1 p).length : Int) = sizeP p := by
  have h1 := okP_bd h
  unfold toks1 sizeP
  split
  · simp
  · split <;> simp <;> omega
theorem size_pos {p : Part} (h : okP p) : 0 < sizeP p := by
  have h1 := okP_bd h
  unfold sizeP
  split
  · have : p.text ≠ [] := by rcases h1.2.2.2 with h | h; exact h.2.2; omega
    have := List.length_pos_iff.2 this
    omega
  · omega
theorem size_le {p : Part} (h : okP p) : sizeP p ≤ 500 := by
  have h1 := okP_bd h
  unfold sizeP
  split <;> omega
theorem takeW_ok {p : Part} {r : List Part} {u k : Int} (h : WkOk (p :: r) u) (hk : 0 ≤ k ∧ u + k ≤ sizeP p) : WkOk (takeW (p :: r) u k).1 (takeW (p :: r) u k).2 := by
  obtain ⟨h1, h2⟩ := h
  simp only [takeW]
  split
  · refine ⟨fun q hq => h1 q (by simp [hq]), ?_⟩
    cases r with
    | nil => rfl
    | cons q r => exact ⟨Int.le_refl _, size_pos (h1 q (by simp))⟩
  · exact ⟨h1, by simp only at h2 ⊢; omega⟩
theorem tok_chunk {p : Part} {r : List Part} {u k : Int} (h : WkOk (p :: r) u) (hk : 0 ≤ k ∧ u + k ≤ sizeP p) : tokW (p :: r) u = chunk p u k ++ tokW (takeW (p :: r) u k).1 (takeW (p :: r) u k).2 := by
  obtain ⟨h1, h2⟩ := h
  simp only at h2
  have hp := h1 p (by simp)
  have hs := toks1_size p hp
  have e1 : tokW (p :: r) u = (toks1 p).drop u.toNat ++ toks r := by
    unfold tokW
    simp only [toks]
    rw [List.drop_append_of_le_length (by omega)]
  have e2 : (toks1 p).drop u.toNat = chunk p u k ++ (toks1 p).drop (u + k).toNat := by
    have e3 : (toks1 p).drop (u + k).toNat = ((toks1 p).drop u.toNat).drop k.toNat := by rw [List.drop_drop]; congr 1; omega
    have e4 : chunk p u k = ((toks1 p).drop u.toNat).take k.toNat := by
      unfold chunk toks1 
      split
      · rw [← List.map_drop, ← List.map_take]
      · rename_i hk2
        have hsz : sizeP p = p.n := by simp [sizeP, hk2]
        split
        · rw [List.drop_replicate, List.take_replicate]; congr 1; omega
        · rw [List.drop_replicate, List.take_replicate]; congr 1; omega
    rw [e3, e4, List.take_append_drop]
  have e5 : tokW (takeW (p :: r) u k).1 (takeW (p :: r) u k).2 = (toks1 p).drop (u + k).toNat ++ toks r := by
    simp only [takeW]
    split
    · rename_i hh
      rw [List.drop_of_length_le (by omega)]
      simp [tokW]
    · unfold tokW
      simp only [toks]
      rw [List.drop_append_of_le_length (by omega)]
  rw [e1, e2, e5, List.append_assoc]
theorem chunk_len {p : Part} {r : List Part} {u k : Int} (h : WkOk (p :: r) u) (hk : 0 ≤ k ∧ u + k ≤ sizeP p) : (chunk p u k).length = k.toNat := by
  obtain ⟨h1, h2⟩ := h
  simp only at h2
  unfold chunk
  split
  · rename_i h3
    have : sizeP p = p.text.length := by simp [sizeP, h3]
    simp; omega
  · simp

def obW (b : Nat) (rows : List (List V)) (u : Int) : Ob := ⟨some b, 182, 2, [[.sl false 3 rows, .int .i64 u]]⟩
theorem obW_fz {b : Nat} {l : List Part} {u : Int} : (obW b (l.map encPart) u).Fz := by
  intro r hr v hv
  simp only [obW, List.mem_singleton] at hr
  subst hr
  simp only [List.mem_cons, List.not_mem_nil, or_false] at hv
  rcases hv with rfl | rfl
  · exact .sl _ _ (encParts_fz l)
  · exact .int _ _
theorem obW_ren (b : Nat) (rows : List (List V)) (u : Int) (g : Nat → Nat) : (obW b rows u).ren g = obW b rows u := by simp [Ob.ren, obW, V.rl]
/-- a function that reads one object -/
theorem callP1 {P : Program} {f k sz : Nat} {b : Option Nat} {rest : List V} {o : Ob} {v : V} (hs : Spec P f (.ptr 0 b sz 0 0 :: rest) (lookH [(0, o)]) fun x h' => x = v ∧ h' = lookH [(0, o)])
    (hrest : rest.all V.pl = true) (ho : ∀ g, o.ren g = o) (hz : o.Fz) (hv : ∀ g, v.ren g = v) {h : Hp} {K : V → Hp → Prop} (hk : h k = some o) (hK : K v h) : CallP P f (.ptr k b sz 0 0 :: rest) h K := by
  refine ⟨[(0, k)], _, _, v, hs, .cons ?_ (args_plain hrest), fun j q hj => ?_, fun p hp => ?_, by rw [hv]; exact hK⟩
  · have := Arg.same (h := h) (m := [(0, k)]) (.ptr k b sz 0 0)
    simpa [V.ren, V.rl, bal] using this
  · simp only [lookH] at hj
    split at hj
    · rename_i h0; exact ⟨(0, k), by simp, h0.symm⟩
    · cases hj
  · simp only [List.mem_singleton] at hp
    subst hp
    exact ⟨by simp [lab], by simp [bal], o, by simp [lookH], by rw [hk, Option.map_some, ho], hz⟩
theorem callE1 {P : Program} {f k sz : Nat} {b : Option Nat} {rest : List V} {o : Ob} {v : V} (hs : Spec P f (.ptr 0 b sz 0 0 :: rest) (lookH [(0, o)]) fun x h' => x = v ∧ h' = lookH [(0, o)])
    (hrest : rest.all V.pl = true) (ho : ∀ g, o.ren g = o) (hz : o.Fz) (hv : ∀ g, v.ren g = v) {h : Hp} {K : V → Hp → Prop} (hk : h k = some o) (hK : K v (Hp.put h k o)) : CallE P f (.ptr k b sz 0 0 :: rest) h K := by
  refine call1 (post := fun x L' => x = v ∧ L' = [(0, o)]) ⟨hs.fn, fun C us a1 a2 a3 a4 => (hs.run C us a1 a2 a3 a4).mono ?_⟩ (fun x L' h => ⟨o, h.2⟩) hrest ho hz hk ?_
  · rintro e w' ⟨u, x, h', F', e1, e2, e3, rfl, rfl⟩
    exact ⟨u, _, _, F', e1, e2, e3, [(0, o)], ⟨rfl, rfl⟩, rfl⟩
  · rintro x o' ⟨rfl, ho'⟩
    simp only [List.cons.injEq, Prod.mk.injEq, and_true, true_and] at ho'
    subst ho'
    rw [hv, ho]
    exact hK
/-- a method that reads one object -/
theorem spec_read {P : Program} {f : Nat} {fn : Func} {ac : AC} {rv : List RV} {args : List V} {o : Ob} {D : Array Oper → List AO → Bool} (hD : DrawOk P D) (ok : FnOk P f fn ac rv args.length D) (v : V) (hv : Fz v) (ho : o.Fz)
    (h : ∀ R : S → Prop, (∀ (s s' : S), Ent s s' → resV s' rv (fun x => oneV x = v) → s'.h 0 = some o → R s) → awp std (CallE P) (CallP P) ac (S0 args (lookH [(0, o)])) R (fun _ _ => False) R) :
    Spec P f args (lookH [(0, o)]) (fun x h' => x = v ∧ h' = lookH [(0, o)]) := by
  have := spec_meth hD ok (L := [(0, o)]) (fun x L' => x = v ∧ L' = [(0, o)]) fun R hR => h R fun s s' he hr h0 => hR s s' v [(0, o)] he hr ⟨h0, trivial⟩ hv (by intro p hp; simp at hp; subst hp; exact ho) ⟨rfl, rfl⟩
  refine ⟨this.fn, fun C us a1 a2 a3 a4 => (this.run C us a1 a2 a3 a4).mono ?_⟩
  rintro e w' ⟨u, x, h', F', e1, e2, e3, L', ⟨rfl, rfl⟩, rfl⟩
  exact ⟨u, _, _, F', e1, e2, e3, rfl, rfl⟩

def kindW (l : List Part) : Int := match l with
  | [] => 0
  | p :: _ => p.kind
def ac_wkind : AC := .seq (.region false [
    ⟨some 2, none, .mov (.c (.int .i64 0))⟩])
  (.seq (.seq (.region false [
    ⟨some 3, none, .mov (.t 0)⟩,
    ⟨some 4, none, .nilchk (.t 3)⟩,
    ⟨some 5, none, .faddr 0 (.t 4)⟩,
    ⟨some 6, none, .load1 (.t 5)⟩,
    ⟨some 7, none, .len false (.t 6)⟩,
    ⟨some 8, none, .bin .eql (.t 7) (.c (.int .i64 0))⟩])
  (.cond (.t 8)
    (.seq (.region false [
      ⟨some 2, none, .mov (.c (.int .i64 0))⟩])
    (.ret))
    (.skip)))
  (.seq (.region false [
    ⟨some 9, none, .mov (.t 0)⟩,
    ⟨some 10, none, .nilchk (.t 9)⟩,
    ⟨some 11, none, .faddr 0 (.t 10)⟩,
    ⟨some 12, none, .load1 (.t 11)⟩,
    ⟨some 13, none, .iaddr 3 (.t 12) (.c (.int .i64 0))⟩,
    ⟨some 14, none, .faddr 0 (.t 13)⟩,
    ⟨some 15, none, .load1 (.t 14)⟩,
    ⟨some 2, none, .mov (.t 15)⟩])
  (.ret)))
theorem ok_wkind : FnOk Try.prog 86 Try.f86 ac_wkind [.t 2] 1 drawD := ⟨Try.func86, by decide +kernel, by kernel_rfl, by kernel_rfl, by decide +kernel⟩
theorem vc_wkind (P : Prim) (hP : P = std) (T T1 : CallT) (b : Nat) (l : List Part) (u : Int) (rows : List (List V)) (hrows : rows = l.map encPart) (r : Int) (hr : kindW l = r)
    (R : S → Prop) (hR : ∀ (s s' : S) (q : Int), q = r → Ent s s' → Ret [.t 2] [.int .i64 q] s' → s'.h 0 = some (⟨some b, 182, 2, [[.sl false 3 rows, .int .i64 u]]⟩) → R s) : awp P T T1 ac_wkind (S0 [.ptr 0 (some b) 2 0 0] (lookH [(0, ⟨some b, 182, 2, [[.sl false 3 rows, .int .i64 u]]⟩)])) R (fun _ _ => False) R := by
  have hl : P.rlen rows = (l.length : Int) := by rw [rlen_eq hP, hrows]; simp
  cbv
  refine br_cases (fun h => ?_) (fun h => ?_)
  · have h2 : P.rlen rows = 0 := eq_t hP h
    rw [hl] at h2
    have : l = [] := List.eq_nil_of_length_eq_zero (by ((try simp only [nc] at *); omega))
    subst this
    cbv
    exact hR _ _ _ hr (Ent.refl _) rfl rfl
  · have h2 : ¬ P.rlen rows = 0 := eq_f hP h
    rw [hl] at h2
    rcases l with _ | ⟨⟨kd, n, t⟩, l⟩
    · exact absurd rfl h2
    have hrow : P.row rows (P.nat 0) [.int .i64 kd, .int .i64 n, .str t] := row_of hP (i := 0) rfl (by rw [hrows]; rfl)
    have ho : P.leP 0 0 := le0 hP (by omega)
    cbv
    refine ⟨ho, _, hrow, ?_⟩
    cbv
    exact hR _ _ _ hr (Ent.refl _) rfl rfl
theorem sp_wkind (b : Nat) (l : List Part) (u : Int) : Spec Try.prog 86 [.ptr 0 (some b) 2 0 0] (lookH [(0, obW b (l.map encPart) u)]) (fun x h' => x = .int .i64 (kindW l) ∧ h' = lookH [(0, obW b (l.map encPart) u)]) :=
  spec_read dOk ok_wkind _ (.int _ _) obW_fz fun R hR => vc_wkind std rfl _ _ b l u _ rfl _ rfl R fun s s' q hq he hr h0 => by subst hq; exact hR s s' he (resV_mono _ _ _ (fun x hx => by subst hx; rfl) hr) h0

def ac_wsize : AC := .seq (.region false [
    ⟨some 2, none, .mov (.c (.int .i64 0))⟩])
  (.seq (.seq (.region false [
    ⟨some 3, none, .mov (.t 0)⟩,
    ⟨some 4, none, .nilchk (.t 3)⟩,
    ⟨some 5, none, .faddr 0 (.t 4)⟩,
    ⟨some 6, none, .load1 (.t 5)⟩,
    ⟨some 7, none, .iaddr 3 (.t 6) (.c (.int .i64 0))⟩,
    ⟨some 8, none, .faddr 0 (.t 7)⟩,
    ⟨some 9, none, .load1 (.t 8)⟩,
    ⟨some 10, none, .bin .eql (.t 9) (.c (.int .i64 2))⟩])
  (.cond (.t 10)
    (.seq (.region false [
      ⟨some 11, none, .mov (.t 0)⟩,
      ⟨some 12, none, .nilchk (.t 11)⟩,
      ⟨some 13, none, .faddr 0 (.t 12)⟩,
      ⟨some 14, none, .load1 (.t 13)⟩,
      ⟨some 15, none, .iaddr 3 (.t 14) (.c (.int .i64 0))⟩,
      ⟨some 16, none, .faddr 2 (.t 15)⟩,
      ⟨some 17, none, .load1 (.t 16)⟩,
      ⟨some 18, none, .len true (.t 17)⟩,
      ⟨some 2, none, .mov (.t 18)⟩])
    (.ret))
    (.skip)))
  (.seq (.region false [
    ⟨some 19, none, .mov (.t 0)⟩,
    ⟨some 20, none, .nilchk (.t 19)⟩,
    ⟨some 21, none, .faddr 0 (.t 20)⟩,
    ⟨some 22, none, .load1 (.t 21)⟩,
    ⟨some 23, none, .iaddr 3 (.t 22) (.c (.int .i64 0))⟩,
    ⟨some 24, none, .faddr 1 (.t 23)⟩,
    ⟨some 25, none, .load1 (.t 24)⟩,
    ⟨some 2, none, .mov (.t 25)⟩])
  (.ret)))
theorem ok_wsize : FnOk Try.prog 111 Try.f111 ac_wsize [.t 2] 1 drawD := ⟨Try.func111, by decide +kernel, by kernel_rfl, by kernel_rfl, by decide +kernel⟩
theorem vc_wsize (P : Prim) (hP : P = std) (T T1 : CallT) (b : Nat) (kd n : Int) (t : List UInt8) (l : List Part) (u : Int) (rows : List (List V)) (hrows : rows = (⟨kd, n, t⟩ :: l).map encPart) (r : Int) (hr : sizeP ⟨kd, n, t⟩ = r)
    (R : S → Prop) (hR : ∀ (s s' : S) (q : Int), q = r → Ent s s' → Ret [.t 2] [.int .i64 q] s' → s'.h 0 = some (⟨some b, 182, 2, [[.sl false 3 rows, .int .i64 u]]⟩) → R s) : awp P T T1 ac_wsize (S0 [.ptr 0 (some b) 2 0 0] (lookH [(0, ⟨some b, 182, 2, [[.sl false 3 rows, .int .i64 u]]⟩)])) R (fun _ _ => False) R := by
  have hrow : P.row rows (P.nat 0) [.int .i64 kd, .int .i64 n, .str t] := row_of hP (i := 0) rfl (by rw [hrows]; rfl)
  have ho : P.leP 0 0 := le0 hP (by omega)
  cbv
  refine ⟨ho, _, hrow, ?_⟩
  cbv
  refine br_cases (fun h => ?_) (fun h => ?_)
  · have hk : kd = 2 := eq_t hP h
    cbv
    refine ⟨ho, _, hrow, ?_⟩
    cbv
    refine hR _ _ _ ?_ (Ent.refl _) rfl rfl
    show P.slen t = r
    rw [slen_eq hP, ← hr, sizeP, if_pos hk]
  · have hk : ¬ kd = 2 := eq_f hP h
    cbv
    refine ⟨ho, _, hrow, ?_⟩
    cbv
    refine hR _ _ _ ?_ (Ent.refl _) rfl rfl
    rw [← hr, sizeP, if_neg hk]
theorem sp_wsize (b : Nat) (p : Part) (l : List Part) (u : Int) : Spec Try.prog 111 [.ptr 0 (some b) 2 0 0] (lookH [(0, obW b ((p :: l).map encPart) u)]) (fun x h' => x = .int .i64 (sizeP p) ∧ h' = lookH [(0, obW b ((p :: l).map encPart) u)]) :=
  spec_read dOk ok_wsize _ (.int _ _) obW_fz fun R hR => vc_wsize std rfl _ _ b p.kind p.n p.text l u _ rfl _ rfl R fun s s' q hq he hr h0 => by subst hq; exact hR s s' he (resV_mono _ _ _ (fun x hx => by subst hx; rfl) hr) h0
/-- how a walker's method that reads is called -/
def WkC (T : CallT) (f : Nat) (pre : List Part → Int → Prop) (r : List Part → Int → Int) (back : Bool) : Prop := ∀ (k b : Nat) (l : List Part) (u : Int) (rows : List (List V)) (h : Hp) (K : V → Hp → Prop), rows = l.map encPart → pre l u → h k = some ⟨some b, 182, 2, [[.sl false 3 rows, .int .i64 u]]⟩ →
  (∀ q : Int, q = r l u → K (.int .i64 q) (match back with
    | true => Hp.put h k ⟨some b, 182, 2, [[.sl false 3 rows, .int .i64 u]]⟩
    | false => h)) → T f [.ptr k (some b) 2 0 0] h K
theorem wkE {f : Nat} {pre : List Part → Int → Prop} {r : List Part → Int → Int} (hs : ∀ b l u, pre l u → Spec Try.prog f [.ptr 0 (some b) 2 0 0] (lookH [(0, obW b (l.map encPart) u)]) (fun x h' => x = .int .i64 (r l u) ∧ h' = lookH [(0, obW b (l.map encPart) u)])) : WkC (CallE Try.prog) f pre r true := by
  rintro k b l u rows h K rfl hp hk hK
  exact callE1 (hs b l u hp) rfl (obW_ren _ _ _) obW_fz (fun _ => rfl) hk (hK _ rfl)
theorem wkP {f : Nat} {pre : List Part → Int → Prop} {r : List Part → Int → Int} (hs : ∀ b l u, pre l u → Spec Try.prog f [.ptr 0 (some b) 2 0 0] (lookH [(0, obW b (l.map encPart) u)]) (fun x h' => x = .int .i64 (r l u) ∧ h' = lookH [(0, obW b (l.map encPart) u)])) : WkC (CallP Try.prog) f pre r false := by
  rintro k b l u rows h K rfl hp hk hK
  exact callP1 (hs b l u hp) rfl (obW_ren _ _ _) obW_fz (fun _ => rfl) hk (hK _ rfl)
def sizeL (l : List Part) : Int := match l with
  | [] => 0
  | p :: _ => sizeP p
theorem sizeP_call : WkC (CallP Try.prog) 111 (fun l _ => l ≠ []) (fun l _ => sizeL l) false := wkP fun b l u h => by
  cases l with
  | nil => exact absurd rfl h
  | cons p l => exact sp_wsize b p l u
theorem kindE_call : WkC (CallE Try.prog) 86 (fun _ _ => True) (fun l _ => kindW l) true := wkE fun b l u _ => sp_wkind b l u

def ac_wleft : AC := .seq (.region false [
    ⟨some 2, none, .mov (.c (.int .i64 0))⟩])
  (.seq (.region true [
    ⟨some 3, none, .mov (.t 0)⟩,
    ⟨some 4, none, .call 111 [(.t 3)]⟩,
    ⟨some 5, none, .mov (.t 0)⟩,
    ⟨some 6, none, .nilchk (.t 5)⟩,
    ⟨some 7, none, .faddr 1 (.t 6)⟩,
    ⟨some 8, none, .load1 (.t 7)⟩,
    ⟨some 9, none, .bin .sub (.t 4) (.t 8)⟩,
    ⟨some 2, none, .mov (.t 9)⟩])
  (.ret))
theorem ok_wleft : FnOk Try.prog 88 Try.f88 ac_wleft [.t 2] 1 drawD := ⟨Try.func88, by decide +kernel, by kernel_rfl, by kernel_rfl, by decide +kernel⟩
theorem vc_wleft (P : Prim) (hP : P = std) (T T1 : CallT) (hsz : WkC T1 111 (fun l _ => l ≠ []) (fun l _ => sizeL l) false) (b : Nat) (l : List Part) (u : Int) (hne : l ≠ []) (hi : I64 (sizeL l - u)) (rows : List (List V)) (hrows : rows = l.map encPart) (r : Int) (hr : sizeL l - u = r)
    (R : S → Prop) (hR : ∀ (s s' : S) (q : Int), q = r → Ent s s' → Ret [.t 2] [.int .i64 q] s' → s'.h 0 = some (⟨some b, 182, 2, [[.sl false 3 rows, .int .i64 u]]⟩) → R s) : awp P T T1 ac_wleft (S0 [.ptr 0 (some b) 2 0 0] (lookH [(0, ⟨some b, 182, 2, [[.sl false 3 rows, .int .i64 u]]⟩)])) R (fun _ _ => False) R := by
  cbv
  refine hsz _ _ _ _ _ _ _ hrows hne rfl fun q hq => ?_
  have ho : P.i64 (P.sub q u) := by rw [sub_eq hP, hq]; exact i64I hP hi
  cbv
  refine ⟨ho, ?_⟩
  refine hR _ _ _ ?_ (Ent.refl _) rfl rfl
  show P.sub q u = r
  rw [sub_eq hP, hq, hr]
theorem leftE_call : WkC (CallE Try.prog) 88 (fun l u => l ≠ [] ∧ WkOk l u) (fun l u => sizeL l - u) true := wkE fun b l u h =>
  spec_read dOk ok_wleft _ (.int _ _) obW_fz fun R hR => vc_wleft std rfl _ _ sizeP_call b l u h.1 (by
    obtain ⟨h1, h2, h3⟩ := h
    cases l with
    | nil => exact absurd rfl h1
    | cons p l =>
      simp only at h3
      have := size_le (h2 p (by simp))
      simp only [sizeL]
      unfold I64; omega) _ rfl _ rfl R fun s s' q hq he hr h0 => by subst hq; exact hR s s' he (resV_mono _ _ _ (fun x hx => by subst hx; rfl) hr) h0

def textW (l : List Part) (u k : Int) : List UInt8 := match l with
  | [] => []
  | p :: _ => if p.kind = 2 then (p.text.drop u.toNat).take k.toNat else []
def ac_wtake : AC := .seq (.region false [
    ⟨some 4, none, .mov (.c (.string ⟨#[]⟩))⟩])
  (.seq (.region false [
    ⟨some 5, none, .mov (.c (.string ⟨#[]⟩))⟩])
  (.seq (.seq (.region false [
    ⟨some 6, none, .mov (.t 0)⟩,
    ⟨some 7, none, .nilchk (.t 6)⟩,
    ⟨some 8, none, .faddr 0 (.t 7)⟩,
    ⟨some 9, none, .load1 (.t 8)⟩,
    ⟨some 10, none, .iaddr 3 (.t 9) (.c (.int .i64 0))⟩,
    ⟨some 11, none, .faddr 0 (.t 10)⟩,
    ⟨some 12, none, .load1 (.t 11)⟩,
    ⟨some 13, none, .bin .eql (.t 12) (.c (.int .i64 2))⟩])
  (.cond (.t 13)
    (.region true [
      ⟨some 14, none, .mov (.t 0)⟩,
      ⟨some 15, none, .nilchk (.t 14)⟩,
      ⟨some 16, none, .faddr 0 (.t 15)⟩,
      ⟨some 17, none, .load1 (.t 16)⟩,
      ⟨some 18, none, .iaddr 3 (.t 17) (.c (.int .i64 0))⟩,
      ⟨some 19, none, .faddr 2 (.t 18)⟩,
      ⟨some 20, none, .load1 (.t 19)⟩,
      ⟨some 21, none, .mov (.t 0)⟩,
      ⟨some 22, none, .nilchk (.t 21)⟩,
      ⟨some 23, none, .faddr 1 (.t 22)⟩,
      ⟨some 24, none, .load1 (.t 23)⟩,
      ⟨some 25, none, .mov (.t 0)⟩,
      ⟨some 26, none, .nilchk (.t 25)⟩,
      ⟨some 27, none, .faddr 1 (.t 26)⟩,
      ⟨some 28, none, .load1 (.t 27)⟩,
      ⟨some 29, none, .mov (.t 1)⟩,
      ⟨some 30, none, .bin .add (.t 28) (.t 29)⟩,
      ⟨some 31, none, .slstr (.t 20) (some (.t 24)) (some (.t 30))⟩,
      ⟨some 5, none, .mov (.t 31)⟩])
    (.skip)))
  (.seq (.seq (.region false [
    ⟨some 32, none, .mov (.t 0)⟩,
    ⟨some 33, none, .nilchk (.t 32)⟩,
    ⟨some 34, none, .faddr 1 (.t 33)⟩,
    ⟨some 35, none, .load1 (.t 34)⟩,
    ⟨some 36, none, .mov (.t 1)⟩,
    ⟨some 37, none, .bin .add (.t 35) (.t 36)⟩,
    ⟨some 38, none, .nilchk (.t 32)⟩,
    ⟨some 39, none, .faddr 1 (.t 38)⟩,
    ⟨none, none, .store 1 (.t 39) (.t 37)⟩])
  (.seq (.region true [
    ⟨some 40, none, .mov (.t 0)⟩,
    ⟨some 41, none, .nilchk (.t 40)⟩,
    ⟨some 42, none, .faddr 1 (.t 41)⟩,
    ⟨some 43, none, .load1 (.t 42)⟩,
    ⟨some 44, none, .mov (.t 0)⟩,
    ⟨some 45, none, .call 111 [(.t 44)]⟩,
    ⟨some 46, none, .bin .eql (.t 43) (.t 45)⟩])
  (.cond (.t 46)
    (.region false [
      ⟨some 47, none, .mov (.t 0)⟩,
      ⟨some 48, none, .mov (.t 0)⟩,
      ⟨some 49, none, .mov (.t 0)⟩,
      ⟨some 50, none, .nilchk (.t 49)⟩,
      ⟨some 51, none, .faddr 0 (.t 50)⟩,
      ⟨some 52, none, .load1 (.t 51)⟩,
      ⟨some 53, none, .slsl 3 (.t 52) (some (.c (.int .i64 1))) none⟩,
      ⟨some 54, none, .nilchk (.t 47)⟩,
      ⟨some 55, none, .faddr 0 (.t 54)⟩,
      ⟨none, none, .store 1 (.t 55) (.t 53)⟩,
      ⟨some 56, none, .nilchk (.t 48)⟩,
      ⟨some 57, none, .faddr 1 (.t 56)⟩,
      ⟨none, none, .store 1 (.t 57) (.c (.int .i64 0))⟩])
    (.skip))))
  (.seq (.region false [
    ⟨some 58, none, .mov (.t 5)⟩,
    ⟨some 4, none, .mov (.t 58)⟩])
  (.ret)))))
theorem ok_wtake : FnOk Try.prog 87 Try.f87 ac_wtake [.t 4] 2 drawD := ⟨Try.func87, by decide +kernel, by kernel_rfl, by kernel_rfl, by decide +kernel⟩
theorem vc_wtake (P : Prim) (hP : P = std) (T T1 : CallT) (hsz : WkC T1 111 (fun l _ => l ≠ []) (fun l _ => sizeL l) false) (b : Nat) (kd n : Int) (t : List UInt8) (l : List Part) (u k : Int) (hok : WkOk (⟨kd, n, t⟩ :: l) u) (hk : 0 ≤ k ∧ u + k ≤ sizeP ⟨kd, n, t⟩) (rows : List (List V)) (hrows : rows = (⟨kd, n, t⟩ :: l).map encPart)
    (s' : List UInt8) (hs' : s' = textW (⟨kd, n, t⟩ :: l) u k) (rows' : List (List V)) (u' : Int) (hrows' : rows' = (takeW (⟨kd, n, t⟩ :: l) u k).1.map encPart) (hu' : u' = (takeW (⟨kd, n, t⟩ :: l) u k).2)
    (R : S → Prop) (hR : ∀ (s s2 : S) (q : List UInt8) (rows2 : List (List V)) (u2 : Int), q = s' → rows2 = rows' → u2 = u' → Ent s s2 → Ret [.t 4] [.str q] s2 → s2.h 0 = some (⟨some b, 182, 2, [[.sl false 3 rows2, .int .i64 u2]]⟩) → R s) :
    awp P T T1 ac_wtake (S0 [.ptr 0 (some b) 2 0 0, .int .i64 k] (lookH [(0, ⟨some b, 182, 2, [[.sl false 3 rows, .int .i64 u]]⟩)])) R (fun _ _ => False) R := by
  have hp := hok.1 ⟨kd, n, t⟩ (by simp)
  have hub := hok.2
  simp only at hub
  have hsb := size_le hp
  have hrow : P.row rows (P.nat 0) [.int .i64 kd, .int .i64 n, .str t] := row_of hP (i := 0) rfl (by rw [hrows]; rfl)
  have ho : P.leP 0 0 := le0 hP (by omega)
  have ho1 : P.i64 (P.add u k) := by rw [add_eq hP]; exact i64I hP (by omega)
  have ho2 : P.leP 0 u := le0 hP (by omega)
  have ho3 : P.leP u (P.add u k) := leI hP (by rw [add_eq hP]; omega)
  have ho4 : kd = 2 → P.leP (P.add u k) (P.slen t) := fun h2 => leI hP (by rw [add_eq hP, slen_eq hP]; simp [sizeP, h2] at hk; omega)
  have ho5 : P.leP 0 1 := le0 hP (by omega)
  have ho6 : P.leP 1 (P.rlen rows) := leI hP (by rw [rlen_eq hP, hrows]; simp; omega)
  have ho7 : P.leP (P.rlen rows) (P.rlen rows) := leI hP (Int.le_refl _)
  have es : kd = 2 → P.ssub t u (P.add u k) = (t.drop u.toNat).take k.toNat := fun h2 => by
    rw [add_eq hP]; subst hP
    show (t.take (u + k).toNat).drop u.toNat = _
    rw [List.drop_take, show (u + k).toNat - u.toNat = k.toNat by omega]
  have er : P.rsub rows 1 (P.rlen rows) = l.map encPart := by
    rw [rlen_eq hP, hrows]; subst hP
    show (List.take ((_ : Nat) : Int).toNat _).drop (1 : Int).toNat = _
    simp [List.take_of_length_le]
  cbv
  refine ⟨ho, _, hrow, ?_⟩
  cbv
  refine br_cases (fun h => ?_) (fun h => ?_)
  · have hk2 : kd = 2 := eq_t hP h
    have hss : s' = P.ssub t u (P.add u k) := by rw [hs', es hk2]; simp [textW, hk2]
    have ho8 := ho4 hk2
    cbv
    refine ⟨ho, _, hrow, ?_⟩
    cbv
    refine ⟨ho1, ho2, ho3, ho8, ho1, ?_⟩
    refine hsz _ _ _ _ _ _ _ hrows (by simp) rfl fun q hq => ?_
    have hq2 : q = sizeP ⟨kd, n, t⟩ := hq
    cbv
    refine br_cases (fun h => ?_) (fun h => ?_)
    · have h2 : P.add u k = q := eq_t hP h
      rw [add_eq hP, hq2] at h2
      cbv
      refine ⟨ho5, ho6, ho7, ?_⟩
      refine hR _ _ _ _ _ hss.symm ?_ ?_ (Ent.refl _) rfl rfl
      · show P.rsub rows 1 (P.rlen rows) = rows'
        rw [er, hrows']; simp [takeW, h2]
      · rw [hu']; simp [takeW, h2]
    · have h2 : ¬ P.add u k = q := eq_f hP h
      rw [add_eq hP, hq2] at h2
      cbv
      refine hR _ _ _ _ _ hss.symm ?_ ?_ (Ent.refl _) rfl rfl
      · rw [hrows', hrows]; simp [takeW, h2]
      · show P.add u k = u'
        rw [add_eq hP, hu']; simp [takeW, h2]
  · have hk2 : ¬ kd = 2 := eq_f hP h
    have hss : s' = [] := by rw [hs']; simp [textW, hk2]
    cbv
    refine ⟨ho1, ?_⟩
    refine hsz _ _ _ _ _ _ _ hrows (by simp) rfl fun q hq => ?_
    have hq2 : q = sizeP ⟨kd, n, t⟩ := hq
    cbv
    refine br_cases (fun h => ?_) (fun h => ?_)
    · have h2 : P.add u k = q := eq_t hP h
      rw [add_eq hP, hq2] at h2
      cbv
      refine ⟨ho5, ho6, ho7, ?_⟩
      refine hR _ _ _ _ _ hss.symm ?_ ?_ (Ent.refl _) rfl rfl
      · show P.rsub rows 1 (P.rlen rows) = rows'
        rw [er, hrows']; simp [takeW, h2]
      · rw [hu']; simp [takeW, h2]
    · have h2 : ¬ P.add u k = q := eq_f hP h
      rw [add_eq hP, hq2] at h2
      cbv
      refine hR _ _ _ _ _ hss.symm ?_ ?_ (Ent.refl _) rfl rfl
      · rw [hrows', hrows]; simp [takeW, h2]
      · show P.add u k = u'
        rw [add_eq hP, hu']; simp [takeW, h2]
theorem sp_wtake (b : Nat) (p : Part) (l : List Part) (u k : Int) (hok : WkOk (p :: l) u) (hk : 0 ≤ k ∧ u + k ≤ sizeP p) : Spec Try.prog 87 [.ptr 0 (some b) 2 0 0, .int .i64 k] (lookH [(0, obW b ((p :: l).map encPart) u)])
    (fun v h' => ∃ L', (v = .str (textW (p :: l) u k) ∧ L' = [(0, obW b ((takeW (p :: l) u k).1.map encPart) (takeW (p :: l) u k).2)]) ∧ h' = lookH L') :=
  spec_meth dOk ok_wtake (L := [(0, obW b ((p :: l).map encPart) u)]) (fun v L' => v = .str (textW (p :: l) u k) ∧ L' = [(0, obW b ((takeW (p :: l) u k).1.map encPart) (takeW (p :: l) u k).2)]) fun R hR =>
    vc_wtake std rfl _ _ sizeP_call b p.kind p.n p.text l u k hok hk _ rfl _ rfl _ _ rfl rfl R fun s s2 q rows2 u2 h1 h2 h3 he hr h0 => by
      subst h1 h2 h3
      exact hR s s2 (.str (textW (p :: l) u k)) [(0, obW b ((takeW (p :: l) u k).1.map encPart) (takeW (p :: l) u k).2)] he (resV_mono _ _ _ (fun x hx => by subst hx; rfl) hr) ⟨h0, trivial⟩ (.str _) (by intro p hp; simp at hp; subst hp; exact obW_fz) ⟨rfl, rfl⟩
/-- how Take is called -/
def TakeC (T : CallT) : Prop := ∀ (k b : Nat) (p : Part) (l : List Part) (u n : Int) (rows : List (List V)) (h : Hp) (K : V → Hp → Prop), rows = (p :: l).map encPart → WkOk (p :: l) u → 0 ≤ n ∧ u + n ≤ sizeP p → h k = some ⟨some b, 182, 2, [[.sl false 3 rows, .int .i64 u]]⟩ →
  (∀ (q : List UInt8) (rows' : List (List V)) (u' : Int), q = textW (p :: l) u n → rows' = (takeW (p :: l) u n).1.map encPart → u' = (takeW (p :: l) u n).2 → K (.str q) (Hp.put h k ⟨some b, 182, 2, [[.sl false 3 rows', .int .i64 u']]⟩)) → T 87 [.ptr k (some b) 2 0 0, .int .i64 n] h K
theorem takeC : TakeC (CallE Try.prog) := by
  rintro k b p l u n rows h K rfl hok hn hk hK
  refine call1 (sp_wtake b p l u n hok hn) (fun v L' h => ⟨_, h.2⟩) rfl (obW_ren _ _ _) obW_fz hk ?_
  rintro v o' ⟨rfl, ho'⟩
  simp only [List.cons.injEq, Prod.mk.injEq, and_true, true_and] at ho'
  subst ho'
  rw [obW_ren]
  exact hK _ _ _ rfl rfl rfl

def ac_walk : AC := .seq (.region false [
    ⟨some 2, none, .mov (.c (.pointer none))⟩])
  (.seq (.region false [
    ⟨some 3, none, .mov (.t 0)⟩,
    ⟨some 4, none, .build [(.slice none 0 0), (.int .i64 0)] [(0, 1, (.t 3))]⟩,
    ⟨some 5, none, .box 182 2 (.t 4)⟩,
    ⟨some 2, none, .mov (.t 5)⟩])
  (.ret))
theorem ok_walk : FnOk Try.prog 85 Try.f85 ac_walk [.t 2] 1 drawD := ⟨Try.func85, by decide +kernel, by kernel_rfl, by kernel_rfl, by decide +kernel⟩
theorem sp_walk (d : List Part) : Spec Try.prog 85 [.sl false 3 (d.map encPart)] (lookH []) (fun v h' => ∃ L', (∃ b, v = .ptr 5 (some b) 2 0 0 ∧ L' = [(5, obW b (d.map encPart) 0)]) ∧ h' = lookH L') :=
  spec_meth dOk ok_walk (L := []) (fun v L' => ∃ b, v = .ptr 5 (some b) 2 0 0 ∧ L' = [(5, obW b (d.map encPart) 0)]) fun R hR => by
    have hfz : ∀ b, (obW b (d.map encPart) 0).Fz := fun b => obW_fz
    unfold obW at hR hfz
    generalize d.map encPart = rows at hR hfz ⊢
    cbv
    intro β
    exact hR _ _ (.ptr 5 (some β) 2 0 0) [(5, _)] (Ent.refl _) rfl ⟨rfl, trivial⟩ (.ptr _ _ _ _ _) (by intro p hp; simp at hp; subst hp; exact hfz β) ⟨β, rfl, rfl⟩
def WalkC (T : CallT) : Prop := ∀ (k : Nat) (d : List Part) (rows : List (List V)) (h : Hp) (K : V → Hp → Prop), rows = d.map encPart → Nat.beq k 5 = false → h k = none → (∀ b : Nat, K (.ptr k (some b) 2 0 0) (Hp.put h k ⟨some b, 182, 2, [[.sl false 3 rows, .int .i64 0]]⟩)) → T 85 [.sl false 3 rows] h K
theorem walkC : WalkC (CallE Try.prog) := by
  rintro k d rows h K rfl hne hk hK
  refine callG (sp_walk d) (m := [(5, k)]) (.cons (.same _) .nil) (fun j o hj => by cases hj) (fun q hq => ?_) ?_
  · simp only [List.mem_singleton] at hq
    subst hq
    exact ⟨by simp [lab], by simp [bal], fun o ho => by cases ho⟩
  · rintro v L' ⟨b, rfl, rfl⟩
    have e : h.upd [(5, k)] (lookH [(5, obW b (d.map encPart) 0)]) = Hp.put h k (obW b (d.map encPart) 0) := by
      funext i
      by_cases h1 : i = k
      · subst h1; simp [Hp.upd, Hp.put, bal, lookH, obW_ren]
      · have h2 : ¬ k = i := fun e => h1 e.symm
        simp [Hp.upd, Hp.put, h1, h2]
    rw [e]
    have : (V.ptr 5 (some b) 2 0 0).ren (lab [(5, k)]) = .ptr k (some b) 2 0 0 := by simp [V.ren, V.rl, lab]
    rw [this]
    exact hK b
end Go.Proofs.Ytobngncjflogcaa.AM

set_option linter.unusedVariables false
set_option linter.unusedSimpArgs false
namespace Go.Proofs.Ytobngncjflogcaa.AM
open Go Go.RowKit
set_option maxRecDepth 100000
set_option maxHeartbeats 2000000
def tkF (st : List UInt8 × Bool) : (List UInt8 × Bool) × Int := if (getS st.1).2.2 ≠ 0 then ((st.1, false), 0) else ((st.1.drop (getS st.1).2.1.toNat, st.2), (getS st.1).1)
def tkS (s : List UInt8) : Nat → List UInt8 × Bool
  | 0 => (s, true)
  | n + 1 => (tkF (tkS s n)).1
def tkN (s : List UInt8) (i : Nat) : Int := (tkF (tkS s i)).2
theorem tkS_succ (s : List UInt8) (n : Nat) : tkS s (n + 1) = (tkF (tkS s n)).1 := rfl
theorem tkS_len (s : List UInt8) : ∀ n, (tkS s n).1.length ≤ s.length
  | 0 => Nat.le_refl _
  | n + 1 => by
    have ih := tkS_len s n
    rw [tkS_succ, tkF]
    split
    · exact ih
    · simp only [List.length_drop]; omega
theorem tkN_bd (s : List UInt8) (i : Nat) : 0 ≤ tkN s i ∧ tkN s i ≤ 2147483647 := by
  unfold tkN tkF
  split
  · exact ⟨Int.le_refl 0, by show (0 : Int) ≤ _; decide⟩
  · rename_i h
    obtain ⟨k, _, _, _, _, h5, h6, _⟩ := getS_num (Decidable.of_not_not h)
    exact ⟨h5, h6⟩
def obS (b : Nat) (s : List UInt8) : Ob := ⟨some b, 9, 1, [[.str s]]⟩
def obB (b : Nat) (ok : Bool) : Ob := ⟨some b, 4, 1, [[.bool ok]]⟩
def ac_take : AC := .seq (.region false [
    ⟨some 4, none, .mov (.c (.int .i64 0))⟩])
  (.seq (.region false [
    ⟨some 9, none, .mov (.t 0)⟩,
    ⟨some 10, none, .nilchk (.t 9)⟩,
    ⟨some 11, none, .load1 (.t 10)⟩,
    ⟨some 12, none, .call 118 [(.t 11)]⟩,
    ⟨some 8, none, .mov (.t 12)⟩,
    ⟨some 13, none, .ext 0 (.t 8)⟩,
    ⟨some 14, none, .ext 1 (.t 8)⟩,
    ⟨some 15, none, .ext 2 (.t 8)⟩,
    ⟨some 5, none, .mov (.t 13)⟩,
    ⟨some 6, none, .mov (.t 14)⟩,
    ⟨some 7, none, .mov (.t 15)⟩])
  (.seq (.seq (.region false [
    ⟨some 16, none, .mov (.t 7)⟩,
    ⟨some 17, none, .bin .neq (.t 16) (.c (.int .i64 0))⟩])
  (.cond (.t 17)
    (.seq (.region false [
      ⟨some 18, none, .mov (.t 1)⟩,
      ⟨some 19, none, .nilchk (.t 18)⟩,
      ⟨none, none, .store 1 (.t 19) (.c (.bool false))⟩])
    (.seq (.region false [
      ⟨some 4, none, .mov (.c (.int .i64 0))⟩])
    (.ret)))
    (.skip)))
  (.seq (.region false [
    ⟨some 20, none, .mov (.t 0)⟩,
    ⟨some 21, none, .mov (.t 0)⟩,
    ⟨some 22, none, .nilchk (.t 21)⟩,
    ⟨some 23, none, .load1 (.t 22)⟩,
    ⟨some 24, none, .mov (.t 6)⟩,
    ⟨some 25, none, .slstr (.t 23) (some (.t 24)) none⟩,
    ⟨some 26, none, .nilchk (.t 20)⟩,
    ⟨none, none, .store 1 (.t 26) (.t 25)⟩])
  (.seq (.region false [
    ⟨some 27, none, .mov (.t 5)⟩,
    ⟨some 4, none, .mov (.t 27)⟩])
  (.ret)))))
theorem ok_take : FnOk Try.prog 99 Try.f99 ac_take [.t 4] 2 drawD := ⟨Try.func99, by decide +kernel, by kernel_rfl, by kernel_rfl, by decide +kernel⟩
theorem vc_take (P : Prim) (hP : P = std) (T T1 : CallT) (b b2 : Nat) (s : List UInt8) (ok : Bool) (n k e : Int) (h1 : Ans T 118 [.str s] (.tup [.int .i64 n, .int .i64 k, .int .i64 e])) (hk : e = 0 → 0 ≤ k ∧ k ≤ s.length)
    (s2 : List UInt8) (ok2 : Bool) (v : Int) (g1 : e ≠ 0 → s = s2 ∧ false = ok2 ∧ 0 = v) (g2 : e = 0 → s.drop k.toNat = s2 ∧ ok = ok2 ∧ n = v)
    (R : S → Prop) (hR : ∀ s0 s' x y z, x = s2 ∧ y = ok2 ∧ z = v → Ent s0 s' → resV s' [.t 4] (fun q => oneV q = .int .i64 z) → agreeH [(0, ⟨some b, 9, 1, [[.str x]]⟩), (1, ⟨some b2, 4, 1, [[.bool y]]⟩)] s' → R s0) :
    awp P T T1 ac_take (S0 [.ptr 0 (some b) 1 0 0, .ptr 1 (some b2) 1 0 0] (lookH [(0, ⟨some b, 9, 1, [[.str s]]⟩), (1, ⟨some b2, 4, 1, [[.bool ok]]⟩)])) R (fun _ _ => False) R := by
  have hsp : P.slen s = (s.length : Int) := slen_eq hP s
  cbv
  refine h1 _ _ ?_
  cbv
  refine br_cases (fun h => ?_) (fun h => ?_)
  · have hx := g1 (ne_t hP h)
    cbv
    repeat' (first
      | (refine And.intro (by first | assumption | decide) ?_; try cbv)
      | (intro β2; try cbv))
    exact hR _ _ _ _ _ hx (Ent.refl _) rfl ⟨rfl, rfl, trivial⟩
  · have he := ne_f hP h
    obtain ⟨x1, x2, x3⟩ := g2 he
    obtain ⟨y1, y2⟩ := hk he
    have l1 : P.leP 0 k := le0 hP y1
    have l2 : P.leP k (P.slen s) := leI hP (by rw [hsp]; exact y2)
    have l3 : P.leP (P.slen s) (P.slen s) := leI hP (Int.le_refl _)
    have e1 : P.ssub s k (P.slen s) = s2 := by
      rw [hsp, ← x1]; subst hP
      show (s.take ((s.length : Int)).toNat).drop k.toNat = _
      rw [Int.toNat_natCast, List.take_length]
    cbv
    repeat' (first
      | (refine And.intro (by first | assumption | decide) ?_; try cbv)
      | (intro β2; try cbv))
    exact hR _ _ _ _ _ ⟨e1, x2, x3⟩ (Ent.refl _) rfl ⟨rfl, rfl, trivial⟩
theorem obS_fz (b : Nat) (s : List UInt8) : (obS b s).Fz := by
  intro r hr v hv
  simp only [obS, List.mem_singleton] at hr
  subst hr
  simp only [List.mem_singleton] at hv
  subst hv; exact .str _
theorem obB_fz (b : Nat) (ok : Bool) : (obB b ok).Fz := by
  intro r hr v hv
  simp only [obB, List.mem_singleton] at hr
  subst hr
  simp only [List.mem_singleton] at hv
  subst hv; exact .bool _
theorem sp_take (b b2 : Nat) (s : List UInt8) (ok : Bool) (hs : s.length ≤ maxLen) : Spec Try.prog 99 [.ptr 0 (some b) 1 0 0, .ptr 1 (some b2) 1 0 0] (lookH [(0, obS b s), (1, obB b2 ok)])
    (fun v h' => ∃ L', (v = .int .i64 (tkF (s, ok)).2 ∧ L' = [(0, obS b (tkF (s, ok)).1.1), (1, obB b2 (tkF (s, ok)).1.2)]) ∧ h' = lookH L') :=
  spec_meth dOk ok_take (L := [(0, obS b s), (1, obB b2 ok)]) (fun v L' => v = .int .i64 (tkF (s, ok)).2 ∧ L' = [(0, obS b (tkF (s, ok)).1.1), (1, obB b2 (tkF (s, ok)).1.2)]) fun R hR =>
    vc_take std rfl _ _ b b2 s ok (getS s).1 (getS s).2.1 (getS s).2.2 (ansW (sp_nget s hs) (fun _ => args_plain rfl) rfl) getS_k (tkF (s, ok)).1.1 (tkF (s, ok)).1.2 (tkF (s, ok)).2
      (fun h => by unfold tkF; rw [if_pos h]; exact ⟨rfl, rfl, rfl⟩) (fun h => by unfold tkF; rw [if_neg (fun g => g h)]; exact ⟨rfl, rfl, rfl⟩) R
      fun s0 s' x y z h he hr ha => by
        obtain ⟨rfl, rfl, rfl⟩ := h
        exact hR s0 s' _ [(0, _), (1, _)] he hr ha (.int _ _) (by intro p hp; simp at hp; rcases hp with rfl | rfl; exact obS_fz _ _; exact obB_fz _ _) ⟨rfl, rfl⟩
theorem obS_ren (b : Nat) (s : List UInt8) (f : Nat → Nat) : (obS b s).ren f = obS b s := by simp [Ob.ren, obS, V.rl]
theorem obB_ren (b : Nat) (ok : Bool) (f : Nat → Nat) : (obB b ok).ren f = obB b ok := by simp [Ob.ren, obB, V.rl]
def TkC (T : CallT) : Prop := ∀ (k k2 b b2 : Nat) (s : List UInt8) (ok : Bool) (h : Hp) (K : V → Hp → Prop), s.length ≤ maxLen → Nat.beq k k2 = false → h k = some ⟨some b, 9, 1, [[.str s]]⟩ → h k2 = some ⟨some b2, 4, 1, [[.bool ok]]⟩ →
  (∀ (s2 : List UInt8) (ok2 : Bool) (v : Int), (s2, ok2) = (tkF (s, ok)).1 ∧ v = (tkF (s, ok)).2 → K (.int .i64 v) (Hp.put (Hp.put h k ⟨some b, 9, 1, [[.str s2]]⟩) k2 ⟨some b2, 4, 1, [[.bool ok2]]⟩)) →
  T 99 [.ptr k (some b) 1 0 0, .ptr k2 (some b2) 1 0 0] h K
theorem tkC : TkC (CallE Try.prog) := by
  intro k k2 b b2 s ok h K hs hne hk hk2 hK
  have hne' : k ≠ k2 := by intro e; subst e; rw [Nat.beq_refl] at hne; cases hne
  have hne2 : ¬ k2 = k := fun e => hne' e.symm
  refine callG (m := [(0, k), (1, k2)]) (sp_take b b2 s ok hs) (.cons ?_ (.cons ?_ .nil)) (fun j q hj => ?_) (fun p hp => ?_) ?_
  · have := Arg.same (h := h) (m := [(0, k), (1, k2)]) (.ptr k (some b) 1 0 0)
    simpa [V.ren, V.rl, bal] using this
  · have := Arg.same (h := h) (m := [(0, k), (1, k2)]) (.ptr k2 (some b2) 1 0 0)
    simpa [V.ren, V.rl, bal, hne2, hne'] using this
  · simp only [lookH] at hj
    split at hj
    · rename_i h0; exact ⟨(0, k), by simp, h0.symm⟩
    · split at hj
      · rename_i h0; exact ⟨(1, k2), by simp, h0.symm⟩
      · cases hj
  · simp only [List.mem_cons, List.not_mem_nil, or_false] at hp
    rcases hp with rfl | rfl
    · refine ⟨by simp [lab], by simp [bal], fun x hx => ?_⟩
      simp only [lookH, ↓reduceIte, Option.some.injEq] at hx
      subst hx
      exact ⟨by rw [hk, Option.map_some]; exact congrArg some (obS_ren b s _), obS_fz _ _⟩
    · refine ⟨by simp [lab], by simp [bal, hne2], fun x hx => ?_⟩
      simp [lookH] at hx
      subst hx
      exact ⟨by rw [hk2, Option.map_some]; exact congrArg some (obB_ren b2 ok _), obB_fz _ _⟩
  · rintro v L' ⟨rfl, rfl⟩
    have e : h.upd [(0, k), (1, k2)] (lookH [(0, obS b (tkF (s, ok)).1.1), (1, obB b2 (tkF (s, ok)).1.2)]) = Hp.put (Hp.put h k (obS b (tkF (s, ok)).1.1)) k2 (obB b2 (tkF (s, ok)).1.2) := by
      funext i
      simp only [Hp.upd, Hp.put, List.any_cons, List.any_nil, Bool.or_false, Bool.or_eq_true, decide_eq_true_eq]
      by_cases h1 : k2 = i
      · subst h1
        rw [if_pos (.inr rfl), if_pos rfl]
        simp [bal, lookH, hne', hne2, obB_ren]
      · by_cases h2 : k = i
        · subst h2
          rw [if_pos (.inl rfl), if_neg (fun e => h1 e.symm), if_pos rfl]
          simp [bal, lookH, obS_ren]
        · rw [if_neg (by rintro (h | h); exact h2 h; exact h1 h), if_neg (fun e => h1 e.symm), if_neg (fun e => h2 e.symm)]
    rw [e]
    exact hK _ _ _ ⟨rfl, rfl⟩
def ac_head : AC := .seq (.region false [
    ⟨some 1, none, .box 9 1 (.t 0)⟩,
    ⟨some 2, none, .alloc 81 [(.int .i64 0), (.int .i64 0), (.string ⟨#[]⟩), (.int .i64 0), (.int .i64 0), (.int .i64 0), (.int .i64 0), (.int .i64 0), (.int .i64 0), (.int .i64 0), (.int .i64 0), (.int .i64 0), (.int .i64 0), (.int .i64 0), (.int .i64 0), (.int .i64 0), (.int .i64 0), (.int .i64 0), (.int .i64 0), (.int .i64 0), (.int .i64 0), (.int .i64 0), (.int .i64 0), (.int .i64 0), (.int .i64 0), (.int .i64 0), (.int .i64 0), (.int .i64 0), (.int .i64 0), (.int .i64 0), (.int .i64 0), (.int .i64 0), (.int .i64 0), (.int .i64 0), (.int .i64 0), (.slice none 0 0), (.bool false), (.int .i64 0)]⟩,
    ⟨some 3, none, .mov (.c (.bool false))⟩])
  (.seq (.region false [
    ⟨some 4, none, .alloc 4 [(.bool false)]⟩,
    ⟨none, none, .store 1 (.t 4) (.c (.bool true))⟩])
  (.seq (.region false [
    ⟨some 7, none, .call 99 [(.t 1), (.t 4)]⟩,
    ⟨some 8, none, .call 99 [(.t 1), (.t 4)]⟩,
    ⟨some 9, none, .build [(.int .i64 0), (.int .i64 0), (.string ⟨#[]⟩), (.int .i64 0), (.int .i64 0), (.int .i64 0), (.int .i64 0), (.int .i64 0), (.int .i64 0), (.int .i64 0), (.int .i64 0), (.int .i64 0), (.int .i64 0), (.int .i64 0), (.int .i64 0), (.int .i64 0), (.int .i64 0), (.int .i64 0), (.int .i64 0), (.int .i64 0), (.int .i64 0), (.int .i64 0), (.int .i64 0), (.int .i64 0), (.int .i64 0), (.int .i64 0), (.int .i64 0), (.int .i64 0), (.int .i64 0), (.int .i64 0), (.int .i64 0), (.int .i64 0), (.int .i64 0), (.int .i64 0), (.int .i64 0), (.slice none 0 0), (.bool false), (.int .i64 0)] [(0, 1, (.t 7)), (1, 1, (.t 8))]⟩,
    ⟨some 5, none, .alloc 81 [(.int .i64 0), (.int .i64 0), (.string ⟨#[]⟩), (.int .i64 0), (.int .i64 0), (.int .i64 0), (.int .i64 0), (.int .i64 0), (.int .i64 0), (.int .i64 0), (.int .i64 0), (.int .i64 0), (.int .i64 0), (.int .i64 0), (.int .i64 0), (.int .i64 0), (.int .i64 0), (.int .i64 0), (.int .i64 0), (.int .i64 0), (.int .i64 0), (.int .i64 0), (.int .i64 0), (.int .i64 0), (.int .i64 0), (.int .i64 0), (.int .i64 0), (.int .i64 0), (.int .i64 0), (.int .i64 0), (.int .i64 0), (.int .i64 0), (.int .i64 0), (.int .i64 0), (.int .i64 0), (.slice none 0 0), (.bool false), (.int .i64 0)]⟩,
    ⟨none, none, .store 38 (.t 5) (.t 9)⟩])
  (.seq (.seq (.region false [
    ⟨some 10, none, .mov (.c (.int .i64 0))⟩])
  (.block 0 (.loop (.seq (.region false [
      ⟨some 11, none, .bin .lss (.t 10) (.c (.int .i64 8))⟩])
    (.seq (.cond (.t 11)
      (.skip)
      (.exit 0))
    (.seq (.block 1 (.seq (.region false [
      ⟨some 12, none, .mov (.t 10)⟩,
      ⟨some 6, none, .mov (.t 12)⟩])
    (.region false [
      ⟨some 13, none, .mov (.t 6)⟩,
      ⟨some 14, none, .call 99 [(.t 1), (.t 4)]⟩,
      ⟨some 15, none, .call 99 [(.t 1), (.t 4)]⟩,
      ⟨some 16, none, .build [(.int .i64 0), (.int .i64 0)] [(0, 1, (.t 14)), (1, 1, (.t 15))]⟩,
      ⟨some 17, none, .faddr 3 (.t 5)⟩,
      ⟨some 18, none, .iarr 8 2 (.t 17) (.t 13)⟩,
      ⟨none, none, .store 2 (.t 18) (.t 16)⟩])))
    (.region false [
      ⟨some 19, none, .bin .add (.t 10) (.c (.int .i64 1))⟩,
      ⟨some 10, none, .mov (.t 19)⟩])))))))
  (.seq (.region false [
    ⟨some 20, none, .faddr 3 (.t 5)⟩,
    ⟨some 21, none, .loadn 16 (.t 20)⟩,
    ⟨some 22, none, .faddr 19 (.t 5)⟩,
    ⟨none, none, .store 16 (.t 22) (.t 21)⟩])
  (.seq (.region false [
    ⟨some 23, none, .load1 (.t 1)⟩,
    ⟨some 24, none, .faddr 2 (.t 5)⟩,
    ⟨none, none, .store 1 (.t 24) (.t 23)⟩])
  (.seq (.dregion [
    (⟨some 25, none, .loadn 38 (.t 5)⟩, []),
    (⟨some 26, none, .load1 (.t 4)⟩, []),
    (⟨some 27, none, .mov (.t 26)⟩, [1]),
    (⟨some 28, some (27, true), .load1 (.t 1)⟩, [2]),
    (⟨some 29, some (27, true), .len true (.t 28)⟩, [3, 2]),
    (⟨some 30, some (27, true), .bin .leq (.t 29) (.c (.int .i64 500))⟩, [4, 2]),
    (⟨some 31, none, .pick (.t 27) (.t 30) (.c (.bool false))⟩, [2, 5]),
    (⟨none, none, .store 38 (.t 2) (.t 25)⟩, [0, 2, 0]),
    (⟨some 3, none, .mov (.t 31)⟩, [6, 7, 0, 1, 2, 3, 4, 5, 6, 7])])
  (.ret)))))))
theorem ok_head : FnOk Try.prog 69 Try.f69 ac_head [.cn 2 38, .t 3] 1 drawD := ⟨Try.func69, by decide +kernel, by kernel_rfl, by kernel_rfl, by decide +kernel⟩
structure YHd (s : List UInt8) where
  i : Nat
  k : Int
  cs : List UInt8
  ok : Bool
  f : Nat → Int
  hi : i ≤ 8
  hk : k = (i : Int)
  hs : (cs, ok) = tkS s (2 + 2 * i)
  hf : ∀ j, j < 16 → f j = if j < 2 * i then tkN s (j + 2) else 0
theorem vc_head (P : Prim) (hP : P = std) (T T1 : CallT) (s : List UInt8) (hs : s.length ≤ maxLen) (htk : TkC T)
    (g0 g1 : Int) (hg0 : g0 = tkN s 0) (hg1 : g1 = tkN s 1) (F : Nat → Int) (hF : ∀ j, j < 16 → F j = tkN s (j + 2)) (rs : List UInt8) (ro : Bool) (hrs : rs = (tkS s 18).1) (hro : ro = ((tkS s 18).2 && decide ((tkS s 18).1.length ≤ 500)))
    (R : S → Prop) (hR : ∀ s0 s' (f : Nat → Int) (cs : List UInt8) (x : Bool), (∀ j, j < 16 → f j = F j) → cs = rs → x = ro → Ent s0 s' → Ret [.cn 2 38, .t 3] [.agg [.int .i64 g0, .int .i64 g1, .str cs, .int .i64 (f 0), .int .i64 (f 1), .int .i64 (f 2), .int .i64 (f 3), .int .i64 (f 4), .int .i64 (f 5), .int .i64 (f 6), .int .i64 (f 7), .int .i64 (f 8), .int .i64 (f 9), .int .i64 (f 10), .int .i64 (f 11), .int .i64 (f 12), .int .i64 (f 13), .int .i64 (f 14), .int .i64 (f 15), .int .i64 (f 0), .int .i64 (f 1), .int .i64 (f 2), .int .i64 (f 3), .int .i64 (f 4), .int .i64 (f 5), .int .i64 (f 6), .int .i64 (f 7), .int .i64 (f 8), .int .i64 (f 9), .int .i64 (f 10), .int .i64 (f 11), .int .i64 (f 12), .int .i64 (f 13), .int .i64 (f 14), .int .i64 (f 15), .nilsl, .bool false, .int .i64 0], .bool x] s' → R s0) : awp P T T1 ac_head (S0 [.str s] Hp.emp) R (fun _ _ => False) R := by
  have hnl : ∀ i : Nat, i < 8 → P.leP 0 (i : Int) ∧ P.ltP (i : Int) 8 := fun i hi => ⟨le0 hP (by omega), ltI hP (by omega)⟩
  have hN : ∀ i : Nat, P.nat (i : Int) = i := fun i => by subst hP; rfl
  cbv
  intro β1
  cbv
  intro β2
  cbv
  intro β4
  cbv
  repeat' (first
    | (refine And.intro (by first | assumption | decide) ?_; try cbv)
    | (intro β2; try cbv))
  refine htk _ _ _ _ s true _ _ hs rfl rfl rfl fun s1 ok1 v1 h1 => ?_
  obtain ⟨h1a, h1b⟩ := h1
  have e1 : (s1, ok1) = tkS s 1 := h1a
  have l1 : s1.length ≤ maxLen := by have := tkS_len s 1; rw [← e1] at this; exact Nat.le_trans this hs
  cbv
  refine htk _ _ _ _ s1 ok1 _ _ l1 rfl rfl rfl fun s2 ok2 v2 h2 => ?_
  obtain ⟨h2a, h2b⟩ := h2
  have e2 : (s2, ok2) = tkS s 2 := by rw [h2a, e1]; rfl
  have v1e : g0 = v1 := by rw [h1b, hg0]; rfl
  have v2e : g1 = v2 := by rw [h2b, hg1, e1]; rfl
  subst v1e v2e
  clear h1a h1b h2a h2b
  cbv
  intro β5
  cbv
  repeat' (first
    | (refine And.intro (by first | assumption | decide) ?_; try cbv)
    | (intro β2; try cbv))
  refine ⟨YHd s, fun y => [(1, .ptr 1 (some β1) 1 0 0), (2, .ptr 2 (some β2) 38 0 0), (4, .ptr 4 (some β4) 1 0 0), (5, .ptr 5 (some β5) 38 0 0), (10, .int .i64 y.k)],
    fun y => [(1, ⟨some β1, 9, 1, [[.str y.cs]]⟩), (2, ⟨some β2, 81, 38, [[.int .i64 0, .int .i64 0, .str [], .int .i64 0, .int .i64 0, .int .i64 0, .int .i64 0, .int .i64 0, .int .i64 0, .int .i64 0, .int .i64 0, .int .i64 0, .int .i64 0, .int .i64 0, .int .i64 0, .int .i64 0, .int .i64 0, .int .i64 0, .int .i64 0, .int .i64 0, .int .i64 0, .int .i64 0, .int .i64 0, .int .i64 0, .int .i64 0, .int .i64 0, .int .i64 0, .int .i64 0, .int .i64 0, .int .i64 0, .int .i64 0, .int .i64 0, .int .i64 0, .int .i64 0, .int .i64 0, .nilsl, .bool false, .int .i64 0]]⟩), (4, ⟨some β4, 4, 1, [[.bool y.ok]]⟩), (5, ⟨some β5, 81, 38, [[.int .i64 g0, .int .i64 g1, .str [], .int .i64 (y.f 0), .int .i64 (y.f 1), .int .i64 (y.f 2), .int .i64 (y.f 3), .int .i64 (y.f 4), .int .i64 (y.f 5), .int .i64 (y.f 6), .int .i64 (y.f 7), .int .i64 (y.f 8), .int .i64 (y.f 9), .int .i64 (y.f 10), .int .i64 (y.f 11), .int .i64 (y.f 12), .int .i64 (y.f 13), .int .i64 (y.f 14), .int .i64 (y.f 15), .int .i64 0, .int .i64 0, .int .i64 0, .int .i64 0, .int .i64 0, .int .i64 0, .int .i64 0, .int .i64 0, .int .i64 0, .int .i64 0, .int .i64 0, .int .i64 0, .int .i64 0, .int .i64 0, .int .i64 0, .int .i64 0, .nilsl, .bool false, .int .i64 0]]⟩)], fun y => 8 - y.i,
    ⟨_, Ent.refl _, ⟨0, 0, s2, ok2, fun _ => 0, by omega, rfl, e2, fun j _ => by simp⟩, ⟨rfl, rfl, rfl, rfl, rfl, trivial⟩, ⟨rfl, rfl, rfl, rfl, trivial⟩⟩, ?_⟩
  rintro ⟨i, k, cs, ok, f, hi, hk, hcs, hf⟩
  have lc : cs.length ≤ maxLen := by have := tkS_len s (2 + 2 * i); rw [← hcs] at this; exact Nat.le_trans this hs
  cbv
  refine br_cases (fun g => ?_) (fun g => ?_)
  · have h5 : k < 8 := lt_t hP g
    have hi8 : i < 8 := by ((try simp only [nc] at *); omega)
    have q1 : P.leP 0 k := (by have := (hnl i hi8).1; rw [← hk] at this; exact this)
    have q2 : P.ltP k 8 := (by have := (hnl i hi8).2; rw [← hk] at this; exact this)
    have m3 : P.i64 (P.add k 1) := by rw [add_eq hP]; exact i64I hP (by ((try simp only [nc] at *); omega))
    have e1 : P.add k 1 = ((i + 1 : Nat) : Int) := by rw [add_eq hP, hk]; ((try simp only [nc] at *); omega)
    have hNk : P.nat k = i := by rw [hk]; exact hN i
    cbv
    refine htk _ _ _ _ cs ok _ _ lc rfl rfl rfl fun s3 ok3 v3 h3 => ?_
    obtain ⟨h3a, h3b⟩ := h3
    have e3 : (s3, ok3) = tkS s (3 + 2 * i) := by rw [h3a, hcs, show 3 + 2 * i = (2 + 2 * i) + 1 by omega]; rfl
    have l3 : s3.length ≤ maxLen := by have := tkS_len s (3 + 2 * i); rw [← e3] at this; exact Nat.le_trans this hs
    cbv
    refine htk _ _ _ _ s3 ok3 _ _ l3 rfl rfl rfl fun s4 ok4 v4 h4 => ?_
    obtain ⟨h4a, h4b⟩ := h4
    have e4 : (s4, ok4) = tkS s (2 + 2 * (i + 1)) := by rw [h4a, e3, show 2 + 2 * (i + 1) = (3 + 2 * i) + 1 by omega]; rfl
    have v3e : v3 = tkN s (2 + 2 * i) := by rw [h3b, hcs]; rfl
    have v4e : v4 = tkN s (3 + 2 * i) := by rw [h4b, e3]; rfl
    have fin : ∀ f' : Nat → Int, f' (2 * i) = v3 → f' (2 * i + 1) = v4 → (∀ j, j ≠ 2 * i → j ≠ 2 * i + 1 → f' j = f j) → ∀ j, j < 16 → f' j = if j < 2 * (i + 1) then tkN s (j + 2) else 0 := by
      intro f' a b c j hj
      by_cases j1 : j = 2 * i
      · subst j1; rw [a, if_pos (by omega), v3e]; congr 1; omega
      · by_cases j2 : j = 2 * i + 1
        · subst j2; rw [b, if_pos (by omega), v4e]; congr 1; omega
        · rw [c j j1 j2, hf j hj]
          by_cases j3 : j < 2 * i
          · rw [if_pos j3, if_pos (by omega)]
          · rw [if_neg j3, if_neg (by omega)]
    have hc : i = 0 ∨ i = 1 ∨ i = 2 ∨ i = 3 ∨ i = 4 ∨ i = 5 ∨ i = 6 ∨ i = 7 := by omega
    clear hR hF hg0 hg1 hrs hro h3a h3b h4a h4b e3 l3 v3e v4e h5 g
    cbv
    rcases hc with rfl | rfl | rfl | rfl | rfl | rfl | rfl | rfl
    · refine ⟨q1, q2, 0, hNk, ?_⟩
      cbv
      refine ⟨m3, ?_⟩
      exact ⟨_, Ent.refl _, ⟨0 + 1, _, s4, ok4, fun j => if j = 0 then v3 else if j = 1 then v4 else f j, by decide, e1, e4, fin _ rfl rfl (fun j h1 h2 => (if_neg h1).trans (if_neg h2))⟩, ⟨rfl, rfl, rfl, rfl, rfl, trivial⟩, ⟨rfl, rfl, rfl, rfl, trivial⟩, by show 8 - (0 + 1) < 8 - 0; decide⟩
    · refine ⟨q1, q2, 1, hNk, ?_⟩
      cbv
      refine ⟨m3, ?_⟩
      exact ⟨_, Ent.refl _, ⟨1 + 1, _, s4, ok4, fun j => if j = 2 then v3 else if j = 3 then v4 else f j, by decide, e1, e4, fin _ rfl rfl (fun j h1 h2 => (if_neg h1).trans (if_neg h2))⟩, ⟨rfl, rfl, rfl, rfl, rfl, trivial⟩, ⟨rfl, rfl, rfl, rfl, trivial⟩, by show 8 - (1 + 1) < 8 - 1; decide⟩
    · refine ⟨q1, q2, 2, hNk, ?_⟩
      cbv
      refine ⟨m3, ?_⟩
      exact ⟨_, Ent.refl _, ⟨2 + 1, _, s4, ok4, fun j => if j = 4 then v3 else if j = 5 then v4 else f j, by decide, e1, e4, fin _ rfl rfl (fun j h1 h2 => (if_neg h1).trans (if_neg h2))⟩, ⟨rfl, rfl, rfl, rfl, rfl, trivial⟩, ⟨rfl, rfl, rfl, rfl, trivial⟩, by show 8 - (2 + 1) < 8 - 2; decide⟩
    · refine ⟨q1, q2, 3, hNk, ?_⟩
      cbv
      refine ⟨m3, ?_⟩
      exact ⟨_, Ent.refl _, ⟨3 + 1, _, s4, ok4, fun j => if j = 6 then v3 else if j = 7 then v4 else f j, by decide, e1, e4, fin _ rfl rfl (fun j h1 h2 => (if_neg h1).trans (if_neg h2))⟩, ⟨rfl, rfl, rfl, rfl, rfl, trivial⟩, ⟨rfl, rfl, rfl, rfl, trivial⟩, by show 8 - (3 + 1) < 8 - 3; decide⟩
    · refine ⟨q1, q2, 4, hNk, ?_⟩
      cbv
      refine ⟨m3, ?_⟩
      exact ⟨_, Ent.refl _, ⟨4 + 1, _, s4, ok4, fun j => if j = 8 then v3 else if j = 9 then v4 else f j, by decide, e1, e4, fin _ rfl rfl (fun j h1 h2 => (if_neg h1).trans (if_neg h2))⟩, ⟨rfl, rfl, rfl, rfl, rfl, trivial⟩, ⟨rfl, rfl, rfl, rfl, trivial⟩, by show 8 - (4 + 1) < 8 - 4; decide⟩
    · refine ⟨q1, q2, 5, hNk, ?_⟩
      cbv
      refine ⟨m3, ?_⟩
      exact ⟨_, Ent.refl _, ⟨5 + 1, _, s4, ok4, fun j => if j = 10 then v3 else if j = 11 then v4 else f j, by decide, e1, e4, fin _ rfl rfl (fun j h1 h2 => (if_neg h1).trans (if_neg h2))⟩, ⟨rfl, rfl, rfl, rfl, rfl, trivial⟩, ⟨rfl, rfl, rfl, rfl, trivial⟩, by show 8 - (5 + 1) < 8 - 5; decide⟩
    · refine ⟨q1, q2, 6, hNk, ?_⟩
      cbv
      refine ⟨m3, ?_⟩
      exact ⟨_, Ent.refl _, ⟨6 + 1, _, s4, ok4, fun j => if j = 12 then v3 else if j = 13 then v4 else f j, by decide, e1, e4, fin _ rfl rfl (fun j h1 h2 => (if_neg h1).trans (if_neg h2))⟩, ⟨rfl, rfl, rfl, rfl, rfl, trivial⟩, ⟨rfl, rfl, rfl, rfl, trivial⟩, by show 8 - (6 + 1) < 8 - 6; decide⟩
    · refine ⟨q1, q2, 7, hNk, ?_⟩
      cbv
      refine ⟨m3, ?_⟩
      exact ⟨_, Ent.refl _, ⟨7 + 1, _, s4, ok4, fun j => if j = 14 then v3 else if j = 15 then v4 else f j, by decide, e1, e4, fin _ rfl rfl (fun j h1 h2 => (if_neg h1).trans (if_neg h2))⟩, ⟨rfl, rfl, rfl, rfl, rfl, trivial⟩, ⟨rfl, rfl, rfl, rfl, trivial⟩, by show 8 - (7 + 1) < 8 - 7; decide⟩
  · have h5 : ¬ k < 8 := lt_f hP g
    have hi8 : i = 8 := by ((try simp only [nc] at *); omega)
    subst hi8
    have hcs2 : (cs, ok) = tkS s 18 := hcs
    have r1 : cs = rs := by rw [hrs, ← hcs2]
    have hff : ∀ j, j < 16 → f j = F j := fun j hj => by rw [hf j hj, if_pos (by omega), hF j hj]
    have hle : P.le (P.slen cs) 500 = decide (cs.length ≤ 500) := by rw [slen_eq hP]; subst hP; show decide ((cs.length : Int) ≤ 500) = _; exact decide_eq_decide.2 (by omega)
    have r2 : ok = true → P.le (P.slen cs) 500 = ro := fun h => by rw [hle, hro, ← hcs2, h]; rfl
    have r3 : ok = false → false = ro := fun h => by rw [hro, ← hcs2, h]; rfl
    clear hcs2 hrs hro hF hg0 hg1
    rcases ok with _ | _
    · have r4 := r3 rfl
      cbv
      repeat' (refine Both.mk ?_ ?_)
      all_goals exact hR _ _ f cs _ hff r1 r4 (Ent.refl _) ⟨rfl, rfl, Nat.zero_lt_succ 0, Nat.le_refl 38, rfl⟩
    · have r4 := r2 rfl
      cbv
      repeat' (refine Both.mk ?_ ?_)
      all_goals exact hR _ _ f cs _ hff r1 r4 (Ent.refl _) ⟨rfl, rfl, Nat.zero_lt_succ 0, Nat.le_refl 38, rfl⟩
def headV (s : List UInt8) : V := .agg [.int .i64 (tkN s 0), .int .i64 (tkN s 1), .str (tkS s 18).1, .int .i64 (tkN s (0 + 2)), .int .i64 (tkN s (1 + 2)), .int .i64 (tkN s (2 + 2)), .int .i64 (tkN s (3 + 2)), .int .i64 (tkN s (4 + 2)), .int .i64 (tkN s (5 + 2)), .int .i64 (tkN s (6 + 2)), .int .i64 (tkN s (7 + 2)), .int .i64 (tkN s (8 + 2)), .int .i64 (tkN s (9 + 2)), .int .i64 (tkN s (10 + 2)), .int .i64 (tkN s (11 + 2)), .int .i64 (tkN s (12 + 2)), .int .i64 (tkN s (13 + 2)), .int .i64 (tkN s (14 + 2)), .int .i64 (tkN s (15 + 2)), .int .i64 (tkN s (0 + 2)), .int .i64 (tkN s (1 + 2)), .int .i64 (tkN s (2 + 2)), .int .i64 (tkN s (3 + 2)), .int .i64 (tkN s (4 + 2)), .int .i64 (tkN s (5 + 2)), .int .i64 (tkN s (6 + 2)), .int .i64 (tkN s (7 + 2)), .int .i64 (tkN s (8 + 2)), .int .i64 (tkN s (9 + 2)), .int .i64 (tkN s (10 + 2)), .int .i64 (tkN s (11 + 2)), .int .i64 (tkN s (12 + 2)), .int .i64 (tkN s (13 + 2)), .int .i64 (tkN s (14 + 2)), .int .i64 (tkN s (15 + 2)), .nilsl, .bool false, .int .i64 0]
def V.fz1 : V → Bool
  | .int _ _ => true
  | .str _ => true
  | .bool _ => true
  | .nilsl => true
  | _ => false
theorem fz_all : ∀ {l : List V}, l.all V.fz1 = true → ∀ v ∈ l, Fz v
  | [], _, v, h => by cases h
  | a :: l, h, v, hv => by
    simp only [List.all_cons, Bool.and_eq_true] at h
    rcases List.mem_cons.1 hv with rfl | hv
    · have := h.1
      cases v <;> first | exact .int _ _ | exact .str _ | exact .bool _ | exact .nilsl | (simp [V.fz1] at this)
    · exact fz_all h.2 v hv
theorem headV_fz (s : List UInt8) : Fz (headV s) := .agg _ (fz_all rfl)
def headOk (s : List UInt8) : Bool := (tkS s 18).2 && decide ((tkS s 18).1.length ≤ 500)
theorem sp_head (s : List UInt8) (hs : s.length ≤ maxLen) : Spec Try.prog 69 [.str s] Hp.emp (Is (.tup [headV s, .bool (headOk s)])) :=
  spec_pure dOk ok_head [headV s, .bool (headOk s)] (.tup _ (fun v hv => by
    rcases List.mem_cons.1 hv with rfl | hv
    · exact headV_fz s
    · rw [List.mem_singleton.1 hv]; exact .bool _)) fun R hR => vc_head std rfl _ _ s hs tkC (tkN s 0) (tkN s 1) rfl rfl (fun j => tkN s (j + 2)) (fun _ _ => rfl) (tkS s 18).1 (headOk s) rfl rfl R
    fun s0 s' f cs x hf hcs hx he hr => by
      refine hR s0 s' he ?_
      unfold headV
      rw [hcs, hx, hf 0 (by decide), hf 1 (by decide), hf 2 (by decide), hf 3 (by decide), hf 4 (by decide), hf 5 (by decide), hf 6 (by decide), hf 7 (by decide), hf 8 (by decide), hf 9 (by decide), hf 10 (by decide), hf 11 (by decide), hf 12 (by decide), hf 13 (by decide), hf 14 (by decide), hf 15 (by decide)] at hr
      exact hr
end Go.Proofs.Ytobngncjflogcaa.AM

set_option linter.unusedVariables false
set_option linter.unusedSimpArgs false
namespace Go.Proofs.Ytobngncjflogcaa.AM
open Go Go.RowKit
set_option maxRecDepth 100000
set_option maxHeartbeats 2000000
def revB (s : List UInt8) : Rev := ⟨tkN s 0, tkN s 1, (readF (tkS s 2).1).1⟩
def revOk (s : List UInt8) : Bool := (tkS s 2).2 && (decide ((readF (tkS s 2).1).2 = 0) && decide (oneF (revB s) = 0))
def ac_hrv : AC := .seq (.region false [
    ⟨some 1, none, .box 9 1 (.t 0)⟩,
    ⟨some 2, none, .alloc 45 [(.int .i64 0), (.int .i64 0), (.slice none 0 0)]⟩,
    ⟨some 3, none, .mov (.c (.bool false))⟩])
  (.seq (.region false [
    ⟨some 4, none, .alloc 4 [(.bool false)]⟩,
    ⟨none, none, .store 1 (.t 4) (.c (.bool true))⟩])
  (.seq (.region false [
    ⟨some 8, none, .call 99 [(.t 1), (.t 4)]⟩,
    ⟨some 9, none, .call 99 [(.t 1), (.t 4)]⟩,
    ⟨some 10, none, .build [(.int .i64 0), (.int .i64 0), (.slice none 0 0)] [(0, 1, (.t 8)), (1, 1, (.t 9))]⟩,
    ⟨some 5, none, .alloc 45 [(.int .i64 0), (.int .i64 0), (.slice none 0 0)]⟩,
    ⟨none, none, .store 3 (.t 5) (.t 10)⟩])
  (.seq (.region false [
    ⟨some 12, none, .load1 (.t 1)⟩,
    ⟨some 13, none, .call 100 [(.t 12)]⟩,
    ⟨some 11, none, .mov (.t 13)⟩,
    ⟨some 14, none, .ext 0 (.t 11)⟩,
    ⟨some 15, none, .ext 1 (.t 11)⟩,
    ⟨some 6, none, .mov (.t 14)⟩,
    ⟨some 7, none, .mov (.t 15)⟩])
  (.seq (.region false [
    ⟨some 16, none, .mov (.t 6)⟩,
    ⟨some 17, none, .faddr 2 (.t 5)⟩,
    ⟨none, none, .store 1 (.t 17) (.t 16)⟩])
  (.seq (.region true [
    ⟨some 18, none, .loadn 3 (.t 5)⟩,
    ⟨some 19, none, .load1 (.t 4)⟩,
    ⟨some 20, none, .mov (.t 19)⟩,
    ⟨some 21, some (20, true), .mov (.t 7)⟩,
    ⟨some 22, some (20, true), .bin .eql (.t 21) (.c (.int .i64 0))⟩,
    ⟨some 23, none, .pick (.t 20) (.t 22) (.c (.bool false))⟩,
    ⟨some 24, none, .mov (.t 23)⟩,
    ⟨some 25, some (24, true), .loadn 3 (.t 5)⟩,
    ⟨some 26, some (24, true), .call 90 [(.t 25)]⟩,
    ⟨some 27, some (24, true), .bin .eql (.t 26) (.c (.int .i64 0))⟩,
    ⟨some 28, none, .pick (.t 24) (.t 27) (.c (.bool false))⟩,
    ⟨none, none, .store 3 (.t 2) (.t 18)⟩,
    ⟨some 3, none, .mov (.t 28)⟩])
  (.ret))))))
theorem ok_hrv : FnOk Try.prog 70 Try.f70 ac_hrv [.cn 2 3, .t 3] 1 drawD := ⟨Try.func70, by decide +kernel, by kernel_rfl, by kernel_rfl, by decide +kernel⟩
theorem vc_hrv (P : Prim) (hP : P = std) (T T1 : CallT) (s : List UInt8) (hs : s.length ≤ maxLen) (htk : TkC T) (dF : List UInt8 → List (List V)) (eF : List UInt8 → Int)
    (hread : ∀ s, s.length ≤ maxLen → Ans T 100 [.str s] (.tup [.sl false 3 (dF s), .int .i64 (eF s)])) (oF : Int → Int → List UInt8 → Int) (hone : ∀ w q s, s.length ≤ maxLen → Ans T1 90 [.agg [.int .i64 w, .int .i64 q, .sl false 3 (dF s)]] (.int .i64 (oF w q s)))
    (rw rq : Int) (rd : List (List V)) (ro : Bool) (hrw : rw = tkN s 0) (hrq : rq = tkN s 1) (hrd : rd = dF (tkS s 2).1) (hro : ro = ((tkS s 2).2 && (decide (eF (tkS s 2).1 = 0) && decide (oF rw rq (tkS s 2).1 = 0))))
    (R : S → Prop) (hR : ∀ s0 s' w q d b, w = rw ∧ q = rq ∧ d = rd ∧ b = ro → Ent s0 s' → Ret [.cn 2 3, .t 3] [.agg [.int .i64 w, .int .i64 q, .sl false 3 d], .bool b] s' → R s0) : awp P T T1 ac_hrv (S0 [.str s] Hp.emp) R (fun _ _ => False) R := by
  cbv
  intro β1
  cbv
  intro β2
  cbv
  intro β4
  cbv
  repeat' (first
    | (refine And.intro (by first | assumption | decide) ?_; try cbv)
    | (intro β2; try cbv))
  refine htk _ _ _ _ s true _ _ hs rfl rfl rfl fun s1 ok1 v1 h1 => ?_
  obtain ⟨h1a, h1b⟩ := h1
  have e1 : (s1, ok1) = tkS s 1 := h1a
  have l1 : s1.length ≤ maxLen := by have := tkS_len s 1; rw [← e1] at this; exact Nat.le_trans this hs
  cbv
  refine htk _ _ _ _ s1 ok1 _ _ l1 rfl rfl rfl fun s2 ok2 v2 h2 => ?_
  obtain ⟨h2a, h2b⟩ := h2
  have e2 : (s2, ok2) = tkS s 2 := by rw [h2a, e1]; rfl
  have v1e : rw = v1 := by rw [h1b, hrw]; rfl
  have v2e : rq = v2 := by rw [h2b, hrq, e1]; rfl
  have l2 : s2.length ≤ maxLen := by have := tkS_len s 2; rw [← e2] at this; exact Nat.le_trans this hs
  rw [← e2] at hrd hro
  subst v1e v2e
  have c1 := hread s2 l2
  have c2 := hone rw rq s2 l2
  rw [← hrd] at c1 c2
  clear h1a h1b h2a h2b hread hone e1 l1 e2
  simp only [] at hro
  generalize eF s2 = e at c1 hro
  generalize oF rw rq s2 = q0 at c2 hro
  cbv
  intro β5
  cbv
  repeat' (first
    | (refine And.intro (by first | assumption | decide) ?_; try cbv)
    | (intro β2; try cbv))
  refine c1 _ _ ?_
  cbv
  repeat' (first
    | (refine And.intro (by first | assumption | decide) ?_; try cbv)
    | (intro β2; try cbv))
  rcases ok2 with _ | _
  · cbv
    exact hR _ _ _ _ _ _ ⟨rfl, rfl, rfl, hro.symm⟩ (Ent.refl _) ⟨rfl, rfl, Nat.zero_lt_succ 0, Nat.le_refl 3, rfl⟩
  · cbv
    repeat' (first
      | (refine And.intro (by first | assumption | decide) ?_; try cbv)
      | (intro β2; try cbv))
    refine br_cases (fun g => ?_) (fun g => ?_)
    · have he := eq_t hP g
      cbv
      repeat' (first
        | (refine And.intro (by first | assumption | decide) ?_; try cbv)
        | (intro β2; try cbv))
      refine c2 _ _ ?_
      cbv
      repeat' (first
        | (refine And.intro (by first | assumption | decide) ?_; try cbv)
        | (intro β2; try cbv))
      exact hR _ _ _ _ _ _ ⟨rfl, rfl, rfl, by rw [hro, he]; subst hP; rfl⟩ (Ent.refl _) ⟨rfl, rfl, Nat.zero_lt_succ 0, Nat.le_refl 3, rfl⟩
    · have he := eq_f hP g
      cbv
      repeat' (first
        | (refine And.intro (by first | assumption | decide) ?_; try cbv)
        | (intro β2; try cbv))
      exact hR _ _ _ _ _ _ ⟨rfl, rfl, rfl, by rw [hro, decide_eq_false he]; rfl⟩ (Ent.refl _) ⟨rfl, rfl, Nat.zero_lt_succ 0, Nat.le_refl 3, rfl⟩
theorem checkF_ok2 {d : List Part} (h : checkF d = 0) : PartsOk d := by
  have hml : maxLen = 9223372036854775807 := by decide
  obtain ⟨h1, h2, _⟩ := checkF_all h
  refine ⟨by omega, fun p hp => ?_⟩
  have := okP_bd (h2 p hp)
  exact ⟨by unfold I64; omega, by unfold I64; omega, by omega⟩
theorem readF_ok (s : List UInt8) : PartsOk (readF s).1 := by
  unfold readF
  split
  · exact ⟨Nat.zero_le _, by simp⟩
  · split
    · rename_i h; exact checkF_ok2 h.2
    · exact ⟨Nat.zero_le _, by simp⟩
theorem sp_hrv (s : List UInt8) (hs : s.length ≤ maxLen) : Spec Try.prog 70 [.str s] Hp.emp (Is (.tup [.agg (encRev (revB s)), .bool (revOk s)])) :=
  spec_pure dOk ok_hrv [.agg (encRev (revB s)), .bool (revOk s)] (.tup _ (fun v hv => by
    rcases List.mem_cons.1 hv with rfl | hv
    · exact .agg _ (by intro v hv; simp [encRev] at hv; rcases hv with rfl | rfl | rfl; exact .int _ _; exact .int _ _; exact .sl _ _ (encParts_fz _))
    · rw [List.mem_singleton.1 hv]; exact .bool _)) fun R hR => vc_hrv std rfl _ _ s hs tkC (fun s => (readF s).1.map encPart) (fun s => (readF s).2) (fun s hs => ansSame (sp_cread s hs) rfl rfl) (fun w q s => oneF ⟨w, q, (readF s).1⟩)
      (fun w q s hs => ansP (sp_one ⟨w, q, (readF s).1⟩ (readF_ok s)) (fun h => .cons (.same _) .nil) rfl) (tkN s 0) (tkN s 1) _ (revOk s) rfl rfl rfl rfl R
    fun s0 s' w q d b h he hr => by
      obtain ⟨h1, h2, h3, h4⟩ := h
      refine hR s0 s' he ?_
      rw [h1, h2, h3, h4] at hr
      exact hr
def addTb (tb : Nat → Int) (w : Nat) (q n : Int) : Nat → Int := fun j => if j = 2 * w then q else if j = 2 * w + 1 then n else tb j
def rowL (gn b : Int) (tx : List UInt8) (fs tb : Nat → Int) (rv : V) (wh : Bool) (gd : Int) : List V := [.int .i64 gn, .int .i64 b, .str tx, .int .i64 (fs 0), .int .i64 (fs 1), .int .i64 (fs 2), .int .i64 (fs 3), .int .i64 (fs 4), .int .i64 (fs 5), .int .i64 (fs 6), .int .i64 (fs 7), .int .i64 (fs 8), .int .i64 (fs 9), .int .i64 (fs 10), .int .i64 (fs 11), .int .i64 (fs 12), .int .i64 (fs 13), .int .i64 (fs 14), .int .i64 (fs 15), .int .i64 (tb 0), .int .i64 (tb 1), .int .i64 (tb 2), .int .i64 (tb 3), .int .i64 (tb 4), .int .i64 (tb 5), .int .i64 (tb 6), .int .i64 (tb 7), .int .i64 (tb 8), .int .i64 (tb 9), .int .i64 (tb 10), .int .i64 (tb 11), .int .i64 (tb 12), .int .i64 (tb 13), .int .i64 (tb 14), .int .i64 (tb 15), rv, .bool wh, .int .i64 gd]
def obL (bl : Nat) (r : List V) : Ob := ⟨some bl, 81, 38, [r]⟩
def obV (ba : Option Nat) (rows : List (List V)) : Ob := ⟨ba, 45, 3, rows⟩
def ac_hadd : AC := .seq (.region false [
    ⟨some 3, none, .box 45 3 (.t 1)⟩])
  (.seq (.region true [
    ⟨some 4, none, .mov (.t 0)⟩,
    ⟨some 5, none, .mov (.t 0)⟩,
    ⟨some 6, none, .nilchk (.t 5)⟩,
    ⟨some 7, none, .faddr 35 (.t 6)⟩,
    ⟨some 8, none, .load1 (.t 7)⟩,
    ⟨some 9, none, .loadn 3 (.t 3)⟩,
    ⟨some 10, none, .bslice 45 3 [(.t 9)]⟩,
    ⟨some 11, none, .append 45 3 40 (.t 8) (.t 10)⟩,
    ⟨some 12, none, .nilchk (.t 4)⟩,
    ⟨some 13, none, .faddr 35 (.t 12)⟩,
    ⟨none, none, .store 1 (.t 13) (.t 11)⟩])
  (.region true [
    ⟨some 14, none, .mov (.t 0)⟩,
    ⟨some 15, none, .faddr 0 (.t 3)⟩,
    ⟨some 16, none, .load1 (.t 15)⟩,
    ⟨some 17, none, .faddr 1 (.t 3)⟩,
    ⟨some 18, none, .load1 (.t 17)⟩,
    ⟨some 19, none, .mov (.t 0)⟩,
    ⟨some 20, none, .nilchk (.t 19)⟩,
    ⟨some 21, none, .faddr 1 (.t 20)⟩,
    ⟨some 22, none, .load1 (.t 21)⟩,
    ⟨some 23, none, .mov (.t 0)⟩,
    ⟨some 24, none, .nilchk (.t 23)⟩,
    ⟨some 25, none, .faddr 35 (.t 24)⟩,
    ⟨some 26, none, .load1 (.t 25)⟩,
    ⟨some 27, none, .len false (.t 26)⟩,
    ⟨some 28, none, .bin .add (.t 22) (.t 27)⟩,
    ⟨some 29, none, .build [(.int .i64 0), (.int .i64 0)] [(0, 1, (.t 18)), (1, 1, (.t 28))]⟩,
    ⟨some 30, none, .nilchk (.t 14)⟩,
    ⟨some 31, none, .faddr 19 (.t 30)⟩,
    ⟨some 32, none, .iarr 8 2 (.t 31) (.t 16)⟩,
    ⟨none, none, .store 2 (.t 32) (.t 29)⟩]))
theorem ok_hadd : FnOk Try.prog 62 Try.f62 ac_hadd [] 2 drawD := ⟨Try.func62, by decide +kernel, by kernel_rfl, by kernel_rfl, by decide +kernel⟩
theorem vc_hadd (P : Prim) (hP : P = std) (T T1 : CallT) (bl : Nat) (ba : Option Nat) (gn b gd : Int) (tx : List UInt8) (fs tb : Nat → Int) (wh : Bool) (n : Nat) (rows : List (List V)) (hn : n = rows.length) (hn2 : n ≤ 100) (w : Nat) (hw : w < 8) (wi q : Int) (hwi : wi = (w : Int)) (dr : List (List V)) (hb : 0 ≤ b ∧ b ≤ 2147483647)
    (rows' : List (List V)) (hrows' : rows' = rows ++ [[.int .i64 wi, .int .i64 q, .sl false 3 dr]]) (n' : Nat) (hn' : n' = n + 1) (v : Int) (hv : v = b + (n : Int) + 1)
    (R : S → Prop) (hR : ∀ (s0 s' : S) (ba' : Option Nat) (tb' : Nat → Int) (r2 : List (List V)) (n2 : Nat), (∀ j, tb' j = addTb tb w q v j) → r2 = rows' → n2 = n' → Ent s0 s' → resV s' [] (fun x => oneV x = .tup []) →
      agreeH [(0, ⟨some bl, 81, 38, [[.int .i64 gn, .int .i64 b, .str tx, .int .i64 (fs 0), .int .i64 (fs 1), .int .i64 (fs 2), .int .i64 (fs 3), .int .i64 (fs 4), .int .i64 (fs 5), .int .i64 (fs 6), .int .i64 (fs 7), .int .i64 (fs 8), .int .i64 (fs 9), .int .i64 (fs 10), .int .i64 (fs 11), .int .i64 (fs 12), .int .i64 (fs 13), .int .i64 (fs 14), .int .i64 (fs 15), .int .i64 (tb' 0), .int .i64 (tb' 1), .int .i64 (tb' 2), .int .i64 (tb' 3), .int .i64 (tb' 4), .int .i64 (tb' 5), .int .i64 (tb' 6), .int .i64 (tb' 7), .int .i64 (tb' 8), .int .i64 (tb' 9), .int .i64 (tb' 10), .int .i64 (tb' 11), .int .i64 (tb' 12), .int .i64 (tb' 13), .int .i64 (tb' 14), .int .i64 (tb' 15), .own 1 ba' 3 n2, .bool wh, .int .i64 gd]]⟩), (1, ⟨ba', 45, 3, r2⟩)] s' → R s0) :
    awp P T T1 ac_hadd (S0 [.ptr 0 (some bl) 38 0 0, .agg [.int .i64 wi, .int .i64 q, .sl false 3 dr]] (lookH [(0, ⟨some bl, 81, 38, [[.int .i64 gn, .int .i64 b, .str tx, .int .i64 (fs 0), .int .i64 (fs 1), .int .i64 (fs 2), .int .i64 (fs 3), .int .i64 (fs 4), .int .i64 (fs 5), .int .i64 (fs 6), .int .i64 (fs 7), .int .i64 (fs 8), .int .i64 (fs 9), .int .i64 (fs 10), .int .i64 (fs 11), .int .i64 (fs 12), .int .i64 (fs 13), .int .i64 (fs 14), .int .i64 (fs 15), .int .i64 (tb 0), .int .i64 (tb 1), .int .i64 (tb 2), .int .i64 (tb 3), .int .i64 (tb 4), .int .i64 (tb 5), .int .i64 (tb 6), .int .i64 (tb 7), .int .i64 (tb 8), .int .i64 (tb 9), .int .i64 (tb 10), .int .i64 (tb 11), .int .i64 (tb 12), .int .i64 (tb 13), .int .i64 (tb 14), .int .i64 (tb 15), .own 1 ba 3 n, .bool wh, .int .i64 gd]]⟩), (1, ⟨ba, 45, 3, rows⟩)])) R (fun _ _ => False) R := by
  have f4 : P.neP rows n := neP_of hP _ _ hn.symm
  have f5 : ∀ r, P.bytes (P.add (P.int n) (P.rlen [r])) 40 := by intro r; subst hP; show ((n : Int) + 1) * 40 ≤ _; ((try simp only [nc] at *); omega)
  have f6 : ∀ r, P.neP [r] 1 := by intro r; subst hP; rfl
  have f7 : P.rapp rows [[.int .i64 wi, .int .i64 q, .sl false 3 dr]] = rows' := by rw [hrows']; subst hP; rfl
  have f8 : ∀ r : List V, P.nadd n (P.rlenN [r]) = n' := by intro r; rw [hn']; subst hP; rfl
  have f9 : ∀ r : List V, P.int (P.nadd n (P.rlenN [r])) = (n : Int) + 1 := by intro r; rw [f8, hn', int_eq hP]; ((try simp only [nc] at *); omega)
  have g1 : ∀ r : List V, P.add b (P.int (P.nadd n (P.rlenN [r]))) = v := by intro r; rw [add_eq hP, f9, hv]; omega
  have g2 : ∀ r : List V, P.i64 (P.add b (P.int (P.nadd n (P.rlenN [r])))) := by intro r; rw [g1, hv]; exact i64I hP (by ((try simp only [nc] at *); omega))
  have q1 : P.leP 0 wi := le0 hP (by omega)
  have q2 : P.ltP wi 8 := ltI hP (by omega)
  have hNk : P.nat wi = w := by rw [hwi]; subst hP; rfl
  cbv
  repeat' (first
    | (refine And.intro (by first | assumption | decide | exact f6 _ | exact f5 _ | exact g2 _) ?_; try cbv)
    | (intro β2; try cbv))
  have hc : w = 0 ∨ w = 1 ∨ w = 2 ∨ w = 3 ∨ w = 4 ∨ w = 5 ∨ w = 6 ∨ w = 7 := by omega
  have g3 := g1 [.int .i64 wi, .int .i64 q, .sl false 3 dr]
  have g4 := f8 [.int .i64 wi, .int .i64 q, .sl false 3 dr]
  rcases hc with rfl | rfl | rfl | rfl | rfl | rfl | rfl | rfl
  · refine ⟨0, hNk, ?_⟩
    cbv
    exact hR _ _ _ (fun j => if j = 0 then q else if j = 1 then P.add b (P.int (P.nadd n (P.rlenN [[.int .i64 wi, .int .i64 q, .sl false 3 dr]]))) else tb j) _ _ (fun j => by rw [g3]; rfl) f7 g4 (Ent.refl _) rfl ⟨rfl, rfl, trivial⟩
  · refine ⟨1, hNk, ?_⟩
    cbv
    exact hR _ _ _ (fun j => if j = 2 then q else if j = 3 then P.add b (P.int (P.nadd n (P.rlenN [[.int .i64 wi, .int .i64 q, .sl false 3 dr]]))) else tb j) _ _ (fun j => by rw [g3]; rfl) f7 g4 (Ent.refl _) rfl ⟨rfl, rfl, trivial⟩
  · refine ⟨2, hNk, ?_⟩
    cbv
    exact hR _ _ _ (fun j => if j = 4 then q else if j = 5 then P.add b (P.int (P.nadd n (P.rlenN [[.int .i64 wi, .int .i64 q, .sl false 3 dr]]))) else tb j) _ _ (fun j => by rw [g3]; rfl) f7 g4 (Ent.refl _) rfl ⟨rfl, rfl, trivial⟩
  · refine ⟨3, hNk, ?_⟩
    cbv
    exact hR _ _ _ (fun j => if j = 6 then q else if j = 7 then P.add b (P.int (P.nadd n (P.rlenN [[.int .i64 wi, .int .i64 q, .sl false 3 dr]]))) else tb j) _ _ (fun j => by rw [g3]; rfl) f7 g4 (Ent.refl _) rfl ⟨rfl, rfl, trivial⟩
  · refine ⟨4, hNk, ?_⟩
    cbv
    exact hR _ _ _ (fun j => if j = 8 then q else if j = 9 then P.add b (P.int (P.nadd n (P.rlenN [[.int .i64 wi, .int .i64 q, .sl false 3 dr]]))) else tb j) _ _ (fun j => by rw [g3]; rfl) f7 g4 (Ent.refl _) rfl ⟨rfl, rfl, trivial⟩
  · refine ⟨5, hNk, ?_⟩
    cbv
    exact hR _ _ _ (fun j => if j = 10 then q else if j = 11 then P.add b (P.int (P.nadd n (P.rlenN [[.int .i64 wi, .int .i64 q, .sl false 3 dr]]))) else tb j) _ _ (fun j => by rw [g3]; rfl) f7 g4 (Ent.refl _) rfl ⟨rfl, rfl, trivial⟩
  · refine ⟨6, hNk, ?_⟩
    cbv
    exact hR _ _ _ (fun j => if j = 12 then q else if j = 13 then P.add b (P.int (P.nadd n (P.rlenN [[.int .i64 wi, .int .i64 q, .sl false 3 dr]]))) else tb j) _ _ (fun j => by rw [g3]; rfl) f7 g4 (Ent.refl _) rfl ⟨rfl, rfl, trivial⟩
  · refine ⟨7, hNk, ?_⟩
    cbv
    exact hR _ _ _ (fun j => if j = 14 then q else if j = 15 then P.add b (P.int (P.nadd n (P.rlenN [[.int .i64 wi, .int .i64 q, .sl false 3 dr]]))) else tb j) _ _ (fun j => by rw [g3]; rfl) f7 g4 (Ent.refl _) rfl ⟨rfl, rfl, trivial⟩
end Go.Proofs.Ytobngncjflogcaa.AM

set_option linter.unusedVariables false
set_option linter.unusedSimpArgs false
namespace Go.Proofs.Ytobngncjflogcaa.AM
open Go Go.RowKit
set_option maxRecDepth 100000
set_option maxHeartbeats 2000000
def V.fz2 : V → Bool
  | .own _ _ _ _ => true
  | v => V.fz1 v
theorem fz_all2 : ∀ {l : List V}, l.all V.fz2 = true → ∀ v ∈ l, Fz v
  | [], _, v, h => by cases h
  | a :: l, h, v, hv => by
    simp only [List.all_cons, Bool.and_eq_true] at h
    rcases List.mem_cons.1 hv with rfl | hv
    · have := h.1
      cases v <;> first | exact .int _ _ | exact .str _ | exact .bool _ | exact .nilsl | exact .own _ _ _ _ | (simp [V.fz2, V.fz1] at this)
    · exact fz_all2 h.2 v hv
theorem rowL_fz {gn b : Int} {tx : List UInt8} {fs tb : Nat → Int} {k n : Nat} {ba : Option Nat} {wh : Bool} {gd : Int} (bl : Nat) : (obL bl (rowL gn b tx fs tb (.own k ba 3 n) wh gd)).Fz := by
  intro r hr
  simp only [obL, List.mem_singleton] at hr
  subst hr
  refine fz_all2 ?_
  rfl
theorem obL_ren {gn b : Int} {tx : List UInt8} {fs tb : Nat → Int} {k n : Nat} {ba : Option Nat} {wh : Bool} {gd : Int} (bl : Nat) (f : Nat → Nat) : (obL bl (rowL gn b tx fs tb (.own k ba 3 n) wh gd)).ren f = obL bl (rowL gn b tx fs tb (.own (f k) ba 3 n) wh gd) := rfl
theorem encRevs_fz (l : List Rev) : ∀ r ∈ l.map encRev, ∀ v ∈ r, Fz v := by
  intro r hr v hv
  obtain ⟨x, _, rfl⟩ := List.mem_map.1 hr
  simp [encRev] at hv
  rcases hv with rfl | rfl | rfl
  · exact .int _ _
  · exact .int _ _
  · exact .sl _ _ (encParts_fz _)
theorem encRevs_sz (l : List Rev) : ∀ r ∈ l.map encRev, r.length = 3 := by
  intro r hr; obtain ⟨p, _, rfl⟩ := List.mem_map.1 hr; rfl
theorem obV_ren (ba : Option Nat) (l : List Rev) (f : Nat → Nat) : (obV ba (l.map encRev)).ren f = obV ba (l.map encRev) := by
  simp [Ob.ren, obV, List.map_map, Function.comp_def, encRev, encParts, V.rl]
theorem sp_hadd (bl : Nat) (ba : Option Nat) (gn b gd : Int) (tx : List UInt8) (fs tb : Nat → Int) (wh : Bool) (l : List Rev) (hl : l.length ≤ 100) (r : Rev) (hw : 0 ≤ r.who ∧ r.who ≤ 7) (hb : 0 ≤ b ∧ b ≤ 2147483647) :
    Spec Try.prog 62 [.ptr 0 (some bl) 38 0 0, .agg (encRev r)] (lookH [(0, obL bl (rowL gn b tx fs tb (.own 1 ba 3 l.length) wh gd)), (1, obV ba (l.map encRev))])
    (fun v h' => ∃ L', (v = .tup [] ∧ ∃ ba', L' = [(0, obL bl (rowL gn b tx fs (addTb tb r.who.toNat r.seq (b + (l.length : Int) + 1)) (.own 1 ba' 3 (l.length + 1)) wh gd)), (1, obV ba' ((l ++ [r]).map encRev))]) ∧ h' = lookH L') :=
  spec_meth dOk ok_hadd (L := [(0, obL bl (rowL gn b tx fs tb (.own 1 ba 3 l.length) wh gd)), (1, obV ba (l.map encRev))])
    (fun v L' => v = .tup [] ∧ ∃ ba', L' = [(0, obL bl (rowL gn b tx fs (addTb tb r.who.toNat r.seq (b + (l.length : Int) + 1)) (.own 1 ba' 3 (l.length + 1)) wh gd)), (1, obV ba' ((l ++ [r]).map encRev))]) fun R hR =>
    vc_hadd std rfl _ _ bl ba gn b gd tx fs tb wh l.length (l.map encRev) (by simp) hl r.who.toNat (by omega) r.who r.seq (by omega) (r.delta.map encPart) hb ((l ++ [r]).map encRev) (by simp [encRev, encParts]) (l.length + 1) rfl (b + (l.length : Int) + 1) rfl R
      fun s0 s' ba' tb' r2 n2 htb hr2 hn2 he hr ha => by
        rw [htb 0, htb 1, htb 2, htb 3, htb 4, htb 5, htb 6, htb 7, htb 8, htb 9, htb 10, htb 11, htb 12, htb 13, htb 14, htb 15, hr2, hn2] at ha
        refine hR s0 s' (.tup []) [(0, obL bl (rowL gn b tx fs (addTb tb r.who.toNat r.seq (b + (l.length : Int) + 1)) (.own 1 ba' 3 (l.length + 1)) wh gd)), (1, obV ba' ((l ++ [r]).map encRev))] he hr ha (.tup _ (fun v hv => by cases hv)) (fun p hp => ?_) ⟨rfl, ba', rfl⟩
        rcases List.mem_cons.1 hp with rfl | hp
        · exact rowL_fz bl
        · rw [List.mem_singleton.1 hp]; exact encRevs_fz _
def AddC (T : CallT) : Prop := ∀ (k ka bl : Nat) (ba : Option Nat) (gn b gd : Int) (tx : List UInt8) (fs tb : Nat → Int) (wh : Bool) (n : Nat) (rows : List (List V)) (l : List Rev) (w q : Int) (dr : List (List V)) (r : Rev) (h : Hp) (K : V → Hp → Prop), rows = l.map encRev → n = l.length → l.length ≤ 100 → (w = r.who ∧ q = r.seq ∧ dr = r.delta.map encPart) → 0 ≤ r.who ∧ r.who ≤ 7 → 0 ≤ b ∧ b ≤ 2147483647 → Nat.beq k ka = false →
  h k = some ⟨some bl, 81, 38, [[.int .i64 gn, .int .i64 b, .str tx, .int .i64 (fs 0), .int .i64 (fs 1), .int .i64 (fs 2), .int .i64 (fs 3), .int .i64 (fs 4), .int .i64 (fs 5), .int .i64 (fs 6), .int .i64 (fs 7), .int .i64 (fs 8), .int .i64 (fs 9), .int .i64 (fs 10), .int .i64 (fs 11), .int .i64 (fs 12), .int .i64 (fs 13), .int .i64 (fs 14), .int .i64 (fs 15), .int .i64 (tb 0), .int .i64 (tb 1), .int .i64 (tb 2), .int .i64 (tb 3), .int .i64 (tb 4), .int .i64 (tb 5), .int .i64 (tb 6), .int .i64 (tb 7), .int .i64 (tb 8), .int .i64 (tb 9), .int .i64 (tb 10), .int .i64 (tb 11), .int .i64 (tb 12), .int .i64 (tb 13), .int .i64 (tb 14), .int .i64 (tb 15), .own ka ba 3 n, .bool wh, .int .i64 gd]]⟩ → h ka = some ⟨ba, 45, 3, rows⟩ →
  (∀ (ba' : Option Nat) (tb' : Nat → Int) (n' : Nat) (rows' : List (List V)), tb' = addTb tb r.who.toNat r.seq (b + (l.length : Int) + 1) → n' = l.length + 1 → rows' = (l ++ [r]).map encRev → K (.tup []) (Hp.put (Hp.put h k ⟨some bl, 81, 38, [[.int .i64 gn, .int .i64 b, .str tx, .int .i64 (fs 0), .int .i64 (fs 1), .int .i64 (fs 2), .int .i64 (fs 3), .int .i64 (fs 4), .int .i64 (fs 5), .int .i64 (fs 6), .int .i64 (fs 7), .int .i64 (fs 8), .int .i64 (fs 9), .int .i64 (fs 10), .int .i64 (fs 11), .int .i64 (fs 12), .int .i64 (fs 13), .int .i64 (fs 14), .int .i64 (fs 15), .int .i64 (tb' 0), .int .i64 (tb' 1), .int .i64 (tb' 2), .int .i64 (tb' 3), .int .i64 (tb' 4), .int .i64 (tb' 5), .int .i64 (tb' 6), .int .i64 (tb' 7), .int .i64 (tb' 8), .int .i64 (tb' 9), .int .i64 (tb' 10), .int .i64 (tb' 11), .int .i64 (tb' 12), .int .i64 (tb' 13), .int .i64 (tb' 14), .int .i64 (tb' 15), .own ka ba' 3 n', .bool wh, .int .i64 gd]]⟩) ka ⟨ba', 45, 3, rows'⟩)) →
  T 62 [.ptr k (some bl) 38 0 0, .agg [.int .i64 w, .int .i64 q, .sl false 3 dr]] h K
theorem addC : AddC (CallE Try.prog) := by
  rintro k ka bl ba gn b gd tx fs tb wh n rows l w q dr r h K rfl rfl hl ⟨rfl, rfl, rfl⟩ hw hb hne hk hka hK
  have hne' : k ≠ ka := by intro e; subst e; rw [Nat.beq_refl] at hne; cases hne
  have hne2 : ¬ ka = k := fun e => hne' e.symm
  have hbk : bal [(0, k), (1, ka)] ka = 1 := by simp [bal, hne2, hne']
  have hlk : lab [(0, k), (1, ka)] 1 = ka := by simp [lab]
  refine callG (m := [(0, k), (1, ka)]) (sp_hadd bl ba gn b gd tx fs tb wh l hl r hw hb) (.cons ?_ (.cons ?_ .nil)) (fun j q hj => ?_) (fun p hp => ?_) ?_
  · have := Arg.same (h := h) (m := [(0, k), (1, ka)]) (.ptr k (some bl) 38 0 0)
    simpa [V.ren, V.rl, bal] using this
  · exact Arg.same (.agg (encRev r))
  · simp only [lookH] at hj
    split at hj
    · rename_i h0; exact ⟨(0, k), by simp, h0.symm⟩
    · split at hj
      · rename_i h0; exact ⟨(1, ka), by simp, h0.symm⟩
      · cases hj
  · simp only [List.mem_cons, List.not_mem_nil, or_false] at hp
    rcases hp with rfl | rfl
    · refine ⟨by simp [lab], by simp [bal], fun x hx => ?_⟩
      simp only [lookH, ↓reduceIte, Option.some.injEq] at hx
      subst hx
      refine ⟨?_, rowL_fz bl⟩
      rw [hk, Option.map_some]
      have := obL_ren (gn := gn) (b := b) (tx := tx) (fs := fs) (tb := tb) (k := ka) (n := l.length) (ba := ba) (wh := wh) (gd := gd) bl (bal [(0, k), (1, ka)])
      rw [hbk] at this
      exact congrArg some this
    · refine ⟨by simp [lab], hbk, fun x hx => ?_⟩
      simp [lookH] at hx
      subst hx
      refine ⟨?_, encRevs_fz _⟩
      rw [hka, Option.map_some]
      exact congrArg some (obV_ren ba l _)
  · rintro v L' ⟨rfl, ba', rfl⟩
    have e : h.upd [(0, k), (1, ka)] (lookH [(0, obL bl (rowL gn b tx fs (addTb tb r.who.toNat r.seq (b + (l.length : Int) + 1)) (.own 1 ba' 3 (l.length + 1)) wh gd)), (1, obV ba' ((l ++ [r]).map encRev))]) =
        Hp.put (Hp.put h k (obL bl (rowL gn b tx fs (addTb tb r.who.toNat r.seq (b + (l.length : Int) + 1)) (.own ka ba' 3 (l.length + 1)) wh gd))) ka (obV ba' ((l ++ [r]).map encRev)) := by
      funext i
      simp only [Hp.upd, Hp.put, List.any_cons, List.any_nil, Bool.or_false, Bool.or_eq_true, decide_eq_true_eq]
      by_cases h1 : ka = i
      · subst h1
        rw [if_pos (.inr rfl), if_pos rfl, hbk]
        show (some (obV ba' ((l ++ [r]).map encRev))).map (Ob.ren (lab [(0, k), (1, ka)])) = _
        rw [Option.map_some, obV_ren]
      · by_cases h2 : k = i
        · subst h2
          rw [if_pos (.inl rfl), if_neg (fun e => h1 e.symm), if_pos rfl]
          have hb0 : bal [(0, k), (1, ka)] k = 0 := by simp [bal]
          rw [hb0]
          show (some (obL bl (rowL gn b tx fs (addTb tb r.who.toNat r.seq (b + (l.length : Int) + 1)) (.own 1 ba' 3 (l.length + 1)) wh gd))).map (Ob.ren (lab [(0, k), (1, ka)])) = _
          rw [Option.map_some, obL_ren, hlk]
        · rw [if_neg (by rintro (h | h); exact h2 h; exact h1 h), if_neg (fun e => h1 e.symm), if_neg (fun e => h2 e.symm)]
    rw [e]
    exact hK ba' _ _ _ rfl rfl rfl
end Go.Proofs.Ytobngncjflogcaa.AM
