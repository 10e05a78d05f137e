/-
  apply.Do on the plain machine, and the law ApplyDoes.
-/
import Derived.Test.YtobngncjflogcaaMDo
import Derived.Test.YtobngncjflogcaaMPdo
set_option linter.unusedVariables false
set_option linter.unusedSimpArgs false
namespace Go.Proofs.Ytobngncjflogcaa.AM
open Go Go.RowKit
set_option maxRecDepth 100000
set_option maxHeartbeats 2000000
/-- a contract of the plain machine as one of the walks' kind -/
theorem calls_of_spec {f : Nat} {args : List V} {v : V} {us : Array Value} {W : World} (hs : Spec Try.prog f args Hp.emp (Is v)) (hl : us.size = args.length)
    (hr : ∀ (i : Nat) (v : V) (u : Value), args[i]? = some v → us[i]? = some u → Rel (OldB W) (fun _ => False) W v u) :
    Calls Try.prog f us W fun e w' => (∃ u F', e = .returned u ∧ Rel F' (fun _ => False) w' v u) ∧ Below W.heap.size W w' := by
  let C : Ctx := ⟨W, OldB W, fun _ => False, fun _ => False⟩
  have hC : C.Ok := ⟨fun b hb => ⟨hb, fun h => h⟩, fun b hb => hb.elim, fun b hb => hb.elim⟩
  refine (hs.run C us hC hl hr ⟨fun k o hk => by simp [Hp.emp] at hk, fun k k' o o' b hk => by simp [Hp.emp] at hk, fun k o b hk => by simp [Hp.emp] at hk, fun b hb => .inl hb, fun b hb => hb, fun b hb => hb, Ev.refl _ _⟩).mono ?_
  rintro e w' ⟨u, v', h', F', rfl, hv, hs2, rfl, rfl⟩
  have hev : Ev (fun _ => False) W w' := hs2.ev
  exact ⟨⟨u, F', rfl, hv⟩, hev.os, hev.tape, hev.output, hev.size, fun k hk => hev.same k hk (fun h => h)⟩
theorem rel_parts {F B : Nat → Prop} {w : World} {t : Bool} {d : List Part} {u : Value} (h : Rel F B w (.sl t 3 (d.map encPart)) u) (hlt : ∀ b, F b ∨ B b → b < w.heap.size) : ∃ oa c, u = .slice oa d.length c ∧ Bld.PartsAt w oa d := by
  generalize hrows : d.map encPart = rows at h
  cases h with
  | slnil =>
    have : d = [] := by simpa using hrows
    subst this
    exact ⟨none, 0, rfl, fun i p hp => by simp at hp⟩
  | slemp _ _ a cap =>
    have : d = [] := by simpa using hrows
    subst this
    exact ⟨some a, cap, rfl, fun i p hp => by simp at hp⟩
  | sl _ _ _ b off cap us hF hcap hsz hc hr =>
    subst hrows
    refine ⟨some ⟨b, off, none⟩, cap, by rw [List.length_map], fun i p hp => ⟨b, off, rfl, hlt b (by rcases hF with h | ⟨_, h⟩ <;> simp [h]), ?_, ?_, ?_⟩⟩
    all_goals have hi : (d.map encPart)[i]? = some (encPart p) := by rw [List.getElem?_map, hp]; rfl
    · have h1 := (hc i 0 _ (.int .i64 p.kind) hi rfl).1
      have h2 := hr i 0 _ (.int .i64 p.kind) hi rfl
      generalize us i 0 = x at h1 h2
      cases h2
      exact h1
    · have h1 := (hc i 1 _ (.int .i64 p.n) hi rfl).1
      have h2 := hr i 1 _ (.int .i64 p.n) hi rfl
      generalize us i 1 = x at h1 h2
      cases h2
      exact h1
    · have h1 := (hc i 2 _ (.str p.text) hi rfl).1
      have h2 := hr i 2 _ (.str p.text) hi rfl
      generalize us i 2 = x at h1 h2
      cases h2
      exact h1
def doF (d : List Part) (s : List UInt8) : List UInt8 × Int := if fitsF d s.length = 0 then (doT (toks d) s, 0) else ([], fitsF d s.length)
theorem sp_do (d : List Part) (hd : d.length ≤ maxLen) (s : List UInt8) : Spec Try.prog 16 [.sl true 3 (d.map encPart), .str s] Hp.emp (Is (.tup [.str (doF d s).1, .int .i64 (doF d s).2])) := by
  refine ⟨⟨Try.f16, Try.func16, by decide +kernel, Option.isSome_iff_exists.1 (by decide +kernel)⟩, fun C us hC hl hargs _ => ?_⟩
  have main : Calls Try.prog 16 us C.w0 fun e w' => e = .returned (.tuple #[.string ⟨(doF d s).1.toArray⟩, .int .i64 (doF d s).2]) ∧ Below C.w0.heap.size C.w0 w' := by
    match us, hl, hargs with
    | ⟨[x, y]⟩, _, hargs =>
      have a0 := hargs 0 _ x rfl rfl
      have a1 := hargs 1 _ y rfl rfl
      have a0' := a0.mono (F' := OldB C.w0) (B' := fun _ => False) (fun b hb => (hC.F0 b hb).1) (fun b hb => .inl (hC.B b hb).1)
      obtain ⟨oa, c, rfl, hat⟩ := rel_parts a0 fun b hb => hb.elim (fun h => (hC.F0 b h).1) fun h => (hC.B b h).1
      cases a1
      have hsz : (⟨s.toArray⟩ : ByteArray).size = s.length := by show s.toArray.size = _; simp
      have hfits : Calls Try.prog 54 #[.slice oa d.length c, .int .i64 ((⟨s.toArray⟩ : ByteArray).size : Int)] C.w0 fun e w' => e = .returned (.int .i64 (fitsF d s.length)) ∧ Below C.w0.heap.size C.w0 w' := by
        rw [hsz]
        refine (calls_of_spec (sp_fits d hd s.length) rfl (fun i v u hv hu => ?_)).mono ?_
        · match i with
          | 0 => simp at hv hu; subst hv hu; exact a0'
          | 1 => simp at hv hu; subst hv hu; exact .int _ _
          | i + 2 => simp at hv
        · rintro e w' ⟨⟨u, F', rfl, hu⟩, hb⟩
          cases hu
          exact ⟨rfl, hb⟩
      unfold doF
      by_cases hf : fitsF d s.length = 0
      · rw [if_pos hf]
        rw [hf] at hfits
        obtain ⟨hz, hin⟩ := fitsF_ok hf
        obtain ⟨h1, h2, h3, h4, _, _⟩ := checkF_all hz
        exact Bld.do_ok d c ⟨s.toArray⟩ oa C.w0 h1 hat h2 (by rw [hsz]; exact hin.symm) (by rw [hsz]; omega) h4 hfits
      · rw [if_neg hf]
        exact Bld.do_bad d.length c ⟨s.toArray⟩ oa C.w0 _ hf hfits
  refine main.mono ?_
  rintro e w' ⟨rfl, hb⟩
  refine ⟨_, .tup [.str (doF d s).1, .int .i64 (doF d s).2], Hp.emp, C.F0, rfl, .tup _ _ rfl (fun i v u hv hu => ?_), ⟨fun k o hk => by simp [Hp.emp] at hk, fun k k' o o' b hk => by simp [Hp.emp] at hk, fun k o b hk => by simp [Hp.emp] at hk, fun b hb => .inl hb, fun b hb => hb, fun b hb' => Nat.lt_of_lt_of_le (hC.F0 b hb').1 hb.size, ?_⟩, rfl, rfl⟩
  · match i with
    | 0 => simp at hv hu; subst hv hu; exact .str _
    | 1 => simp at hv hu; subst hv hu; exact .int _ _
    | i + 2 => simp at hv
  · exact ⟨hb.os, hb.tape, hb.output, hb.size, fun b hlt _ => hb.block b hlt, fun b c e fr hc => ⟨c, fr, by rw [hb.block b (Array.getElem?_eq_some_iff.1 hc).1]; exact hc, rfl⟩⟩

/-! the document's Do -/
def ac_rdo : AC := .seq (.region false [
    ⟨some 4, none, .mov (.c (.string ⟨#[]⟩))⟩,
    ⟨some 5, none, .mov (.c (.int .i64 0))⟩])
  (.seq (.seq (.region false [
    ⟨some 7, none, .mov (.t 0)⟩,
    ⟨some 8, none, .mov (.t 1)⟩,
    ⟨some 9, none, .len true (.t 8)⟩,
    ⟨some 10, none, .call 106 [(.t 7), (.t 9)]⟩,
    ⟨some 6, none, .mov (.t 10)⟩])
  (.seq (.region false [
    ⟨some 11, none, .mov (.t 6)⟩,
    ⟨some 12, none, .bin .neq (.t 11) (.c (.int .i64 0))⟩])
  (.cond (.t 12)
    (.seq (.region false [
      ⟨some 13, none, .mov (.t 6)⟩,
      ⟨some 4, none, .mov (.c (.string ⟨#[]⟩))⟩,
      ⟨some 5, none, .mov (.t 13)⟩])
    (.ret))
    (.skip))))
  (.seq (.region false [
    ⟨some 14, none, .mov (.t 0)⟩,
    ⟨some 15, none, .call 107 [(.t 14)]⟩,
    ⟨some 16, none, .mov (.t 1)⟩,
    ⟨some 17, none, .call 108 [(.t 15), (.t 16)]⟩,
    ⟨some 4, none, .mov (.t 17)⟩,
    ⟨some 5, none, .mov (.c (.int .i64 0))⟩])
  (.ret)))
theorem ok_rdo : FnOk Try.prog 77 Try.f77 ac_rdo [.t 4, .t 5] 2 drawD := ⟨Try.func77, by decide +kernel, by kernel_rfl, by kernel_rfl, by decide +kernel⟩
theorem vc_rdo (P : Prim) (hP : P = std) (T T1 : CallT) (rows : List (List V)) (s r : List UInt8) (c e : Int) (pv : V)
    (hc1 : Ans T 106 [.sl true 3 rows, .int .i64 (P.slen s)] (.int .i64 c)) (ho : c = 0 → Ans T 107 [.sl true 3 rows] pv) (hd : c = 0 → Ans T 108 [pv, .str s] (.str r))
    (hr : (c ≠ 0 → r = [] ∧ c = e) ∧ (c = 0 → 0 = e))
    (R : S → Prop) (hR : ∀ s s' r2 e2, r2 = r ∧ e2 = e → Ent s s' → Ret [.t 4, .t 5] [.str r2, .int .i64 e2] s' → R s) : awp P T T1 ac_rdo (S0 [.sl true 3 rows, .str s] Hp.emp) R (fun _ _ => False) R := by
  cbv
  refine hc1 _ _ ?_
  cbv
  refine br_cases (fun h => ?_) (fun h => ?_)
  · have hc := ne_t hP h
    cbv
    exact hR _ _ _ _ ⟨(hr.1 hc).1.symm, (hr.1 hc).2⟩ (Ent.refl _) rfl
  · have hc := ne_f hP h
    have f1 := ho hc
    have f2 := hd hc
    clear ho hd
    cbv
    refine f1 _ _ ?_
    cbv
    refine f2 _ _ ?_
    cbv
    exact hR _ _ _ _ ⟨rfl, hr.2 hc⟩ (Ent.refl _) rfl
theorem sp_rdo (d : List Part) (hd : d.length ≤ maxLen) (s : List UInt8) : Spec Try.prog 77 [.sl true 3 (d.map encPart), .str s] Hp.emp (Is (.tup [.str (doF d s).1, .int .i64 (doF d s).2])) := by
  refine spec_pure dOk ok_rdo [.str (doF d s).1, .int .i64 (doF d s).2] (.tup _ (by simp; exact ⟨.str _, .int _ _⟩)) fun R hR => vc_rdo std rfl _ _ _ s (doF d s).1 (fitsF d s.length) (doF d s).2 (encPl (puts (toks d)) (kepts (toks d)))
    (ansW (sp_rfits d hd s.length) (fun h => .cons (.same _) (.cons (.same _) .nil)) rfl) (fun hz => ?_) (fun hz => ?_) ⟨fun h => by unfold doF; rw [if_neg h]; exact ⟨rfl, rfl⟩, fun h => by unfold doF; rw [if_pos h]⟩ R fun s s' r2 e2 h he hr => by obtain ⟨rfl, rfl⟩ := h; exact hR s s' he hr
  all_goals
    obtain ⟨z, hin⟩ := fitsF_ok hz
    obtain ⟨h1, h2, h3, h4, _, _⟩ := checkF_all z
    have e1 := inT_toks d h2
  · exact ansW (sp_rof d h1 (ok_bd h2)) (fun h => .cons (.same _) .nil) rfl
  · have : (doF d s).1 = doT (toks d) s := by unfold doF; rw [if_pos hz]
    rw [this]
    exact ansW (sp_pdo (toks d) (fits_len z) s (by omega)) (fun h => .cons (arg_pl h _ _) (.cons (.same _) .nil)) rfl

end Go.Proofs.Ytobngncjflogcaa.AM
