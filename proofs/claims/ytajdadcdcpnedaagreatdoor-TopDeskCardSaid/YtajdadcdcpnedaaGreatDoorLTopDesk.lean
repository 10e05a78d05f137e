/-
  Whatever two texts are handed in: what a desk answers is what the calls say, behind a crash too. Condition: the package variables that the row lists hold what the program's text lays in them (the card ties that to the text).
-/
import Derived.Lay
import Derived.Shelf.Vars
import Derived.Handed
import Derived.SevenTiedAt
import Derived.Stop.LaidErr
import Derived.Test.YtajdadcdcpnedaaGreatDoorCards
import Derived.Test.YtajdadcdcpnedaaGreatDoorTie
import Derived.Test.YtajdadcdcpnedaaGreatDoorTopDesk1
import Derived.Test.YtajdadcdcpnedaaGreatDoorTopDesk4
import Derived.Test.YtajdadcdcpnedaaGreatDoorTopDesk19
set_option linter.unusedVariables false
set_option linter.unusedSimpArgs false
namespace Go.Proofs.YtajdadcdcpnedaaGreatDoor
open Go.ChangeShapes Go.WideShapes Go.ChangeAt Go.RowKit
open AM
theorem sF{H:Type}{enc:TypeId×Value->H}{a:Assume}{C:Checked}{os:Os}{f:FuncId}{fn:Func}{s:ChangeSpec}{conds:List PathCond}{apart fresh handsOn again:Bool}{X:World->Array Value->Prop}
  (r:∀(w w':World)(args:Array Value),w.heap=w'.heap->X w args->X w' args)
  (own:ownKnob C.prog.godebug=none)(started:os.Started)(c:C.prog.inits.idxOf? f=none)(m:C.prog.funcs[f]? =some fn)
  (witness:∃(w:World)(tape:Tape)(i:Input),w.os=os/\(w.forCall tape i).Shaped C.prog/\i.vars=[]/\Input.okWide C.prog (w.forCall tape i) .any w.heap.size f i/\
   ((s.pre enc C.prog fn conds apart (w.forCall tape i).memory i.args/\X (w.forCall tape i).memory i.args)/\sizedMet enc C.prog fn (OpenSpec.ofChange s) apart (w.forCall tape i).memory i.args)/\a.holds C.prog (lone (Frame.enter C.prog f i.args .normal) [] (w.forCall tape i)))
  (b:∀(W:World)(base:Nat)(args:Array Value)(k gs:List (DataW H))(before:List MemPlace),
   (∀(j:Nat) t v,fn.params[j]? =some t->args[j]? =some v->Value.okWide C.prog W .any base t v)->
   DataW.Whole enc C.prog fn.params.toList s.vars apart W args.toList k gs before->
   (DataW.weightsEach C.prog (fn.params.toList++s.plain.varTypes C.prog) (k++gs)).all (·<=reachBytes)=true->X W args->W.ShapedOpen C.prog->
   Calls C.prog f args W λe q=>∃v,e=.returned v/\s.post enc C.prog fn apart fresh handsOn again W args v q):
  ReturnsInHanded a C os f .any (λw args=>(s.pre enc C.prog fn conds apart w args/\X w args)/\sizedMet enc C.prog fn (OpenSpec.ofChange s) apart w args) (s.post enc C.prog fn apart fresh handsOn again):=by
 refine returnsInHanded_of_calls own started c witness ?_;intro w tape i _ n _ hZ d l;obtain⟨_,_,_,o,g,_,_,_,_,h⟩:=hZ;have e:o=fn:=bN (g.symm.trans m);subst e;obtain⟨⟨⟨k,gs,before,hw,hc⟩,hx⟩,hz⟩:=d;have p:=DataW.Whole.of_heap (w':=w.forCall tape i) (by rfl) hw;refine(b (w.forCall tape i) w.heap.size i.args k gs before h p (hz.weights hw) (r _ _ _ (by rfl) hx) n).mono λe q⟨v,he,hp⟩=>?_;subst he;exact ChangeSpec.post_blind hp
theorem K0{W:World}(h:laidMetH Tryz.prog Rows.topDeskRow.laid W)(a:W.ShapedOpen Tryz.prog):Env W:=by
 rw[MakeChecks.laidMetH_plain _ _ _ (by kernel_rfl)] at h;have h2:laidMet Tryz.prog ((tabName9,Lib.tabData .u64 Lib.pow10Tab)::Rows.topDeskRow.laid.tail.tail.tail) W:=laidMet.tail (laidMet.tail h);exact⟨Lib.tabIs_of_head pX (by kernel_rfl) Tryz.underlying248 Tryz.underlying219 (by kernel_rfl) (by kernel_rfl) h2,
  Go.Proofs.cell_of_shapedOpen_int (zero:= #[.int .i64 0]) (t:=3) a (cf (by kernel_rfl)) (by kernel_rfl) rfl (by kernel_rfl) (by kernel_rfl) Tryz.underlying3⟩
set_option maxRecDepth 100000 in
theorem vo(os:Os)(started:os.Started)(H:Type)(enc:TypeId×Value->H):
  ReturnsInHanded {} Tryz.checked os 4 .any (λw args=>(Rows.topDeskSpec.pre enc Tryz.prog Tryz.f4 [] false w args/\laidMetH Tryz.prog Rows.topDeskRow.laid w)/\sizedMet enc Tryz.prog Tryz.f4 (OpenSpec.ofChange Rows.topDeskSpec) false w args)
   (Rows.topDeskSpec.post enc Tryz.prog Tryz.f4 false true false false):=by
 refine sF (C:=Tryz.checked) (X:=λw _=>laidMetH Tryz.prog Rows.topDeskRow.laid w) (λ_ _ _ hh h=>h.of_heap hh) Tryz.own started (by kernel_rfl) Tryz.func4
  (ChangeSpec.witness_shaped (enc:=enc) (C:=Tryz.checked) (os:=os) (X:=λw _=>laidMetH Tryz.prog Rows.topDeskRow.laid w) false (World.laidAll Tryz.prog os Rows.topDeskRow.laid) #[.string ⟨#[]⟩,.string ⟨#[]⟩] 8 (World.laidAll_os _ _ _)
   (World.shaped_of_ZipB (by kernel_rfl) (by kernel_rfl)) (by kernel_rfl) (by kernel_rfl) (by kernel_rfl)
   (by rw[MakeChecks.laidMetH_plain _ _ _ (by kernel_rfl)];exact laidMet_laidAll _ (by kernel_rfl) (by kernel_rfl))) ?_
 intro W base args f gs before c g b r k;have y:=K0 r k;have hsz:(DataW.weightsEach Tryz.prog (Tryz.f4.params.toList++Rows.topDeskSpec.plain.varTypes Tryz.prog) (f++gs)).all (·<=reachBytes)=true:=b;clear b;have a:∀(j:Nat) t v,Tryz.f4.params[j]? =some t->args[j]? =some v->Value.okWide Tryz.prog W .any base t v:=c;have hlt:∀x∈before,x.block<W.heap.size:=λx hx=>g.lt x hx;have l:DataW.Whole enc Tryz.prog Tryz.f4.params.toList Rows.topDeskSpec.vars false W args.toList f gs before:=g;obtain⟨p,q,m,hV,rfl,_,_⟩:=g;have hA:DataW.TrodAll enc Tryz.prog W 0 (λ_=>true) true Tryz.f4.params.toList args.toList f p:=m;rw[Tryz.params4] at hA a hsz;obtain⟨v0,v1,d0,d1,A,B,rfl,rfl,rfl,h0,h1⟩:=trodAll_two hA;obtain⟨rfl,rfl⟩:=trodVars_none hV;obtain⟨d,rfl,rfl,rfl,z⟩:=eT Tryz.underlying9 (a 0 9 v0 rfl rfl) h0;obtain⟨s1,rfl,rfl,rfl,K9⟩:=eT Tryz.underlying9 (a 1 9 v1 rfl rfl) h1;have n:d.data.toList.length<=140737488355328:=by
  have h1:=sized_string hsz (j:=0) rfl rfl;have h2:=reachBytes_lt;omega
 have o:s1.data.toList.length<=140737488355328:=by
  have h1:=sized_string hsz (j:=1) rfl rfl;have h2:=reachBytes_lt;omega
 have rx:∀s:ByteArray,Rel (xe W) (λ_=>False) W (.str s.data.toList) (.string s):=λs=>by
  have h:Rel (xe W) (λ_=>False) W (.str s.data.toList) (.string ⟨s.data.toList.toArray⟩):=.str _;simpa using h
 refine(Eh (vn d.data.toList s1.data.toList n o) (us:= #[.string d,.string s1]) rfl (λi v u hv hu=>?_) y).mono λe D⟨he,hb⟩=>?_
 ·match i with
  |0=>simp at hv hu;subst hv hu;exact rx d
  |1=>simp at hv hu;subst hv hu;exact rx s1
  |i+2=>simp at hv
 ·subst he;exact⟨_,rfl,FH rfl (by kernel_rfl) (by rw[Tryz.params4];decide) l hlt rfl hb⟩
theorem AD:Rows.TopDeskSaid:=
 OpenClaim.holds_of_wide 4 Tryz.f4 rfl rfl rfl rfl rfl rfl rfl ⟨rfl,rfl,rfl,rfl,rfl⟩ rfl rfl rfl rfl rfl (by kernel_rfl) Tryz.func4 (by kernel_rfl)
  (cf (by kernel_rfl)) (by unfold Func.isWrapper;first|(rw[ab (by decide+kernel)];kernel_rfl)|(rw[aa (by decide+kernel)];exact⟨rfl,rfl⟩))
  (λos started H enc _=>vo os started H enc)
theorem topDesk_holds:Rows.TopDeskCardSaid:=
 Claim7.holds_tied_plain_at .later [] [.data,.data,.data,.data,.sentinel,.sentinel,.pinned] true (true, "bcdd1666415e07c0913d085a5993fa5a52a9cbb74fd8b30d3b63133b076319e9") true AD (fun _ h=>by cases h) (by kernel_rfl) (fun _ h=>by cases h) topDesk_row_tie rfl ⟨rfl,rfl⟩ (by kernel_rfl) rfl
  (λf fn hf a=>by
   obtain rfl:f=4:=bN ((show Tryz.prog.funcNamed Rows.topDeskRow.func =some 4 by kernel_rfl).symm.trans hf)|>.symm
   obtain rfl:fn=Tryz.f4:=(bN (Tryz.func4.symm.trans a)).symm;exact⟨by kernel_rfl,λj t ht=>by
    rw[Tryz.params4] at ht;have hm:t∈[9,9]:=by simpa using Array.mem_of_getElem? ht
    have iF:([9,9].all λu=> !Tryz.prog.wantsStandIn u)=true:=by kernel_rfl
    exact(show Tryz.prog.wantsStandIn t=false by simpa using aF.1 iF t hm)⟩)
  (by kernel_rfl)
end Go.Proofs.YtajdadcdcpnedaaGreatDoor
