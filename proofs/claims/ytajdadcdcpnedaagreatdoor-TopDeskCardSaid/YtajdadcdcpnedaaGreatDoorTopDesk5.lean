/-
  Part 5 of what the law TopDesk reaches: the plain machine, contracts of the functions and plain laws; each lemma says its own condition.
-/
import Derived.Test.YtajdadcdcpnedaaGreatDoorTopDesk3
import Derived.Below
import Derived.Test.YtajdadcdcpnedaaGreatDoorTopDesk4
set_option linter.unusedVariables false
set_option linter.unusedSimpArgs false
namespace Go.Proofs.YtajdadcdcpnedaaGreatDoor.AM
open Go
open Go.BigFrame
open Go.RowKit (Below)
inductive Fr(h:Hp):V->V->Prop
 |same (v:V) (hz:Fz v):Fr h v v
 |nilsl (sz:Nat):Fr h .nilsl (.sl false sz [])
 |own (k:Nat) (b:Option Nat) (sz n:Nat) (o:Ob) (rows:List (List V)) (hk:h k=some o) (hb:o.b=b) (hs:o.sz=sz) (hn:rows.length=n) (hw:∀r∈rows,r.length=sz) (hl:n<=o.rows.length) (r8:∀(i:Nat)(r r':List V),o.rows[i]? =some r->rows[i]? =some r'->r.length=r'.length)
   (hr:∀(i j:Nat)(r r':List V)(v v':V),o.rows[i]? =some r->rows[i]? =some r'->r[j]? =some v->r'[j]? =some v'->Fr h v v'):Fr h (.own k b sz n) (.sl false sz rows)
 |agg (cs tf:List V) (hl:cs.length=tf.length) (hr:∀(i:Nat)(v v':V),cs[i]? =some v->tf[i]? =some v'->Fr h v v'):Fr h (.agg cs) (.agg tf)
 |tup (cs tf:List V) (hl:cs.length=tf.length) (hr:∀(i:Nat)(v v':V),cs[i]? =some v->tf[i]? =some v'->Fr h v v'):Fr h (.tup cs) (.tup tf)
def Made(F:Nat->Prop)(h:Hp)(b:Nat):Prop:=F b\/∃k o,h k=some o/\o.b=some b
theorem Fr.rel{C:Ctx}{F:Nat->Prop}{h:Hp}{w:World}(hs:fT C F h w){v v':V}(hf:Fr h v v'):∀{u:Value},Rel F C.B w v u->Rel (Made F h) (λ_=>False) w v' u:=by
 induction hf with
 |same v hz=>exact λhr=>(hr.mono (F':=Made F h) (B':=C.B) (λb hb=>.inl hb) (λb hb=>.inr hb)).fz hz
 |nilsl sz=>intro u hr;cases hr;exact .slnil _ _
 |own k b sz n o rows hk hb hsz hn hw hl r8 hr ih=>
  intro u hv;cases hv with
  |ownnil=>have:rows=[]:=aB hn;subst this;exact .slnil _ _
  |own _ b' _ n' cap c e fr d hcs hm q=>
   have ho:=hs.ob k o hk;unfold fe at ho;rw[hb] at ho;obtain⟨c',cap',g,h1,h2,h3,h4,h5⟩:=ho;rw[d] at g;cases g;subst hn;refine .sl false sz rows b' 0 cap (λi j=>(c[i*sz+j]?).getD undef) (.inl (.inr ⟨k,o,hk,hb⟩)) q hw (λi j r v hi hj=>?_) (λi j r v hi hj=>?_)
   ·have s:=(aj.1 hi).1;have t:=(aj.1 hj).1;have a:o.rows[i]? =some (o.rows[i]'qW):=af qW;have hlen:=r8 i _ r a hi;obtain⟨u,hu,l,m⟩:=h5 i j _ _ a (af qW);rw[hsz] at hu;rw[hu,cell_of_row w b' _ c o.ty (0,0) d];have:i*sz+j<c.size:=(aA.1 hu).1;refine⟨?_,l⟩;rw[aW];exact hu
   ·have s:=(aj.1 hi).1;have t:=(aj.1 hj).1;have a:o.rows[i]? =some (o.rows[i]'qW):=af qW;have hlen:=r8 i _ r a hi;have p:(o.rows[i]'qW)[j]? =some ((o.rows[i]'qW)[j]'qW):=af qW;obtain⟨u,hu,l,m⟩:=h5 i j _ _ a p;rw[hsz] at hu;rw[hu];exact ih i j _ r _ v a hi p hj m
 |agg cs tf hl hr ih=>
  intro u hv;cases hv with
  |agg _ us hsz f=>
   refine .agg tf us qW λi v u hv hu=>?_;have hi:i<cs.length:=by have:=(aj.1 hv).1;omega
   exact ih i cs[i] v (af hi) hv (f i cs[i] u (af hi) hu)
 |tup cs tf hl hr ih=>
  intro u hv;cases hv with
  |tup _ us hsz f=>
   refine .tup tf us qW λi v u hv hu=>?_;have hi:i<cs.length:=by have:=(aj.1 hv).1;omega
   exact ih i cs[i] v (af hi) hv (f i cs[i] u (af hi) hu)
theorem Fr.rows{h:Hp}{k sz n:Nat}{b:Option Nat}{o:Ob}(hk:h k=some o)(hb:o.b=b)(hs:o.sz=sz)(hn:o.rows.length=n)(hw:∀r∈o.rows,r.length=sz)(hz:∀r∈o.rows,∀v∈r,Fz v):Fr h (.own k b sz n) (.sl false sz o.rows):=
 .own k b sz n o o.rows hk hb hs hn hw qW (λi r r' h1 h2=>by rw[h1] at h2;cases h2;rfl) λi j r r' v v' h1 h2 h3 h4=>by
  rw[h1] at h2;cases h2;rw[h3] at h4;cases h4;exact .same _ (hz r (az h1) v (az h3))
theorem Fr.xh{h:Hp}:Fr h (.tup []) (.tup []):=.tup _ _ rfl (by simp)
theorem Fr.jI{h:Hp}{v v':V}{cs tf:List V}(h1:Fr h v v')(h2:Fr h (.tup cs) (.tup tf)):Fr h (.tup (v::cs)) (.tup (v'::tf)):=by
 have key:cs.length=tf.length/\∀(i:Nat)(v v':V),cs[i]? =some v->tf[i]? =some v'->Fr h v v':=by
  cases h2 with
  |same _ hz=>
   cases hz with
   |tup _ hz=>exact⟨rfl,λi v v' a b=>by rw[a] at b;cases b;exact .same _ (hz _ (az a))⟩
  |tup _ _ hl hr=>exact⟨hl,hr⟩
 refine .tup _ _ (by simp[key.1]) λi v v' a b=>?_;cases i with
 |zero=>simp at a b;subst a b;exact h1
 |succ i=>exact key.2 i v v' (by simpa using a) (by simpa using b)
def Gq(rv:List RV)(v':V)(s:S):Prop:=kH s rv λvs=>Fr s.h (kI vs) v'
theorem kX{P:Program}{f:Nat}{fn:Func}{ac:AC}{rv:List RV}{args:List V}{v':V}{D:Array Oper->List AO->Bool}(x:lh P D)(ok:fF P f fn ac rv args.length D)
  (hK:∀R,(∀s s',cd s s'->Gq rv v' s'->R s)->gE cp (dF P) (fk P) ac (S0 args Hp.emp) R (λ_ _=>False) R):Spec P f args Hp.emp (Is v'):=by
 obtain⟨c,hb,hc⟩:=cx.1 ok.body;refine⟨⟨fn,ok.func,ok.name,c,hb⟩,λt us g hl d _=>?_⟩
 let C:Ctx:=⟨t.w0,t.F0,t.B,λ_=>False,[]⟩
 have hC:C.Ok:=⟨λb hb=>⟨(g.F0 b hb).1,λh=>h⟩,λb hb=>⟨(g.B b hb).1,λh=>h⟩,λb hb=>hb.elim,g.env,λb hb=>hb.elim⟩;have l:∀(i:Nat)(v:V)(u:Value),args[i]? =some v->us[i]? =some u->Rel C.F0 C.B C.w0 v u:=d;refine calls_of_wp ok.func hb ?_;have hs0:fT C C.F0 Hp.emp C.w0:=⟨λk o hk=>by simp[Hp.emp] at hk,λk k' o o' b hk=>by simp[Hp.emp] at hk,λk o b hk=>by simp[Hp.emp] at hk,λb hb=>.inl hb,λb hb=>hb,λb hb=>(hC.F0 b hb).1,Ev.refl _ _⟩;have m:Sat C fn.ntmps (S0 args Hp.emp) {tmps:=us++Array.replicate (fn.ntmps-us.size) undef,defers:=[]} C.w0:=by
  have hn:=ok.args;refine⟨⟨C.F0,hs0,λi=>?_⟩,rfl,by simp;omega⟩;simp only[S0,xb]
  by_cases hi:i<args.length
  ·have hi':i<us.size:=by omega
   have h1:args[i]? =some (args.getD i .gC):=by rw[au,af hi];rfl
   have h2:us[i]? =some ((us++Array.replicate (fn.ntmps-us.size) undef).getD i undef):=by
    simp[hi',b6]
   exact l i _ _ h1 h2
  ·have h1:args.getD i .gC=.gC:=by rw[au,bh qW];rfl
   rw[h1];exact .gC _
 let fin:S->Prop:=λs=>∃s',cd s s'/\Gq rv v' s'
 refine wp_mono (pd x hC c ac _ _ _ fin (λ_ _=>False) fin hc m (hK fin λs s' he hr=>⟨s',he,hr⟩)) λe w w' hq=>?_;have last:(∃s,Sat C fn.ntmps s w w'/\fin s)->w.defers=[]/\∃v,(results fn w.tmps).run P w'=.ok v w'/\∃u n h' F',Ending.returned v=.returned u/\Rel F' (λ_=>False) w' n u/\fT t.nb F' h' w'/\Is v' n h':=by
  rintro⟨s1,hs1,s2,p,q⟩;have hs2:=p C _ w w' hC hs1;obtain⟨F,hh,hr⟩:=hs2.ex;obtain⟨vs,a,h1,h2,h3,h4⟩:=xa hh hr _ _ _ ok.res q;have r:Rel F C.B w' (kI vs) (if h:a.toArray.size=1 then a.toArray[0] else .tuple a.toArray):=by
   match vs,a,h2,h3 with
   |[],[],_,_=>exact .tup _ _ rfl (by simp)
   |[v],[u],_,h3=>exact h3 0 v u rfl rfl
   |v1::v2::vs,y::z::a,h2,h3=>
    have hne:¬((y::z::a).toArray.size=1):=by simp
    rw[dif_neg hne];exact .tup _ _ (by simpa using h2) λi v u hv hu=>h3 i v u hv (by simpa using hu)
  refine⟨hs2.df,_,n9 h1,_,v',Hp.emp,Made F s2.h,rfl,Fr.rel hh h4 r,⟨λk o hk=>by simp[Hp.emp] at hk,λk k' o o' b hk=>by simp[Hp.emp] at hk,λk o b hk=>by simp[Hp.emp] at hk,λb hb=>?_,λb hb=>.inl (hh.new b hb),λb hb=>?_,?_⟩,rfl,rfl⟩
  ·rcases hb with hb|⟨k,o,hk,hb⟩
   ·rcases hh.jE b hb with h|h|h
    ·exact .inl h
    ·exact h.elim
    ·exact .inr (.inr h)
   ·rcases(hh.live k o b hk hb).2 with h|h
    ·exact h.elim
    ·exact .inr (.inr h)
  ·rcases hb with hb|⟨k,o,hk,hb⟩
   ·exact hh.lt b hb
   ·exact(hh.ob k o hk).lt hb
  ·exact hh.ev.mono λb _ h=>h.elim
 cases e with
 |normal=>exact last hq
 |ret=>exact last hq
 |exit j=>obtain⟨_,_,h⟩:=hq;exact h.elim
 |_=>exact hq.elim
theorem lK{P:Program}{f:Nat}{args:List V}{us0:Array Value}{v:V}{u0:Value}(hf:∃fn,P.funcs[f]? =some fn∧fn.name≠ "runtime.NumGoroutine" ∧∃c,fn.body=some c)
  (d:∀(F B:Nat->Prop)(w:World)(us:Array Value),us.size=args.length->(∀(i:Nat)(v:V)(u:Value),args[i]? =some v->us[i]? =some u->Rel F B w v u)->us=us0)
  (hv:∀(F B:Nat->Prop)(w:World),Rel F B w v u0)(h:∀w,Env w->Calls P f us0 w λe w'=>e=.returned u0/\Below w.heap.size w w'):Spec P f args Hp.emp (Is v):=by
 refine⟨hf,λC us hC hl a _=>?_⟩;rw[d _ _ _ us hl a];refine(h C.w0 hC.env).mono ?_;rintro e w' ⟨rfl,hb⟩;refine⟨u0,v,Hp.emp,C.F0,rfl,hv _ _ _,⟨λk o hk=>by simp[Hp.emp] at hk,λk k' o o' b hk=>by simp[Hp.emp] at hk,λk o b hk=>by simp[Hp.emp] at hk,λb hb=>.inl hb,λb hb=>hb,λb g=>bE (hC.F0 b g).1 hb.size,?_⟩,rfl,rfl⟩;exact⟨hb.os,hb.tape,hb.output,hb.size,λb hlt _=>hb.block b hlt,λb c e fr hc=>⟨c,fr,by rw[hb.block b (aA.1 hc).1];exact hc,rfl⟩⟩
theorem jJ{P:Program}{f:Nat}{args:List V}{us0:Array Value}{v:V}{u0:Value}(hf:∃fn,P.funcs[f]? =some fn∧fn.name≠ "runtime.NumGoroutine" ∧∃c,fn.body=some c)
  (a:∀(F B:Nat->Prop)(w:World)(us:Array Value),us.size=args.length->(∀(i:Nat)(v:V)(u:Value),args[i]? =some v->us[i]? =some u->Rel F B w v u)->us=us0)
  (hv:∀(F B:Nat->Prop)(w:World),Rel F B w v u0)(h:∀w,Calls P f us0 w λe w'=>e=.returned u0/\Below w.heap.size w w'):Spec P f args Hp.emp (Is v):=
 lK hf a hv λw _=>h w
theorem iY.refl(h:Hp):iY h h:=λ_ F _ _ hs=>⟨F,λ_ h=>h,hs⟩
theorem iY.trans{a b c:Hp}(h:iY a b)(h':iY b c):iY a c:=λC F w hC hs=>by
 obtain⟨d,h1,hs1⟩:=h C F w hC hs;obtain⟨e,h2,hs2⟩:=h' C d w hC hs1;exact⟨e,λb hb=>h2 b (h1 b hb),hs2⟩
theorem iY.kQ{h:Hp}{k k' ty sz r c:Nat}{o:Ob}{row:List V}(hk:h k=some o)(hr:o.rows[r]? =some row)(hc:row[c]? =some .nilsl)(s:h k'=none):
  iY h (Hp.put (Hp.put h k ⟨o.b,o.ty,o.sz,o.rows.set r (row.set c (.own k' none sz 0))⟩) k' ⟨none,ty,sz,[]⟩):=by
 intro C F w hC hs;refine⟨F,λ_ h=>h,?_⟩;have hne:k≠k':=λe=>by rw[e,s] at hk;cases hk
 have look:∀j q,(Hp.put (Hp.put h k ⟨o.b,o.ty,o.sz,o.rows.set r (row.set c (.own k' none sz 0))⟩) k' ⟨none,ty,sz,[]⟩) j=some q->
   (j=k'/\q=⟨none,ty,sz,[]⟩)\/(j≠k'/\j=k/\q=⟨o.b,o.ty,o.sz,o.rows.set r (row.set c (.own k' none sz 0))⟩)\/(j≠k'/\j≠k/\h j=some q):=by
  intro j q hj;simp only[Hp.put] at hj
  by_cases h1:j=k'
  ·rw[ab h1] at hj;cases hj;exact .inl ⟨h1,rfl⟩
  ·rw[aa h1] at hj
   by_cases h2:j=k
   ·rw[ab h2] at hj;cases hj;exact .inr (.inl ⟨h1,h2,rfl⟩)
   ·rw[aa h2] at hj;exact .inr (.inr ⟨h1,h2,hj⟩)
 have a:∀j q b,(Hp.put (Hp.put h k ⟨o.b,o.ty,o.sz,o.rows.set r (row.set c (.own k' none sz 0))⟩) k' ⟨none,ty,sz,[]⟩) j=some q->q.b=some b->∃n,h j=some n/\n.b=some b:=by
  intro j q b hj hb
  rcases look j q hj with⟨_,rfl⟩|⟨_,rfl,rfl⟩|⟨_,_,hq⟩
  ·cases hb
  ·exact⟨o,hk,hb⟩
  ·exact⟨q,hq,hb⟩
 refine⟨λj q hj=>?_,λj E q n b hj t hb x=>?_,λj q b hj hb=>?_,hs.jE,hs.new,hs.lt,hs.ev⟩
 ·rcases look j q hj with⟨_,rfl⟩|⟨_,rfl,rfl⟩|⟨_,_,hq⟩
  ·exact(show fe F C.B w ⟨none,ty,sz,[]⟩ from rfl)
  ·have ho:=hs.ob j o hk;unfold fe at ho⊢;simp only;cases hb:o.b with
   |none=>
    rw[hb] at ho;simp only at ho⊢;rw[ho] at hr;simp at hr
   |some b=>
    rw[hb] at ho;obtain⟨cs,cap,h1,h2,h3,h4,h5,h6⟩:=ho;have r8:=(aj.1 hr).1;refine⟨cs,cap,h1,h2,h3,by simpa using h4,λr' y=>?_,λi l r' v hi hl=>?_⟩
    ·rcases eS y with h|h
     ·exact h5 r' h
     ·rw[h,dy];exact h5 row (az hr)
    ·rw[dJ] at hi
     by_cases f:r=i
     ·subst f;rw[ab rfl,ab r8] at hi;cases hi;rw[dJ] at hl
      by_cases g:c=l
      ·subst g;rw[ab rfl] at hl;obtain⟨u,hu,z,A⟩:=h6 r c row .nilsl hr hc
       split at hl
       ·cases hl;refine⟨u,hu,z,?_⟩;cases A;exact .ownnil _ _
       ·cases hl
      ·rw[aa g] at hl;exact h6 r l row v hr hl
     ·rw[aa f] at hi;exact h6 i l r' v hi hl
  ·exact hs.ob j q hq
 ·obtain⟨p,hp,d⟩:=a j q b hj hb;obtain⟨G,D,m⟩:=a E n b t x;exact hs.inj j E p G b hp D d m
 ·obtain⟨p,hp,d⟩:=a j q b hj hb;exact hs.live j p b hp d
def V.pl:V->Bool
 |.own .. =>false
 |.win .. =>false
 |.ptr .. =>false
 |.agg _=>false
 |.tup _=>false
 |_=>true
theorem V.Gr{v:V}(h:v.pl=true)(f:Nat->Nat):v.gy f=v:=by cases v<;>first|rfl|cases h
theorem fX{h:Hp}{m:List (Nat×Nat)}:∀{l:List V},l.all V.pl=true->lG h m l l
 |[],_=>.nil
 |v::l,hl=>by
  simp only[eX,aO] at hl;refine .cons ?_ (fX hl.2);have:=Arg.same (h:=h) (m:=m) v
  rwa[V.Gr hl.1] at this
theorem Ce{P:Program}{f k sz:Nat}{b:Option Nat}{rest:List V}{o:Ob}{post:V->List (Nat×Ob)->Prop}(hs:Spec P f (.ptr 0 b sz 0 0::rest) (a8 [(0,o)]) λv' h'=>∃L',post v' L'/\h'=a8 L')(a:∀v L',post v L'->∃o',L'=[(0,o')])
  (c:rest.all V.pl=true)(ho:∀g,o.gy g=o)(hz:o.Fz){h:Hp}{K:V->Hp->Prop}(hk:h k=some o)(hK:∀v o',post v [(0,o')]->K (v.gy (gD [(0,k)])) (h.put k (o'.gy (gD [(0,k)])))):dF P f (.ptr k b sz 0 0::rest) h K:=by
 refine⟨h,iY.refl h,[(0,k)],_,_,_,hs,.cons ?_ (fX c),λj q hj=>?_,λp hp=>?_,?_⟩
 ·have:=Arg.same (h:=h) (m:=[(0,k)]) (.ptr k b sz 0 0);simpa[V.gy,V.rl,gP] using this
 ·simp only[a8] at hj
  split at hj
  ·rename_i h0;exact⟨(0,k),by simp,h0.symm⟩
  ·cases hj
 ·simp only[ag] at hp;subst hp;refine⟨by simp[gD],by simp[gP],λq hq=>?_⟩;simp only[a8,↓reduceIte,aC] at hq;subst hq;exact⟨by rw[hk,aJ,ho],hz⟩
 ·rintro v' h' ⟨L',hp,rfl⟩;obtain⟨o',rfl⟩:=a _ _ hp;have e:h.jh [(0,k)] (a8 [(0,o')])=h.put k (o'.gy (gD [(0,k)])):=by
   funext i
   unfold Hp.jh Hp.put;simp only[bZ,cE,cw,bM]
   by_cases hi:k=i
   ·rw[ab hi,ab hi.symm,<-hi];simp[gP,a8]
   ·rw[aa hi,aa (λe=>hi e.symm)]
  rw[e];exact hK v' o' hp
theorem da{s:S}:∀(rv:List RV)(K K':List V->Prop),(∀x,K x->K' x)->kH s rv K->kH s rv K':=by
 intro rv
 induction rv with
 |nil=>intro K K' hK h;exact hK _ h
 |cons r rv ih=>
  intro K K' hK h;cases r with
  |t i=>exact ih _ _ (λx hx=>hK _ hx) h
  |c1 i=>
   simp only[kH] at h⊢;unfold nW at h⊢
   split at h
   ·unfold s9 at h⊢
    split at h
    ·obtain⟨a1,a2,a3,a4,a5⟩:=h;exact⟨a1,a2,a3,a4,ih _ _ (λx hx=>hK _ hx) a5⟩
    ·exact h.elim
   ·exact⟨h.1,ih _ _ (λx hx=>hK _ hx) h.2⟩
   ·exact h.elim
  |cn i n=>
   simp only[kH] at h⊢;unfold nX at h⊢
   split at h
   ·unfold s9 at h⊢
    split at h
    ·obtain⟨a1,a2,a3,a4,a5⟩:=h;exact⟨a1,a2,a3,a4,ih _ _ (λx hx=>hK _ hx) a5⟩
    ·exact h.elim
   ·exact⟨h.1,ih _ _ (λx hx=>hK _ hx) h.2⟩
   ·exact h.elim
theorem dE{P:Program}{f:Nat}{fn:Func}{ac:AC}{rv:List RV}{args:List V}{L:List (Nat×Ob)}{D:Array Oper->List AO->Bool}(d:lh P D)(ok:fF P f fn ac rv args.length D)(post:V->List (Nat×Ob)->Prop)
  (h:∀R:S->Prop,(∀(s s':S)(v:V)(L':List (Nat×Ob)),cd s s'->kH s' rv (λx=>kI x=v)->eP L' s'->Fz v->(∀p∈L',p.2.Fz)->post v L'->R s)->gE cp (dF P) (fk P) ac (S0 args (a8 L)) R (λ_ _=>False) R):
  Spec P f args (a8 L) (λv h'=>∃L',post v L'/\h'=a8 L'):=by
 obtain⟨c,hc,a⟩:=cx.1 ok.body;refine Cd d ok.func ok.name hc a ok.res ok.args (h _ λs s' v L' he hr ha hz b hp=>⟨s',he,?_⟩);refine da rv _ _ (λx hx=>?_) hr;subst hx;refine⟨hz,a8 L',λk o hk=>?_,L',hp,rfl⟩;refine⟨n6 ha k o hk,?_⟩;have:∀(l:List (Nat×Ob)),(∀p∈l,p.2.Fz)->∀k o,a8 l k=some o->o.Fz:=by
  intro l
  induction l with
  |nil=>intro _ k o hk;cases hk
  |cons p l ih=>
   intro hl k o hk;simp only[a8] at hk
   split at hk
   ·cases hk;exact hl p (by simp)
   ·exact ih (λq hq=>hl q (by simp[hq])) k o hk
 exact this L' b k o hk
set_option maxRecDepth 100000
set_option maxHeartbeats 2000000
def Fy(b ka:Nat)(ba:Option Nat)(n:Nat)(put:BS)(cut:Int):Ob:=⟨some b,88,3,[[.own ka ba 3 n,.str put,.int .i64 cut]]⟩
def Gs(ba:Option Nat)(rows:List (List V)):Ob:=⟨ba,41,3,rows⟩
def FA(b:Nat)(ba:Option Nat)(m:Mk):List (Nat×Ob):=[(0,Fy b 1000000 ba m.out.length m.put m.cut),(1000000,Gs ba (m.out.map a7))]
theorem A8(p:Part):∀v∈a7 p,Fz v:=by
 intro v hv;simp only[a7,ah,aq,aQ] at hv
 rcases hv with rfl|rfl|rfl
 ·exact .int _ _
 ·exact .int _ _
 ·exact .str _
theorem fL(d:List Part):∀r∈d.map a7,∀v∈r,Fz v:=by
 intro r hr;obtain⟨p,_,rfl⟩:=aM.1 hr;exact A8 p
theorem Gt{b ka n:Nat}{ba:Option Nat}{put:BS}{cut:Int}:(Fy b ka ba n put cut).Fz:=by
 intro r hr v hv;simp only[Fy,ag] at hr;subst hr;simp only[ah,aq,aQ] at hv
 rcases hv with rfl|rfl|rfl
 ·exact .own _ _ _ _
 ·exact .str _
 ·exact .int _ _
theorem Gu{ba:Option Nat}{d:List Part}:(Gs ba (d.map a7)).Fz:=fL d
def lL(f:Nat)(args:List V)(m m':Mk)(r:Option Nat->V):Prop:=∀b ba,Spec Tryz.prog f (.ptr 0 (some b) 3 0 0::args) (a8 (FA b ba m)) (λv h'=>∃L',(∃a,v=r a/\L'=FA b a m')/\h'=a8 L')
theorem Lx{f:Nat}{fn:Func}{ac:AC}{rv:List RV}{args:List V}{D:Array Oper->List AO->Bool}(d:lh Tryz.prog D)(ok:fF Tryz.prog f fn ac rv (args.length+1) D){m m':Mk}(r:Option Nat->V)(hr:∀ba,Fz (r ba))
  (h:∀(b:Nat)(ba:Option Nat)(R:S->Prop),(∀(s s':S)(a:Option Nat),cd s s'->kH s' rv (λx=>kI x=r a)->s'.h 0=some (Fy b 1000000 a m'.out.length m'.put m'.cut)->s'.h 1000000=some (Gs a (m'.out.map a7))->R s)->
   gE cp (dF Tryz.prog) (fk Tryz.prog) ac (S0 (.ptr 0 (some b) 3 0 0::args) (a8 (FA b ba m))) R (λ_ _=>False) R):lL f args m m' r:=λb ba=>
 dE d ok (λv L'=>∃a,v=r a/\L'=FA b a m') λR e=>h b ba R λs s' a he c h0 h1=>e s s' (r a) (FA b a m') he c ⟨h0,h1,trivial⟩ (hr a)
  (by intro p hp;simp only[FA,ah,aq,aQ] at hp;rcases hp with rfl|rfl;exact Gt;exact Gu) ⟨a,rfl,rfl⟩
theorem kf:∀{L:List (Nat×Ob)}{k:Nat}{o:Ob},a8 L k=some o->(k,o)∈L
 |[],_,_,h=>by cases h
 |(j,q)::L,k,o,h=>by
  simp only[a8] at h
  split at h
  ·rename_i hk;cases h;rw[hk];exact aR
  ·exact aY _ (kf h)
theorem oe{P:Program}{f:Nat}{args a:List V}{L:List (Nat×Ob)}{m:List (Nat×Nat)}{post:V->List (Nat×Ob)->Prop}(hs:Spec P f a (a8 L) λv' h'=>∃L',post v' L'/\h'=a8 L'){h:Hp}{K:V->Hp->Prop}(ha:lG h m args a)
  (b:∀k o,a8 L k=some o->∃q∈m,q.1=k)(hm:∀q∈m,gD m q.1=q.2/\gP m q.2=q.1/\∀o,a8 L q.1=some o->(h q.2).map (Ob.gy (gP m))=some o/\o.Fz)
  (hK:∀v L',post v L'->K (v.gy (gD m)) (h.jh m (a8 L'))):dF P f args h K:=
 ⟨h,iY.refl h,m,a,a8 L,_,hs,ha,b,hm,by rintro v h' ⟨L',hp,rfl⟩;exact hK v L' hp⟩
theorem vY(d:List Part)(f:Nat->Nat):(d.map a7).map (·.map (V.rl f))=d.map a7:=by
 simp[eC,Function.comp_def,a7,V.rl]
theorem Ly(ba:Option Nat)(d:List Part)(f:Nat->Nat):(Gs ba (d.map a7)).gy f=Gs ba (d.map a7):=by
 simp only[Ob.gy,Gs,vY]
theorem Lz(b ka n:Nat)(ba:Option Nat)(put:BS)(cut:Int)(f:Nat->Nat):(Fy b ka ba n put cut).gy f=Fy b (f ka) ba n put cut:=by
 simp[Ob.gy,Fy,V.rl]
theorem LC{f:Nat}{args c:List V}{m m':Mk}{r:Option Nat->V}(hs:lL f c m m' r){h:Hp}{K:V->Hp->Prop}{k ka b:Nat}{ba:Option Nat}(hne:k≠ka)(g:∀h,lG h [(0,k),(1000000,ka)] args c)
  (hk:h k=some (Fy b ka ba m.out.length m.put m.cut))(l:h ka=some (Gs ba (m.out.map a7)))
  (hK:∀a,K ((r a).gy (gD [(0,k),(1000000,ka)])) (Hp.put (Hp.put h k (Fy b ka a m'.out.length m'.put m'.cut)) ka (Gs a (m'.out.map a7)))):dF Tryz.prog f (.ptr k (some b) 3 0 0::args) h K:=by
 have d:¬ka=k:=λe=>hne e.symm;refine oe (hs b ba) (m:=[(0,k),(1000000,ka)]) (.cons ?_ (g h)) (λj o hj=>?_) (λq hq=>?_) ?_
 ·have:=Arg.same (h:=h) (m:=[(0,k),(1000000,ka)]) (.ptr k (some b) 3 0 0);simpa[V.gy,V.rl,gP] using this
 ·simp only[FA,a8] at hj
  split at hj
  ·rename_i h0;exact⟨(0,k),by simp,h0.symm⟩
  ·split at hj
   ·rename_i h0;exact⟨(1000000,ka),by simp,h0.symm⟩
   ·cases hj
 ·simp only[ah,aq,aQ] at hq
  rcases hq with rfl|rfl
  ·refine⟨by simp[gD],by simp[gP],λo ho=>?_⟩;simp only[FA,a8,↓reduceIte,aC] at ho;subst ho;exact⟨by rw[hk];simp[Ob.gy,Fy,V.rl,gP,d],Gt⟩
  ·refine⟨by simp[gD],by simp[gP,d],λo ho=>?_⟩;simp[FA,a8] at ho;subst ho;exact⟨by rw[l];simp only[aJ,Ob.gy,Gs,vY],Gu⟩
 ·rintro v L' ⟨a,rfl,rfl⟩;have e:h.jh [(0,k),(1000000,ka)] (a8 (FA b a m'))=Hp.put (Hp.put h k (Fy b ka a m'.out.length m'.put m'.cut)) ka (Gs a (m'.out.map a7)):=by
   funext i
   by_cases h1:ka=i
   ·subst h1;simp[Hp.jh,Hp.put,gP,FA,a8,d,Ly]
   ·by_cases h2:k=i
    ·subst h2;simp[Hp.jh,Hp.put,gP,FA,a8,h1,hne,Lz,gD]
    ·have h3:¬i=ka:=λe=>h1 e.symm;have h4:¬i=k:=λe=>h2 e.symm;simp[Hp.jh,Hp.put,h1,h2,h3,h4]
  rw[e];exact hK a
def um(rv:List RV)(r:Option Nat->List V)(b n':Nat)(e:BS)(c':Int)(rows':List (List V))(R:S->Prop):Prop:=
 ∀(s s':S)(a:Option Nat)(n2:Nat)(c:BS)(d:Int)(rows2:List (List V)),cd s s'->s'.h 0=some ⟨some b,88,3,[[.own 1000000 a 3 n2,.str c,.int .i64 d]]⟩->s'.h 1000000=some ⟨a,41,3,rows2⟩->
  ia rv (r a) s'->n2=n'/\c=e/\d=c'/\rows2=rows'->R s
theorem Gv{rv:List RV}{r:Option Nat->List V}{b:Nat}{m':Mk}{R:S->Prop}(c:∀(s s':S)(a:Option Nat),cd s s'->kH s' rv (λx=>kI x=kI (r a))->s'.h 0=some (Fy b 1000000 a m'.out.length m'.put m'.cut)->s'.h 1000000=some (Gs a (m'.out.map a7))->R s):
  um rv r b m'.out.length m'.put m'.cut (m'.out.map a7) R:=by
 rintro s s' a n2 d e rows2 he h0 h1 hr ⟨rfl,rfl,rfl,rfl⟩;exact c s s' a he (da rv _ _ (λx hx=>by rw[hx]) hr) h0 h1
def M0(b:Nat)(ba:Option Nat)(n:Nat)(put:BS)(cut:Int)(rows:List (List V)):List (Nat×Ob):=[(0,⟨some b,88,3,[[.own 1000000 ba 3 n,.str put,.int .i64 cut]]⟩),(1000000,⟨ba,41,3,rows⟩)]
theorem uo{f:Nat}{fn:Func}{ac:AC}{rv:List RV}{args:List V}{D:Array Oper->List AO->Bool}(a:lh Tryz.prog D)(ok:fF Tryz.prog f fn ac rv (args.length+1) D){m m':Mk}(r:Option Nat->List V)(hr:∀ba,Fz (kI (r ba)))
  (h:∀(b:Nat)(ba:Option Nat)(R:S->Prop),um rv r b m'.out.length m'.put m'.cut (m'.out.map a7) R->
   gE cp (dF Tryz.prog) (fk Tryz.prog) ac (S0 (.ptr 0 (some b) 3 0 0::args) (a8 (M0 b ba m.out.length m.put m.cut (m.out.map a7)))) R (λ_ _=>False) R):lL f args m m' (λba=>kI (r ba)):=
 Lx a ok (λba=>kI (r ba)) hr λb ba R c=>h b ba R (Gv c)
def yD:AC:=.seq (qr [qm 2 0,qn 3 2,qf 4 1 3,ql 5 4,qo 6 (.bin .neq (.t 5) (.c qe))] (qu 6 (.region true [qm 7 0,qm 8 0,qn 9 8,qf 10 0 9,ql 11 10,qm 12 0,qn 13 12,qf 14 1 13,ql 15 14,qo 16 (.build yb [(0,1,qk 2),(2,1,(.t 15))]),qo 17 (.bslice 41 3 [.t 16]),qo 18 (.append 41 3 32 (.t 11) (.t 17)),qn 19 7,qf 20 0 19,qs 1 20 18]) .skip)) (qq (qr [qm 21 0,qn 22 21,qf 23 2 22,ql 24 23,qc 25 .gtr 24 0] (qu 25 (.region true [qm 26 0,qm 27 0,qn 28 27,qf 29 0 28,ql 30 29,qm 31 0,qn 32 31,qf 33 2 32,ql 34 33,qo 35 (.build yb [(0,1,qk 3),(1,1,(.t 34))]),qo 36 (.bslice 41 3 [.t 35]),qo 37 (.append 41 3 32 (.t 30) (.t 36)),qn 38 26,qf 39 0 38,qs 1 39 37]) .skip)) (qR [qm 40 0,qm 41 0,qn 42 40,qf 43 1 42,⟨none,none,.store 1 (.t 43) (.c qe)⟩,qn 44 41,qf 45 2 44,⟨none,none,.store 1 (.t 45) (qk 0)⟩]))
theorem Gw:fF Tryz.prog 66 Tryz.f66 yD [] 1 dS:=⟨Tryz.func66,by decide+kernel,by kernel_rfl,by kernel_rfl,by decide+kernel⟩
theorem Gx(P:Prim)(hP:P=cp)(T g:cm)(b:Nat)(ba:Option Nat)(n:Nat)(put:BS)(cut:Int)(rows:List (List V))(m:Mk)(hn:n=m.out.length)(hrows:rows=m.out.map a7)(c:put=m.put)(d:cut=m.cut)(i:m.out.length<=100000000)(rows':List (List V))(n':Nat)(e:n'=m.flush.length)(a:rows'=m.flush.map a7)
  (R:S->Prop)(f:um [] (λ_=>[]) b n' [] 0 rows' R):gE P T g yD (S0 [.ptr 0 (some b) 3 0 0] (a8 (M0 b ba n put cut rows))) R (λ_ _=>False) R:=by
 cbv
 repeat'(first|(intro β;cbv)|(refine And.intro (by assumption) ?_;cbv)|(refine a6 (λh=>?_) (λh=>?_)<;>try cbv)|(refine Exists.intro _ (And.intro (by assumption) ?_);cbv)|(refine j _ _ ?_;cbv)|(refine k _ _ ?_;cbv)|(refine l _ _ ?_;cbv)|(refine o _ _ ?_;cbv)|(refine p _ _ ?_;cbv)|(refine q _ _ ?_;cbv)|(refine And.intro (by(clear f;subst hP;simp[cp,kA,nc] at* <;>first|omega|grind)) ?_;cbv))
 all_goals
  refine f _ _ _ _ _ _ _ (cd.refl _) rfl rfl rfl ?_;cbv;clear f;subst hP;subst e a hn hrows c d;simp[cp,nc,Mk.flush] at*
  try simp[*]
  try exact⟨rfl,rfl⟩
  try rfl
theorem yE(m:Mk)(a:m.out.length<=100000000):lL 66 [] m ⟨m.flush,[],0⟩ (λ_=>.tup []):=
 uo hW Gw (λ_=>[]) (λ_=>.tup _ (by simp)) λb ba R c=>Gx cp rfl _ _ b ba _ _ _ _ m rfl rfl rfl rfl a _ _ rfl rfl R c
def Cf:AC:=.region false [qm 4 0,qn 5 4,qf 6 1 5,ql 7 6,qm 8 1,qb 9 .add 7 8,qn 10 4,qf 11 1 10,qs 1 11 9]
theorem LD:fF Tryz.prog 34 Tryz.f34 Cf [] 2 dS:=⟨Tryz.func34,by decide+kernel,by kernel_rfl,by kernel_rfl,by decide+kernel⟩
theorem LF(P:Prim)(hP:P=cp)(T e:cm)(b:Nat)(ba:Option Nat)(n:Nat)(put s:BS)(cut:Int)(rows:List (List V))(f:(put.length:Int)+s.length<=1000000000)(d:BS)(a:d=put++s)
  (R:S->Prop)(c:um [] (λ_=>[]) b n d cut rows R):gE P T e Cf (S0 [.ptr 0 (some b) 3 0 0,.str s] (a8 (M0 b ba n put cut rows))) R (λ_ _=>False) R:=by
 cbv
 repeat'(first|(intro β;cbv)|(refine And.intro (by assumption) ?_;cbv)|(refine a6 (λh=>?_) (λh=>?_)<;>try cbv)|(refine Exists.intro _ (And.intro (by assumption) ?_);cbv)|(refine g _ _ ?_;cbv)|(refine i _ _ ?_;cbv)|(refine j _ _ ?_;cbv)|(refine k _ _ ?_;cbv)|(refine l _ _ ?_;cbv)|(refine m _ _ ?_;cbv)|(refine And.intro (by(clear c;subst hP;simp[cp,kA,nc] at* <;>first|omega|grind)) ?_;cbv))
 all_goals
  refine c _ _ _ _ _ _ _ (cd.refl _) rfl rfl rfl ?_;cbv;clear c;subst hP;subst a;simp[cp]
theorem LG(m:Mk)(s:BS)(a:(m.put.length:Int)+s.length<=1000000000):lL 34 [.str s] m (m.iM s) (λ_=>.tup []):=
 uo hW LD (λ_=>[]) (λ_=>.tup _ (by simp)) λb ba R c=>LF cp rfl _ _ b ba _ _ s _ _ a _ rfl R c
def Cg:AC:=.region false [qm 4 0,qn 5 4,qf 6 2 5,ql 7 6,qm 8 1,qb 9 .add 7 8,qn 10 4,qf 11 2 10,qs 1 11 9]
theorem LH:fF Tryz.prog 33 Tryz.f33 Cg [] 2 dS:=⟨Tryz.func33,by decide+kernel,by kernel_rfl,by kernel_rfl,by decide+kernel⟩
theorem LI(P:Prim)(hP:P=cp)(T d:cm)(b:Nat)(ba:Option Nat)(n:Nat)(put:BS)(cut k:Int)(rows:List (List V))(e:kA (cut+k))(c':Int)(a:c'=cut+k)
  (R:S->Prop)(c:um [] (λ_=>[]) b n put c' rows R):gE P T d Cg (S0 [.ptr 0 (some b) 3 0 0,qI k] (a8 (M0 b ba n put cut rows))) R (λ_ _=>False) R:=by
 cbv
 repeat'(first|(intro β;cbv)|(refine And.intro (by assumption) ?_;cbv)|(refine a6 (λh=>?_) (λh=>?_)<;>try cbv)|(refine Exists.intro _ (And.intro (by assumption) ?_);cbv)|(refine f _ _ ?_;cbv)|(refine g _ _ ?_;cbv)|(refine i _ _ ?_;cbv)|(refine j _ _ ?_;cbv)|(refine l _ _ ?_;cbv)|(refine m _ _ ?_;cbv)|(refine And.intro (by(clear c;subst hP;simp[cp,kA,nc] at* <;>first|omega|grind)) ?_;cbv))
 all_goals
  refine c _ _ _ _ _ _ _ (cd.refl _) rfl rfl rfl ?_;cbv;clear c;subst hP;subst a;simp[cp]
theorem LJ(m:Mk)(k:Int)(a:kA (m.cut+k)):lL 33 [.int .i64 k] m (m.hO k) (λ_=>.tup []):=
 uo hW LH (λ_=>[]) (λ_=>.tup _ (by simp)) λb ba R c=>LI cp rfl _ _ b ba _ _ _ k _ a _ rfl R c
theorem OL{f:Nat}{args:List V}{m m':Mk}{r:Option Nat->V}(hs:lL f args m m' r)(ha:args.all V.pl=true){k ka b:Nat}{ba:Option Nat}(hne:k≠ka){h:Hp}{K:V->Hp->Prop}
  (hk:h k=some ⟨some b,88,3,[[.own ka ba 3 m.out.length,.str m.put,.int .i64 m.cut]]⟩)(c:h ka=some ⟨ba,41,3,m.out.map a7⟩)
  (hK:∀a,K ((r a).gy (gD [(0,k),(1000000,ka)])) (Hp.put (Hp.put h k ⟨some b,88,3,[[.own ka a 3 m'.out.length,.str m'.put,.int .i64 m'.cut]]⟩) ka ⟨a,41,3,m'.out.map a7⟩)):dF Tryz.prog f (.ptr k (some b) 3 0 0::args) h K:=
 LC hs hne (λh=>fX ha) hk c hK
def A9(T:cm)(f:Nat)(k ka b:Nat)(ba:Option Nat)(args:List V)(n:Nat)(put:BS)(cut:Int)(rows:List (List V))(r:Option Nat->V)(n':Nat)(c:BS)(d:Int)(rows':List (List V)):Prop:=
 ∀(h:Hp)(K:V->Hp->Prop),h k=some ⟨some b,88,3,[[.own ka ba 3 n,.str put,qI cut]]⟩->h ka=some ⟨ba,41,3,rows⟩->
  (∀a,K (r a) (Hp.put (Hp.put h k ⟨some b,88,3,[[.own ka a 3 n',.str c,qI d]]⟩) ka ⟨a,41,3,rows'⟩))->T f (.ptr k (some b) 3 0 0::args) h K
theorem Gy{f:Nat}{args:List V}{m m':Mk}{r r':Option Nat->V}(hs:lL f args m m' r)(ha:args.all V.pl=true)(k ka b:Nat)(ba:Option Nat)(hne:k≠ka)(hr:∀a,(r a).gy (gD [(0,k),(1000000,ka)])=r' a):
  A9 (dF Tryz.prog) f k ka b ba args m.out.length m.put m.cut (m.out.map a7) r' m'.out.length m'.put m'.cut (m'.out.map a7):=λh K hk c hK=>OL hs ha hne hk c λa=>by rw[hr];exact hK a
def yF:AC:=.seq (qr [qm 5 1,qc 6 .eql 5 0] (qu 6 .ret .skip)) (qr [qm 7 0,qa 8 66 [.t 7]] (qq (qr [qm 9 0,qn 10 9,qf 11 0 10,ql 12 11,qo 13 (.len false (.t 12)),qc 14 .sub 13 1,qm 4 14] (qr [qm 15 4,qc 16 .geq 15 0,qm 17 16,qg 18 17 true (.mov (.t 0)),qg 19 17 true (.nilchk (.t 18)),qg 20 17 true (.faddr 0 (.t 19)),qg 21 17 true (.load1 (.t 20)),qg 22 17 true (.mov (.t 4)),qg 23 17 true (.iaddr 3 (.t 21) (.t 22)),qg 24 17 true (.faddr 0 (.t 23)),qg 25 17 true (.load1 (.t 24)),qg 26 17 true (.bin .eql (.t 25) (qk 1)),qo 27 (.pick (.t 17) (.t 26) (.c (.bool false)))] (qu 27 (qr [qm 28 0,qn 29 28,qf 30 0 29,ql 31 30,qm 32 4,qo 33 (.iaddr 3 (.t 31) (.t 32)),qf 34 1 33,ql 35 34,qm 36 1,qb 37 .add 35 36,qo 38 (.iaddr 3 (.t 31) (.t 32)),qf 39 1 38,qs 1 39 37] .ret) .skip))) (qR [qm 40 0,qm 41 0,qn 42 41,qf 43 0 42,ql 44 43,qm 45 1,qo 46 (.build yb [(0,1,qk 1),(1,1,(.t 45))]),qo 47 (.bslice 41 3 [.t 46]),qo 48 (.append 41 3 32 (.t 44) (.t 47)),qn 49 40,qf 50 0 49,qs 1 50 48])))
theorem Gz:fF Tryz.prog 32 Tryz.f32 yF [] 2 dS:=⟨Tryz.func32,by decide+kernel,by kernel_rfl,by kernel_rfl,by decide+kernel⟩
theorem GA(P:Prim)(hP:P=cp)(T G:cm)(b:Nat)(ba:Option Nat)(n:Nat)(put:BS)(cut k:Int)(rows:List (List V))(m:Mk)(hn:n=m.out.length)(hrows:rows=m.out.map a7)(i:put=m.put)(j:cut=m.cut)
  (l:Nat)(e:List (List V))(f:l=m.flush.length)(a:e=m.flush.map a7)(H:m.flush.length<=100000000)(s:∀p∈m.flush,kA (p.n+k))
  (g:A9 T 66 0 1000000 b ba [] n put cut rows (λ_=>.tup []) l [] 0 e)
  (n':Nat)(E:BS)(c':Int)(rows':List (List V))(o:n'=(m.fU k).out.length)(c:rows'=(m.fU k).out.map a7)(q:E=(m.fU k).put)(r:c'=(m.fU k).cut)
  (R:S->Prop)(d:um [] (λ_=>[]) b n' E c' rows' R):gE P T G yF (S0 [.ptr 0 (some b) 3 0 0,qI k] (a8 (M0 b ba n put cut rows))) R (λ_ _=>False) R:=by
 cbv;refine a6 (λh=>?_) (λh=>?_)
 ·cbv;refine d _ _ _ _ _ _ _ (cd.refl _) rfl rfl rfl ?_;cbv;clear d g;subst hP;subst o c hn hrows i j q r;simp[cp] at h;simp[Mk.fU,h]
 cbv;have t:k≠0:=by clear d g;subst hP;simpa[cp] using h
 refine g _ _ rfl rfl λI=>?_;clear g;cbv;have u:P.i64 (P.sub (P.int l) 1):=by clear d;subst hP;simp only[cp,kA,f];omega
 refine⟨u,?_⟩
 rcases fA m.flush with hf|⟨pre,⟨qk,qn,F⟩,hf⟩
 ·refine a6 (λh=>?_) (λh=>?_)
  ·exfalso;clear d;subst hP;rw[hf] at f;simp[cp,f] at h
  cbv
  repeat'(first|(intro β;cbv)|(refine And.intro (by assumption) ?_;cbv)|(refine a6 (λh=>?_) (λh=>?_)<;>try cbv)|(refine Exists.intro _ (And.intro (by assumption) ?_);cbv)|(refine g _ _ ?_;cbv)|(refine w _ _ ?_;cbv)|(refine x _ _ ?_;cbv)|(refine y _ _ ?_;cbv)|(refine z _ _ ?_;cbv)|(refine A _ _ ?_;cbv)|(refine And.intro (by(clear d;subst hP;simp[cp,kA,nc] at* <;>first|omega|grind)) ?_;cbv))
  all_goals
   refine d _ _ _ _ _ _ _ (cd.refl _) rfl rfl rfl ?_;cbv;clear d;subst hP;subst o c hn hrows i j q r f a;simp[Mk.fU,t,hf,iR,cp,a7]
 ·rw[fB] at hf;have hq:=s ⟨qk,qn,F⟩ (by rw[hf];simp);simp only at hq;have v:P.row e (P.nat (P.sub (P.int l) 1)) [qI qk,qI qn,.str F]:=by
   clear d;subst hP;rw[a,f,hf];simp[cp,a7]
  have GB:l=pre.length+1:=by rw[f,hf];simp
  have B:P.fK 0 (P.sub (P.int l) 1):=by clear d;subst hP;simp only[cp,GB];omega
  have C:P.iq (P.sub (P.int l) 1) (P.int l):=by clear d;subst hP;simp only[cp,GB];omega
  have D:P.i64 (P.add qn k):=by clear d;subst hP;exact hq
  refine a6 (λh=>?_) (λh=>?_)
  rotate_left
  ·exfalso;clear d;subst hP;simp[cp,GB] at h
  cbv
  repeat'(first|(intro β;cbv)|(refine And.intro (by assumption) ?_;cbv)|(refine a6 (λh=>?_) (λh=>?_)<;>try cbv)|(refine Exists.intro _ (And.intro (by assumption) ?_);cbv)|(refine g _ _ ?_;cbv)|(refine w _ _ ?_;cbv)|(refine x _ _ ?_;cbv)|(refine y _ _ ?_;cbv)|(refine z _ _ ?_;cbv)|(refine A _ _ ?_;cbv)|(refine And.intro (by(clear d;subst hP;simp[cp,kA,nc] at* <;>first|omega|grind)) ?_;cbv))
  all_goals
   refine d _ _ _ _ _ _ _ (cd.refl _) rfl rfl rfl ?_;cbv;clear d v u B C D s;subst hP;subst o c hn hrows i j q r a;simp[cp] at*;simp[Mk.fU,t,hf,iR,a7, *]
theorem GC(m:Mk)(k:Int)(a:m.flush.length<=100000000)(c:∀p∈m.flush,kA (p.n+k))(d:m.out.length<=100000000):lL 32 [.int .i64 k] m (m.fU k) (λ_=>.tup []):=
 uo hW Gz (λ_=>[]) (λ_=>.tup _ (by simp)) λb ba R e=>GA cp rfl _ _ b ba _ _ _ k _ m rfl rfl rfl rfl _ _ rfl rfl a c (Gy (yE m d) rfl 0 1000000 b ba qD (λ_=>rfl)) _ _ _ _ rfl rfl rfl rfl R e
def yG:AC:=qr [qo 2 (.mov (.c (.slice none 0 0)))] (qr [qm 3 0,qa 4 66 [.t 3]] (qr [qm 5 0,qn 6 5,qf 7 0 6,ql 8 7,qm 2 8] .ret))
theorem GD:fF Tryz.prog 35 Tryz.f35 yG [.t 2] 1 dS:=⟨Tryz.func35,by decide+kernel,by kernel_rfl,by kernel_rfl,by decide+kernel⟩
theorem GF(P:Prim)(hP:P=cp)(T f:cm)(b:Nat)(ba:Option Nat)(n:Nat)(put:BS)(cut:Int)(rows:List (List V))(c:Nat)(a:List (List V))
  (d:A9 T 66 0 1000000 b ba [] n put cut rows (λ_=>.tup []) c [] 0 a)
  (R:S->Prop)(g:um [.t 2] (λe=>[.own 1000000 e 3 c]) b c [] 0 a R):gE P T f yG (S0 [.ptr 0 (some b) 3 0 0] (a8 (M0 b ba n put cut rows))) R (λ_ _=>False) R:=by
 cbv;refine d _ _ rfl rfl λh=>?_;cbv;exact g _ _ _ _ _ _ _ (cd.refl _) rfl rfl rfl ⟨rfl,rfl,rfl,rfl⟩
theorem GG(m:Mk)(c:m.out.length<=100000000):lL 35 [] m ⟨m.flush,[],0⟩ (λa=>.own 1000000 a 3 m.flush.length):=
 uo hW GD (λa=>[.own 1000000 a 3 m.flush.length]) (λ_=>.own _ _ _ _) λb ba R d=>GF cp rfl _ _ b ba _ _ _ _ _ _ (Gy (yE m c) rfl 0 1000000 b ba qD (λ_=>rfl)) R d
def my:List Tok->BS->BS
 |[],_=>[]
 |.put b::ts,s=>b::my ts s
 |.keep::ts,s=>s.take 1++my ts (s.drop 1)
 |.cut::ts,s=>my ts (s.drop 1)
def kE(ts:List Tok):Nat:=(iL ts).length
def iN:List Tok->Nat
 |[]=>0
 |.cut::ts=>iN ts
 |.keep::ts=>iN ts+1
 |.put _::ts=>iN ts+1
theorem uq(a b:List Tok):iN (a++b)=iN a+iN b:=by
 induction a with
 |nil=>simp[iN]
 |cons t a ih=>cases t<;>simp[iN,ih]<;>omega
theorem lv(a b:List Tok):kE (a++b)=kE a+kE b:=by simp[kE,vX]
theorem LK(ts:List Tok)(s:BS)(h:s.length=kE ts):(my ts s).length=iN ts:=by
 induction ts generalizing s with
 |nil=>rfl
 |cons t ts ih=>
  cases t
  ·simp only[kE,iL,ar] at h;simp only[my,iN,ae,aE];rw[ih _ (by simp[kE];omega)];omega
  ·simp only[my,iN,ar];rw[ih _ h]
  ·simp only[kE,iL,ar] at h;simp only[my,iN];exact ih _ (by simp[kE];omega)
def gV:List Tok->List (BS×Nat)
 |[]=>[([],0)]
 |.put b::ts=>match gV ts with
  |(p,c)::r=>(b::p,c)::r
  |[]=>[]
 |.cut::ts=>match gV ts with
  |(p,c)::r=>(p,c+1)::r
  |[]=>[]
 |.keep::ts=>([],0)::gV ts
theorem nv(ts:List Tok):∃g r,gV ts=g::r:=by
 induction ts with
 |nil=>exact⟨_,_,rfl⟩
 |cons t ts ih=>cases t<;>obtain⟨⟨p,c⟩,r,h⟩:=ih<;>simp[gV,h]
def Mk.QX(m:Mk)(g:BS×Nat):Mk:=⟨m.out,m.put++g.1,m.cut+g.2⟩
def Mk.vw(m:Mk):List (BS×Nat)->Mk
 |[]=>m
 |[g]=>m.QX g
 |g::g2::r=>Mk.vw ((m.QX g).fU 1) (g2::r)
theorem Mk.GH(m:Mk)(b:UInt8)(p:BS)(c:Nat)(r:List (BS×Nat)):m.vw ((b::p,c)::r)=(m.iM [b]).vw ((p,c)::r):=by
 cases r<;>simp[Mk.vw,Mk.QX,Mk.iM]
theorem Mk.GI(m:Mk)(p:BS)(c:Nat)(r:List (BS×Nat)):m.vw ((p,c+1)::r)=(m.hO 1).vw ((p,c)::r):=by
 have h:m.cut+((c+1:Nat):Int)=m.cut+1+(c:Int):=by omega
 cases r<;>simp only[Mk.vw,Mk.QX,Mk.hO,h]
theorem Mk.yH(m:Mk)(ts:List Tok):m.run ts=m.vw (gV ts):=by
 induction ts generalizing m with
 |nil=>simp[Mk.run,gV,Mk.vw,Mk.QX]
 |cons t ts ih=>
  obtain⟨⟨p,c⟩,r,h⟩:=nv ts;have hs:m.run (t::ts)=(m.tok t).run ts:=rfl;rw[hs,ih,h];cases t
  ·simp only[gV,h,Mk.vw,Mk.tok]
   congr 1
   simp[Mk.QX]
  ·simp only[gV,h];exact(Mk.GH m _ _ _ _).symm
  ·simp only[gV,h];exact(Mk.GI m _ _ _).symm
theorem GJ{a b:List Tok}(h:gV a=gV b):nI a=nI b:=by unfold nI;rw[Mk.yH,Mk.yH,h]
def lM(p:Part):Prop:=(p.kind=2/\p.n=0/\p.text≠[])\/((p.kind=1\/p.kind=3)/\0<p.n/\p.text=[])
def jS:Int->List Part->Prop
 |_,[]=>True
 |last,p::l=>lM p/\p.kind≠last/\¬(last=3/\p.kind=2)/\jS p.kind l
def og:Int->List Part->Int
 |k,[]=>k
 |_,p::l=>og p.kind l
theorem jT(k:Int)(a b:List Part):jS k (a++b)↔jS k a/\jS (og k a) b:=by
 induction a generalizing k with
 |nil=>simp[jS,og]
 |cons p a ih=>
  simp only[aD,jS,og,ih]
  constructor
  ·rintro⟨a,b,c,d,e⟩;exact⟨⟨a,b,c,d⟩,e⟩
  ·rintro⟨⟨a,b,c,d⟩,e⟩;exact⟨a,b,c,d,e⟩
theorem ph(k:Int)(a b:List Part):og k (a++b)=og (og k a) b:=by
 induction a generalizing k with
 |nil=>rfl
 |cons p a ih=>simp[og,ih]
theorem yI{p:Part}(h:lM p):lj p=0\/lj p=2:=by
 unfold lM at h;unfold lj
 grind
theorem yJ:∀(k:Int)(l:List Part),jS k l->qw k l=0\/qw k l=2
 |_,[],_=>.inl rfl
 |k,p::l,h=>by
  obtain⟨h1,h2,h3,h4⟩:=h;have h5:=yI h1;have h6:=yJ _ l h4;unfold qw;rw[aa (by rintro(h|h);exact h2 h;exact h3 h)]
  split
  ·rcases h5 with h|h
   ·exact absurd h (by assumption)
   ·exact .inr h
  ·exact h6
structure Mk.Ok(m:Mk):Prop where
 form:jS 0 m.out
 last:og 0 m.out=1\/og 0 m.out=0
 cut:0<=m.cut
theorem Mk.GK:Mk.new.Ok:=⟨trivial,.inr rfl,bn _⟩
theorem Mk.Ok.flush{m:Mk}(h:m.Ok):jS 0 m.flush:=by
 obtain⟨h1,h2,h3⟩:=h;unfold Mk.flush
 by_cases hp:m.put=[]
 ·rw[ab hp,bg,jT];refine⟨h1,?_⟩
  by_cases hc:0<m.cut
  ·rw[ab hc];exact⟨.inr ⟨.inr rfl,hc,rfl⟩,by show(3:Int)≠_;omega,by show¬(_/\(3:Int)=2);omega,trivial⟩
  ·rw[aa hc];trivial
 ·rw[aa hp,jT,jT,ph];refine⟨⟨h1,.inl ⟨rfl,rfl,hp⟩,by show(2:Int)≠_;omega,by show¬(_/\(2:Int)=2);omega,trivial⟩,?_⟩
  by_cases hc:0<m.cut
  ·rw[ab hc];exact⟨.inr ⟨.inr rfl,hc,rfl⟩,by show(3:Int)≠2;omega,by show¬(_/\(3:Int)=2);omega,trivial⟩
  ·rw[aa hc];trivial
theorem Ba{o:List Part}{n:Int}(h:jS 0 o)(hn:0<n):jS 0 (iR o n)/\og 0 (iR o n)=1:=by
 unfold iR;cases hl:o.getLast? with
 |none=>
  have:o=[]:=by simpa using hl
  subst this;exact⟨⟨.inr ⟨.inl rfl,hn,rfl⟩,by show(1:Int)≠0;omega,by show¬(_/\(1:Int)=2);omega,trivial⟩,rfl⟩
 |some p=>
  obtain⟨a,rfl⟩:∃a,o=a++[p]:=by
   have hne:o≠[]:=by intro h0;subst h0;simp at hl
   refine⟨o.dropLast,?_⟩;have:=List.dropLast_concat_getLast hne;rw[List.getLast?_eq_some_getLast hne] at hl;cases hl;exact this.symm
  rw[jT] at h;obtain⟨h1,h2,h3,h4,_⟩:=h
  by_cases hk:p.kind=1
  ·simp only[hk,↓reduceIte,eh];rw[jT,ph];refine⟨⟨h1,?_,?_,by show¬(_/\(1:Int)=2);omega,trivial⟩,rfl⟩
   ·rcases h2 with⟨h,_⟩|⟨_,h5,h6⟩
    ·omega
    ·exact .inr ⟨.inl rfl,by show 0<p.n+n;omega,h6⟩
   ·rw[hk] at h3;exact h3
  ·simp only[hk,↓reduceIte];rw[jT,ph,ph];refine⟨⟨(jT _ _ _).2 ⟨h1,h2,h3,h4,trivial⟩,.inr ⟨.inl rfl,hn,rfl⟩,?_,by show¬(_/\(1:Int)=2);omega,trivial⟩,rfl⟩;show(1:Int)≠p.kind;omega
theorem Mk.Ok.tok{m:Mk}(h:m.Ok)(t:Tok):(m.tok t).Ok:=by
 cases t
 ·have:=Ba h.flush (n:=1) qW;simp only[Mk.tok,Mk.fU];rw[aa qW];exact⟨this.1,.inl this.2,bn _⟩
 ·exact⟨h.form,h.last,h.cut⟩
 ·exact⟨h.form,h.last,by show 0<=m.cut+1;have:=h.cut;omega⟩
theorem Mk.Ok.run{m:Mk}(h:m.Ok)(ts:List Tok):(m.run ts).Ok:=by
 induction ts generalizing m with
 |nil=>exact h
 |cons t ts ih=>exact ih (h.tok t)
theorem qP(ts:List Tok):jS 0 (nI ts):=(Mk.GK.run ts).flush
theorem Ei(ts:List Tok):cR (nI ts)=0\/cR (nI ts)=2:=by
 have:=yJ 0 _ (qP ts);unfold cR
 grind
theorem LL(ts:List Tok):∀p∈nI ts,lj p=0\/lj p=2:=by
 have:∀(k:Int)(l:List Part),jS k l->∀p∈l,lM p:=by
  intro k l
  induction l generalizing k with
  |nil=>simp
  |cons q l ih=>
   intro h p hp
   rcases ah.1 hp with rfl|hp
   ·exact h.1
   ·exact ih _ h.2.2.2 p hp
 exact λp hp=>yI (this 0 _ (qP ts) p hp)
def ca(l:List BS):List (List V):=l.map λs=>[.str s]
def GM(l:List Bool):List (List V):=l.map λb=>[.bool b]
theorem oh(ts:List Tok)(x:Tok)(hx:x=.keep\/x=.cut)(n:Nat):iL (ts++List.replicate n x)=iL ts++List.replicate n (decide (x=.keep)):=by
 rw[vX]
 congr 1
 induction n with
 |zero=>rfl
 |succ n ih=>rcases hx with rfl|rfl<;>simp[bf,iL,ih]
theorem cd.kQ{s:S}{k k' ty sz r c:Nat}{o:Ob}{row:List V}(hk:s.h k=some o)(hr:o.rows[r]? =some row)(hc:row[c]? =some .nilsl)(d:s.h k'=none):
  cd s ⟨s.t,Hp.put (Hp.put s.h k ⟨o.b,o.ty,o.sz,o.rows.set r (row.set c (.own k' none sz 0))⟩) k' ⟨none,ty,sz,[]⟩⟩:=by
 intro C n a w hC hs;obtain⟨F,h1,h2⟩:=hs.ex;obtain⟨F',hF,e⟩:=iY.kQ hk hr hc d C F w hC h1;exact⟨⟨F',e,λi=>(h2 i).mono hF (λ_ h=>.inr h)⟩,hs.df,hs.sz⟩
theorem p7(l:List BS):∀r∈ca l,∀v∈r,Fz v:=by
 intro r hr v hv;obtain⟨s,_,rfl⟩:=aM.1 hr;simp only[ag] at hv;subst hv;exact .str _
theorem Bb(l:List BS):∀r∈ca l,r.length=1:=by
 intro r hr;obtain⟨s,_,rfl⟩:=aM.1 hr;rfl
def OM(ps:List BS)(ks:List Bool):V:=.agg [.sl false 1 (ca ps),.sl false 1 (GM ks)]
structure Mk.Bd(m:Mk)(j w:Nat):Prop where
 len:m.out.length<=3*j
 cut:0<=m.cut/\m.cut<=j
 ns:∀p∈m.out,0<=p.n/\p.n<=j
 put:m.put.length<=w
theorem Mk.xi:Mk.new.Bd 0 0:=⟨by simp[Mk.new],by simp[Mk.new],by simp[Mk.new],by simp[Mk.new]⟩
theorem Mk.Bd.iM{m:Mk}{j w:Nat}(h:m.Bd j w)(s:BS):(m.iM s).Bd j (w+s.length):=⟨h.len,h.cut,h.ns,by have:=h.put;simp[Mk.iM];omega⟩
theorem Mk.Bd.hO{m:Mk}{j w:Nat}(h:m.Bd j w)(n:Int)(hn:0<=n):(m.hO n).Bd (j+n.toNat) w:=
 ⟨by have:=h.len;simp only[Mk.hO];omega,by have:=h.cut;simp only[Mk.hO];omega,λp hp=>by have:=h.ns p hp;omega,h.put⟩
theorem Mk.Bd.flush{m:Mk}{j w:Nat}(h:m.Bd j w):m.flush.length<=3*j+2/\∀p∈m.flush,0<=p.n/\p.n<=j:=by
 have h1:=h.len;have h2:=h.cut;refine⟨?_,λp hp=>?_⟩
 ·unfold Mk.flush
  split<;>split<;>simp<;>omega
 ·unfold Mk.flush at hp;rw[bj,bj] at hp
  rcases hp with(hp|hp)|hp
  ·exact h.ns p hp
  ·split at hp
   ·cases hp
   ·simp at hp;subst hp;simp
  ·split at hp
   ·simp at hp;subst hp;exact h2
   ·cases hp
theorem Mk.Bd.fU{m:Mk}{j w:Nat}(h:m.Bd j w)(n:Int)(hn:0<=n):(m.fU n).Bd (j+n.toNat) w:=by
 unfold Mk.fU
 by_cases h0:n=0
 ·subst h0;simpa using h
 rw[aa h0];obtain⟨h1,h2⟩:=h.flush;refine⟨?_,by simp;omega,λp hp=>?_,by simp⟩
 ·simp only[iR]
  split
  ·split
   ·simp;omega
   ·simp;omega
  ·simp;omega
 ·simp only[iR] at hp
  split at hp
  ·rename_i q hq
   split at hp
   ·rcases bj.1 hp with hp|hp
    ·have:=h2 p ((List.dropLast_sublist _).mem hp);omega
    ·simp at hp;subst hp;have:=h2 q (List.mem_of_getLast? hq);simp only;omega
   ·rcases bj.1 hp with hp|hp
    ·have:=h2 p hp;omega
    ·simp at hp;subst hp;simp only;omega
  ·simp at hp;subst hp;simp only;omega
theorem Mk.Bd.mono{m:Mk}{j w a w':Nat}(h:m.Bd j w)(hj:j<=a)(hw:w<=w'):m.Bd a w':=
 ⟨by have:=h.len;omega,by have:=h.cut;omega,λp hp=>by have:=h.ns p hp;omega,by have:=h.put;omega⟩
theorem LM{f:Nat}{d:List Part}{v:V}(h:Spec Tryz.prog f [.sl true 3 (d.map a7)] Hp.emp (Is v))(hv:v.gy (gD [])=v):hJ (dF Tryz.prog) f [gI d] v:=gK h (λ_=>.cons (.qE _ _) .nil) hv
def yK(T:cm)(f:Nat)(args:List V)(pre:Mk->Prop)(g:Mk->Mk)(r:Nat->Option Nat->Nat->V):Prop:=
 ∀(k ka b:Nat)(ba:Option Nat)(n:Nat)(put:BS)(cut:Int)(rows:List (List V))(m:Mk)(h:Hp)(K:V->Hp->Prop),n=m.out.length/\rows=m.out.map a7/\put=m.put/\cut=m.cut->pre m->Nat.beq k ka=false->
  h k=some ⟨some b,88,3,[[.own ka ba 3 n,.str put,qI cut]]⟩->h ka=some ⟨ba,41,3,rows⟩->
  (∀(d:Option Nat)(n':Nat)(a:BS)(c:Int)(rows':List (List V)),n'=(g m).out.length/\rows'=(g m).out.map a7/\a=(g m).put/\c=(g m).cut->
   K (r ka d n') (Hp.put (Hp.put h k ⟨some b,88,3,[[.own ka d 3 n',.str a,qI c]]⟩) ka ⟨d,41,3,rows'⟩))->T f (.ptr k (some b) 3 0 0::args) h K
theorem xj{f:Nat}{args:List V}{pre:Mk->Prop}{g:Mk->Mk}{r0:Mk->Option Nat->V}{r:Nat->Option Nat->Nat->V}(hs:∀m,pre m->lL f args m (g m) (r0 m))(ha:args.all V.pl=true)(hr:∀m k ka ba,(r0 m ba).gy (gD [(0,k),(1000000,ka)])=r ka ba (g m).out.length):yK (dF Tryz.prog) f args pre g r:=by
 rintro k ka b ba n put cut rows m h K ⟨rfl,rfl,rfl,rfl⟩ hp hne hk c hK;have a:k≠ka:=by intro e;subst e;rw[bY] at hne;cases hne
 exact OL (hs m hp) ha a hk c λd=>by rw[hr];exact hK d _ _ _ _ ⟨rfl,rfl,rfl,rfl⟩
def nJ:Nat->Option Nat->Nat->V:=λ_ _ _=>.tup []
def yL:Nat->Option Nat->Nat->V:=λka ba n=>.own ka ba 3 n
theorem GN(k:Int)(hk:0<=k/\k<=1000000):yK (dF Tryz.prog) 32 [.int .i64 k] (λm=>∃j w,m.Bd j w/\j<=2000000) (λm=>m.fU k) nJ:=
 xj (λm⟨j,w,hb,hj⟩=>GC m k (by have:=hb.flush.1;omega) (λp hp=>by have:=hb.flush.2 p hp;unfold kA;omega) (by have:=hb.len;omega)) rfl (λ_ _ _ _=>rfl)
theorem Ps(s:BS)(hs:s.length<=1000000000):yK (dF Tryz.prog) 34 [.str s] (λm=>m.put.length+s.length<=1000000000) (λm=>m.iM s) nJ:=
 xj (λm h=>LG m s qW) rfl (λ_ _ _ _=>rfl)
theorem Pt(k:Int)(hk:0<=k/\k<=1000000):yK (dF Tryz.prog) 33 [.int .i64 k] (λm=>∃j w,m.Bd j w/\j<=2000000) (λm=>m.hO k) nJ:=
 xj (λm⟨j,w,hb,hj⟩=>LJ m k (by have:=hb.cut;unfold kA;omega)) rfl (λ_ _ _ _=>rfl)
theorem GO:yK (dF Tryz.prog) 35 [] (λm=>m.out.length<=100000000) (λm=>⟨m.flush,[],0⟩) yL:=
 xj (r0:=λm a=>.own 1000000 a 3 m.flush.length) (λm h=>GG m h) rfl (λm k ka ba=>by simp[V.gy,V.rl,gD,yL])
def qQ(rv:List RV)(sz:Nat)(rows':List (List V))(a:List V)(R:S->Prop):Prop:=
 (∀(s s':S),cd s s'->ia rv (.nilsl::a) s'->rows'=[]->R s)/\
 (∀(s s':S)(k:Nat)(b:Option Nat)(ty n:Nat)(rows:List (List V)),cd s s'->ia rv (.own k b sz n::a) s'->s'.h k=some ⟨b,ty,sz,rows⟩->n=rows'.length/\rows=rows'->R s)/\
 (∀(s s':S)(rows:List (List V)),cd s s'->ia rv (.sl false sz rows::a) s'->rows=rows'->R s)
theorem Pu{h:Hp}:∀{l:List V},(∀v∈l,Fz v)->Fr h (.tup l) (.tup l):=λhz=>.same _ (.tup _ hz)
theorem Bc{h:Hp}{v v':V}{b:List V}(h1:Fr h v v')(hz:∀v∈b,Fz v):Fr h (kI (v::b)) (kI (v'::b)):=by
 cases b with
 |nil=>exact h1
 |cons a b=>exact .jI h1 (Pu hz)
theorem lN{rv:List RV}{sz:Nat}{rows':List (List V)}{c:List V}{R:S->Prop}(hsz:∀r∈rows',r.length=sz)(hz:∀r∈rows',∀v∈r,Fz v)(a:∀v∈c,Fz v)(d:∀s s',cd s s'->Gq rv (kI (.sl false sz rows'::c)) s'->R s):qQ rv sz rows' c R:=by
 refine⟨?_,?_,?_⟩
 ·rintro s s' he hr rfl;exact d s s' he (da _ _ _ (λx hx=>by subst hx;exact Bc (.nilsl sz) a) hr)
 ·rintro s s' k b ty n rows he hr h1 ⟨rfl,rfl⟩;exact d s s' he (da _ _ _ (λx hx=>by subst hx;exact Bc (.rows h1 rfl rfl rfl hsz hz) a) hr)
 ·rintro s s' rows he hr rfl;exact d s s' he (da _ _ _ (λx hx=>by subst hx;exact Bc (.same _ (.sl _ _ hz)) a) hr)
theorem mS(d:List Part):∀r∈d.map a7,r.length=3:=by
 intro r hr;obtain⟨p,_,rfl⟩:=aM.1 hr;rfl
theorem ur(e:Int):∀v∈[V.int .i64 e],Fz v:=by intro v hv;simp at hv;subst hv;exact .int _ _
instance:DecidableEq Part:=λa b=>by
 cases a with
 |mk k n t=>cases b with
  |mk k' n' c=>exact decidable_of_iff (k=k'/\n=n'/\t=c) (by simp)
def om(p:Part):Int:=if p.kind<1\/3<p.kind\/p.n<0\/(p.kind=2/\0<p.n)\/(p.kind≠2/\p.text≠[]) then 3 else if 500<p.n\/500<(p.text.length:Int) then 2 else 0
def qS:List Part->Int
 |[]=>0
 |p::l=>if om p=0 then qS l else om p
def fZ(l:List Part):List Part×Int:=if 1600<l.length then([],2) else if qS l=0 then(if cR (nI (fP l))=0 then(nI (fP l),0) else([],2)) else([],qS l)
theorem Ch{p:Part}(h:om p=0):0<=p.n/\p.n<=500/\p.text.length<=500:=by
 unfold om at h
 grind
theorem yM(a b:List Part)(h:∀p∈a,om p=0):qS (a++b)=qS b:=by
 induction a with
 |nil=>rfl
 |cons p a ih=>
  have h1:=h p (by simp);simp only[aD,qS,h1,↓reduceIte];exact ih λq hq=>h q (by simp[hq])
theorem yN(m:Mk)(p:Part)(h:0<=p.n):m.run (ib p)=if p.kind=1 then m.fU p.n else if p.kind=2 then m.iM p.text else m.hO p.n:=by
 have e:((p.n.toNat:Nat):Int)=p.n:=by omega
 unfold ib
 by_cases h2:p.kind=2
 ·rw[ab h2,Mk.pf,aa qW,ab h2]
 ·rw[aa h2]
  by_cases h1:p.kind=1
  ·rw[ab h1,ab h1,Mk.od,e]
  ·rw[aa h1,aa h1,aa h2,Mk.ti,e]
theorem Ej(m:Mk)(pre:List Part)(p:Part):m.run (fP (pre++[p]))=(m.run (fP pre)).run (ib p):=by
 rw[lJ,Mk.kb];simp[fP]
theorem LN{m:Mk}{j w:Nat}(h:m.Bd j w)(p:Part)(hp:0<=p.n/\p.n<=500/\p.text.length<=500):(m.run (ib p)).Bd (j+500) (w+500):=by
 rw[yN m p hp.1]
 split
 ·exact(h.fU p.n hp.1).mono qW qW
 ·split
  ·exact(h.iM p.text).mono qW qW
  ·exact(h.hO p.n hp.1).mono qW qW
theorem yO:∀(l:List Part){m:Mk}{j w:Nat},m.Bd j w->(∀p∈l,0<=p.n/\p.n<=500/\p.text.length<=500)->(m.run (fP l)).Bd (j+500*l.length) (w+500*l.length)
 |[],m,j,w,h,_=>by simpa[fP,Mk.run] using h
 |p::l,m,j,w,h,hp=>by
  have h1:=LN h p (hp p (by simp));have h2:=yO l h1 λq hq=>hp q (by simp[hq]);simp only[fP,Mk.kb];exact h2.mono (by simp only[ar];omega) (by simp only[ar];omega)
theorem LO{ts:List Tok}{p:Part}(hp:p∈nI ts)(h:lj p≠0):lj p=2/\cR (nI ts)≠0:=by
 refine⟨(LL ts p hp).resolve_left h,λhc=>?_⟩;exact h (r6 0 _ (mR hc).2.1 p hp)
def Ci:AC:=qr [qo 2 (.mov (.c (.slice none 0 0))),qz 3 0] (qq (qr [qm 12 0,qo 13 (.len false (.t 12)),qc 14 .gtr 13 1600] (qu 14 (qr [qo 2 (.mov (.c (.slice none 0 0))),qz 3 2] .ret) .skip)) (qr [qo 4 (.alloc 88 SU)] (qq (qr [qm 15 0,qo 16 (.len false (.t 15)),qz 17 0] (.block 0 (.loop (qr [qb 18 .lss 17 16] (qq (qu 18 .skip (.exit 0)) (qq (.block 1 (qr [qo 19 (.iaddr 3 (.t 15) (.t 17)),qd 20 3 19,qo 6 (.alloc 41 yb),qs 3 6 20] (qq (qr [qf 21 0 6,ql 22 21,qc 23 .lss 22 1,qm 24 23,qg 25 24 false (.faddr 0 (.t 6)),qg 26 24 false (.load1 (.t 25)),qg 27 24 false (.bin .gtr (.t 26) (qk 3)),qo 28 (.pick (.t 24) (.c (.bool true)) (.t 27)),qm 29 28,qg 30 29 false (.faddr 1 (.t 6)),qg 31 29 false (.load1 (.t 30)),qg 32 29 false (.bin .lss (.t 31) (qk 0)),qo 33 (.pick (.t 29) (.c (.bool true)) (.t 32)),qm 34 33,qg 35 34 false (.faddr 0 (.t 6)),qg 36 34 false (.load1 (.t 35)),qg 37 34 false (.bin .eql (.t 36) (qk 2)),qg 38 34 false (.mov (.t 37)),qg 39 38 true (.faddr 1 (.t 6)),qg 40 38 true (.load1 (.t 39)),qg 41 38 true (.bin .gtr (.t 40) (qk 0)),qg 42 34 false (.pick (.t 38) (.t 41) (.c (.bool false))),qo 43 (.pick (.t 34) (.c (.bool true)) (.t 42)),qm 44 43,qg 45 44 false (.faddr 0 (.t 6)),qg 46 44 false (.load1 (.t 45)),qg 47 44 false (.bin .neq (.t 46) (qk 2)),qg 48 44 false (.mov (.t 47)),qg 49 48 true (.faddr 2 (.t 6)),qg 50 48 true (.load1 (.t 49)),qg 51 48 true (.bin .neq (.t 50) (.c qe)),qg 52 44 false (.pick (.t 48) (.t 51) (.c (.bool false))),qo 53 (.pick (.t 44) (.c (.bool true)) (.t 52))] (qu 53 (qr [qo 2 (.mov (.c (.slice none 0 0))),qz 3 3] .ret) .skip)) (qq (qr [qf 54 1 6,ql 55 54,qc 56 .gtr 55 500,qm 57 56,qg 58 57 false (.faddr 2 (.t 6)),qg 59 57 false (.load1 (.t 58)),qg 60 57 false (.len true (.t 59)),qg 61 57 false (.bin .gtr (.t 60) (qk 500)),qo 62 (.pick (.t 57) (.c (.bool true)) (.t 61))] (qu 62 (qr [qo 2 (.mov (.c (.slice none 0 0))),qz 3 2] .ret) .skip)) (qr [qf 63 0 6,ql 64 63] (.block 2 (qr [qc 69 .eql 64 1,qm 68 69] (qu 68 (qR [qf 70 1 6,ql 71 70,qa 72 32 [.t 4,.t 71]]) (qr [qc 74 .eql 64 2,qm 73 74] (qu 73 (qR [qf 75 2 6,ql 76 75,qa 77 34 [.t 4,.t 76]]) (qR [qf 65 1 6,ql 66 65,qa 67 33 [.t 4,.t 66]]))))))))))) (qR [qc 78 .add 17 1,qm 17 78]))))))) (qr [qa 79 35 [.t 4],qm 7 79] (qq (qr [qm 80 7,qo 81 (.len false (.t 80)),qz 82 0] (.block 3 (.loop (qr [qb 83 .lss 82 81] (qq (qu 83 .skip (.exit 3)) (qq (.block 4 (qr [qo 84 (.iaddr 3 (.t 80) (.t 82)),qd 85 3 84,qo 9 (.alloc 41 yb),qs 3 9 85] (qr [qd 86 3 9,qa 87 221 [.t 86],qm 10 87] (qr [qm 88 10,qc 89 .neq 88 0] (qu 89 (qr [qm 90 10,qo 2 (.mov (.c (.slice none 0 0))),qm 3 90] .ret) .skip))))) (qR [qc 91 .add 82 1,qm 82 91]))))))) (qq (qr [qm 92 7,qa 93 187 [.t 92],qm 11 93] (qr [qm 94 11,qc 95 .neq 94 0] (qu 95 (qr [qm 96 11,qo 2 (.mov (.c (.slice none 0 0))),qm 3 96] .ret) .skip))) (qr [qm 97 7,qm 2 97,qz 3 0] .ret)))))))
theorem LP:fF Tryz.prog 199 Tryz.f199 Ci [.t 2,.t 3] 1 dS:=⟨Tryz.func199,by decide+kernel,by kernel_rfl,by kernel_rfl,by decide+kernel⟩
structure YN(d:List Part) where
 k:Int
 pre:List Part
 rest:List Part
 m:Mk
 n:Nat
 put:BS
 cut:Int
 rows:List (List V)
 ba:Option Nat
 hd:d=pre++rest
 hk:k=(pre.length:Int)
 hm:n=m.out.length/\rows=m.out.map a7/\put=m.put/\cut=m.cut
 im:m=Mk.new.run (fP pre)
 hZ:∀p∈pre,om p=0
structure YI(α:Type)(d:List α)(A:α->Prop) where
 k:Int
 pre:List α
 rest:List α
 hd:d=pre++rest
 hk:k=(pre.length:Int)
 hZ:∀p∈pre,A p
theorem LQ(P:Prim)(hP:P=cp)(T T1:cm)(l:List Part)(SX:l.length<=maxLen)(rows:List (List V))(hrows:rows=l.map a7)
  (i:∀k:Int,0<=k/\k<=1000000->yK T 32 [qI k] (λm=>∃j w,m.Bd j w/\j<=2000000) (λm=>m.fU k) nJ)
  (o:∀s:BS,s.length<=1000000000->yK T 34 [.str s] (λm=>m.put.length+s.length<=1000000000) (λm=>m.iM s) nJ)
  (q:∀k:Int,0<=k/\k<=1000000->yK T 33 [qI k] (λm=>∃j w,m.Bd j w/\j<=2000000) (λm=>m.hO k) nJ)
  (g:yK T 35 [] (λm=>m.out.length<=100000000) (λm=>⟨m.flush,[],0⟩) yL)
  (f:∀k n t,hJ T 221 [.agg [qI k,qI n,.str t]] (qI (lj ⟨k,n,t⟩)))
  (a:∀(d:List Part)(h:Hp)(K:V->Hp->Prop)(k:Nat)(b:Option Nat)(n:Nat)(rs:List (List V)),d.length<=100000000->rs=d.map a7->n=rs.length->h k=some ⟨b,41,3,rs⟩->K (qI (cR d)) h->T 187 [.own k b 3 n] h K)
  (r:List Part)(e:Int)(hr:fZ l=(r,e))(rr:List (List V))(B:rr=r.map a7)
  (R:S->Prop)(v:∀e2,e2=e->qQ [.t 2,.t 3] 3 rr [qI e2] R):gE P T T1 Ci (S0 [.sl true 3 rows] Hp.emp) R (λ_ _=>False) R:=by
 have h1:P.cF rows=l.length:=by subst hP;simp[cp,hrows]
 cbv;refine a6 (λh=>?_) (λh=>?_)
 ·cbv;refine(v _ ?_).1 _ _ (cd.refl _) rfl ?_
  all_goals(clear v i o q g f a;subst hP;simp[cp,nc] at h h1;have h3:1600<l.length:=by omega)
  all_goals(rw[fZ,ab h3] at hr;cases hr;first|rfl|simpa using B)
 have X:l.length<=1600:=by clear v i o q g f a;subst hP;simp[cp,nc] at h h1;omega
 cbv;intro Y;cbv;refine⟨YN l,λy=>[(4,.ptr 4 (some Y) 3 0 0),(15,.sl true 3 rows),(16,qI (P.cF rows)),(17,qI y.k)],
  λy=>[(4,⟨some Y,88,3,[[.own 1000999 y.ba 3 y.n,.str y.put,qI y.cut]]⟩),(1000999,⟨y.ba,41,3,y.rows⟩)],λy=>y.rest.length,
  ⟨_,cd.kQ (k:=4) (k':=1000999) (ty:=41) (sz:=3) (r:=0) (c:=0) rfl rfl rfl rfl,⟨0,[],l,Mk.new,_,_,_,_,_,rfl,rfl,⟨rfl,rfl,rfl,rfl⟩,rfl,by simp⟩,⟨rfl,rfl,rfl,rfl,trivial⟩,⟨rfl,rfl,trivial⟩⟩,?_⟩
 rintro⟨k,pre,rest,m,n,put,cut,Rr,ba,hd,hk,hm,im,hZ⟩;have TD:pre.length+rest.length<=1600:=by rw[hd] at X;simpa using X
 have E:m.Bd (500*pre.length) (500*pre.length):=by
  have:=yO pre Mk.xi λp hp=>Ch (hZ p hp);rw[im];simpa using this
 cbv;refine a6 (λh=>?_) (λh=>?_)
 ·rcases rest with _|⟨⟨kd,C,t⟩,rest⟩
  ·exfalso;clear v i o q g f a;subst hP;simp[cp,nc] at h h1 hk;rw[hd] at h1;simp at h1;omega
  replace hk:k=(pre.length:Int):=hk
  have x:=xf hrows hd hk P hP;have ho:P.fK 0 k:=by clear v i o q g f a;subst hP;simp only[cp];omega
  have A:P.i64 (P.add k 1):=by clear v i o q g f a;subst hP;simp only[cp,kA];omega
  cbv;refine⟨ho,_,x,?_⟩;cbv;intro XE;cbv
  by_cases hf:om ⟨kd,C,t⟩=0
  ·have hb:=Ch hf;simp only[] at hb;have VV:=hf;simp only[om] at VV;have XF:1<=kd/\kd<=3/\(kd=2->C=0)/\(kd≠2->t=[]):=by clear v i o q g f a;grind
   have F:=Ej Mk.new pre ⟨kd,C,t⟩;rw[yN _ _ hb.1,<-im] at F;have Z:∀p∈pre++[⟨kd,C,t⟩],om p=0:=by intro p hp;rcases bj.1 hp with hp|hp;exact hZ p hp;simp at hp;subst hp;exact hf
   have kc:=i C ⟨hb.1,qW⟩;have pc:=o t qW;have cc:=q C ⟨hb.1,qW⟩;clear i o q
   repeat'(first
    |(refine a6 (λh=>?_) (λh=>?_)<;>try cbv)
    |(refine kc _ _ _ _ _ _ _ _ m _ _ hm ⟨_,_,E,qW⟩ rfl rfl rfl λD n' G H rows' I=>?_;cbv)
    |(refine pc _ _ _ _ _ _ _ _ m _ _ hm (by have:=E.put;omega) rfl rfl rfl λD n' G H rows' I=>?_;cbv)
    |(refine cc _ _ _ _ _ _ _ _ m _ _ hm ⟨_,_,E,qW⟩ rfl rfl rfl λD n' G H rows' I=>?_;cbv)
    |(refine And.intro (by assumption) ?_;cbv))
   all_goals first
    |(exfalso;clear v g f a kc pc cc x ho A;subst hP;simp[cp,nc] at*;grind)
    |(refine⟨_,cd.refl _,⟨_,pre++[⟨kd,C,t⟩],rest,_,_,_,_,_,_,by simp[hd],?_,I,?_,Z⟩,⟨rfl,rfl,rfl,rfl,trivial⟩,⟨rfl,rfl,trivial⟩,by simp⟩
      ·clear v g f a kc pc cc x ho A;subst hP;simp[cp,hk]
      ·clear v g f a kc pc cc x ho A;subst hP;rw[F];simp[cp] at*;simp[*])
  ·have J:qS l=om ⟨kd,C,t⟩:=by rw[hd,yM _ _ hZ,qS,aa hf]
   have Q:fZ l=([],om ⟨kd,C,t⟩):=by rw[fZ,aa qW,J,aa hf]
   rw[hr] at Q;cases Q;clear i o q g f a
   repeat'(first
    |(refine a6 (λh=>?_) (λh=>?_)<;>try cbv))
   all_goals first
    |(exfalso;clear v x ho A;subst hP;simp[cp,nc] at*;simp[om] at hf;grind)
    |(refine(v _ ?_).1 _ _ (cd.refl _) rfl (by simpa using B)
      clear v x ho A;subst hP;simp[cp,nc] at*;simp only[om] at*;grind)
 ·have U:rest=[]:=by
   cases rest with
   |nil=>rfl
   |cons p rest=>exfalso;clear v i o q g f a;subst hP;simp[cp,nc] at h h1 hk;rw[hd] at h1;simp at h1;omega
  subst U;rw[bg] at hd;subst hd;have J:qS l=0:=by have:=yM l [] hZ;simpa[qS] using this
  have hbl:=E.len;have XG:=E.flush.1;have L:m.flush=nI (fP l):=by rw[im];rfl
  cbv;refine g _ _ _ _ _ _ _ _ m _ _ hm qW rfl rfl rfl λD n' G H rows' I=>?_;obtain⟨N,u,_,_⟩:=I;simp only[] at N u;have XH:P.int n'=m.flush.length:=by subst hP;simp[cp,N]
  clear i o q g;cbv;refine⟨YI Part m.flush (λp=>lj p=0),λy=>[(7,.own 1000999 D 3 n'),(80,.own 1000999 D 3 n'),(81,qI (P.int n')),(82,qI y.k)],
   λy=>[(1000999,⟨D,41,3,rows'⟩)],λy=>y.rest.length,
   ⟨_,cd.refl _,⟨0,[],m.flush,rfl,rfl,by simp⟩,⟨rfl,rfl,rfl,rfl,trivial⟩,⟨rfl,trivial⟩⟩,?_⟩
  rintro⟨k2,M,z,O,hk2,TE⟩;have Rs:m.flush.length=M.length+z.length:=by rw[O];simp
  cbv;refine a6 (λh=>?_) (λh=>?_)
  ·rcases z with _|⟨⟨kd,C,t⟩,z⟩
   ·exfalso;clear v f a;subst hP;simp[cp,nc] at*;omega
   replace hk2:k2=(M.length:Int):=hk2
   have x:=xf u O hk2 P hP;have ho:P.fK 0 k2:=by clear v f a;subst hP;simp only[cp];omega
   have A:P.i64 (P.add k2 1):=by clear v f a;subst hP;simp only[cp,kA];omega
   have TF:P.iq k2 (P.int n'):=by clear v f a;subst hP;simp only[cp];simp at Rs;omega
   cbv;refine⟨ho,TF,_,x,?_⟩;cbv;intro XI;cbv;refine f _ _ _ _ _ ?_
   generalize W:lj ⟨kd,C,t⟩=fv
   cbv;refine a6 (λh=>?_) (λh=>?_)
   ·have hne:lj ⟨kd,C,t⟩≠0:=by rw[W];clear v f a;subst hP;simpa[cp] using h
    obtain⟨h2,h3⟩:=LO (ts:=fP l) (by rw[<-L,O];simp) hne;rw[fZ,aa qW,ab J,aa h3] at hr;cases hr;cbv;exact(v _ (by rw[<-W];exact h2)).1 _ _ (cd.refl _) rfl (by simpa using B)
   ·cbv;refine⟨A,_,cd.refl _,⟨_,M++[⟨kd,C,t⟩],z,by simp[O],?_,?_⟩,⟨rfl,rfl,rfl,rfl,trivial⟩,⟨rfl,trivial⟩,by simp⟩
    ·clear v f a;subst hP;simp[cp,hk2]
    ·intro p hp
     rcases bj.1 hp with hp|hp
     ·exact TE p hp
     ·simp at hp;subst hp;rw[W];clear v f a;subst hP;simpa[cp] using h
  ·cbv;refine a m.flush _ _ _ _ _ _ qW u (by rw[N,u];simp) rfl ?_
   generalize hcv:cR m.flush=cv
   cbv;refine a6 (λh=>?_) (λh=>?_)
   ·have hne:cv≠0:=by clear v f a;subst hP;simpa[cp] using h
    have h2:cv=2:=by rw[<-hcv,L];exact(Ei (fP l)).resolve_left (by rw[<-L,hcv];exact hne)
    rw[fZ,aa qW,ab J,<-L,hcv,aa hne] at hr;cases hr;cbv;exact(v _ h2).1 _ _ (cd.refl _) rfl (by simpa using B)
   ·have hz:cv=0:=by clear v f a;subst hP;simpa[cp] using h
    rw[fZ,aa qW,ab J,<-L,hcv,ab hz] at hr;cases hr;cbv;exact(v _ rfl).2.1 _ _ _ _ _ _ _ (cd.refl _) rfl rfl ⟨by rw[B,N];simp,by rw[B,u]⟩
theorem jU{h:Hp}{k sz n ty:Nat}{b:Option Nat}{rs:List (List V)}(hn:n=rs.length)(hk:h k=some ⟨b,ty,sz,rs⟩):rowsOf h sz (.own k b sz n)=some rs:=by
 simp only[rowsOf,hk];rw[ab ⟨trivial,trivial,trivial,qW⟩,hn,aN]
theorem xk{f sz ty:Nat}{rows:List (List V)}{v:V}(hs:Spec Tryz.prog f [.sl true sz rows] Hp.emp (Is v))(hv:v.gy (gD [])=v)(h:Hp)(K:V->Hp->Prop)(k:Nat)(b:Option Nat)(n:Nat)(rs:List (List V))(a:rs=rows)(hn:n=rs.length)(hk:h k=some ⟨b,ty,sz,rs⟩)(hK:K v h):dF Tryz.prog f [.own k b sz n] h K:=
 ⟨h,iY.refl h,lA hs (.cons (.own k b sz n rows (by rw[jU hn hk,a]) (by simp)) .nil) (by rw[hv];exact hK)⟩
theorem LR(l:List Part)(hl:l.length<=maxLen):Spec Tryz.prog 199 [.sl true 3 (l.map a7)] Hp.emp (Is (.tup [gI (fZ l).1,.int .i64 (fZ l).2])):=
 kX hW LP λR c=>LQ cp rfl _ _ l hl _ rfl (λk hk=>GN k hk) (λs hs=>Ps s hs) (λk hk=>Pt k hk) GO (λk n t=>gK (Gg ⟨_,_,_⟩) (λh=>.cons (.same _) .nil) rfl)
  (λd h K k b n rs hd a hn hk hK=>xk (lI d (by(have:maxLen=9223372036854775807:=by decide);omega)) rfl h K k b n rs a hn hk hK) _ _ rfl _ rfl R λe he=>by
  subst he;exact lN (mS _) (fL _) (ur _) λs s' he hr=>c s s' he hr
theorem Gr(ps:List BS)(ks:List Bool):(OM ps ks).gy (gD [])=OM ps ks:=rfl
theorem gj{t:Bool}{A B:Prop}(ht:t=true)(h:A):br.match_1 (λ_=>Prop) t (λ_=>A) (λ_=>B):=by subst ht;exact h
theorem eB{t:Bool}{A B:Prop}(ht:t=false)(h:B):br.match_1 (λ_=>Prop) t (λ_=>A) (λ_=>B):=by subst ht;exact h
section
variable {P:Prim} (hP:P=cp)
include hP
theorem gM{a b:Int}(h:P.lt a b=true):a<b:=by subst hP;exact cf h
theorem gN{a b:Int}(h:P.lt a b=false):¬a<b:=by subst hP;exact cJ h
theorem j6{a b:Int}(h:P.le a b=true):a<=b:=by subst hP;exact cf h
theorem j7{a b:Int}(h:P.le a b=false):¬a<=b:=by subst hP;exact cJ h
theorem mz{a b:Int}(h:P.eq a b=true):a=b:=by subst hP;exact cf h
theorem mA{a b:Int}(h:P.eq a b=false):¬a=b:=by subst hP;exact cJ h
theorem iG{a b:Int}(h:P.ne a b=true):¬a=b:=by subst hP;exact cf h
theorem iy{a b:Int}(h:P.ne a b=false):a=b:=by subst hP;exact aK (cJ h)
theorem ON{a b:BS}(h:P.seq a b=true):a=b:=by subst hP;exact cf h
theorem GP{a b:BS}(h:P.seq a b=false):¬a=b:=by subst hP;exact cJ h
theorem Cj{a b:BS}(h:P.QW a b=true):¬a=b:=by subst hP;exact cf h
theorem Ck{a b:BS}(h:P.QW a b=false):a=b:=by subst hP;exact aK (cJ h)
theorem xl{a b:Int}(h:a<b):P.lt a b=true:=by subst hP;exact dj h
theorem qT{a b:Int}(h:¬a<b):P.lt a b=false:=by subst hP;exact bS h
theorem p8{a b:Int}(h:a=b):P.eq a b=true:=by subst hP;exact dj h
theorem p9{a b:Int}(h:¬a=b):P.eq a b=false:=by subst hP;exact bS h
theorem yP{a b:Int}(h:¬a=b):P.ne a b=true:=by subst hP;exact dj h
theorem xm{a b:Int}(h:a=b):P.ne a b=false:=by subst hP;exact bS (λhh=>hh h)
theorem oq{a b:BS}(h:a=b):P.seq a b=true:=by subst hP;exact dj h
theorem ic{a b:BS}(h:¬a=b):P.seq a b=false:=by subst hP;exact bS h
theorem Rt{a b:BS}(h:¬a=b):P.QW a b=true:=by subst hP;exact dj h
theorem Ru(a b:Int):P.mn a b=min a b:=by subst hP;rfl
theorem Rv(a b:Int):P.mx a b=max a b:=by subst hP;rfl
theorem hX(rows:List (List V)):P.cF rows=(rows.length:Int):=by subst hP;rfl
theorem cA(s:BS):P.b5 s=(s.length:Int):=by subst hP;rfl
theorem add_eq(a b:Int):P.add a b=a+b:=by subst hP;rfl
theorem sub_eq(a b:Int):P.sub a b=a-b:=by subst hP;rfl
theorem int_eq(n:Nat):P.int n=(n:Int):=by subst hP;rfl
theorem iJ{k:Int}(h:0<=k):P.fK 0 k:=by subst hP;exact h
theorem qy{a b:Int}(h:a<=b):P.fK a b:=by subst hP;exact h
theorem lk{a b:Int}(h:a<b):P.iq a b:=by subst hP;exact h
theorem fm{a:Int}(h: -9223372036854775808<=a/\a<=9223372036854775807):P.i64 a:=by subst hP;exact h
theorem gz{rows:List (List V)}{i:Nat}{r:List V}{k:Int}(hk:k=(i:Int))(h:rows[i]? =some r):P.row rows (P.nat k) r:=by
 subst hP;subst hk;show rows[((i:Nat):Int).toNat]? =some r;rw[aG];exact h
end
theorem yQ{f:Nat}{d:List Part}{vs:List V}{v:V}(h:Spec Tryz.prog f (.sl true 3 (d.map a7)::vs) Hp.emp (Is v))(hv:v.gy (gD [])=v)(a:vs.all V.pl=true):hJ (dF Tryz.prog) f (gI d::vs) v:=gK h (λ_=>.cons (.qE _ _) (fX a)) hv
theorem jP{f:Nat}{vs:List V}{v:V}(h:Spec Tryz.prog f vs Hp.emp (Is v))(hv:v.gy (gD [])=v)(a:vs.all V.pl=true):hJ (dF Tryz.prog) f vs v:=gK h (λ_=>fX a) hv
theorem ou(d:List Part)(h:∀p∈d,nR p):(kE (fP d):Int)=lg d:=by
 induction d with
 |nil=>rfl
 |cons p d ih=>
  have h1:=gU (h p (by simp));have h2:=ih λq hq=>h q (by simp[hq]);simp only[fP,lv,lg];have:(kE (ib p):Int)=if p.kind=1\/p.kind=3 then p.n else 0:=by
   unfold ib
   by_cases b:p.kind=2
   ·rw[ab b,aa qW];simp[kE,r7]
   ·rw[aa b];have hr:∀(n:Nat)(x:Tok),x=.keep\/x=.cut->kE (List.replicate n x)=n:=by
     intro n x hx;have:=oh [] x hx n;simp only[cL,iL] at this;simp[kE,this]
    have a:p.kind=1\/p.kind=3:=by omega
    rw[ab a]
    split
    ·rw[hr _ _ (.inl rfl)];omega
    ·rw[hr _ _ (.inr rfl)];omega
  rw[<-this,<-h2];omega
theorem yR(n:Nat)(x:Tok):iN (List.replicate n x)=if x=.cut then 0 else n:=by
 induction n with
 |zero=>simp[iN]
 |succ n ih=>cases x<;>simp[bf,iN,ih]
theorem yS(t:BS):iN (t.map .put)=t.length:=by
 induction t with
 |nil=>rfl
 |cons b t ih=>simp[iN,ih]
theorem pj(d:List Part)(h:∀p∈d,nR p):(iN (fP d):Int)=ig d:=by
 induction d with
 |nil=>rfl
 |cons p d ih=>
  have h1:=gU (h p (by simp));have h2:=ih λq hq=>h q (by simp[hq]);simp only[fP,uq,ig];have:(iN (ib p):Int)=if p.kind=1 then p.n else if p.kind=3 then 0 else p.text.length:=by
   unfold ib
   by_cases a:p.kind=2
   ·rw[ab a,yS,aa qW,aa qW]
   ·rw[aa a]
    split
    ·rw[yR,aa (by simp)];omega
    ·rw[yR,ab rfl,ab qW];rfl
  rw[<-this,<-h2];omega
theorem gw{d:List Part}(h:cR d=0):d.length<=1600/\(∀p∈d,nR p)/\lg d<=500/\ig d<=500/\0<=lg d/\0<=ig d:=by
 obtain⟨h1,h2,h3,h4⟩:=mR h;have h5:=r6 0 d h2;exact⟨h1,h5,h3,h4,(A6 d h5).1,(th d h5).1⟩
end Go.Proofs.YtajdadcdcpnedaaGreatDoor.AM
