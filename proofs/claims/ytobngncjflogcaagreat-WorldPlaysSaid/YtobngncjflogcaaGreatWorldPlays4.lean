/-
  Part 4 of what the law WorldPlays reaches: the plain machine, contracts of the functions and plain laws; each lemma says its own condition.
-/
import Derived.Test.YtobngncjflogcaaGreatWorldPlays3
import Derived.Test.YtobngncjflogcaaGreatWorldPlays1
import Derived.KernelRfl
import Derived.OpenShut
import Derived.Test.YtobngncjflogcaaGreatRows
set_option linter.unusedVariables false
set_option linter.unusedSimpArgs false
namespace Go.Proofs.YtobngncjflogcaaGreat.AM
open Go
def pM.s6:pM->List hJ
 |.mov x=>[x]
 |.pick c a b=>[c,a,b]
 |.alloc _ _=>[]
 |.box _ _ x=>[x]
 |.build _ ps=>ps.map (·.2.2)
 |.bslice _ _ ps=>ps
 |.load1 x=>[x]
 |.loadn _ x=>[x]
 |.store _ x v=>[x,v]
 |.nilchk x=>[x]
 |.bin _ x y=>[x,y]
 |.eqb _ x y=>[x,y]
 |.eqp _ x y=>[x,y]
 |.eqn _ x=>[x]
 |.eqs _ _ x y=>[x,y]
 |.not x=>[x]
 |.conv _ x=>[x]
 |.mkslice _ _ _ _ l c=>[l,c]
 |.slstr x lo hi=>x::(lo.toList++hi.toList)
 |.slsl _ x lo hi=>x::(lo.toList++hi.toList)
 |.faddr _ x=>[x]
 |.fld1 _ x=>[x]
 |.fldn _ _ x=>[x]
 |.iaddr _ x i=>[x,i]
 |.iarr _ _ x i=>[x,i]
 |.ixs x i=>[x,i]
 |.ext _ x=>[x]
 |.len _ x=>[x]
 |.mm _ x y=>[x,y]
 |.append _ _ _ x y=>[x,y]
 |.call _ xs=>xs
 |.callv x xs=>x::xs
 |.mkfn _ xs=>xs
 |.convbs x=>[x]
 |.dead=>[]
 |.ixa _ _ _ x i=>[x,i]
theorem nQ{p:Prim}{T:cp}{op:pM}{ev ev':hJ->V}{h:Hp}{k:Nat}{K:V->Hp->Prop}(he:∀x∈op.s6,ev x=ev' x):fC p T op ev h k K=fC p T op ev' h k K:=by
 cases op<;>simp only[pM.s6] at he<;>simp only[fC]
 case build z ps=>
  have e:∀q∈ps,ev q.2.2=ev' q.2.2:=λq hq=>he _ (aC.2 ⟨q,hq,rfl⟩);have e1:(ps.all λq=>mP q.2.1 (ev q.2.2))=ps.all λq=>mP q.2.1 (ev' q.2.2):=by
   rw[cx,aE,aE];exact⟨λh q hq=>by rw[<-e q hq];exact h q hq,λh q hq=>by rw[e q hq];exact h q hq⟩
  have e2:(ps.map λq=>(q.1,(ev q.2.2).cells))=ps.map λq=>(q.1,(ev' q.2.2).cells):=bQ λq hq=>by rw[e q hq]
  rw[e1,e2]
 case bslice ty sz ps=>
  have e1:(ps.all λq=>mP sz (ev q))=ps.all λq=>mP sz (ev' q):=by
   rw[cx,aE,aE];exact⟨λh q hq=>by rw[<-he q hq];exact h q hq,λh q hq=>by rw[he q hq];exact h q hq⟩
  have e2:(ps.map λq=>(ev q).cells)=ps.map λq=>(ev' q).cells:=bQ λq hq=>by rw[he q hq]
  rw[e1,e2]
 case call f xs=>rw[bQ he]
 case mkfn f xs=>rw[bQ he]
 case callv x xs=>rw[he x (by simp),bQ λq hq=>he q (by simp[hq])]
 case slstr x lo hi=>
  rw[he x (by simp)];cases lo<;>cases hi<;>simp_all
 case slsl sz x lo hi=>
  rw[he x (by simp)];cases lo<;>cases hi<;>simp_all
 all_goals(simp_all)
def pM.oL:pM->Bool
 |.mov _|.pick .. |.build .. |.nilchk _|.bin .. |.eqb .. |.eqp .. |.not _|.conv .. |.slstr .. |.slsl .. |.faddr .. |.fld1 .. |.fldn .. |.iaddr .. |.iarr .. |.ixs .. |.ext .. |.mm .. =>true
 |.len .. =>true
 |.eqs .. =>true
 |.mkfn .. =>true
 |_=>false
def pM.Gv:pM->Bool
 |.load1 _|.loadn .. =>true
 |_=>false
def fT(Φ:(V->Prop)->Prop):Prop:=∀K,Φ K->∃v,K v/\∀a,(Φ a↔a v)
theorem fT.unit(v:V):fT λK=>K v:=λK h=>⟨v,h,λ_=>Iff.rfl⟩
theorem fT.no:fT λ_=>False:=λK h=>h.elim
theorem fT.and{A:Prop}{Φ:(V->Prop)->Prop}(h:fT Φ):fT λK=>A/\Φ K:=λK⟨a,hk⟩=>by
 obtain⟨v,h1,h2⟩:=h K hk;exact⟨v,h1,λb=>⟨λhh=>(h2 b).1 hh.2,λhh=>⟨a,(h2 b).2 hh⟩⟩⟩
theorem fT.ex{α:Type}{A:α->Prop}{Φ:α->(V->Prop)->Prop}(hu:∀x y,A x->A y->x=y)(h:∀x,fT (Φ x)):fT λK=>∃x,A x/\Φ x K:=λK⟨x,a,hk⟩=>by
 obtain⟨v,h1,h2⟩:=h x K hk;exact⟨v,h1,λc=>⟨λ⟨y,b,hh⟩=>by rw[hu y x b a] at hh;exact(h2 c).1 hh,λhh=>⟨x,a,(h2 c).2 hh⟩⟩⟩
theorem fT.arith(k:IntKind)(n:Int):fT (p7 ca k n):=by
 cases k<;>first|exact fT.unit _|exact fT.and (fT.unit _)
theorem fT.bin(op:BinOp)(x y:V):fT (Gn ca op x y):=by
 cases x<;>cases y<;>try(cases op<;>exact fT.no)
 case int.int k a k' b=>
  cases op<;>first|exact fT.no|exact fT.and (fT.arith _ _)|exact fT.and (fT.and (fT.and (fT.arith _ _)))|exact fT.and (fT.and (fT.and (fT.unit _)))|exact fT.and (fT.and (fT.arith _ _))|exact fT.and (fT.and (fT.unit _))|exact fT.and (fT.unit _)
 case str.str a b=>
  cases op<;>first|exact fT.no|exact fT.and (fT.unit _)|exact fT.unit _
theorem fT.len(s:Bool)(x:V):fT (PR ca s x):=by
 cases s<;>cases x<;>first|exact fT.no|exact fT.unit _
theorem fT.eqb(n:Bool)(x y:V):fT (D8 n x y):=by
 cases x<;>cases y<;>first|exact fT.no|exact fT.unit _
theorem fT.eqp(n:Bool)(x y:V):fT (yN n x y):=by
 unfold yN;cases Sy x y with
 |none=>exact fT.no
 |some b=>exact fT.unit _
theorem fT.c1{t:Nat}{x y:V}{Φ:Bool->(V->Prop)->Prop}(h:∀b,fT (Φ b)):fT λK=>Ek ca t x y λb=>Φ b K:=by
 unfold Ek
 split
 ·exact h _
 ·exact fT.and (h _)
 ·exact h _
 ·exact fT.no
theorem fT.cs:∀{ts:List Nat}{cs c:List V}{Φ:Bool->(V->Prop)->Prop},(∀b,fT (Φ b))->fT λK=>pO ca ts cs c λb=>Φ b K
 |[],[],[],Φ,h=>h true
 |[t],[a],[b],Φ,h=>fT.c1 h
 |t::t2::ts,a::l,b::m,Φ,h=>fT.c1 λx=>fT.cs λy=>h _
 |[t],a::a2::l,b::m,Φ,h=>fT.c1 λx=>fT.no
 |[t],[a],b::b2::m,Φ,h=>fT.c1 λx=>fT.no
 |[],_::_,_,Φ,h=>by simp only[pO];exact fT.no
 |[],[],_::_,Φ,h=>by simp only[pO];exact fT.no
 |_::_,[],_,Φ,h=>by simp only[pO];exact fT.no
 |_::_,_::_,[],Φ,h=>by simp only[pO];exact fT.no
theorem fT.eqs(n:Bool)(ts:List Nat)(x y:V):fT (LX ca n ts x y):=by
 cases x<;>cases y<;>try exact fT.no
 cases n
 ·exact fT.cs (Φ:=λb K=>K (.bool b)) λb=>fT.unit _
 ·refine fT.cs (Φ:=λb K=>br b (λ_=>K (.bool false)) (λ_=>K (.bool true))) λb=>?_;cases b
  ·exact fT.unit (.bool true)
  ·exact fT.unit (.bool false)
theorem fT.nth(cs:List V)(i:Nat):fT (xz cs i):=fT.and (fT.unit _)
theorem fT.lo{lo:Option V}{Φ:Int->(V->Prop)->Prop}(h:∀a,fT (Φ a)):fT λK=>Bg lo λa=>Φ a K:=by
 cases lo with
 |none=>exact h 0
 |some v=>cases v<;>first|exact h _|exact fT.no
theorem fT.hi{hi:Option V}{n:Int}{Φ:Int->(V->Prop)->Prop}(h:∀a,fT (Φ a)):fT λK=>LV ca hi n λa=>Φ a K:=by
 cases hi with
 |none=>exact h n
 |some v=>cases v<;>first|exact h _|exact fT.no
theorem gM{T:cp}{op:pM}{ev:hJ->V}{h:Hp}{k:Nat}{K:V->Hp->Prop}{Φ:(V->Prop)->Prop}(hd:fT Φ)(he:∀h2 k2(a:V->Hp->Prop),fC ca T op ev h2 k2 a=Φ λv=>a v h2)(hh:fC ca T op ev h k K):
  ∃v,K v h/\∀h2 k2(a:V->Hp->Prop),(fC ca T op ev h2 k2 a↔a v h2):=by
 rw[he] at hh;obtain⟨v,h1,h2⟩:=hd _ hh;exact⟨v,h1,λg k2 a=>by rw[he];exact h2 _⟩
theorem y5{T:cp}{op:pM}{ev:hJ->V}{h:Hp}{k:Nat}{K:V->Hp->Prop}(hp:op.oL=true)(hh:fC ca T op ev h k K):
  ∃v,K v h/\∀h2 k2(d:V->Hp->Prop),(fC ca T op ev h2 k2 d↔d v h2):=by
 cases op<;>try(cases hp;done)
 case mov x=>exact gM (fT.unit (ev x)) (λ_ _ _=>rfl) hh
 case pick c a b=>
  cases hc:ev c<;>try(simp only[fC,hc] at hh;done)
  case bool t=>
   cases t
   ·exact gM (fT.unit (ev b)) (λ_ _ _=>by simp only[fC,hc]) hh
   ·exact gM (fT.unit (ev a)) (λ_ _ _=>by simp only[fC,hc]) hh
 case build z ps=>exact gM (fT.and (fT.unit _)) (λ_ _ _=>rfl) hh
 case nilchk x=>
  cases hc:ev x<;>try(simp only[fC,hc] at hh;done)
  all_goals exact gM (fT.unit (ev x)) (λ_ _ _=>by simp only[fC,hc]) hh
 case bin op x y=>exact gM (fT.bin op (ev x) (ev y)) (λ_ _ _=>rfl) hh
 case eqb n x y=>exact gM (fT.eqb n (ev x) (ev y)) (λ_ _ _=>rfl) hh
 case eqp n x y=>exact gM (fT.eqp n (ev x) (ev y)) (λ_ _ _=>rfl) hh
 case eqs n ts x y=>exact gM (fT.eqs n ts (ev x) (ev y)) (λ_ _ _=>rfl) hh
 case mkfn f xs=>exact gM (fT.unit (.fn f (xs.map ev))) (λ_ _ _=>rfl) hh
 case not x=>
  cases hc:ev x<;>try(simp only[fC,hc] at hh;done)
  case bool t=>
   cases t
   ·exact gM (fT.unit (.bool true)) (λ_ _ _=>by simp only[fC,hc,br]) hh
   ·exact gM (fT.unit (.bool false)) (λ_ _ _=>by simp only[fC,hc,br]) hh
 case conv kd x=>
  cases hc:ev x<;>try(simp only[fC,hc] at hh;done)
  case int k n=>exact gM (fT.unit (.int kd (ca.wrap kd n))) (λ_ _ _=>by simp only[fC,hc]) hh
 case slstr x lo hi=>
  cases hc:ev x<;>try(simp only[fC,hc] at hh;done)
  case str l=>exact gM (fT.lo (lo:=lo.map ev) λa=>fT.hi (hi:=hi.map ev) (n:=ca.eP l) λb=>fT.and (A:=ca.fQ 0 a) (fT.and (A:=ca.fQ a b) (fT.and (A:=ca.fQ b (ca.eP l)) (fT.unit (.str (ca.sZ l a b)))))) (λ_ _ _=>by simp only[fC,hc]) hh
 case slsl sz x lo hi=>
  cases hc:ev x<;>try(simp only[fC,hc] at hh;done)
  case sl t sz' rows=>exact gM (fT.and (A:=sz'=sz) (fT.lo (lo:=lo.map ev) λa=>fT.hi (hi:=hi.map ev) (n:=ca.da rows) λb=>fT.and (A:=ca.fQ 0 a) (fT.and (A:=ca.fQ a b) (fT.and (A:=ca.fQ b (ca.da rows)) (fT.unit (.sl t sz (ca.pN rows a b))))))) (λ_ _ _=>by simp only[fC,hc]) hh
  case own j bk sz' n=>exact gM (fT.and (A:=sz'=sz) (fT.lo (lo:=lo.map ev) λa=>fT.hi (hi:=hi.map ev) (n:=ca.int n) λb=>fT.and (A:=ca.fQ 0 a) (fT.and (A:=ca.fQ a b) (fT.and (A:=ca.fQ b (ca.int n)) (fT.unit (.win j bk sz a b)))))) (λ_ _ _=>by simp only[fC,hc]) hh
  case win j bk sz' l0 h0=>exact gM (fT.and (A:=sz'=sz) (fT.lo (lo:=lo.map ev) λa=>fT.hi (hi:=hi.map ev) (n:=ca.int (ca.nat (ca.sub h0 l0))) λb=>fT.and (A:=ca.fQ 0 a) (fT.and (A:=ca.fQ a b) (fT.and (A:=ca.fQ b (ca.int (ca.nat (ca.sub h0 l0)))) (fT.unit (.win j bk sz (ca.add l0 a) (ca.add l0 b))))))) (λ_ _ _=>by simp only[fC,hc]) hh
 case faddr off x=>
  cases hc:ev x<;>try(simp only[fC,hc] at hh;done)
  case ptr j b sz i o=>exact gM (fT.unit (.ptr j b sz i (o+off))) (λ_ _ _=>by simp only[fC,hc]) hh
  case rp t cs=>exact gM (fT.unit (.rp t (cs.drop off))) (λ_ _ _=>by simp only[fC,hc]) hh
 case fld1 off x=>
  cases hc:ev x<;>try(simp only[fC,hc] at hh;done)
  case agg cs=>exact gM (fT.nth cs off) (λ_ _ _=>by simp only[fC,hc]) hh
 case fldn off n x=>
  cases hc:ev x<;>try(simp only[fC,hc] at hh;done)
  case agg cs=>exact gM (fT.and (A:=off+n<=cs.length) (fT.unit (.agg ((cs.drop off).take n)))) (λ_ _ _=>by simp only[fC,hc]) hh
 case iaddr sz x i=>
  cases hi:ev i<;>try(cases hc:ev x<;>simp only[fC,hc,hi] at hh;done)
  case int ki ii=>
   cases hc:ev x<;>try(simp only[fC,hc,hi] at hh;done)
   case sl t sz' rows=>
    refine gM (fT.and (A:=sz'=sz) (fT.and (A:=ca.fQ 0 ii) (fT.ex (A:=λr=>ca.row rows (ca.nat ii) r) (Φ:=λr K=>K (.rp t r)) (λx y h1 h2=>?_) λr=>fT.unit _))) (λ_ _ _=>by simp only[fC,hc,hi]) hh;exact cL ((Eq.symm h1).trans h2)
   case own j b sz' n=>exact gM (fT.and (A:=sz'=sz) (fT.and (A:=ca.fQ 0 ii) (fT.and (A:=ca.iw ii (ca.int n)) (fT.unit (.ptr j b sz (ca.nat ii) 0))))) (λ_ _ _=>by simp only[fC,hc,hi]) hh
   case win j b sz' lo hi2=>exact gM (fT.and (A:=sz'=sz) (fT.and (A:=ca.fQ 0 ii) (fT.and (A:=ca.iw ii (ca.sub hi2 lo)) (fT.unit (.ptr j b sz (ca.nat (ca.add lo ii)) 0))))) (λ_ _ _=>by simp only[fC,hc,hi]) hh
 case iarr len sz x i=>
  cases hi:ev i<;>try(cases hc:ev x<;>simp only[fC,hc,hi] at hh;done)
  case int ki ii=>
   cases hc:ev x<;>try(simp only[fC,hc,hi] at hh;done)
   case ptr j b sz' r off=>exact gM (fT.and (A:=ca.fQ 0 ii) (fT.and (A:=ca.iw ii len) (fT.ex (A:=λn=>ca.nat ii=n) (Φ:=λn K=>K (.ptr j b sz' r (off+n*sz))) (λx y h1 h2=>h1.symm.trans h2) λn=>fT.unit _))) (λ_ _ _=>by simp only[fC,hc,hi]) hh
   case rp t cs=>exact gM (fT.and (A:=ca.fQ 0 ii) (fT.and (A:=ca.iw ii len) (fT.ex (A:=λn=>ca.nat ii=n) (Φ:=λn K=>K (.rp t (cs.drop (n*sz)))) (λx y h1 h2=>h1.symm.trans h2) λn=>fT.unit _))) (λ_ _ _=>by simp only[fC,hc,hi]) hh
 case ixs x i=>
  cases hi:ev i<;>try(cases hc:ev x<;>simp only[fC,hc,hi] at hh;done)
  case int ki ii=>
   cases hc:ev x<;>try(simp only[fC,hc,hi] at hh;done)
   case str l=>exact gM (fT.and (A:=ca.fQ 0 ii) (fT.and (A:=ca.iw ii (ca.eP l)) (fT.unit (.int .u8 (ca.sat l ii))))) (λ_ _ _=>by simp only[fC,hc,hi]) hh
 case ext i x=>
  cases hc:ev x<;>try(simp only[fC,hc] at hh;done)
  case tup vs=>exact gM (fT.and (A:=i<vs.length) (fT.unit (vs.getD i .gS))) (λ_ _ _=>by simp only[fC,hc]) hh
 case len s x=>exact gM (fT.len s (ev x)) (λ_ _ _=>rfl) hh
 case mm mx x y=>
  cases mx<;>cases hi:ev y<;>try(cases hc:ev x<;>simp only[fC,hc,hi] at hh;done)
  all_goals
   rename_i k' b;cases hc:ev x<;>try(simp only[fC,hc,hi] at hh;done)
  all_goals rename_i k a
  ·exact gM (fT.and (A:=k=k') (fT.unit (.int k (ca.mn a b)))) (λ_ _ _=>by simp only[fC,hc,hi]) hh
  ·exact gM (fT.and (A:=k=k') (fT.unit (.int k (ca.mx a b)))) (λ_ _ _=>by simp only[fC,hc,hi]) hh
def Hp.le(h h2:Hp):Prop:=∀k o,h k=some o->h2 k=some o
theorem Hp.le_refl(h:Hp):h.le h:=λ_ _ h=>h
theorem En{h h2:Hp}(hl:h.le h2){sz:Nat}{v:V}{rows:List (List V)}(hr:rowsOf h sz v=some rows):rowsOf h2 sz v=some rows:=by
 cases v<;>try exact hr
 rename_i k b sz' n;simp only[rowsOf] at hr⊢;cases hk:h k with
 |none=>rw[hk] at hr;cases hr
 |some o=>rw[hk] at hr;rw[hl k o hk];exact hr
theorem Arg.le{h h2:Hp}(hl:h.le h2){m:List (Nat×Nat)}{v v':V}(ha:Arg h m v v'):Arg h2 m v v':=by
 induction ha with
 |same v=>exact .same v
 |own k b sz n rows hr hm=>exact .own k b sz n rows (En hl hr) hm
 |j8 sz rows=>exact .j8 sz rows
 |nil t sz=>exact .nil t sz
 |agg cs kp a ha ih=>exact .agg cs kp a ih
theorem k6.le{h h2:Hp}(hl:h.le h2){m:List (Nat×Nat)}{l l':List V}(ha:k6 h m l l'):k6 h2 m l l':=by
 induction ha with
 |nil=>exact .nil
 |cons a b ih=>exact .cons (a.le hl) ih
def Wu(T:cp)(op:pM):Prop:=∀(ev:hJ->V)(h:Hp)(k:Nat)(K:V->Hp->Prop),fC ca T op ev h k K->
 ∃v,K v h/\∀(h2:Hp)(k2:Nat)(a:V->Hp->Prop),h.le h2->a v h2->fC ca T op ev h2 k2 a
theorem LY{h h2:Hp}(hl:h.le h2){k sz i:Nat}{b:Option Nat}{K a:Ob->List V->Prop}(hh:nN ca h k b sz i K)(hK:∀o r,K o r->a o r):nN ca h2 k b sz i a:=by
 unfold nN at*;cases hk:h k with
 |none=>rw[hk] at hh;exact hh.elim
 |some o=>
  rw[hk] at hh;rw[hl k o hk];obtain⟨h1,h2,h3⟩:=hh;refine⟨h1,h2,?_⟩
  split at h3
  ·split at h3
   ·exact hK _ _ h3
   ·exact h3.elim
  ·obtain⟨r,hr,h4⟩:=h3;exact⟨r,hr,hK _ _ h4⟩
theorem y6{h:Hp}{k sz i:Nat}{b:Option Nat}{Φ:List V->(V->Prop)->Prop}(c:∀r,fT (Φ r)){K:V->Prop}(hh:nN ca h k b sz i λ_ r=>Φ r K):
  ∃v,K v/\∀(h2:Hp)(a:V->Prop),h.le h2->a v->nN ca h2 k b sz i λ_ r=>Φ r a:=by
 unfold nN at hh;cases hk:h k with
 |none=>rw[hk] at hh;exact hh.elim
 |some o=>
  rw[hk] at hh;obtain⟨h1,h2,h3⟩:=hh
  split at h3
  ·rename_i hb
   split at h3
   ·rename_i r d;obtain⟨v,g1,g2⟩:=c r K h3;refine⟨v,g1,λh4 a hl hk2=>?_⟩;unfold nN;rw[hl k o hk];refine⟨h1,h2,?_⟩;rw[hb,d];exact(g2 a).2 hk2
   ·exact h3.elim
  ·rename_i hb;obtain⟨r,hr,h4⟩:=h3;obtain⟨v,g1,g2⟩:=c r K h4;refine⟨v,g1,λh5 a hl hk2=>?_⟩;unfold nN;rw[hl k o hk];refine⟨h1,h2,?_⟩;rw[hb];exact⟨r,hr,(g2 a).2 hk2⟩
theorem PU{P:Program}{op:pM}(hc:op.oL=true\/op.Gv=true\/(∃f xs,op=.call f xs)\/∃x xs,op=.callv x xs):Wu (fj P) op:=by
 intro ev h k K hh;have call:∀f xs,fj P f xs h K->∃v,K v h/\∀(h2:Hp)(a:V->Hp->Prop),h.le h2->a v h2->fj P f xs h2 a:=by
  rintro f xs ⟨m,args',hp,v,h1,h2,h3,h4,h5⟩;refine⟨_,h5,λg a hl hk=>⟨m,args',hp,v,h1,h2.le hl,h3,λp c=>?_,hk⟩⟩;obtain⟨a1,a2,o,a3,a4,a5⟩:=h4 p c;refine⟨a1,a2,o,a3,?_,a5⟩;simp only[au] at a4⊢;obtain⟨ob,d,he⟩:=a4;exact⟨ob,hl _ _ d,he⟩
 rcases hc with hc|hc|⟨f,xs,rfl⟩|⟨x,xs,rfl⟩
 ·obtain⟨v,h1,h2⟩:=y5 hc hh;exact⟨v,h1,λg k2 a _ hk=>(h2 g k2 a).2 hk⟩
 ·cases op<;>try(cases hc;done)
  case load1 x=>
   cases hx:ev x<;>try(simp only[fC,hx,oF] at hh;done)
   case ptr j b sz i off=>
    simp only[fC,hx,oF] at hh;obtain⟨v,h1,h2⟩:=y6 (Φ:=λr=>xz r off) (λr=>fT.nth r off) hh;exact⟨v,h1,λg k2 a hl hk=>by simp only[fC,hx,oF];exact h2 g (λv=>a v g) hl hk⟩
   case rp t cs=>
    simp only[fC,hx,oF] at hh;obtain⟨v,h1,h2⟩:=fT.nth cs 0 _ hh;exact⟨v,h1,λg k2 a hl hk=>by simp only[fC,hx,oF];exact(h2 _).2 hk⟩
  case loadn n x=>
   cases hx:ev x<;>try(simp only[fC,hx,oG] at hh;done)
   case ptr j b sz i off=>
    simp only[fC,hx,oG] at hh;obtain⟨v,h1,h2⟩:=y6 (K:=λv=>K v h) (Φ:=λr K=>off+n<=r.length/\K (.agg ((r.drop off).take n))) (λr=>fT.and (fT.unit _)) hh;exact⟨v,h1,λg k2 a hl hk=>by simp only[fC,hx,oG];exact h2 g (λv=>a v g) hl hk⟩
   case rp t cs=>
    simp only[fC,hx,oG] at hh;exact⟨_,hh.2,λg k2 a hl hk=>by simp only[fC,hx,oG];exact⟨hh.1,hk⟩⟩
 ·obtain⟨v,h1,h2⟩:=call f _ hh;exact⟨v,h1,λg k2 a hl hk=>h2 g a hl hk⟩
 ·cases hx:ev x<;>try(simp only[fC,hx] at hh;done)
  simp only[fC,hx] at hh;obtain⟨v,h1,h2⟩:=call _ _ hh;exact⟨v,h1,λg k2 a hl hk=>by simp only[fC,hx];exact h2 g a hl hk⟩
def slotsOf:List hJ->List Nat
 |[]=>[]
 |.t i::l=>i::slotsOf l
 |.c _::l=>slotsOf l
theorem lv{s s2:S}:∀{l:List hJ},(∀i∈slotsOf l,s2.t i=s.t i)->∀x∈l,hJ.ev s2 x=hJ.ev s x
 |[],_,x,hx=>by cases hx
 |.t i::l,h,x,hx=>by
  rcases ax.1 hx with rfl|hx
  ·exact h i (by simp[slotsOf])
  ·exact lv (λj hj=>h j (by simp[slotsOf,hj])) x hx
 |.c v::l,h,x,hx=>by
  rcases ax.1 hx with rfl|hx
  ·rfl
  ·exact lv (λj hj=>h j (by simpa[slotsOf] using hj)) x hx
def AO.looks(o:AO):List Nat:=(match o.g with|some (g,_)=>[g]|none=>[])++slotsOf o.op.s6
def AO.isFun(o:AO):Bool:=o.op.oL||o.op.Gv||(match o.op with|.call .. =>true|.callv .. =>true|_=>false)
def xK(a b:AO):Bool:=
 (match a.d with|some d=> !(b.looks.contains d)&&(b.d !=some d)|none=>true)&&(match b.d with|some d=> !(a.looks.contains d)|none=>true)
def AO.y7(o:AO):Bool:=(match o.g,o.d with|none,some _=>true|_,_=>false)&&(match o.op with|.alloc .. |.box .. |.bslice .. |.mkslice .. =>true|_=>false)
def AO.key(o:AO):Nat:=match o.op with
 |.bslice .. |.mkslice .. =>arr+o.d.getD 0
 |_=>o.d.getD 0
def AO.isApp(o:AO):Bool:=(match o.g,o.d with|none,some _=>true|_,_=>false)&&(match o.op with|.append _ _ _ (.c (.slice none 0 0)) _=>true|_=>false)
def nR(a b:AO):Bool:=xK a b&&(a.op.oL||(a.isFun&&(b.isFun||b.y7||b.isApp))||(a.y7&&(b.op.oL||(b.y7&&a.key !=b.key)))||(a.isApp&&b.op.oL))
theorem ke{s:S}{g:Nat}{v:V}(h:s.t g=v):s.set g v=s:=by
 subst h;cases s with
 |mk t h=>
  simp only[S.set,S.mk.injEq,eO]
  funext i
  simp only[iX]
  split<;>simp_all
theorem vf{P:Program}{o:AO}(h:o.isFun=true):Wu (fj P) o.op:=by
 refine PU ?_;unfold AO.isFun at h;simp only[bC] at h
 rcases h with(h|h)|h
 ·exact .inl h
 ·exact .inr (.inl h)
 ·right;right
  cases a:o.op<;>rw[a] at h<;>try(simp at h;done)
  ·exact .inl ⟨_,_,rfl⟩
  ·exact .inr ⟨_,_,rfl⟩
section
variable {P:Program}
theorem wZ{o:AO}(hf:o.isFun=true){s:S}{K:S->Prop}(hh:iz ca (fj P) o s K):
  ∃v,K (s.put o.d v)/\∀(s2:S),(∀i∈slotsOf o.op.s6,s2.t i=s.t i)->s.h.le s2.h->∀a:S->Prop,a (s2.put o.d v)->iz ca (fj P) o s2 a:=by
 obtain⟨v,h1,h2⟩:=vf hf _ _ _ _ hh;refine⟨v,h1,λs2 hs hl a hk=>?_⟩;unfold iz;rw[nQ (ev':=hJ.ev s) (lv hs)];exact h2 s2.h _ _ hl hk
theorem rh{o:AO}(hf:o.isFun=true){s:S}{K:S->Prop}(hh:fm ca (fj P) o s K):
  ∃v,K (s.put o.d v)/\∀(s2:S),(∀i∈o.looks,s2.t i=s.t i)->s.h.le s2.h->∀c:S->Prop,c (s2.put o.d v)->fm ca (fj P) o s2 c:=by
 obtain⟨d,g,op⟩:=o;cases g with
 |none=>
  obtain⟨v,h1,h2⟩:=wZ hf (show iz ca (fj P) ⟨d,none,op⟩ s K from hh);exact⟨v,h1,λs2 hs hl c hk=>h2 s2 (λi hi=>hs i (by simpa[AO.looks] using hi)) hl c hk⟩
 |some f=>
  obtain⟨g,want⟩:=f;have key:∀b,s.t g=.bool b->(if b=want then iz ca (fj P) ⟨d,some (g,want),op⟩ s K else K (s.put d .nu))->
    ∃v,K (s.put d v)/\∀(s2:S),(∀i∈(AO.mk d (some (g,want)) op).looks,s2.t i=s.t i)->s.h.le s2.h->∀c:S->Prop,c (s2.put d v)->fm ca (fj P) ⟨d,some (g,want),op⟩ s2 c:=by
   intro b hb hK
   by_cases e:b=want
   ·subst e;rw[ae rfl] at hK;obtain⟨v,h1,h2⟩:=wZ hf hK;refine⟨v,h1,λs2 hs hl c hk=>?_⟩;have a:s2.t g=.bool b:=(hs g (by simp[AO.looks])).trans hb;have:=h2 s2 (λi hi=>hs i (by simp only[AO.looks];exact bR _ hi)) hl c hk;cases b<;>simp only[fm,a,br,ke a]<;>exact this
   ·rw[aa e] at hK;refine⟨.nu,hK,λs2 hs hl c hk=>?_⟩;have a:s2.t g=.bool b:=(hs g (by simp[AO.looks])).trans hb;cases b<;>cases want<;>first|(exact absurd rfl e)|(simp only[fm,a,br,ke a];exact hk)
  cases hb:s.t g with
  |bool b=>
   refine key b hb ?_;cases b<;>cases want<;>simp only[fm,hb,br,ke hb] at hh<;>simpa using hh
  |nu=>
   have hu:K (s.put d .nu):=by cases want<;>simp only[fm,hb] at hh<;>exact hh
   refine⟨.nu,hu,λs2 hs hl c hk=>?_⟩;have a:s2.t g=.nu:=(hs g (by simp[AO.looks])).trans hb;cases want<;>simp only[fm,a]<;>exact hk
  |_=>cases want<;>simp only[fm,hb] at hh
theorem j3{s:S}{d:Option Nat}{v:V}{i:Nat}(h:d≠some i):(s.put d v).t i=s.t i:=by
 cases d with
 |none=>rfl
 |some d=>
  simp only[S.put,S.set,iX];rw[aa (λe=>h (by rw[e]))]
theorem kE{s:S}{d:Option Nat}{v:V}:(s.put d v).h=s.h:=by cases d<;>rfl
theorem put_comm{s:S}{d e:Option Nat}{v u:V}(h:∀i,d=some i->e≠some i):(s.put d v).put e u=(s.put e u).put d v:=by
 cases d with
 |none=>rfl
 |some d=>
  cases e with
  |none=>rfl
  |some e=>
   have hne:d≠e:=λhe=>h d rfl (by rw[he]);simp only[S.put,S.set,S.mk.injEq,eO]
   funext i
   simp only[iX]
   by_cases h1:i=d
   ·subst h1;rw[aa hne];simp[hne]
   ·by_cases h2:i=e
    ·subst h2;simp[h1]
    ·simp[h1,h2]
theorem apart_spec{a b:AO}(h:xK a b=true):(∀i,a.d=some i->i∉b.looks/\b.d≠some i)/\(∀i,b.d=some i->i∉a.looks):=by
 unfold xK at h;simp only[aO] at h;refine⟨λi hi=>?_,λi hi=>?_⟩
 ·have h1:=h.1;rw[hi] at h1;simp only[aO,dz,bne_iff_ne] at h1;exact⟨by simpa using h1.1,h1.2⟩
 ·have h2:=h.2;rw[hi] at h2;simpa using h2
theorem pg{T:cp}{o:AO}(hp:o.op.oL=true){s:S}{K:S->Prop}(hh:fm ca T o s K):
  ∃v,∀(s2:S),(∀i∈o.looks,s2.t i=s.t i)->∀a:S->Prop,(fm ca T o s2 a↔a (s2.put o.d v)):=by
 obtain⟨d,g,op⟩:=o;have plain:∀(s:S)(K:S->Prop),iz ca T ⟨d,none,op⟩ s K->∃v,∀(s2:S),(∀i∈slotsOf op.s6,s2.t i=s.t i)->∀a:S->Prop,(fC ca T op (hJ.ev s2) s2.h (d.getD 0) (λv h=>a ((s2.iq h).put d v))↔a (s2.put d v)):=by
  intro s K hh;obtain⟨v,_,h2⟩:=y5 hp hh;refine⟨v,λs2 hs a=>?_⟩;rw[nQ (ev':=hJ.ev s) (lv hs)];exact h2 s2.h (d.getD 0) λv h=>a ((s2.iq h).put d v)
 cases g with
 |none=>
  obtain⟨v,h⟩:=plain s K hh;exact⟨v,λs2 hs a=>h s2 (λi hi=>hs i (by simpa[AO.looks] using hi)) a⟩
 |some f=>
  obtain⟨g,want⟩:=f;have key:∀b,s.t g=.bool b->(b=want->iz ca T ⟨d,none,op⟩ s K)->
    ∃v,∀(s2:S),(∀i∈(AO.mk d (some (g,want)) op).looks,s2.t i=s.t i)->∀a:S->Prop,(fm ca T ⟨d,some (g,want),op⟩ s2 a↔a (s2.put d v)):=by
   intro b hb hK
   by_cases e:b=want
   ·subst e;obtain⟨v,h⟩:=plain s K (hK rfl);refine⟨v,λs2 hs a=>?_⟩;have c:s2.t g=.bool b:=(hs g (by simp[AO.looks])).trans hb;have:=h s2 (λi hi=>hs i (by simp only[AO.looks];exact bR _ hi)) a;cases b<;>simp only[fm,c,br,ke c,iz]<;>exact this
   ·refine⟨.nu,λs2 hs a=>?_⟩;have c:s2.t g=.bool b:=(hs g (by simp[AO.looks])).trans hb;cases b<;>cases want<;>first|(exact absurd rfl e)|(simp only[fm,c,br,ke c])
  cases hb:s.t g with
  |bool b=>
   refine key b hb λe=>?_;subst e;cases b<;>simp only[fm,hb,br,ke hb] at hh<;>exact hh
  |nu=>
   refine⟨.nu,λs2 hs a=>?_⟩;have c:s2.t g=.nu:=(hs g (by simp[AO.looks])).trans hb;cases want<;>simp only[fm,c]
  |_=>cases want<;>simp only[fm,hb] at hh
theorem ri{T:cp}{o:AO}(hn:o.y7=true){s:S}{K:S->Prop}(hh:fm ca T o s K):
  ∃(v:Nat->V)(ob:Nat->Ob),∀(s2:S),(∀i∈o.looks,s2.t i=s.t i)->∀e:S->Prop,(fm ca T o s2 e↔s2.h o.key=none/\∀β:Nat,e ((s2.iq (s2.h.put o.key (ob β))).put o.d (v β))):=by
 obtain⟨d,g,op⟩:=o;unfold AO.y7 at hn;simp only[aO] at hn;obtain⟨j,k⟩:=hn;cases g with
 |some _=>simp at j
 |none=>
  cases d with
  |none=>simp at j
  |some d=>
   have hl:∀s2:S,(∀i∈(AO.mk (some d) none op).looks,s2.t i=s.t i)->∀x∈op.s6,hJ.ev s2 x=hJ.ev s x:=λs2 hs=>lv λi hi=>hs i (by simpa[AO.looks] using hi);cases op<;>simp only[] at k<;>try(cases k;done)
   case alloc ty z=>
    obtain⟨_,hz,_⟩:=(show fC ca T (.alloc ty z) (hJ.ev s) s.h d (λv h=>K ((s.iq h).put (some d) v)) from hh);exact⟨λβ=>.ptr d (some β) z.length 0 0,λβ=>⟨some β,ty,z.length,[z.map yM]⟩,λs2 hs e=>⟨λ⟨a,_,b⟩=>⟨a,b⟩,λ⟨a,b⟩=>⟨a,hz,b⟩⟩⟩
   case box ty n x=>
    obtain⟨_,hz,_⟩:=(show fC ca T (.box ty n x) (hJ.ev s) s.h d (λv h=>K ((s.iq h).put (some d) v)) from hh);refine⟨λβ=>.ptr d (some β) n 0 0,λβ=>⟨some β,ty,n,[(x.ev s).cells]⟩,λs2 hs e=>?_⟩;have he:=hl s2 hs x (by simp[pM.s6]);show(s2.h d=none/\(x.ev s2).fits n/\∀β:Nat,e ((s2.iq (s2.h.put d ⟨some β,ty,n,[(x.ev s2).cells]⟩)).put (some d) (.ptr d (some β) n 0 0)))↔_;rw[he];exact⟨λ⟨a,_,b⟩=>⟨a,b⟩,λ⟨a,b⟩=>⟨a,hz,b⟩⟩
   case bslice ty sz ps=>
    obtain⟨_,hz,_⟩:=(show fC ca T (.bslice ty sz ps) (hJ.ev s) s.h d (λv h=>K ((s.iq h).put (some d) v)) from hh);refine⟨λβ=>.own (arr+d) (some β) sz ps.length,λβ=>⟨some β,ty,sz,ps.map λq=>(q.ev s).cells⟩,λs2 hs e=>?_⟩;have he:=hl s2 hs;have e1:(ps.all λq=>mP sz (q.ev s2))=ps.all λq=>mP sz (q.ev s):=by
     rw[cx,aE,aE];exact⟨λh q hq=>by rw[<-he q hq];exact h q hq,λh q hq=>by rw[he q hq];exact h q hq⟩
    have e2:(ps.map λq=>(q.ev s2).cells)=ps.map λq=>(q.ev s).cells:=bQ λq hq=>by rw[he q hq]
    show(s2.h (arr+d)=none/\(ps.all λq=>mP sz (q.ev s2))=true/\∀β:Nat,e ((s2.iq (s2.h.put (arr+d) ⟨some β,ty,sz,ps.map λq=>(q.ev s2).cells⟩)).put (some d) (.own (arr+d) (some β) sz ps.length)))↔_;rw[e1,e2];exact⟨λ⟨a,_,b⟩=>⟨a,b⟩,λ⟨a,b⟩=>⟨a,hz,b⟩⟩
   case mkslice ty sz bytes z l c=>
    have f:=(show fC ca T (.mkslice ty sz bytes z l c) (hJ.ev s) s.h d (λv h=>K ((s.iq h).put (some d) v)) from hh);cases h1:l.ev s<;>try(simp only[fC,h1] at f;done)
    rename_i k1 n;cases h2:c.ev s<;>try(simp only[fC,h1,h2] at f;done)
    rename_i k2 m;simp only[fC,h1,h2] at f;obtain⟨_,a1,a2,a3,a4,a5,p,_⟩:=f;refine⟨λβ=>.own (arr+d) (some β) sz (ca.nat n),λβ=>⟨some β,ty,sz,ca.wu n (z.map yM)⟩,λs2 hs e=>?_⟩;have e1:=(hl s2 hs l (by simp[pM.s6])).trans h1;have e2:=(hl s2 hs c (by simp[pM.s6])).trans h2;show fC ca T (.mkslice ty sz bytes z l c) (hJ.ev s2) s2.h d (λv h=>e ((s2.iq h).put (some d) v))↔_;simp only[fC,e1,e2];exact⟨λ⟨a,_,_,_,_,_,_,b⟩=>⟨a,b⟩,λ⟨a,b⟩=>⟨a,a1,a2,a3,a4,a5,p,b⟩⟩
theorem y8{T:cp}{o:AO}(hn:o.isApp=true){s:S}{K:S->Prop}(hh:fm ca T o s K):
  ∃(k:Nat)(v:Option Nat->V)(ob:Option Nat->Ob),∀(s2:S),(∀i∈o.looks,s2.t i=s.t i)->s2.h=s.h->∀f:S->Prop,(fm ca T o s2 f↔s2.h k=none/\∀β:Option Nat,f ((s2.iq (s2.h.put k (ob β))).put o.d (v β))):=by
 obtain⟨d,g,op⟩:=o;unfold AO.isApp at hn;simp only[aO] at hn;obtain⟨l,j⟩:=hn;cases g with
 |some _=>simp at l
 |none=>
  cases d with
  |none=>simp at l
  |some d=>
   have hl:∀s2:S,(∀i∈(AO.mk (some d) none op).looks,s2.t i=s.t i)->∀x∈op.s6,hJ.ev s2 x=hJ.ev s x:=λs2 hs=>lv λi hi=>hs i (by simpa[AO.looks] using hi);cases op<;>try(cases j;done)
   rename_i ty sz bytes x y
   split at j
   ·rename_i heq;cases heq;have e:=(show kQ ca s.h (arr+d) ty sz bytes .nilsl (y.ev s) (λv h=>K ((s.iq h).put (some d) v)) from hh);have fin:∀news:List (List V),(∀Q:List (List V)->Prop,mg ca s.h sz (y.ev s) Q↔Q news)->∃(k:Nat)(v:Option Nat->V)(ob:Option Nat->Ob),∀(s2:S),(∀i∈(AO.mk (some d) none (.append ty sz bytes (.c (.slice none 0 0)) y)).looks,s2.t i=s.t i)->s2.h=s.h->∀f:S->Prop,(fm ca T ⟨some d,none,.append ty sz bytes (.c (.slice none 0 0)) y⟩ s2 f↔s2.h k=none/\∀β:Option Nat,f ((s2.iq (s2.h.put k (ob β))).put (some d) (v β))):=by
     intro news hr;have hb:=(hr _).1 e;refine⟨arr+d,λβ=>.own (arr+d) β sz (ca.gp news),λβ=>⟨β,ty,sz,news⟩,λs2 hs m f=>?_⟩;have he:=hl s2 hs y (by simp[pM.s6]);show kQ ca s2.h (arr+d) ty sz bytes .nilsl (y.ev s2) (λv h=>f ((s2.iq h).put (some d) v))↔_;rw[he];unfold kQ;rw[m];exact(hr _).trans ⟨λ⟨a,_,b⟩=>⟨a,b⟩,λ⟨a,b⟩=>⟨a,hb.2.1,b⟩⟩
    unfold kQ mg at e
    split at e
    ·rename_i t sz' rows heq;refine fin rows λQ=>?_;rw[heq];unfold mg;exact⟨λh=>h.2,λh=>⟨e.1,h⟩⟩
    ·rename_i heq;refine fin [] λQ=>?_;rw[heq];exact Iff.rfl
    ·rename_i k b sz' n heq
     split at e
     ·rename_i o hk;refine fin o.rows λQ=>?_;rw[heq];unfold mg;simp only[hk];exact⟨λh=>h.2.2.2.2,λh=>⟨e.1,e.2.1,e.2.2.1,e.2.2.2.1,h⟩⟩
     ·exact e.elim
    ·exact e.elim
   ·cases j
theorem BA{f:Nat}{args:List V}{h:Hp}{K a:V->Hp->Prop}(hK:∀v h,K v h->a v h)(hh:fj P f args h K):fj P f args h a:=by
 obtain⟨m,args',hp,v,h1,h2,h3,h4,h5⟩:=hh;exact⟨m,args',hp,v,h1,h2,h3,h4,hK _ _ h5⟩
theorem Eo{h:Hp}{k sz i:Nat}{b:Option Nat}{K a:Ob->List V->Prop}(hK:∀o r,K o r->a o r)(hh:nN ca h k b sz i K):nN ca h k b sz i a:=LY (Hp.le_refl h) hh hK
theorem vg{h:Hp}{sz:Nat}{v:V}{K a:List (List V)->Prop}(hK:∀rows,K rows->a rows)(hh:mg ca h sz v K):mg ca h sz v a:=by
 unfold mg at hh⊢;cases v<;>try(exact hh.elim)
 case sl=>exact⟨hh.1,hK _ hh.2⟩
 case nilsl=>exact hK _ hh
 case own j b sz' n=>
  simp only[] at hh⊢;cases hj:h j with
  |none=>rw[hj] at hh;exact hh.elim
  |some o=>rw[hj] at hh;exact⟨hh.1,hh.2.1,hh.2.2.1,hh.2.2.2.1,hK _ hh.2.2.2.2⟩
theorem s7{op:pM}{ev:hJ->V}{h:Hp}{k:Nat}{K a:V->Hp->Prop}(hK:∀v h,K v h->a v h)(hh:fC ca (fj P) op ev h k K):fC ca (fj P) op ev h k a:=by
 by_cases hf:(AO.mk none none op).isFun=true
 ·obtain⟨v,h1,h2⟩:=vf hf ev h k K hh;exact h2 h k a (Hp.le_refl h) (hK _ _ h1)
 ·cases op<;>try(exact absurd rfl hf)
  case alloc ty z=>exact⟨hh.1,hh.2.1,λβ=>hK _ _ (hh.2.2 β)⟩
  case box ty n x=>exact⟨hh.1,hh.2.1,λβ=>hK _ _ (hh.2.2 β)⟩
  case bslice ty sz ps=>exact⟨hh.1,hh.2.1,λβ=>hK _ _ (hh.2.2 β)⟩
  case store n x v=>
   have hh:p8 ca h n (ev x) (ev v) (λh=>K .gS h):=hh;show p8 ca h n (ev x) (ev v) (λh=>a .gS h);unfold p8 at hh⊢
   split at hh
   ·rename_i heq;refine Eo (λo r hr=>⟨hr.1,hr.2.1,hK _ _ hr.2.2⟩) hh
   ·exact hh.elim
  case mkslice ty sz bytes z l c=>
   simp only[fC] at hh⊢
   split at hh
   ·rename_i e1 e2;exact⟨hh.1,hh.2.1,hh.2.2.1,hh.2.2.2.1,hh.2.2.2.2.1,hh.2.2.2.2.2.1,hh.2.2.2.2.2.2.1,λβ=>hK _ _ (hh.2.2.2.2.2.2.2 β)⟩
   ·exact hh.elim
  case append ty sz bytes x y=>
   have hh:kQ ca h (arr+k) ty sz bytes (ev x) (ev y) K:=hh;show kQ ca h (arr+k) ty sz bytes (ev x) (ev y) a;unfold kQ at hh⊢;refine vg (λnews hn=>?_) hh
   generalize ev x=d at hn⊢
   cases d<;>try(exact hn.elim)
   case nilsl=>exact⟨hn.1,hn.2.1,λβ=>hK _ _ (hn.2.2 β)⟩
   case own j b sz' n=>
    simp only[] at hn⊢;cases hj:h j with
    |none=>rw[hj] at hn;exact hn.elim
    |some o=>rw[hj] at hn;exact⟨hn.1,hn.2.1,hn.2.2.1,hn.2.2.2.1,hn.2.2.2.2.1,hn.2.2.2.2.2.1,λβ=>hK _ _ (hn.2.2.2.2.2.2 β)⟩
   case win j b sz' lo hi=>
    simp only[] at hn⊢;cases hj:h j with
    |none=>rw[hj] at hn;exact hn.elim
    |some o=>rw[hj] at hn;exact⟨hn.1,hn.2.1,hn.2.2.1,hn.2.2.2.1,hn.2.2.2.2.1,hn.2.2.2.2.2.1,hn.2.2.2.2.2.2.1,λβ pre hp=>hK _ _ (hn.2.2.2.2.2.2.2 β pre hp)⟩
  case convbs x=>
   have hh:mg ca h 1 (ev x) (λrows=>∃l,ca.yX rows l/\K (.str l) h):=hh;show mg ca h 1 (ev x) (λrows=>∃l,ca.yX rows l/\a (.str l) h);exact vg (λrows hn=>hn.imp λl hl=>⟨hl.1,hK _ _ hl.2⟩) hh
  case dead=>exact hh
  case eqn neg x=>
   have hh:Gp ca neg (ev x) (λv=>K v h):=hh;show Gp ca neg (ev x) (λv=>a v h);unfold Gp at hh⊢
   generalize ev x=d at hh⊢
   cases d<;>try(exact hh.elim)
   case nilsl=>exact hK _ _ hh
   case sl=>exact⟨hK _ _ hh.1,λh0=>hK _ _ (hh.2 h0)⟩
  case ixa g len sz x i=>
   simp only[fC] at hh⊢
   split at hh
   ·rename_i e1 e2;obtain⟨a1,a2,a3,a4,n,a5,e⟩:=hh;refine⟨a1,a2,a3,a4,n,a5,?_⟩;cases g<;>exact hK _ _ e
   ·exact hh.elim
theorem Ep{a:AO}{s:S}{K c:S->Prop}(hK:∀s,K s->c s)(hh:fm ca (fj P) a s K):fm ca (fj P) a s c:=by
 obtain⟨d,g,op⟩:=a;have plain:∀s:S,iz ca (fj P) ⟨d,g,op⟩ s K->iz ca (fj P) ⟨d,g,op⟩ s c:=λs h=>s7 (λv h' hk=>hK _ hk) h;unfold fm at hh⊢
 split at hh
 ·exact plain s hh
 ·split at hh
  ·rename_i b _;cases b
   ·exact hK _ hh
   ·exact plain _ hh
  ·exact hK _ hh
  ·exact hh.elim
 ·split at hh
  ·rename_i b _;cases b
   ·exact plain _ hh
   ·exact hK _ hh
  ·exact hK _ hh
  ·exact hh.elim
theorem vh{op:pM}{ev ev':hJ->V}{h:Hp}{k:Nat}{K K':V->Hp->Prop}(he:∀x∈op.s6,ev x=ev' x)(hK:∀v h,K v h->K' v h)(hh:fC ca (fj P) op ev h k K):fC ca (fj P) op ev' h k K':=by
 rw[nQ he] at hh;exact s7 hK hh
theorem Gw{b:AO}{s:S}{d0:Option Nat}{u:V}{K c:S->Prop}(hl:∀e,d0=some e->e∉b.looks/\b.d≠some e)(hK:∀s1,(∀i,b.d≠some i->s1.t i=s.t i)->K (s1.put d0 u)->c s1)(hh:fm ca (fj P) b (s.put d0 u) K):fm ca (fj P) b s c:=by
 obtain⟨d,g,op⟩:=b;have l:∀(s:S)(v:V)(h:Hp),(((s.put d0 u).iq h).put d v)=(((s.iq h).put d v).put d0 u):=by
  intro s v h;have e1:(s.put d0 u).iq h=(s.iq h).put d0 u:=by cases d0<;>rfl
  rw[e1];exact put_comm λi hi=>(hl i hi).2
 have ts:∀(s:S)(i:Nat),(∀e,d0=some e->i≠e)->(s.put d0 u).t i=s.t i:=λs i hi=>j3 λe=>hi i e rfl;have plain:∀s':S,(∀i,s'.t i=s.t i)->iz ca (fj P) ⟨d,g,op⟩ (s'.put d0 u) K->iz ca (fj P) ⟨d,g,op⟩ s' c:=by
  intro s' hs' h;have h':fC ca (fj P) op (hJ.ev (s'.put d0 u)) s'.h (d.getD 0) (λv h=>K ((((s'.put d0 u).iq h)).put d v)):=by
   have:=h;unfold iz at this;rw[kE] at this;exact this
  refine vh (K':=λv h=>c ((s'.iq h).put d v)) (lv λi hi=>ts s' i λe he f=>(hl e he).1 (by rw[<-f];unfold AO.looks;exact bR _ hi)) (λv m hk=>hK _ (λi hi=>?_) ?_) h'
  ·rw[j3 hi];exact hs' i
  ·rw[<-l];exact hk
 cases g with
 |none=>exact plain s (λ_=>rfl) hh
 |some n=>
  obtain⟨g,want⟩:=n;have j:∀e,d0=some e->g≠e:=λe he hg=>(hl e he).1 (by rw[<-hg];simp[AO.looks]);have a:(s.put d0 u).t g=s.t g:=ts s g j;have k:∀(s:S)(v:V),(s.put d0 u).put d v=(s.put d v).put d0 u:=λs v=>put_comm λi hi=>(hl i hi).2;cases hb:s.t g with
  |bool b=>
   have hb2:=a.trans hb;have e1:(s.put d0 u).set g (.bool b)=s.put d0 u:=ke hb2;have e2:s.set g (.bool b)=s:=ke hb;cases want<;>cases b<;>simp only[fm,hb,hb2,br,e1,e2] at hh⊢
   ·exact plain s (λ_=>rfl) hh
   ·exact hK _ (λi hi=>j3 hi) (by rw[<-k];exact hh)
   ·exact hK _ (λi hi=>j3 hi) (by rw[<-k];exact hh)
   ·exact plain s (λ_=>rfl) hh
  |nu=>
   have hb2:=a.trans hb;cases want<;>simp only[fm,hb,hb2] at hh⊢<;>exact hK _ (λi hi=>j3 hi) (by rw[<-k];exact hh)
  |_=>
   have hb2:=a.trans hb;cases want<;>simp only[fm,hb2] at hh
theorem ny{s:S}{h:Hp}{d:Option Nat}{v:V}:(s.put d v).iq h=(s.iq h).put d v:=by cases d<;>rfl
theorem xL{s:S}{h:Hp}:(s.iq h).h=h:=rfl
theorem w3{s:S}{h h':Hp}:(s.iq h).iq h'=s.iq h':=rfl
theorem y9{h:Hp}{a b:Nat}{o q:Ob}(hne:a≠b):Hp.put (Hp.put h a o) b q=Hp.put (Hp.put h b q) a o:=by
 funext i
 simp only[Hp.put]
 by_cases h1:i=a
 ·subst h1;simp[hne]
 ·simp[h1]
theorem Hp.Gx{h:Hp}{k:Nat}{o:Ob}(hk:h k=none):h.le (h.put k o):=by
 intro j q hj;simp only[Hp.put];rw[aa (λe=>by rw[e,hk] at hj;cases hj)];exact hj
theorem swap{a b:AO}(hp:nR a b=true){s:S}{K:S->Prop}(hh:fm ca (fj P) a s λs1=>fm ca (fj P) b s1 K):fm ca (fj P) b s λs1=>fm ca (fj P) a s1 K:=by
 unfold nR at hp;simp only[aO,bC,bne_iff_ne] at hp;obtain⟨z,p⟩:=hp;obtain⟨h1,h2⟩:=apart_spec z;have q:∀i,a.d=some i->b.d≠some i:=λi he=>(h1 i he).2;have j:∀i,b.d=some i->a.d≠some i:=λi he ha=>(h1 i ha).2 he
 rcases p with((A|⟨r,(B|v)|C⟩)|⟨x,w|⟨v,k⟩⟩)|⟨D,w⟩
 ·
  obtain⟨f,ha⟩:=pg A hh;have hb:=(ha s (λ_ _=>rfl) _).1 hh;exact Gw (d0:=a.d) (u:=f) (λe he=>h1 e he) (λs1 hs hk=>(ha s1 (λi hi=>hs i λhb=>h2 i hb hi) _).2 hk) hb
 ·
  obtain⟨f,g,l⟩:=rh r hh;obtain⟨o,hb1,hb2⟩:=rh B g;have e1:∀i∈b.looks,s.t i=(s.put a.d f).t i:=λi hi=>(j3 λhe=>(h1 i he).1 hi).symm;refine hb2 s e1 (by rw[kE];exact Hp.le_refl _) _ (l _ (λi hi=>j3 λhe=>h2 i he hi) (by rw[kE];exact Hp.le_refl _) _ ?_);rw[put_comm j];exact hb1
 ·
  obtain⟨f,g,l⟩:=rh r hh;obtain⟨o,ob,hb⟩:=ri v g;obtain⟨hk,c⟩:=(hb _ (λ_ _=>rfl) _).1 g;rw[kE] at hk;have e1:∀i∈b.looks,s.t i=(s.put a.d f).t i:=λi hi=>(j3 λhe=>(h1 i he).1 hi).symm;refine(hb s e1 _).2 ⟨hk,λβ=>l ((s.iq (s.h.put b.key (ob β))).put b.d (o β)) (λi hi=>j3 (s:=s.iq (s.h.put b.key (ob β))) λhe=>h2 i he hi) (by rw[kE];exact Hp.Gx hk) _ ?_⟩;have:=c β;rw[kE,ny,put_comm q] at this;exact this
 ·
  obtain⟨f,g,l⟩:=rh r hh;obtain⟨F,o,ob,hb⟩:=y8 C g;obtain⟨hk,c⟩:=(hb _ (λ_ _=>rfl) rfl _).1 g;rw[kE] at hk;have e1:∀i∈b.looks,s.t i=(s.put a.d f).t i:=λi hi=>(j3 λhe=>(h1 i he).1 hi).symm;refine(hb s e1 kE.symm _).2 ⟨hk,λβ=>l ((s.iq (s.h.put F (ob β))).put b.d (o β)) (λi hi=>j3 (s:=s.iq (s.h.put F (ob β))) λhe=>h2 i he hi) (by rw[kE];exact Hp.Gx hk) _ ?_⟩;have:=c β;rw[kE,ny,put_comm q] at this;exact this
 ·
  obtain⟨f,m,ha⟩:=ri x hh;obtain⟨hk,c⟩:=(ha _ (λ_ _=>rfl) _).1 hh;obtain⟨o,hb⟩:=pg w (c 0);have n:∀(β:Nat),∀i∈b.looks,((s.iq (s.h.put a.key (m β))).put a.d (f β)).t i=s.t i:=λβ i hi=>j3 λhe=>(h1 i he).1 hi;have eq:∀(β:Nat),∀i∈b.looks,((s.iq (s.h.put a.key (m β))).put a.d (f β)).t i=((s.iq (s.h.put a.key (m 0))).put a.d (f 0)).t i:=λβ i hi=>(n β i hi).trans (n 0 i hi).symm;refine(hb s (λi hi=>(n 0 i hi).symm) _).2 ((ha _ (λi hi=>j3 λhe=>h2 i he hi) _).2 ⟨by rw[kE];exact hk,λβ=>?_⟩);have:=(hb _ (eq β) _).1 (c β);rw[kE,ny,put_comm j];exact this
 ·
  obtain⟨f,m,ha⟩:=ri x hh;obtain⟨hk,c⟩:=(ha _ (λ_ _=>rfl) _).1 hh;obtain⟨o,ob,hb⟩:=ri v (c 0);have n:∀(β:Nat),∀i∈b.looks,((s.iq (s.h.put a.key (m β))).put a.d (f β)).t i=s.t i:=λβ i hi=>j3 λhe=>(h1 i he).1 hi;have eq:∀(β:Nat),∀i∈b.looks,((s.iq (s.h.put a.key (m β))).put a.d (f β)).t i=((s.iq (s.h.put a.key (m 0))).put a.d (f 0)).t i:=λβ i hi=>(n β i hi).trans (n 0 i hi).symm;have E:s.h b.key=none:=by
   have:=((hb _ (eq 0) _).1 (c 0)).1;rw[kE,xL] at this;simp only[Hp.put] at this;rw[aa (λe=>k e.symm)] at this;exact this
  refine(hb s (λi hi=>(n 0 i hi).symm) _).2 ⟨E,λy=>(ha ((s.iq (s.h.put b.key (ob y))).put b.d (o y)) (λi hi=>j3 (s:=s.iq (s.h.put b.key (ob y))) λhe=>h2 i he hi) _).2 ⟨?_,λβ=>?_⟩⟩
  ·rw[kE,xL];simp only[Hp.put];rw[aa k];exact hk
  ·have:=((hb _ (eq β) _).1 (c β)).2 y;rw[kE,xL,ny,w3,put_comm q,y9 k] at this;rw[kE,xL,ny,w3];exact this
 ·
  obtain⟨ka,f,m,ha⟩:=y8 D hh;obtain⟨hk,c⟩:=(ha _ (λ_ _=>rfl) rfl _).1 hh;obtain⟨o,hb⟩:=pg w (c none);have n:∀(β:Option Nat),∀i∈b.looks,((s.iq (s.h.put ka (m β))).put a.d (f β)).t i=s.t i:=λβ i hi=>j3 λhe=>(h1 i he).1 hi;have eq:∀(β:Option Nat),∀i∈b.looks,((s.iq (s.h.put ka (m β))).put a.d (f β)).t i=((s.iq (s.h.put ka (m none))).put a.d (f none)).t i:=λβ i hi=>(n β i hi).trans (n none i hi).symm;refine(hb s (λi hi=>(n none i hi).symm) _).2 ((ha _ (λi hi=>j3 λhe=>h2 i he hi) kE _).2 ⟨by rw[kE];exact hk,λβ=>?_⟩);have:=(hb _ (eq β) _).1 (c β);rw[kE,ny,put_comm j];exact this
def mQ(T:cp)(al:List AO):List Nat->S->(S->Prop)->Prop
 |[],s,K=>K s
 |i::R,s,K=>match al[i]? with
  |some o=>fm ca T o s λs=>mQ T al R s K
  |none=>False
theorem w4{T:cp}{al:List AO}:∀(l pre:List AO),al=pre++l->∀s K,mQ T al (List.range' pre.length l.length) s K=oH ca T l s K
 |[],pre,_,s,K=>rfl
 |o::l,pre,he,s,K=>by
  rw[ar,ek];simp only[mQ];have:al[pre.length]? =some o:=by rw[he];simp
  rw[this];have ih:=w4 (T:=T) (al:=al) l (pre++[o]) (by rw[he];simp);simp only[an,ar,aK,aS] at ih;have e:(λs=>mQ T al (List.range' (pre.length+1) l.length) s K)=λs=>oH ca T l s K:=funext λs=>ih s K;simp only[e];rfl
theorem w8{T:cp}{al:List AO}:∀(l pre rest:List AO),al=pre++(l++rest)->∀s K,mQ T al (List.range' pre.length l.length) s K=oH ca T l s K
 |[],pre,rest,_,s,K=>rfl
 |o::l,pre,rest,he,s,K=>by
  rw[ar,ek];simp only[mQ];have:al[pre.length]? =some o:=by rw[he];simp
  rw[this];have ih:=w8 (T:=T) (al:=al) l (pre++[o]) rest (by rw[he];simp);simp only[an,ar,aK,aS] at ih;have e:(λs=>mQ T al (List.range' (pre.length+1) l.length) s K)=λs=>oH ca T l s K:=funext λs=>ih s K;simp only[e];rfl
theorem vi{al:List AO}{i:Nat}{c:AO}(hi:al[i]? =some c):∀(a b:List Nat)(s:S)(K:S->Prop),(∀j∈a,∃d,al[j]? =some d/\nR d c=true)->mQ (fj P) al (a++i::b) s K->
  fm ca (fj P) c s λs=>mQ (fj P) al (a++b) s K
 |[],b,s,K,_,h=>by
  simp only[bO,mQ,hi] at h;exact h
 |j::a,b,s,K,e,h=>by
  obtain⟨d,hj,hp⟩:=e j (by simp);simp only[ay,mQ,hj] at h;have h':=Ep (λs1 hs1=>vi hi a b s1 K (λk hk=>e k (by simp[hk])) hs1) h;have:=swap hp h';simpa only[ay,mQ,hj] using this
def eV(ops:Array Oper)(al:List AO):Bool:=
 let t:=oJ ops ops.size
 (List.range ops.size).all λi=>(fR ops i).all (λj=>decide (j<i))&&
  (List.range i).all λj=>((t.getD i []).contains j)||(match al[j]?,al[i]? with
   |some a,some b=>nR a b
   |_,_=>false)
theorem nz{P:Program}{n:Nat}{ops:Array Oper}:∀{l:List Oper}{al:List AO},pP P n ops l=some al->l.length=al.length/\∀(i:Nat)(o:Oper),l[i]? =some o->∃a,al[i]? =some a/\SI P n ops o=some a
 |[],al,h=>by simp[pP] at h;subst h;simp
 |o::l,al,h=>by
  simp only[pP] at h
  split at h
  ·rename_i a m ha hm;cases h;obtain⟨h1,h2⟩:=nz hm;refine⟨by simp[h1],λi o' ho=>?_⟩;cases i with
   |zero=>simp at ho;subst ho;exact⟨a,rfl,ha⟩
   |succ i=>exact h2 i o' (by simpa using ho)
  ·cases h
theorem Er{C:Ctx}{n:Nat}{ops:Array Oper}{al:List AO}{Q:Exit->Act->World->Prop}(hC:C.Ok)(H:pP P n ops ops.toList=some al)(hD:eV ops al=true){K:S->Prop}(hQ:∀s' F w',Sat C n s' F w'->K s'->Q .normal F w'):
  ∀(R:List Nat)(c:Array Bool)(s:S)(a:Act)(w:World),c.size=ops.size->(∀i,i∈R↔i<ops.size/\c.getD i true=false)->R.Pairwise (·< ·)->(∀i,i<ops.size->c.getD i false=true->∀j∈fR ops i,c.getD j false=true)->
   Sat C n s a w->mQ (fj P) al R s K->wpAny P .any ops Q R.length c a w:=by
 have g:∀(c:Array Bool),(∀i,i<ops.size->c.getD i false=true->∀j∈fR ops i,c.getD j false=true)->∀j i,LC ops j i->(∀k∈fR ops i,c.getD k false=true)->c.getD j false=true:=by
  intro c p j i ha
  induction ha with
  |base h=>exact λhp=>hp _ h
  | @step k i h h' ih=>
   intro hp;have hk:=hp k h;have BB:k<ops.size:=by
    rcases dT k ops.size with h1|h1
    ·exact h1
    ·exfalso
     have:fR ops k=[]:=by unfold fR;rw[cK h1]
     cases h' with
     |base h2=>rw[this] at h2;cases h2
     |step h2 _=>rw[this] at h2;cases h2
   exact ih (p k BB hk)
 have oI:∀i,i<ops.size->(∀j∈fR ops i,j<i)/\∀j,j<i->LC ops j i\/∃a b,al[j]? =some a/\al[i]? =some b/\nR a b=true:=by
  intro i hi;unfold eV at hD;have h1:=aE.1 hD i (bJ.2 hi);simp only[aO] at h1;refine⟨λj hj=>by simpa using aE.1 h1.1 j hj,λj hj=>?_⟩;have h2:=aE.1 h1.2 j (bJ.2 hj);simp only[bC] at h2
  rcases h2 with h2|h2
  ·exact .inl (nP ops ops.size i j (by simpa using h2))
  ·right
   cases ha:al[j]? with
   |none=>rw[ha] at h2;simp at h2
   |some x=>
    cases hb:al[i]? with
    |none=>rw[ha,hb] at h2;simp at h2
    |some y=>rw[ha,hb] at h2;exact⟨x,y,rfl,rfl,h2⟩
 have t:∀(c:Array Bool)(i:Nat),c.size=ops.size->i<ops.size->(c.getD i true=false↔¬c.getD i false=true):=by
  intro c i hs hi;have:i<c.size:=by omega
  simp[this]
 intro R
 generalize hk:R.length=k
 induction k generalizing R with
 |zero=>
  intro c s a w hsz f _ _ hs hK;have hR:R=[]:=aq hk;subst hR;refine⟨cG.2 λj hj=>?_,hQ s a w hs hK⟩;obtain⟨h1,o,ho,_⟩:=mem_ready.1 hj;have:=(f j).2 ⟨(aD.1 ho).1,h1⟩;cases this
 |succ k ih=>
  intro c s a w hsz f m p hs hK;refine⟨λhr=>?_,λi hi=>?_⟩
  ·exfalso
   cases R with
   |nil=>cases hk
   |cons i0 R=>
    obtain⟨v,I⟩:=(f i0).1 (by simp);have:i0∈Region.ready .any ops c:=by
     refine mem_ready.2 ⟨I,ops[i0],aQ v,λe he hb=>?_⟩;have hp:e.on∈fR ops i0:=by
      unfold fR;rw[aQ v];exact aC.2 ⟨e,cd.2 ⟨by simpa using he,hb⟩,rfl⟩
     have hlt:=(oI i0 v).1 _ hp
     by_cases hl:c.getD e.on false=true
     ·exact hl
     ·exfalso
      have jF:=(f e.on).2 ⟨qW,(t c e.on hsz qW).2 hl⟩
      rcases ax.1 jF with h|h
      ·omega
      ·have:=(cr.1 m).1 _ h;omega
    rw[hr] at this;cases this
  ·obtain⟨hl,o,ho,A⟩:=mem_ready.1 hi;have lG:i<ops.size:=(aD.1 ho).1;have J:i∈R:=(f i).2 ⟨lG,hl⟩;obtain⟨G,L,rfl⟩:=di J;have u:∀k∈fR ops i,c.getD k false=true:=by
    intro k z;unfold fR at z;rw[ho] at z;obtain⟨e,he,rfl⟩:=aC.1 z;obtain⟨M,N⟩:=cd.1 he;exact A e (by simpa using M) N
   obtain⟨_,B⟩:=nz H;obtain⟨ai,D,O⟩:=B i o (by simpa using ho);have d:=cT.1 m;have T:∀j∈G,∃oj,al[j]? =some oj/\nR oj ai=true:=by
    intro j hj;have U:j<i:=d.2.2 j hj i (by simp);obtain⟨V,W⟩:=(f j).1 (by simp[hj])
    rcases(oI i lG).2 j U with h|⟨x,y,hx,hy,X⟩
    ·exact absurd (g c p j i h u) ((t c j hsz V).1 W)
    ·rw[D] at hy;cases hy;exact⟨x,hx,X⟩
   have r:=vi D G L s K T hK;have Y:i∉G++L:=by
    intro h
    rcases aU.1 h with h|h
    ·have:=d.2.2 i h i (by simp);omega
    ·have:=(cr.1 d.2.1).1 i h;omega
   unfold wpOp;rw[ho];refine mh yU hC O hs r λs' F w' hs' Z=>ih (G++L) ?_ (c.setIfInBounds i true) s' F w' (by simp[hsz]) (λj=>?_) ?_ (λj hj E q hq=>?_) hs' Z
   ·simp at hk⊢;omega
   ·by_cases l:i=j
    ·subst l;have h1:(c.setIfInBounds i true).getD i true=true:=by
      have:i<c.size:=by omega
      simp[this]
     rw[h1];exact⟨λh=>absurd h Y,λh=>by simp at h⟩
    ·rw[getD_set_ne true l,<-f j];simp only[aU,ax]
     constructor
     ·rintro(h|h)
      ·exact .inl h
      ·exact .inr (.inr h)
     ·rintro(h|h|h)
      ·exact .inl h
      ·exact absurd h.symm l
      ·exact .inr h
   ·refine cT.2 ⟨d.1,(cr.1 d.2.1).2,λx hx y hy=>d.2.2 x hx y (by simp[hy])⟩
   ·by_cases l:i=j
    ·subst l;exact getD_set_true (u q hq)
    ·rw[getD_set_ne false l] at E;exact getD_set_true (p j hj E q hq)
theorem BC{C:Ctx}{n:Nat}{ops:Array Oper}{al:List AO}{ol:AO}{m:Nat}{Q:Exit->Act->World->Prop}(hC:C.Ok)(U:pP P n ops ops.toList=some al)(hD:eV ops al=true)(hm:ops.size=m+1)(OO:al[m]? =some ol)(F:∀j,j<m->LC ops j m){K:S->Prop}(hQ:∀s' T w',Sat C n s' T w'->K s'->Q .normal T w'):
  ∀(R:List Nat)(c:Array Bool)(s:S)(a:Act)(w:World),c.size=ops.size->(∀i,i∈R↔i<m/\c.getD i true=false)->c.getD m true=false->R.Pairwise (·< ·)->(∀i,i<ops.size->c.getD i false=true->∀j∈fR ops i,c.getD j false=true)->
   Sat C n s a w->mQ (fj P) al R s (λs'=>fm ca (fa P) ol s' K)->wpAny P .any ops Q (R.length+1) c a w:=by
 have f:∀(c:Array Bool),(∀i,i<ops.size->c.getD i false=true->∀j∈fR ops i,c.getD j false=true)->∀j i,LC ops j i->(∀k∈fR ops i,c.getD k false=true)->c.getD j false=true:=by
  intro c v j i ha
  induction ha with
  |base h=>exact λhp=>hp _ h
  | @step k i h h' ih=>
   intro hp;have hk:=hp k h;have BB:k<ops.size:=by
    rcases dT k ops.size with h1|h1
    ·exact h1
    ·exfalso
     have:fR ops k=[]:=by unfold fR;rw[cK h1]
     cases h' with
     |base h2=>rw[this] at h2;cases h2
     |step h2 _=>rw[this] at h2;cases h2
   exact ih (v k BB hk)
 have oI:∀i,i<ops.size->(∀j∈fR ops i,j<i)/\∀j,j<i->LC ops j i\/∃a b,al[j]? =some a/\al[i]? =some b/\nR a b=true:=by
  intro i hi;unfold eV at hD;have h1:=aE.1 hD i (bJ.2 hi);simp only[aO] at h1;refine⟨λj hj=>by simpa using aE.1 h1.1 j hj,λj hj=>?_⟩;have h2:=aE.1 h1.2 j (bJ.2 hj);simp only[bC] at h2
  rcases h2 with h2|h2
  ·exact .inl (nP ops ops.size i j (by simpa using h2))
  ·right
   cases ha:al[j]? with
   |none=>rw[ha] at h2;simp at h2
   |some x=>
    cases hb:al[i]? with
    |none=>rw[ha,hb] at h2;simp at h2
    |some y=>rw[ha,hb] at h2;exact⟨x,y,rfl,rfl,h2⟩
 have l:∀(c:Array Bool)(i:Nat),c.size=ops.size->i<ops.size->(c.getD i true=false↔¬c.getD i false=true):=by
  intro c i hs hi;have:i<c.size:=by omega
  simp[this]
 have G:∀(c:Array Bool)(i:Nat)(o:Oper),ops[i]? =some o->(∀e,e∈o.after->Region.binds .any e=true->c.getD e.on false=true)->∀k∈fR ops i,c.getD k false=true:=by
  intro c i o ho u k r;unfold fR at r;rw[ho] at r;obtain⟨e,he,rfl⟩:=aC.1 r;obtain⟨H,I⟩:=cd.1 he;exact u e (by simpa using H) I
 intro R
 generalize hk:R.length=k
 induction k generalizing R with
 |zero=>
  intro c s a w hsz g J _ v hs hK;have hR:R=[]:=aq hk;subst hR;have t:∀j,j<m->c.getD j false=true:=by
   intro j hj;cases hb:c.getD j false with
   |true=>rfl
   |false=>
    have:=(g j).2 ⟨hj,(l c j hsz qW).2 (by rw[hb];simp)⟩;cases this
  refine⟨λhr=>?_,λi hi=>?_⟩
  ·exfalso
   have:m∈Region.ready .any ops c:=by
    refine mem_ready.2 ⟨J,ops[m],aQ qW,λe he hb=>t _ ?_⟩;have hp:e.on∈fR ops m:=by
     unfold fR;rw[aQ qW];exact aC.2 ⟨e,cd.2 ⟨by simpa using he,hb⟩,rfl⟩
    exact(oI m qW).1 _ hp
   rw[hr] at this;cases this
  ·obtain⟨hl,o,ho,u⟩:=mem_ready.1 hi;have lG:i<ops.size:=(aD.1 ho).1;have L:i=m:=by
    rcases dT i m with h|h
    ·exfalso;exact(l c i hsz lG).1 hl (t i h)
    ·omega
   subst L;obtain⟨_,z⟩:=nz U;obtain⟨ai,A,M⟩:=z i o (by simpa using ho);rw[OO] at A;cases A;unfold wpOp;rw[ho];refine mh u6 hC M hs hK λs' T w' hs' N=>⟨?_,hQ s' T w' hs' N⟩;refine cG.2 λj hj=>?_;obtain⟨h1,o',Z,_⟩:=mem_ready.1 hj;have V:j<ops.size:=(aD.1 Z).1
   by_cases p:i=j
   ·subst p;have:i<c.size:=by omega
    simp[this] at h1
   ·rw[getD_set_ne true p] at h1;exact(l c j hsz V).1 h1 (t j qW)
 |succ k ih=>
  intro c s a w hsz g J B v hs hK;refine⟨λhr=>?_,λi hi=>?_⟩
  ·exfalso
   cases R with
   |nil=>cases hk
   |cons i0 R=>
    obtain⟨W,O⟩:=(g i0).1 (by simp);have:i0∈Region.ready .any ops c:=by
     refine mem_ready.2 ⟨O,ops[i0],aQ qW,λe he hb=>?_⟩;have hp:e.on∈fR ops i0:=by
      unfold fR;rw[aQ qW];exact aC.2 ⟨e,cd.2 ⟨by simpa using he,hb⟩,rfl⟩
     have hlt:=(oI i0 qW).1 _ hp
     by_cases hl:c.getD e.on false=true
     ·exact hl
     ·exfalso
      have jF:=(g e.on).2 ⟨qW,(l c e.on hsz qW).2 hl⟩
      rcases ax.1 jF with h|h
      ·omega
      ·have:=(cr.1 B).1 _ h;omega
    rw[hr] at this;cases this
  ·obtain⟨hl,o,ho,u⟩:=mem_ready.1 hi;have lG:i<ops.size:=(aD.1 ho).1;have D:∀k∈fR ops i,c.getD k false=true:=by
    intro k r;unfold fR at r;rw[ho] at r;obtain⟨e,he,rfl⟩:=aC.1 r;obtain⟨H,I⟩:=cd.1 he;exact u e (by simpa using H) I
   have L:i<m:=by
    rcases dT i m with h|h
    ·exact h
    ·exfalso
     have:i=m:=by omega
     subst this;cases R with
     |nil=>cases hk
     |cons i0 R=>
      obtain⟨W,O⟩:=(g i0).1 (by simp);exact(l c i0 hsz qW).1 O (f c v i0 i (F i0 W) D)
   have Xw:i∈R:=(g i).2 ⟨L,hl⟩;obtain⟨Y,R2,rfl⟩:=di Xw;obtain⟨_,z⟩:=nz U;obtain⟨ai,A,M⟩:=z i o (by simpa using ho);have d:=cT.1 B;have Xx:∀j∈Y,∃oj,al[j]? =some oj/\nR oj ai=true:=by
    intro j hj;have Xy:j<i:=d.2.2 j hj i (by simp);obtain⟨V,Xz⟩:=(g j).1 (by simp[hj])
    rcases(oI i lG).2 j Xy with h|⟨x,y,hx,hy,XA⟩
    ·exact absurd (f c v j i h D) ((l c j hsz qW).1 Xz)
    ·rw[A] at hy;cases hy;exact⟨x,hx,XA⟩
   have E:=vi A Y R2 s _ Xx hK;have XB:i∉Y++R2:=by
    intro h
    rcases aU.1 h with h|h
    ·have:=d.2.2 i h i (by simp);omega
    ·have:=(cr.1 d.2.1).1 i h;omega
   unfold wpOp;rw[ho];refine mh yU hC M hs E λs' T w' hs' N=>ih (Y++R2) ?_ (c.setIfInBounds i true) s' T w' (by simp[hsz]) (λj=>?_) ?_ ?_ (λj hj X q hq=>?_) hs' N
   ·simp at hk⊢;omega
   ·by_cases p:i=j
    ·subst p;have h1:(c.setIfInBounds i true).getD i true=true:=by
      have:i<c.size:=by omega
      simp[this]
     rw[h1];exact⟨λh=>absurd h XB,λh=>by simp at h⟩
    ·rw[getD_set_ne true p,<-g j];simp only[aU,ax]
     constructor
     ·rintro(h|h)
      ·exact .inl h
      ·exact .inr (.inr h)
     ·rintro(h|h|h)
      ·exact .inl h
      ·exact absurd h.symm p
      ·exact .inr h
   ·rw[getD_set_ne true qW];exact J
   ·refine cT.2 ⟨d.1,(cr.1 d.2.1).2,λx hx y hy=>d.2.2 x hx y (by simp[hy])⟩
   ·by_cases p:i=j
    ·subst p;exact getD_set_true (D q hq)
    ·rw[getD_set_ne false p] at X;exact getD_set_true (v j hj X q hq)
theorem Gy(hm:P.follows .mixedOrders=true):lH P eV:=by
 refine⟨hm,?_,?_⟩
 rotate_left
 ·intro C n id ops al s a w K Q g d r hl hs hK t;refine wp_region_any hm ?_;have hs2:Sat C n s a {w with drawn:=w.drawn+1}:=by
   obtain⟨F,hh,hr⟩:=hs.ex;have c:Ev (λ_=>False) w {w with drawn:=w.drawn+1}:=Ev.drew _ w
   refine⟨⟨F,⟨λk o hk=>fy.keep g hh c (λ_ _ h=>h.elim) (hh.ob k o hk) (λ_ _ h=>h.elim),hh.inj,hh.live,hh.jq,hh.new,hh.lt,Ev.j8 hh.ev c λ_ _ h=>h.elim⟩,λi=>hh.keep g c (λ_ _ h=>h.elim) (hr i)⟩,hs.df,hs.sz⟩
  have hlen:=(nz d).1;have p:al.length=ops.size:=by rw[<-hlen];simp
  obtain⟨b,ol,rfl⟩:∃b ol,al=b++[ol]:=by
   cases hq:al.reverse with
   |nil=>
    have:al=[]:=by simpa using hq
    subst this;simp[CA] at hl
   |cons x l=>exact⟨l.reverse,x,by rw[<-List.reverse_reverse al,hq];simp⟩
  have hsz:ops.size=b.length+1:=by rw[<-p];simp
  simp only[dM,an,ar,aK,aS,Nat.add_sub_cancel] at hK;rw[List.drop_left] at hK;have q:∀j,j<b.length->LC ops j b.length:=by
   intro j hj;unfold CA at hl;rw[List.getLast?_concat] at hl;simp only[aO] at hl;have:=aE.1 hl.2 j (bJ.2 qW);rw[hsz] at this;exact nP ops (b.length+1) b.length j (by simpa using this)
  have e:=w8 (T:=fj P) (al:=b++[ol]) b [] [ol] rfl s λs'=>fm ca (fa P) ol s' K;have:=BC (m:=b.length) (ol:=ol) g d r hsz (by simp) q t (List.range' 0 b.length) (Array.replicate ops.size false) s a {w with drawn:=w.drawn+1} (by simp) (λi=>?_) (by rw[hsz];simp) ?_ (λi hi hl=>?_) hs2 (by
   rw[show(0:Nat)=([]:List AO).length from rfl,e];exact hK)
  ·rw[List.length_range',<-hsz] at this;exact this
  ·simp only[List.mem_range'_1,bd,aS,eQ];exact⟨λh=>⟨h,by(have:i<ops.size:=by omega);simp[this]⟩,λh=>h.1⟩
  ·exact en
  ·simp[hi] at hl
 intro C n id ops al s a w K Q g d r hs hK t;refine wp_region_any hm ?_;have hs2:Sat C n s a {w with drawn:=w.drawn+1}:=by
  obtain⟨F,hh,hr⟩:=hs.ex;have c:Ev (λ_=>False) w {w with drawn:=w.drawn+1}:=Ev.drew _ w
  refine⟨⟨F,⟨λk o hk=>fy.keep g hh c (λ_ _ h=>h.elim) (hh.ob k o hk) (λ_ _ h=>h.elim),hh.inj,hh.live,hh.jq,hh.new,hh.lt,Ev.j8 hh.ev c λ_ _ h=>h.elim⟩,λi=>hh.keep g c (λ_ _ h=>h.elim) (hr i)⟩,hs.df,hs.sz⟩
 have hlen:=(nz d).1;have e:=w4 (T:=fj P) (al:=al) al [] rfl s K;have f:(List.range' 0 al.length).length=ops.size:=by simp[<-hlen]
 have:=Er g d r t (List.range' 0 al.length) (Array.replicate ops.size false) s a {w with drawn:=w.drawn+1} (by simp) (λi=>?_) ?_ (λi hi hl=>?_) hs2 (by rw[show(0:Nat)=([]:List AO).length from rfl,e];exact hK)
 ·rw[f] at this;exact this
 ·have he:al.length=ops.size:=by rw[<-hlen];simp
  rw[he];simp only[List.mem_range'_1,bd,aS,eQ];exact⟨λh=>⟨h,by simp[h]⟩,λh=>h.1⟩
 ·exact en
 ·simp[hi] at hl
end
open Go.ChangeShapes Go.WideShapes Go.ChangeAt Go.RowKit
theorem nc(n:Nat):(NatCast.natCast n:Int)=(n:Int):=rfl
theorem qO{p:Prop}(h:p:=by((try simp only[nc] at*);omega)):p:=h
theorem gY:lH Tryz.prog eV:=Gy (by kernel_rfl)
def xM(w:World):Nat->Prop:=λb=>b<w.heap.size
structure iW(w:World)(vs:List V)(cs:List Value):Prop where
 len:vs.length=cs.length
 rel:∀(i:Nat)(v:V)(u:Value),vs[i]? =some v->cs[i]? =some u->Rel (xM w) (λ_=>False) w v u/\u.oneCell'=true
theorem iW.nil(w:World):iW w [] []:=⟨rfl,by simp⟩
theorem iW.app{w:World}{a c:List V}{b d:List Value}(h1:iW w a b)(h2:iW w c d):iW w (a++c) (b++d):=by
 refine⟨by simp[h1.len,h2.len],λi v u hv hu=>?_⟩
 by_cases hi:i<a.length
 ·rw[aW hi] at hv;rw[aW (by rw[<-h1.len];exact hi)] at hu;exact h1.rel i v u hv hu
 ·rw[aV qW] at hv;rw[aV (by rw[<-h1.len];omega),<-h1.len] at hu;exact h2.rel _ v u hv hu
theorem iW.one{w:World}{v:V}{u:Value}(h:Rel (xM w) (λ_=>False) w v u)(h1:u.oneCell'=true):iW w [v] [u]:=by
 refine⟨rfl,λi v' a hv hu=>?_⟩;cases i with
 |zero=>simp at hv hu;subst hv hu;exact⟨h,h1⟩
 |succ i=>simp at hv
def iN(T:TypeId)(α:Type)(enc:α->List V)(ok:α->Prop):Prop:=
 ∀(H:Type)(e:TypeId×Value->H)(w:World)(base:Nat)(spare:Nat->Bool)(held:Bool)(fuel:Nat)(cs:List Value)(x:DataW H×List MemPlace),
  DataW.trod e Tryz.prog w base spare held fuel T cs=some x->∃a:α,ok a/\iW w (enc a) cs
theorem w9{T:TypeId}(a:Tryz.prog.underlying T=some (.int .i64)):iN T Int (λn=>[.int .i64 n]) iU:=by
 intro H e w base spare held fuel cs x h;obtain⟨n,rfl,_,hn⟩:=DataW.trod_int a h;refine⟨n,?_,iW.one (.int _ _) rfl⟩;have h1:IntKind.i64.min= -9223372036854775808:=rfl;have h2:IntKind.i64.max=9223372036854775807:=rfl;simp only[Lit.wf,aO,bU] at hn;unfold iU;omega
theorem Es{T:TypeId}(a:Tryz.prog.underlying T=some .string):iN T BS (λs=>[.str s]) (λs=>s.length<=maxLen):=by
 intro H e w base spare held fuel cs x h;obtain⟨s,rfl,_,hs⟩:=DataW.trod_string a h;exact⟨s.data.toList,by show s.data.toList.length<=maxLen;rw[bH];exact hs,iW.one (.str _) rfl⟩
theorem CD{α:Type}{Q:Nat->α->Prop}:∀n:Nat,(∀i,i<n->∃a,Q i a)->∃l:List α,l.length=n/\∀(i:Nat)(a:α),l[i]? =some a->Q i a
 |0,_=>⟨[],rfl,by simp⟩
 |n+1,h=>by
  obtain⟨l,hl,hq⟩:=CD n λi hi=>h i qW;obtain⟨a,ha⟩:=h n qW;refine⟨l++[a],by simp[hl],λi b hb=>?_⟩
  by_cases hi:i<l.length
  ·rw[aW hi] at hb;exact hq i b hb
  ·rw[aV qW] at hb;cases hk:i-l.length with
   |zero=>rw[hk] at hb;simp at hb;subst hb;rw[show i=n by omega];exact ha
   |succ k=>rw[hk] at hb;simp at hb
theorem mR{T E:TypeId}{α:Type}{enc:α->List V}{ok:α->Prop}{sz:Nat}(y:Tryz.prog.underlying T=some (.slice E))(z:iN E α enc ok)(hsz:Tryz.prog.cellsOf E=sz)(f:∀a,(enc a).length=sz)(g:0<sz):
  iN T (List α) (λl=>[.sl false sz (l.map enc)]) (λl=>l.length<=maxLen/\∀a∈l,ok a):=by
 intro H e w base spare held fuel cs x h
 rcases DataW.trod_slice y h with⟨rfl,_⟩|⟨a,len,cap,elems,rest,n,_,rfl,_,_,A,B,C,k,_⟩
 ·exact⟨[],by simp,iW.one (.slnil _ _) rfl⟩
 ·rw[hsz] at k;have hi:∀i,i<len->∃b:α,ok b/\∃kp,w.cells? base (a.add (i*sz)) sz=some kp/\iW w (enc b) kp:=by
   intro i hi;have h1:=k i hi;have h2:elems[i]? =some (elems[i]'qW):=af qW;rw[h2] at h1;obtain⟨kp,hc,ht⟩:=bT.1 h1;obtain⟨b,hb,c⟩:=z _ _ _ _ _ _ _ _ _ ht;exact⟨b,hb,kp,hc,c⟩
  obtain⟨l,hl,hq⟩:=CD len hi;refine⟨l,⟨qW,λb hb=>?_⟩,iW.one ?_ rfl⟩
  ·obtain⟨i,hi'⟩:=dL hb;exact(hq i b hi').1
  ·by_cases h0:len=0
   ·have:l=[]:=aq qW;subst this;subst h0;exact .slemp _ _ _ _
   ·have cell:∀(i j:Nat)(b:α)(v:V),l[i]? =some b->(enc b)[j]? =some v->∃u,w.cell? (a.add (i*sz+j))=some u/\Rel (xM w) (λ_=>False) w v u/\u.oneCell'=true:=by
     intro i j b v hb hv;obtain⟨_,kp,hc,c⟩:=hq i b hb;obtain⟨_,D,hat⟩:=World.cells?_some hc;have hj:j<sz:=by have:=(ah.1 hv).1;rw[f] at this;exact this
     have h1:=hat j hj;have h2:kp[j]? =some (kp[j]'qW):=af qW;rw[h2] at h1;have p:(a.add (i*sz)).add j=a.add (i*sz+j):=by
      unfold Addr.add
      by_cases F:i*sz=0<;>by_cases z2:j=0<;>simp[F,z2,cg]
     rw[p] at h1;exact⟨_,h1,c.rel j v _ hv h2⟩
    have t:0<l.length:=by omega
    obtain⟨u0,d,_⟩:=cell 0 0 l[0] ((enc l[0])[0]'(by rw[f];exact g)) (af t) (af (by rw[f];exact g));have q:a.spot=none:=by
     have m:a.add (0*sz+0)=a:=by simp[Addr.add]
     rw[m] at d;unfold World.cell? at d
     split at d
     ·split at d
      ·cases d
      ·rename_i hs;simpa using hs
     ·cases d
    obtain⟨s,ao,G⟩:=a;simp only at q;subst q;have hb:s<w.heap.size:=by
     have m:(⟨s,ao,none⟩:Addr).add (0*sz+0)=⟨s,ao,none⟩:=by simp[Addr.add]
     rw[m] at d;exact World.block_lt_of_cell? w _ d
    rw[show len=(l.map enc).length by simp[hl]];refine .sl false sz (l.map enc) s ao cap (λi j=>(w.cell? ⟨s,ao+(i*sz+j),none⟩).getD undef) (.inl hb) (by simp[hl];omega) (λr hr=>?_) (λi j r v hi hj=>?_) (λi j r v hi hj=>?_)
    ·simp only[aC] at hr;obtain⟨b,_,rfl⟩:=hr;exact f b
    ·simp only[av,au] at hi;obtain⟨b,o,rfl⟩:=hi;obtain⟨u,hu,_,h1⟩:=cell i j b v o hj;rw[jB] at hu;rw[hu];exact⟨rfl,h1⟩
    ·simp only[av,au] at hi;obtain⟨b,o,rfl⟩:=hi;obtain⟨u,hu,hr,_⟩:=cell i j b v o hj;rw[jB] at hu;rw[hu];exact hr
theorem Et{f:Nat}{args:List V}{us:Array Value}{W:World}(hs:Spec Tryz.prog f args Hp.emp (Is (.bool true)))(hl:us.size=args.length)
  (hr:∀(i:Nat)(v:V)(u:Value),args[i]? =some v->us[i]? =some u->Rel (xM W) (λ_=>False) W v u):
  Calls Tryz.prog f us W λe w'=>e=.returned (.bool true)/\Below W.heap.size W w':=by
 let C:Ctx:=⟨W,xM W,λ_=>False,λ_=>False⟩
 have c:C.Ok:=⟨λb hb=>⟨hb,λh=>h⟩,λb hb=>hb.elim,λb hb=>hb.elim⟩;refine(hs.run C us c hl hr ⟨λk o hk=>by simp[Hp.emp] at hk,λk k' o o' b hk=>by simp[Hp.emp] at hk,λk o b hk=>by simp[Hp.emp] at hk,λb hb=>.inl hb,λb hb=>hb,λb hb=>hb,Ev.refl _ _⟩).mono ?_;rintro e w' ⟨u,v,h',F',rfl,hv,hs2,rfl,rfl⟩;cases hv;have a:Ev (λ_=>False) W w':=hs2.ev;exact⟨rfl,a.os,a.tape,a.output,a.size,λk hk=>a.same k hk (λh=>h)⟩
set_option maxRecDepth 100000
set_option maxHeartbeats 2000000
def ug(fs:List Field)(off b:Nat)(α:Type)(enc:α->List V)(ok:α->Prop):Prop:=
 ∀(H:Type)(e:TypeId×Value->H)(w:World)(base:Nat)(spare:Nat->Bool)(held:Bool)(n:Nat)(cs:List Value),
  (∀(i:Nat)(f:Field),fs[i]? =some f->∃y:DataW H×List MemPlace,DataW.trod e Tryz.prog w base spare held n f.type ((cs.drop f.offset).take (Tryz.prog.cellsOf f.type))=some y)->
  ∃a:α,ok a/\iW w (enc a) ((cs.drop off).take b)
theorem Eu(off:Nat):ug [] off 0 Unit (λ_=>[]) (λ_=>True):=λH e w base spare held n cs _=>⟨(),trivial,by simpa using iW.nil w⟩
theorem qj{f:Field}{fs:List Field}{off k c:Nat}{α β:Type}{e1:α->List V}{e2:β->List V}{d:α->Prop}{j:β->Prop}(h1:iN f.type α e1 d)(ho:f.offset=off)(hk:Tryz.prog.cellsOf f.type=k)
  (h2:ug fs (off+k) c β e2 j):ug (f::fs) off (k+c) (α×β) (λp=>e1 p.1++e2 p.2) (λp=>d p.1/\j p.2):=by
 intro H e w base spare held n cs h;obtain⟨y,hy⟩:=h 0 f rfl;obtain⟨a,ha,hc⟩:=h1 _ _ _ _ _ _ _ _ _ hy;obtain⟨b,hb,hd⟩:=h2 H e w base spare held n cs λi g hg=>h (i+1) g (by simpa using hg);refine⟨(a,b),⟨ha,hb⟩,?_⟩;rw[List.take_add,cU];rw[ho,hk] at hc;exact hc.app hd
theorem xN{T:TypeId}{fs:Array Field}{b:Nat}{α:Type}{enc:α->List V}{ok:α->Prop}(c:Tryz.prog.underlying T=some (.struct fs))(hf:ug fs.toList 0 b α enc ok)(hk:Tryz.prog.cellsOf T=b):iN T α enc ok:=by
 intro H e w base spare held fuel cs x h;obtain⟨xs,n,_,hx,hl,hlen,hg⟩:=DataW.trod_struct c h;obtain⟨a,ha,hc⟩:=hf H e w base spare held n cs λi f hi=>by
  have hi':fs[i]? =some f:=by simpa using hi
  have hlt:i<xs.length:=by rw[hlen];exact(aD.1 hi').1
  exact⟨xs[i],by rw[hg i f hi',af hlt]⟩
 refine⟨a,ha,?_⟩;rw[cV,bD qW] at hc;exact hc
theorem Ew{T:TypeId}{α β:Type}{e1:α->List V}{b:α->Prop}{e2:β->List V}{c:β->Prop}(h:iN T α e1 b)(g:α->β)(he:∀a,e2 (g a)=e1 a)(ho:∀a,b a->c (g a)):iN T β e2 c:=by
 intro H e w base spare held fuel cs x hh;obtain⟨a,ha,hc⟩:=h _ _ _ _ _ _ _ _ _ hh;exact⟨g a,ho a ha,by rw[he];exact hc⟩
section
variable {H:Type} {enc:TypeId×Value->H} {w:World} {base:Nat} {spare:Nat->Bool} {held:Bool}
theorem vj{T:TypeId}{α:Type}{f:α->V}{ok:α->Prop}{v:Value}{d:DataW H}{p:List MemPlace}(hr:iN T α (λa=>[f a]) ok)(hv:v.oneCell'=true)(h:DataW.Trod enc Tryz.prog w base spare held T v d p):
  ∃a:α,ok a/\Rel (xM w) (λ_=>False) w (f a) v:=by
 obtain⟨fuel,h⟩:=h;obtain⟨a,ha,hc⟩:=hr _ _ _ _ _ _ _ _ _ h;refine⟨a,ha,(hc.rel 0 (f a) v rfl ?_).1⟩;cases v<;>first|rfl|cases hv
end
theorem xa{T E:TypeId}{w:World}{r:Reach}{base:Nat}{v:Value}(a:Tryz.prog.underlying T=some (.slice E))(h:Value.okWide Tryz.prog w r base T v):v.oneCell'=true:=by
 simp only[Value.okWide,a] at h;cases v<;>first|rfl|(unfold Cell.okWide at h;simp only[a] at h;unfold Cell.ok at h;simp[a] at h)
theorem LZ{T:TypeId}{k:IntKind}{w:World}{r:Reach}{base:Nat}{v:Value}(a:Tryz.prog.underlying T=some (.int k))(h:Value.okWide Tryz.prog w r base T v):v.oneCell'=true:=by
 simp only[Value.okWide,a] at h;cases v<;>first|rfl|(unfold Cell.okWide at h;simp only[a] at h;unfold Cell.ok at h;simp[a] at h)
structure Part where
 kind:Int
 n:Int
 text:BS
def a6(p:Part):List V:=[.int .i64 p.kind,.int .i64 p.n,.str p.text]
def Part.Ok(p:Part):Prop:=iU p.kind/\iU p.n/\p.text.length<=maxLen
def mi(p:Part):Int:=
 if p.kind=1\/p.kind=3 then(if p.n<1\/p.text≠[] then 3 else if p.n>500\/(p.text.length:Int)>500 then 2 else 0)
 else if p.kind=2 then(if p.n≠0\/p.text=[] then 3 else if p.n>500\/(p.text.length:Int)>500 then 2 else 0)
 else 3
def Gz:AC:=qr [qo 1 (.box 115 3 (.t 0)),qz 2 0] (qq (qr [qf 3 0 1,ql 4 3] (.block 0 (qq (qr [qc 6 .eql 4 1,qm 5 6] (qu 5 .skip (qR [qc 7 .eql 4 3,qm 5 7]))) (qu 5 (qr [qf 8 1 1,ql 9 8,qc 10 .lss 9 1,qm 11 10,qg 12 11 false (.faddr 2 (.t 1)),qg 13 11 false (.load1 (.t 12)),qg 14 11 false (.bin .neq (.t 13) (.c qe)),qo 15 (.pick (.t 11) (.c (.bool true)) (.t 14))] (qu 15 (qr [qz 2 3] .ret) .skip)) (qr [qc 17 .eql 4 2,qm 16 17] (qu 16 (qr [qf 18 1 1,ql 19 18,qc 20 .neq 19 0,qm 21 20,qg 22 21 false (.faddr 2 (.t 1)),qg 23 21 false (.load1 (.t 22)),qg 24 21 false (.bin .eql (.t 23) (.c qe)),qo 25 (.pick (.t 21) (.c (.bool true)) (.t 24))] (qu 25 (qr [qz 2 3] .ret) .skip)) (qr [qz 2 3] .ret))))))) (qq (qr [qf 26 1 1,ql 27 26,qc 28 .gtr 27 500,qm 29 28,qg 30 29 false (.faddr 2 (.t 1)),qg 31 29 false (.load1 (.t 30)),qg 32 29 false (.len true (.t 31)),qg 33 29 false (.bin .gtr (.t 32) (qk 500)),qo 34 (.pick (.t 29) (.c (.bool true)) (.t 33))] (qu 34 (qr [qz 2 2] .ret) .skip)) (qr [qz 2 0] .ret)))
theorem PV:fo Tryz.prog 143 Tryz.f143 Gz [.t 2] 1 eV:=⟨Tryz.func143,by decide+kernel,by kernel_rfl,by kernel_rfl,by decide+kernel⟩
theorem PW(P:Prim)(hP:P=ca)(T b:cp)(k n:Int)(t:BS)(r:Int)(hr:mi ⟨k,n,t⟩=r)(R:S->Prop)(a:∀s s',a7 s s'->hX [.t 2] [qI r] s'->R s):
  fX P T b Gz (S0 [.agg [qI k,qI n,.str t]] Hp.emp) R (λ_ _=>False) R:=by
 cbv
 repeat'(first|(intro β;cbv)|(refine And.intro (by assumption) ?_;cbv)|(refine ab (λh=>?_) (λh=>?_)<;>try cbv))
 all_goals
  refine a _ _ (a7.refl _) ?_;cbv
 all_goals
  subst hP;subst hr;simp[ca] at*;clear a
  grind [mi]
theorem PX(p:Part):Spec Tryz.prog 143 [.agg (a6 p)] Hp.emp (Is (.int .i64 (mi p))):=
 eW gY PV [.int .i64 (mi p)] (.int _ _) λR a=>PW ca rfl _ _ p.kind p.n p.text _ rfl R a
def zc:AC:=qr [qo 1 (.box 115 3 (.t 0)),qz 2 0] (qr [qf 4 0 1,ql 5 4,qc 6 .eql 5 2,qm 7 6,qg 8 7 true (.faddr 1 (.t 1)),qg 9 7 true (.load1 (.t 8)),qg 10 7 true (.bin .eql (.t 9) (qk 0)),qo 11 (.pick (.t 7) (.t 10) (.c (.bool false))),qm 12 11,qg 13 12 true (.faddr 2 (.t 1)),qg 14 12 true (.load1 (.t 13)),qg 15 12 true (.bin .neq (.t 14) (.c qe)),qo 16 (.pick (.t 12) (.t 15) (.c (.bool false))),qm 17 16,qg 18 17 false (.faddr 0 (.t 1)),qg 19 17 false (.load1 (.t 18)),qg 20 17 false (.bin .eql (.t 19) (qk 1)),qg 21 17 false (.mov (.t 20)),qg 22 21 false (.faddr 0 (.t 1)),qg 23 21 false (.load1 (.t 22)),qg 24 21 false (.bin .eql (.t 23) (qk 3)),qg 25 17 false (.pick (.t 21) (.c (.bool true)) (.t 24)),qg 26 17 false (.mov (.t 25)),qg 27 26 true (.faddr 1 (.t 1)),qg 28 26 true (.load1 (.t 27)),qg 29 26 true (.bin .gtr (.t 28) (qk 0)),qg 30 17 false (.pick (.t 26) (.t 29) (.c (.bool false))),qg 31 17 false (.mov (.t 30)),qg 32 31 true (.faddr 2 (.t 1)),qg 33 31 true (.load1 (.t 32)),qg 34 31 true (.bin .eql (.t 33) (.c qe)),qg 35 17 false (.pick (.t 31) (.t 34) (.c (.bool false))),qo 36 (.pick (.t 17) (.c (.bool true)) (.t 35)),qm 3 36] (qq (qr [qm 37 3,qo 38 (.not (.t 37))] (qu 38 (qr [qz 2 3] .ret) .skip)) (qq (qr [qf 39 1 1,ql 40 39,qc 41 .gtr 40 500,qm 42 41,qg 43 42 false (.faddr 2 (.t 1)),qg 44 42 false (.load1 (.t 43)),qg 45 42 false (.len true (.t 44)),qg 46 42 false (.bin .gtr (.t 45) (qk 500)),qo 47 (.pick (.t 42) (.c (.bool true)) (.t 46))] (qu 47 (qr [qz 2 2] .ret) .skip)) (qr [qz 2 0] .ret))))
theorem GA:fo Tryz.prog 129 Tryz.f129 zc [.t 2] 1 eV:=⟨Tryz.func129,by decide+kernel,by kernel_rfl,by kernel_rfl,by decide+kernel⟩
theorem GB(P:Prim)(hP:P=ca)(T b:cp)(k n:Int)(t:BS)(r:Int)(hr:mi ⟨k,n,t⟩=r)(R:S->Prop)(a:∀s s',a7 s s'->hX [.t 2] [qI r] s'->R s):
  fX P T b zc (S0 [.agg [qI k,qI n,.str t]] Hp.emp) R (λ_ _=>False) R:=by
 cbv
 repeat'(first|(intro β;cbv)|(refine And.intro (by assumption) ?_;cbv)|(refine ab (λh=>?_) (λh=>?_)<;>try cbv))
 all_goals
  refine a _ _ (a7.refl _) ?_;cbv
 all_goals
  subst hP;subst hr;simp[ca] at*;clear a
  grind [mi]
theorem GC(p:Part):Spec Tryz.prog 129 [.agg (a6 p)] Hp.emp (Is (.int .i64 (mi p))):=
 eW gY GA [.int .i64 (mi p)] (.int _ _) λR a=>GB ca rfl _ _ p.kind p.n p.text _ rfl R a
theorem GD:iN 3 Int (λn=>[.int .i64 n]) iU:=w9 Tryz.underlying3
theorem SJ:iN 9 BS (λs=>[.str s]) (λs=>s.length<=maxLen):=Es Tryz.underlying9
theorem PY:iN 29 (List Int) (λl=>[.sl false 1 (l.map λn=>[.int .i64 n])]) (λl=>l.length<=maxLen/\∀a∈l,iU a):=mR Tryz.underlying29 GD (by kernel_rfl) (λ_=>rfl) qD
theorem BD:iN 115 Part a6 Part.Ok:=
 Ew (xN Tryz.underlying115 (qj (k:=1) GD rfl (by kernel_rfl) (qj (k:=1) GD rfl (by kernel_rfl) (qj (k:=1) SJ rfl (by kernel_rfl) (Eu _)))) (by kernel_rfl))
  (λp=>⟨p.1,p.2.1,p.2.2.1⟩) (λ_=>rfl) (λp h=>⟨h.1,h.2.1,h.2.2.1⟩)
def fc(d:List Part):V:=.sl false 3 (d.map a6)
def fw(d:List Part):Prop:=d.length<=maxLen/\∀p∈d,p.Ok
theorem zd:iN 30 (List Part) (λd=>[fc d]) fw:=mR Tryz.underlying30 BD (by kernel_rfl) (λ_=>rfl) qD
theorem BE:iN 29 (List Int) (λl=>[.sl false 1 (l.map λn=>[.int .i64 n])]) (λl=>l.length<=maxLen/\∀a∈l,iU a):=PY
structure eX where
 who:Int
 seq:Int
 delta:List Part
def a8(r:eX):List V:=[.int .i64 r.who,.int .i64 r.seq,fc r.delta]
def eX.Ok(r:eX):Prop:=iU r.who/\iU r.seq/\fw r.delta
def mj(l:List eX):Prop:=l.length<=maxLen/\∀r∈l,r.Ok
structure Wv where
 last:Int
 every:Int
 pins:List Int
def Wv.Ok(p:Wv):Prop:=iU p.last/\iU p.every/\p.pins.length<=maxLen/\∀a∈p.pins,iU a
structure Slot where
 data:BS
 safe:Int
def Slot.Ok(s:Slot):Prop:=s.data.length<=maxLen/\iU s.safe
structure SK where
 a:Slot
 b:Slot
def SK.Ok(d:SK):Prop:=d.a.Ok/\d.b.Ok
structure Frame where
 kind:Int
 body:BS
def ze(f:Frame):List V:=[.int .i64 f.kind,.str f.body]
def Frame.Ok(f:Frame):Prop:=iU f.kind/\f.body.length<=maxLen
structure Client where
 who:Int
 rev:Int
 seq:Int
 text:BS
 eT:Bool
 eZ:List Part
 waiting:Bool
 held:List Part
def ef(c:Client):List V:=[.int .i64 c.who,.int .i64 c.rev,.int .i64 c.seq,.str c.text,.bool c.eT,fc c.eZ,.bool c.waiting,fc c.held]
def Client.Ok(c:Client):Prop:=iU c.who/\iU c.rev/\iU c.seq/\c.text.length<=maxLen/\fw c.eZ/\fw c.held
structure od where
 base:Int
 who:Int
 seq:Int
 delta:List Part
def fY(m:od):List V:=[.int .i64 m.base,.int .i64 m.who,.int .i64 m.seq,fc m.delta]
def od.Ok(m:od):Prop:=iU m.base/\iU m.who/\iU m.seq/\fw m.delta
theorem zf:iN 22 (List (List Int)) (λl=>[.sl false 1 (l.map λc=>[.sl false 1 (c.map λn=>[.int .i64 n])])]) (λl=>l.length<=maxLen/\∀c∈l,c.length<=maxLen/\∀a∈c,iU a):=mR Tryz.underlying22 BE (by kernel_rfl) (λ_=>rfl) qD
theorem Ex:iN 23 (List (List Part)) (λr=>[.sl false 1 (r.map λd=>[fc d])]) (λr=>r.length<=maxLen/\∀d∈r,fw d):=mR Tryz.underlying23 zd (by kernel_rfl) (λ_=>rfl) qD
end Go.Proofs.YtobngncjflogcaaGreat.AM
