/-
  Part 4 of what the law TopDesk reaches: the plain machine, contracts of the functions and plain laws; each lemma says its own condition.
-/
import Derived.Test.YtajdadcdcpnedaaGreatDoorTopDesk3
import Derived.Test.YtajdadcdcpnedaaGreatDoorTopDesk1
import Derived.KernelRfl
import Derived.OpenShut
set_option linter.unusedVariables false
set_option linter.unusedSimpArgs false
namespace Go.Proofs.YtajdadcdcpnedaaGreatDoor.AM
open Go
def pG.r4:pG->List hS
 |.mov x=>[x]
 |.pick c a b=>[c,a,b]
 |.alloc _ _=>[]
 |.box _ _ x=>[x]
 |.build _ ps=>ps.map (·.2.2)
 |.bslice _ _ ps=>ps
 |.load1 x=>[x]
 |.loadn _ x=>[x]
 |.store _ x v=>[x,v]
 |.nilchk x=>[x]
 |.bin _ x y=>[x,y]
 |.eqb _ x y=>[x,y]
 |.eqp _ x y=>[x,y]
 |.eqn _ x=>[x]
 |.eqs _ _ x y=>[x,y]
 |.not x=>[x]
 |.conv _ x=>[x]
 |.mkslice _ _ _ _ l c=>[l,c]
 |.slstr x lo hi=>x::(lo.toList++hi.toList)
 |.slsl _ x lo hi=>x::(lo.toList++hi.toList)
 |.faddr _ x=>[x]
 |.fld1 _ x=>[x]
 |.fldn _ _ x=>[x]
 |.iaddr _ x i=>[x,i]
 |.iarr _ _ x i=>[x,i]
 |.ixs x i=>[x,i]
 |.ext _ x=>[x]
 |.len _ x=>[x]
 |.mm _ x y=>[x,y]
 |.append _ _ _ x y=>[x,y]
 |.call _ xs=>xs
 |.callv x xs=>x::xs
 |.mkfn _ xs=>xs
 |.convbs x=>[x]
 |.dead=>[]
 |.ixa _ _ _ x i=>[x,i]
theorem nt{p:Prim}{T:cm}{op:pG}{ev ev':hS->V}{h:Hp}{k:Nat}{K:V->Hp->Prop}(he:∀x∈op.r4,ev x=ev' x):fJ p T op ev h k K=fJ p T op ev' h k K:=by
 cases op<;>simp only[pG.r4] at he<;>simp only[fJ]
 case build z ps=>
  have e:∀q∈ps,ev q.2.2=ev' q.2.2:=λq hq=>he _ (aM.2 ⟨q,hq,rfl⟩);have e1:(ps.all λq=>nH q.2.1 (ev q.2.2))=ps.all λq=>nH q.2.1 (ev' q.2.2):=by
   rw[c6,aF,aF];exact⟨λh q hq=>by rw[<-e q hq];exact h q hq,λh q hq=>by rw[e q hq];exact h q hq⟩
  have a:(ps.map λq=>(q.1,(ev q.2.2).cells))=ps.map λq=>(q.1,(ev' q.2.2).cells):=bL λq hq=>by rw[e q hq]
  rw[e1,a]
 case bslice ty sz ps=>
  have e1:(ps.all λq=>nH sz (ev q))=ps.all λq=>nH sz (ev' q):=by
   rw[c6,aF,aF];exact⟨λh q hq=>by rw[<-he q hq];exact h q hq,λh q hq=>by rw[he q hq];exact h q hq⟩
  have a:(ps.map λq=>(ev q).cells)=ps.map λq=>(ev' q).cells:=bL λq hq=>by rw[he q hq]
  rw[e1,a]
 case call f xs=>rw[bL he]
 case mkfn f xs=>rw[bL he]
 case callv x xs=>rw[he x (by simp),bL λq hq=>he q (by simp[hq])]
 case slstr x lo hi=>
  rw[he x (by simp)];cases lo<;>cases hi<;>simp_all
 case slsl sz x lo hi=>
  rw[he x (by simp)];cases lo<;>cases hi<;>simp_all
 all_goals(simp_all)
def pG.oc:pG->Bool
 |.mov _|.pick .. |.build .. |.nilchk _|.bin .. |.eqb .. |.eqp .. |.not _|.conv .. |.slstr .. |.slsl .. |.faddr .. |.fld1 .. |.fldn .. |.iaddr .. |.iarr .. |.ixs .. |.ext .. |.mm .. =>true
 |.len .. =>true
 |.eqs .. =>true
 |.mkfn .. =>true
 |_=>false
def pG.Gb:pG->Bool
 |.load1 _|.loadn .. =>true
 |_=>false
def fY(Φ:(V->Prop)->Prop):Prop:=∀K,Φ K->∃v,K v/\∀a,(Φ a↔a v)
theorem fY.unit(v:V):fY λK=>K v:=λK h=>⟨v,h,λ_=>Iff.rfl⟩
theorem fY.no:fY λ_=>False:=λK h=>h.elim
theorem fY.and{A:Prop}{Φ:(V->Prop)->Prop}(h:fY Φ):fY λK=>A/\Φ K:=λK⟨a,hk⟩=>by
 obtain⟨v,h1,h2⟩:=h K hk;exact⟨v,h1,λb=>⟨λhh=>(h2 b).1 hh.2,λhh=>⟨a,(h2 b).2 hh⟩⟩⟩
theorem fY.ex{α:Type}{A:α->Prop}{Φ:α->(V->Prop)->Prop}(hu:∀x y,A x->A y->x=y)(h:∀x,fY (Φ x)):fY λK=>∃x,A x/\Φ x K:=λK⟨x,a,hk⟩=>by
 obtain⟨v,h1,h2⟩:=h x K hk;exact⟨v,h1,λc=>⟨λ⟨y,b,hh⟩=>by rw[hu y x b a] at hh;exact(h2 c).1 hh,λhh=>⟨x,a,(h2 c).2 hh⟩⟩⟩
theorem fY.arith(k:IntKind)(n:Int):fY (pZ cp k n):=by
 cases k<;>first|exact fY.unit _|exact fY.and (fY.unit _)
theorem fY.bin(op:BinOp)(x y:V):fY (F3 cp op x y):=by
 cases x<;>cases y<;>try(cases op<;>exact fY.no)
 case int.int k a k' b=>
  cases op<;>first|exact fY.no|exact fY.and (fY.arith _ _)|exact fY.and (fY.and (fY.and (fY.arith _ _)))|exact fY.and (fY.and (fY.and (fY.unit _)))|exact fY.and (fY.and (fY.arith _ _))|exact fY.and (fY.and (fY.unit _))|exact fY.and (fY.unit _)
 case str.str a b=>
  cases op<;>first|exact fY.no|exact fY.and (fY.unit _)|exact fY.unit _
theorem fY.len(s:Bool)(x:V):fY (Ph cp s x):=by
 cases s<;>cases x<;>first|exact fY.no|exact fY.unit _
theorem fY.eqb(n:Bool)(x y:V):fY (DX n x y):=by
 cases x<;>cases y<;>first|exact fY.no|exact fY.unit _
theorem fY.eqp(n:Bool)(x y:V):fY (yc n x y):=by
 unfold yc;cases Rd x y with
 |none=>exact fY.no
 |some b=>exact fY.unit _
theorem fY.c1{t:Nat}{x y:V}{Φ:Bool->(V->Prop)->Prop}(h:∀b,fY (Φ b)):fY λK=>Eb cp t x y λb=>Φ b K:=by
 unfold Eb
 split
 ·exact h _
 ·exact fY.and (h _)
 ·exact h _
 ·exact fY.no
theorem fY.cs:∀{ts:List Nat}{cs c:List V}{Φ:Bool->(V->Prop)->Prop},(∀b,fY (Φ b))->fY λK=>pH cp ts cs c λb=>Φ b K
 |[],[],[],Φ,h=>h true
 |[t],[a],[b],Φ,h=>fY.c1 h
 |t::t2::ts,a::l,b::m,Φ,h=>fY.c1 λx=>fY.cs λy=>h _
 |[t],a::a2::l,b::m,Φ,h=>fY.c1 λx=>fY.no
 |[t],[a],b::b2::m,Φ,h=>fY.c1 λx=>fY.no
 |[],_::_,_,Φ,h=>by simp only[pH];exact fY.no
 |[],[],_::_,Φ,h=>by simp only[pH];exact fY.no
 |_::_,[],_,Φ,h=>by simp only[pH];exact fY.no
 |_::_,_::_,[],Φ,h=>by simp only[pH];exact fY.no
theorem fY.eqs(n:Bool)(ts:List Nat)(x y:V):fY (Lt cp n ts x y):=by
 cases x<;>cases y<;>try exact fY.no
 cases n
 ·exact fY.cs (Φ:=λb K=>K (.bool b)) λb=>fY.unit _
 ·refine fY.cs (Φ:=λb K=>br b (λ_=>K (.bool false)) (λ_=>K (.bool true))) λb=>?_;cases b
  ·exact fY.unit (.bool true)
  ·exact fY.unit (.bool false)
theorem fY.nth(cs:List V)(i:Nat):fY (yd cs i):=fY.and (fY.unit _)
theorem fY.lo{lo:Option V}{Φ:Int->(V->Prop)->Prop}(h:∀a,fY (Φ a)):fY λK=>AI lo λa=>Φ a K:=by
 cases lo with
 |none=>exact h 0
 |some v=>cases v<;>first|exact h _|exact fY.no
theorem fY.hi{hi:Option V}{n:Int}{Φ:Int->(V->Prop)->Prop}(h:∀a,fY (Φ a)):fY λK=>Ls cp hi n λa=>Φ a K:=by
 cases hi with
 |none=>exact h n
 |some v=>cases v<;>first|exact h _|exact fY.no
theorem gL{T:cm}{op:pG}{ev:hS->V}{h:Hp}{k:Nat}{K:V->Hp->Prop}{Φ:(V->Prop)->Prop}(hd:fY Φ)(he:∀h2 b(a:V->Hp->Prop),fJ cp T op ev h2 b a=Φ λv=>a v h2)(hh:fJ cp T op ev h k K):
  ∃v,K v h/\∀h2 b(a:V->Hp->Prop),(fJ cp T op ev h2 b a↔a v h2):=by
 rw[he] at hh;obtain⟨v,h1,h2⟩:=hd _ hh;exact⟨v,h1,λg b a=>by rw[he];exact h2 _⟩
theorem yv{T:cm}{op:pG}{ev:hS->V}{h:Hp}{k:Nat}{K:V->Hp->Prop}(hp:op.oc=true)(hh:fJ cp T op ev h k K):
  ∃v,K v h/\∀h2 e(d:V->Hp->Prop),(fJ cp T op ev h2 e d↔d v h2):=by
 cases op<;>try(cases hp;done)
 case mov x=>exact gL (fY.unit (ev x)) (λ_ _ _=>rfl) hh
 case pick c a b=>
  cases hc:ev c<;>try(simp only[fJ,hc] at hh;done)
  case bool t=>
   cases t
   ·exact gL (fY.unit (ev b)) (λ_ _ _=>by simp only[fJ,hc]) hh
   ·exact gL (fY.unit (ev a)) (λ_ _ _=>by simp only[fJ,hc]) hh
 case build z ps=>exact gL (fY.and (fY.unit _)) (λ_ _ _=>rfl) hh
 case nilchk x=>
  cases hc:ev x<;>try(simp only[fJ,hc] at hh;done)
  all_goals exact gL (fY.unit (ev x)) (λ_ _ _=>by simp only[fJ,hc]) hh
 case bin op x y=>exact gL (fY.bin op (ev x) (ev y)) (λ_ _ _=>rfl) hh
 case eqb n x y=>exact gL (fY.eqb n (ev x) (ev y)) (λ_ _ _=>rfl) hh
 case eqp n x y=>exact gL (fY.eqp n (ev x) (ev y)) (λ_ _ _=>rfl) hh
 case eqs n ts x y=>exact gL (fY.eqs n ts (ev x) (ev y)) (λ_ _ _=>rfl) hh
 case mkfn f xs=>exact gL (fY.unit (.fn f (xs.map ev))) (λ_ _ _=>rfl) hh
 case not x=>
  cases hc:ev x<;>try(simp only[fJ,hc] at hh;done)
  case bool t=>
   cases t
   ·exact gL (fY.unit (.bool true)) (λ_ _ _=>by simp only[fJ,hc,br]) hh
   ·exact gL (fY.unit (.bool false)) (λ_ _ _=>by simp only[fJ,hc,br]) hh
 case conv kd x=>
  cases hc:ev x<;>try(simp only[fJ,hc] at hh;done)
  case int k n=>exact gL (fY.unit (.int kd (cp.wrap kd n))) (λ_ _ _=>by simp only[fJ,hc]) hh
 case slstr x lo hi=>
  cases hc:ev x<;>try(simp only[fJ,hc] at hh;done)
  case str l=>exact gL (fY.lo (lo:=lo.map ev) λa=>fY.hi (hi:=hi.map ev) (n:=cp.b5 l) λb=>fY.and (A:=cp.fK 0 a) (fY.and (A:=cp.fK a b) (fY.and (A:=cp.fK b (cp.b5 l)) (fY.unit (.str (cp.gZ l a b)))))) (λ_ _ _=>by simp only[fJ,hc]) hh
 case slsl sz x lo hi=>
  cases hc:ev x<;>try(simp only[fJ,hc] at hh;done)
  case sl t sz' rows=>exact gL (fY.and (A:=sz'=sz) (fY.lo (lo:=lo.map ev) λa=>fY.hi (hi:=hi.map ev) (n:=cp.cF rows) λb=>fY.and (A:=cp.fK 0 a) (fY.and (A:=cp.fK a b) (fY.and (A:=cp.fK b (cp.cF rows)) (fY.unit (.sl t sz (cp.ta rows a b))))))) (λ_ _ _=>by simp only[fJ,hc]) hh
  case own j bk sz' n=>exact gL (fY.and (A:=sz'=sz) (fY.lo (lo:=lo.map ev) λa=>fY.hi (hi:=hi.map ev) (n:=cp.int n) λb=>fY.and (A:=cp.fK 0 a) (fY.and (A:=cp.fK a b) (fY.and (A:=cp.fK b (cp.int n)) (fY.unit (.win j bk sz a b)))))) (λ_ _ _=>by simp only[fJ,hc]) hh
  case win j bk sz' l0 h0=>exact gL (fY.and (A:=sz'=sz) (fY.lo (lo:=lo.map ev) λa=>fY.hi (hi:=hi.map ev) (n:=cp.int (cp.nat (cp.sub h0 l0))) λb=>fY.and (A:=cp.fK 0 a) (fY.and (A:=cp.fK a b) (fY.and (A:=cp.fK b (cp.int (cp.nat (cp.sub h0 l0)))) (fY.unit (.win j bk sz (cp.add l0 a) (cp.add l0 b))))))) (λ_ _ _=>by simp only[fJ,hc]) hh
 case faddr off x=>
  cases hc:ev x<;>try(simp only[fJ,hc] at hh;done)
  case ptr j b sz i o=>exact gL (fY.unit (.ptr j b sz i (o+off))) (λ_ _ _=>by simp only[fJ,hc]) hh
  case rp t cs=>exact gL (fY.unit (.rp t (cs.drop off))) (λ_ _ _=>by simp only[fJ,hc]) hh
 case fld1 off x=>
  cases hc:ev x<;>try(simp only[fJ,hc] at hh;done)
  case agg cs=>exact gL (fY.nth cs off) (λ_ _ _=>by simp only[fJ,hc]) hh
 case fldn off n x=>
  cases hc:ev x<;>try(simp only[fJ,hc] at hh;done)
  case agg cs=>exact gL (fY.and (A:=off+n<=cs.length) (fY.unit (.agg ((cs.drop off).take n)))) (λ_ _ _=>by simp only[fJ,hc]) hh
 case iaddr sz x i=>
  cases hi:ev i<;>try(cases hc:ev x<;>simp only[fJ,hc,hi] at hh;done)
  case int ki ii=>
   cases hc:ev x<;>try(simp only[fJ,hc,hi] at hh;done)
   case sl t sz' rows=>
    refine gL (fY.and (A:=sz'=sz) (fY.and (A:=cp.fK 0 ii) (fY.ex (A:=λr=>cp.row rows (cp.nat ii) r) (Φ:=λr K=>K (.rp t r)) (λx y h1 h2=>?_) λr=>fY.unit _))) (λ_ _ _=>by simp only[fJ,hc,hi]) hh;exact bN ((Eq.symm h1).trans h2)
   case own j b sz' n=>exact gL (fY.and (A:=sz'=sz) (fY.and (A:=cp.fK 0 ii) (fY.and (A:=cp.iq ii (cp.int n)) (fY.unit (.ptr j b sz (cp.nat ii) 0))))) (λ_ _ _=>by simp only[fJ,hc,hi]) hh
   case win j b sz' lo hi2=>exact gL (fY.and (A:=sz'=sz) (fY.and (A:=cp.fK 0 ii) (fY.and (A:=cp.iq ii (cp.sub hi2 lo)) (fY.unit (.ptr j b sz (cp.nat (cp.add lo ii)) 0))))) (λ_ _ _=>by simp only[fJ,hc,hi]) hh
 case iarr len sz x i=>
  cases hi:ev i<;>try(cases hc:ev x<;>simp only[fJ,hc,hi] at hh;done)
  case int ki ii=>
   cases hc:ev x<;>try(simp only[fJ,hc,hi] at hh;done)
   case ptr j b sz' r off=>exact gL (fY.and (A:=cp.fK 0 ii) (fY.and (A:=cp.iq ii len) (fY.ex (A:=λn=>cp.nat ii=n) (Φ:=λn K=>K (.ptr j b sz' r (off+n*sz))) (λx y h1 h2=>h1.symm.trans h2) λn=>fY.unit _))) (λ_ _ _=>by simp only[fJ,hc,hi]) hh
   case rp t cs=>exact gL (fY.and (A:=cp.fK 0 ii) (fY.and (A:=cp.iq ii len) (fY.ex (A:=λn=>cp.nat ii=n) (Φ:=λn K=>K (.rp t (cs.drop (n*sz)))) (λx y h1 h2=>h1.symm.trans h2) λn=>fY.unit _))) (λ_ _ _=>by simp only[fJ,hc,hi]) hh
 case ixs x i=>
  cases hi:ev i<;>try(cases hc:ev x<;>simp only[fJ,hc,hi] at hh;done)
  case int ki ii=>
   cases hc:ev x<;>try(simp only[fJ,hc,hi] at hh;done)
   case str l=>exact gL (fY.and (A:=cp.fK 0 ii) (fY.and (A:=cp.iq ii (cp.b5 l)) (fY.unit (.int .u8 (cp.sat l ii))))) (λ_ _ _=>by simp only[fJ,hc,hi]) hh
 case ext i x=>
  cases hc:ev x<;>try(simp only[fJ,hc] at hh;done)
  case tup vs=>exact gL (fY.and (A:=i<vs.length) (fY.unit (vs.getD i .gC))) (λ_ _ _=>by simp only[fJ,hc]) hh
 case len s x=>exact gL (fY.len s (ev x)) (λ_ _ _=>rfl) hh
 case mm mx x y=>
  cases mx<;>cases hi:ev y<;>try(cases hc:ev x<;>simp only[fJ,hc,hi] at hh;done)
  all_goals
   rename_i k' b;cases hc:ev x<;>try(simp only[fJ,hc,hi] at hh;done)
  all_goals rename_i k a
  ·exact gL (fY.and (A:=k=k') (fY.unit (.int k (cp.mn a b)))) (λ_ _ _=>by simp only[fJ,hc,hi]) hh
  ·exact gL (fY.and (A:=k=k') (fY.unit (.int k (cp.mx a b)))) (λ_ _ _=>by simp only[fJ,hc,hi]) hh
def Hp.le(h h2:Hp):Prop:=∀k o,h k=some o->h2 k=some o
theorem Hp.le_refl(h:Hp):h.le h:=λ_ _ h=>h
theorem Ed{h h2:Hp}(hl:h.le h2){sz:Nat}{v:V}{rows:List (List V)}(hr:rowsOf h sz v=some rows):rowsOf h2 sz v=some rows:=by
 cases v<;>try exact hr
 rename_i k b sz' n;simp only[rowsOf] at hr⊢;cases hk:h k with
 |none=>rw[hk] at hr;cases hr
 |some o=>rw[hk] at hr;rw[hl k o hk];exact hr
theorem Arg.le{h h2:Hp}(hl:h.le h2){m:List (Nat×Nat)}{v v':V}(ha:Arg h m v v'):Arg h2 m v v':=by
 induction ha with
 |same v=>exact .same v
 |own k b sz n rows hr hm=>exact .own k b sz n rows (Ed hl hr) hm
 |qE sz rows=>exact .qE sz rows
 |nil t sz=>exact .nil t sz
 |agg cs tf a ha ih=>exact .agg cs tf a ih
theorem lG.le{h h2:Hp}(hl:h.le h2){m:List (Nat×Nat)}{l l':List V}(ha:lG h m l l'):lG h2 m l l':=by
 induction ha with
 |nil=>exact .nil
 |cons a b ih=>exact .cons (a.le hl) ih
def UX(T:cm)(op:pG):Prop:=∀(ev:hS->V)(h:Hp)(k:Nat)(K:V->Hp->Prop),fJ cp T op ev h k K->
 ∃v,K v h/\∀(h2:Hp)(b:Nat)(a:V->Hp->Prop),h.le h2->a v h2->fJ cp T op ev h2 b a
theorem Lu{h h2:Hp}(hl:h.le h2){k sz i:Nat}{b:Option Nat}{K a:Ob->List V->Prop}(hh:nO cp h k b sz i K)(hK:∀o r,K o r->a o r):nO cp h2 k b sz i a:=by
 unfold nO at*;cases hk:h k with
 |none=>rw[hk] at hh;exact hh.elim
 |some o=>
  rw[hk] at hh;rw[hl k o hk];obtain⟨h1,h2,h3⟩:=hh;refine⟨h1,h2,?_⟩
  split at h3
  ·split at h3
   ·exact hK _ _ h3
   ·exact h3.elim
  ·obtain⟨r,hr,h4⟩:=h3;exact⟨r,hr,hK _ _ h4⟩
theorem yw{h:Hp}{k sz i:Nat}{b:Option Nat}{Φ:List V->(V->Prop)->Prop}(c:∀r,fY (Φ r)){K:V->Prop}(hh:nO cp h k b sz i λ_ r=>Φ r K):
  ∃v,K v/\∀(h2:Hp)(a:V->Prop),h.le h2->a v->nO cp h2 k b sz i λ_ r=>Φ r a:=by
 unfold nO at hh;cases hk:h k with
 |none=>rw[hk] at hh;exact hh.elim
 |some o=>
  rw[hk] at hh;obtain⟨h1,h2,h3⟩:=hh
  split at h3
  ·rename_i hb
   split at h3
   ·rename_i r d;obtain⟨v,g1,g2⟩:=c r K h3;refine⟨v,g1,λh4 a hl hk2=>?_⟩;unfold nO;rw[hl k o hk];refine⟨h1,h2,?_⟩;rw[hb,d];exact(g2 a).2 hk2
   ·exact h3.elim
  ·rename_i hb;obtain⟨r,hr,h4⟩:=h3;obtain⟨v,g1,g2⟩:=c r K h4;refine⟨v,g1,λh5 a hl hk2=>?_⟩;unfold nO;rw[hl k o hk];refine⟨h1,h2,?_⟩;rw[hb];exact⟨r,hr,(g2 a).2 hk2⟩
theorem Pm{P:Program}{op:pG}(hc:op.oc=true\/op.Gb=true\/(∃f xs,op=.call f xs)\/∃x xs,op=.callv x xs):UX (fk P) op:=by
 intro ev h k K hh;have call:∀f xs,fk P f xs h K->∃v,K v h/\∀(h2:Hp)(a:V->Hp->Prop),h.le h2->a v h2->fk P f xs h2 a:=by
  rintro f xs ⟨m,c,hp,v,h1,h2,h3,h4,h5⟩;refine⟨_,h5,λg a hl hk=>⟨m,c,hp,v,h1,h2.le hl,h3,λp e=>?_,hk⟩⟩;obtain⟨a1,a2,o,a3,a4,a5⟩:=h4 p e;refine⟨a1,a2,o,a3,?_,a5⟩;simp only[an] at a4⊢;obtain⟨ob,l,he⟩:=a4;exact⟨ob,hl _ _ l,he⟩
 rcases hc with hc|hc|⟨f,xs,rfl⟩|⟨x,xs,rfl⟩
 ·obtain⟨v,h1,h2⟩:=yv hc hh;exact⟨v,h1,λg d a _ hk=>(h2 g d a).2 hk⟩
 ·cases op<;>try(cases hc;done)
  case load1 x=>
   cases hx:ev x<;>try(simp only[fJ,hx,p0] at hh;done)
   case ptr j b sz i off=>
    simp only[fJ,hx,p0] at hh;obtain⟨v,h1,h2⟩:=yw (Φ:=λr=>yd r off) (λr=>fY.nth r off) hh;exact⟨v,h1,λg d a hl hk=>by simp only[fJ,hx,p0];exact h2 g (λv=>a v g) hl hk⟩
   case rp t cs=>
    simp only[fJ,hx,p0] at hh;obtain⟨v,h1,h2⟩:=fY.nth cs 0 _ hh;exact⟨v,h1,λg d a hl hk=>by simp only[fJ,hx,p0];exact(h2 _).2 hk⟩
  case loadn n x=>
   cases hx:ev x<;>try(simp only[fJ,hx,p5] at hh;done)
   case ptr j b sz i off=>
    simp only[fJ,hx,p5] at hh;obtain⟨v,h1,h2⟩:=yw (K:=λv=>K v h) (Φ:=λr K=>off+n<=r.length/\K (.agg ((r.drop off).take n))) (λr=>fY.and (fY.unit _)) hh;exact⟨v,h1,λg d a hl hk=>by simp only[fJ,hx,p5];exact h2 g (λv=>a v g) hl hk⟩
   case rp t cs=>
    simp only[fJ,hx,p5] at hh;exact⟨_,hh.2,λg d a hl hk=>by simp only[fJ,hx,p5];exact⟨hh.1,hk⟩⟩
 ·obtain⟨v,h1,h2⟩:=call f _ hh;exact⟨v,h1,λg d a hl hk=>h2 g a hl hk⟩
 ·cases hx:ev x<;>try(simp only[fJ,hx] at hh;done)
  simp only[fJ,hx] at hh;obtain⟨v,h1,h2⟩:=call _ _ hh;exact⟨v,h1,λg d a hl hk=>by simp only[fJ,hx];exact h2 g a hl hk⟩
def slotsOf:List hS->List Nat
 |[]=>[]
 |.t i::l=>i::slotsOf l
 |.c _::l=>slotsOf l
theorem kV{s s2:S}:∀{l:List hS},(∀i∈slotsOf l,s2.t i=s.t i)->∀x∈l,hS.ev s2 x=hS.ev s x
 |[],_,x,hx=>by cases hx
 |.t i::l,h,x,hx=>by
  rcases ah.1 hx with rfl|hx
  ·exact h i (by simp[slotsOf])
  ·exact kV (λj hj=>h j (by simp[slotsOf,hj])) x hx
 |.c v::l,h,x,hx=>by
  rcases ah.1 hx with rfl|hx
  ·rfl
  ·exact kV (λj hj=>h j (by simpa[slotsOf] using hj)) x hx
def AO.looks(o:AO):List Nat:=(match o.g with|some (g,_)=>[g]|none=>[])++slotsOf o.op.r4
def AO.isFun(o:AO):Bool:=o.op.oc||o.op.Gb||(match o.op with|.call .. =>true|.callv .. =>true|_=>false)
def xc(a b:AO):Bool:=
 (match a.d with|some d=> !(b.looks.contains d)&&(b.d !=some d)|none=>true)&&(match b.d with|some d=> !(a.looks.contains d)|none=>true)
def AO.yx(o:AO):Bool:=(match o.g,o.d with|none,some _=>true|_,_=>false)&&(match o.op with|.alloc .. |.box .. |.bslice .. |.mkslice .. =>true|_=>false)
def AO.key(o:AO):Nat:=match o.op with
 |.bslice .. |.mkslice .. =>arr+o.d.getD 0
 |_=>o.d.getD 0
def AO.isApp(o:AO):Bool:=(match o.g,o.d with|none,some _=>true|_,_=>false)&&(match o.op with|.append _ _ _ (.c (.slice none 0 0)) _=>true|_=>false)
def nu(a b:AO):Bool:=xc a b&&(a.op.oc||(a.isFun&&(b.isFun||b.yx||b.isApp))||(a.yx&&(b.op.oc||(b.yx&&a.key !=b.key)))||(a.isApp&&b.op.oc))
theorem jH{s:S}{g:Nat}{v:V}(h:s.t g=v):s.set g v=s:=by
 subst h;cases s with
 |mk t h=>
  simp only[S.set,S.mk.injEq,fc]
  funext i
  simp only[jh]
  split<;>simp_all
theorem ug{P:Program}{o:AO}(h:o.isFun=true):UX (fk P) o.op:=by
 refine Pm ?_;unfold AO.isFun at h;simp only[bq] at h
 rcases h with(h|h)|h
 ·exact .inl h
 ·exact .inr (.inl h)
 ·right;right
  cases a:o.op<;>rw[a] at h<;>try(simp at h;done)
  ·exact .inl ⟨_,_,rfl⟩
  ·exact .inr ⟨_,_,rfl⟩
section
variable {P:Program}
theorem vS{o:AO}(hf:o.isFun=true){s:S}{K:S->Prop}(hh:iU cp (fk P) o s K):
  ∃v,K (s.put o.d v)/\∀(s2:S),(∀i∈slotsOf o.op.r4,s2.t i=s.t i)->s.h.le s2.h->∀a:S->Prop,a (s2.put o.d v)->iU cp (fk P) o s2 a:=by
 obtain⟨v,h1,h2⟩:=ug hf _ _ _ _ hh;refine⟨v,h1,λs2 hs hl a hk=>?_⟩;unfold iU;rw[nt (ev':=hS.ev s) (kV hs)];exact h2 s2.h _ _ hl hk
theorem qL{o:AO}(hf:o.isFun=true){s:S}{K:S->Prop}(hh:gm cp (fk P) o s K):
  ∃v,K (s.put o.d v)/\∀(s2:S),(∀i∈o.looks,s2.t i=s.t i)->s.h.le s2.h->∀c:S->Prop,c (s2.put o.d v)->gm cp (fk P) o s2 c:=by
 obtain⟨d,g,op⟩:=o;cases g with
 |none=>
  obtain⟨v,h1,h2⟩:=vS hf (show iU cp (fk P) ⟨d,none,op⟩ s K from hh);exact⟨v,h1,λs2 hs hl c hk=>h2 s2 (λi hi=>hs i (by simpa[AO.looks] using hi)) hl c hk⟩
 |some f=>
  obtain⟨g,want⟩:=f;have key:∀b,s.t g=.bool b->(if b=want then iU cp (fk P) ⟨d,some (g,want),op⟩ s K else K (s.put d .mN))->
    ∃v,K (s.put d v)/\∀(s2:S),(∀i∈(AO.mk d (some (g,want)) op).looks,s2.t i=s.t i)->s.h.le s2.h->∀c:S->Prop,c (s2.put d v)->gm cp (fk P) ⟨d,some (g,want),op⟩ s2 c:=by
   intro b hb hK
   by_cases e:b=want
   ·subst e;rw[ab rfl] at hK;obtain⟨v,h1,h2⟩:=vS hf hK;refine⟨v,h1,λs2 hs hl c hk=>?_⟩;have a:s2.t g=.bool b:=(hs g (by simp[AO.looks])).trans hb;have:=h2 s2 (λi hi=>hs i (by simp only[AO.looks];exact bX _ hi)) hl c hk;cases b<;>simp only[gm,a,br,jH a]<;>exact this
   ·rw[aa e] at hK;refine⟨.mN,hK,λs2 hs hl c hk=>?_⟩;have a:s2.t g=.bool b:=(hs g (by simp[AO.looks])).trans hb;cases b<;>cases want<;>first|(exact absurd rfl e)|(simp only[gm,a,br,jH a];exact hk)
  cases hb:s.t g with
  |bool b=>
   refine key b hb ?_;cases b<;>cases want<;>simp only[gm,hb,br,jH hb] at hh<;>simpa using hh
  |mN=>
   have hu:K (s.put d .mN):=by cases want<;>simp only[gm,hb] at hh<;>exact hh
   refine⟨.mN,hu,λs2 hs hl c hk=>?_⟩;have a:s2.t g=.mN:=(hs g (by simp[AO.looks])).trans hb;cases want<;>simp only[gm,a]<;>exact hk
  |_=>cases want<;>simp only[gm,hb] at hh
theorem jx{s:S}{d:Option Nat}{v:V}{i:Nat}(h:d≠some i):(s.put d v).t i=s.t i:=by
 cases d with
 |none=>rfl
 |some d=>
  simp only[S.put,S.set,jh];rw[aa (λe=>h (by rw[e]))]
theorem j0{s:S}{d:Option Nat}{v:V}:(s.put d v).h=s.h:=by cases d<;>rfl
theorem put_comm{s:S}{d e:Option Nat}{v u:V}(h:∀i,d=some i->e≠some i):(s.put d v).put e u=(s.put e u).put d v:=by
 cases d with
 |none=>rfl
 |some d=>
  cases e with
  |none=>rfl
  |some e=>
   have hne:d≠e:=λhe=>h d rfl (by rw[he]);simp only[S.put,S.set,S.mk.injEq,fc]
   funext i
   simp only[jh]
   by_cases h1:i=d
   ·subst h1;rw[aa hne];simp[hne]
   ·by_cases h2:i=e
    ·subst h2;simp[h1]
    ·simp[h1,h2]
theorem apart_spec{a b:AO}(h:xc a b=true):(∀i,a.d=some i->i∉b.looks/\b.d≠some i)/\(∀i,b.d=some i->i∉a.looks):=by
 unfold xc at h;simp only[aO] at h;refine⟨λi hi=>?_,λi hi=>?_⟩
 ·have h1:=h.1;rw[hi] at h1;simp only[aO,dL,bne_iff_ne] at h1;exact⟨by simpa using h1.1,h1.2⟩
 ·have h2:=h.2;rw[hi] at h2;simpa using h2
theorem pe{T:cm}{o:AO}(hp:o.op.oc=true){s:S}{K:S->Prop}(hh:gm cp T o s K):
  ∃v,∀(s2:S),(∀i∈o.looks,s2.t i=s.t i)->∀a:S->Prop,(gm cp T o s2 a↔a (s2.put o.d v)):=by
 obtain⟨d,g,op⟩:=o;have plain:∀(s:S)(K:S->Prop),iU cp T ⟨d,none,op⟩ s K->∃v,∀(s2:S),(∀i∈slotsOf op.r4,s2.t i=s.t i)->∀a:S->Prop,(fJ cp T op (hS.ev s2) s2.h (d.getD 0) (λv h=>a ((s2.hU h).put d v))↔a (s2.put d v)):=by
  intro s K hh;obtain⟨v,_,h2⟩:=yv hp hh;refine⟨v,λs2 hs a=>?_⟩;rw[nt (ev':=hS.ev s) (kV hs)];exact h2 s2.h (d.getD 0) λv h=>a ((s2.hU h).put d v)
 cases g with
 |none=>
  obtain⟨v,h⟩:=plain s K hh;exact⟨v,λs2 hs a=>h s2 (λi hi=>hs i (by simpa[AO.looks] using hi)) a⟩
 |some f=>
  obtain⟨g,want⟩:=f;have key:∀b,s.t g=.bool b->(b=want->iU cp T ⟨d,none,op⟩ s K)->
    ∃v,∀(s2:S),(∀i∈(AO.mk d (some (g,want)) op).looks,s2.t i=s.t i)->∀a:S->Prop,(gm cp T ⟨d,some (g,want),op⟩ s2 a↔a (s2.put d v)):=by
   intro b hb hK
   by_cases e:b=want
   ·subst e;obtain⟨v,h⟩:=plain s K (hK rfl);refine⟨v,λs2 hs a=>?_⟩;have c:s2.t g=.bool b:=(hs g (by simp[AO.looks])).trans hb;have:=h s2 (λi hi=>hs i (by simp only[AO.looks];exact bX _ hi)) a;cases b<;>simp only[gm,c,br,jH c,iU]<;>exact this
   ·refine⟨.mN,λs2 hs a=>?_⟩;have c:s2.t g=.bool b:=(hs g (by simp[AO.looks])).trans hb;cases b<;>cases want<;>first|(exact absurd rfl e)|(simp only[gm,c,br,jH c])
  cases hb:s.t g with
  |bool b=>
   refine key b hb λe=>?_;subst e;cases b<;>simp only[gm,hb,br,jH hb] at hh<;>exact hh
  |mN=>
   refine⟨.mN,λs2 hs a=>?_⟩;have c:s2.t g=.mN:=(hs g (by simp[AO.looks])).trans hb;cases want<;>simp only[gm,c]
  |_=>cases want<;>simp only[gm,hb] at hh
theorem qN{T:cm}{o:AO}(hn:o.yx=true){s:S}{K:S->Prop}(hh:gm cp T o s K):
  ∃(v:Nat->V)(ob:Nat->Ob),∀(s2:S),(∀i∈o.looks,s2.t i=s.t i)->∀e:S->Prop,(gm cp T o s2 e↔s2.h o.key=none/\∀β:Nat,e ((s2.hU (s2.h.put o.key (ob β))).put o.d (v β))):=by
 obtain⟨d,g,op⟩:=o;unfold AO.yx at hn;simp only[aO] at hn;obtain⟨j,k⟩:=hn;cases g with
 |some _=>simp at j
 |none=>
  cases d with
  |none=>simp at j
  |some d=>
   have hl:∀s2:S,(∀i∈(AO.mk (some d) none op).looks,s2.t i=s.t i)->∀x∈op.r4,hS.ev s2 x=hS.ev s x:=λs2 hs=>kV λi hi=>hs i (by simpa[AO.looks] using hi);cases op<;>simp only[] at k<;>try(cases k;done)
   case alloc ty z=>
    obtain⟨_,hz,_⟩:=(show fJ cp T (.alloc ty z) (hS.ev s) s.h d (λv h=>K ((s.hU h).put (some d) v)) from hh);exact⟨λβ=>.ptr d (some β) z.length 0 0,λβ=>⟨some β,ty,z.length,[z.map ya]⟩,λs2 hs e=>⟨λ⟨a,_,b⟩=>⟨a,b⟩,λ⟨a,b⟩=>⟨a,hz,b⟩⟩⟩
   case box ty n x=>
    obtain⟨_,hz,_⟩:=(show fJ cp T (.box ty n x) (hS.ev s) s.h d (λv h=>K ((s.hU h).put (some d) v)) from hh);refine⟨λβ=>.ptr d (some β) n 0 0,λβ=>⟨some β,ty,n,[(x.ev s).cells]⟩,λs2 hs e=>?_⟩;have he:=hl s2 hs x (by simp[pG.r4]);show(s2.h d=none/\(x.ev s2).fits n/\∀β:Nat,e ((s2.hU (s2.h.put d ⟨some β,ty,n,[(x.ev s2).cells]⟩)).put (some d) (.ptr d (some β) n 0 0)))↔_;rw[he];exact⟨λ⟨a,_,b⟩=>⟨a,b⟩,λ⟨a,b⟩=>⟨a,hz,b⟩⟩
   case bslice ty sz ps=>
    obtain⟨_,hz,_⟩:=(show fJ cp T (.bslice ty sz ps) (hS.ev s) s.h d (λv h=>K ((s.hU h).put (some d) v)) from hh);refine⟨λβ=>.own (arr+d) (some β) sz ps.length,λβ=>⟨some β,ty,sz,ps.map λq=>(q.ev s).cells⟩,λs2 hs e=>?_⟩;have he:=hl s2 hs;have e1:(ps.all λq=>nH sz (q.ev s2))=ps.all λq=>nH sz (q.ev s):=by
     rw[c6,aF,aF];exact⟨λh q hq=>by rw[<-he q hq];exact h q hq,λh q hq=>by rw[he q hq];exact h q hq⟩
    have p:(ps.map λq=>(q.ev s2).cells)=ps.map λq=>(q.ev s).cells:=bL λq hq=>by rw[he q hq]
    show(s2.h (arr+d)=none/\(ps.all λq=>nH sz (q.ev s2))=true/\∀β:Nat,e ((s2.hU (s2.h.put (arr+d) ⟨some β,ty,sz,ps.map λq=>(q.ev s2).cells⟩)).put (some d) (.own (arr+d) (some β) sz ps.length)))↔_;rw[e1,p];exact⟨λ⟨a,_,b⟩=>⟨a,b⟩,λ⟨a,b⟩=>⟨a,hz,b⟩⟩
   case mkslice ty sz bytes z l c=>
    have f:=(show fJ cp T (.mkslice ty sz bytes z l c) (hS.ev s) s.h d (λv h=>K ((s.hU h).put (some d) v)) from hh);cases h1:l.ev s<;>try(simp only[fJ,h1] at f;done)
    rename_i k1 n;cases h2:c.ev s<;>try(simp only[fJ,h1,h2] at f;done)
    rename_i u m;simp only[fJ,h1,h2] at f;obtain⟨_,a1,a2,a3,a4,a5,r,_⟩:=f;refine⟨λβ=>.own (arr+d) (some β) sz (cp.nat n),λβ=>⟨some β,ty,sz,cp.Ea n (z.map ya)⟩,λs2 hs e=>?_⟩;have e1:=(hl s2 hs l (by simp[pG.r4])).trans h1;have p:=(hl s2 hs c (by simp[pG.r4])).trans h2;show fJ cp T (.mkslice ty sz bytes z l c) (hS.ev s2) s2.h d (λv h=>e ((s2.hU h).put (some d) v))↔_;simp only[fJ,e1,p];exact⟨λ⟨a,_,_,_,_,_,_,b⟩=>⟨a,b⟩,λ⟨a,b⟩=>⟨a,a1,a2,a3,a4,a5,r,b⟩⟩
theorem yy{T:cm}{o:AO}(hn:o.isApp=true){s:S}{K:S->Prop}(hh:gm cp T o s K):
  ∃(k:Nat)(v:Option Nat->V)(ob:Option Nat->Ob),∀(s2:S),(∀i∈o.looks,s2.t i=s.t i)->s2.h=s.h->∀f:S->Prop,(gm cp T o s2 f↔s2.h k=none/\∀β:Option Nat,f ((s2.hU (s2.h.put k (ob β))).put o.d (v β))):=by
 obtain⟨d,g,op⟩:=o;unfold AO.isApp at hn;simp only[aO] at hn;obtain⟨l,j⟩:=hn;cases g with
 |some _=>simp at l
 |none=>
  cases d with
  |none=>simp at l
  |some d=>
   have hl:∀s2:S,(∀i∈(AO.mk (some d) none op).looks,s2.t i=s.t i)->∀x∈op.r4,hS.ev s2 x=hS.ev s x:=λs2 hs=>kV λi hi=>hs i (by simpa[AO.looks] using hi);cases op<;>try(cases j;done)
   rename_i ty sz bytes x y
   split at j
   ·rename_i heq;cases heq;have e:=(show kP cp s.h (arr+d) ty sz bytes .nilsl (y.ev s) (λv h=>K ((s.hU h).put (some d) v)) from hh);have fin:∀news:List (List V),(∀Q:List (List V)->Prop,mh cp s.h sz (y.ev s) Q↔Q news)->∃(k:Nat)(v:Option Nat->V)(ob:Option Nat->Ob),∀(s2:S),(∀i∈(AO.mk (some d) none (.append ty sz bytes (.c (.slice none 0 0)) y)).looks,s2.t i=s.t i)->s2.h=s.h->∀f:S->Prop,(gm cp T ⟨some d,none,.append ty sz bytes (.c (.slice none 0 0)) y⟩ s2 f↔s2.h k=none/\∀β:Option Nat,f ((s2.hU (s2.h.put k (ob β))).put (some d) (v β))):=by
     intro news hr;have hb:=(hr _).1 e;refine⟨arr+d,λβ=>.own (arr+d) β sz (cp.gH news),λβ=>⟨β,ty,sz,news⟩,λs2 hs m f=>?_⟩;have he:=hl s2 hs y (by simp[pG.r4]);show kP cp s2.h (arr+d) ty sz bytes .nilsl (y.ev s2) (λv h=>f ((s2.hU h).put (some d) v))↔_;rw[he];unfold kP;rw[m];exact(hr _).trans ⟨λ⟨a,_,b⟩=>⟨a,b⟩,λ⟨a,b⟩=>⟨a,hb.2.1,b⟩⟩
    unfold kP mh at e
    split at e
    ·rename_i t sz' rows heq;refine fin rows λQ=>?_;rw[heq];unfold mh;exact⟨λh=>h.2,λh=>⟨e.1,h⟩⟩
    ·rename_i heq;refine fin [] λQ=>?_;rw[heq];exact Iff.rfl
    ·rename_i k b sz' n heq
     split at e
     ·rename_i o hk;refine fin o.rows λQ=>?_;rw[heq];unfold mh;simp only[hk];exact⟨λh=>h.2.2.2.2,λh=>⟨e.1,e.2.1,e.2.2.1,e.2.2.2.1,h⟩⟩
     ·exact e.elim
    ·exact e.elim
   ·cases j
theorem A4{f:Nat}{args:List V}{h:Hp}{K b:V->Hp->Prop}(hK:∀v h,K v h->b v h)(hh:fk P f args h K):fk P f args h b:=by
 obtain⟨m,a,hp,v,h1,h2,h3,h4,h5⟩:=hh;exact⟨m,a,hp,v,h1,h2,h3,h4,hK _ _ h5⟩
theorem Ee{h:Hp}{k sz i:Nat}{b:Option Nat}{K a:Ob->List V->Prop}(hK:∀o r,K o r->a o r)(hh:nO cp h k b sz i K):nO cp h k b sz i a:=Lu (Hp.le_refl h) hh hK
theorem uh{h:Hp}{sz:Nat}{v:V}{K a:List (List V)->Prop}(hK:∀rows,K rows->a rows)(hh:mh cp h sz v K):mh cp h sz v a:=by
 unfold mh at hh⊢;cases v<;>try(exact hh.elim)
 case sl=>exact⟨hh.1,hK _ hh.2⟩
 case nilsl=>exact hK _ hh
 case own j b sz' n=>
  simp only[] at hh⊢;cases hj:h j with
  |none=>rw[hj] at hh;exact hh.elim
  |some o=>rw[hj] at hh;exact⟨hh.1,hh.2.1,hh.2.2.1,hh.2.2.2.1,hK _ hh.2.2.2.2⟩
theorem r5{op:pG}{ev:hS->V}{h:Hp}{k:Nat}{K a:V->Hp->Prop}(hK:∀v h,K v h->a v h)(hh:fJ cp (fk P) op ev h k K):fJ cp (fk P) op ev h k a:=by
 by_cases hf:(AO.mk none none op).isFun=true
 ·obtain⟨v,h1,h2⟩:=ug hf ev h k K hh;exact h2 h k a (Hp.le_refl h) (hK _ _ h1)
 ·cases op<;>try(exact absurd rfl hf)
  case alloc ty z=>exact⟨hh.1,hh.2.1,λβ=>hK _ _ (hh.2.2 β)⟩
  case box ty n x=>exact⟨hh.1,hh.2.1,λβ=>hK _ _ (hh.2.2 β)⟩
  case bslice ty sz ps=>exact⟨hh.1,hh.2.1,λβ=>hK _ _ (hh.2.2 β)⟩
  case store n x v=>
   have hh:rX cp h n (ev x) (ev v) (λh=>K .gC h):=hh;show rX cp h n (ev x) (ev v) (λh=>a .gC h);unfold rX at hh⊢
   split at hh
   ·rename_i heq;refine Ee (λo r hr=>⟨hr.1,hr.2.1,hK _ _ hr.2.2⟩) hh
   ·exact hh.elim
  case mkslice ty sz bytes z l c=>
   simp only[fJ] at hh⊢
   split at hh
   ·rename_i e1 e;exact⟨hh.1,hh.2.1,hh.2.2.1,hh.2.2.2.1,hh.2.2.2.2.1,hh.2.2.2.2.2.1,hh.2.2.2.2.2.2.1,λβ=>hK _ _ (hh.2.2.2.2.2.2.2 β)⟩
   ·exact hh.elim
  case append ty sz bytes x y=>
   have hh:kP cp h (arr+k) ty sz bytes (ev x) (ev y) K:=hh;show kP cp h (arr+k) ty sz bytes (ev x) (ev y) a;unfold kP at hh⊢;refine uh (λnews hn=>?_) hh
   generalize ev x=d at hn⊢
   cases d<;>try(exact hn.elim)
   case nilsl=>exact⟨hn.1,hn.2.1,λβ=>hK _ _ (hn.2.2 β)⟩
   case own j b sz' n=>
    simp only[] at hn⊢;cases hj:h j with
    |none=>rw[hj] at hn;exact hn.elim
    |some o=>rw[hj] at hn;exact⟨hn.1,hn.2.1,hn.2.2.1,hn.2.2.2.1,hn.2.2.2.2.1,hn.2.2.2.2.2.1,λβ=>hK _ _ (hn.2.2.2.2.2.2 β)⟩
   case win j b sz' lo hi=>
    simp only[] at hn⊢;cases hj:h j with
    |none=>rw[hj] at hn;exact hn.elim
    |some o=>rw[hj] at hn;exact⟨hn.1,hn.2.1,hn.2.2.1,hn.2.2.2.1,hn.2.2.2.2.1,hn.2.2.2.2.2.1,hn.2.2.2.2.2.2.1,λβ pre hp=>hK _ _ (hn.2.2.2.2.2.2.2 β pre hp)⟩
  case convbs x=>
   have hh:mh cp h 1 (ev x) (λrows=>∃l,cp.wZ rows l/\K (.str l) h):=hh;show mh cp h 1 (ev x) (λrows=>∃l,cp.wZ rows l/\a (.str l) h);exact uh (λrows hn=>hn.imp λl hl=>⟨hl.1,hK _ _ hl.2⟩) hh
  case dead=>exact hh
  case eqn neg x=>
   have hh:F4 cp neg (ev x) (λv=>K v h):=hh;show F4 cp neg (ev x) (λv=>a v h);unfold F4 at hh⊢
   generalize ev x=d at hh⊢
   cases d<;>try(exact hh.elim)
   case nilsl=>exact hK _ _ hh
   case sl=>exact⟨hK _ _ hh.1,λh0=>hK _ _ (hh.2 h0)⟩
  case ixa g len sz x i=>
   simp only[fJ] at hh⊢
   split at hh
   ·rename_i e1 e;obtain⟨a1,a2,a3,a4,n,a5,f⟩:=hh;refine⟨a1,a2,a3,a4,n,a5,?_⟩;cases g<;>exact hK _ _ f
   ·exact hh.elim
theorem Ef{a:AO}{s:S}{K c:S->Prop}(hK:∀s,K s->c s)(hh:gm cp (fk P) a s K):gm cp (fk P) a s c:=by
 obtain⟨d,g,op⟩:=a;have plain:∀s:S,iU cp (fk P) ⟨d,g,op⟩ s K->iU cp (fk P) ⟨d,g,op⟩ s c:=λs h=>r5 (λv h' hk=>hK _ hk) h;unfold gm at hh⊢
 split at hh
 ·exact plain s hh
 ·split at hh
  ·rename_i b _;cases b
   ·exact hK _ hh
   ·exact plain _ hh
  ·exact hK _ hh
  ·exact hh.elim
 ·split at hh
  ·rename_i b _;cases b
   ·exact plain _ hh
   ·exact hK _ hh
  ·exact hK _ hh
  ·exact hh.elim
theorem uj{op:pG}{ev ev':hS->V}{h:Hp}{k:Nat}{K K':V->Hp->Prop}(he:∀x∈op.r4,ev x=ev' x)(hK:∀v h,K v h->K' v h)(hh:fJ cp (fk P) op ev h k K):fJ cp (fk P) op ev' h k K':=by
 rw[nt he] at hh;exact r5 hK hh
theorem Gc{b:AO}{s:S}{d0:Option Nat}{u:V}{K c:S->Prop}(hl:∀e,d0=some e->e∉b.looks/\b.d≠some e)(hK:∀s1,(∀i,b.d≠some i->s1.t i=s.t i)->K (s1.put d0 u)->c s1)(hh:gm cp (fk P) b (s.put d0 u) K):gm cp (fk P) b s c:=by
 obtain⟨d,g,op⟩:=b;have l:∀(s:S)(v:V)(h:Hp),(((s.put d0 u).hU h).put d v)=(((s.hU h).put d v).put d0 u):=by
  intro s v h;have e1:(s.put d0 u).hU h=(s.hU h).put d0 u:=by cases d0<;>rfl
  rw[e1];exact put_comm λi hi=>(hl i hi).2
 have ts:∀(s:S)(i:Nat),(∀e,d0=some e->i≠e)->(s.put d0 u).t i=s.t i:=λs i hi=>jx λe=>hi i e rfl;have plain:∀s':S,(∀i,s'.t i=s.t i)->iU cp (fk P) ⟨d,g,op⟩ (s'.put d0 u) K->iU cp (fk P) ⟨d,g,op⟩ s' c:=by
  intro s' hs' h;have h':fJ cp (fk P) op (hS.ev (s'.put d0 u)) s'.h (d.getD 0) (λv h=>K ((((s'.put d0 u).hU h)).put d v)):=by
   have:=h;unfold iU at this;rw[j0] at this;exact this
  refine uj (K':=λv h=>c ((s'.hU h).put d v)) (kV λi hi=>ts s' i λe he f=>(hl e he).1 (by rw[<-f];unfold AO.looks;exact bX _ hi)) (λv m hk=>hK _ (λi hi=>?_) ?_) h'
  ·rw[jx hi];exact hs' i
  ·rw[<-l];exact hk
 cases g with
 |none=>exact plain s (λ_=>rfl) hh
 |some n=>
  obtain⟨g,want⟩:=n;have j:∀e,d0=some e->g≠e:=λe he hg=>(hl e he).1 (by rw[<-hg];simp[AO.looks]);have a:(s.put d0 u).t g=s.t g:=ts s g j;have k:∀(s:S)(v:V),(s.put d0 u).put d v=(s.put d v).put d0 u:=λs v=>put_comm λi hi=>(hl i hi).2;cases hb:s.t g with
  |bool b=>
   have hb2:=a.trans hb;have e1:(s.put d0 u).set g (.bool b)=s.put d0 u:=jH hb2;have o:s.set g (.bool b)=s:=jH hb;cases want<;>cases b<;>simp only[gm,hb,hb2,br,e1,o] at hh⊢
   ·exact plain s (λ_=>rfl) hh
   ·exact hK _ (λi hi=>jx hi) (by rw[<-k];exact hh)
   ·exact hK _ (λi hi=>jx hi) (by rw[<-k];exact hh)
   ·exact plain s (λ_=>rfl) hh
  |mN=>
   have hb2:=a.trans hb;cases want<;>simp only[gm,hb,hb2] at hh⊢<;>exact hK _ (λi hi=>jx hi) (by rw[<-k];exact hh)
  |_=>
   have hb2:=a.trans hb;cases want<;>simp only[gm,hb2] at hh
theorem mP{s:S}{h:Hp}{d:Option Nat}{v:V}:(s.put d v).hU h=(s.hU h).put d v:=by cases d<;>rfl
theorem xd{s:S}{h:Hp}:(s.hU h).h=h:=rfl
theorem vT{s:S}{h h':Hp}:(s.hU h).hU h'=s.hU h':=rfl
theorem yz{h:Hp}{a b:Nat}{o q:Ob}(hne:a≠b):Hp.put (Hp.put h a o) b q=Hp.put (Hp.put h b q) a o:=by
 funext i
 simp only[Hp.put]
 by_cases h1:i=a
 ·subst h1;simp[hne]
 ·simp[h1]
theorem Hp.Gd{h:Hp}{k:Nat}{o:Ob}(hk:h k=none):h.le (h.put k o):=by
 intro j q hj;simp only[Hp.put];rw[aa (λe=>by rw[e,hk] at hj;cases hj)];exact hj
theorem swap{a b:AO}(hp:nu a b=true){s:S}{K:S->Prop}(hh:gm cp (fk P) a s λs1=>gm cp (fk P) b s1 K):gm cp (fk P) b s λs1=>gm cp (fk P) a s1 K:=by
 unfold nu at hp;simp only[aO,bq,bne_iff_ne] at hp;obtain⟨x,p⟩:=hp;obtain⟨h1,h2⟩:=apart_spec x;have hcm:∀i,a.d=some i->b.d≠some i:=λi he=>(h1 i he).2;have j:∀i,b.d=some i->a.d≠some i:=λi he ha=>(h1 i ha).2 he
 rcases p with((y|⟨q,(z|AE)|A⟩)|⟨v,r|⟨AE,k⟩⟩)|⟨B,r⟩
 ·
  obtain⟨f,ha⟩:=pe y hh;have hb:=(ha s (λ_ _=>rfl) _).1 hh;exact Gc (d0:=a.d) (u:=f) (λe he=>h1 e he) (λs1 hs hk=>(ha s1 (λi hi=>hs i λhb=>h2 i hb hi) _).2 hk) hb
 ·
  obtain⟨f,g,l⟩:=qL q hh;obtain⟨o,hb1,hb2⟩:=qL z g;have e1:∀i∈b.looks,s.t i=(s.put a.d f).t i:=λi hi=>(jx λhe=>(h1 i he).1 hi).symm;refine hb2 s e1 (by rw[j0];exact Hp.le_refl _) _ (l _ (λi hi=>jx λhe=>h2 i he hi) (by rw[j0];exact Hp.le_refl _) _ ?_);rw[put_comm j];exact hb1
 ·
  obtain⟨f,g,l⟩:=qL q hh;obtain⟨o,ob,hb⟩:=qN AE g;obtain⟨hk,c⟩:=(hb _ (λ_ _=>rfl) _).1 g;rw[j0] at hk;have e1:∀i∈b.looks,s.t i=(s.put a.d f).t i:=λi hi=>(jx λhe=>(h1 i he).1 hi).symm;refine(hb s e1 _).2 ⟨hk,λβ=>l ((s.hU (s.h.put b.key (ob β))).put b.d (o β)) (λi hi=>jx (s:=s.hU (s.h.put b.key (ob β))) λhe=>h2 i he hi) (by rw[j0];exact Hp.Gd hk) _ ?_⟩;have:=c β;rw[j0,mP,put_comm hcm] at this;exact this
 ·
  obtain⟨f,g,l⟩:=qL q hh;obtain⟨D,o,ob,hb⟩:=yy A g;obtain⟨hk,c⟩:=(hb _ (λ_ _=>rfl) rfl _).1 g;rw[j0] at hk;have e1:∀i∈b.looks,s.t i=(s.put a.d f).t i:=λi hi=>(jx λhe=>(h1 i he).1 hi).symm;refine(hb s e1 j0.symm _).2 ⟨hk,λβ=>l ((s.hU (s.h.put D (ob β))).put b.d (o β)) (λi hi=>jx (s:=s.hU (s.h.put D (ob β))) λhe=>h2 i he hi) (by rw[j0];exact Hp.Gd hk) _ ?_⟩;have:=c β;rw[j0,mP,put_comm hcm] at this;exact this
 ·
  obtain⟨f,m,ha⟩:=qN v hh;obtain⟨hk,c⟩:=(ha _ (λ_ _=>rfl) _).1 hh;obtain⟨o,hb⟩:=pe r (c 0);have n:∀(β:Nat),∀i∈b.looks,((s.hU (s.h.put a.key (m β))).put a.d (f β)).t i=s.t i:=λβ i hi=>jx λhe=>(h1 i he).1 hi;have eq:∀(β:Nat),∀i∈b.looks,((s.hU (s.h.put a.key (m β))).put a.d (f β)).t i=((s.hU (s.h.put a.key (m 0))).put a.d (f 0)).t i:=λβ i hi=>(n β i hi).trans (n 0 i hi).symm;refine(hb s (λi hi=>(n 0 i hi).symm) _).2 ((ha _ (λi hi=>jx λhe=>h2 i he hi) _).2 ⟨by rw[j0];exact hk,λβ=>?_⟩);have:=(hb _ (eq β) _).1 (c β);rw[j0,mP,put_comm j];exact this
 ·
  obtain⟨f,m,ha⟩:=qN v hh;obtain⟨hk,c⟩:=(ha _ (λ_ _=>rfl) _).1 hh;obtain⟨o,ob,hb⟩:=qN AE (c 0);have n:∀(β:Nat),∀i∈b.looks,((s.hU (s.h.put a.key (m β))).put a.d (f β)).t i=s.t i:=λβ i hi=>jx λhe=>(h1 i he).1 hi;have eq:∀(β:Nat),∀i∈b.looks,((s.hU (s.h.put a.key (m β))).put a.d (f β)).t i=((s.hU (s.h.put a.key (m 0))).put a.d (f 0)).t i:=λβ i hi=>(n β i hi).trans (n 0 i hi).symm;have C:s.h b.key=none:=by
   have:=((hb _ (eq 0) _).1 (c 0)).1;rw[j0,xd] at this;simp only[Hp.put] at this;rw[aa (λe=>k e.symm)] at this;exact this
  refine(hb s (λi hi=>(n 0 i hi).symm) _).2 ⟨C,λw=>(ha ((s.hU (s.h.put b.key (ob w))).put b.d (o w)) (λi hi=>jx (s:=s.hU (s.h.put b.key (ob w))) λhe=>h2 i he hi) _).2 ⟨?_,λβ=>?_⟩⟩
  ·rw[j0,xd];simp only[Hp.put];rw[aa k];exact hk
  ·have:=((hb _ (eq β) _).1 (c β)).2 w;rw[j0,xd,mP,vT,put_comm hcm,yz k] at this;rw[j0,xd,mP,vT];exact this
 ·
  obtain⟨ka,f,m,ha⟩:=yy B hh;obtain⟨hk,c⟩:=(ha _ (λ_ _=>rfl) rfl _).1 hh;obtain⟨o,hb⟩:=pe r (c none);have n:∀(β:Option Nat),∀i∈b.looks,((s.hU (s.h.put ka (m β))).put a.d (f β)).t i=s.t i:=λβ i hi=>jx λhe=>(h1 i he).1 hi;have eq:∀(β:Option Nat),∀i∈b.looks,((s.hU (s.h.put ka (m β))).put a.d (f β)).t i=((s.hU (s.h.put ka (m none))).put a.d (f none)).t i:=λβ i hi=>(n β i hi).trans (n none i hi).symm;refine(hb s (λi hi=>(n none i hi).symm) _).2 ((ha _ (λi hi=>jx λhe=>h2 i he hi) j0 _).2 ⟨by rw[j0];exact hk,λβ=>?_⟩);have:=(hb _ (eq β) _).1 (c β);rw[j0,mP,put_comm j];exact this
def mi(T:cm)(al:List AO):List Nat->S->(S->Prop)->Prop
 |[],s,K=>K s
 |i::R,s,K=>match al[i]? with
  |some o=>gm cp T o s λs=>mi T al R s K
  |none=>False
theorem vU{T:cm}{al:List AO}:∀(l pre:List AO),al=pre++l->∀s K,mi T al (List.range' pre.length l.length) s K=n5 cp T l s K
 |[],pre,_,s,K=>rfl
 |o::l,pre,he,s,K=>by
  rw[ar,ff];simp only[mi];have:al[pre.length]? =some o:=by rw[he];simp
  rw[this];have ih:=vU (T:=T) (al:=al) l (pre++[o]) (by rw[he];simp);simp only[ae,ar,aL,aW] at ih;have e:(λs=>mi T al (List.range' (pre.length+1) l.length) s K)=λs=>n5 cp T l s K:=funext λs=>ih s K;simp only[e];rfl
theorem vV{T:cm}{al:List AO}:∀(l pre rest:List AO),al=pre++(l++rest)->∀s K,mi T al (List.range' pre.length l.length) s K=n5 cp T l s K
 |[],pre,rest,_,s,K=>rfl
 |o::l,pre,rest,he,s,K=>by
  rw[ar,ff];simp only[mi];have:al[pre.length]? =some o:=by rw[he];simp
  rw[this];have ih:=vV (T:=T) (al:=al) l (pre++[o]) rest (by rw[he];simp);simp only[ae,ar,aL,aW] at ih;have e:(λs=>mi T al (List.range' (pre.length+1) l.length) s K)=λs=>n5 cp T l s K:=funext λs=>ih s K;simp only[e];rfl
theorem uk{al:List AO}{i:Nat}{c:AO}(hi:al[i]? =some c):∀(a b:List Nat)(s:S)(K:S->Prop),(∀j∈a,∃d,al[j]? =some d/\nu d c=true)->mi (fk P) al (a++i::b) s K->
  gm cp (fk P) c s λs=>mi (fk P) al (a++b) s K
 |[],b,s,K,_,h=>by
  simp only[cL,mi,hi] at h;exact h
 |j::a,b,s,K,e,h=>by
  obtain⟨d,hj,hp⟩:=e j (by simp);simp only[aD,mi,hj] at h;have h':=Ef (λs1 hs1=>uk hi a b s1 K (λk hk=>e k (by simp[hk])) hs1) h;have:=swap hp h';simpa only[aD,mi,hj] using this
def dS(ops:Array Oper)(al:List AO):Bool:=
 let t:=n7 ops ops.size
 (List.range ops.size).all λi=>(fS ops i).all (λj=>decide (j<i))&&
  (List.range i).all λj=>((t.getD i []).contains j)||(match al[j]?,al[i]? with
   |some a,some b=>nu a b
   |_,_=>false)
theorem mQ{P:Program}{n:Nat}{ops:Array Oper}:∀{l:List Oper}{al:List AO},pI P n ops l=some al->l.length=al.length/\∀(i:Nat)(o:Oper),l[i]? =some o->∃a,al[i]? =some a/\Rp P n ops o=some a
 |[],al,h=>by simp[pI] at h;subst h;simp
 |o::l,al,h=>by
  simp only[pI] at h
  split at h
  ·rename_i a m ha hm;cases h;obtain⟨h1,h2⟩:=mQ hm;refine⟨by simp[h1],λi o' ho=>?_⟩;cases i with
   |zero=>simp at ho;subst ho;exact⟨a,rfl,ha⟩
   |succ i=>exact h2 i o' (by simpa using ho)
  ·cases h
theorem Eg{C:Ctx}{n:Nat}{ops:Array Oper}{al:List AO}{Q:Exit->Act->World->Prop}(hC:C.Ok)(F:pI P n ops ops.toList=some al)(Y:dS ops al=true){K:S->Prop}(hQ:∀s' D w',Sat C n s' D w'->K s'->Q .normal D w'):
  ∀(R:List Nat)(listed:Array Bool)(s:S)(a:Act)(w:World),listed.size=ops.size->(∀i,i∈R↔i<ops.size/\listed.getD i true=false)->R.Pairwise (·< ·)->(∀i,i<ops.size->listed.getD i false=true->∀j∈fS ops i,listed.getD j false=true)->
   Sat C n s a w->mi (fk P) al R s K->wpAny P .any ops Q R.length listed a w:=by
 have f:∀(listed:Array Bool),(∀i,i<ops.size->listed.getD i false=true->∀j∈fS ops i,listed.getD j false=true)->∀j i,K4 ops j i->(∀k∈fS ops i,listed.getD k false=true)->listed.getD j false=true:=by
  intro listed m j i ha
  induction ha with
  |base h=>exact λhp=>hp _ h
  | @step k i h h' ih=>
   intro hp;have hk:=hp k h;have G:k<ops.size:=by
    rcases dn k ops.size with h1|h1
    ·exact h1
    ·exfalso
     have:fS ops k=[]:=by unfold fS;rw[cY h1]
     cases h' with
     |base h2=>rw[this] at h2;cases h2
     |step h2 _=>rw[this] at h2;cases h2
   exact ih (m k G hk)
 have qw:∀i,i<ops.size->(∀j∈fS ops i,j<i)/\∀j,j<i->K4 ops j i\/∃a b,al[j]? =some a/\al[i]? =some b/\nu a b=true:=by
  intro i hi;unfold dS at Y;have h1:=aF.1 Y i (bI.2 hi);simp only[aO] at h1;refine⟨λj hj=>by simpa using aF.1 h1.1 j hj,λj hj=>?_⟩;have h2:=aF.1 h1.2 j (bI.2 hj);simp only[bq] at h2
  rcases h2 with h2|h2
  ·exact .inl (nq ops ops.size i j (by simpa using h2))
  ·right
   cases ha:al[j]? with
   |none=>rw[ha] at h2;simp at h2
   |some x=>
    cases hb:al[i]? with
    |none=>rw[ha,hb] at h2;simp at h2
    |some y=>rw[ha,hb] at h2;exact⟨x,y,rfl,rfl,h2⟩
 have r:∀(listed:Array Bool)(i:Nat),listed.size=ops.size->i<ops.size->(listed.getD i true=false↔¬listed.getD i false=true):=by
  intro listed i hs hi;have:i<listed.size:=by omega
  simp[this]
 intro R
 generalize hk:R.length=k
 induction k generalizing R with
 |zero=>
  intro listed s a w hsz d _ _ hs hK;have hR:R=[]:=aB hk;subst hR;refine⟨cV.2 λj hj=>?_,hQ s a w hs hK⟩;obtain⟨h1,o,ho,_⟩:=mem_ready.1 hj;have:=(d j).2 ⟨(aA.1 ho).1,h1⟩;cases this
 |succ k ih=>
  intro listed s a w hsz d l m hs hK;refine⟨λhr=>?_,λi hi=>?_⟩
  ·exfalso
   cases R with
   |nil=>cases hk
   |cons i0 R=>
    obtain⟨u,hl0⟩:=(d i0).1 (by simp);have:i0∈Region.ready .any ops listed:=by
     refine mem_ready.2 ⟨hl0,ops[i0],aT u,λe he hb=>?_⟩;have hp:e.on∈fS ops i0:=by
      unfold fS;rw[aT u];exact aM.2 ⟨e,cB.2 ⟨by simpa using he,hb⟩,rfl⟩
     have hlt:=(qw i0 u).1 _ hp
     by_cases hl:listed.getD e.on false=true
     ·exact hl
     ·exfalso
      have hin:=(d e.on).2 ⟨qW,(r listed e.on hsz qW).2 hl⟩
      rcases ah.1 hin with h|h
      ·omega
      ·have:=(cH.1 l).1 _ h;omega
    rw[hr] at this;cases this
  ·obtain⟨hl,o,ho,iF⟩:=mem_ready.1 hi;have rZ:i<ops.size:=(aA.1 ho).1;have H:i∈R:=(d i).2 ⟨rZ,hl⟩;obtain⟨E,I,rfl⟩:=eG H;have t:∀k∈fS ops i,listed.getD k false=true:=by
    intro k v;unfold fS at v;rw[ho] at v;obtain⟨e,he,rfl⟩:=aM.1 v;obtain⟨J,L⟩:=cB.1 he;exact iF e (by simpa using J) L
   obtain⟨_,z⟩:=mQ F;obtain⟨ai,A,M⟩:=z i o (by simpa using ho);have c:=di.1 l;have N:∀j∈E,∃Z,al[j]? =some Z/\nu Z ai=true:=by
    intro j hj;have O:j<i:=c.2.2 j hj i (by simp);obtain⟨T,U⟩:=(d j).1 (by simp[hj])
    rcases(qw i rZ).2 j O with h|⟨x,y,hx,hy,V⟩
    ·exact absurd (f listed m j i h t) ((r listed j hsz T).1 U)
    ·rw[A] at hy;cases hy;exact⟨x,hx,V⟩
   have p:=uk A E I s K N hK;have W:i∉E++I:=by
    intro h
    rcases bj.1 h with h|h
    ·have:=c.2.2 i h i (by simp);omega
    ·have:=(cH.1 c.2.1).1 i h;omega
   unfold wpOp;rw[ho];refine lH yk hC M hs p λs' D w' hs' X=>ih (E++I) ?_ (listed.setIfInBounds i true) s' D w' (by simp[hsz]) (λj=>?_) ?_ (λj hj B q hq=>?_) hs' X
   ·simp at hk⊢;omega
   ·by_cases g:i=j
    ·subst g;have h1:(listed.setIfInBounds i true).getD i true=true:=by
      have:i<listed.size:=by omega
      simp[this]
     rw[h1];exact⟨λh=>absurd h W,λh=>by simp at h⟩
    ·rw[getD_set_ne true g,<-d j];simp only[bj,ah]
     constructor
     ·rintro(h|h)
      ·exact .inl h
      ·exact .inr (.inr h)
     ·rintro(h|h|h)
      ·exact .inl h
      ·exact absurd h.symm g
      ·exact .inr h
   ·refine di.2 ⟨c.1,(cH.1 c.2.1).2,λx hx y hy=>c.2.2 x hx y (by simp[hy])⟩
   ·by_cases g:i=j
    ·subst g;exact getD_set_true (t q hq)
    ·rw[getD_set_ne false g] at B;exact getD_set_true (m j hj B q hq)
theorem A5{C:Ctx}{n:Nat}{ops:Array Oper}{al:List AO}{ol:AO}{m:Nat}{Q:Exit->Act->World->Prop}(hC:C.Ok)(N:pI P n ops ops.toList=some al)(hD:dS ops al=true)(hm:ops.size=m+1)(K5:al[m]? =some ol)(D:∀j,j<m->K4 ops j m){K:S->Prop}(hQ:∀s' M w',Sat C n s' M w'->K s'->Q .normal M w'):
  ∀(R:List Nat)(listed:Array Bool)(s:S)(a:Act)(w:World),listed.size=ops.size->(∀i,i∈R↔i<m/\listed.getD i true=false)->listed.getD m true=false->R.Pairwise (·< ·)->(∀i,i<ops.size->listed.getD i false=true->∀j∈fS ops i,listed.getD j false=true)->
   Sat C n s a w->mi (fk P) al R s (λs'=>gm cp (dF P) ol s' K)->wpAny P .any ops Q (R.length+1) listed a w:=by
 have d:∀(listed:Array Bool),(∀i,i<ops.size->listed.getD i false=true->∀j∈fS ops i,listed.getD j false=true)->∀j i,K4 ops j i->(∀k∈fS ops i,listed.getD k false=true)->listed.getD j false=true:=by
  intro listed t j i ha
  induction ha with
  |base h=>exact λhp=>hp _ h
  | @step k i h h' ih=>
   intro hp;have hk:=hp k h;have W:k<ops.size:=by
    rcases dn k ops.size with h1|h1
    ·exact h1
    ·exfalso
     have:fS ops k=[]:=by unfold fS;rw[cY h1]
     cases h' with
     |base h2=>rw[this] at h2;cases h2
     |step h2 _=>rw[this] at h2;cases h2
   exact ih (t k W hk)
 have qw:∀i,i<ops.size->(∀j∈fS ops i,j<i)/\∀j,j<i->K4 ops j i\/∃a b,al[j]? =some a/\al[i]? =some b/\nu a b=true:=by
  intro i hi;unfold dS at hD;have h1:=aF.1 hD i (bI.2 hi);simp only[aO] at h1;refine⟨λj hj=>by simpa using aF.1 h1.1 j hj,λj hj=>?_⟩;have h2:=aF.1 h1.2 j (bI.2 hj);simp only[bq] at h2
  rcases h2 with h2|h2
  ·exact .inl (nq ops ops.size i j (by simpa using h2))
  ·right
   cases ha:al[j]? with
   |none=>rw[ha] at h2;simp at h2
   |some x=>
    cases hb:al[i]? with
    |none=>rw[ha,hb] at h2;simp at h2
    |some y=>rw[ha,hb] at h2;exact⟨x,y,rfl,rfl,h2⟩
 have g:∀(listed:Array Bool)(i:Nat),listed.size=ops.size->i<ops.size->(listed.getD i true=false↔¬listed.getD i false=true):=by
  intro listed i hs hi;have:i<listed.size:=by omega
  simp[this]
 have E:∀(listed:Array Bool)(i:Nat)(o:Oper),ops[i]? =some o->(∀e,e∈o.after->Region.binds .any e=true->listed.getD e.on false=true)->∀k∈fS ops i,listed.getD k false=true:=by
  intro listed i o ho iF k p;unfold fS at p;rw[ho] at p;obtain⟨e,he,rfl⟩:=aM.1 p;obtain⟨F,G⟩:=cB.1 he;exact iF e (by simpa using F) G
 intro R
 generalize hk:R.length=k
 induction k generalizing R with
 |zero=>
  intro listed s a w hsz f H _ t hs hK;have hR:R=[]:=aB hk;subst hR;have r:∀j,j<m->listed.getD j false=true:=by
   intro j hj;cases hb:listed.getD j false with
   |true=>rfl
   |false=>
    have:=(f j).2 ⟨hj,(g listed j hsz qW).2 (by rw[hb];simp)⟩;cases this
  refine⟨λhr=>?_,λi hi=>?_⟩
  ·exfalso
   have:m∈Region.ready .any ops listed:=by
    refine mem_ready.2 ⟨H,ops[m],aT qW,λe he hb=>r _ ?_⟩;have hp:e.on∈fS ops m:=by
     unfold fS;rw[aT qW];exact aM.2 ⟨e,cB.2 ⟨by simpa using he,hb⟩,rfl⟩
    exact(qw m qW).1 _ hp
   rw[hr] at this;cases this
  ·obtain⟨hl,o,ho,iF⟩:=mem_ready.1 hi;have rZ:i<ops.size:=(aA.1 ho).1;have I:i=m:=by
    rcases dn i m with h|h
    ·exfalso;exact(g listed i hsz rZ).1 hl (r i h)
    ·omega
   subst I;obtain⟨_,u⟩:=mQ N;obtain⟨ai,v,J⟩:=u i o (by simpa using ho);rw[K5] at v;cases v;unfold wpOp;rw[ho];refine lH tU hC J hs hK λs' M w' hs' L=>⟨?_,hQ s' M w' hs' L⟩;refine cV.2 λj hj=>?_;obtain⟨h1,o',X,_⟩:=mem_ready.1 hj;have O:j<ops.size:=(aA.1 X).1
   by_cases l:i=j
   ·subst l;have:i<listed.size:=by omega
    simp[this] at h1
   ·rw[getD_set_ne true l] at h1;exact(g listed j hsz O).1 h1 (r j qW)
 |succ k ih=>
  intro listed s a w hsz f H z t hs hK;refine⟨λhr=>?_,λi hi=>?_⟩
  ·exfalso
   cases R with
   |nil=>cases hk
   |cons i0 R=>
    obtain⟨T,hl0⟩:=(f i0).1 (by simp);have:i0∈Region.ready .any ops listed:=by
     refine mem_ready.2 ⟨hl0,ops[i0],aT qW,λe he hb=>?_⟩;have hp:e.on∈fS ops i0:=by
      unfold fS;rw[aT qW];exact aM.2 ⟨e,cB.2 ⟨by simpa using he,hb⟩,rfl⟩
     have hlt:=(qw i0 qW).1 _ hp
     by_cases hl:listed.getD e.on false=true
     ·exact hl
     ·exfalso
      have hin:=(f e.on).2 ⟨qW,(g listed e.on hsz qW).2 hl⟩
      rcases ah.1 hin with h|h
      ·omega
      ·have:=(cH.1 z).1 _ h;omega
    rw[hr] at this;cases this
  ·obtain⟨hl,o,ho,iF⟩:=mem_ready.1 hi;have rZ:i<ops.size:=(aA.1 ho).1;have A:∀k∈fS ops i,listed.getD k false=true:=by
    intro k p;unfold fS at p;rw[ho] at p;obtain⟨e,he,rfl⟩:=aM.1 p;obtain⟨F,G⟩:=cB.1 he;exact iF e (by simpa using F) G
   have I:i<m:=by
    rcases dn i m with h|h
    ·exact h
    ·exfalso
     have:i=m:=by omega
     subst this;cases R with
     |nil=>cases hk
     |cons i0 R=>
      obtain⟨T,hl0⟩:=(f i0).1 (by simp);exact(g listed i0 hsz qW).1 hl0 (d listed t i0 i (D i0 T) A)
   have Y:i∈R:=(f i).2 ⟨I,hl⟩;obtain⟨V,Z,rfl⟩:=eG Y;obtain⟨_,u⟩:=mQ N;obtain⟨ai,v,J⟩:=u i o (by simpa using ho);have c:=di.1 z;have VR:∀j∈V,∃oj,al[j]? =some oj/\nu oj ai=true:=by
    intro j hj;have VS:j<i:=c.2.2 j hj i (by simp);obtain⟨O,Pn⟩:=(f j).1 (by simp[hj])
    rcases(qw i rZ).2 j VS with h|⟨x,y,hx,hy,VT⟩
    ·exact absurd (d listed t j i h A) ((g listed j hsz qW).1 Pn)
    ·rw[v] at hy;cases hy;exact⟨x,hx,VT⟩
   have B:=uk v V Z s _ VR hK;have VU:i∉V++Z:=by
    intro h
    rcases bj.1 h with h|h
    ·have:=c.2.2 i h i (by simp);omega
    ·have:=(cH.1 c.2.1).1 i h;omega
   unfold wpOp;rw[ho];refine lH yk hC J hs B λs' M w' hs' L=>ih (V++Z) ?_ (listed.setIfInBounds i true) s' M w' (by simp[hsz]) (λj=>?_) ?_ ?_ (λj hj U q hq=>?_) hs' L
   ·simp at hk⊢;omega
   ·by_cases l:i=j
    ·subst l;have h1:(listed.setIfInBounds i true).getD i true=true:=by
      have:i<listed.size:=by omega
      simp[this]
     rw[h1];exact⟨λh=>absurd h VU,λh=>by simp at h⟩
    ·rw[getD_set_ne true l,<-f j];simp only[bj,ah]
     constructor
     ·rintro(h|h)
      ·exact .inl h
      ·exact .inr (.inr h)
     ·rintro(h|h|h)
      ·exact .inl h
      ·exact absurd h.symm l
      ·exact .inr h
   ·rw[getD_set_ne true qW];exact H
   ·refine di.2 ⟨c.1,(cH.1 c.2.1).2,λx hx y hy=>c.2.2 x hx y (by simp[hy])⟩
   ·by_cases l:i=j
    ·subst l;exact getD_set_true (A q hq)
    ·rw[getD_set_ne false l] at U;exact getD_set_true (t j hj U q hq)
theorem Ge(hm:P.follows .mixedOrders=true):lh P dS:=by
 refine⟨hm,?_,?_⟩
 rotate_left
 ·intro C n id ops al s a w K Q hC d p hl hs hK hQ;refine wp_region_any hm ?_;have hs2:Sat C n s a {w with drawn:=w.drawn+1}:=by
   obtain⟨F,hh,hr⟩:=hs.ex;have c:Ev (λ_=>False) w {w with drawn:=w.drawn+1}:=Ev.drew _ w
   refine⟨⟨F,⟨λk o hk=>fe.keep hC hh c (λ_ _ h=>h.elim) (hh.ob k o hk) (λ_ _ h=>h.elim),hh.inj,hh.live,hh.jE,hh.new,hh.lt,Ev.qE hh.ev c λ_ _ h=>h.elim⟩,λi=>hh.keep hC c (λ_ _ h=>h.elim) (hr i)⟩,hs.df,hs.sz⟩
  have hlen:=(mQ d).1;have f:al.length=ops.size:=by rw[<-hlen];simp
  obtain⟨b,ol,rfl⟩:∃b ol,al=b++[ol]:=by
   cases hq:al.reverse with
   |nil=>
    have:al=[]:=by simpa using hq
    subst this;simp[Cc] at hl
   |cons x l=>exact⟨l.reverse,x,by rw[<-List.reverse_reverse al,hq];simp⟩
  have hsz:ops.size=b.length+1:=by rw[<-f];simp
  simp only[eh,ae,ar,aL,aW,Nat.add_sub_cancel] at hK;rw[cI] at hK;have g:∀j,j<b.length->K4 ops j b.length:=by
   intro j hj;unfold Cc at hl;rw[List.getLast?_concat] at hl;simp only[aO] at hl;have:=aF.1 hl.2 j (bI.2 qW);rw[hsz] at this;exact nq ops (b.length+1) b.length j (by simpa using this)
  have iF:=vV (T:=fk P) (al:=b++[ol]) b [] [ol] rfl s λs'=>gm cp (dF P) ol s' K;have:=A5 (m:=b.length) (ol:=ol) hC d p hsz (by simp) g hQ (List.range' 0 b.length) (Array.replicate ops.size false) s a {w with drawn:=w.drawn+1} (by simp) (λi=>?_) (by rw[hsz];simp) ?_ (λi hi hl=>?_) hs2 (by
   rw[show(0:Nat)=([]:List AO).length from rfl,iF];exact hK)
  ·rw[List.length_range',<-hsz] at this;exact this
  ·simp only[List.mem_range'_1,bc,aW,eH];exact⟨λh=>⟨h,by(have:i<ops.size:=by omega);simp[this]⟩,λh=>h.1⟩
  ·exact fg
  ·simp[hi] at hl
 intro C n id ops al s a w K Q hC d p hs hK hQ;refine wp_region_any hm ?_;have hs2:Sat C n s a {w with drawn:=w.drawn+1}:=by
  obtain⟨F,hh,hr⟩:=hs.ex;have c:Ev (λ_=>False) w {w with drawn:=w.drawn+1}:=Ev.drew _ w
  refine⟨⟨F,⟨λk o hk=>fe.keep hC hh c (λ_ _ h=>h.elim) (hh.ob k o hk) (λ_ _ h=>h.elim),hh.inj,hh.live,hh.jE,hh.new,hh.lt,Ev.qE hh.ev c λ_ _ h=>h.elim⟩,λi=>hh.keep hC c (λ_ _ h=>h.elim) (hr i)⟩,hs.df,hs.sz⟩
 have hlen:=(mQ d).1;have iF:=vU (T:=fk P) (al:=al) al [] rfl s K;have e:(List.range' 0 al.length).length=ops.size:=by simp[<-hlen]
 have:=Eg hC d p hQ (List.range' 0 al.length) (Array.replicate ops.size false) s a {w with drawn:=w.drawn+1} (by simp) (λi=>?_) ?_ (λi hi hl=>?_) hs2 (by rw[show(0:Nat)=([]:List AO).length from rfl,iF];exact hK)
 ·rw[e] at this;exact this
 ·have he:al.length=ops.size:=by rw[<-hlen];simp
  rw[he];simp only[List.mem_range'_1,bc,aW,eH];exact⟨λh=>⟨h,by simp[h]⟩,λh=>h.1⟩
 ·exact fg
 ·simp[hi] at hl
end
open Go.ChangeShapes Go.WideShapes Go.ChangeAt Go.RowKit
theorem nc(n:Nat):(NatCast.natCast n:Int)=(n:Int):=rfl
theorem qO{p:Prop}(h:p:=by((try simp only[nc] at*);omega)):p:=h
theorem hW:lh Tryz.prog dS:=Ge (by kernel_rfl)
def xe(w:World):Nat->Prop:=λb=>b<w.heap.size
structure mj(w:World)(vs:List V)(cs:List Value):Prop where
 len:vs.length=cs.length
 rel:∀(i:Nat)(v:V)(u:Value),vs[i]? =some v->cs[i]? =some u->Rel (xe w) (λ_=>False) w v u/\u.oneCell'=true
theorem mj.nil(w:World):mj w [] []:=⟨rfl,by simp⟩
theorem mj.app{w:World}{a c:List V}{b d:List Value}(h1:mj w a b)(h2:mj w c d):mj w (a++c) (b++d):=by
 refine⟨by simp[h1.len,h2.len],λi v u hv hu=>?_⟩
 by_cases hi:i<a.length
 ·rw[bu hi] at hv;rw[bu (by rw[<-h1.len];exact hi)] at hu;exact h1.rel i v u hv hu
 ·rw[bB qW] at hv;rw[bB (by rw[<-h1.len];omega),<-h1.len] at hu;exact h2.rel _ v u hv hu
theorem mj.one{w:World}{v:V}{u:Value}(h:Rel (xe w) (λ_=>False) w v u)(h1:u.oneCell'=true):mj w [v] [u]:=by
 refine⟨rfl,λi v' u' hv hu=>?_⟩;cases i with
 |zero=>simp at hv hu;subst hv hu;exact⟨h,h1⟩
 |succ i=>simp at hv
theorem Eh{f:Nat}{args:List V}{us:Array Value}{W:World}(hs:Spec Tryz.prog f args Hp.emp (Is (.bool true)))(hl:us.size=args.length)
  (hr:∀(i:Nat)(v:V)(u:Value),args[i]? =some v->us[i]? =some u->Rel (xe W) (λ_=>False) W v u)(c:Env W:=by exact trivial):
  Calls Tryz.prog f us W λe w'=>e=.returned (.bool true)/\Below W.heap.size W w':=by
 let C:Ctx:=⟨W,xe W,λ_=>False,λ_=>False,[]⟩
 have hC:C.Ok:=⟨λb hb=>⟨hb,λh=>h⟩,λb hb=>hb.elim,λb hb=>hb.elim,c,λb hb=>hb.elim⟩;refine(hs.run C us hC hl hr ⟨λk o hk=>by simp[Hp.emp] at hk,λk k' o o' b hk=>by simp[Hp.emp] at hk,λk o b hk=>by simp[Hp.emp] at hk,λb hb=>.inl hb,λb hb=>hb,λb hb=>hb,Ev.refl _ _⟩).mono ?_;rintro e w' ⟨u,v,h',F',rfl,hv,hs2,rfl,rfl⟩;cases hv;have a:Ev (λ_=>False) W w':=hs2.ev;exact⟨rfl,a.os,a.tape,a.output,a.size,λk hk=>a.same k hk (λh=>h)⟩
structure Part where
 kind:Int
 n:Int
 text:BS
def a7(p:Part):List V:=[.int .i64 p.kind,.int .i64 p.n,.str p.text]
def Part.Ok(p:Part):Prop:=kA p.kind/\kA p.n/\p.text.length<=maxLen
set_option maxRecDepth 100000
set_option maxHeartbeats 2000000
def lj(p:Part):Int:=
 if p.kind=1\/p.kind=3 then(if p.n<1\/p.text≠[] then 3 else if p.n>500\/(p.text.length:Int)>500 then 2 else 0)
 else if p.kind=2 then(if p.n≠0\/p.text=[] then 3 else if p.n>500\/(p.text.length:Int)>500 then 2 else 0)
 else 3
def Gf:AC:=qr [qo 1 (.box 41 3 (.t 0)),qz 2 0] (qq (qr [qf 3 0 1,ql 4 3] (.block 0 (qq (qr [qc 6 .eql 4 1,qm 5 6] (qu 5 .skip (qR [qc 7 .eql 4 3,qm 5 7]))) (qu 5 (qr [qf 8 1 1,ql 9 8,qc 10 .lss 9 1,qm 11 10,qg 12 11 false (.faddr 2 (.t 1)),qg 13 11 false (.load1 (.t 12)),qg 14 11 false (.bin .neq (.t 13) (.c qe)),qo 15 (.pick (.t 11) (.c (.bool true)) (.t 14))] (qu 15 (qr [qz 2 3] .ret) .skip)) (qr [qc 17 .eql 4 2,qm 16 17] (qu 16 (qr [qf 18 1 1,ql 19 18,qc 20 .neq 19 0,qm 21 20,qg 22 21 false (.faddr 2 (.t 1)),qg 23 21 false (.load1 (.t 22)),qg 24 21 false (.bin .eql (.t 23) (.c qe)),qo 25 (.pick (.t 21) (.c (.bool true)) (.t 24))] (qu 25 (qr [qz 2 3] .ret) .skip)) (qr [qz 2 3] .ret))))))) (qq (qr [qf 26 1 1,ql 27 26,qc 28 .gtr 27 500,qm 29 28,qg 30 29 false (.faddr 2 (.t 1)),qg 31 29 false (.load1 (.t 30)),qg 32 29 false (.len true (.t 31)),qg 33 29 false (.bin .gtr (.t 32) (qk 500)),qo 34 (.pick (.t 29) (.c (.bool true)) (.t 33))] (qu 34 (qr [qz 2 2] .ret) .skip)) (qr [qz 2 0] .ret)))
theorem Po:fF Tryz.prog 221 Tryz.f221 Gf [.t 2] 1 dS:=⟨Tryz.func221,by decide+kernel,by kernel_rfl,by kernel_rfl,by decide+kernel⟩
theorem Pp(P:Prim)(hP:P=cp)(T b:cm)(k n:Int)(t:BS)(r:Int)(hr:lj ⟨k,n,t⟩=r)(R:S->Prop)(a:∀s s',cd s s'->ia [.t 2] [qI r] s'->R s):
  gE P T b Gf (S0 [.agg [qI k,qI n,.str t]] Hp.emp) R (λ_ _=>False) R:=by
 cbv
 repeat'(first|(intro β;cbv)|(refine And.intro (by assumption) ?_;cbv)|(refine a6 (λh=>?_) (λh=>?_)<;>try cbv))
 all_goals
  refine a _ _ (cd.refl _) ?_;cbv
 all_goals
  subst hP;subst hr;simp[cp] at*;clear a
  grind [lj]
theorem Gg(p:Part):Spec Tryz.prog 221 [.agg (a7 p)] Hp.emp (Is (.int .i64 (lj p))):=
 ed hW Po [.int .i64 (lj p)] (.int _ _) λR a=>Pp cp rfl _ _ p.kind p.n p.text _ rfl R a
def lg:List Part->Int
 |[]=>0
 |p::l=>(if p.kind=1\/p.kind=3 then p.n else 0)+lg l
def ig:List Part->Int
 |[]=>0
 |p::l=>(if p.kind=1 then p.n else if p.kind=3 then 0 else p.text.length)+ig l
theorem Lv(a b:List Part):lg (a++b)=lg a+lg b:=by induction a with
 |nil=>simp[lg]
 |cons p a ih=>simp only[aD,lg,ih];omega
theorem Gh(a b:List Part):ig (a++b)=ig a+ig b:=by induction a with
 |nil=>simp[ig]
 |cons p a ih=>simp only[aD,ig,ih];omega
def nR(p:Part):Prop:=lj p=0
theorem gU{p:Part}(h:nR p):0<=p.n/\p.n<=500/\p.text.length<=500/\((p.kind=2/\p.n=0/\p.text≠[])\/((p.kind=1\/p.kind=3)/\0<p.n/\p.text=[])):=by
 unfold nR lj at h
 grind
theorem A6(l:List Part)(h:∀p∈l,nR p):0<=lg l/\lg l<=500*l.length:=by induction l with
 |nil=>simp[lg]
 |cons p l ih=>
  have h1:=gU (h p (by simp));have h2:=ih λq hq=>h q (by simp[hq]);simp only[lg,ar]
  split<;>omega
theorem th(l:List Part)(h:∀p∈l,nR p):0<=ig l/\ig l<=500*l.length:=by induction l with
 |nil=>simp[ig]
 |cons p l ih=>
  have h1:=gU (h p (by simp));have h2:=ih λq hq=>h q (by simp[hq]);simp only[ig,ar]
  split
  ·omega
  ·split<;>omega
def qw:Int->List Part->Int
 |_,[]=>0
 |last,p::l=>if p.kind=last\/last=3/\p.kind=2 then 3 else if lj p≠0 then lj p else qw p.kind l
theorem r6:∀(last:Int)(l:List Part),qw last l=0->∀p∈l,nR p
 |_,[],_=>by simp
 |last,p::l,h=>by
  unfold qw at h
  split at h
  ·omega
  ·split at h
   ·contradiction
   ·rename_i h2;intro q hq
    rcases ah.1 hq with rfl|hq
    ·exact aK (p:=lj q=0) h2
    ·exact r6 _ l h q hq
def cR(d:List Part):Int:=if 1600<d.length then 2 else if qw 0 d≠0 then qw 0 d else if 500<lg d\/500<ig d then 2 else 0
theorem xf{d:List Part}{rows:List (List V)}{p:Part}{pre rest:List Part}{k:Int}(hrows:rows=d.map a7)(hd:d=pre++p::rest)(hk:k=pre.length)(P:Prim)(hP:P=cp):P.row rows (P.nat k) (a7 p):=by
 subst hP;simp[cp,hrows,hd,hk]
def yA:AC:=qr [qz 2 0,qz 3 0] (qq (qr [qm 6 0,qo 7 (.len false (.t 6)),qz 8 0] (.block 0 (.loop (qr [qb 9 .lss 8 7] (qq (qu 9 .skip (.exit 0)) (qq (.block 1 (qr [qo 10 (.iaddr 3 (.t 6) (.t 8)),qd 11 3 10,qo 5 (.alloc 41 yb),qs 3 5 11] (qr [qf 12 0 5,ql 13 12] (.block 2 (qr [qc 20 .eql 13 1,qm 19 20] (qu 19 (qr [qm 21 2,qf 22 1 5,ql 23 22,qb 24 .add 21 23,qm 2 24] (qR [qm 25 3,qf 26 1 5,ql 27 26,qb 28 .add 25 27,qm 3 28])) (qr [qc 30 .eql 13 3,qm 29 30] (qu 29 (qR [qm 31 2,qf 32 1 5,ql 33 32,qb 34 .add 31 33,qm 2 34]) (qR [qm 14 3,qf 15 2 5,ql 16 15,qo 17 (.len true (.t 16)),qb 18 .add 14 17,qm 3 18]))))))))) (qR [qc 35 .add 8 1,qm 8 35]))))))) (qr [qm 36 2,qm 37 3,qm 2 36,qm 3 37] .ret))
theorem Gi:fF Tryz.prog 222 Tryz.f222 yA [.t 2,.t 3] 1 dS:=⟨Tryz.func222,by decide+kernel,by kernel_rfl,by kernel_rfl,by decide+kernel⟩
theorem Gj(P:Prim)(hP:P=cp)(T g:cm)(d:List Part)(j:d.length<=1600)(a:∀p∈d,nR p)(rows:List (List V))(hrows:rows=d.map a7)(r1 r2:Int)(e:lg d=r1)(f:ig d=r2)
  (R:S->Prop)(b:∀s s',cd s s'->ia [.t 2,.t 3] [qI r1,qI r2] s'->R s):gE P T g yA (S0 [.sl true 3 rows] Hp.emp) R (λ_ _=>False) R:=by
 cbv;refine⟨{y:Int×Int×Int×List Part×List Part//d=y.2.2.2.1++y.2.2.2.2/\y.2.2.1=y.2.2.2.1.length/\y.1=lg y.2.2.2.1/\y.2.1=ig y.2.2.2.1},λy=>[(2,qI y.1.1),(3,qI y.1.2.1),(6,.sl true 3 rows),(7,qI (P.cF rows)),(8,qI y.1.2.2.1)],λ_=>[],λy=>y.1.2.2.2.2.length,
  ⟨_,cd.refl _,⟨(0,0,0,[],d),rfl,rfl,rfl,rfl⟩,?_,?_⟩,?_⟩
 ·cbv
 ·cbv
 rintro⟨⟨i,o,k,pre,rest⟩,hd,hk,hi,ho⟩
 dsimp only at hd hk hi ho
 cbv;have hl:P.cF rows=pre.length+rest.length:=by subst hP;simp[cp,hrows,hd]
 have l:d.length=pre.length+rest.length:=by rw[hd];simp
 refine a6 (λh=>?_) (λh=>?_)
 ·rcases rest with _|⟨⟨kd,n,t⟩,rest⟩
  ·(exfalso;clear b;subst hP;simp[cp,nc] at*;first|omega|grind)
  cbv;have c:=xf hrows hd hk P hP;have hp:=gU (a ⟨kd,n,t⟩ (by simp[hd]));have hb1:=A6 pre (λp hp=>a p (by simp[hd,hp]));have hb2:=th pre (λp hp=>a p (by simp[hd,hp]))
  repeat'(first|(intro β;cbv)|(refine And.intro (by assumption) ?_;cbv)|(refine a6 (λh=>?_) (λh=>?_)<;>try cbv)|(refine Exists.intro _ (And.intro (by assumption) ?_);cbv)|(refine m _ _ ?_;cbv)|(refine q _ _ ?_;cbv)|(refine r _ _ ?_;cbv)|(refine u _ _ ?_;cbv)|(refine v _ _ ?_;cbv)|(refine w _ _ ?_;cbv)|(refine And.intro (by(clear b;subst hP;simp[cp,kA,nc] at* <;>first|omega|grind)) ?_;cbv))
  all_goals
   refine⟨_,cd.refl _,⟨(_,_,_,pre++[⟨kd,n,t⟩],rest),?_⟩,⟨rfl,rfl,rfl,rfl,rfl,trivial⟩,trivial,by simp⟩;clear b c;subst hP;simp[cp,nc,Lv,Gh,lg,ig] at*
   grind
 ·cbv;refine b _ _ (cd.refl _) ?_;have:rest=[]:=by
   cases rest with
   |nil=>rfl
   |cons p rest=>(exfalso;clear b;subst hP;simp[cp,nc] at*;first|omega|grind)
  subst this;simp only[bg] at hd;cbv;rw[<-e,<-f,hd,<-hi,<-ho]
theorem yB(d:List Part)(a:d.length<=1600)(b:∀p∈d,nR p):Spec Tryz.prog 222 [.sl true 3 (d.map a7)] Hp.emp (Is (.tup [.int .i64 (lg d),.int .i64 (ig d)])):=
 ed hW Gi [.int .i64 (lg d),.int .i64 (ig d)] (.tup _ (by simp;exact⟨.int _ _,.int _ _⟩)) λR c=>Gj cp rfl _ _ d a b _ rfl _ _ rfl rfl R c
def yC:AC:=qr [qz 2 0] (qq (qr [qm 9 0,qo 10 (.len false (.t 9)),qc 11 .gtr 10 1600] (qu 11 (qr [qz 2 2] .ret) .skip)) (qr [qz 3 0] (qq (qr [qm 12 0,qo 13 (.len false (.t 12)),qz 14 0] (.block 0 (.loop (qr [qb 15 .lss 14 13] (qq (qu 15 .skip (.exit 0)) (qq (.block 1 (qr [qo 16 (.iaddr 3 (.t 12) (.t 14)),qd 17 3 16,qo 5 (.alloc 41 yb),qs 3 5 17] (qq (qr [qf 18 0 5,ql 19 18,qm 20 3,qb 21 .eql 19 20,qm 22 21,qg 23 22 false (.mov (.t 3)),qg 24 22 false (.bin .eql (.t 23) (qk 3)),qg 25 22 false (.mov (.t 24)),qg 26 25 true (.faddr 0 (.t 5)),qg 27 25 true (.load1 (.t 26)),qg 28 25 true (.bin .eql (.t 27) (qk 2)),qg 29 22 false (.pick (.t 25) (.t 28) (.c (.bool false))),qo 30 (.pick (.t 22) (.c (.bool true)) (.t 29))] (qu 30 (qr [qz 2 3] .ret) .skip)) (qq (qr [qd 31 3 5,qa 32 221 [.t 31],qm 6 32] (qr [qm 33 6,qc 34 .neq 33 0] (qu 34 (qr [qm 35 6,qm 2 35] .ret) .skip))) (qR [qf 36 0 5,ql 37 36,qm 3 37]))))) (qR [qc 38 .add 14 1,qm 14 38]))))))) (qq (qr [qm 40 0,qa 41 222 [.t 40],qm 39 41,qx 42 0 39,qx 43 1 39,qm 7 42,qm 8 43] (qr [qm 44 7,qm 45 8,qo 46 (.mm true (.t 44) (.t 45)),qc 47 .gtr 46 500] (qu 47 (qr [qz 2 2] .ret) .skip))) (qr [qz 2 0] .ret)))))
theorem Gk:fF Tryz.prog 187 Tryz.f187 yC [.t 2] 1 dS:=⟨Tryz.func187,by decide+kernel,by kernel_rfl,by kernel_rfl,by decide+kernel⟩
theorem Gl(P:Prim)(hP:P=cp)(T w:cm)(d:List Part)(x:d.length<=maxLen)(rows:List (List V))(hrows:rows=d.map a7)(r:Int)(hr:cR d=r)
  (v:Int->Int->BS->Int)(i:∀k n t,v k n t=lj ⟨k,n,t⟩)(e:∀{k n t},hJ T 221 [.agg [qI k,qI n,.str t]] (qI (v k n t)))
  (a b:Int)(ha:a=lg d)(hb:b=ig d)(c:d.length<=1600->qw 0 d=0->hJ T 222 [.sl true 3 rows] (.tup [qI a,qI b]))
  (R:S->Prop)(f:∀s s',cd s s'->ia [.t 2] [qI r] s'->R s):gE P T w yC (S0 [.sl true 3 rows] Hp.emp) R (λ_ _=>False) R:=by
 cbv;have hl:P.cF rows=d.length:=by subst hP;simp[cp,hrows]
 refine a6 (λh=>?_) (λh=>?_)
 ·cbv;refine f _ _ (cd.refl _) ?_;cbv;clear f e c;subst hP;subst hr;simp[cp,nc] at*;grind [cR]
 cbv;have j:d.length<=1600:=by clear f e c;subst hP;simp[cp,nc] at*;omega
 refine⟨{y:Int×Int×List Part×List Part//d=y.2.2.1++y.2.2.2/\y.2.1=y.2.2.1.length/\qw 0 d=qw y.1 y.2.2.2},λy=>[(0,.sl true 3 rows),(3,qI y.1.1),(12,.sl true 3 rows),(13,qI (P.cF rows)),(14,qI y.1.2.1)],λ_=>[],λy=>y.1.2.2.2.length,
  ⟨_,cd.refl _,⟨(0,0,[],d),rfl,rfl,rfl⟩,?_,?_⟩,?_⟩
 ·cbv
 ·cbv
 rintro⟨⟨last,k,pre,rest⟩,hd,hk,hc⟩
 dsimp only at hd hk hc
 cbv;have z:P.cF rows=pre.length+rest.length:=by subst hP;simp[cp,hrows,hd]
 refine a6 (λh=>?_) (λh=>?_)
 ·rcases rest with _|⟨⟨kd,n,t⟩,rest⟩
  ·clear e c;(exfalso;clear f;subst hP;simp[cp,nc] at*;first|omega|grind)
  cbv;have g:=xf hrows hd hk P hP;have hpl:pre.length<=1600:=by rw[hd] at j;simp at j;omega
  refine⟨by clear e c;(clear f;subst hP;simp[cp,kA,nc] at* <;>first|omega|grind),_,g,?_⟩
  cbv;intro β;cbv;have hx:=i kd n t
  repeat'(first|(intro β;cbv)|(refine And.intro (by assumption) ?_;cbv)|(refine a6 (λh=>?_) (λh=>?_)<;>try cbv)|(refine Exists.intro _ (And.intro (by assumption) ?_);cbv)|(refine e _ _ ?_;cbv)|(refine c _ _ ?_;cbv)|(refine l _ _ ?_;cbv)|(refine m _ _ ?_;cbv)|(refine o _ _ ?_;cbv)|(refine q _ _ ?_;cbv)|(refine And.intro (by(clear f;subst hP;simp[cp,kA,nc] at* <;>first|omega|grind)) ?_;cbv))
  all_goals first
   |(refine f _ _ (cd.refl _) ?_
     cbv;clear f e c g i;subst hP;subst hr;simp[cp,nc,qw] at*;grind [cR])
   |(refine⟨_,cd.refl _,⟨(_,_,pre++[⟨kd,n,t⟩],rest),?_⟩,⟨rfl,rfl,rfl,rfl,rfl,trivial⟩,trivial,by simp⟩
     clear f g e c i;subst hP;simp[cp,nc,qw] at*
     grind)
 ·have:rest=[]:=by
   cases rest with
   |nil=>rfl
   |cons p rest=>clear e c;(exfalso;clear f;subst hP;simp[cp,nc] at*;first|omega|grind)
  subst this;have u:qw 0 d=0:=hc;have l:=c j u;clear c;cbv
  repeat'(first|(intro β;cbv)|(refine And.intro (by assumption) ?_;cbv)|(refine a6 (λh=>?_) (λh=>?_)<;>try cbv)|(refine Exists.intro _ (And.intro (by assumption) ?_);cbv)|(refine e _ _ ?_;cbv)|(refine c _ _ ?_;cbv)|(refine l _ _ ?_;cbv)|(refine m _ _ ?_;cbv)|(refine o _ _ ?_;cbv)|(refine q _ _ ?_;cbv)|(refine And.intro (by(clear f;subst hP;simp[cp,kA,nc] at* <;>first|omega|grind)) ?_;cbv))
  all_goals
   refine f _ _ (cd.refl _) ?_;cbv;clear f e l;subst hP;subst hr;simp[cp,nc] at*;grind [cR]
theorem lI(d:List Part)(a:d.length<=maxLen):Spec Tryz.prog 187 [.sl true 3 (d.map a7)] Hp.emp (Is (.int .i64 (cR d))):=
 ed hW Gk [.int .i64 (cR d)] (.int _ _) λR b=>Gl cp rfl _ _ d a _ rfl _ rfl (λk n t=>lj ⟨k,n,t⟩) (λ_ _ _=>rfl) (gK (Gg ⟨_,_,_⟩) (λh=>.cons (.same _) .nil) rfl) _ _ rfl rfl
  (λh1 h2=>gK (yB d h1 (r6 0 d h2)) (λh=>.cons (.same _) .nil) rfl) R b
def Gm:AC:=qr [qz 2 0,qz 3 0,qz 4 0] (qq (qr [qm 8 0,qa 9 187 [.t 8],qm 5 9] (qr [qm 10 5,qc 11 .neq 10 0] (qu 11 (qr [qm 12 5,qz 2 0,qz 3 0,qm 4 12] .ret) .skip))) (qr [qm 14 0,qa 15 222 [.t 14],qm 13 15,qx 16 0 13,qx 17 1 13,qm 6 16,qm 7 17] (qr [qm 18 6,qm 19 7,qm 2 18,qm 3 19,qz 4 0] .ret)))
theorem Pq:fF Tryz.prog 188 Tryz.f188 Gm [.t 2,.t 3,.t 4] 1 dS:=⟨Tryz.func188,by decide+kernel,by kernel_rfl,by kernel_rfl,by decide+kernel⟩
def vW(d:List Part):Int×Int×Int:=if cR d=0 then(lg d,ig d,0) else(0,0,cR d)
theorem mR{d:List Part}(h:cR d=0):d.length<=1600/\qw 0 d=0/\lg d<=500/\ig d<=500:=by
 unfold cR at h
 grind
theorem Pr(P:Prim)(hP:P=cp)(T o:cm)(d:List Part)(rows:List (List V))(r1 r2 n:Int)(hr:vW d=(r1,r2,n))
  (c:Int)(hc:cR d=c)(e:hJ T 187 [.sl true 3 rows] (qI c))
  (a b:Int)(ha:a=lg d)(hb:b=ig d)(f:c=0->hJ T 222 [.sl true 3 rows] (.tup [qI a,qI b]))
  (R:S->Prop)(g:∀s s',cd s s'->ia [.t 2,.t 3,.t 4] [qI r1,qI r2,qI n] s'->R s):gE P T o Gm (S0 [.sl true 3 rows] Hp.emp) R (λ_ _=>False) R:=by
 cbv;refine e _ _ ?_;cbv;refine a6 (λh=>?_) (λh=>?_)
 ·repeat'(first|(intro β;cbv)|(refine And.intro (by assumption) ?_;cbv)|(refine a6 (λh=>?_) (λh=>?_)<;>try cbv)|(refine Exists.intro _ (And.intro (by assumption) ?_);cbv)|(refine e _ _ ?_;cbv)|(refine f _ _ ?_;cbv)|(refine i _ _ ?_;cbv)|(refine j _ _ ?_;cbv)|(refine k _ _ ?_;cbv)|(refine l _ _ ?_;cbv)|(refine And.intro (by(clear g;subst hP;simp[cp,kA,nc] at* <;>first|omega|grind)) ?_;cbv))
  all_goals
   refine g _ _ (cd.refl _) ?_;cbv;clear g e f;subst hP;simp[cp,nc] at*;grind [vW]
 ·have m:c=0:=by clear g e f;subst hP;simp[cp,nc] at*;omega
  have i:=f m
  repeat'(first|(intro β;cbv)|(refine And.intro (by assumption) ?_;cbv)|(refine a6 (λh=>?_) (λh=>?_)<;>try cbv)|(refine Exists.intro _ (And.intro (by assumption) ?_);cbv)|(refine e _ _ ?_;cbv)|(refine f _ _ ?_;cbv)|(refine i _ _ ?_;cbv)|(refine j _ _ ?_;cbv)|(refine k _ _ ?_;cbv)|(refine l _ _ ?_;cbv)|(refine And.intro (by(clear g;subst hP;simp[cp,kA,nc] at* <;>first|omega|grind)) ?_;cbv))
  all_goals
   refine g _ _ (cd.refl _) ?_;cbv;clear g e f i;subst hP;simp[cp,nc] at*;grind [vW]
theorem xg(d:List Part)(a:d.length<=maxLen):Spec Tryz.prog 188 [.sl true 3 (d.map a7)] Hp.emp (Is (.tup [.int .i64 (vW d).1,.int .i64 (vW d).2.1,.int .i64 (vW d).2.2])):=
 ed hW Pq [.int .i64 (vW d).1,.int .i64 (vW d).2.1,.int .i64 (vW d).2.2] (.tup _ (by simp;exact⟨.int _ _,.int _ _,.int _ _⟩)) λR b=>Pr cp rfl _ _ d _ _ _ _ rfl _ rfl (gK (lI d a) (λh=>.cons (.same _) .nil) rfl) _ _ rfl rfl
  (λh1=>gK (yB d (mR h1).1 (r6 0 d (mR h1).2.1)) (λh=>.cons (.same _) .nil) rfl) R b
inductive Tok where
 |keep
 |put(b:UInt8)
 |cut
 deriving DecidableEq
def ib(p:Part):List Tok:=if p.kind=2 then p.text.map .put else if p.kind=1 then List.replicate p.n.toNat .keep else List.replicate p.n.toNat .cut
def fP:List Part->List Tok
 |[]=>[]
 |p::l=>ib p++fP l
theorem lJ(a b:List Part):fP (a++b)=fP a++fP b:=by
 induction a with
 |nil=>rfl
 |cons p a ih=>simp[fP,ih]
def iL:List Tok->List Bool
 |[]=>[]
 |.keep::ts=>true::iL ts
 |.cut::ts=>false::iL ts
 |.put _::ts=>iL ts
theorem vX(a b:List Tok):iL (a++b)=iL a++iL b:=by
 induction a with
 |nil=>rfl
 |cons t a ih=>cases t<;>simp[iL,ih]
theorem r7(t:BS):iL (t.map .put)=[]:=by
 induction t with
 |nil=>rfl
 |cons b t ih=>simp[iL,ih]
def Gn(b:UInt8):List BS->List BS
 |[]=>[[b]]
 |p::r=>(b::p)::r
def jl:List Tok->List BS
 |[]=>[[]]
 |.put b::ts=>Gn b (jl ts)
 |.keep::ts=>[]::jl ts
 |.cut::ts=>[]::jl ts
structure Mk where
 out:List Part
 put:BS
 cut:Int
def Mk.flush(m:Mk):List Part:=m.out++(if m.put=[] then[] else[⟨2,0,m.put⟩])++(if 0<m.cut then[⟨3,m.cut,[]⟩] else[])
def iR(o:List Part)(n:Int):List Part:=match o.getLast? with
 |some p=>if p.kind=1 then o.dropLast++[⟨1,p.n+n,p.text⟩] else o++[⟨1,n,[]⟩]
 |none=>[⟨1,n,[]⟩]
def Mk.fU(m:Mk)(n:Int):Mk:=if n=0 then m else⟨iR m.flush n,[],0⟩
def Mk.iM(m:Mk)(s:BS):Mk:=⟨m.out,m.put++s,m.cut⟩
def Mk.hO(m:Mk)(n:Int):Mk:=⟨m.out,m.put,m.cut+n⟩
def Mk.new:Mk:=⟨[],[],0⟩
def Mk.tok(m:Mk):Tok->Mk
 |.keep=>m.fU 1
 |.put b=>m.iM [b]
 |.cut=>m.hO 1
def Mk.run(m:Mk)(ts:List Tok):Mk:=ts.foldl Mk.tok m
theorem Mk.kb(m:Mk)(a b:List Tok):m.run (a++b)=(m.run a).run b:=by simp[Mk.run]
theorem Mk.Lw(m:Mk):m.run []=m:=rfl
theorem Mk.pf(m:Mk)(s:BS):m.run (s.map .put)=m.iM s:=by
 induction s generalizing m with
 |nil=>simp[Mk.run,Mk.iM]
 |cons b s ih=>
  have:=ih (m.tok (.put b));simp only[Mk.run,aI,en] at*;rw[this];simp[Mk.tok,Mk.iM]
theorem Mk.ti(m:Mk)(n:Nat):m.run (List.replicate n .cut)=m.hO n:=by
 induction n generalizing m with
 |zero=>simp[Mk.run,Mk.hO]
 |succ n ih=>
  have:=ih (m.tok .cut);simp only[Mk.run,bf,en] at*;rw[this];simp only[Mk.tok,Mk.hO]
  congr 1
  omega
theorem vu(o:List Part)(n k:Int):iR (iR o n) k=iR o (n+k):=by
 unfold iR;cases h:o.getLast? with
 |none=>simp
 |some p=>
  by_cases hk:p.kind=1
  ·simp[hk,Int.add_assoc]
  ·simp[hk]
theorem Mk.Gp(o:List Part):(Mk.mk o [] 0).flush=o:=by simp[Mk.flush]
theorem Mk.A7(m:Mk)(n k:Int)(hn:0<=n)(hk:0<=k):(m.fU n).fU k=m.fU (n+k):=by
 unfold Mk.fU
 by_cases h1:n=0
 ·subst h1;simp
 ·by_cases h2:k=0
  ·subst h2;simp[h1]
  ·rw[aa h2,aa h1,aa qW,Mk.Gp,vu]
theorem Mk.od(m:Mk)(n:Nat):m.run (List.replicate n .keep)=m.fU n:=by
 induction n generalizing m with
 |zero=>simp[Mk.run,Mk.fU]
 |succ n ih=>
  have:=ih (m.tok .keep);simp only[Mk.run,bf,en] at*;rw[this];simp only[Mk.tok];rw[Mk.A7 _ _ _ qW qW]
  congr 1
  omega
def nI(ts:List Tok):List Part:=(Mk.new.run ts).flush
def gI(d:List Part):V:=.sl false 3 (d.map a7)
def fV(d:List Part):Prop:=d.length<=maxLen/\∀p∈d,p.Ok
structure er where
 who:Int
 seq:Int
 delta:List Part
def bd(r:er):List V:=[.int .i64 r.who,.int .i64 r.seq,gI r.delta]
def er.Ok(r:er):Prop:=kA r.who/\kA r.seq/\fV r.delta
def mw(l:List er):Prop:=l.length<=maxLen/\∀r∈l,r.Ok
structure UY where
 last:Int
 every:Int
 pins:List Int
def UY.Ok(p:UY):Prop:=kA p.last/\kA p.every/\p.pins.length<=maxLen/\∀a∈p.pins,kA a
structure Slot where
 data:BS
 safe:Int
def Slot.Ok(s:Slot):Prop:=s.data.length<=maxLen/\kA s.safe
structure Rq where
 a:Slot
 b:Slot
def Rq.Ok(d:Rq):Prop:=d.a.Ok/\d.b.Ok
structure Frame where
 kind:Int
 body:BS
def kW(f:Frame):List V:=[.int .i64 f.kind,.str f.body]
def Frame.Ok(f:Frame):Prop:=kA f.kind/\f.body.length<=maxLen
structure Client where
 who:Int
 rev:Int
 seq:Int
 text:BS
 TB:Bool
 TC:List Part
 waiting:Bool
 held:List Part
def Client.Ok(c:Client):Prop:=kA c.who/\kA c.rev/\kA c.seq/\c.text.length<=maxLen/\fV c.TC/\fV c.held
structure UZ where
 base:Int
 who:Int
 seq:Int
 delta:List Part
def UZ.Ok(m:UZ):Prop:=kA m.base/\kA m.who/\kA m.seq/\fV m.delta
end Go.Proofs.YtajdadcdcpnedaaGreatDoor.AM
