/-
  Part 3 of what the law ShopPlays reaches: the plain machine, contracts of the functions and plain laws; each lemma says its own condition.
-/
import Derived.Test.YtobngncjflogcaaGreatShopPlays2
import Derived.Scope
import Derived.Deep.LoopGhost
import Derived.Orders
set_option linter.unusedVariables false
set_option linter.unusedSimpArgs false
namespace Go.Proofs.YtobngncjflogcaaGreat.AM
open Go
structure Prim where
 add:Int->Int->Int
 sub:Int->Int->Int
 mul:Int->Int->Int
 div:Int->Int->Int
 mod:Int->Int->Int
 shl:Int->Int->Int
 shr:Int->Int->Int
 Tk:IntKind->Int->Int->Int
 S4:IntKind->Int->Int->Int
 Tl:IntKind->Int->Int->Int
 wrap:IntKind->Int->Int
 mx:Int->Int->Int
 mn:Int->Int->Int
 lt:Int->Int->Bool
 le:Int->Int->Bool
 eq:Int->Int->Bool
 ne:Int->Int->Bool
 Tm:BS->BS->Bool
 i64:Int->Prop
 fC:Int->Int->Prop
 iO:Int->Int->Prop
 bits:IntKind->Int
 nat:Int->Nat
 int:Nat->Int
 c9:BS->Int
 seq:BS->BS->Bool
 h9:BS->BS->BS
 jy:BS->Int->Int->BS
 sat:BS->Int->Int
 dv:List (List V)->Int
 jn:List (List V)->Int->Int->List (List V)
 kB:List (List V)->List (List V)->List (List V)
 Tn:List (List V)->Nat->List (List V)
 To:List (List V)->Nat->List V->List (List V)
 Qf:Int->List V->List (List V)
 fQ:List (List V)->Nat
 hU:Nat->Nat->Nat
 cond:Bool->V->V->V
 and:Bool->Bool->Bool
 beq:Bool->Bool->Bool
 bytes:Int->Int->Prop
 nL:List (List V)->Nat->Prop
 row:List (List V)->Nat->List V->Prop
 yX:List (List V)->BS->Prop
def dn:Prim where
 add a b:=a+b
 sub a b:=a-b
 mul a b:=a*b
 div a b:=a/b
 mod a b:=a%b
 shl a b:=a*2^b.toNat
 shr a b:=a/2^b.toNat
 Tk k a b:=k.wrap (BitVec.ofInt k.bits a&&&BitVec.ofInt k.bits b).toNat
 S4 k a b:=k.wrap (BitVec.ofInt k.bits a|||BitVec.ofInt k.bits b).toNat
 Tl k a b:=k.wrap (BitVec.ofInt k.bits a^^^BitVec.ofInt k.bits b).toNat
 wrap k a:=k.wrap a
 mx a b:=max a b
 mn a b:=min a b
 lt a b:=decide (a<b)
 le a b:=decide (a<=b)
 eq a b:=decide (a=b)
 ne a b:=decide (a≠b)
 Tm a b:=decide (a≠b)
 i64 a:=jx a
 fC a b:=a<=b
 iO a b:=a<b
 bits k:=k.bits
 nat a:=a.toNat
 int a:=a
 c9 l:=l.length
 seq a b:=decide (a=b)
 h9 a b:=a++b
 jy l a b:=(l.take b.toNat).drop a.toNat
 sat l i:=(l.getD i.toNat 0).toNat
 dv l:=l.length
 jn l a b:=(l.take b.toNat).drop a.toNat
 kB a b:=a++b
 Tn l n:=l.take n
 To l i r:=l.set i r
 Qf n r:=List.replicate n.toNat r
 fQ l:=l.length
 hU a b:=a+b
 cond t a b:=if t then a else b
 and a b:=a&&b
 beq a b:=a==b
 bytes n b:=n*b<=140737488355328
 nL l n:=l.length=n
 row l i r:=l[i]? =some r
 yX rows l:=rows=l.map λb=>[V.int .u8 b.toNat]
def rk(p:Prim)(k:IntKind)(n:Int)(K:V->Prop):Prop:=
 match k with
 |.i64=>p.i64 n/\K (.int .i64 n)
 |k=>K (.int k (p.wrap k n))
def BE(p:Prim)(op:BinOp)(x y:V)(K:V->Prop):Prop:=
 match op,x,y with
 |.add,.int k a,.int k' b=>k=k'/\rk p k (p.add a b) K
 |.sub,.int k a,.int k' b=>k=k'/\rk p k (p.sub a b) K
 |.mul,.int k a,.int k' b=>k=k'/\rk p k (p.mul a b) K
 |.quo,.int k a,.int k' b=>k=k'/\p.fC 0 a/\p.iO 0 b/\rk p k (p.div a b) K
 |.rem,.int k a,.int k' b=>k=k'/\p.fC 0 a/\p.iO 0 b/\K (.int k (p.mod a b))
 |.shl,.int k a,.int _ b=>p.fC 0 b/\p.iO b 64/\rk p k (p.shl a b) K
 |.shr,.int k a,.int _ b=>p.fC 0 b/\p.iO b (p.bits k)/\K (.int k (p.shr a b))
 |.and,.int k a,.int k' b=>k=k'/\K (.int k (p.Tk k a b))
 |.or,.int k a,.int k' b=>k=k'/\K (.int k (p.S4 k a b))
 |.xor,.int k a,.int k' b=>k=k'/\K (.int k (p.Tl k a b))
 |.lss,.int k a,.int k' b=>k=k'/\K (.bool (p.lt a b))
 |.leq,.int k a,.int k' b=>k=k'/\K (.bool (p.le a b))
 |.gtr,.int k a,.int k' b=>k=k'/\K (.bool (p.lt b a))
 |.geq,.int k a,.int k' b=>k=k'/\K (.bool (p.le b a))
 |.eql,.int k a,.int k' b=>k=k'/\K (.bool (p.eq a b))
 |.neq,.int k a,.int k' b=>k=k'/\K (.bool (p.ne a b))
 |.add,.str a,.str b=>p.i64 (p.add (p.c9 a) (p.c9 b))/\K (.str (p.h9 a b))
 |.eql,.str a,.str b=>K (.bool (p.seq a b))
 |.neq,.str a,.str b=>K (.bool (p.Tm a b))
 |_,_,_=>False
def m0(p:Prim)(h:Hp)(sz:Nat)(v:V)(K:List (List V)->Prop):Prop:=
 match v with
 |.sl _ sz' rows=>sz'=sz/\K rows
 |.nilsl=>K []
 |.own k b sz' n=>match h k with
  |some o=>o.b=b/\o.sz=sz/\sz'=sz/\p.nL o.rows n/\K o.rows
  |none=>False
 |_=>False
def Qg(p:Prim)(str:Bool)(x:V)(K:V->Prop):Prop:=
 match str,x with
 |true,.str l=>K (.int .i64 (p.c9 l))
 |false,.sl _ _ rows=>K (.int .i64 (p.dv rows))
 |false,.nilsl=>K (.int .i64 0)
 |false,.own _ _ _ n=>K (.int .i64 (p.int n))
 |false,.win _ _ _ lo hi=>K (.int .i64 (p.sub hi lo))
 |_,_=>False
def G8(p:Prim)(neg:Bool)(x:V)(K:V->Prop):Prop:=match x with
 |.nilsl=>K (.bool (if neg then false else true))
 |.sl _ _ rows=>K (.bool (if neg then true else false))/\(p.dv rows=0->K (.bool (if neg then false else true)))
 |_=>False
def Qh(p:Prim)(hi:Option V)(n:Int)(K:Int->Prop):Prop:=
 match hi with
 |some (.int _ n)=>K n
 |none=>K n
 |_=>False
def arr:Nat:=1000000
def oQ(p:Prim)(h:Hp)(k:Nat)(b:Option Nat)(sz i:Nat)(K:Ob->List V->Prop):Prop:=
 match h k with
 |some o=>o.b=b/\o.sz=sz/\(match decide (k<1000000) with
  |true=>match o.rows,i with
   |[r],0=>K o r
   |_,_=>False
  |false=>∃r,p.row o.rows i r/\K o r)
 |none=>False
def Mq(p:Prim)(k:Nat)(rows:List (List V))(i:Nat)(r:List V):List (List V):=match decide (k<1000000) with
 |true=>[r]
 |false=>p.To rows i r
def po(p:Prim)(h:Hp)(x:V)(K:V->Prop):Prop:=
 match x with
 |.ptr j b sz i off=>oQ p h j b sz i λ_ r=>xK r off K
 |.rp _ cs=>xK cs 0 K
 |_=>False
def pq(p:Prim)(h:Hp)(n:Nat)(x:V)(K:V->Prop):Prop:=
 match x with
 |.ptr j b sz i off=>oQ p h j b sz i λ_ r=>off+n<=r.length/\K (.agg ((r.drop off).take n))
 |.rp _ cs=>n<=cs.length/\K (.agg (cs.take n))
 |_=>False
def rm(p:Prim)(h:Hp)(n:Nat)(x v:V)(K:Hp->Prop):Prop:=
 match x with
 |.ptr j b sz i off=>oQ p h j b sz i λo r=>off+n<=r.length/\v.fits n/\K (h.put j ⟨o.b,o.ty,o.sz,Mq p j o.rows i (kf r off v.cells)⟩)
 |_=>False
def ln(p:Prim)(h:Hp)(k ty sz bytes:Nat)(x y:V)(K:V->Hp->Prop):Prop:=
 m0 p h sz y λnews=>match x with
  |.nilsl=>h k=none/\p.bytes (p.dv news) bytes/\∀β:Option Nat,K (.own k β sz (p.fQ news)) (h.put k ⟨β,ty,sz,news⟩)
  |.own j b sz' n=>match h j with
   |some o=>o.b=b/\o.sz=sz/\sz'=sz/\o.ty=ty/\p.nL o.rows n/\p.bytes (p.add (p.int n) (p.dv news)) bytes/\∀β:Option Nat,K (.own j β sz (p.hU n (p.fQ news))) (h.put j ⟨β,ty,sz,p.kB o.rows news⟩)
   |none=>False
  |_=>False
def BF(p:Prim)(t:Nat)(x y:V)(K:Bool->Prop):Prop:=
 match t,x,y with
 |0,.bool a,.bool b=>K (p.beq a b)
 |1,.int k a,.int k' b=>k=k'/\K (p.eq a b)
 |2,.str a,.str b=>K (p.seq a b)
 |_,_,_=>False
def pw(p:Prim):List Nat->List V->List V->(Bool->Prop)->Prop
 |[],[],[],K=>K true
 |[t],[a],[b],K=>BF p t a b K
 |t::ts,a::l,b::m,K=>BF p t a b λx=>pw p ts l m λy=>K (p.and x y)
 |_,_,_,_=>False
def G9(p:Prim)(neg:Bool)(ts:List Nat)(x y:V)(K:V->Prop):Prop:=
 match x,y with
 |.agg cs,.agg a=>pw p ts cs a λb=>match neg with
  |true=>br b (λ_=>K (.bool false)) (λ_=>K (.bool true))
  |false=>K (.bool b)
 |_,_=>False
theorem rQ{t:Nat}{x y:V}{K:Bool->Prop}(h:BF dn t x y K):∃b,nZ t x y=some b/\K b:=by
 unfold BF at h
 split at h
 ·exact⟨_,rfl,h⟩
 ·obtain⟨rfl,h⟩:=h;exact⟨_,by simp[nZ];rfl,h⟩
 ·exact⟨_,rfl,h⟩
 ·exact h.elim
theorem yY:∀{ts:List Nat}{cs c:List V}{K:Bool->Prop},pw dn ts cs c K->∃b,ic ts cs c=some b/\K b
 |[],[],[],K,h=>⟨true,rfl,h⟩
 |[t],[a],[b],K,h=>by
  simp only[pw] at h;obtain⟨x,h1,h2⟩:=rQ h;exact⟨x,by simp[ic,h1],h2⟩
 |t::t2::ts,a::l,b::m,K,h=>by
  simp only[pw] at h;obtain⟨x,h1,h2⟩:=rQ h;obtain⟨y,h3,h4⟩:=yY h2;exact⟨x&&y,by simp only[ic,h1];rw[h3],h4⟩
 |[t],a::a2::l,b::m,K,h=>by
  simp only[pw] at h;obtain⟨x,h1,h2⟩:=rQ h;exact h2.elim
 |[t],[a],b::b2::m,K,h=>by
  simp only[pw] at h;obtain⟨x,h1,h2⟩:=rQ h;exact h2.elim
 |[],_::_,_,_,h=>by simp[pw] at h
 |[],[],_::_,_,h=>by simp[pw] at h
 |_::_,[],_,_,h=>by simp[pw] at h
 |_::_,_::_,[],_,h=>by simp[pw] at h
theorem Ha{neg:Bool}{ts:List Nat}{x y:V}{K:V->Prop}(h:G9 dn neg ts x y K):Bq neg ts x y K:=by
 unfold G9 at h;unfold Bq
 split at h
 ·obtain⟨b,h1,h2⟩:=yY h;simp only[h1];cases neg
  ·exact h2
  ·cases b<;>exact h2
 ·exact h.elim
def nM(n:Nat)(v:V):Bool:=v.cells.length==n&&v.cells.all V.one
def fV(p:Prim)(C:c8)(op:rh)(ev:iI->V)(h:Hp)(k:Nat)(K:V->Hp->Prop):Prop:=
 match op with
 |.mov x=>K (ev x) h
 |.pick c a b=>match ev c with
  |.bool true=>K (ev a) h
  |.bool false=>K (ev b) h
  |_=>False
 |.alloc ty z=>h k=none/\z.all (λu=>u.oneCell')=true/\∀β:Nat,K (.ptr k (some β) z.length 0 0) (h.put k ⟨some β,ty,z.length,[z.map yM]⟩)
 |.box ty n x=>h k=none/\(ev x).fits n/\∀β:Nat,K (.ptr k (some β) n 0 0) (h.put k ⟨some β,ty,n,[(ev x).cells]⟩)
 |.build z parts=>(parts.all λq=>nM q.2.1 (ev q.2.2))=true/\K (.agg (wF (z.map yM) (parts.map λq=>(q.1,(ev q.2.2).cells)))) h
 |.bslice ty sz parts=>h (arr+k)=none/\(parts.all λq=>nM sz (ev q))=true/\∀β:Nat,K (.own (arr+k) (some β) sz parts.length) (h.put (arr+k) ⟨some β,ty,sz,parts.map λq=>(ev q).cells⟩)
 |.load1 x=>po p h (ev x) λv=>K v h
 |.loadn n x=>pq p h n (ev x) λv=>K v h
 |.store n x v=>rm p h n (ev x) (ev v) λh=>K .iC h
 |.nilchk x=>match ev x with
  |.ptr .. |.rp .. =>K (ev x) h
  |_=>False
 |.bin op x y=>BE p op (ev x) (ev y) λv=>K v h
 |.eqb neg x y=>Bp neg (ev x) (ev y) λv=>K v h
 |.eqp neg x y=>yN neg (ev x) (ev y) λv=>K v h
 |.eqn neg x=>G8 p neg (ev x) λv=>K v h
 |.eqs neg ts x y=>G9 p neg ts (ev x) (ev y) λv=>K v h
 |.not x=>match ev x with
  |.bool b=>br b (λ_=>K (.bool false) h) (λ_=>K (.bool true) h)
  |_=>False
 |.conv kd x=>match ev x with
  |.int _ n=>K (.int kd (p.wrap kd n)) h
  |_=>False
 |.mkslice ty sz bytes z l c=>match ev l,ev c with
  |.int _ n,.int _ m=>h (arr+k)=none/\p.fC 0 n/\m=n/\z.length=sz/\z.all (λu=>u.oneCell')=true/\p.bytes n bytes/\p.fC n 140737488355328/\∀β:Nat,K (.own (arr+k) (some β) sz (p.nat n)) (h.put (arr+k) ⟨some β,ty,sz,p.Qf n (z.map yM)⟩)
  |_,_=>False
 |.slstr x lo hi=>match ev x with
  |.str l=>GB (lo.map ev) λa=>Qh p (hi.map ev) (p.c9 l) λb=>p.fC 0 a/\p.fC a b/\p.fC b (p.c9 l)/\K (.str (p.jy l a b)) h
  |_=>False
 |.slsl sz x lo hi=>match ev x with
  |.sl t sz' rows=>sz'=sz/\GB (lo.map ev) λa=>Qh p (hi.map ev) (p.dv rows) λb=>p.fC 0 a/\p.fC a b/\p.fC b (p.dv rows)/\K (.sl t sz (p.jn rows a b)) h
  |.own j bk sz' n=>sz'=sz/\GB (lo.map ev) λa=>Qh p (hi.map ev) (p.int n) λb=>p.fC 0 a/\p.fC a b/\p.fC b (p.int n)/\K (.win j bk sz a b) h
  |_=>False
 |.faddr off x=>match ev x with
  |.ptr j b sz i o=>K (.ptr j b sz i (o+off)) h
  |.rp t cs=>K (.rp t (cs.drop off)) h
  |_=>False
 |.fld1 off x=>match ev x with
  |.agg cs=>xK cs off λv=>K v h
  |_=>False
 |.fldn off n x=>match ev x with
  |.agg cs=>off+n<=cs.length/\K (.agg ((cs.drop off).take n)) h
  |_=>False
 |.iaddr sz x i=>match ev x,ev i with
  |.sl t sz' rows,.int _ i=>sz'=sz/\p.fC 0 i/\∃r,p.row rows (p.nat i) r/\K (.rp t r) h
  |.own j b sz' n,.int _ i=>sz'=sz/\p.fC 0 i/\p.iO i (p.int n)/\K (.ptr j b sz (p.nat i) 0) h
  |.win j b sz' lo hi,.int _ i=>sz'=sz/\p.fC 0 i/\p.iO i (p.sub hi lo)/\K (.ptr j b sz (p.nat (p.add lo i)) 0) h
  |_,_=>False
 |.iarr len sz x i=>match ev x,ev i with
  |.ptr j b sz' r off,.int _ i=>p.fC 0 i/\p.iO i len/\∃n:Nat,p.nat i=n/\K (.ptr j b sz' r (off+n*sz)) h
  |.rp t cs,.int _ i=>p.fC 0 i/\p.iO i len/\∃n:Nat,p.nat i=n/\K (.rp t (cs.drop (n*sz))) h
  |_,_=>False
 |.ixs x i=>match ev x,ev i with
  |.str l,.int _ i=>p.fC 0 i/\p.iO i (p.c9 l)/\K (.int .u8 (p.sat l i)) h
  |_,_=>False
 |.ext i x=>match ev x with
  |.tup vs=>i<vs.length/\K (vs.getD i .iC) h
  |_=>False
 |.len str x=>Qg p str (ev x) λv=>K v h
 |.mm mx x y=>match mx,ev x,ev y with
  |true,.int k a,.int k' b=>k=k'/\K (.int k (p.mx a b)) h
  |false,.int k a,.int k' b=>k=k'/\K (.int k (p.mn a b)) h
  |_,_,_=>False
 |.append ty sz bytes x y=>ln p h (arr+k) ty sz bytes (ev x) (ev y) K
 |.call f args=>C f (args.map ev) h K
 |.callv x args=>match ev x with
  |.fn f caps=>C f (args.map ev++caps) h K
  |_=>False
 |.mkfn f caps=>K (.fn f (caps.map ev)) h
 |.convbs x=>m0 p h 1 (ev x) λrows=>∃l,p.yX rows l/\K (.str l) h
 |.dead=>False
 |.ixa g len sz x i=>match ev x,ev i with
  |.agg cs,.int _ i=>p.fC 0 i/\p.iO i len/\Nat.ble (len*sz) cs.length=true/\Nat.ble 1 sz=true/\∃n:Nat,p.nat i=n/\(match g with
   |true=>K (.agg ((cs.drop (n*sz)).take sz)) h
   |false=>K (cs.getD (n*sz) .iC) h)
  |_,_=>False
def keyOf(op:rh)(k:Nat):Nat:=match op with
 |.bslice .. |.mkslice .. |.append .. =>arr+k
 |_=>k
theorem BG{k:IntKind}{n:Int}{K:V->Prop}:rk dn k n K=arith k n K:=by cases k<;>rfl
theorem Hb{op:BinOp}{x y:V}{K:V->Prop}(h:BE dn op x y K):ud op x y K:=by
 cases x<;>cases y<;>try(cases op<;>exact h.elim)
 case int.int k a k' b=>
  cases op<;>simp only[BE,ud,BG] at h⊢<;>exact h
 case str.str a b=>
  cases op<;>simp only[BE,ud] at h⊢<;>exact h
theorem xQ{rows:List (List V)}{i:Nat}{r:List V}(h:rows[i]? =some r):i<rows.length/\rows.getD i []=r:=by
 obtain⟨h1,h2⟩:=aj.1 h;exact⟨h1,by rw[ar,h];rfl⟩
theorem yZ{h:Hp}{k sz i:Nat}{b:Option Nat}{K:Ob->List V->Prop}(a:oQ dn h k b sz i K):ue h k b sz i K:=by
 unfold oQ at a;unfold ue;cases hk:h k with
 |none=>rw[hk] at a;exact a.elim
 |some o=>
  rw[hk] at a;obtain⟨h1,h2,h3⟩:=a;refine⟨h1,h2,?_⟩
  split at h3
  ·split at h3
   ·rename_i r heq;rw[heq];exact⟨by simp,by simpa using h3⟩
   ·exact h3.elim
  ·obtain⟨r,hr,h4⟩:=h3;obtain⟨g1,g2⟩:=xQ hr;exact⟨g1,by rw[g2];exact h4⟩
theorem BH{h:Hp}{x:V}{K:V->Prop}(a:po dn h x K):pj h x K:=by
 cases x<;>first|exact a|exact yZ a
theorem BI{h:Hp}{n:Nat}{x:V}{K:V->Prop}(a:pq dn h n x K):pk h n x K:=by
 cases x<;>first|exact a|exact yZ a
theorem BJ{h:Hp}{n:Nat}{x v:V}{K:Hp->Prop}(a:rm dn h n x v K):uO h n x v K:=by
 cases x<;>try exact a
 rename_i j b sz i off;unfold rm at a;unfold uO;simp only[] at a⊢;unfold oQ at a;unfold ue;cases hk:h j with
 |none=>rw[hk] at a;exact a.elim
 |some o=>
  rw[hk] at a;obtain⟨h1,h2,h3⟩:=a;refine⟨h1,h2,?_⟩
  split at h3
  ·rename_i hb
   split at h3
   ·rename_i r heq;obtain⟨a1,a2,a3⟩:=h3;rw[heq];refine⟨by simp,by simpa using a1,a2,?_⟩;simp only[Mq,hb] at a3;simpa[heq] using a3
   ·exact h3.elim
  ·rename_i hb;obtain⟨r,hr,a1,a2,a3⟩:=h3;obtain⟨g1,g2⟩:=xQ hr;refine⟨g1,by rw[g2];exact a1,a2,?_⟩;rw[g2];simp only[Mq,hb] at a3;exact a3
theorem wN{h:Hp}{sz:Nat}{v:V}{K:List (List V)->Prop}(a:m0 dn h sz v K):∃rows,rowsOf h sz v=some rows/\K rows:=by
 cases v<;>try exact a.elim
 case sl t sz' rows=>exact⟨rows,by simp[rowsOf,a.1],a.2⟩
 case nilsl=>exact⟨[],rfl,a⟩
 case own k b sz' n=>
  unfold m0 at a;simp only[] at a;cases hk:h k with
  |none=>rw[hk] at a;exact a.elim
  |some o=>
   rw[hk] at a;obtain⟨h1,h2,h3,h4,h5⟩:=a;have h4:o.rows.length=n:=h4;refine⟨o.rows,?_,h5⟩;simp only[rowsOf,hk];rw[ae ⟨h1,h2,h3,qW⟩,<-h4,aM]
theorem y8{h:Hp}{k ty sz bytes:Nat}{x y:V}{K:V->Hp->Prop}(a:ln dn h k ty sz bytes x y K):rM h k ty sz bytes x y K:=by
 unfold ln at a;obtain⟨rows,h1,h2⟩:=wN a;unfold rM;rw[h1];exact h2
theorem Hc{sz:Nat}{ev:iI->V}{l:List iI}(h:(l.all λq=>nM sz (ev q))=true):∀p∈l,(ev p).fits sz:=by
 intro p hp;have:=aQ.1 h p hp;simp only[nM,aW,dy] at this;exact this
theorem Hd{T:c8}{op:rh}{ev:iI->V}{h:Hp}{k:Nat}{K:V->Hp->Prop}(d:fV dn T op ev h k K):ri T op ev h (keyOf op k) K:=by
 cases op
 case load1=>exact BH d
 case loadn n x=>exact BI (n:=n) (x:=ev x) (K:=λv=>K v h) d
 case store=>exact BJ d
 case bin=>exact Hb d
 case eqs neg ts x y=>exact Ha (K:=λv=>K v h) d
 case append=>exact y8 d
 case convbs x=>
  obtain⟨rows,h1,l,h2,h3⟩:=wN (show m0 dn h 1 (ev x) λrows=>∃l,dn.yX rows l/\K (.str l) h from d);exact⟨l,by rw[h1];exact aB some h2,h3⟩
 case not x=>
  simp only[fV] at d;simp only[ri]
  split at d
  ·rename_i b heq;rw[heq];cases b<;>exact d
  ·exact d.elim
 case pick c a b=>
  simp only[fV] at d;simp only[ri]
  split at d
  ·rename_i heq;rw[heq];exact d
  ·rename_i heq;rw[heq];exact d
  ·exact d.elim
 case build z parts=>
  refine⟨λq hq=>?_,d.2⟩;have:=aQ.1 d.1 q hq;simp only[nM,aW,dy] at this;exact this
 case bslice ty sz parts=>exact⟨d.1,Hc d.2.1,d.2.2⟩
 case slsl sz x lo hi=>
  simp only[fV] at d;simp only[ri]
  split at d
  ·rename_i heq;rw[heq];obtain⟨h1,h2⟩:=d;refine⟨h1,?_⟩;unfold GB Qh at*;unfold Pm;exact h2
  ·rename_i heq;rw[heq];obtain⟨h1,h2⟩:=d;refine⟨h1,?_⟩;unfold GB Qh at*;unfold Pm;exact h2
  ·exact d.elim
 case slstr x lo hi=>
  simp only[fV] at d;simp only[ri]
  split at d
  ·rename_i heq;rw[heq];unfold GB Qh at*;unfold Pm;exact d
  ·exact d.elim
 case iaddr sz x i=>
  simp only[fV] at d;simp only[ri]
  split at d
  ·rename_i t sz' rows ki ii e1 e;rw[e1,e];obtain⟨h1,h2,r,h3,h4⟩:=d;obtain⟨g1,g2⟩:=xQ h3;have j:0<=ii:=h2;have m:ii.toNat<rows.length:=g1;have f:rows.getD ii.toNat []=r:=g2;exact⟨h1,h2,qW,by rw[f];exact h4⟩
  ·rename_i e1 e;rw[e1,e];exact d
  ·rename_i e1 e;rw[e1,e];exact d
  ·exact d.elim
 case iarr len sz x i=>
  simp only[fV] at d;simp only[ri]
  split at d
  ·rename_i e1 e;rw[e1,e];obtain⟨h1,h2,n,rfl,h3⟩:=d;exact⟨h1,h2,h3⟩
  ·rename_i e1 e;rw[e1,e];obtain⟨h1,h2,n,rfl,h3⟩:=d;exact⟨h1,h2,h3⟩
  ·exact d.elim
 case ixa g len sz x i=>
  simp only[fV] at d;simp only[ri]
  split at d
  ·rename_i e1 e;rw[e1,e];obtain⟨h1,h2,h3,h4,n,rfl,h5⟩:=d;refine⟨h1,h2,by simpa using h3,Nat.le_of_ble_eq_true h4,?_⟩;cases g<;>exact h5
  ·exact d.elim
 case len str x=>
  simp only[fV,ri] at*;unfold Qg at d;unfold EX;exact d
 case eqn neg x=>
  simp only[fV,ri] at*;unfold G8 at d;unfold Qc;exact d
 case mm mx x y=>
  simp only[fV] at d;simp only[ri]
  split at d
  ·rename_i e1 e;rw[e1,e];exact d
  ·rename_i e1 e;rw[e1,e];exact d
  ·exact d.elim
 all_goals exact d
open Go.BigFrame
def Ve(n:Nat)(d:Option Tmp):Bool:=match d with
 |some d=>decide (d<n)
 |none=>true
def Tp(P:Program)(n:Nat)(ops:Array Oper)(o:Oper):Option AO:=
 match Mc P o.op with
 |some ao=>
  if Ve n o.dst then
   match o.guard with
   |none=>some ⟨o.dst,none,ao⟩
   |some (j,want)=>match(ops[j]?).bind (·.dst) with
    |some t=>if t<n then some ⟨o.dst,some (t,want),ao⟩ else none
    |none=>none
  else none
 |none=>none
def qN(P:Program)(n:Nat)(ops:Array Oper):List Oper->Option (List AO)
 |[]=>some []
 |o::l=>match Tp P n ops o,qN P n ops l with
  |some a,some m=>some (a::m)
  |_,_=>none
def jh(p:Prim)(C:c8)(o:AO)(s:S)(K:S->Prop):Prop:=fV p C o.op (iI.ev s) s.h (o.d.getD 0) λv h=>K ((s.jm h).put o.d v)
def eH(p:Prim)(C:c8)(o:AO)(s:S)(K:S->Prop):Prop:=match o.g with
 |none=>jh p C o s K
 |some (g,true)=>match s.t g with
  |.bool b=>br b (λ_=>jh p C o (s.set g (.bool true)) K) (λ_=>K ((s.set g (.bool false)).put o.d .oN))
  |.oN=>K (s.put o.d .oN)
  |_=>False
 |some (g,false)=>match s.t g with
  |.bool b=>br b (λ_=>K ((s.set g (.bool true)).put o.d .oN)) (λ_=>jh p C o (s.set g (.bool false)) K)
  |.oN=>K (s.put o.d .oN)
  |_=>False
def sT(p:Prim)(C:c8):List AO->S->(S->Prop)->Prop
 |[],s,K=>K s
 |o::l,s,K=>eH p C o s λs=>sT p C l s K
def c6(s s':S):Prop:=∀C n a w,Ctx.Ok C->Sat C n s a w->Sat C n s' a w
def look:List (Nat×V)->Nat->V
 |[],_=>.iC
 |(k,v)::l,i=>if i=k then v else look l i
def cp:List (Nat×Ob)->Nat->Option Ob
 |[],_=>none
 |(k,o)::l,i=>if i=k then some o else cp l i
def St(l:List (Nat×V))(h:List (Nat×Ob)):S:=⟨look l,cp h⟩
def agree:List (Nat×V)->S->Prop
 |[],_=>True
 |(k,v)::l,s=>s.t k=v/\agree l s
def fG:List (Nat×Ob)->S->Prop
 |[],_=>True
 |(k,o)::l,s=>s.h k=some o/\fG l s
theorem c6.refl(s:S):c6 s s:=λ_ _ _ _ _ h=>h
theorem c6.trans{a b c:S}(h:c6 a b)(h':c6 b c):c6 a c:=λC n x w d hs=>h' C n x w d (h C n x w d hs)
theorem gN.sub{C:Ctx}{F:Nat->Prop}{h h':Hp}{w:World}(hs:gN C F h w)(a:∀k o,h' k=some o->h k=some o):gN C F h' w:=
 ⟨λk o hk=>hs.ob k o (a k o hk),λk k' o o' b hk c=>hs.inj k k' o o' b (a k o hk) (a k' o' c),λk o b hk=>hs.live k o b (a k o hk),hs.gH,hs.new,hs.lt,hs.ev⟩
theorem c6.of{s s':S}(ht:∀i,s'.t i=s.t i\/s'.t i=.iC)(b:∀k o,s'.h k=some o->s.h k=some o):c6 s s':=by
 intro C n a w c hs;obtain⟨F,h1,h2⟩:=hs.ex;refine⟨⟨F,h1.sub b,λi=>?_⟩,hs.df,hs.sz⟩
 rcases ht i with h|h
 ·rw[h];exact h2 i
 ·rw[h];exact .iC _
theorem BK{l:List (Nat×V)}{s:S}(h:agree l s)(i:Nat):look l i=s.t i\/look l i=.iC:=by
 induction l with
 |nil=>exact .inr rfl
 |cons p l ih=>
  obtain⟨k,v⟩:=p;obtain⟨h1,h2⟩:=h;simp only[look]
  by_cases hi:i=k
  ·rw[ae hi,hi];exact .inl h1.symm
  ·rw[aa hi];exact ih h2
theorem tG{l:List (Nat×Ob)}{s:S}(h:fG l s)(k:Nat)(o:Ob)(hk:cp l k=some o):s.h k=some o:=by
 induction l with
 |nil=>cases hk
 |cons p l ih=>
  obtain⟨k',o'⟩:=p;obtain⟨h1,h2⟩:=h;simp only[cp] at hk
  by_cases hi:k=k'
  ·rw[ae hi] at hk;cases hk;rw[hi];exact h1
  ·rw[aa hi] at hk;exact ih h2 hk
theorem c6.st{s:S}{l:List (Nat×V)}{h:List (Nat×Ob)}(h1:agree l s)(h2:fG h s):c6 s (St l h):=c6.of (BK h1) (tG h2)
def Next{Y:Type}(L:Y->List (Nat×V))(H:Y->List (Nat×Ob))(b:Y->Nat)(y:Y)(s:S):Prop:=∃s1,c6 s s1/\∃a,agree (L a) s1/\fG (H a) s1/\b a<b y
inductive BL(A B:Prop):Prop
 |mk (a:A) (b:B):BL A B
def fq:List Nat->Nat->Bool
 |[],_=>false
 |x::l,i=>Nat.beq x i||fq l i
def mh(done:List Nat):Nat->List (AO×List Nat)->List (Nat×AO)
 |_,[]=>[]
 |i,(o,ps)::l=>match !(fq done i)&&ps.all (fq done) with
  |true=>(i,o)::mh done (i+1) l
  |false=>mh done (i+1) l
def BM:List (Nat×AO)->(Nat->AO->Prop)->Prop
 |[],_=>True
 |[(i,o)],f=>f i o
 |(i,o)::x::l,f=>BL (f i o) (BM (x::l) f)
def lL(p:Prim)(T:c8)(ops:List (AO×List Nat)):Nat->List Nat->S->(S->Prop)->Prop
 |0,_,s,K=>K s
 |n+1,done,s,K=>BM (mh done 0 ops) λi o=>eH p T o s λs=>lL p T ops n (i::done) s K
def Qi(c:iI)(s:S)(b:Bool):S:=match c with
 |.t i=>s.set i (.bool b)
 |_=>s
def gj(p:Prim)(T:c8)(a:c8):AC->S->(S->Prop)->(Nat->S->Prop)->(S->Prop)->Prop
 |.skip,s,N,_,_=>N s
 |.region false ops,s,N,_,_=>sT p T ops s N
 |.region true ops,s,N,_,_=>sT p a ops s N
 |.seq x y,s,N,X,R=>gj p T a x s (λs=>gj p T a y s N X R) X R
 |.cond c x y,s,N,X,R=>match c.ev s with
  |.bool t=>br t (λ_=>gj p T a x (Qi c s true) N X R) (λ_=>gj p T a y (Qi c s false) N X R)
  |_=>False
 |.block id x,s,N,X,R=>gj p T a x s N (λj s=>if j=id then N s else X j s) R
 |.loop x,s,_,X,R=>∃(Y:Type)(L:Y->List (Nat×V))(H:Y->List (Nat×Ob))(b:Y->Nat),(∃s1,c6 s s1/\∃y,agree (L y) s1/\fG (H y) s1)/\∀y,gj p T a x (St (L y) (H y)) (Next L H b y) X R
 |.exit id,s,_,X,_=>X id s
 |.ret,s,_,_,R=>R s
 |.jN ops,s,N,_,_=>lL p T ops ops.length [] s N
section
variable {P:Program} {C:Ctx} {n:Nat} {w:World} {a:Act} {s:S}
theorem we{a:Act}{d:Nat}{u:Value}(h:d<a.tmps.size):(a.put (some d) u).tmps.getD d undef=u:=by
 simp[Act.put,h]
theorem va{a:Act}{d i:Nat}{u:Value}(h:i≠d):(a.put (some d) u).tmps.getD i undef=a.tmps.getD i undef:=by
 simp[Act.put,bI,Ne.symm h]
theorem Sat.put(hs:Sat C n s a w){w':World}{F':Nat->Prop}{h':Hp}{v:V}{u:Value}{d:Option Tmp}(hd:Ve n d=true)(c:gN C F' h' w')(hv:Rel F' C.B w' v u)
  (hk:∀i:Nat,Rel F' C.B w' (s.t i) (a.tmps.getD i undef)):Sat C n ((s.jm h').put d v) (a.put d u) w':=by
 cases d with
 |none=>exact⟨⟨F',c,hk⟩,hs.df,hs.sz⟩
 |some d=>
  have b:d<a.tmps.size:=by rw[hs.sz];simpa[Ve] using hd
  refine⟨⟨F',c,λi=>?_⟩,hs.df,by simp[Act.put,hs.sz]⟩;simp only[S.put,S.set,S.jm,gy]
  by_cases hi:i=d
  ·subst hi;rw[ae rfl,we b];exact hv
  ·rw[aa hi,va hi];exact hk i
theorem Sat.Qj(hs:Sat C n s a w){g:Nat}{b:Bool}(hg:s.t g=.bool b):Sat C n (s.set g (.bool b)) a w:=by
 obtain⟨F,c,hr⟩:=hs.ex;refine⟨⟨F,c,λi=>?_⟩,hs.df,hs.sz⟩;simp only[S.set,gy]
 by_cases hi:i=g
 ·subst hi;rw[ae rfl,<-hg];exact hr i
 ·rw[aa hi];exact hr i
theorem vb(hs:Sat C n s a w){ops:Array Oper}{j t:Nat}{b:Bool}(hj:(ops[j]?).bind (·.dst)=some t)(ht:t<n)(hb:s.t t=.bool b):yielded ops a.tmps j=some b:=by
 obtain⟨F,c,hr⟩:=hs.ex;have:=hr t;rw[hb] at this;have hlt:t<a.tmps.size:=by rw[hs.sz];exact ht
 have hg:a.tmps.getD t undef=a.tmps[t]:=by simp[hlt]
 rw[hg] at this
 generalize hu:a.tmps[t]=u at this
 cases this;unfold yielded;rw[hj];simp[hlt,hu]
theorem E7{p:Prim}{T:c8}{o:AO}{l:List AO}{K:S->Prop}:sT p T (o::l) s K=eH p T o s λs=>sT p T l s K:=rfl
theorem tH{T:c8}(h:sR P T)(j:C.Ok){ops:Array Oper}{o:Oper}{ao:AO}{op:rh}{K:S->Prop}{Q:Exit->Act->World->Prop}(ht:Mc P o.op=some op)(b:ao.op=op)(hd:Ve n o.dst=true)(c:ao.d=o.dst)(hs:Sat C n s a w)
  (hK:jh dn T ao s K):o.wp P a w (λg w'=>∃s',Sat C n s' g w'/\K s') Q:=by
 obtain⟨F,k,hr⟩:=hs.ex;subst b;refine Oper.wp_mono (λg w' hp=>?_) (E6 h j ht k hr (Hd hK));obtain⟨u,v,h',F',rfl,hv,e,hk,f⟩:=hp;exact⟨_,by rw[c];exact Sat.put hs hd e hv λi=>hk _ _ (hr i),f⟩
theorem m9{T:c8}(m:sR P T)(p:C.Ok){ops:Array Oper}{o:Oper}{ao:AO}{K:S->Prop}{Q:Exit->Act->World->Prop}{J:Act->World->Prop}(ht:Tp P n ops o=some ao)(hs:Sat C n s a w)(hK:eH dn T ao s K)
  (i:∀s' e w',Sat C n s' e w'->K s'->J e w'):if Region.wanted o (yielded ops a.tmps) then o.wp P a w J Q\/(o.asks P a w/\LetsOut Q) else J (a.put o.dst undef) w:=by
 unfold Tp at ht
 split at ht
 ·rename_i op f
  split at ht
  ·rename_i hd
   split at ht
   ·rename_i hg;cases ht;have hw:Region.wanted o (yielded ops a.tmps)=true:=by simp[Region.wanted,hg]
    rw[ae hw];refine .inl (Oper.wp_mono (λe w'⟨s',h1,h2⟩=>i s' e w' h1 h2) (tH m p (ops:=ops) (ao:=⟨o.dst,none,op⟩) f rfl hd rfl hs hK))
   ·rename_i j want hg
    split at ht
    ·rename_i t hj
     split at ht
     ·rename_i d;cases ht;have oN:s.t t=.oN->(if Region.wanted o (yielded ops a.tmps) then o.wp P a w J Q\/(o.asks P a w/\LetsOut Q) else J (a.put o.dst undef) w)\/¬K (s.put o.dst .oN):=by
       intro hu
       by_cases g:K (s.put o.dst .oN)
       ·left
        obtain⟨F,k,hr⟩:=hs.ex;have hlt:t<a.tmps.size:=by rw[hs.sz];exact d
        have c:=hr t;rw[hu] at c;have l:a.tmps.getD t undef=a.tmps[t]:=by simp[hlt]
        rw[l] at c
        generalize hv:a.tmps[t]=v at c
        cases c;have hy:yielded ops a.tmps j=none:=by unfold yielded;rw[hj];simp[hlt,hv,undef]
        have hw:¬Region.wanted o (yielded ops a.tmps)=true:=by simp[Region.wanted,hg,hy]
        rw[aa hw];exact i _ _ _ (Sat.put hs hd k .oN hr) g
       ·exact .inr g
      have yes:s.t t=.bool want->jh dn T ⟨o.dst,some (t,want),op⟩ (s.set t (.bool want)) K->(if Region.wanted o (yielded ops a.tmps) then o.wp P a w J Q\/(o.asks P a w/\LetsOut Q) else J (a.put o.dst undef) w):=by
       intro hb hK;have hy:=vb hs hj d hb;have hw:Region.wanted o (yielded ops a.tmps)=true:=by simp[Region.wanted,hg,hy]
       rw[ae hw];exact .inl (Oper.wp_mono (λe w'⟨s',h1,h2⟩=>i s' e w' h1 h2) (tH m p (ops:=ops) (ao:=⟨o.dst,some (t,want),op⟩) f rfl hd rfl (hs.Qj hb) hK))
      have no:∀b,b≠want->s.t t=.bool b->K ((s.set t (.bool b)).put o.dst .oN)->(if Region.wanted o (yielded ops a.tmps) then o.wp P a w J Q\/(o.asks P a w/\LetsOut Q) else J (a.put o.dst undef) w):=by
       intro b hne hb hK;have hy:=vb hs hj d hb;have hw:¬Region.wanted o (yielded ops a.tmps)=true:=by simp[Region.wanted,hg,hy,hne]
       rw[aa hw];have hs2:=hs.Qj hb;obtain⟨F,k,hr⟩:=hs2.ex;exact i _ _ _ (Sat.put hs2 hd k .oN hr) hK
      cases want with
      |true=>
       simp only[eH] at hK
       split at hK
       ·rename_i b hb;cases b with
        |true=>exact yes hb hK
        |false=>exact no false qD hb hK
       ·rename_i hu;exact(oN hu).resolve_right (λh=>h hK)
       ·exact hK.elim
      |false=>
       simp only[eH] at hK
       split at hK
       ·rename_i b hb;cases b with
        |true=>exact no true qD hb hK
        |false=>exact yes hb hK
       ·rename_i hu;exact(oN hu).resolve_right (λh=>h hK)
       ·exact hK.elim
     ·cases ht
    ·cases ht
  ·cases ht
 ·cases ht
theorem BN{T:c8}(d:sR P T)(e:C.Ok){ops:Array Oper}{Q:Exit->Act->World->Prop}:∀(l:List Oper)(al:List AO)(s:S)(a:Act)(w:World)(K:S->Prop),qN P n ops l=some al->Sat C n s a w->sT dn T al s K->
  (∀s' b w',Sat C n s' b w'->K s'->Q .normal b w')->wpList P ops Q l a w:=by
 intro l
 induction l with
 |nil=>
  intro al s a w K ht hs hK c;simp only[qN,aH] at ht;subst ht;exact c s a w hs hK
 |cons o l ih=>
  intro al s a w K ht hs hK c;simp only[qN] at ht
  split at ht
  ·rename_i ao m ho hm;cases ht;rw[E7] at hK;exact m9 d e ho hs hK λs' b w' h1 h2=>ih m s' b w' K hm h1 h2 c
  ·cases ht
end
def gl(ops:Array Oper)(i:Nat):List Nat:=match ops[i]? with
 |some o=>(o.after.toList.filter (Region.binds .any)).map (·.on)
 |none=>[]
theorem zc{l:List Nat}{i:Nat}:fq l i=true↔i∈l:=by
 induction l with
 |nil=>simp[fq]
 |cons x l ih=>
  rw[fq,bG,ih,aw];exact⟨λh=>h.imp (λe=>(bA e).symm) id,λh=>h.imp (λe=>by rw[e];exact bO x) id⟩
theorem zd{f:Nat->AO->Prop}:∀{l:List (Nat×AO)},BM l f->∀{i o},(i,o)∈l->f i o
 |[],_,i,o,h=>by cases h
 |[(j,q)],h,i,o,hm=>by simp at hm;obtain⟨rfl,rfl⟩:=hm;exact h
 |(j,q)::x::l,h,i,o,hm=>by
  obtain⟨h1,h2⟩:=h
  rcases aw.1 hm with hm|hm
  ·cases hm;exact h1
  ·exact zd h2 hm
theorem vc{done:List Nat}:∀{l:List (AO×List Nat)}{m j:Nat}{o:AO}{ps:List Nat},l[j]? =some (o,ps)->(m+j)∉done->(∀q∈ps,q∈done)->(m+j,o)∈mh done m l
 |[],m,j,o,ps,h,_,_=>by simp at h
 |(o',a)::l,m,0,o,ps,h,h1,h2=>by
  simp only[bT,aH,aL] at h;obtain⟨rfl,rfl⟩:=h;have e:(!(fq done m)&&a.all (fq done))=true:=by
   rw[aW,aQ];refine⟨?_,λq hq=>zc.2 (h2 q hq)⟩;cases b:fq done m
   ·rfl
   ·exact absurd (zc.1 b) h1
  simp only[mh,e,ct];exact bQ
 |(o',a)::l,m,j+1,o,ps,h,h1,h2=>by
  have:=vc (done:=done) (l:=l) (m:=m+1) (j:=j) (by simpa using h) (by rw[show m+1+j=m+(j+1) by omega];exact h1) h2;rw[show m+1+j=m+(j+1) by omega] at this;simp only[mh]
  split
  ·exact bM _ this
  ·exact this
def xR(ops:Array Oper):Bool:=(List.range ops.size).all λi=>(gl ops i).all λj=>decide (j<i)
def jC(ops:Array Oper)(al:List AO):List (AO×List Nat):=al.zip ((List.range ops.size).map (gl ops))
theorem sU{P:Program}{n:Nat}{ops:Array Oper}:∀{l:List Oper}{al:List AO},qN P n ops l=some al->l.length=al.length/\∀(i:Nat)(o:Oper),l[i]? =some o->∃a,al[i]? =some a/\Tp P n ops o=some a
 |[],al,h=>by simp[qN] at h;subst h;simp
 |o::l,al,h=>by
  simp only[qN] at h
  split at h
  ·rename_i a m ha hm;cases h;obtain⟨h1,h2⟩:=sU hm;refine⟨by simp[h1],λi o' ho=>?_⟩;cases i with
   |zero=>simp at ho;subst ho;exact⟨a,rfl,ha⟩
   |succ i=>exact h2 i o' (by simpa using ho)
  ·cases h
theorem vd:∀(l:List Nat),l≠[]->∃i∈l,∀j∈l,i<=j
 |[],h=>absurd rfl h
 |[x],_=>⟨x,by simp,by simp⟩
 |x::y::l,_=>by
  obtain⟨i,hi,hm⟩:=vd (y::l) (by simp)
  by_cases hx:x<=i
  ·exact⟨x,by simp,λj hj=>by rcases aw.1 hj with rfl|hj;exact ah _;have:=hm j hj;omega⟩
  ·exact⟨i,bM _ hi,λj hj=>by rcases aw.1 hj with rfl|hj;omega;exact hm j hj⟩
section
variable {P:Program}
theorem BO{C:Ctx}{n:Nat}{ops:Array Oper}{al:List AO}{Q:Exit->Act->World->Prop}(J:C.Ok)(z:qN P n ops ops.toList=some al)(I:xR ops=true){K:S->Prop}(L:∀s' y w',Sat C n s' y w'->K s'->Q .normal y w'):
  ∀(k:Nat)(R:List Nat)(b:Array Bool)(done:List Nat)(s:S)(a:Act)(w:World),R.length=k->R.Nodup->b.size=ops.size->(∀i,i∈R↔i<ops.size/\b.getD i true=false)->(∀i,i<ops.size->(i∈done↔b.getD i true=true))->
   Sat C n s a w->lL dn (fm P) (jC ops al) k done s K->wpAny P .any ops Q k b a w:=by
 have g:∀(b:Array Bool)(i:Nat),b.size=ops.size->i<ops.size->b.getD i true=b.getD i false:=by
  intro b i hs hi;have:i<b.size:=by omega
  simp[this]
 have qX:∀i,i<ops.size->∀j∈gl ops i,j<i:=by
  intro i hi j hj;unfold xR at I;have h1:=aQ.1 I i (cw.2 hi);simpa using aQ.1 h1 j hj
 obtain⟨hlen,p⟩:=sU z;intro k
 induction k with
 |zero=>
  intro R b done s a w hk _ hsz c _ hs hK;have M:R=[]:=ay hk;subst M;refine⟨cL.2 λj hj=>?_,L s a w hs hK⟩;obtain⟨h1,o,ho,_⟩:=mem_ready.1 hj;have:=(c j).2 ⟨(aG.1 ho).1,h1⟩;cases this
 |succ k ih=>
  intro R b done s a w hk r hsz c d hs hK;refine⟨λhr=>?_,λi hi=>?_⟩
  ·exfalso
   obtain⟨i0,t,u⟩:=vd R (by intro h;subst h;cases hk);obtain⟨l,A⟩:=(c i0).1 t;have:i0∈Region.ready .any ops b:=by
    refine mem_ready.2 ⟨A,ops[i0],aU l,λe he hb=>?_⟩;have hp:e.on∈gl ops i0:=by
     unfold gl;rw[aU l];exact aC.2 ⟨e,cg.2 ⟨by simpa using he,hb⟩,rfl⟩
    have hlt:=qX i0 l _ hp
    by_cases hl:b.getD e.on false=true
    ·exact hl
    ·exfalso
     have h3:b.getD e.on true=false:=by rw[g b e.on hsz qW];simpa using hl
     have:=u e.on ((c e.on).2 ⟨qW,h3⟩);omega
   rw[hr] at this;cases this
  ·obtain⟨hl,o,ho,gf⟩:=mem_ready.1 hi;have rK:i<ops.size:=(aG.1 ho).1;have B:i∈R:=(c i).2 ⟨rK,hl⟩;obtain⟨N,D,ld⟩:=p i o (by simpa using ho);have v:i∉done:=λh=>by have:=(d i rK).1 h;rw[hl] at this;cases this
   have hz:(jC ops al)[i]? =some (N,gl ops i):=by
    unfold jC;rw[List.getElem?_zip_eq_some];exact⟨D,by simp[rK]⟩
   have hr:=vc (done:=done) (m:=0) (j:=i) hz (by simpa using v) (λq hq=>by
    have E:=hq;unfold gl at hq;rw[ho] at hq;obtain⟨e,he,rfl⟩:=aC.1 hq;obtain⟨F,G⟩:=cg.1 he;have h4:=gf e (by simpa using F) G;have hlt:e.on<ops.size:=by have:=qX i rK _ E;omega
    exact(d e.on hlt).2 (by rw[g b e.on hsz hlt];exact h4))
   rw[bf] at hr;have x:=zd (show BM (mh done 0 (jC ops al)) (λi o=>eH dn (fm P) o s λs=>lL dn (fm P) (jC ops al) k (i::done) s K) from hK) hr;unfold wpOp;rw[ho];refine m9 u3 J ld hs x λs' y w' hs' H=>ih (R.erase i) (b.setIfInBounds i true) (i::done) s' y w' ?_ (r.erase i) (by simp[hsz]) (λj=>?_) (λj hj=>?_) hs' H
   ·rw[List.length_erase_of_mem B];omega
   ·rw[r.mem_erase_iff,c j]
    by_cases f:i=j
    ·subst f;have h1:(b.setIfInBounds i true).getD i true=true:=by
      have:i<b.size:=by omega
      simp[this]
     rw[h1];simp
    ·rw[getD_set_ne true f];exact⟨λh=>h.2,λh=>⟨λe=>f e.symm,h⟩⟩
   ·by_cases f:i=j
    ·subst f;have h1:(b.setIfInBounds i true).getD i true=true:=by
      have:i<b.size:=by omega
      simp[this]
     rw[h1];simp
    ·rw[getD_set_ne true f,<-d j hj,aw];exact⟨λh=>h.resolve_left λe=>f e.symm,.inr⟩
end
inductive L1(ops:Array Oper):Nat->Nat->Prop
 |base {j i} (h:j∈gl ops i):L1 ops j i
 |step {j k i} (h:k∈gl ops i) (h':L1 ops j k):L1 ops j i
def px(ops:Array Oper):Nat->List (List Nat)
 |0=>[]
 |n+1=>
  let t:=px ops n
  t++[(gl ops n++(gl ops n).flatMap λk=>t.getD k []).eraseDups]
theorem oR(ops:Array Oper)(n:Nat):(px ops n).length=n:=by
 induction n with
 |zero=>rfl
 |succ n ih=>simp[px,ih]
theorem oS(ops:Array Oper):∀(n i j:Nat),j∈(px ops n).getD i []->L1 ops j i:=by
 intro n
 induction n with
 |zero=>intro i j h;simp[px] at h
 |succ n ih=>
  intro i j h;simp only[px] at h;rw[ar] at h
  by_cases hi:i<n
  ·rw[bg (by rw[oR];exact hi),<-ar] at h;exact ih i j h
  ·by_cases pd:i=n
   ·subst pd;rw[bj (by rw[oR];exact ah _),oR] at h;simp only[Nat.sub_self,bT,Option.getD_some,List.mem_eraseDups,bn,List.mem_flatMap] at h
    rcases h with h|⟨k,hk,h⟩
    ·exact .base h
    ·exact .step hk (ih k j h)
   ·rw[dK (by simp[oR];omega)] at h;simp at h
def rh.Qk:rh->Bool
 |.call .. =>true
 |_=>false
def Df(ops:Array Oper)(al:List AO):Bool:=match al.getLast? with
 |some o=>o.op.Qk&&(List.range (ops.size-1)).all λj=>((px ops ops.size).getD (ops.size-1) []).contains j
 |none=>false
def wO(P:Program)(n:Nat)(D:Array Oper->List AO->Bool):Code->Option AC
 |.skip=>some .skip
 |.region _ ops dr=>match qN P n ops ops.toList with
  |some al=>if dr then(if D ops al then(if Df ops al then some (.seq (.region true al.dropLast) (.region false (al.drop (al.length-1)))) else some (.region true al)) else if xR ops then some (.jN (jC ops al)) else none) else some (.region false al)
  |none=>none
 |.seq x y=>match wO P n D x,wO P n D y with
  |some x,some y=>some (.seq x y)
  |_,_=>none
 |.cond c x y=>match nJ c,wO P n D x,wO P n D y with
  |some c,some x,some y=>some (.cond c x y)
  |_,_,_=>none
 |.block id x=>(wO P n D x).map (.block id)
 |.loop x=>(wO P n D x).map .loop
 |.exit id=>some (.exit id)
 |.ret=>some .ret
 |.scope x=>wO P n D x
 |_=>none
def Xo(C:Ctx)(n:Nat)(N:S->Prop)(X:Nat->S->Prop)(R:S->Prop):Exit->Act->World->Prop
 |.normal,a,w=>∃s,Sat C n s a w/\N s
 |.exit j,a,w=>∃s,Sat C n s a w/\X j s
 |.ret,a,w=>∃s,Sat C n s a w/\R s
 |_,_,_=>False
def mi(P:Program)(D:Array Oper->List AO->Bool):Prop:=P.follows .mixedOrders=true/\
 (∀(C:Ctx)(n id:Nat)(ops:Array Oper)(al:List AO)(s:S)(a:Act)(w:World)(K:S->Prop)(Q:Exit->Act->World->Prop),C.Ok->qN P n ops ops.toList=some al->D ops al=true->Sat C n s a w->sT dn (fX P) al s K->
  (∀s' b w',Sat C n s' b w'->K s'->Q .normal b w')->(Code.region id ops true).wp P Q a w)/\
 (∀(C:Ctx)(n id:Nat)(ops:Array Oper)(al:List AO)(s:S)(a:Act)(w:World)(K:S->Prop)(Q:Exit->Act->World->Prop),C.Ok->qN P n ops ops.toList=some al->D ops al=true->Df ops al=true->Sat C n s a w->sT dn (fX P) al.dropLast s (λs'=>sT dn (fm P) (al.drop (al.length-1)) s' K)->
  (∀s' b w',Sat C n s' b w'->K s'->Q .normal b w')->(Code.region id ops true).wp P Q a w)
theorem wP{P:Program}{C:Ctx}{n:Nat}{D:Array Oper->List AO->Bool}(G:mi P D)(f:C.Ok):∀(c:Code)(ac:AC)(s:S)(a:Act)(w:World)(N:S->Prop)(X:Nat->S->Prop)(R:S->Prop),wO P n D c=some ac->Sat C n s a w->gj dn (fm P) (fX P) ac s N X R->
  c.wp P (Xo C n N X R) a w:=by
 intro c
 induction c with
 |skip=>
  intro ac s a w N X R ht hs hK;simp only[wO,aH] at ht;subst ht;exact wp_skip ⟨s,hs,hK⟩
 |region id ops dr=>
  intro ac s a w N X R ht hs hK;simp only[wO] at ht
  split at ht
  ·rename_i al d;cases dr with
   |false=>
    simp only[Bool.false_eq_true,↓reduceIte,aH] at ht;subst ht;exact wp_region_list (BN u3 f _ _ _ _ _ _ d hs hK λs' l w' h1 h2=>⟨s',h1,h2⟩)
   |true=>
    simp only[↓reduceIte] at ht
    split at ht
    ·rename_i hd
     split at ht
     ·rename_i hl;cases ht;exact G.2.2 C n id ops al s a w N _ f d hd hl hs hK λs' l w' h1 h2=>⟨s',h1,h2⟩
     ·cases ht;exact G.2.1 C n id ops al s a w N _ f d hd hs hK λs' l w' h1 h2=>⟨s',h1,h2⟩
    ·split at ht
     ·rename_i hp;cases ht;refine wp_region_any G.1 ?_;have hs2:Sat C n s a {w with drawn:=w.drawn+1}:=by
       obtain⟨F,g,hr⟩:=hs.ex;have q:Ev (λ_=>False) w {w with drawn:=w.drawn+1}:=Ev.drew _ w
       refine⟨⟨F,⟨λk o hk=>fU.keep f g q (λ_ _ h=>h.elim) (g.ob k o hk) (λ_ _ h=>h.elim),g.inj,g.live,g.gH,g.new,g.lt,Ev.mY g.ev q λ_ _ h=>h.elim⟩,λi=>g.keep f q (λ_ _ h=>h.elim) (hr i)⟩,hs.df,hs.sz⟩
      have hlen:=(sU d).1;have z:(jC ops al).length=ops.size:=by simp[jC,<-hlen]
      have I:lL dn (fm P) (jC ops al) ops.size [] s N:=by
       have A:lL dn (fm P) (jC ops al) (jC ops al).length [] s N:=hK;rw[z] at A;exact A
      refine BO (Q:=Xo C n N X R) f d hp (λs' l w' h1 h2=>⟨s',h1,h2⟩) ops.size (List.range ops.size) (Array.replicate ops.size false) [] s a _ (by simp) List.nodup_range (by simp) (λi=>?_) (λi hi=>by simp[hi]) hs2 I;rw[cw];exact⟨λh=>⟨h,by simp[h]⟩,λh=>h.1⟩
     ·cases ht
  ·cases ht
 |seq x y r u=>
  intro ac s a w N X R ht hs hK;simp only[wO] at ht
  split at ht
  ·rename_i J E hx hy;cases ht;refine wp_seq (wp_mono (r _ _ _ _ _ _ _ hx hs hK) λe l w' hq=>?_);cases e with
   |normal=>obtain⟨s',h1,h2⟩:=hq;exact u _ _ _ _ _ _ _ hy h1 h2
   |exit j=>exact hq
   |ret=>exact hq
   |_=>exact hq.elim
  ·cases ht
 |cond c x y r u=>
  intro ac s a w N X R ht hs hK;simp only[wO] at ht
  split at ht
  ·rename_i c' J E hc hx hy;cases ht;obtain⟨F,g,hr⟩:=hs.ex;have hrel:=fv hr hc;simp only[gj] at hK
   split at hK
   ·rename_i t heq;rw[heq] at hrel
    generalize K:a.eval c=uc at hrel
    cases hrel;have p:∀b,t=b->Sat C n (Qi c' s b) a w:=by
     rintro b rfl;cases c' with
     |t i=>exact hs.Qj heq
     |c v=>exact hs
    exact wp_cond_split K (λht=>r _ _ _ _ _ _ _ hx (p _ ht) (by rw[ht] at hK;exact hK)) (λht=>u _ _ _ _ _ _ _ hy (p _ ht) (by rw[ht] at hK;exact hK))
   ·exact hK.elim
  ·cases ht
 |block id x ih=>
  intro ac s a w N X R ht hs hK;simp only[wO,ak] at ht;obtain⟨J,hx,rfl⟩:=ht;refine wp_block (wp_mono (ih _ _ _ _ _ _ _ hx hs hK) λe l w' hq=>?_);cases e with
  |normal=>exact hq
  |exit j=>
   obtain⟨s',h1,h2⟩:=hq;simp only[Exit.inBlock]
   by_cases hj:j=id
   ·rw[ae hj] at h2⊢;exact⟨s',h1,h2⟩
   ·rw[aa hj] at h2⊢;exact⟨s',h1,h2⟩
  |ret=>exact hq
  |_=>exact hq.elim
 |loop x ih=>
  intro ac s a w N X R ht hs hK;simp only[wO,ak] at ht;obtain⟨J,hx,rfl⟩:=ht;obtain⟨Y,L,H,M,⟨s1,h0,y0,h1,h2⟩,m⟩:=hK;refine wp_loop_ghost (λk a w=>∃y,M y=k/\Sat C n (St (L y) (H y)) a w) (M y0) ⟨y0,rfl,c6.st h1 h2 C n a w f (h0 C n a w f hs)⟩ ?_;rintro k a1 w1 ⟨y,rfl,B⟩;refine wp_mono (ih _ _ _ _ _ _ _ hx B (m y)) λe l w' hq=>?_;cases e with
  |normal=>
   obtain⟨s',h1,s2,h2,E,h3,h4,h5⟩:=hq;exact⟨M E,h5,E,rfl,c6.st h3 h4 C n l w' f (h2 C n l w' f h1)⟩
  |exit j=>exact hq
  |ret=>exact hq
  |_=>exact hq.elim
 |exit id=>
  intro ac s a w N X R ht hs hK;simp only[wO,aH] at ht;subst ht;exact wp_exit ⟨s,hs,hK⟩
 |ret=>
  intro ac s a w N X R ht hs hK;simp only[wO,aH] at ht;subst ht;exact wp_ret ⟨s,hs,hK⟩
 |scope x ih=>
  intro ac s a w N X R ht hs hK;simp only[wO] at ht;refine wp_scope_straight (wp_mono (ih _ _ _ _ _ _ _ ht hs hK) λe l w' hq=>?_);cases e with
  |normal=>exact hq
  |exit j=>exact hq
  |ret=>exact hq
  |_=>exact hq.elim
 |_=>intro ac s a w N X R ht;simp[wO] at ht
inductive RV where
 |t(i:Nat)
 |c1(i:Nat)
 |cn(i n:Nat)
def VR(P:Program):ResultVar->Option RV
 |.tmp t=>some (.t t)
 |.cell a T=>match k9 P T,sN P T with
  |some true,some n=>some (.cn a n)
  |some false,_=>some (.c1 a)
  |_,_=>none
def E8(P:Program):List ResultVar->Option (List RV)
 |[]=>some []
 |r::l=>match VR P r,E8 P l with
  |some a,some m=>some (a::m)
  |_,_=>none
def lM(s:S):List RV->(List V->Prop)->Prop
 |[],K=>K []
 |.t i::l,K=>lM s l λvs=>K (s.t i::vs)
 |.c1 i::l,K=>pj s.h (s.t i) λv=>lM s l λvs=>K (v::vs)
 |.cn i n::l,K=>pk s.h n (s.t i) λv=>lM s l λvs=>K (v::vs)
def l4:List V->V
 |[v]=>v
 |vs=>.tup vs
def fin(rv:List RV)(post:V->Hp->Prop)(s:S):Prop:=
 ∃s',c6 s s'/\lM s' rv λvs=>Fz (l4 vs)/\∃h',(∀k o,h' k=some o->s'.h k=some o/\o.Fz)/\post (l4 vs) h'
section
variable {P:Program} {C:Ctx} {F:Nat->Prop} {n:Nat} {w:World} {a:Act} {s:S}
def py(tmps:Array Value)(r:ResultVar):Sem Value:=match r with
 |.tmp t=>pure (tmps.getD t undef)
 |.cell a t=>do loadVar t (←asAddr (tmps.getD a undef))
theorem Dg(e:gN C F s.h w)(hr:∀i:Nat,Rel F C.B w (s.t i) (a.tmps.getD i undef)):∀(rs:List ResultVar)(rv:List RV)(K:List V->Prop),E8 P rs=some rv->lM s rv K->
  ∃vs us,(rs.mapM (py a.tmps)).run P w=.ok us w/\us.length=vs.length/\(∀(i:Nat)(v:V)(u:Value),vs[i]? =some v->us[i]? =some u->Rel F C.B w v u)/\K vs:=by
 intro rs
 induction rs with
 |nil=>
  intro rv K ht hK;simp only[E8,aH] at ht;subst ht;exact⟨[],[],by simp[Sem.run_pure],rfl,by simp,hK⟩
 |cons r rs ih=>
  intro rv K ht hK;simp only[E8] at ht
  split at ht
  ·rename_i x m hx hm;cases ht;have cons:∀(v:V)(u:Value),(py a.tmps r).run P w=.ok u w->Rel F C.B w v u->lM s m (λvs=>K (v::vs))->
     ∃vs us,((r::rs).mapM (py a.tmps)).run P w=.ok us w/\us.length=vs.length/\(∀(i:Nat)(v:V)(u:Value),vs[i]? =some v->us[i]? =some u->Rel F C.B w v u)/\K vs:=by
    intro v u hu hv hk;obtain⟨vs,us,h1,h2,h3,h4⟩:=ih m _ hm hk;refine⟨v::vs,u::us,?_,by simp[h2],λi v' f b c=>?_,h4⟩
    ·rw[List.mapM_cons];simp only[Sem.run_bind,hu,Result.andThen_ok,h1,Sem.run_pure]
    ·cases i with
     |zero=>simp at b c;subst b c;exact hv
     |succ i=>exact h3 i v' f (by simpa using b) (by simpa using c)
   cases r with
   |tmp t=>
    simp only[VR,aH] at hx;subst hx;exact cons (s.t t) (a.tmps.getD t undef) (by simp only[py,Sem.run_pure]) (hr t) hK
   |cell ad T=>
    simp only[VR] at hx
    split at hx
    ·rename_i n hg hn;cases hx;obtain⟨d,v,u,hu,mF,hv,hk⟩:=uZ (T:=T) hg hn e (hr ad) hK;exact cons v u (by simp only[py,hu,asAddr,Sem.run_bind,Sem.run_pure,Result.andThen_ok,mF]) hv hk
    ·rename_i hg;cases hx;obtain⟨d,v,u,hu,mF,hv,hk⟩:=uY (T:=T) hg e (hr ad) hK;exact cons v u (by simp only[py,hu,asAddr,Sem.run_bind,Sem.run_pure,Result.andThen_ok,mF]) hv hk
    ·cases hx
  ·cases ht
theorem BP(fn:Func)(tmps:Array Value):results fn tmps=(do let vs←fn.results.mapM (py tmps);pure (if h:vs.size=1 then vs[0] else .tuple vs)):=rfl
theorem tI{fn:Func}{us:List Value}(h:(fn.results.toList.mapM (py a.tmps)).run P w=.ok us w):(results fn a.tmps).run P w=.ok (if h:us.toArray.size=1 then us.toArray[0] else .tuple us.toArray) w:=by
 rw[BP,Array.mapM_eq_mapM_toList];simp only[Sem.run_bind,Sem.run_map,h,Result.andThen_ok,Sem.run_pure]
def S5:List V->Nat->V
 |[],_=>.iC
 |v::_,0=>v
 |_::l,i+1=>S5 l i
theorem BQ:∀(l:List V)(i:Nat),S5 l i=l.getD i .iC
 |[],_=>by simp[S5]
 |v::l,0=>by simp[S5]
 |v::l,i+1=>by rw[S5,BQ l i];simp
def S0(args:List V)(hp:Hp):S:=⟨S5 args,hp⟩
theorem Dh{f:Nat}{fn:Func}{c:Code}{ac:AC}{rv:List RV}{args:List V}{hp:Hp}{post:V→Hp→Prop}{D:Array Oper→List AO→Bool}(G:mi P D)(hf:P.funcs[f]? =some fn)(l:fn.name≠ "runtime.NumGoroutine")(hb:fn.body=some c)(hc:wO P fn.ntmps D c=some ac)(z:E8 P fn.results.toList=some rv)
  (hn:args.length<=fn.ntmps)(hK:gj dn (fm P) (fX P) ac (S0 args hp) (fin rv post) (λ_ _=>False) (fin rv post)):Spec P f args hp post:=by
 refine⟨⟨fn,hf,l,c,hb⟩,λC us E hl m d=>?_⟩;refine calls_of_wp hf hb ?_;have hs0:gN C C.F0 hp C.w0:=⟨λk o hk=>(d.ob k o hk).mono (λ_ h=>h) (λ_ h=>h.elim),d.inj,d.live,d.gH,d.new,d.lt,d.ev⟩;have q:Sat C fn.ntmps (S0 args hp) {tmps:=us++Array.replicate (fn.ntmps-us.size) undef,defers:=[]} C.w0:=by
  refine⟨⟨C.F0,hs0,λi=>?_⟩,rfl,by simp;omega⟩;simp only[S0,BQ]
  by_cases hi:i<args.length
  ·have hi':i<us.size:=by omega
   have h1:args[i]? =some (args.getD i .iC):=by rw[ar,af hi];rfl
   have h2:us[i]? =some ((us++Array.replicate (fn.ntmps-us.size) undef).getD i undef):=by
    simp[hi',cx]
   exact m i _ _ h1 h2
  ·have h1:args.getD i .iC=.iC:=by rw[ar,dK qW];rfl
   rw[h1];exact .iC _
 refine wp_mono (wP G E c ac _ _ _ _ _ _ hc q hK) λe y w' hq=>?_;have last:(∃s,Sat C fn.ntmps s y w'/\fin rv post s)->y.defers=[]/\∃v,(results fn y.tmps).run P w'=.ok v w'/\∃u r h' F',Ending.returned v=.returned u/\Rel F' (λ_=>False) w' r u/\gN C.nb F' h' w'/\post r h':=by
  rintro⟨s1,hs1,s2,t,x⟩;have hs2:=t C _ y w' E hs1;obtain⟨F,g,hr⟩:=hs2.ex;obtain⟨vs,p,h1,h2,h3,h4,h',h5,h6⟩:=Dg g hr _ _ _ z x;refine⟨hs2.df,_,tI h1,_,l4 vs,h',F,rfl,?_,⟨λk o hk=>?_,λk k' o o' b hk A=>g.inj k k' o o' b (h5 k o hk).1 (h5 k' o' A).1,λk o b hk=>g.live k o b (h5 k o hk).1,g.gH,g.new,g.lt,g.ev⟩,h6⟩
  ·refine Rel.fz (B:=C.B) ?_ h4
   match vs,p,h2,h3 with
   |[],[],_,_=>exact .tup _ _ rfl (by simp)
   |[v],[u],_,h3=>exact h3 0 v u rfl rfl
   |v1::v2::vs,H::I::p,h2,h3=>
    have hne:¬((H::I::p).toArray.size=1):=by simp
    rw[dif_neg hne];exact .tup _ _ (by simpa using h2) λi v u hv hu=>h3 i v u hv (by simpa using hu)
  ·exact(g.ob k o (h5 k o hk).1).fz (h5 k o hk).2
 cases e with
 |normal=>exact last hq
 |ret=>exact last hq
 |exit j=>obtain⟨_,_,h⟩:=hq;exact h.elim
 |_=>exact hq.elim
end
def S.nil(s:S)(i k ty sz:Nat):S:=⟨gy s.t i (.own k none sz 0),s.h.put k ⟨none,ty,sz,[]⟩⟩
theorem c6.nil{s:S}{i k ty sz:Nat}(hi:s.t i=.nilsl)(hk:s.h k=none):c6 s (s.nil i k ty sz):=by
 intro C n a w c hs;obtain⟨F,h1,h2⟩:=hs.ex;refine⟨⟨F,h1.step c (L:=λ_=>False) (Ev.refl _ _) (λ_ _ h=>h.elim) (show fU F C.B w ⟨none,ty,sz,[]⟩ from rfl) (λb hb=>by cases hb),λj=>?_⟩,hs.df,hs.sz⟩;simp only[S.nil,gy]
 by_cases hj:j=i
 ·rw[ae hj];have:=h2 i;rw[hi] at this;rw[hj]
  generalize a.tmps.getD i undef=u at this
  cases this;exact .ownnil _ _
 ·rw[aa hj];exact h2 j
theorem Next.intro{Y:Type}{L:Y->List (Nat×V)}{H:Y->List (Nat×Ob)}{b:Y->Nat}{y:Y}{s:S}(a:Y)(hl:agree (L a) s)(c:fG (H a) s)(hm:b a<b y):Next L H b y s:=⟨s,c6.refl s,a,hl,c,hm⟩
structure fF(P:Program)(f:Nat)(fn:Func)(ac:AC)(rv:List RV)(n:Nat)(D:Array Oper->List AO->Bool):Prop where
 func:P.funcs[f]? =some fn
 name:fn.name≠ "runtime.NumGoroutine"
 body:fn.body.bind (wO P fn.ntmps D)=some ac
 res:E8 P fn.results.toList=some rv
 args:n<=fn.ntmps
def iH(rv:List RV)(vs:List V)(s:S):Prop:=lM s rv λx=>x=vs
def Is(v:V):V->Hp->Prop:=λx h=>x=v/\h=Hp.emp
theorem ep{P:Program}{f:Nat}{fn:Func}{ac:AC}{rv:List RV}{args:List V}{D:Array Oper->List AO->Bool}(b:mi P D)(ok:fF P f fn ac rv args.length D)(vs:List V)(hz:Fz (l4 vs))
  (h:∀R,(∀s s',c6 s s'->iH rv vs s'->R s)->gj dn (fm P) (fX P) ac (S0 args Hp.emp) R (λ_ _=>False) R):Spec P f args Hp.emp (Is (l4 vs)):=by
 obtain⟨c,hc,a⟩:=bS.1 ok.body;refine Dh b ok.func ok.name hc a ok.res ok.args (h _ λs s' he hr=>⟨s',he,?_⟩);unfold iH at hr;have mono:∀(rv:List RV)(K K':List V->Prop),(∀x,K x->K' x)->lM s' rv K->lM s' rv K':=by
  intro rv
  induction rv with
  |nil=>intro K K' hK h;exact hK _ h
  |cons r rv ih=>
   intro K K' hK h;cases r with
   |t i=>exact ih _ _ (λx hx=>hK _ hx) h
   |c1 i=>
    simp only[lM] at h⊢;unfold pj at h⊢
    split at h
    ·unfold ue at h⊢
     split at h
     ·obtain⟨a1,a2,a3,a4,a5⟩:=h;exact⟨a1,a2,a3,a4,ih _ _ (λx hx=>hK _ hx) a5⟩
     ·exact h.elim
    ·exact⟨h.1,ih _ _ (λx hx=>hK _ hx) h.2⟩
    ·exact h.elim
   |cn i n=>
    simp only[lM] at h⊢;unfold pk at h⊢
    split at h
    ·unfold ue at h⊢
     split at h
     ·obtain⟨a1,a2,a3,a4,a5⟩:=h;exact⟨a1,a2,a3,a4,ih _ _ (λx hx=>hK _ hx) a5⟩
     ·exact h.elim
    ·exact⟨h.1,ih _ _ (λx hx=>hK _ hx) h.2⟩
    ·exact h.elim
 exact mono rv _ _ (λx hx=>by subst hx;exact⟨hz,Hp.emp,by simp[Hp.emp],rfl,rfl⟩) hr
theorem lN{P:Program}{f:Nat}{args args':List V}{v:V}{h:Hp}{K:V->Hp->Prop}(hs:Spec P f args' Hp.emp (Is v))(ha:mH h [] args args')(hK:K (v.gM (gD [])) h):Da P f args h K:=
 ⟨[],args',Hp.emp,Is v,hs,ha,by simp[Hp.emp],by simp,by rintro v' h' ⟨rfl,rfl⟩;exact hK⟩
theorem oT{P:Program}{f:Nat}{args args':List V}{v:V}{h:Hp}{K:V->Hp->Prop}(hs:Spec P f args' Hp.emp (Is v))(ha:mH h [] args args')(hK:K (v.gM (gD [])) h):fX P f args h K:=
 ⟨[],args',Hp.emp,v,⟨hs.fn,λC us a b c d=>(hs.run C us a b c d).mono (by rintro e w' ⟨u,v',h',F',e1,g,i,rfl,rfl⟩;exact⟨u,v',_,F',e1,g,i,rfl,rfl⟩)⟩,ha,by simp[Hp.emp],by simp,hK⟩
def gK(T:c8)(f:Nat)(args:List V)(v:V):Prop:=∀(h:Hp)(K:V->Hp->Prop),K v h->T f args h K
theorem ia{P:Program}{f:Nat}{args args':List V}{v:V}(hs:Spec P f args' Hp.emp (Is v))(ha:∀h,mH h [] args args')(hv:v.gM (gD [])=v):gK (fm P) f args v:=λh K hK=>⟨h,λ_ F _ _ hs=>⟨F,λ_ h=>h,hs⟩,lN hs (ha h) (by rw[hv];exact hK)⟩
theorem oh{P:Program}{f:Nat}{args args':List V}{v:V}(hs:Spec P f args' Hp.emp (Is v))(ha:∀h,mH h [] args args')(hv:v.gM (gD [])=v):gK (fX P) f args v:=λh K hK=>oT hs (ha h) (by rw[hv];exact hK)
def rh.uf:rh->List iI
 |.mov x=>[x]
 |.pick c a b=>[c,a,b]
 |.alloc _ _=>[]
 |.box _ _ x=>[x]
 |.build _ ps=>ps.map (·.2.2)
 |.bslice _ _ ps=>ps
 |.load1 x=>[x]
 |.loadn _ x=>[x]
 |.store _ x v=>[x,v]
 |.nilchk x=>[x]
 |.bin _ x y=>[x,y]
 |.eqb _ x y=>[x,y]
 |.eqp _ x y=>[x,y]
 |.eqn _ x=>[x]
 |.eqs _ _ x y=>[x,y]
 |.not x=>[x]
 |.conv _ x=>[x]
 |.mkslice _ _ _ _ l c=>[l,c]
 |.slstr x lo hi=>x::(lo.toList++hi.toList)
 |.slsl _ x lo hi=>x::(lo.toList++hi.toList)
 |.faddr _ x=>[x]
 |.fld1 _ x=>[x]
 |.fldn _ _ x=>[x]
 |.iaddr _ x i=>[x,i]
 |.iarr _ _ x i=>[x,i]
 |.ixs x i=>[x,i]
 |.ext _ x=>[x]
 |.len _ x=>[x]
 |.mm _ x y=>[x,y]
 |.append _ _ _ x y=>[x,y]
 |.call _ xs=>xs
 |.callv x xs=>x::xs
 |.mkfn _ xs=>xs
 |.convbs x=>[x]
 |.dead=>[]
 |.ixa _ _ _ x i=>[x,i]
theorem rn{p:Prim}{T:c8}{op:rh}{ev ev':iI->V}{h:Hp}{k:Nat}{K:V->Hp->Prop}(he:∀x∈op.uf,ev x=ev' x):fV p T op ev h k K=fV p T op ev' h k K:=by
 cases op<;>simp only[rh.uf] at he<;>simp only[fV]
 case build z ps=>
  have e:∀q∈ps,ev q.2.2=ev' q.2.2:=λq hq=>he _ (aC.2 ⟨q,hq,rfl⟩);have e1:(ps.all λq=>nM q.2.1 (ev q.2.2))=ps.all λq=>nM q.2.1 (ev' q.2.2):=by
   rw[cf,aQ,aQ];exact⟨λh q hq=>by rw[<-e q hq];exact h q hq,λh q hq=>by rw[e q hq];exact h q hq⟩
  have a:(ps.map λq=>(q.1,(ev q.2.2).cells))=ps.map λq=>(q.1,(ev' q.2.2).cells):=cl λq hq=>by rw[e q hq]
  rw[e1,a]
 case bslice ty sz ps=>
  have e1:(ps.all λq=>nM sz (ev q))=ps.all λq=>nM sz (ev' q):=by
   rw[cf,aQ,aQ];exact⟨λh q hq=>by rw[<-he q hq];exact h q hq,λh q hq=>by rw[he q hq];exact h q hq⟩
  have a:(ps.map λq=>(ev q).cells)=ps.map λq=>(ev' q).cells:=cl λq hq=>by rw[he q hq]
  rw[e1,a]
 case call f xs=>rw[cl he]
 case mkfn f xs=>rw[cl he]
 case callv x xs=>rw[he x (by simp),cl λq hq=>he q (by simp[hq])]
 case slstr x lo hi=>
  rw[he x (by simp)];cases lo<;>cases hi<;>simp_all
 case slsl sz x lo hi=>
  rw[he x (by simp)];cases lo<;>cases hi<;>simp_all
 all_goals(simp_all)
def rh.ru:rh->Bool
 |.mov _|.pick .. |.build .. |.nilchk _|.bin .. |.eqb .. |.eqp .. |.not _|.conv .. |.slstr .. |.slsl .. |.faddr .. |.fld1 .. |.fldn .. |.iaddr .. |.iarr .. |.ixs .. |.ext .. |.mm .. =>true
 |.len .. =>true
 |.eqs .. =>true
 |.mkfn .. =>true
 |_=>false
def rh.He:rh->Bool
 |.load1 _|.loadn .. =>true
 |_=>false
def gF(Φ:(V->Prop)->Prop):Prop:=∀K,Φ K->∃v,K v/\∀a,(Φ a↔a v)
theorem gF.unit(v:V):gF λK=>K v:=λK h=>⟨v,h,λ_=>Iff.rfl⟩
theorem gF.no:gF λ_=>False:=λK h=>h.elim
theorem gF.and{A:Prop}{Φ:(V->Prop)->Prop}(h:gF Φ):gF λK=>A/\Φ K:=λK⟨a,hk⟩=>by
 obtain⟨v,h1,h2⟩:=h K hk;exact⟨v,h1,λc=>⟨λb=>(h2 c).1 b.2,λb=>⟨a,(h2 c).2 b⟩⟩⟩
theorem gF.ex{α:Type}{A:α->Prop}{Φ:α->(V->Prop)->Prop}(hu:∀x y,A x->A y->x=y)(h:∀x,gF (Φ x)):gF λK=>∃x,A x/\Φ x K:=λK⟨x,a,hk⟩=>by
 obtain⟨v,h1,h2⟩:=h x K hk;exact⟨v,h1,λd=>⟨λ⟨y,b,c⟩=>by rw[hu y x b a] at c;exact(h2 d).1 c,λc=>⟨x,a,(h2 d).2 c⟩⟩⟩
theorem gF.arith(k:IntKind)(n:Int):gF (rk dn k n):=by
 cases k<;>first|exact gF.unit _|exact gF.and (gF.unit _)
theorem gF.bin(op:BinOp)(x y:V):gF (BE dn op x y):=by
 cases x<;>cases y<;>try(cases op<;>exact gF.no)
 case int.int k a k' b=>
  cases op<;>first|exact gF.no|exact gF.and (gF.arith _ _)|exact gF.and (gF.and (gF.and (gF.arith _ _)))|exact gF.and (gF.and (gF.and (gF.unit _)))|exact gF.and (gF.and (gF.arith _ _))|exact gF.and (gF.and (gF.unit _))|exact gF.and (gF.unit _)
 case str.str a b=>
  cases op<;>first|exact gF.no|exact gF.and (gF.unit _)|exact gF.unit _
theorem gF.len(s:Bool)(x:V):gF (Qg dn s x):=by
 cases s<;>cases x<;>first|exact gF.no|exact gF.unit _
theorem gF.eqb(n:Bool)(x y:V):gF (Bp n x y):=by
 cases x<;>cases y<;>first|exact gF.no|exact gF.unit _
theorem gF.eqp(n:Bool)(x y:V):gF (yN n x y):=by
 unfold yN;cases Tg x y with
 |none=>exact gF.no
 |some b=>exact gF.unit _
theorem gF.c1{t:Nat}{x y:V}{Φ:Bool->(V->Prop)->Prop}(h:∀b,gF (Φ b)):gF λK=>BF dn t x y λb=>Φ b K:=by
 unfold BF
 split
 ·exact h _
 ·exact gF.and (h _)
 ·exact h _
 ·exact gF.no
theorem gF.cs:∀{ts:List Nat}{cs c:List V}{Φ:Bool->(V->Prop)->Prop},(∀b,gF (Φ b))->gF λK=>pw dn ts cs c λb=>Φ b K
 |[],[],[],Φ,h=>h true
 |[t],[a],[b],Φ,h=>gF.c1 h
 |t::t2::ts,a::l,b::m,Φ,h=>gF.c1 λx=>gF.cs λy=>h _
 |[t],a::a2::l,b::m,Φ,h=>gF.c1 λx=>gF.no
 |[t],[a],b::b2::m,Φ,h=>gF.c1 λx=>gF.no
 |[],_::_,_,Φ,h=>by simp only[pw];exact gF.no
 |[],[],_::_,Φ,h=>by simp only[pw];exact gF.no
 |_::_,[],_,Φ,h=>by simp only[pw];exact gF.no
 |_::_,_::_,[],Φ,h=>by simp only[pw];exact gF.no
theorem gF.eqs(n:Bool)(ts:List Nat)(x y:V):gF (G9 dn n ts x y):=by
 cases x<;>cases y<;>try exact gF.no
 cases n
 ·exact gF.cs (Φ:=λb K=>K (.bool b)) λb=>gF.unit _
 ·refine gF.cs (Φ:=λb K=>br b (λ_=>K (.bool false)) (λ_=>K (.bool true))) λb=>?_;cases b
  ·exact gF.unit (.bool true)
  ·exact gF.unit (.bool false)
theorem gF.nth(cs:List V)(i:Nat):gF (xK cs i):=gF.and (gF.unit _)
theorem gF.lo{lo:Option V}{Φ:Int->(V->Prop)->Prop}(h:∀a,gF (Φ a)):gF λK=>GB lo λa=>Φ a K:=by
 cases lo with
 |none=>exact h 0
 |some v=>cases v<;>first|exact h _|exact gF.no
theorem gF.hi{hi:Option V}{n:Int}{Φ:Int->(V->Prop)->Prop}(h:∀a,gF (Φ a)):gF λK=>Qh dn hi n λa=>Φ a K:=by
 cases hi with
 |none=>exact h n
 |some v=>cases v<;>first|exact h _|exact gF.no
theorem ir{T:c8}{op:rh}{ev:iI->V}{h:Hp}{k:Nat}{K:V->Hp->Prop}{Φ:(V->Prop)->Prop}(hd:gF Φ)(he:∀h2 k2(a:V->Hp->Prop),fV dn T op ev h2 k2 a=Φ λv=>a v h2)(b:fV dn T op ev h k K):
  ∃v,K v h/\∀h2 k2(a:V->Hp->Prop),(fV dn T op ev h2 k2 a↔a v h2):=by
 rw[he] at b;obtain⟨v,h1,h2⟩:=hd _ b;exact⟨v,h1,λg k2 a=>by rw[he];exact h2 _⟩
theorem ze{T:c8}{op:rh}{ev:iI->V}{h:Hp}{k:Nat}{K:V->Hp->Prop}(hp:op.ru=true)(d:fV dn T op ev h k K):
  ∃v,K v h/\∀h2 k2(e:V->Hp->Prop),(fV dn T op ev h2 k2 e↔e v h2):=by
 cases op<;>try(cases hp;done)
 case mov x=>exact ir (gF.unit (ev x)) (λ_ _ _=>rfl) d
 case pick c a b=>
  cases hc:ev c<;>try(simp only[fV,hc] at d;done)
  case bool t=>
   cases t
   ·exact ir (gF.unit (ev b)) (λ_ _ _=>by simp only[fV,hc]) d
   ·exact ir (gF.unit (ev a)) (λ_ _ _=>by simp only[fV,hc]) d
 case build z ps=>exact ir (gF.and (gF.unit _)) (λ_ _ _=>rfl) d
 case nilchk x=>
  cases hc:ev x<;>try(simp only[fV,hc] at d;done)
  all_goals exact ir (gF.unit (ev x)) (λ_ _ _=>by simp only[fV,hc]) d
 case bin op x y=>exact ir (gF.bin op (ev x) (ev y)) (λ_ _ _=>rfl) d
 case eqb n x y=>exact ir (gF.eqb n (ev x) (ev y)) (λ_ _ _=>rfl) d
 case eqp n x y=>exact ir (gF.eqp n (ev x) (ev y)) (λ_ _ _=>rfl) d
 case eqs n ts x y=>exact ir (gF.eqs n ts (ev x) (ev y)) (λ_ _ _=>rfl) d
 case mkfn f xs=>exact ir (gF.unit (.fn f (xs.map ev))) (λ_ _ _=>rfl) d
 case not x=>
  cases hc:ev x<;>try(simp only[fV,hc] at d;done)
  case bool t=>
   cases t
   ·exact ir (gF.unit (.bool true)) (λ_ _ _=>by simp only[fV,hc,br]) d
   ·exact ir (gF.unit (.bool false)) (λ_ _ _=>by simp only[fV,hc,br]) d
 case conv kd x=>
  cases hc:ev x<;>try(simp only[fV,hc] at d;done)
  case int k n=>exact ir (gF.unit (.int kd (dn.wrap kd n))) (λ_ _ _=>by simp only[fV,hc]) d
 case slstr x lo hi=>
  cases hc:ev x<;>try(simp only[fV,hc] at d;done)
  case str l=>exact ir (gF.lo (lo:=lo.map ev) λa=>gF.hi (hi:=hi.map ev) (n:=dn.c9 l) λb=>gF.and (A:=dn.fC 0 a) (gF.and (A:=dn.fC a b) (gF.and (A:=dn.fC b (dn.c9 l)) (gF.unit (.str (dn.jy l a b)))))) (λ_ _ _=>by simp only[fV,hc]) d
 case slsl sz x lo hi=>
  cases hc:ev x<;>try(simp only[fV,hc] at d;done)
  case sl t sz' rows=>exact ir (gF.and (A:=sz'=sz) (gF.lo (lo:=lo.map ev) λa=>gF.hi (hi:=hi.map ev) (n:=dn.dv rows) λb=>gF.and (A:=dn.fC 0 a) (gF.and (A:=dn.fC a b) (gF.and (A:=dn.fC b (dn.dv rows)) (gF.unit (.sl t sz (dn.jn rows a b))))))) (λ_ _ _=>by simp only[fV,hc]) d
  case own j bk sz' n=>exact ir (gF.and (A:=sz'=sz) (gF.lo (lo:=lo.map ev) λa=>gF.hi (hi:=hi.map ev) (n:=dn.int n) λb=>gF.and (A:=dn.fC 0 a) (gF.and (A:=dn.fC a b) (gF.and (A:=dn.fC b (dn.int n)) (gF.unit (.win j bk sz a b)))))) (λ_ _ _=>by simp only[fV,hc]) d
 case faddr off x=>
  cases hc:ev x<;>try(simp only[fV,hc] at d;done)
  case ptr j b sz i o=>exact ir (gF.unit (.ptr j b sz i (o+off))) (λ_ _ _=>by simp only[fV,hc]) d
  case rp t cs=>exact ir (gF.unit (.rp t (cs.drop off))) (λ_ _ _=>by simp only[fV,hc]) d
 case fld1 off x=>
  cases hc:ev x<;>try(simp only[fV,hc] at d;done)
  case agg cs=>exact ir (gF.nth cs off) (λ_ _ _=>by simp only[fV,hc]) d
 case fldn off n x=>
  cases hc:ev x<;>try(simp only[fV,hc] at d;done)
  case agg cs=>exact ir (gF.and (A:=off+n<=cs.length) (gF.unit (.agg ((cs.drop off).take n)))) (λ_ _ _=>by simp only[fV,hc]) d
 case iaddr sz x i=>
  cases hi:ev i<;>try(cases hc:ev x<;>simp only[fV,hc,hi] at d;done)
  case int ki ii=>
   cases hc:ev x<;>try(simp only[fV,hc,hi] at d;done)
   case sl t sz' rows=>
    refine ir (gF.and (A:=sz'=sz) (gF.and (A:=dn.fC 0 ii) (gF.ex (A:=λr=>dn.row rows (dn.nat ii) r) (Φ:=λr K=>K (.rp t r)) (λx y h1 h2=>?_) λr=>gF.unit _))) (λ_ _ _=>by simp only[fV,hc,hi]) d;exact cT ((Eq.symm h1).trans h2)
   case own j b sz' n=>exact ir (gF.and (A:=sz'=sz) (gF.and (A:=dn.fC 0 ii) (gF.and (A:=dn.iO ii (dn.int n)) (gF.unit (.ptr j b sz (dn.nat ii) 0))))) (λ_ _ _=>by simp only[fV,hc,hi]) d
   case win j b sz' lo hi2=>exact ir (gF.and (A:=sz'=sz) (gF.and (A:=dn.fC 0 ii) (gF.and (A:=dn.iO ii (dn.sub hi2 lo)) (gF.unit (.ptr j b sz (dn.nat (dn.add lo ii)) 0))))) (λ_ _ _=>by simp only[fV,hc,hi]) d
 case iarr len sz x i=>
  cases hi:ev i<;>try(cases hc:ev x<;>simp only[fV,hc,hi] at d;done)
  case int ki ii=>
   cases hc:ev x<;>try(simp only[fV,hc,hi] at d;done)
   case ptr j b sz' r off=>exact ir (gF.and (A:=dn.fC 0 ii) (gF.and (A:=dn.iO ii len) (gF.ex (A:=λn=>dn.nat ii=n) (Φ:=λn K=>K (.ptr j b sz' r (off+n*sz))) (λx y h1 h2=>h1.symm.trans h2) λn=>gF.unit _))) (λ_ _ _=>by simp only[fV,hc,hi]) d
   case rp t cs=>exact ir (gF.and (A:=dn.fC 0 ii) (gF.and (A:=dn.iO ii len) (gF.ex (A:=λn=>dn.nat ii=n) (Φ:=λn K=>K (.rp t (cs.drop (n*sz)))) (λx y h1 h2=>h1.symm.trans h2) λn=>gF.unit _))) (λ_ _ _=>by simp only[fV,hc,hi]) d
 case ixs x i=>
  cases hi:ev i<;>try(cases hc:ev x<;>simp only[fV,hc,hi] at d;done)
  case int ki ii=>
   cases hc:ev x<;>try(simp only[fV,hc,hi] at d;done)
   case str l=>exact ir (gF.and (A:=dn.fC 0 ii) (gF.and (A:=dn.iO ii (dn.c9 l)) (gF.unit (.int .u8 (dn.sat l ii))))) (λ_ _ _=>by simp only[fV,hc,hi]) d
 case ext i x=>
  cases hc:ev x<;>try(simp only[fV,hc] at d;done)
  case tup vs=>exact ir (gF.and (A:=i<vs.length) (gF.unit (vs.getD i .iC))) (λ_ _ _=>by simp only[fV,hc]) d
 case len s x=>exact ir (gF.len s (ev x)) (λ_ _ _=>rfl) d
 case mm mx x y=>
  cases mx<;>cases hi:ev y<;>try(cases hc:ev x<;>simp only[fV,hc,hi] at d;done)
  all_goals
   rename_i k' b;cases hc:ev x<;>try(simp only[fV,hc,hi] at d;done)
  all_goals rename_i k a
  ·exact ir (gF.and (A:=k=k') (gF.unit (.int k (dn.mn a b)))) (λ_ _ _=>by simp only[fV,hc,hi]) d
  ·exact ir (gF.and (A:=k=k') (gF.unit (.int k (dn.mx a b)))) (λ_ _ _=>by simp only[fV,hc,hi]) d
def Hp.le(h h2:Hp):Prop:=∀k o,h k=some o->h2 k=some o
theorem Hp.le_refl(h:Hp):h.le h:=λ_ _ h=>h
theorem E9{h h2:Hp}(hl:h.le h2){sz:Nat}{v:V}{rows:List (List V)}(hr:rowsOf h sz v=some rows):rowsOf h2 sz v=some rows:=by
 cases v<;>try exact hr
 rename_i k b sz' n;simp only[rowsOf] at hr⊢;cases hk:h k with
 |none=>rw[hk] at hr;cases hr
 |some o=>rw[hk] at hr;rw[hl k o hk];exact hr
theorem Arg.le{h h2:Hp}(hl:h.le h2){m:List (Nat×Nat)}{v v':V}(ha:Arg h m v v'):Arg h2 m v v':=by
 induction ha with
 |same v=>exact .same v
 |own k b sz n rows hr hm=>exact .own k b sz n rows (E9 hl hr) hm
 |mY sz rows=>exact .mY sz rows
 |nil t sz=>exact .nil t sz
 |agg cs pb a ha ih=>exact .agg cs pb a ih
theorem mH.le{h h2:Hp}(hl:h.le h2){m:List (Nat×Nat)}{l l':List V}(ha:mH h m l l'):mH h2 m l l':=by
 induction ha with
 |nil=>exact .nil
 |cons a b ih=>exact .cons (a.le hl) ih
def Xp(T:c8)(op:rh):Prop:=∀(ev:iI->V)(h:Hp)(k:Nat)(K:V->Hp->Prop),fV dn T op ev h k K->
 ∃v,K v h/\∀(h2:Hp)(k2:Nat)(a:V->Hp->Prop),h.le h2->a v h2->fV dn T op ev h2 k2 a
theorem Mr{h h2:Hp}(hl:h.le h2){k sz i:Nat}{b:Option Nat}{K c:Ob->List V->Prop}(a:oQ dn h k b sz i K)(hK:∀o r,K o r->c o r):oQ dn h2 k b sz i c:=by
 unfold oQ at*;cases hk:h k with
 |none=>rw[hk] at a;exact a.elim
 |some o=>
  rw[hk] at a;rw[hl k o hk];obtain⟨h1,h2,h3⟩:=a;refine⟨h1,h2,?_⟩
  split at h3
  ·split at h3
   ·exact hK _ _ h3
   ·exact h3.elim
  ·obtain⟨r,hr,h4⟩:=h3;exact⟨r,hr,hK _ _ h4⟩
theorem zf{h:Hp}{k sz i:Nat}{b:Option Nat}{Φ:List V->(V->Prop)->Prop}(c:∀r,gF (Φ r)){K:V->Prop}(d:oQ dn h k b sz i λ_ r=>Φ r K):
  ∃v,K v/\∀(h2:Hp)(a:V->Prop),h.le h2->a v->oQ dn h2 k b sz i λ_ r=>Φ r a:=by
 unfold oQ at d;cases hk:h k with
 |none=>rw[hk] at d;exact d.elim
 |some o=>
  rw[hk] at d;obtain⟨h1,h2,h3⟩:=d
  split at h3
  ·rename_i hb
   split at h3
   ·rename_i r e;obtain⟨v,g1,g2⟩:=c r K h3;refine⟨v,g1,λh4 a hl hk2=>?_⟩;unfold oQ;rw[hl k o hk];refine⟨h1,h2,?_⟩;rw[hb,e];exact(g2 a).2 hk2
   ·exact h3.elim
  ·rename_i hb;obtain⟨r,hr,h4⟩:=h3;obtain⟨v,g1,g2⟩:=c r K h4;refine⟨v,g1,λh5 a hl hk2=>?_⟩;unfold oQ;rw[hl k o hk];refine⟨h1,h2,?_⟩;rw[hb];exact⟨r,hr,(g2 a).2 hk2⟩
theorem Ql{P:Program}{op:rh}(hc:op.ru=true\/op.He=true\/(∃f xs,op=.call f xs)\/∃x xs,op=.callv x xs):Xp (fX P) op:=by
 intro ev h k K a;have call:∀f xs,fX P f xs h K->∃v,K v h/\∀(h2:Hp)(c:V->Hp->Prop),h.le h2->c v h2->fX P f xs h2 c:=by
  rintro f xs ⟨m,args',hp,v,h1,h2,h3,h4,h5⟩;refine⟨_,h5,λg c hl hk=>⟨m,args',hp,v,h1,h2.le hl,h3,λp d=>?_,hk⟩⟩;obtain⟨a1,a2,o,a3,a4,a5⟩:=h4 p d;refine⟨a1,a2,o,a3,?_,a5⟩;simp only[ak] at a4⊢;obtain⟨ob,e,he⟩:=a4;exact⟨ob,hl _ _ e,he⟩
 rcases hc with hc|hc|⟨f,xs,rfl⟩|⟨x,xs,rfl⟩
 ·obtain⟨v,h1,h2⟩:=ze hc a;exact⟨v,h1,λg k2 c _ hk=>(h2 g k2 c).2 hk⟩
 ·cases op<;>try(cases hc;done)
  case load1 x=>
   cases hx:ev x<;>try(simp only[fV,hx,po] at a;done)
   case ptr j b sz i off=>
    simp only[fV,hx,po] at a;obtain⟨v,h1,h2⟩:=zf (Φ:=λr=>xK r off) (λr=>gF.nth r off) a;exact⟨v,h1,λg k2 c hl hk=>by simp only[fV,hx,po];exact h2 g (λv=>c v g) hl hk⟩
   case rp t cs=>
    simp only[fV,hx,po] at a;obtain⟨v,h1,h2⟩:=gF.nth cs 0 _ a;exact⟨v,h1,λg k2 c hl hk=>by simp only[fV,hx,po];exact(h2 _).2 hk⟩
  case loadn n x=>
   cases hx:ev x<;>try(simp only[fV,hx,pq] at a;done)
   case ptr j b sz i off=>
    simp only[fV,hx,pq] at a;obtain⟨v,h1,h2⟩:=zf (K:=λv=>K v h) (Φ:=λr K=>off+n<=r.length/\K (.agg ((r.drop off).take n))) (λr=>gF.and (gF.unit _)) a;exact⟨v,h1,λg k2 c hl hk=>by simp only[fV,hx,pq];exact h2 g (λv=>c v g) hl hk⟩
   case rp t cs=>
    simp only[fV,hx,pq] at a;exact⟨_,a.2,λg k2 c hl hk=>by simp only[fV,hx,pq];exact⟨a.1,hk⟩⟩
 ·obtain⟨v,h1,h2⟩:=call f _ a;exact⟨v,h1,λg k2 c hl hk=>h2 g c hl hk⟩
 ·cases hx:ev x<;>try(simp only[fV,hx] at a;done)
  simp only[fV,hx] at a;obtain⟨v,h1,h2⟩:=call _ _ a;exact⟨v,h1,λg k2 c hl hk=>by simp only[fV,hx];exact h2 g c hl hk⟩
end Go.Proofs.YtobngncjflogcaaGreat.AM
