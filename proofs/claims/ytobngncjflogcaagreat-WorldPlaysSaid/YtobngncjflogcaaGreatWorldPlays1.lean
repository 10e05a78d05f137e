/-
  Part 1 of what the law WorldPlays reaches: the plain machine, contracts of the functions and plain laws; each lemma says its own condition.
-/
import Derived.Test.YtobngncjflogcaaGreatRows
import Derived.ProofKit
import Derived.SizedLaws
import Derived.WalkKit
import Derived.Laws.AppendOwn
import GoSem.ClaimData
import Derived.BigFrame
import Derived.Laws.CopyRow
namespace Go.Proofs
theorem qW{p:Prop}(h:p:=by omega):p:=h
theorem qD{p:Prop}(h:p:=by decide):p:=h
abbrev BS:=List UInt8
abbrev aa:=@if_neg
abbrev ae:=@if_pos
abbrev af:=@List.getElem?_eq_getElem
abbrev ag:=@Nat.le_refl
abbrev ah:=@List.getElem?_eq_some_iff
abbrev aj:=@Nat.zero_lt_succ
abbrev an:=@List.length_append
abbrev aq:=@List.eq_nil_of_length_eq_zero
abbrev ar:=@List.length_cons
abbrev au:=@Option.map_eq_some_iff
abbrev av:=@List.getElem?_map
abbrev aw:=@List.mem_singleton
abbrev ax:=@List.mem_cons
abbrev ay:=@List.cons_append
abbrev az:=@List.mem_of_getElem?
abbrev aA:=@List.getD_eq_getElem?_getD
abbrev aB:=@List.replicate_succ
abbrev aC:=@List.mem_map
abbrev aD:=@Array.getElem?_eq_some_iff
abbrev aE:=@List.all_eq_true
abbrev aF:=@List.not_mem_nil
abbrev aG:=@Decidable.of_not_not
abbrev aH:=@Option.some.injEq
abbrev aI:=@List.length_map
abbrev aJ:=@List.append_nil
abbrev aK:=@List.length_nil
abbrev aL:=@List.map_cons
abbrev aM:=@Int.toNat_natCast
abbrev aN:=@Option.map_some
abbrev aO:=@Bool.and_eq_true
abbrev aP:=@List.append_assoc
abbrev aQ:=@Array.getElem?_eq_getElem
abbrev aR:=@congrArg
abbrev aS:=@Nat.zero_add
abbrev aT:=@Int.natCast_nonneg
abbrev aU:=@List.mem_append
abbrev aV:=@List.getElem?_append_right
abbrev aW:=@List.getElem?_append_left
abbrev aX:=@Prod.mk.injEq
abbrev aY:=@Nat.eq_of_beq_eq_true
abbrev aZ:=@List.length_take
abbrev bd:=@Nat.zero_le
abbrev bf:=@Int.le_refl
abbrev bg:=@List.getElem?_drop
abbrev bh:=@Nat.mul_le_mul_right
abbrev bj:=@or_false
abbrev bn:=@List.getElem?_take
abbrev bq:=@List.getElem?_cons_zero
abbrev bu:=@List.drop_append_of_le_length
abbrev bA:=@List.length_drop
abbrev bB:=@List.cons.injEq
abbrev bC:=@Bool.or_eq_true
abbrev bD:=@List.take_of_length_le
abbrev bE:=@Nat.lt_of_lt_of_le
abbrev bF:=@Option.isSome_iff_exists
abbrev bG:=@Nat.le_trans
abbrev bH:=@Array.length_toList
abbrev bI:=@List.flatten_cons
abbrev bJ:=@List.mem_range
abbrev bK:=@Array.getElem?_setIfInBounds
abbrev bL:=@List.take_append_drop
abbrev bM:=@List.mem_cons_of_mem
abbrev bN:=@Nat.add_mul
abbrev bO:=@List.nil_append
abbrev bP:=@Nat.add_zero
abbrev bQ:=@List.map_congr_left
abbrev bR:=@List.mem_append_right
abbrev bS:=@List.mem_cons_self
abbrev bT:=@Option.bind_eq_some_iff
abbrev bU:=@decide_eq_true_eq
abbrev bV:=@decide_eq_true
abbrev bW:=@List.map_append
abbrev bX:=@List.drop_eq_getElem_cons
abbrev bY:=@Array.getElem?_toList
abbrev bZ:=@BitVec.xor_assoc
abbrev b9:=@Nat.beq_refl
abbrev cd:=@List.mem_filter
abbrev cf:=@BitVec.xor_zero
abbrev cg:=@Nat.add_assoc
abbrev cj:=@List.take_length
abbrev cl:=@Array.getElem?_append_left
abbrev cr:=@List.pairwise_cons
abbrev ct:=@List.getElem?_eq_none
abbrev cu:=@List.length_singleton
abbrev cw:=@Nat.shiftRight_eq_div_pow
abbrev cx:=@Bool.eq_iff_iff
abbrev cy:=@List.mem_of_mem_drop
abbrev cz:=@List.getElem?_set
abbrev cA:=@List.replicate_succ'
abbrev cB:=@of_decide_eq_true
abbrev cC:=@List.any_cons
abbrev cD:=@Array.eq_empty_of_size_eq_zero
abbrev cE:=@List.any_eq_true
abbrev cG:=@List.eq_nil_iff_forall_not_mem
abbrev cH:=@BitVec.ushiftRight_xor_distrib
abbrev cI:=@List.take_append_of_le_length
abbrev cJ:=@List.map_nil
abbrev cK:=@Array.getElem?_eq_none
abbrev cL:=@Option.some.inj
abbrev cM:=@List.nodup_cons
abbrev cN:=@Bool.or_false
abbrev cO:=@List.singleton_append
abbrev cP:=@List.mem_iff_getElem?
abbrev cQ:=@List.size_toArray
abbrev cS:=@List.mem_of_mem_take
abbrev cT:=@List.pairwise_append
abbrev cU:=@List.drop_drop
abbrev cV:=@List.drop_zero
abbrev cW:=@Nat.mod_eq_of_lt
abbrev cX:=@List.flatten_nil
abbrev cY:=@List.any_nil
abbrev cZ:=@List.take_succ_cons
abbrev c9:=@List.drop_succ_cons
abbrev db:=@List.flatten_append
abbrev de:=@BitVec.toNat_ushiftRight
abbrev dg:=@decide_eq_false
abbrev dh:=@Array.getElem?_map
abbrev di:=@List.append_of_mem
abbrev dj:=@of_decide_eq_false
abbrev dm:=@Nat.le_mul_of_pos_right
abbrev dp:=@List.getElem?_cons_succ
abbrev dq:=@List.getElem?_replicate
abbrev dt:=@Array.getElem?_extract
abbrev du:=@ByteArray.data_extract
abbrev dw:=@List.drop_take
abbrev dy:=@Int.add_zero
abbrev dz:=@Bool.not_eq_true'
abbrev dA:=@List.flatMap_cons
abbrev dB:=@List.zipWith_cons_cons
abbrev dC:=@List.getElem?_set_self
abbrev dD:=@List.replicate_append_replicate
abbrev dF:=@List.eq_nil_or_concat
abbrev dG:=@List.concat_eq_append
abbrev dH:=@Array.getElem?_modify
abbrev dI:=@BitVec.toNat_and
abbrev dJ:=@List.drop_length
abbrev dK:=@List.mem_append_left
abbrev dL:=@List.getElem?_of_mem
abbrev dM:=@List.dropLast_concat
abbrev dN:=@Int.natCast_add
abbrev dO:=@List.foldl_cons
abbrev dP:=@List.dropLast_concat_getLast
abbrev dQ:=@List.length_pos_iff
abbrev dR:=@Nat.zero_mul
abbrev dT:=@Nat.lt_or_ge
abbrev dU:=@Int.tdiv_eq_ediv_of_nonneg
abbrev dV:=@Int.tmod_eq_emod_of_nonneg
abbrev dW:=@Nat.eq_of_mul_eq_mul_right
abbrev dX:=@List.set_cons_zero
abbrev dY:=@Array.ext_getElem?
abbrev dZ:=@BitVec.getLsbD_ushiftRight
abbrev ea:=@BitVec.getLsbD_and
abbrev eb:=@BitVec.getLsbD_not
abbrev ec:=@BitVec.toNat_ofNat
abbrev eg:=@Array.getElem_ofFn
abbrev eh:=@List.mem_or_eq_of_mem_set
abbrev ei:=@List.take_add_one
abbrev ej:=@List.map_toArray
abbrev ek:=@List.range'_succ
abbrev en:=@List.pairwise_lt_range'
abbrev eo:=@decide_eq_false_iff_not
abbrev ep:=@BitVec.eq_of_getLsbD_eq
abbrev et:=@congrFun
abbrev eu:=@Nat.sub_self
abbrev ew:=@List.map_map
abbrev ey:=@List.getElem_cons_zero
abbrev ez:=@Int.le_trans
abbrev eA:=@List.drop_eq_nil_of_le
abbrev eB:=@Int.natCast_mul
abbrev eC:=@List.length_set
abbrev eD:=@List.set_append
abbrev eE:=@BitVec.xor_comm
abbrev eG:=@List.getElem?_toArray
abbrev eH:=@List.length_replicate
abbrev eI:=@BitVec.shiftRight_add
abbrev eJ:=@List.zipWith_nil_left
abbrev eK:=@List.take_zero
abbrev eL:=@List.map_drop
abbrev eM:=@cond_false
abbrev eN:=@Nat.mul_comm
abbrev eO:=@and_true
abbrev eQ:=@true_and
end Go.Proofs
set_option linter.unusedVariables false
set_option linter.unusedSimpArgs false
namespace Go.Proofs.YtobngncjflogcaaGreat
open Go.ChangeShapes Go.WideShapes Go.ChangeAt Go.RowKit
theorem Tryz.own:ownKnob Tryz.prog.godebug=none:=by kernel_rfl
theorem Tryz.laidOut:laidOutB Tryz.prog=true:=by kernel_rfl
theorem pU{H:Type}{enc:TypeId×Value->H}{P:Program}(hl:laidOutB P=true){W a:World}(hb:Below W.heap.size W a):
  ∀{ts:List TypeId}{vs:List Value}{c:List (DataW H)}{ps:List MemPlace},(∀t∈ts,P.readableRec t=true/\t<P.types.size)->
   DataW.TrodAll enc P W 0 (λ_=>true) true ts vs c ps->(∀x∈ps,x.block<W.heap.size)->
   DataW.TrodAll enc P a 0 (λb=>decide (b<W.heap.size)) true ts vs c ps
 |[],[],[],_,_,h,_=>h
 |t::_,_::_,_::_,_,hr,⟨p,q,h,hs,e⟩,hlt=>
  ⟨p,q,Below.trod hl (hr t bS).1 (hr t bS).2 h hb (λx hx=>hlt x (by rw[e];exact dK _ hx)),
   pU hl hb (λt ht=>hr t (bM _ ht)) hs (λx hx=>hlt x (by rw[e];exact bR _ hx)),e⟩
 |[],_::_,_,_,_,h,_=>h.elim
 |[],[],_::_,_,_,h,_=>h.elim
 |_::_,[],_,_,_,h,_=>h.elim
 |_::_,_::_,[],_,_,h,_=>h.elim
theorem F3{H:Type}{enc:TypeId×Value->H}{fn:Func}{s:ChangeSpec}{W e:World}{args:Array Value}{c:List (DataW H)}{before:List MemPlace}
  (hv:s.vars=[])(hr:fn.resultTypes= #[4])(a:∀t∈fn.params.toList,Tryz.prog.readableRec t=true/\t<Tryz.prog.types.size)
  (f:DataW.Whole enc Tryz.prog fn.params.toList s.vars false W args.toList c [] before)
  (hlt:∀x∈before,x.block<W.heap.size)
  (hs:s.fn H (c++[])= {results:=[.lit (.bool true)],args:=c})(hb:Below W.heap.size W e):
  s.post enc Tryz.prog fn false true false false W args (.bool true) e:=by
 have d:=f;obtain⟨p,q,hA,g,rfl,_,_⟩:=f;rw[hv] at g;obtain⟨_,rfl⟩:=trodVars_none g;have b:(s.fn H (c++[])).vars=[]:=by rw[hs]
 refine⟨c,[],p++[],[],p,[],d,?_,?_,?_,hb.frame _,λh=>by cases h⟩
 ·rw[hs,hr];exact trodAll_mk1 (shut_bool Tryz.underlying4 true)
 ·rw[hs];exact pU Tryz.laidOut hb a hA (λx hx=>hlt x (dK _ hx))
 ·rw[b,hv];rfl
end Go.Proofs.YtobngncjflogcaaGreat
namespace Go.Proofs.YtobngncjflogcaaGreat.AM
open Go
inductive V where
 |int(k:IntKind)(n:Int)
 |bool(b:Bool)
 |str(l:BS)
 |agg(cs:List V)
 |tup(vs:List V)
 |sl(t:Bool)(sz:Nat)(rows:List (List V))
 |nilsl
 |own(k:Nat)(b:Option Nat)(sz len:Nat)
 |win(k:Nat)(b:Option Nat)(sz:Nat)(lo hi:Int)
 |ptr(k:Nat)(b:Option Nat)(sz i off:Nat)
 |rp(t:Bool)(cs:List V)
 |nil
 |fn(f:Nat)(caps:List V)
 |raw(v:Value)
 |nu
 |gS
 deriving Inhabited
structure Ob where
 b:Option Nat
 ty:Nat
 sz:Nat
 rows:List (List V)
 deriving Inhabited
abbrev Hp:=Nat->Option Ob
def Hp.emp(_:Nat):Option Ob:=none
def Hp.put(h:Hp)(k:Nat)(o:Ob)(i:Nat):Option Ob:=if i=k then some o else h i
def Hp.del(h:Hp)(k:Nat)(i:Nat):Option Ob:=if i=k then none else h i
structure S where
 t:Nat->V
 h:Hp
def iX(t:Nat->V)(d:Nat)(v:V)(i:Nat):V:=if i=d then v else t i
def S.set(s:S)(d:Nat)(v:V):S:=⟨iX s.t d v,s.h⟩
def S.put(s:S)(d:Option Nat)(v:V):S:=match d with|some d=>s.set d v|none=>s
def S.iq(s:S)(h:Hp):S:=⟨s.t,h⟩
inductive hJ where
 |t(i:Nat)
 |c(v:Value)
 deriving Inhabited
def yM:Value->V
 |.int k n=>.int k n
 |.bool b=>.bool b
 |.string s=>.str s.data.toList
 |.slice none 0 0=>.nilsl
 |.pointer none=>.nil
 |v=>.raw v
def PH:Value->V
 |.agg cs=>.agg (cs.toList.map yM)
 |.func (.func f) a b=>if a.size=0/\b.size=0 then .fn f [] else .gS
 |v=>yM v
def hJ.ev(s:S):hJ->V
 |.t i=>s.t i
 |.c v=>PH v
def V.one:V->Bool
 |.agg _=>false
 |.tup _=>false
 |.gS=>false
 |.nu=>false
 |.raw v=>v.oneCell'
 |_=>true
def V.cells:V->List V
 |.agg cs=>cs
 |v=>[v]
def V.fits(n:Nat)(v:V):Prop:=v.cells.length=n/\v.cells.all V.one=true
inductive pM where
 |mov(x:hJ)
 |pick(c a b:hJ)
 |alloc(ty:Nat)(z:List Value)
 |box(ty n:Nat)(x:hJ)
 |build(z:List Value)(parts:List (Nat×Nat×hJ))
 |bslice(ty sz:Nat)(parts:List hJ)
 |load1(x:hJ)
 |loadn(n:Nat)(x:hJ)
 |store(n:Nat)(x v:hJ)
 |nilchk(x:hJ)
 |bin(op:BinOp)(x y:hJ)
 |eqb(neg:Bool)(x y:hJ)
 |eqp(neg:Bool)(x y:hJ)
 |eqn(neg:Bool)(x:hJ)
 |eqs(neg:Bool)(ts:List Nat)(x y:hJ)
 |not(x:hJ)
 |conv(k:IntKind)(x:hJ)
 |mkslice(ty sz bytes:Nat)(z:List Value)(l c:hJ)
 |slstr(x:hJ)(lo hi:Option hJ)
 |slsl(sz:Nat)(x:hJ)(lo hi:Option hJ)
 |faddr(off:Nat)(x:hJ)
 |fld1(off:Nat)(x:hJ)
 |fldn(off n:Nat)(x:hJ)
 |iaddr(sz:Nat)(x i:hJ)
 |iarr(len sz:Nat)(x i:hJ)
 |ixs(x i:hJ)
 |ext(i:Nat)(x:hJ)
 |len(str:Bool)(x:hJ)
 |mm(mx:Bool)(x y:hJ)
 |append(ty sz bytes:Nat)(x y:hJ)
 |call(f:Nat)(args:List hJ)
 |callv(x:hJ)(args:List hJ)
 |mkfn(f:Nat)(caps:List hJ)
 |convbs(x:hJ)
 |dead
 |ixa(g:Bool)(len sz:Nat)(x i:hJ)
 deriving Inhabited
structure AO where
 d:Option Nat
 g:Option (Nat×Bool)
 op:pM
 deriving Inhabited
inductive AC where
 |skip
 |region(draw:Bool)(ops:List AO)
 |seq(a b:AC)
 |cond(c:hJ)(a b:AC)
 |block(id:Nat)(a:AC)
 |loop(a:AC)
 |exit(id:Nat)
 |ret
 |kO(ops:List (AO×List Nat))
 deriving Inhabited
theorem qA{a b:Prop}(k:b)(h:a:=by first|assumption|decide):a/\b:=⟨h,k⟩
theorem qM{α:Type}{l:List α}{x:α}(n:Nat)(h:l[n]? =some x):x∈l:=az h
abbrev q0:Value:=.int .i64 0
abbrev qe:Value:=.string ⟨#[]⟩
abbrev qI(n:Int):V:=.int .i64 n
abbrev qo(d:Nat)(p:pM):AO:=⟨some d,none,p⟩
abbrev qk(n:Int):hJ:=.c (.int .i64 n)
abbrev qm(d x:Nat):AO:=⟨some d,none,.mov (.t x)⟩
abbrev qz(d:Nat)(n:Int):AO:=⟨some d,none,.mov (.c (.int .i64 n))⟩
abbrev qf(d o x:Nat):AO:=⟨some d,none,.faddr o (.t x)⟩
abbrev ql(d x:Nat):AO:=⟨some d,none,.load1 (.t x)⟩
abbrev qn(d x:Nat):AO:=⟨some d,none,.nilchk (.t x)⟩
abbrev qx(d i x:Nat):AO:=⟨some d,none,.ext i (.t x)⟩
abbrev qd(d n x:Nat):AO:=⟨some d,none,.loadn n (.t x)⟩
abbrev qs(n x y:Nat):AO:=⟨none,none,.store n (.t x) (.t y)⟩
abbrev qb(d:Nat)(o:BinOp)(x y:Nat):AO:=⟨some d,none,.bin o (.t x) (.t y)⟩
abbrev qc(d:Nat)(o:BinOp)(x:Nat)(n:Int):AO:=⟨some d,none,.bin o (.t x) (.c (.int .i64 n))⟩
abbrev qa(d f:Nat)(l:List hJ):AO:=⟨some d,none,.call f l⟩
abbrev qg(d c:Nat)(b:Bool)(p:pM):AO:=⟨some d,some (c,b),p⟩
abbrev qr(l:List AO)(x:AC):AC:=.seq (.region false l) x
abbrev qR(l:List AO):AC:=.region false l
abbrev qq(a b:AC):AC:=.seq a b
abbrev qu(c:Nat)(x y:AC):AC:=.cond (.t c) x y
abbrev wj:List Value:=[q0,q0,qe]
abbrev PI:List Value:=[(.slice none 0 0),(.slice none 0 0)]
abbrev Sw:List Value:=[qe,q0,qe,q0]
abbrev D7:List Value:=[q0,q0]
abbrev F4:List Value:=[q0,q0,(.slice none 0 0)]
abbrev Vj:List Value:=[q0,q0,qe,q0,q0,q0,q0,q0,q0,q0,q0,q0,q0,q0,q0,q0,q0,q0,q0,q0,q0,q0,q0,q0,q0,q0,q0,q0,q0,q0,q0,q0,q0,q0,q0,(.slice none 0 0),(.bool false),q0]
abbrev Vk:List Value:=[q0,q0,q0,q0,q0,q0,q0,q0,q0,q0,q0,q0,q0,q0,q0,q0]
abbrev Vl:List Value:=[(.slice none 0 0),qe,q0]
abbrev Vm:List Value:=[(.bool false),(.slice none 0 0)]
abbrev OL:List Value:=[q0,q0,q0,(.slice none 0 0)]
abbrev iY:List Value:=[q0,q0,q0,qe,(.bool false),(.slice none 0 0),(.bool false),(.slice none 0 0)]
abbrev Sx:List Value:=[q0,q0,q0,qe,(.bool false),(.slice none 0 0),(.bool false),(.slice none 0 0),(.slice none 0 0),q0]
def iU(n:Int):Prop:= -9223372036854775808<=n/\n<=9223372036854775807
def arith(k:IntKind)(n:Int)(K:V->Prop):Prop:=
 match k with
 |.i64=>iU n/\K (.int .i64 n)
 |k=>K (.int k (k.wrap n))
def tW(op:BinOp)(x y:V)(K:V->Prop):Prop:=
 match op,x,y with
 |.add,.int k a,.int k' b=>k=k'/\arith k (a+b) K
 |.sub,.int k a,.int k' b=>k=k'/\arith k (a-b) K
 |.mul,.int k a,.int k' b=>k=k'/\arith k (a*b) K
 |.quo,.int k a,.int k' b=>k=k'/\0<=a/\0<b/\arith k (a/b) K
 |.rem,.int k a,.int k' b=>k=k'/\0<=a/\0<b/\K (.int k (a%b))
 |.shl,.int k a,.int _ b=>0<=b/\b<64/\arith k (a*2^b.toNat) K
 |.shr,.int k a,.int _ b=>0<=b/\b<k.bits/\K (.int k (a/2^b.toNat))
 |.and,.int k a,.int k' b=>k=k'/\K (.int k (k.wrap (BitVec.ofInt k.bits a&&&BitVec.ofInt k.bits b).toNat))
 |.or,.int k a,.int k' b=>k=k'/\K (.int k (k.wrap (BitVec.ofInt k.bits a|||BitVec.ofInt k.bits b).toNat))
 |.xor,.int k a,.int k' b=>k=k'/\K (.int k (k.wrap (BitVec.ofInt k.bits a^^^BitVec.ofInt k.bits b).toNat))
 |.lss,.int k a,.int k' b=>k=k'/\K (.bool (decide (a<b)))
 |.leq,.int k a,.int k' b=>k=k'/\K (.bool (decide (a<=b)))
 |.gtr,.int k a,.int k' b=>k=k'/\K (.bool (decide (b<a)))
 |.geq,.int k a,.int k' b=>k=k'/\K (.bool (decide (b<=a)))
 |.eql,.int k a,.int k' b=>k=k'/\K (.bool (decide (a=b)))
 |.neq,.int k a,.int k' b=>k=k'/\K (.bool (decide (a≠b)))
 |.add,.str a,.str b=>iU ((a.length:Int)+b.length)/\K (.str (a++b))
 |.eql,.str a,.str b=>K (.bool (decide (a=b)))
 |.neq,.str a,.str b=>K (.bool (decide (a≠b)))
 |_,_,_=>False
def m5(t:Nat)(x y:V):Option Bool:=
 match t,x,y with
 |0,.bool a,.bool b=>some (a==b)
 |1,.int k a,.int k' b=>if k=k' then some (decide (a=b)) else none
 |2,.str a,.str b=>some (decide (a=b))
 |_,_,_=>none
def gJ:List Nat->List V->List V->Option Bool
 |[],[],[]=>some true
 |t::ts,a::l,b::m=>match m5 t a b,gJ ts l m with
  |some x,some y=>some (x&&y)
  |_,_=>none
 |_,_,_=>none
def Sy(x y:V):Option Bool:=
 match x,y with
 |.nil,.nil=>some true
 |.ptr ..,.nil=>some false
 |.nil,.ptr .. =>some false
 |.rp ..,.nil=>some false
 |.nil,.rp .. =>some false
 |_,_=>none
def D8(neg:Bool)(x y:V)(K:V->Prop):Prop:=
 match x,y with
 |.bool a,.bool b=>K (.bool (if neg then !(a==b) else a==b))
 |_,_=>False
def yN(neg:Bool)(x y:V)(K:V->Prop):Prop:=match Sy x y with
 |some b=>K (.bool (if neg then !b else b))
 |none=>False
def Bf(neg:Bool)(ts:List Nat)(x y:V)(K:V->Prop):Prop:=
 match x,y with
 |.agg cs,.agg a=>match gJ ts cs a with
  |some b=>K (.bool (if neg then !b else b))
  |none=>False
 |_,_=>False
def kP(r:List V)(off:Nat)(cs:List V):List V:=r.take off++cs++r.drop (off+cs.length)
def wM(r:List V):List (Nat×List V)->List V
 |[]=>r
 |(o,cs)::ps=>wM (kP r o cs) ps
def rowsOf(h:Hp)(sz:Nat):V->Option (List (List V))
 |.sl _ sz' rows=>if sz'=sz then some rows else none
 |.nilsl=>some []
 |.own k b sz' n=>match h k with
  |some o=>if o.b=b/\o.sz=sz/\sz'=sz/\n<=o.rows.length then some (o.rows.take n) else none
  |none=>none
 |_=>none
def D9(str:Bool)(x:V)(K:V->Prop):Prop:=
 match str,x with
 |true,.str l=>K (.int .i64 l.length)
 |false,.sl _ _ rows=>K (.int .i64 rows.length)
 |false,.nilsl=>K (.int .i64 0)
 |false,.own _ _ _ n=>K (.int .i64 n)
 |false,.win _ _ _ lo hi=>K (.int .i64 (hi-lo))
 |_,_=>False
def PJ(neg:Bool)(x:V)(K:V->Prop):Prop:=match x with
 |.nilsl=>K (.bool (if neg then false else true))
 |.sl _ _ rows=>K (.bool (if neg then true else false))/\((rows.length:Int)=0->K (.bool (if neg then false else true)))
 |_=>False
def Bg(lo:Option V)(K:Int->Prop):Prop:=
 match lo with
 |some (.int _ n)=>K n
 |none=>K 0
 |_=>False
def LB(hi:Option V)(n:Nat)(K:Int->Prop):Prop:=
 match hi with
 |some (.int _ n)=>K n
 |none=>K n
 |_=>False
def xz(cs:List V)(i:Nat)(K:V->Prop):Prop:=i<cs.length/\K (cs.getD i .gS)
def tX(h:Hp)(k:Nat)(b:Option Nat)(sz i:Nat)(K:Ob->List V->Prop):Prop:=
 match h k with
 |some o=>o.b=b/\o.sz=sz/\i<o.rows.length/\K o (o.rows.getD i [])
 |none=>False
def oC(h:Hp)(x:V)(K:V->Prop):Prop:=
 match x with
 |.ptr j b sz i off=>tX h j b sz i λ_ r=>xz r off K
 |.rp _ cs=>xz cs 0 K
 |_=>False
def oD(h:Hp)(n:Nat)(x:V)(K:V->Prop):Prop:=
 match x with
 |.ptr j b sz i off=>tX h j b sz i λ_ r=>off+n<=r.length/\K (.agg ((r.drop off).take n))
 |.rp _ cs=>n<=cs.length/\K (.agg (cs.take n))
 |_=>False
def uO(h:Hp)(n:Nat)(x v:V)(K:Hp->Prop):Prop:=
 match x with
 |.ptr j b sz i off=>tX h j b sz i λo r=>off+n<=r.length/\v.fits n/\K (h.put j {o with rows:=o.rows.set i (kP r off v.cells)})
 |_=>False
def qY(h:Hp)(k ty sz bytes:Nat)(x y:V)(K:V->Hp->Prop):Prop:=
 match rowsOf h sz y with
 |some news=>match x with
  |.nilsl=>h k=none/\(news.length:Int)*bytes<=140737488355328/\∀β:Option Nat,K (.own k β sz news.length) (h.put k ⟨β,ty,sz,news⟩)
  |.own j b sz' n=>match h j with
   |some o=>o.b=b/\o.sz=sz/\sz'=sz/\o.ty=ty/\o.rows.length=n/\((n:Int)+news.length)*bytes<=140737488355328/\∀β:Option Nat,K (.own j β sz (n+news.length)) (h.put j ⟨β,ty,sz,o.rows++news⟩)
   |none=>False
  |.win j b sz' lo hi=>match h j with
   |some o=>o.b=b/\o.sz=sz/\sz'=sz/\o.ty=ty/\lo=hi/\(o.rows.length:Int)=lo/\(news.length:Int)*bytes<=140737488355328/\∀(β:Option Nat)(pre:List (List V)),pre=o.rows\/pre=[]->K (.win j β sz pre.length (pre.length+news.length)) (h.put j ⟨β,ty,sz,pre++news⟩)
   |none=>False
  |_=>False
 |none=>False
abbrev cp:=Nat->List V->Hp->(V->Hp->Prop)->Prop
def p5(C:cp)(op:pM)(ev:hJ->V)(h:Hp)(k:Nat)(K:V->Hp->Prop):Prop:=
 match op with
 |.mov x=>K (ev x) h
 |.pick c a b=>match ev c with
  |.bool t=>K (if t then ev a else ev b) h
  |_=>False
 |.alloc ty z=>h k=none/\z.all (λu=>u.oneCell')=true/\∀β:Nat,K (.ptr k (some β) z.length 0 0) (h.put k ⟨some β,ty,z.length,[z.map yM]⟩)
 |.box ty n x=>h k=none/\(ev x).fits n/\∀β:Nat,K (.ptr k (some β) n 0 0) (h.put k ⟨some β,ty,n,[(ev x).cells]⟩)
 |.build z parts=>(∀p∈parts,(ev p.2.2).fits p.2.1)/\K (.agg (wM (z.map yM) (parts.map λp=>(p.1,(ev p.2.2).cells)))) h
 |.bslice ty sz parts=>h k=none/\(∀p∈parts,(ev p).fits sz)/\∀β:Nat,K (.own k (some β) sz parts.length) (h.put k ⟨some β,ty,sz,parts.map λp=>(ev p).cells⟩)
 |.load1 x=>oC h (ev x) λv=>K v h
 |.loadn n x=>oD h n (ev x) λv=>K v h
 |.store n x v=>uO h n (ev x) (ev v) λh=>K .gS h
 |.nilchk x=>match ev x with
  |.ptr .. |.rp .. =>K (ev x) h
  |_=>False
 |.bin op x y=>tW op (ev x) (ev y) λv=>K v h
 |.eqb neg x y=>D8 neg (ev x) (ev y) λv=>K v h
 |.eqp neg x y=>yN neg (ev x) (ev y) λv=>K v h
 |.eqn neg x=>PJ neg (ev x) λv=>K v h
 |.eqs neg ts x y=>Bf neg ts (ev x) (ev y) λv=>K v h
 |.not x=>match ev x with
  |.bool b=>K (.bool !b) h
  |_=>False
 |.conv kd x=>match ev x with
  |.int _ n=>K (.int kd (kd.wrap n)) h
  |_=>False
 |.mkslice ty sz bytes z l c=>match ev l,ev c with
  |.int _ n,.int _ m=>h k=none/\0<=n/\m=n/\z.length=sz/\z.all (λu=>u.oneCell')=true/\n*bytes<=140737488355328/\n<=140737488355328/\∀β:Nat,K (.own k (some β) sz n.toNat) (h.put k ⟨some β,ty,sz,List.replicate n.toNat (z.map yM)⟩)
  |_,_=>False
 |.slstr x lo hi=>match ev x with
  |.str l=>Bg (lo.map ev) λa=>LB (hi.map ev) l.length λb=>0<=a/\a<=b/\b<=l.length/\K (.str ((l.take b.toNat).drop a.toNat)) h
  |_=>False
 |.slsl sz x lo hi=>match ev x with
  |.sl t sz' rows=>sz'=sz/\Bg (lo.map ev) λa=>LB (hi.map ev) rows.length λb=>0<=a/\a<=b/\b<=rows.length/\K (.sl t sz ((rows.take b.toNat).drop a.toNat)) h
  |.own j bk sz' n=>sz'=sz/\Bg (lo.map ev) λa=>LB (hi.map ev) n λb=>0<=a/\a<=b/\b<=n/\K (.win j bk sz a b) h
  |.win j bk sz' l0 h0=>sz'=sz/\Bg (lo.map ev) λa=>LB (hi.map ev) (h0-l0).toNat λb=>0<=a/\a<=b/\b<=((h0-l0).toNat:Int)/\K (.win j bk sz (l0+a) (l0+b)) h
  |_=>False
 |.faddr off x=>match ev x with
  |.ptr j b sz i o=>K (.ptr j b sz i (o+off)) h
  |.rp t cs=>K (.rp t (cs.drop off)) h
  |_=>False
 |.fld1 off x=>match ev x with
  |.agg cs=>xz cs off λv=>K v h
  |_=>False
 |.fldn off n x=>match ev x with
  |.agg cs=>off+n<=cs.length/\K (.agg ((cs.drop off).take n)) h
  |_=>False
 |.iaddr sz x i=>match ev x,ev i with
  |.sl t sz' rows,.int _ i=>sz'=sz/\0<=i/\i<rows.length/\K (.rp t (rows.getD i.toNat [])) h
  |.own j b sz' n,.int _ i=>sz'=sz/\0<=i/\i<n/\K (.ptr j b sz i.toNat 0) h
  |.win j b sz' lo hi,.int _ i=>sz'=sz/\0<=i/\i<hi-lo/\K (.ptr j b sz (lo+i).toNat 0) h
  |_,_=>False
 |.iarr len sz x i=>match ev x,ev i with
  |.ptr j b sz' r off,.int _ i=>0<=i/\i<len/\K (.ptr j b sz' r (off+i.toNat*sz)) h
  |.rp t cs,.int _ i=>0<=i/\i<len/\K (.rp t (cs.drop (i.toNat*sz))) h
  |_,_=>False
 |.ixs x i=>match ev x,ev i with
  |.str l,.int _ i=>0<=i/\i<l.length/\K (.int .u8 (l.getD i.toNat 0).toNat) h
  |_,_=>False
 |.ext i x=>match ev x with
  |.tup vs=>i<vs.length/\K (vs.getD i .gS) h
  |_=>False
 |.len str x=>D9 str (ev x) λv=>K v h
 |.mm mx x y=>match ev x,ev y with
  |.int k a,.int k' b=>k=k'/\K (.int k (if mx then max a b else min a b)) h
  |_,_=>False
 |.append ty sz bytes x y=>qY h k ty sz bytes (ev x) (ev y) K
 |.call f args=>C f (args.map ev) h K
 |.callv x args=>match ev x with
  |.fn f caps=>C f (args.map ev++caps) h K
  |_=>False
 |.mkfn f caps=>K (.fn f (caps.map ev)) h
 |.convbs x=>∃l:BS,rowsOf h 1 (ev x)=some (l.map λb=>[V.int .u8 b.toNat])/\K (.str l) h
 |.dead=>False
 |.ixa g len sz x i=>match ev x,ev i with
  |.agg cs,.int _ i=>0<=i/\i<len/\len*sz<=cs.length/\0<sz/\K (if g then .agg ((cs.drop (i.toNat*sz)).take sz) else cs.getD (i.toNat*sz) .gS) h
  |_,_=>False
def br(t:Bool)(A B:Unit->Prop):Prop:=match t with
 |true=>A ()
 |false=>B ()
theorem ab{t:Bool}{A B:Prop}(h1:t=true->A)(h2:t=false->B):br.match_1 (λ_=>Prop) t (λ_=>A) (λ_=>B):=by
 cases t
 ·exact h2 rfl
 ·exact h1 rfl
structure Ev(L:Nat->Prop)(w w':World):Prop where
 os:w'.os=w.os
 tape:w'.tape=w.tape
 output:w'.output=w.output
 size:w.heap.size<=w'.heap.size
 same:∀b:Nat,b<w.heap.size->¬L b->w'.heap[b]? =w.heap[b]?
 cells:∀(b:Nat)(c:Array Value)(e:TypeId)(fr:Nat×Nat),w.heap[b]? =some (Obj.cells c e fr)->∃(c':Array Value)(Sz:Nat×Nat),w'.heap[b]? =some (Obj.cells c' e Sz)/\c'.size=c.size
theorem Ev.refl(L:Nat->Prop)(w:World):Ev L w w:=⟨rfl,rfl,rfl,ag _,λ_ _ _=>rfl,λ_ c _ fr h=>⟨c,fr,h,rfl⟩⟩
theorem Ev.trans{L:Nat->Prop}{a b c:World}(h:Ev L a b)(h':Ev L b c):Ev L a c:=
 ⟨h'.os.trans h.os,h'.tape.trans h.tape,h'.output.trans h.output,bG h.size h'.size,
  λx hx hn=>(h'.same x (bE hx h.size) hn).trans (h.same x hx hn),
  λx cs e fr hc=>by
   obtain⟨c1,f1,h1,e1⟩:=h.cells x cs e fr hc;obtain⟨d,f2,h2,e2⟩:=h'.cells x c1 e f1 h1;exact⟨d,f2,h2,e2.trans e1⟩⟩
theorem Ev.mono{L M:Nat->Prop}{a b:World}(h:Ev L a b)(hm:∀x,x<a.heap.size->L x->M x):Ev M a b:=
 ⟨h.os,h.tape,h.output,h.size,λx hx hn=>h.same x hx λhl=>hn (hm x hx hl),h.cells⟩
theorem Ev.j8{L M:Nat->Prop}{a b c:World}(h:Ev M a b)(h':Ev L b c)(hm:∀x,x<a.heap.size->L x->M x):Ev M a c:=
 ⟨h'.os.trans h.os,h'.tape.trans h.tape,h'.output.trans h.output,bG h.size h'.size,
  λx hx hn=>(h'.same x (bE hx h.size) (λhl=>hn (hm x hx hl))).trans (h.same x hx hn),
  λx cs e fr hc=>by
   obtain⟨c1,f1,h1,e1⟩:=h.cells x cs e fr hc;obtain⟨d,f2,h2,e2⟩:=h'.cells x c1 e f1 h1;exact⟨d,f2,h2,e2.trans e1⟩⟩
theorem Ev.drew(L:Nat->Prop)(w:World):Ev L w w.drew:=⟨rfl,rfl,rfl,ag _,λ_ _ _=>rfl,λ_ c _ fr h=>⟨c,fr,h,rfl⟩⟩
theorem Ev.alloc(L:Nat->Prop)(w:World)(o:Obj):Ev L w (w.alloc o):=
 ⟨rfl,rfl,rfl,by simp,λb hb _=>heap_alloc_old w o hb,λb c e fr h=>⟨c,fr,(heap_alloc_old w o (aD.1 h).1).trans h,rfl⟩⟩
theorem Ev.setRow{L:Nat->Prop}{w:World}{b:Nat}{c c':Array Value}{e:TypeId}(d:L b)(h:w.heap[b]? =some (.cells c e (0,0)))(hs:c'.size=c.size):
  Ev L w (w.setRow b c'):=by
 refine⟨rfl,rfl,rfl,?_,λx hx hn=>?_,λx cs f fr hx=>?_⟩
 ·simp[World.setRow]
 ·exact setRow_other w b x c' (λhe=>hn (he▸d))
 ·by_cases a:x=b
  ·subst a;rw[h] at hx;cases hx;exact⟨c',_,setRow_heap w x c c' e _ h,hs⟩
  ·exact⟨cs,_,(setRow_other w b x c' a).trans hx,rfl⟩
inductive Rel(F B:Nat->Prop)(w:World):V->Value->Prop
 |int (k n):Rel F B w (.int k n) (.int k n)
 |bool (b):Rel F B w (.bool b) (.bool b)
 |str (l:BS):Rel F B w (.str l) (.string ⟨l.toArray⟩)
 |agg (cs:List V) (us:Array Value) (hl:us.size=cs.length) (h:∀(i:Nat)(v:V)(u:Value),cs[i]? =some v->us[i]? =some u->Rel F B w v u):Rel F B w (.agg cs) (.agg us)
 |tup (cs:List V) (us:Array Value) (hl:us.size=cs.length) (h:∀(i:Nat)(v:V)(u:Value),cs[i]? =some v->us[i]? =some u->Rel F B w v u):Rel F B w (.tup cs) (.tuple us)
 |slnil (t sz):Rel F B w (.sl t sz []) (.slice none 0 0)
 |sl (t sz rows b off cap) (us:Nat->Nat->Value) (hF:F b\/(t=true/\B b)) (lq:rows.length<=cap) (hsz:∀r∈rows,r.length=sz)
   (hc:∀(i j:Nat)(r:List V)(v:V),rows[i]? =some r->r[j]? =some v->w.cell? ⟨b,off+(i*sz+j),none⟩=some (us i j)/\(us i j).oneCell'=true)
   (hr:∀(i j:Nat)(r:List V)(v:V),rows[i]? =some r->r[j]? =some v->Rel F B w v (us i j)):
   Rel F B w (.sl t sz rows) (.slice (some ⟨b,off,none⟩) rows.length cap)
 |slemp (t sz a cap):Rel F B w (.sl t sz []) (.slice (some a) 0 cap)
 |nilsl:Rel F B w .nilsl (.slice none 0 0)
 |ownnil (k sz):Rel F B w (.own k none sz 0) (.slice none 0 0)
 |own (k b sz n cap) (c:Array Value) (e:TypeId) (fr:Nat×Nat) (h:w.heap[b]? =some (.cells c e fr)) (hs:c.size=cap*sz) (hm:cap<=maxLen) (hn:n<=cap):Rel F B w (.own k (some b) sz n) (.slice (some ⟨b,0,none⟩) n cap)
 |winemp (k b sz lo) (a:Option Addr):Rel F B w (.win k b sz lo lo) (.slice a 0 0)
 |win (k b sz cap) (lo hi:Int) (c:Array Value) (e:TypeId) (fr:Nat×Nat) (h:w.heap[b]? =some (.cells c e fr)) (hs:c.size=(cap+lo.toNat)*sz) (hm:cap+lo.toNat<=maxLen) (hn:(hi-lo).toNat<=cap) (h0:0<=lo) (h1:lo<=hi):Rel F B w (.win k (some b) sz lo hi) (.slice (some ⟨b,lo.toNat*sz,none⟩) (hi-lo).toNat cap)
 |ptr (k b sz i off):Rel F B w (.ptr k (some b) sz i off) (.pointer (some ⟨b,i*sz+off,none⟩))
 |rp (t b off) (cs:List V) (us:Nat->Value) (hF:F b\/(t=true/\B b)) (hc:∀(j:Nat)(v:V),cs[j]? =some v->w.cell? ⟨b,off+j,none⟩=some (us j)/\(us j).oneCell'=true) (hr:∀(j:Nat)(v:V),cs[j]? =some v->Rel F B w v (us j)):
   Rel F B w (.rp t cs) (.pointer (some ⟨b,off,none⟩))
 |nil:Rel F B w .nil (.pointer none)
 |fn (f) (caps:List V) (us:Array Value) (hl:us.size=caps.length) (h:∀(i:Nat)(v:V)(u:Value),caps[i]? =some v->us[i]? =some u->Rel F B w v u):Rel F B w (.fn f caps) (.func (.func f) #[] us)
 |raw (v):Rel F B w (.raw v) v
 |nu:Rel F B w .nu undef
 |gS (v):Rel F B w .gS v
theorem World.uP{w w':World}{b o:Nat}(h:w'.heap[b]? =w.heap[b]?):w'.cell? ⟨b,o,none⟩=w.cell? ⟨b,o,none⟩:=by simp[World.cell?,h]
theorem Rel.keep{F B F' B':Nat->Prop}{L:Nat->Prop}{w w':World}(he:Ev L w w')(hF:∀b,b<w.heap.size->F b->F' b)(hB:∀b,b<w.heap.size->B b->F' b\/B' b)
  (m:∀b,b<w.heap.size->(F b\/B b)->¬L b){v:V}{u:Value}(h:Rel F B w v u)(hlt:∀b,F b\/B b->b<w.heap.size):Rel F' B' w' v u:=by
 induction h with
 |int k n=>exact .int k n
 |bool b=>exact .bool b
 |str l=>exact .str l
 |agg cs us hl h ih=>exact .agg cs us hl ih
 |tup cs us hl h ih=>exact .tup cs us hl ih
 |slnil t sz=>exact .slnil t sz
 |sl t sz rows b off cap us d lq hsz hc hr ih=>
  have hb:b<w.heap.size:=hlt b (by rcases d with h|⟨_,h⟩<;>simp[h])
  have hs:w'.heap[b]? =w.heap[b]? :=he.same b hb (m b hb (by rcases d with h|⟨_,h⟩<;>simp[h]))
  refine .sl t sz rows b off cap us ?_ lq hsz (λi j r v hi hj=>⟨(World.uP hs).trans (hc i j r v hi hj).1,(hc i j r v hi hj).2⟩) ih
  rcases d with h|⟨ht,h⟩
  ·exact .inl (hF b hb h)
  ·rcases hB b hb h with h|h
   ·exact .inl h
   ·exact .inr ⟨ht,h⟩
 |slemp t sz a cap=>exact .slemp t sz a cap
 |nilsl=>exact .nilsl
 |ownnil k sz=>exact .ownnil k sz
 |own k b sz n cap c e fr h hs hm hn=>
  obtain⟨c',Sz,h',g⟩:=he.cells b c e fr h;exact .own k b sz n cap c' e Sz h' (g.trans hs) hm hn
 |winemp k b sz lo a=>exact .winemp k b sz lo a
 |win k b sz cap lo hi c e fr h hs hm hn h0 h1=>
  obtain⟨c',Sz,h',g⟩:=he.cells b c e fr h;exact .win k b sz cap lo hi c' e Sz h' (g.trans hs) hm hn h0 h1
 |ptr k b sz i off=>exact .ptr k b sz i off
 |rp t b off cs us d hc hr ih=>
  have hb:b<w.heap.size:=hlt b (by rcases d with h|⟨_,h⟩<;>simp[h])
  have hs:w'.heap[b]? =w.heap[b]? :=he.same b hb (m b hb (by rcases d with h|⟨_,h⟩<;>simp[h]))
  refine .rp t b off cs us ?_ (λj v hj=>⟨(World.uP hs).trans (hc j v hj).1,(hc j v hj).2⟩) ih
  rcases d with h|⟨ht,h⟩
  ·exact .inl (hF b hb h)
  ·rcases hB b hb h with h|h
   ·exact .inl h
   ·exact .inr ⟨ht,h⟩
 |nil=>exact .nil
 |fn f caps us hl h ih=>exact .fn f caps us hl ih
 |raw v=>exact .raw v
 |nu=>exact .nu
 |gS v=>exact .gS v
def fy(F B:Nat->Prop)(w:World)(o:Ob):Prop:=
 match o.b with
 |none=>o.rows=[]
 |some b=>∃(c:Array Value)(cap:Nat),w.heap[b]? =some (Obj.cells c o.ty (0,0))/\c.size=cap*o.sz/\cap<=maxLen/\o.rows.length<=cap/\(∀r∈o.rows,r.length=o.sz)/\
   ∀(i j:Nat)(r:List V)(v:V),o.rows[i]? =some r->r[j]? =some v->∃u,c[i*o.sz+j]? =some u/\u.oneCell'=true/\Rel F B w v u
structure Ctx where
 w0:World
 F0:Nat->Prop
 B:Nat->Prop
 pass:Nat->Prop
structure Ctx.Ok(C:Ctx):Prop where
 F0:∀b,C.F0 b->b<C.w0.heap.size/\¬C.pass b
 B:∀b,C.B b->b<C.w0.heap.size/\¬C.pass b
 pass:∀b,C.pass b->b<C.w0.heap.size
structure gg(C:Ctx)(F:Nat->Prop)(h:Hp)(w:World):Prop where
 ob:∀k o,h k=some o->fy F C.B w o
 inj:∀k k' o o' b,h k=some o->h k'=some o'->o.b=some b->o'.b=some b->k=k'
 live:∀k o b,h k=some o->o.b=some b->¬F b/\(C.pass b\/C.w0.heap.size<=b)
 jq:∀b,F b->C.F0 b\/C.pass b\/C.w0.heap.size<=b
 new:∀b,C.F0 b->F b
 lt:∀b,F b->b<w.heap.size
 ev:Ev C.pass C.w0 w
structure Sat(C:Ctx)(n:Nat)(s:S)(a:Act)(w:World):Prop where
 ex:∃F,gg C F s.h w/\∀i:Nat,Rel F C.B w (s.t i) (a.tmps.getD i undef)
 df:a.defers=[]
 sz:a.tmps.size=n
def mN:Operand->Option hJ
 |.tmp t=>some (.t t)
 |.const v=>some (.c v)
 |.func f=>some (.c (.func (.func f) #[] #[]))
 |.global _=>none
def Bh:hJ->Bool
 |.c (.slice none 0 0)=>true
 |_=>false
theorem wN{a:Act}{y:Operand}{b:hJ}(h:mN y=some b)(hn:Bh b=true):a.eval y=.slice none 0 0:=by
 cases y with
 |tmp t=>simp[mN] at h;subst h;cases hn
 |global g=>cases h
 |func f=>simp[mN] at h;subst h;cases hn
 |const v=>
  simp only[mN,aH] at h;subst h;have hv:v=.slice none 0 0:=by
   unfold Bh at hn
   split at hn
   ·rename_i he;cases he;rfl
   ·cases hn
  subst hv;rfl
def yO:Option Operand->Option (Option hJ)
 |none=>some none
 |some x=>(mN x).map some
def uQ:List Operand->Option (List hJ)
 |[]=>some []
 |x::l=>match mN x,uQ l with
  |some y,some m=>some (y::m)
  |_,_=>none
def ku(P:Program)(T:TypeId):Option Bool:=
 match P.underlying T with
 |some (.struct _)=>some true
 |some (.array _ _)=>some true
 |some _=>some false
 |none=>none
def qZ(P:Program)(T:TypeId):Option Nat:=(P.info? T).map (·.size)
def mc(P:Program)(T:TypeId):Option (List Value):=((P.info? T).bind (·.zero)).map (·.cells.toList)
def mO(off:Nat->Option (Nat×Nat))(n:Nat):List (Nat×Operand)->Option (List (Nat×Nat×hJ))
 |[]=>some []
 |(j,x)::l=>match off j,mN x,mO off n l with
  |some (o,sz),some y,some m=>if o+sz<=n then some ((o,sz,y)::m) else none
  |_,_,_=>none
def uR(i:Nat):List (Nat×Operand)->Option (List hJ)
 |[]=>some []
 |(j,x)::l=>match mN x,uR (i+1) l with
  |some y,some m=>if j=i then some (y::m) else none
  |_,_=>none
def wO(P:Program)(g:TypeId->Option (List Nat)):List Field->Nat->Option (List Nat)
 |[],_=>some []
 |f::fs,off=>match g f.type with
  |some c=>if f.name≠ "_" ∧f.offset=off∧P.cellsOf f.type=c.length then(wO P g fs (off+c.length)).map (c++ ·) else none
  |none=>none
def tB(P:Program):Nat->TypeId->Option (List Nat)
 |0,_=>none
 |m+1,t=>match P.underlying t with
  |some .bool=>some [0]
  |some (.int _)=>some [1]
  |some .string=>some [2]
  |some (.array n e)=>match tB P m e with
   |some c=>if P.cellsOf e=c.length then some (List.replicate n c).flatten else none
   |none=>none
  |some (.struct fs)=>if P.stoodInHeld t then none else wO P (tB P m) fs.toList 0
  |_=>none
def LJ(P:Program)(o:Op):Option pM:=
 match o with
 |.move x|.assign x=>(mN x).map .mov
 |.pick c a b=>match mN c,mN a,mN b with
  |some c,some a,some b=>some (.pick c a b)
  |_,_,_=>none
 |.alloc T=>(mc P T).map (.alloc T)
 |.box T x=>match qZ P T,mN x with
  |some n,some x=>some (.box T n x)
  |_,_=>none
 |.build T parts=>match mc P T,P.underlying T with
  |some z,some (.struct fs)=>match fs.toList.mapM (λf=>(P.info? f.type).map λi=>(f.offset,i.size)) with
   |some d=>(mO (λj=>d.toArray[j]?) z.length parts.toList).map (.build z)
   |none=>none
  |some z,some (.array _ e)=>match qZ P e with
   |some n=>(mO (λj=>some (j*n,n)) z.length parts.toList).map (.build z)
   |none=>none
  |_,_=>none
 |.buildSlice T len parts=>match P.underlying T with
  |some (.slice e)=>match qZ P e,mc P e,uR 0 parts.toList with
   |some n,some z,some ps=>if z.length=n/\0<n/\len*n<=16777216/\ps.length=len then some (.bslice e n ps) else none
   |_,_,_=>none
  |_=>none
 |.load T x=>match ku P T,qZ P T,mN x with
  |some true,some n,some x=>some (.loadn n x)
  |some false,_,some x=>some (.load1 x)
  |_,_,_=>none
 |.store T x v=>match qZ P T,mN x,mN v with
  |some n,some x,some v=>some (.store n x v)
  |_,_,_=>none
 |.nilCheck x=>(mN x).map .nilchk
 |.binOp op T x y _=>match P.underlying T,mN x,mN y with
  |some (.int _),some x,some y=>some (.bin op x y)
  |some .string,some x,some y=>some (.bin op x y)
  |some .bool,some x,some y=>match op with
   |.eql=>some (.eqb false x y)
   |.neq=>some (.eqb true x y)
   |_=>none
  |some (.pointer _),some x,some y=>match op with
   |.eql=>some (.eqp false x y)
   |.neq=>some (.eqp true x y)
   |_=>none
  |some (.slice _),some x,some y=>if Bh y then(match op with
   |.eql=>some (.eqn false x)
   |.neq=>some (.eqn true x)
   |_=>none) else none
  |some (.struct _),some x,some y|some (.array _ _),some x,some y=>match tB P 8 T with
   |some ts=>if P.eqGuardType P.depth T then none else match op with
    |.eql=>some (.eqs false ts x y)
    |.neq=>some (.eqs true ts x y)
    |_=>none
   |none=>none
  |_,_,_=>none
 |.unOp .not _ x=>(mN x).map .not
 |.convert src dst x=>match P.underlying src,P.underlying dst,mN x with
  |some (.int _),some (.int k),some x=>some (.conv k x)
  |some (.slice e),some .string,some x=>(match P.underlying e with
   |some (.int .u8)=>some (.convbs x)
   |_=>none)
  |_,_,_=>none
 |.panic _=>some .dead
 |.makeInterface .. =>some .dead
 |.makeSlice T l c=>match P.underlying T with
  |some (.slice e)=>match P.info? e,mc P e,mN l,mN c with
   |some i,some z,some l,some c=>if i.size=z.length/\0<z.length/\0<i.bytes then some (.mkslice e i.size i.bytes z l c) else none
   |_,_,_,_=>none
  |_=>none
 |.slice T x lo hi none=>match P.underlying T,mN x,yO lo,yO hi with
  |some .string,some x,some lo,some hi=>some (.slstr x lo hi)
  |some (.slice e),some x,some lo,some hi=>(qZ P e).map λn=>.slsl n x lo hi
  |_,_,_,_=>none
 |.fieldAddr T x f=>match P.underlying T,mN x with
  |some (.struct fs),some x=>match fs[f]? with
   |some f=>match qZ P f.type with
    |some n=>if n=0 then none else some (.faddr f.offset x)
    |none=>none
   |none=>none
  |_,_=>none
 |.field T x f=>match P.underlying T,mN x with
  |some (.struct fs),some x=>match fs[f]? with
   |some f=>match ku P f.type,qZ P f.type with
    |some true,some n=>some (.fldn f.offset n x)
    |some false,_=>some (.fld1 f.offset x)
    |_,_=>none
   |none=>none
  |_,_=>none
 |.indexAddr T x i=>match P.underlying T,mN x,mN i with
  |some (.slice e),some x,some i=>(qZ P e).map λn=>.iaddr n x i
  |some (.array len e),some x,some i=>(qZ P e).map λn=>.iarr len n x i
  |_,_,_=>none
 |.index T x i=>match P.underlying T,mN x,mN i with
  |some .string,some x,some i=>some (.ixs x i)
  |some (.array len e),some x,some i=>match ku P e,qZ P e with
   |some g,some n=>some (.ixa g len n x i)
   |_,_=>none
  |_,_,_=>none
 |.extract x i=>(mN x).map (.ext i)
 |.makeFunc (.func f) first caps=>if first.size=0 then(uQ caps.toList).map (.mkfn f) else none
 |.call c=>match c.callee with
  |.value (.func f)=>(uQ c.args.toList).map (.call f)
  |.value (.tmp t)=>(uQ c.args.toList).map (.callv (.t t))
  |.builtin .len=>match c.args.toList,c.argTypes.toList with
   |[x],[T]=>match P.underlying T with
    |some .string=>(mN x).map (.len true)
    |some (.slice _)=>(mN x).map (.len false)
    |_=>none
   |_,_=>none
  |.builtin .max=>match uQ c.args.toList with
   |some [x,y]=>some (.mm true x y)
   |_=>none
  |.builtin .min=>match uQ c.args.toList with
   |some [x,y]=>some (.mm false x y)
   |_=>none
  |.builtin .append=>match uQ c.args.toList,c.argTypes.toList with
   |some [x,y],[T,T']=>match P.underlying T,P.underlying T' with
    |some (.slice e),some (.slice _)=>match P.info? e,mc P e with
     |some i,some z=>if i.size=z.length/\0<z.length/\0<i.bytes/\T'=T then some (.append e i.size i.bytes x y) else none
     |_,_=>none
    |_,_=>none
   |_,_=>none
  |_=>none
 |_=>none
theorem q6(F B:Nat->Prop)(w:World)(v:Value):Rel F B w (yM v) v:=by
 unfold yM
 split
 ·exact .int _ _
 ·exact .bool _
 ·exact .str _
 ·exact .nilsl
 ·exact .nil
 ·exact .raw _
theorem yP(F B:Nat->Prop)(w:World)(v:Value):Rel F B w (PH v) v:=by
 unfold PH
 split
 ·refine .agg _ _ (by simp) λi v u hv hu=>?_;simp only[av,au] at hv;obtain⟨x,hx,rfl⟩:=hv;rw[bY,hu] at hx;cases hx;exact q6 F B w _
 ·rename_i f p q
  split
  ·rename_i h;have e1:p= #[]:=cD h.1;have e2:q= #[]:=cD h.2;subst e1 e2;exact .fn _ _ _ (by simp) (by simp)
  ·exact .gS _
 ·exact q6 F B w _
section
variable {P:Program} {C:Ctx} {F:Nat->Prop} {w:World} {a:Act} {s:S}
theorem fb(hr:∀i:Nat,Rel F C.B w (s.t i) (a.tmps.getD i undef)){x:Operand}{y:hJ}(h:mN x=some y):Rel F C.B w (y.ev s) (a.eval x):=by
 cases x with
 |tmp t=>simp only[mN,aH] at h;subst h;exact hr t
 |const v=>simp only[mN,aH] at h;subst h;exact yP _ _ _ _
 |func f=>simp only[mN,aH] at h;subst h;exact yP F C.B w (.func (.func f) #[] #[])
 |global g=>simp[mN] at h
def fO(C:Ctx)(F:Nat->Prop)(w:World)(a:Act)(dst:Option Tmp)(K:V->Hp->Prop):Act->World->Prop:=λb w'=>
 ∃u v h' F',b=a.put dst u/\Rel F' C.B w' v u/\gg C F' h' w'/\(∀x y,Rel F C.B w x y->Rel F' C.B w' x y)/\K v h'
theorem F5{o:Oper}{u:Value}{w':World}{K:Act->World->Prop}{Q:Exit->Act->World->Prop}(jR:(execOp a.eval o).run P w=.ok (.value u) w')(h:K (a.put o.dst u) w'):o.wp P a w K Q:=by
 unfold Oper.wp;rw[jR];exact h
theorem wp_pure{o:Oper}{u:Value}{v:V}{h:Hp}{K:V->Hp->Prop}{Q:Exit->Act->World->Prop}(hs:gg C F h w)(jR:(execOp a.eval o).run P w=.ok (.value u) w)(hv:Rel F C.B w v u)(hK:K v h):
  o.wp P a w (fO C F w a o.dst K) Q:=
 F5 jR ⟨u,v,h,F,rfl,hv,hs,λ_ _ h=>h,hK⟩
end
section
variable {P:Program} {C:Ctx} {F:Nat->Prop} {w:World} {a:Act} {s:S} {h:Hp} {K:V->Hp->Prop} {Q:Exit->Act->World->Prop} {o:Oper}
theorem Cr{x:Operand}{v:V}(ho:o.op=.move x\/o.op=.assign x)(hs:gg C F h w)(hv:Rel F C.B w v (a.eval x))(hK:K v h):o.wp P a w (fO C F w a o.dst K) Q:=by
 refine wp_pure hs ?_ hv hK
 rcases ho with ho|ho<;>generalize a.eval=ρ at* <;>simp[execOp,ho,go_sem]
theorem F6{c x y:Operand}{t:Bool}{vx vy:V}(ho:o.op=.pick c x y)(hs:gg C F h w)(hc:Rel F C.B w (.bool t) (a.eval c))(hx:Rel F C.B w vx (a.eval x))(hy:Rel F C.B w vy (a.eval y))
  (hK:K (if t then vx else vy) h):o.wp P a w (fO C F w a o.dst K) Q:=by
 generalize LK:a.eval c=uc at hc
 cases hc;refine wp_pure (u:=if t then a.eval x else a.eval y) hs ?_ ?_ hK
 ·generalize a.eval=ρ at*
  simp[execOp,ho,LK,go_sem,asBool]
 ·cases t
  ·exact hy
  ·exact hx
theorem LL{T:TypeId}{x:Operand}{b:Bool}(ho:o.op=.unOp .not T x)(hs:gg C F h w)(hx:Rel F C.B w (.bool b) (a.eval x))(hK:K (.bool !b) h):o.wp P a w (fO C F w a o.dst K) Q:=by
 generalize LK:a.eval x=uc at hx
 cases hx;refine wp_pure (u:=.bool !b) hs ?_ (.bool _) hK
 generalize a.eval=ρ at*
 simp[execOp,ho,LK,go_sem,Op.unary]
theorem uS{x:Operand}{v:V}(ho:o.op=.nilCheck x)(hs:gg C F h w)(hx:Rel F C.B w v (a.eval x))(hv:(∃k b sz i off,v=.ptr k b sz i off)\/(∃t cs,v=.rp t cs))(hK:K v h):o.wp P a w (fO C F w a o.dst K) Q:=by
 refine wp_pure (u:=a.eval x) hs ?_ hx hK
 generalize LK:a.eval x=uc at hx
 rcases hv with⟨k,b,sz,i,off,rfl⟩|⟨t,cs,rfl⟩<;>cases hx<;>generalize a.eval=ρ at* <;>simp[execOp,ho,LK,go_sem]
theorem LM{x:Operand}{i:Nat}{vs:List V}(ho:o.op=.extract x i)(hs:gg C F h w)(hx:Rel F C.B w (.tup vs) (a.eval x))(hi:i<vs.length)(hK:K (vs.getD i .gS) h):o.wp P a w (fO C F w a o.dst K) Q:=by
 generalize LK:a.eval x=uc at hx
 cases hx with
 |tup _ us hl hr=>
  have hi':i<us.size:=by omega
  refine wp_pure (u:=us[i]) hs ?_ (hr i _ _ (by simp[aA,hi]) (by simp[hi'])) hK
  generalize a.eval=ρ at*
  simp[execOp,ho,LK,go_sem,Instr.extract,hi']
theorem F7{src dst:TypeId}{x:Operand}{k:IntKind}{kx:IntKind}{n:Int}{ks:IntKind}(ho:o.op=.convert src dst x)(h1:P.underlying src=some (.int ks))(h2:P.underlying dst=some (.int k))(hs:gg C F h w)
  (hx:Rel F C.B w (.int kx n) (a.eval x))(hK:K (.int k (k.wrap n)) h):o.wp P a w (fO C F w a o.dst K) Q:=by
 generalize LK:a.eval x=uc at hx
 cases hx;refine wp_pure (u:=.int k (k.wrap n)) hs ?_ (.int _ _) hK
 generalize a.eval=ρ at*
 simp[execOp,ho,LK,go_sem,convert,run_underlying h1,run_underlying h2,Conv.intToInt]
theorem wrap64{n:Int}(h:iU n):IntKind.i64.wrap n=n:=by
 unfold iU at h;simp only[IntKind.wrap,IntKind.bits,IntKind.signed];simp;omega
theorem nw{k:IntKind}{n:Int}{K:V->Prop}(h:arith k n K):K (.int k (k.wrap n)):=by
 unfold arith at h
 split at h
 ·rw[wrap64 h.1];exact h.2
 ·exact h
end
section
variable {P:Program} {C:Ctx} {F:Nat->Prop} {w:World} {a:Act} {s:S} {h:Hp} {K:V->Hp->Prop} {Q:Exit->Act->World->Prop} {o:Oper}
theorem xA{op:BinOp}{T:TypeId}{x y:Operand}{k k':IntKind}{m n:Int}:(eqGuard op T x y (.int k m) (.int k' n)).run P w=.ok () w:=by
 unfold eqGuard;cases op<;>simp[go_sem]
theorem xB{op:BinOp}{T:TypeId}{x y:Operand}{m n:ByteArray}:(eqGuard op T x y (.string m) (.string n)).run P w=.ok () w:=by
 unfold eqGuard;cases op<;>simp[go_sem]
theorem uT{op:BinOp}{T U:TypeId}{x y:Operand}{u:Value}{v:V}(ho:o.op=.binOp op T x y U)(hs:gg C F h w)(hg:(eqGuard op T x y (a.eval x) (a.eval y)).run P w=.ok () w)
  (hb:(binOp op T (a.eval x) (a.eval y)).run P w=.ok u w)(hv:Rel F C.B w v u)(hK:K v h):o.wp P a w (fO C F w a o.dst K) Q:=by
 refine wp_pure hs ?_ hv hK
 generalize a.eval=ρ at*
 simp[execOp,ho,go_sem,hg,hb]
theorem toList_inj{l m:BS}:((⟨l.toArray⟩:ByteArray).toList==(⟨m.toArray⟩:ByteArray).toList)=decide (l=m):=by
 rw[cx];simp
theorem F8{m n:Int}(h1:0<=m):m.tdiv n=m/n:=by rw[dU h1]
theorem F9{m n:Int}(h1:0<=m):m.tmod n=m%n:=by rw[dV h1]
theorem Ga{m:Int}{n:Nat}:m.fdiv (2^n)=m/2^n:=Int.fdiv_eq_ediv_of_nonneg _ (Int.le_of_lt (Int.pow_pos qD))
theorem Gb{k:IntKind}{x:Int}{n:Nat}(h:k.bits<=n):k.wrap (x*2^k.bits)=k.wrap (x*2^n):=by
 obtain⟨d,rfl⟩:∃d,n=k.bits+d:=⟨n-k.bits,qW⟩;simp only[IntKind.wrap];rw[Int.pow_add,show x*((2:Int)^k.bits*2^d)=(x*2^d)*2^k.bits by rw[Int.mul_comm (2^k.bits),Int.mul_assoc],Int.mul_emod_left,Int.mul_emod_left]
theorem Bi{op:BinOp}{T:TypeId}{k k':IntKind}{m n:Int}{v:V}{K:V->Prop}(h:tW op (.int k m) (.int k' n) K):
  ∃u v,(binOp op T (.int k m) (.int k' n)).run P w=.ok u w/\Rel F C.B w v u/\K v:=by
 cases op<;>simp only[tW] at h
 case add=>obtain⟨rfl,h⟩:=h;exact⟨.int k (k.wrap (m+n)),_,by simp[binOp,Op.intArith,go_sem],.int _ _,nw h⟩
 case sub=>obtain⟨rfl,h⟩:=h;exact⟨.int k (k.wrap (m-n)),_,by simp[binOp,Op.intArith,go_sem],.int _ _,nw h⟩
 case mul=>obtain⟨rfl,h⟩:=h;exact⟨.int k (k.wrap (m*n)),_,by simp[binOp,Op.intArith,go_sem],.int _ _,nw h⟩
 case quo=>
  obtain⟨rfl,h1,h2,h⟩:=h;exact⟨.int k (k.wrap (m.tdiv n)),_,by simp[binOp,Op.intDiv,go_sem,show¬n=0 by omega],.int _ _,by rw[F8 h1];exact nw h⟩
 case rem=>
  obtain⟨rfl,h1,h2,h⟩:=h;exact⟨.int k (m.tmod n),_,by simp[binOp,Op.intDiv,go_sem,show¬n=0 by omega],.int _ _,by rw[F9 h1];exact h⟩
 case and=>obtain⟨rfl,h⟩:=h;exact⟨.int k (k.wrap (BitVec.ofInt k.bits m&&&BitVec.ofInt k.bits n).toNat),_,by simp only[binOp,ne_eq,not_true,↓reduceIte,Op.intBits];rfl,.int _ _,h⟩
 case or=>obtain⟨rfl,h⟩:=h;exact⟨.int k (k.wrap (BitVec.ofInt k.bits m|||BitVec.ofInt k.bits n).toNat),_,by simp only[binOp,ne_eq,not_true,↓reduceIte,Op.intBits];rfl,.int _ _,h⟩
 case xor=>obtain⟨rfl,h⟩:=h;exact⟨.int k (k.wrap (BitVec.ofInt k.bits m^^^BitVec.ofInt k.bits n).toNat),_,by simp only[binOp,ne_eq,not_true,↓reduceIte,Op.intBits];rfl,.int _ _,h⟩
 case shl=>
  obtain⟨h1,h2,h⟩:=h;refine⟨.int k (k.wrap (m*2^min n.toNat k.bits)),_,by simp only[binOp,Op.shift];rw[aa qW];rfl,.int _ _,?_⟩
  by_cases hb:n.toNat<=k.bits
  ·rw[Nat.min_eq_left hb];exact nw h
  ·rw[Nat.min_eq_right qW,Gb (n:=n.toNat) qW];exact nw h
 case shr=>
  obtain⟨h1,h2,h⟩:=h;refine⟨.int k (m.fdiv (2^min n.toNat k.bits)),_,by simp only[binOp,Op.shift];rw[aa qW];rfl,.int _ _,?_⟩;rw[Nat.min_eq_left qW,Ga];exact h
 case lss=>obtain⟨rfl,h⟩:=h;exact⟨.bool (decide (m<n)),_,by simp[binOp,Op.intCmp,go_sem],.bool _,h⟩
 case leq=>obtain⟨rfl,h⟩:=h;exact⟨.bool (decide (m<=n)),_,by simp[binOp,Op.intCmp,go_sem],.bool _,h⟩
 case gtr=>obtain⟨rfl,h⟩:=h;exact⟨.bool (decide (n<m)),_,by simp[binOp,Op.intCmp,go_sem],.bool _,h⟩
 case geq=>obtain⟨rfl,h⟩:=h;exact⟨.bool (decide (n<=m)),_,by simp[binOp,Op.intCmp,go_sem],.bool _,h⟩
 case eql=>
  obtain⟨rfl,h⟩:=h;refine⟨.bool (decide (m=n)),_,?_,.bool _,h⟩;have e:(m==n)=decide (m=n):=by rw[cx];simp
  simp[binOp,Op.intCmp,go_sem,e]
 case neq=>
  obtain⟨rfl,h⟩:=h;refine⟨.bool (decide (m≠n)),_,?_,.bool _,h⟩;have e:(m==n)=decide (m=n):=by rw[cx];simp
  simp[binOp,Op.intCmp,go_sem,e,bne]
theorem Bj{op:BinOp}{T:TypeId}{m n:BS}{K:V->Prop}(h:tW op (.str m) (.str n) K):
  ∃u v,(binOp op T (.string ⟨m.toArray⟩) (.string ⟨n.toArray⟩)).run P w=.ok u w/\Rel F C.B w v u/\K v:=by
 cases op<;>simp only[tW] at h
 case add=>
  refine⟨.string ⟨(m++n).toArray⟩,_,?_,.str _,h.2⟩;have h1:=h.1;unfold iU at h1;have e:(⟨m.toArray⟩:ByteArray)++⟨n.toArray⟩=⟨(m++n).toArray⟩:=by
   apply ByteArray.ext;simp
  have hs1:(⟨m.toArray⟩:ByteArray).size=m.length:=by simp[ByteArray.size]
  have hs2:(⟨n.toArray⟩:ByteArray).size=n.length:=by simp[ByteArray.size]
  simp only[binOp,Op.stringOp,hs1,hs2,e];rw[aa (by simp[IntKind.max,IntKind.signed,IntKind.bits];omega)];simp[go_sem]
 case eql=>
  refine⟨.bool (decide (m=n)),_,?_,.bool _,h⟩;simp only[binOp,Op.stringOp,toList_inj];simp[go_sem]
 case neq=>
  refine⟨.bool (decide (m≠n)),_,?_,.bool _,h⟩;simp only[binOp,Op.stringOp,toList_inj];simp[go_sem]
theorem Cs{op:BinOp}{T U:TypeId}{x y:Operand}{c d:V}(ho:o.op=.binOp op T x y U)(hs:gg C F h w)(hx:Rel F C.B w c (a.eval x))(hy:Rel F C.B w d (a.eval y))
  (hK:tW op c d λv=>K v h):o.wp P a w (fO C F w a o.dst K) Q:=by
 generalize hex:a.eval x=e at hx
 generalize b:a.eval y=f at hy
 cases hx
 case int k m=>
  cases hy
  case int k' n=>
   obtain⟨u,v,hr,hv,hk⟩:=Bi (P:=P) (C:=C) (F:=F) (w:=w) (T:=T) (v:=.gS) hK;exact uT ho hs (by rw[hex,b];exact xA) (by rw[hex,b];exact hr) hv hk
  all_goals(cases op<;>simp[tW] at hK)
 case str m=>
  cases hy
  case str n=>
   obtain⟨u,v,hr,hv,hk⟩:=Bj (P:=P) (C:=C) (F:=F) (w:=w) (T:=T) hK;exact uT ho hs (by rw[hex,b];exact xB) (by rw[hex,b];exact hr) hv hk
  all_goals(cases op<;>simp[tW] at hK)
 all_goals(cases op<;>simp[tW] at hK)
end
open Go.BigFrame
section
variable {P:Program} {C:Ctx} {F:Nat->Prop} {w:World} {a:Act} {s:S} {h:Hp} {K:V->Hp->Prop} {Q:Exit->Act->World->Prop} {o:Oper}
theorem uU(l:BS):(⟨l.toArray⟩:ByteArray).size=l.length:=by simp[ByteArray.size]
theorem tC{c:Call}{u:Value}{v:V}{b:Builtin}(ho:o.op=.call c)(hb:c.callee=.builtin b)(hs:gg C F h w)
  (hr:(builtin b c.argTypes o.type (c.args.map λ|.const _=>true|_=>false) (c.args.map a.eval)).run P w=.ok (.value u) w)(hv:Rel F C.B w v u)(hK:K v h):o.wp P a w (fO C F w a o.dst K) Q:=by
 refine wp_pure hs ?_ hv hK;obtain⟨callee,args,d⟩:=c;cases hb;unfold execOp;rw[ho];simp only[resolve,Sem.run_bind,Sem.run_pure,Result.andThen_ok,invoke];exact hr
theorem jS{c:Call}{x:Operand}{u d:Value}{v:V}{b:Builtin}{T:TypeId}(ho:o.op=.call c)(hb:c.callee=.builtin b)(hx:c.args= #[x])(e:c.argTypes= #[T])(hs:gg C F h w)(he:a.eval x=d)
  (hr:∀ty cs,(builtin b #[T] ty cs #[d]).run P w=.ok (.value u) w)(hv:Rel F C.B w v u)(hK:K v h):o.wp P a w (fO C F w a o.dst K) Q:=by
 refine tC ho hb hs ?_ hv hK;simp only[hx,e,ej,aL,cJ,he];exact hr _ _
theorem yQ{T:TypeId}(hd:P.underlying T=some .string)(l:BS)(ty:TypeId)(cs:Array Bool):(builtin .len #[T] ty cs #[.string ⟨l.toArray⟩]).run P w=.ok (.value (.int .i64 l.length)) w:=by
 rw[builtin_len];simp[Builtin.len_,Sem.run_bind,Sem.run_pure,run_underlying hd,goInt,uU]
theorem jI{T e:TypeId}(hd:P.underlying T=some (.slice e))(b:Option Addr)(n m:Nat)(ty:TypeId)(cs:Array Bool):(builtin .len #[T] ty cs #[.slice b n m]).run P w=.ok (.value (.int .i64 n)) w:=by
 rw[builtin_len];simp[Builtin.len_,Sem.run_bind,Sem.run_pure,run_underlying hd,goInt]
theorem Gc{c:Call}{x:Operand}{T:TypeId}{b:V}(ho:o.op=.call c)(hb:c.callee=.builtin .len)(hx:c.args= #[x])(d:c.argTypes= #[T])(hd:P.underlying T=some .string)
  (hs:gg C F h w)(hv:Rel F C.B w b (a.eval x))(hK:D9 true b λv=>K v h):o.wp P a w (fO C F w a o.dst K) Q:=by
 generalize hex:a.eval x=e at hv
 cases hv
 case str l=>exact jS ho hb hx d hs hex (yQ hd l) (.int _ _) hK
 all_goals(simp[D9] at hK)
theorem Gd{c:Call}{x:Operand}{T e:TypeId}{f:V}(ho:o.op=.call c)(hb:c.callee=.builtin .len)(hx:c.args= #[x])(d:c.argTypes= #[T])(hd:P.underlying T=some (.slice e))
  (hs:gg C F h w)(hv:Rel F C.B w f (a.eval x))(hK:D9 false f λv=>K v h):o.wp P a w (fO C F w a o.dst K) Q:=by
 generalize hex:a.eval x=g at hv
 cases hv
 case slnil t sz=>exact jS ho hb hx d hs hex (jI hd _ _ _) (.int _ _) hK
 case sl=>exact jS ho hb hx d hs hex (jI hd _ _ _) (.int _ _) hK
 case slemp=>exact jS ho hb hx d hs hex (jI hd _ _ _) (.int _ _) hK
 case nilsl=>exact jS ho hb hx d hs hex (jI hd _ _ _) (.int _ _) hK
 case ownnil=>exact jS ho hb hx d hs hex (jI hd _ _ _) (.int _ _) hK
 case own=>exact jS ho hb hx d hs hex (jI hd _ _ _) (.int _ _) hK
 case winemp k b sz lo ad=>
  have e:((0:Nat):Int)=lo-lo:=by omega
  exact jS ho hb hx d hs hex (jI hd _ _ _) (.int _ _) (show K (.int .i64 ((0:Nat):Int)) h from by rw[e];exact hK)
 case win k b sz cap lo hi c e fr _ _ _ _ h0 h1=>exact jS ho hb hx d hs hex (jI hd _ _ _) (.int _ _) (by rw[Int.toNat_of_nonneg qW];exact hK)
 all_goals(simp[D9] at hK)
theorem PK(mx:Bool)(k:IntKind)(m n:Int)(b:Array TypeId)(ty:TypeId)(cs:Array Bool):
  (builtin (if mx then .max else .min) b ty cs #[.int k m,.int k n]).run P w=.ok (.value (.int k (if mx then max m n else min m n))) w:=by
 cases mx
 ·have e:(if n<m then n else m)=min m n:=by simp only[Int.min_def];split<;>split<;>omega
  simp[builtin_min,Builtin.min_,Builtin.min2,Sem.run_bind,Sem.run_pure,e]
 ·have e:(if n>m then n else m)=max m n:=by simp only[Int.max_def];split<;>split<;>omega
  simp[builtin_max,Builtin.max_,Builtin.max2,Sem.run_bind,Sem.run_pure,<-e]
theorem Ge{c:Call}{x y:Operand}{mx:Bool}{k:IntKind}{m n:Int}(ho:o.op=.call c)(hb:c.callee=.builtin (if mx then .max else .min))(hx:c.args= #[x,y])(hs:gg C F h w)
  (h1:Rel F C.B w (.int k m) (a.eval x))(h2:Rel F C.B w (.int k n) (a.eval y))(hK:K (.int k (if mx then max m n else min m n)) h):o.wp P a w (fO C F w a o.dst K) Q:=by
 generalize hex:a.eval x=d at h1
 generalize b:a.eval y=e at h2
 cases h1;cases h2;refine tC ho hb hs ?_ (.int _ _) hK;simp only[hx,ej,aL,cJ,hex,b];exact PK mx k m n _ _ _
theorem LN{T:TypeId}{x y:Operand}{l:BS}{k:IntKind}{i:Int}(ho:o.op=.index T x y)(hd:P.underlying T=some .string)(hs:gg C F h w)(h1:Rel F C.B w (.str l) (a.eval x))(h2:Rel F C.B w (.int k i) (a.eval y))
  (hi:0<=i)(hl:i<l.length)(hK:K (.int .u8 (l.getD i.toNat 0).toNat) h):o.wp P a w (fO C F w a o.dst K) Q:=by
 generalize hex:a.eval x=c at h1
 generalize b:a.eval y=d at h2
 cases h1;cases h2;refine wp_pure (u:=.int .u8 (l.getD i.toNat 0).toNat) hs ?_ (.int _ _) hK
 generalize a.eval=f at*
 have hlt:i.toNat<l.length:=by omega
 have e:(⟨l.toArray⟩:ByteArray)[i.toNat]? =some (l.getD i.toNat 0):=by
  rw[getElem?_pos _ _ (by rw[uU];exact hlt)];simp[aA,hlt,ByteArray.getElem_eq_getElem_data]
 simp[execOp,ho,hex,b,Sem.run_bind,Sem.run_pure,Instr.index,run_underlying hd,asIntOf,hi,e]
theorem l6{T:TypeId}{b:Bool}(hb:ku P T=some b):(isAgg T).run P w=.ok b w:=by
 unfold ku at hb;cases hu:P.underlying T with
 |none=>rw[hu] at hb;simp at hb
 |some d=>
  rw[hu] at hb;cases d<;>simp at hb<;>subst hb<;>simp[isAgg,Sem.run_bind,Sem.run_pure,run_underlying hu]
theorem gb{T:TypeId}{n:Nat}(hn:qZ P T=some n):(sizeOf T).run P w=.ok n w:=by
 simp only[qZ,au] at hn;obtain⟨i,hi,rfl⟩:=hn;simp[sizeOf,typeInfo,program,Sem.run_bind,Sem.run_pure,Sem.run,hi]
theorem Gf{T:TypeId}{x:Operand}{j n:Nat}{fs:Array Field}{f:Field}{cs:List V}(ho:o.op=.field T x j)(hd:P.underlying T=some (.struct fs))(hf:fs[j]? =some f)(hg:ku P f.type=some true)(hn:qZ P f.type=some n)
  (hs:gg C F h w)(hx:Rel F C.B w (.agg cs) (a.eval x))(hl:f.offset+n<=cs.length)(hK:K (.agg ((cs.drop f.offset).take n)) h):o.wp P a w (fO C F w a o.dst K) Q:=by
 generalize hex:a.eval x=b at hx
 cases hx with
 |agg _ us hsz hr=>
  refine wp_pure (u:=.agg (us.extract f.offset (f.offset+n))) hs ?_ (.agg _ _ (by simp;omega) λi v u hv hu=>?_) hK
  ·generalize a.eval=c at*
   simp[execOp,ho,hex,Sem.run_bind,Sem.run_pure,Instr.field,run_underlying hd,hf,part,asAgg,l6 hg,gb hn]
  ·simp only[bn,bg] at hv
   split at hv
   ·refine hr _ v u hv ?_;simp only[dt] at hu
    split at hu
    ·exact hu
    ·simp at hu
   ·simp at hv
theorem Gg{T:TypeId}{x:Operand}{j:Nat}{fs:Array Field}{f:Field}{cs:List V}(ho:o.op=.field T x j)(hd:P.underlying T=some (.struct fs))(hf:fs[j]? =some f)(hg:ku P f.type=some false)
  (hs:gg C F h w)(hx:Rel F C.B w (.agg cs) (a.eval x))(hl:f.offset<cs.length)(hK:K (cs.getD f.offset .gS) h):o.wp P a w (fO C F w a o.dst K) Q:=by
 generalize hex:a.eval x=c at hx
 cases hx with
 |agg _ us hsz hr=>
  have b:f.offset<us.size:=by omega
  refine wp_pure (u:=us[f.offset]) hs ?_ (hr f.offset _ _ (by simp[aA,hl]) (by simp[b])) hK
  generalize a.eval=d at*
  simp[execOp,ho,hex,Sem.run_bind,Sem.run_pure,Instr.field,run_underlying hd,hf,part,asAgg,l6 hg,b]
theorem jB{b off n:Nat}:(⟨b,off,none⟩:Addr).add n=⟨b,off+n,none⟩:=by
 unfold Addr.add
 split
 ·subst_vars;rfl
 ·rfl
theorem wP{T:TypeId}{x:Operand}{j n:Nat}{fs:Array Field}{f:Field}{u:Value}{v:V}{b off:Nat}(ho:o.op=.fieldAddr T x j)(hd:P.underlying T=some (.struct fs))(hf:fs[j]? =some f)(hn:qZ P f.type=some n)(c:n≠0)
  (hs:gg C F h w)(hx:a.eval x=.pointer (some ⟨b,off,none⟩))(hv:Rel F C.B w v (.pointer (some ⟨b,off+f.offset,none⟩)))(hK:K v h):o.wp P a w (fO C F w a o.dst K) Q:=by
 refine wp_pure hs ?_ hv hK
 generalize a.eval=d at*
 simp[execOp,ho,hx,Sem.run_bind,Sem.run_pure,Instr.fieldAt,run_underlying hd,hf,Instr.sureAddr,fieldPlace,gb hn,c,jB]
theorem sU{T e:TypeId}{x y:Operand}{n:Nat}{v:V}{k:IntKind}{i:Int}{b off len cap:Nat}(ho:o.op=.indexAddr T x y)(hd:P.underlying T=some (.slice e))(hn:qZ P e=some n)
  (hs:gg C F h w)(hx:a.eval x=.slice (some ⟨b,off,none⟩) len cap)(hy:a.eval y=.int k i)(h0:0<=i)(hl:i<len)(hv:Rel F C.B w v (.pointer (some ⟨b,off+i.toNat*n,none⟩)))(hK:K v h):o.wp P a w (fO C F w a o.dst K) Q:=by
 refine wp_pure hs ?_ hv hK
 generalize a.eval=c at*
 simp[execOp,ho,hx,hy,Sem.run_bind,Sem.run_pure,Instr.indexAt,run_underlying hd,asIntOf,h0,hl,gb hn,jB]
theorem yR{T e:TypeId}{x y:Operand}{n:Nat}{v:V}{k:IntKind}{i:Int}{b off len:Nat}(ho:o.op=.indexAddr T x y)(hd:P.underlying T=some (.array len e))(hn:qZ P e=some n)
  (hs:gg C F h w)(hx:a.eval x=.pointer (some ⟨b,off,none⟩))(hy:a.eval y=.int k i)(h0:0<=i)(hl:i<len)(hv:Rel F C.B w v (.pointer (some ⟨b,off+i.toNat*n,none⟩)))(hK:K v h):o.wp P a w (fO C F w a o.dst K) Q:=by
 refine wp_pure hs ?_ hv hK
 generalize a.eval=c at*
 simp[execOp,ho,hx,hy,Sem.run_bind,Sem.run_pure,Instr.indexAt,run_underlying hd,Instr.sureAddr,asIntOf,h0,hl,gb hn,jB]
theorem o9{k:IntKind}{i:Int}{y:Nat}{c:BoundsCode}(h0:0<=i)(h1:i<=y):(Instr.sliceBound (.int k i) y c).run P w=.ok i.toNat w:=by
 simp[Instr.sliceBound,Sem.run_bind,Sem.run_pure,asIntOf,h0,h1]
theorem jJ{isS:Bool}{len cap:Nat}{lo hi:Option Value}{l r:Int}(hl:(lo=none/\l=0)\/∃k,lo=some (.int k l))(hh:(hi=none/\r=len)\/∃k,hi=some (.int k r))(h0:0<=l)(h1:l<=r)(h2:r<=len)(hc:len<=cap):
  (Instr.sliceBounds isS len cap lo hi none).run P w=.ok (l.toNat,r.toNat,cap) w:=by
 have b:0<=r:=by omega
 have c:r<=cap:=by omega
 have d:l<=(r.toNat:Int):=by omega
 rcases hl with⟨rfl,rfl⟩|⟨k,rfl⟩<;>rcases hh with⟨rfl,rfl⟩|⟨k',rfl⟩
 ·simp[Instr.sliceBounds,Sem.run_bind,Sem.run_pure]
 ·simp[Instr.sliceBounds,Sem.run_bind,Sem.run_pure,o9 b c]
 ·simp[Instr.sliceBounds,Sem.run_bind,Sem.run_pure,o9 (y:=len) h0 h1]
 ·simp[Instr.sliceBounds,Sem.run_bind,Sem.run_pure,o9 b c,o9 h0 d]
theorem xC{lo:Option Operand}{b:Option hJ}{l:Int}{c:Int->Prop}(ht:yO lo=some b)(hr:∀i:Nat,Rel F C.B w (s.t i) (a.tmps.getD i undef))(h:Bg (b.map (hJ.ev s)) c):
  ∃l,c l/\((lo.map a.eval=none/\l=0)\/∃k,lo.map a.eval=some (.int k l)):=by
 cases lo with
 |none=>simp[yO] at ht;subst ht;exact⟨0,h,.inl ⟨rfl,rfl⟩⟩
 |some x=>
  simp only[yO,au] at ht;obtain⟨y,hy,rfl⟩:=ht;have hrel:=fb hr hy;simp only[aN] at h
  generalize hJ.ev s y=d at h hrel
  generalize hex:a.eval x=e at hrel
  cases hrel<;>simp only[Bg] at h
  case int k n=>exact⟨n,h,.inr ⟨k,by simp[hex]⟩⟩
  all_goals exact h.elim
theorem xD{hi:Option Operand}{hi':Option hJ}{len:Nat}{b:Int->Prop}(ht:yO hi=some hi')(hr:∀i:Nat,Rel F C.B w (s.t i) (a.tmps.getD i undef))(h:LB (hi'.map (hJ.ev s)) len b):
  ∃l,b l/\((hi.map a.eval=none/\l=len)\/∃k,hi.map a.eval=some (.int k l)):=by
 cases hi with
 |none=>simp[yO] at ht;subst ht;exact⟨len,h,.inl ⟨rfl,rfl⟩⟩
 |some x=>
  simp only[yO,au] at ht;obtain⟨y,hy,rfl⟩:=ht;have hrel:=fb hr hy;simp only[aN] at h
  generalize hJ.ev s y=c at h hrel
  generalize hex:a.eval x=d at hrel
  cases hrel<;>simp only[LB] at h
  case int k n=>exact⟨n,h,.inr ⟨k,by simp[hex]⟩⟩
  all_goals exact h.elim
theorem Ea{T:TypeId}{x:Operand}{lo hi:Option Operand}{l:BS}{p q:Int}(ho:o.op=.slice T x lo hi none)(hd:P.underlying T=some .string)(hs:gg C F h w)(hx:Rel F C.B w (.str l) (a.eval x))
  (b:(lo.map a.eval=none/\p=0)\/∃k,lo.map a.eval=some (.int k p))(c:(hi.map a.eval=none/\q=l.length)\/∃k,hi.map a.eval=some (.int k q))(h0:0<=p)(h1:p<=q)(h2:q<=l.length)
  (hK:K (.str ((l.take q.toNat).drop p.toNat)) h):o.wp P a w (fO C F w a o.dst K) Q:=by
 generalize hex:a.eval x=d at hx
 cases hx;refine wp_pure (u:=.string ⟨((l.take q.toNat).drop p.toNat).toArray⟩) hs ?_ (.str _) hK
 generalize a.eval=f at*
 have e:(⟨l.toArray⟩:ByteArray).extract p.toNat q.toNat=⟨((l.take q.toNat).drop p.toNat).toArray⟩:=by
  apply ByteArray.ext;apply Array.ext';simp[du,dw]
 have hb:=jJ (P:=P) (w:=w) (isS:=false) (len:=l.length) (cap:=l.length) b c h0 h1 h2 (ag _);simp[execOp,ho,hex,Sem.run_bind,Sem.run_pure,Instr.sliceAt,run_underlying hd,Instr.slice,uU,hb,e]
theorem Eb{T e:TypeId}{x:Operand}{lo hi:Option Operand}{n m k:Nat}{bk:Option Nat}{p q:Int}(ho:o.op=.slice T x lo hi none)(hd:P.underlying T=some (.slice e))(hn:qZ P e=some n)(hs:gg C F h w)(hx:Rel F C.B w (.own k bk n m) (a.eval x))
  (d:(lo.map a.eval=none/\p=0)\/∃k,lo.map a.eval=some (.int k p))(f:(hi.map a.eval=none/\q=m)\/∃k,hi.map a.eval=some (.int k q))(h0:0<=p)(h1:p<=q)(h2:q<=m)
  (hK:K (.win k bk n p q) h):o.wp P a w (fO C F w a o.dst K) Q:=by
 generalize hex:a.eval x=r at hx
 cases hx with
 |ownnil=>
  have hp:p=0:=by omega
  have hq:q=0:=by omega
  subst hp hq;refine wp_pure (u:=.slice none 0 0) hs ?_ (.winemp _ _ _ _ _) hK
  generalize a.eval=j at*
  have hb:=jJ (P:=P) (w:=w) (isS:=true) (len:=0) (cap:=0) d f h0 h1 qW (ag _);simp[execOp,ho,hex,Sem.run_bind,Sem.run_pure,Instr.sliceAt,run_underlying hd,Instr.slice,hb,gb hn]
 |own _ b _ _ cap c e fr g i l lq=>
  have hb:=jJ (P:=P) (w:=w) (isS:=true) (len:=m) (cap:=cap) d f h0 h1 h2 lq
  by_cases hm:cap=p.toNat
  ·have e1:q=p:=by omega
   subst e1;refine wp_pure (u:=.slice (some ⟨b,0,none⟩) 0 0) hs ?_ (.winemp _ _ _ _ _) hK
   generalize a.eval=j at*
   simp[execOp,ho,hex,Sem.run_bind,Sem.run_pure,Instr.sliceAt,run_underlying hd,Instr.slice,hb,gb hn];simp[hm]
  ·refine wp_pure (u:=.slice (some ⟨b,p.toNat*n,none⟩) (q.toNat-p.toNat) (cap-p.toNat)) hs ?_ ?_ hK
   ·generalize a.eval=j at*
    simp[execOp,ho,hex,Sem.run_bind,Sem.run_pure,Instr.sliceAt,run_underlying hd,Instr.slice,hb,gb hn];simp[hm,jB]
   ·have e2:q.toNat-p.toNat=(q-p).toNat:=by omega
    rw[e2];have e3:cap-p.toNat+p.toNat=cap:=by omega
    exact .win _ b _ (cap-p.toNat) p q c e fr g (by rw[e3];exact i) qW qW h0 h1
theorem Ec{T e:TypeId}{x:Operand}{lo hi:Option Operand}{n k:Nat}{bk:Option Nat}{l0 g0 p q:Int}(ho:o.op=.slice T x lo hi none)(hd:P.underlying T=some (.slice e))(hn:qZ P e=some n)(hs:gg C F h w)(hx:Rel F C.B w (.win k bk n l0 g0) (a.eval x))
  (f:(lo.map a.eval=none/\p=0)\/∃k,lo.map a.eval=some (.int k p))(d:(hi.map a.eval=none/\q=((g0-l0).toNat:Int))\/∃k,hi.map a.eval=some (.int k q))(h0:0<=p)(h1:p<=q)(h2:q<=((g0-l0).toNat:Int))
  (hK:K (.win k bk n (l0+p) (l0+q)) h):o.wp P a w (fO C F w a o.dst K) Q:=by
 generalize hex:a.eval x=t at hx
 cases hx with
 |winemp _ _ _ _ ad=>
  have hz:((l0-l0).toNat:Int)=0:=by omega
  rw[hz] at h2 d;have hp:p=0:=by omega
  have hq:q=0:=by omega
  subst hp hq;refine wp_pure (u:=.slice ad 0 0) hs ?_ (.winemp _ _ _ _ _) hK
  generalize a.eval=j at*
  have hb:=jJ (P:=P) (w:=w) (isS:=true) (len:=0) (cap:=0) f d h0 h1 qW (ag _);cases ad<;>simp[execOp,ho,hex,Sem.run_bind,Sem.run_pure,Instr.sliceAt,run_underlying hd,Instr.slice,hb,gb hn]
 |win _ b _ cap _ _ c e fr g i l lq m r=>
  have hb:=jJ (P:=P) (w:=w) (isS:=true) (len:=(g0-l0).toNat) (cap:=cap) f d h0 h1 h2 lq
  by_cases hm:cap=p.toNat
  ·have e1:q=p:=by omega
   subst e1;refine wp_pure (u:=.slice (some ⟨b,l0.toNat*n,none⟩) 0 0) hs ?_ (.winemp _ _ _ _ _) hK
   generalize a.eval=j at*
   simp[execOp,ho,hex,Sem.run_bind,Sem.run_pure,Instr.sliceAt,run_underlying hd,Instr.slice,hb,gb hn];simp[hm]
  ·refine wp_pure (u:=.slice (some ⟨b,l0.toNat*n+p.toNat*n,none⟩) (q.toNat-p.toNat) (cap-p.toNat)) hs ?_ ?_ hK
   ·generalize a.eval=j at*
    simp[execOp,ho,hex,Sem.run_bind,Sem.run_pure,Instr.sliceAt,run_underlying hd,Instr.slice,hb,gb hn];simp[hm,jB]
   ·have e2:q.toNat-p.toNat=(l0+q-(l0+p)).toNat:=by omega
    rw[e2];have e3:(l0+p).toNat=l0.toNat+p.toNat:=by omega
    have e4:cap-p.toNat+(l0+p).toNat=cap+l0.toNat:=by omega
    rw[<-bN,<-e3];exact .win _ b _ (cap-p.toNat) _ _ c e fr g (by rw[e4];exact i) qW qW qW qW
theorem Gh{T e:TypeId}{x:Operand}{lo hi:Option Operand}{n:Nat}{t:Bool}{rows:List (List V)}{p q:Int}(ho:o.op=.slice T x lo hi none)(hd:P.underlying T=some (.slice e))(hn:qZ P e=some n)(hs:gg C F h w)(hx:Rel F C.B w (.sl t n rows) (a.eval x))
  (c:(lo.map a.eval=none/\p=0)\/∃k,lo.map a.eval=some (.int k p))(d:(hi.map a.eval=none/\q=rows.length)\/∃k,hi.map a.eval=some (.int k q))(h0:0<=p)(h1:p<=q)(h2:q<=rows.length)
  (hK:K (.sl t n ((rows.take q.toNat).drop p.toNat)) h):o.wp P a w (fO C F w a o.dst K) Q:=by
 generalize hex:a.eval x=z at hx
 cases hx with
 |slnil t sz=>
  have hp:p=0:=by simp at h2;omega
  have hq:q=0:=by simp at h2;omega
  subst hp hq;simp only[List.take_nil,List.drop_nil] at hK;refine wp_pure (u:=.slice none 0 0) hs ?_ (.slnil _ _) hK
  generalize a.eval=f at*
  have hb:=jJ (P:=P) (w:=w) (isS:=true) (len:=0) (cap:=0) c d h0 h1 qW (ag _);simp[execOp,ho,hex,Sem.run_bind,Sem.run_pure,Instr.sliceAt,run_underlying hd,Instr.slice,hb,gb hn]
 |slemp t sz ad cap=>
  have hp:p=0:=by simp at h2;omega
  have hq:q=0:=by simp at h2;omega
  subst hp hq;simp only[List.take_nil,List.drop_nil] at hK;refine wp_pure (u:=.slice (some ad) 0 cap) hs ?_ (.slemp _ _ _ _) hK
  generalize a.eval=f at*
  have hb:=jJ (P:=P) (w:=w) (isS:=true) (len:=0) (cap:=cap) c d h0 h1 qW (bd _);have g:ad.add 0=ad:=by simp[Addr.add]
  by_cases m:cap=0<;>simp[execOp,ho,hex,Sem.run_bind,Sem.run_pure,Instr.sliceAt,run_underlying hd,Instr.slice,hb,gb hn,g]
 |sl _ _ _ b off cap us hF lq hsz hc hr=>
  have hb:=jJ (P:=P) (w:=w) (isS:=true) (len:=rows.length) (cap:=cap) c d h0 h1 h2 lq;have hlen:((rows.take q.toNat).drop p.toNat).length=q.toNat-p.toNat:=by simp;omega
  by_cases hm:cap=p.toNat
  ·refine wp_pure (u:=.slice (some ⟨b,off,none⟩) (q.toNat-p.toNat) (cap-p.toNat)) hs ?_ ?_ hK
   ·generalize a.eval=f at*
    simp[execOp,ho,hex,Sem.run_bind,Sem.run_pure,Instr.sliceAt,run_underlying hd,Instr.slice,hb,gb hn];simp[hm]
   ·have y:(rows.take q.toNat).drop p.toNat=[]:=by apply aq;rw[hlen];omega
    have:=Rel.sl (F:=F) (B:=C.B) (w:=w) t n [] b off (cap-p.toNat) us hF (by simp) (by simp) (by simp) (by simp);rw[y];have e1:q.toNat-p.toNat=0:=by omega
    rw[e1];exact this
  ·refine wp_pure (u:=.slice (some ⟨b,off+p.toNat*n,none⟩) (q.toNat-p.toNat) (cap-p.toNat)) hs ?_ ?_ hK
   ·generalize a.eval=f at*
    simp[execOp,ho,hex,Sem.run_bind,Sem.run_pure,Instr.sliceAt,run_underlying hd,Instr.slice,hb,gb hn];simp[hm,jB]
   ·rw[<-hlen];refine Rel.sl t n _ b (off+p.toNat*n) (cap-p.toNat) (λi j=>us (p.toNat+i) j) hF (by rw[hlen];omega) (λr l=>hsz r (cS (cy l))) (λi j r v hi hj=>?_) (λi j r v hi hj=>?_)
    ·rw[bg,bn] at hi
     split at hi
     ·have:=hc (p.toNat+i) j r v hi hj;rw[show off+p.toNat*n+(i*n+j)=off+((p.toNat+i)*n+j) by rw[bN];omega];exact this
     ·simp at hi
    ·rw[bg,bn] at hi
     split at hi
     ·exact hr (p.toNat+i) j r v hi hj
     ·simp at hi
end
section
variable {P:Program} {C:Ctx} {F:Nat->Prop} {w w':World} {a:Act} {s:S} {h:Hp} {K:V->Hp->Prop} {Q:Exit->Act->World->Prop} {o:Oper}
theorem fy.lt{B:Nat->Prop}{ob:Ob}{b:Nat}(h:fy F B w ob)(hb:ob.b=some b):b<w.heap.size:=by
 unfold fy at h;rw[hb] at h;obtain⟨c,cap,hc,_⟩:=h;exact(aD.1 hc).1
theorem gg.SA(c:C.Ok)(hs:gg C F h w){k:Nat}{ob:Ob}{b:Nat}(hk:h k=some ob)(hb:ob.b=some b):¬C.B b:=by
 intro hB;have h1:=c.B b hB
 rcases(hs.live k ob b hk hb).2 with h2|h2
 ·exact h1.2 h2
 ·omega
theorem gg.keep(f:C.Ok)(hs:gg C F h w){L:Nat->Prop}(he:Ev L w w')(g:∀b,b<w.heap.size->L b->∃k ob,h k=some ob/\ob.b=some b){x:V}{y:Value}(hr:Rel F C.B w x y):Rel F C.B w' x y:=by
 refine Rel.keep he (λ_ _ h=>h) (λ_ _ h=>.inr h) (λb hb c e=>?_) hr (λb c=>?_)
 ·obtain⟨k,ob,hk,d⟩:=g b hb e
  rcases c with h1|h1
  ·exact(hs.live k ob b hk d).1 h1
  ·exact hs.SA f hk d h1
 ·rcases c with h1|h1
  ·exact hs.lt b h1
  ·exact bE (f.B b h1).1 hs.ev.size
theorem fy.keep(d:C.Ok)(hs:gg C F h w){L:Nat->Prop}(he:Ev L w w')(e:∀b,b<w.heap.size->L b->∃k ob,h k=some ob/\ob.b=some b){ob:Ob}(ho:fy F C.B w ob)(hn:∀b,ob.b=some b->¬L b):fy F C.B w' ob:=by
 unfold fy at ho⊢;cases hb:ob.b with
 |none=>rw[hb] at ho;exact ho
 |some b=>
  rw[hb] at ho;obtain⟨c,cap,hc,h1,h2,h3,h4,h5⟩:=ho;refine⟨c,cap,(he.same b (aD.1 hc).1 (hn b hb)).trans hc,h1,h2,h3,h4,λi j r v hi hj=>?_⟩;obtain⟨u,hu,ho,hr⟩:=h5 i j r v hi hj;exact⟨u,hu,ho,hs.keep d he e hr⟩
theorem gg.step(j:C.Ok)(hs:gg C F h w){L:Nat->Prop}(he:Ev L w w'){k:Nat}(e:∀b,b<w.heap.size->L b->∃ob,h k=some ob/\ob.b=some b){o':Ob}(ho:fy F C.B w' o')
  (c:∀b,o'.b=some b->w.heap.size<=b\/∃ob,h k=some ob/\ob.b=some b):gg C F (h.put k o') w':=by
 have f:∀b,b<w.heap.size->L b->∃k ob,h k=some ob/\ob.b=some b:=λb hb hl=>⟨k,e b hb hl⟩;refine⟨λk' ob hk=>?_,λk1 k2 o1 o2 b h1 h2 e1 e2=>?_,λk' ob b hk hb=>?_,hs.jq,hs.new,λb hb=>bE (hs.lt b hb) he.size,?_⟩
 ·unfold Hp.put at hk
  split at hk
  ·cases hk;exact ho
  ·refine fy.keep j hs he f (hs.ob k' ob hk) λb hb hl=>?_;obtain⟨g,h2,e2⟩:=e b ((hs.ob k' ob hk).lt hb) hl;have:=hs.inj k' k ob g b hk h2 hb e2
   contradiction
 ·unfold Hp.put at h1 h2
  split at h1<;>split at h2
  ·subst_vars;rfl
  ·cases h1
   rcases c b e1 with d|⟨ob,hk,hb⟩
   ·have:=(hs.ob k2 o2 h2).lt e2;omega
   ·have:=hs.inj k k2 ob o2 b hk h2 hb e2;omega
  ·cases h2
   rcases c b e2 with d|⟨ob,hk,hb⟩
   ·have:=(hs.ob k1 o1 h1).lt e1;omega
   ·have:=hs.inj k1 k o1 ob b h1 hk e1 hb;omega
  ·exact hs.inj k1 k2 o1 o2 b h1 h2 e1 e2
 ·unfold Hp.put at hk
  split at hk
  ·cases hk
   rcases c b hb with d|⟨ob,hk2,hb2⟩
   ·refine⟨λhF=>?_,.inr (bG hs.ev.size d)⟩;have:=hs.lt b hF;omega
   ·exact hs.live k ob b hk2 hb2
  ·exact hs.live k' ob b hk hb
 ·refine Ev.j8 hs.ev he λb hb hl=>?_;obtain⟨ob,hk,i⟩:=e b (bE hb hs.ev.size) hl
  rcases(hs.live k ob b hk i).2 with h1|h1
  ·exact h1
  ·omega
theorem kl(d:C.Ok){u:Value}{v:V}{k:Nat}{o':Ob}{L:Nat->Prop}(hs:gg C F h w)(jR:(execOp a.eval o).run P w=.ok (.value u) w')(he:Ev L w w')(e:∀b,b<w.heap.size->L b->∃ob,h k=some ob/\ob.b=some b)
  (hv:Rel F C.B w' v u)(ho:fy F C.B w' o')(c:∀b,o'.b=some b->w.heap.size<=b\/∃ob,h k=some ob/\ob.b=some b)(hK:K v (h.put k o')):
  o.wp P a w (fO C F w a o.dst K) Q:=
 F5 jR ⟨u,v,_,F,rfl,hv,hs.step d he e ho c,λ_ _ hr=>hs.keep d he (λb hb hl=>⟨k,e b hb hl⟩) hr,hK⟩
theorem fy.new{B:Nat->Prop}{c:Array Value}{e sz:Nat}{rows:List (List V)}(hc:∀(i j:Nat)(r:List V)(v:V),rows[i]? =some r->r[j]? =some v->∃u,c[i*sz+j]? =some u/\u.oneCell'=true/\Rel F B (w.alloc (.cells c e)) v u)
  (hsz:∀r∈rows,r.length=sz)(lq:c.size=rows.length*sz)(hm:rows.length<=maxLen):fy F B (w.alloc (.cells c e)) ⟨some w.heap.size,e,sz,rows⟩:=
 ⟨c,rows.length,heap_alloc_new w _,lq,hm,ag _,hsz,hc⟩
theorem uV{T:TypeId}{z:List Value}(hz:mc P T=some z):∃v:Value,v.cells.toList=z/\(zeroValue T).run P w=.ok v w:=by
 simp only[mc,au,bT] at hz;obtain⟨v,⟨i,hi,hv⟩,rfl⟩:=hz;exact⟨v,rfl,by simp[zeroValue,typeInfo,program,Sem.run_bind,Sem.run_pure,Sem.run,hi,hv]⟩
theorem uW{T:TypeId}{v:Value}:(newVar T v).run P w=.ok ⟨w.heap.size,0,none⟩ (w.alloc (.cells v.cells T)):=by
 simp[newVar,newRow,newObj,Sem.run_bind,Sem.run_pure,Sem.run]
theorem Ed(c:C.Ok){T:TypeId}{z:List Value}{k:Nat}(ho:o.op=.alloc T)(hz:mc P T=some z)(hs:gg C F h w)(h1:z.all (λu=>u.oneCell')=true)
  (hK:∀β:Nat,K (.ptr k (some β) z.length 0 0) (h.put k ⟨some β,T,z.length,[z.map yM]⟩)):o.wp P a w (fO C F w a o.dst K) Q:=by
 obtain⟨v,hv,hr⟩:=uV (w:=w) hz;subst hv;refine kl c (u:=.pointer (some ⟨w.heap.size,0,none⟩)) (w':=w.alloc (.cells v.cells T)) (L:=λ_=>False) hs ?_ (Ev.alloc _ _ _) (λ_ _ h=>h.elim) ?_ (fy.new (λi j r v' hi hj=>?_) (by simp) (by simp) (by simp[maxLen])) (λb hb=>?_) (hK w.heap.size)
 ·generalize a.eval=d at*
  simp[execOp,ho,Sem.run_bind,Sem.run_pure,Instr.alloc,hr,uW]
 ·simpa using Rel.ptr (F:=F) (B:=C.B) (w:=w.alloc (.cells v.cells T)) k w.heap.size v.cells.toList.length 0 0
 ·cases i with
  |zero=>
   simp at hi;subst hi;simp only[av,au] at hj;obtain⟨u,hu,rfl⟩:=hj;refine⟨u,by simpa using hu,?_,q6 _ _ _ _⟩;exact(aE.1 h1) u (az hu)
  |succ i=>simp at hi
 ·left;cases hb;exact ag _
theorem pd{B:Nat->Prop}{v:V}{u:Value}{n:Nat}(hr:Rel F B w v u)(hf:v.fits n):u.cells.size=n/\∀(j:Nat)(x:V),v.cells[j]? =some x->∃y,u.cells[j]? =some y/\y.oneCell'=true/\Rel F B w x y:=by
 have one:∀x y,x.one=true->Rel F B w x y->y.oneCell'=true:=by
  intro x y hx hr;cases hr<;>simp[V.one,Value.oneCell'] at hx⊢
  exact hx
 obtain⟨hl,ha⟩:=hf;have single:v.cells=[v]->u.cells= #[u]->u.cells.size=n/\∀(j:Nat)(x:V),v.cells[j]? =some x->∃y,u.cells[j]? =some y/\y.oneCell'=true/\Rel F B w x y:=by
  intro e1 e2;rw[e1] at hl ha;refine⟨by rw[e2];simpa using hl,λj x hj=>?_⟩;rw[e1] at hj;cases j with
  |zero=>
   simp at hj;subst hj;exact⟨u,by simp[e2],one _ _ (by simpa using ha) hr,hr⟩
  |succ j=>simp at hj
 cases hr with
 |agg cs us hsz ko=>
  simp only[V.cells] at hl ha⊢;refine⟨by simp only[Value.cells];omega,λj x hj=>?_⟩;have b:j<us.size:=by have:=(ah.1 hj).1;omega
  have:=ko j x us[j] hj (by simp[b]);exact⟨us[j],by simp[Value.cells,b],one _ _ (aE.1 ha x (az hj)) this,this⟩
 |raw=>
  cases u<;>first|exact single rfl rfl|(simp[V.cells,V.one,Value.oneCell'] at ha)
 |gS=>simp[V.cells,V.one] at ha
 |nu=>simp[V.cells,V.one] at ha
 |tup=>simp[V.cells,V.one] at ha
 |_=>exact single rfl rfl
theorem LO(d:C.Ok){T:TypeId}{x:Operand}{v:V}{n k:Nat}(ho:o.op=.box T x)(hs:gg C F h w)(hx:Rel F C.B w v (a.eval x))(hf:v.fits n)
  (hK:∀β:Nat,K (.ptr k (some β) n 0 0) (h.put k ⟨some β,T,n,[v.cells]⟩)):o.wp P a w (fO C F w a o.dst K) Q:=by
 obtain⟨h1,h2⟩:=pd hx hf;refine kl d (u:=.pointer (some ⟨w.heap.size,0,none⟩)) (w':=w.alloc (.cells (a.eval x).cells T)) (L:=λ_=>False) hs ?_ (Ev.alloc _ _ _) (λ_ _ h=>h.elim) ?_ (fy.new (λi j r v' hi hj=>?_) (by simp[hf.1]) (by simp[h1]) (by simp[maxLen])) (λb hb=>?_) (hK w.heap.size)
 ·generalize a.eval=e at*
  simp[execOp,ho,Sem.run_bind,Sem.run_pure,Instr.box,uW]
 ·simpa using Rel.ptr (F:=F) (B:=C.B) (w:=w.alloc (.cells (a.eval x).cells T)) k w.heap.size n 0 0
 ·cases i with
  |zero=>
   simp at hi;subst hi;obtain⟨y,hy,c,hr⟩:=h2 j v' hj;exact⟨y,by simpa using hy,c,hs.keep d (Ev.alloc (λ_=>False) _ _) (λ_ _ h=>h.elim) hr⟩
  |succ i=>simp at hi
 ·left;cases hb;exact ag _
end
theorem p6{α:Type}(l vs:List α)(o m:Nat)(h:o+vs.length<=l.length):(l.take o++vs++l.drop (o+vs.length))[m]? =if m<o then l[m]? else if m<o+vs.length then vs[m-o]? else l[m]? :=by
 have hl:(l.take o).length=o:=by simp;omega
 by_cases h1:m<o
 ·rw[ae h1,aP,aW qW,bn,ae h1]
 ·rw[aa h1]
  by_cases h2:m<o+vs.length
  ·rw[ae h2,aP,aV qW,aW qW,hl]
  ·rw[aa h2,aV (by simp;omega),bg]
   congr 1
   simp only[an,hl];omega
section
variable {P:Program} {C:Ctx} {F:Nat->Prop} {w w':World} {a:Act} {s:S} {h:Hp} {K:V->Hp->Prop} {Q:Exit->Act->World->Prop} {o:Oper}
theorem uX(hs:gg C F h w){k sz i:Nat}{b:Option Nat}{d:Ob->List V->Prop}(hr:tX h k b sz i d):
  ∃ob g c cap,h k=some ob/\ob.b=b/\ob.sz=sz/\i<ob.rows.length/\d ob (ob.rows.getD i [])/\b=some g/\w.heap[g]? =some (.cells c ob.ty (0,0))/\c.size=cap*sz/\cap<=maxLen/\ob.rows.length<=cap/\(ob.rows.getD i []).length=sz/\(∀r∈ob.rows,r.length=sz)/\
   (∀(i j:Nat)(r:List V)(v:V),ob.rows[i]? =some r->r[j]? =some v->∃u,c[i*sz+j]? =some u/\u.oneCell'=true/\Rel F C.B w v u):=by
 unfold tX at hr;cases hk:h k with
 |none=>rw[hk] at hr;exact hr.elim
 |some ob=>
  rw[hk] at hr;obtain⟨e1,e2,hi,hK⟩:=hr;have ho:=hs.ob k ob hk;unfold fy at ho;cases hb:ob.b with
  |none=>rw[hb] at ho;rw[ho] at hi;simp at hi
  |some g=>
   rw[hb] at ho;obtain⟨c,cap,hc,h1,h2,h3,h4,h5⟩:=ho;subst e2;refine⟨ob,g,c,cap,rfl,e1,rfl,hi,hK,by rw[<-e1,hb],hc,h1,h2,h3,?_,h4,h5⟩;have hm:ob.rows.getD i []∈ob.rows:=by simp[aA,hi]
   exact h4 _ hm
theorem wR{T:TypeId}{ad:Addr}{u:Value}(hg:ku P T=some false)(hc:w.cell? ad=some u):(loadVar T ad).run P w=.ok u w:=by
 simp[loadVar,Sem.run_bind,Sem.run_pure,l6 hg,load,Sem.run,hc]
theorem Ee{T:TypeId}{ad:Addr}{n:Nat}(hg:ku P T=some true)(hn:qZ P T=some n)(hc:∀j,j<n->∃u,w.cell? (ad.add j)=some u):(loadVar T ad).run P w=.ok (.agg ((List.range n).map λj=>(w.cell? (ad.add j)).getD undef).toArray) w:=by
 have:=run_loadCells (P:=P) w ad n (λj=>(w.cell? (ad.add j)).getD undef) (λj hj=>by obtain⟨u,hu⟩:=hc j hj;rw[hu];rfl);simp[loadVar,Sem.run_bind,Sem.run_pure,l6 hg,gb hn,this]
theorem uY{T:TypeId}{f:V}{j:Value}{K:V->Prop}(hg:ku P T=some false)(hs:gg C F h w)(hx:Rel F C.B w f j)(hK:oC h f K):
  ∃ad v u,j=.pointer (some ad)/\(loadVar T ad).run P w=.ok u w/\Rel F C.B w v u/\K v:=by
 cases hx with
 |ptr k b sz i off=>
  simp only[oC] at hK;obtain⟨ob,g,c,cap,hk,e1,e2,hi,m,e3,hc,_,_,_,hl,_,d⟩:=uX hs hK;cases e3;obtain⟨hlt,e⟩:=m;obtain⟨u,hu,h1,hr⟩:=d i off (ob.rows.getD i []) ((ob.rows.getD i []).getD off .gS) (by simp[aA,hi]) (by simp only[aA (l:=ob.rows.getD i [])];rw[af hlt];rfl);have hcell:w.cell? ⟨b,i*sz+off,none⟩=some u:=by rw[cell_of_row w b _ c ob.ty (0,0) hc];exact hu
  exact⟨_,_,u,rfl,wR hg hcell,hr,e⟩
 |rp t b off cs us hF hc hr=>
  obtain⟨hlt,e⟩:=hK;have h0:cs[0]? =some (cs.getD 0 .gS):=by rw[aA,af hlt];rfl
  have hcell:=(hc 0 _ h0).1;rw[bP] at hcell;exact⟨_,_,us 0,rfl,wR hg hcell,hr 0 _ h0,e⟩
 |_=>exact hK.elim
theorem uZ{T:TypeId}{m:V}{f:Value}{n:Nat}{K:V->Prop}(hg:ku P T=some true)(hn:qZ P T=some n)(hs:gg C F h w)(hx:Rel F C.B w m f)(hK:oD h n m K):
  ∃ad v u,f=.pointer (some ad)/\(loadVar T ad).run P w=.ok u w/\Rel F C.B w v u/\K v:=by
 have key:∀(b off:Nat)(cs:List V),f=.pointer (some ⟨b,off,none⟩)->cs.length=n->(∀(j:Nat)(v:V),cs[j]? =some v->∃u,w.cell? ⟨b,off+j,none⟩=some u/\Rel F C.B w v u)->K (.agg cs)->
   ∃ad v u,f=.pointer (some ad)/\(loadVar T ad).run P w=.ok u w/\Rel F C.B w v u/\K v:=by
  intro b off cs hex hl hc hk;have d:∀j,j<n->∃u,w.cell? ((⟨b,off,none⟩:Addr).add j)=some u:=λj hj=>by
   obtain⟨u,hu,_⟩:=hc j cs[j] (by simp[hl,hj]);exact⟨u,by rw[jB];exact hu⟩
  refine⟨_,.agg cs,_,hex,Ee hg hn d,.agg _ _ (by simp[hl]) λi v u hv hu=>?_,hk⟩;obtain⟨q,l,hr⟩:=hc i v hv;have hi:i<n:=by have:=(ah.1 hv).1;omega
  simp[hi,jB,l] at hu;subst hu;exact hr
 cases hx with
 |ptr k b sz i off=>
  simp only[oD] at hK;obtain⟨ob,g,c,cap,hk,e1,e2,hi,p,e3,hc,_,_,_,hl,_,d⟩:=uX hs hK;cases e3;obtain⟨hlt,e⟩:=p;refine key b (i*sz+off) _ rfl (by simp only[aZ,bA];omega) (λj v hj=>?_) e;rw[bn] at hj
  split at hj
  ·rw[bg] at hj;obtain⟨u,hu,h1,hr⟩:=d i (off+j) (ob.rows.getD i []) v (by simp[aA,hi]) hj;exact⟨u,by rw[cell_of_row w b _ c ob.ty (0,0) hc,show i*sz+off+j=i*sz+(off+j) by omega];exact hu,hr⟩
  ·cases hj
 |rp t b off cs us hF hc hr=>
  obtain⟨hlt,e⟩:=hK;refine key b off _ rfl (by simp;omega) (λj v hj=>?_) e;rw[bn] at hj
  split at hj
  ·exact⟨_,(hc j v hj).1,hr j v hj⟩
  ·cases hj
 |_=>exact hK.elim
theorem Ef{T:TypeId}{x:Operand}{b:V}(ho:o.op=.load T x)(hg:ku P T=some false)(hs:gg C F h w)(hx:Rel F C.B w b (a.eval x))
  (hK:oC h b λv=>K v h):o.wp P a w (fO C F w a o.dst K) Q:=by
 obtain⟨ad,v,u,hu,hr,hv,hk⟩:=uY hg hs hx hK;refine wp_pure hs ?_ hv hk
 generalize a.eval=c at*
 simp[execOp,ho,Sem.run_bind,Sem.run_pure,hu,Instr.loadAt,Instr.sureAddr,hr]
theorem Eg{T:TypeId}{x:Operand}{b:V}{n:Nat}(ho:o.op=.load T x)(hg:ku P T=some true)(hn:qZ P T=some n)(hs:gg C F h w)(hx:Rel F C.B w b (a.eval x))
  (hK:oD h n b λv=>K v h):o.wp P a w (fO C F w a o.dst K) Q:=by
 obtain⟨ad,v,u,hu,hr,hv,hk⟩:=uZ hg hn hs hx hK;refine wp_pure hs ?_ hv hk
 generalize a.eval=c at*
 simp[execOp,ho,Sem.run_bind,Sem.run_pure,hu,Instr.loadAt,Instr.sureAddr,hr]
theorem Eh(hC:C.Ok){T:TypeId}{x y:Operand}{vx t:V}{n:Nat}(ho:o.op=.store T x y)(hn:qZ P T=some n)(hs:gg C F h w)(hx:Rel F C.B w vx (a.eval x))(hy:Rel F C.B w t (a.eval y))
  (hK:uO h n vx t λh=>K .gS h):o.wp P a w (fO C F w a o.dst K) Q:=by
 generalize hex:a.eval x=ux at hx
 cases hx with
 |ptr k b sz i off=>
  simp only[uO] at hK;obtain⟨ob,g,c,cap,hk,e1,e2,hi,hN,e3,hc,D,hm,lq,hl,dS,e⟩:=uX hs hK;cases e3;obtain⟨hlt,hf,O⟩:=hN;subst e2;obtain⟨hz,E⟩:=pd hy hf;have p:t.cells.length=n:=hf.1;have hmul:(i+1)*ob.sz<=cap*ob.sz:=bh _ qW;have hbound:i*ob.sz+off+n<=c.size:=by rw[D];rw[bN] at hmul;omega
  have G:=run_storeCells_at P b (i*ob.sz+off) ob.ty (a.eval y).cells.toList 0 c w hc (by simp[hz];exact hbound) (λu hu=>by
   obtain⟨j,hj⟩:=dL hu;rw[bY] at hj;have R:j<n:=by have:=(aD.1 hj).1;omega
   obtain⟨y',H,h1,_⟩:=E j t.cells[j] (by simp[p,R]);rw[hj] at H;cases H;exact h1)
  simp only[bP] at G;have hlen:(a.eval y).cells.toList.length=n:=by simpa using hz
  have f:((c.toList.take (i*ob.sz+off)++(a.eval y).cells.toList++c.toList.drop (i*ob.sz+off+(a.eval y).cells.toList.length)).toArray).size=c.size:=by
   simp only[cQ,an,aZ,bA,bH,hz];omega
  have z:Ev (λx=>x=b) w (w.setRow b (c.toList.take (i*ob.sz+off)++(a.eval y).cells.toList++c.toList.drop (i*ob.sz+off+(a.eval y).cells.toList.length)).toArray):=Ev.setRow rfl hc f;have hL:∀x,x<w.heap.size->x=b->∃ob,h k=some ob/\ob.b=some x:=λx _ hx=>⟨ob,hk,by rw[e1,hx]⟩;have I:(storeVar T ⟨b,i*ob.sz+off,none⟩ (a.eval y)).run P w=.ok () (w.setRow b (c.toList.take (i*ob.sz+off)++(a.eval y).cells.toList++c.toList.drop (i*ob.sz+off+(a.eval y).cells.toList.length)).toArray):=by
   simp only[storeVar,Sem.run_bind,gb hn,Result.andThen_ok,hz,ne_eq,not_true,↓reduceIte];exact G
  have jR:(execOp a.eval o).run P w=.ok .skip (w.setRow b (c.toList.take (i*ob.sz+off)++(a.eval y).cells.toList++c.toList.drop (i*ob.sz+off+(a.eval y).cells.toList.length)).toArray):=by
   unfold execOp;rw[ho];simp only[Instr.storeAt,Instr.sureAddr,Sem.run_bind,Sem.run_pure,Result.andThen_ok,hex,I]
  generalize U:(c.toList.take (i*ob.sz+off)++(a.eval y).cells.toList++c.toList.drop (i*ob.sz+off+(a.eval y).cells.toList.length)).toArray=c' at jR z f
  have q:∀m,c'[m]? =if m<i*ob.sz+off then c[m]? else if m<i*ob.sz+off+n then(a.eval y).cells[m-(i*ob.sz+off)]? else c[m]? :=by
   intro m;subst U;have:=p6 c.toList (a.eval y).cells.toList (i*ob.sz+off) m (by rw[hlen,bH];exact hbound);rw[hlen] at this;simpa[hlen] using this
  have d:=λ{x:V}{y:Value}=>hs.keep hC (x:=x) (y:=y) z (λx hx he=>⟨k,hL x hx he⟩);have W:fy F C.B (w.setRow b c') {ob with rows:=ob.rows.set i (kP (ob.rows.getD i []) off t.cells)}:=by
   unfold fy;simp only[e1];have J:(kP (ob.rows.getD i []) off t.cells).length=ob.sz:=by
    simp only[kP,an,aZ,bA,p];omega
   refine⟨c',cap,setRow_heap w b c c' ob.ty (0,0) hc,by rw[f,D],hm,by simpa using lq,λr hr=>?_,λN j r v hi' hj=>?_⟩
   ·rcases eh hr with hr|rfl
    ·exact dS r hr
    ·exact J
   ·rw[cz] at hi'
    by_cases A:i=N
    ·subst A;simp only[↓reduceIte,hi,aH] at hi';subst hi';have X:j<ob.sz:=by have:=(ah.1 hj).1;omega
     have Y:=p6 (ob.rows.getD i []) t.cells off j (by rw[p];exact hlt);unfold kP at hj;rw[Y,p] at hj;rw[q]
     by_cases h1:j<off
     ·rw[ae h1] at hj;rw[ae qW];obtain⟨u,hu,l,hr⟩:=e i j _ v (by simp[aA,hi]) hj;exact⟨u,hu,l,d hr⟩
     ·rw[aa h1] at hj
      by_cases h2:j<off+n
      ·rw[ae h2] at hj;rw[aa qW,ae qW,show i*ob.sz+j-(i*ob.sz+off)=j-off by omega];obtain⟨u,hu,l,hr⟩:=E (j-off) v hj;exact⟨u,hu,l,d hr⟩
      ·rw[aa h2] at hj;rw[aa qW,aa qW];obtain⟨u,hu,l,hr⟩:=e i j _ v (by simp[aA,hi]) hj;exact⟨u,hu,l,d hr⟩
    ·simp only[A,↓reduceIte] at hi';have X:j<ob.sz:=by
      have h1:=(ah.1 hj).1;have:=dS r (az hi');omega
     obtain⟨u,hu,l,hr⟩:=e N j r v hi' hj;refine⟨u,?_,l,d hr⟩;rw[q]
     rcases Nat.lt_or_gt_of_ne A with L|M
     ·have q7:(i+1)*ob.sz<=N*ob.sz:=bh _ L;rw[bN] at q7;rw[aa qW,aa qW];exact hu
     ·have q7:(N+1)*ob.sz<=i*ob.sz:=bh _ M;rw[bN] at q7;rw[ae qW];exact hu
  unfold Oper.wp;rw[jR];exact⟨undef,.gS,_,F,rfl,.gS _,hs.step hC z hL W (λb' Z=>.inr ⟨ob,hk,Z⟩),λ_ _ hr=>d hr,O⟩
 |_=>exact hK.elim
end
section
variable {P:Program} {C:Ctx} {F:Nat->Prop} {w w':World} {a:Act} {s:S} {h:Hp} {K:V->Hp->Prop} {Q:Exit->Act->World->Prop} {o:Oper}
structure Flat(F B:Nat->Prop)(w:World)(sz:Nat)(rows:List (List V))(us:List Value):Prop where
 len:us.length=rows.length*sz
 all:∀r∈rows,r.length=sz
 one:∀u∈us,u.oneCell'=true
 rel:∀(i j:Nat)(r:List V)(v:V),rows[i]? =some r->r[j]? =some v->∃u,us[i*sz+j]? =some u/\Rel F B w v u
theorem Gi{i j sz n:Nat}(hi:i<n)(hj:j<sz):i*sz+j<n*sz:=by
 have:(i+1)*sz<=n*sz:=bh _ hi;rw[bN] at this;omega
theorem wS{m n sz:Nat}(h:m<n*sz):m/sz<n/\m%sz<sz/\m/sz*sz+m%sz=m:=by
 have hsz:0<sz:=by rcases Nat.eq_zero_or_pos sz with rfl|h'<;>simp_all
 exact⟨Nat.div_lt_of_lt_mul (by rw[eN];exact h),Nat.mod_lt _ hsz,by rw[eN];exact Nat.div_add_mod m sz⟩
theorem Flat.Gj{F B:Nat->Prop}{sz:Nat}{rows:List (List V)}(f:Nat->Value)(hsz:∀r∈rows,r.length=sz)
  (h:∀(i j:Nat)(r:List V)(v:V),rows[i]? =some r->r[j]? =some v->(f (i*sz+j)).oneCell'=true/\Rel F B w v (f (i*sz+j))):
  Flat F B w sz rows ((List.range (rows.length*sz)).map f):=by
 refine⟨by simp,hsz,λu hu=>?_,λi j r v hi hj=>?_⟩
 ·simp only[aC,bJ] at hu;obtain⟨m,hm,rfl⟩:=hu;obtain⟨h1,h2,h3⟩:=wS hm;have hr:rows[m/sz]? =some rows[m/sz]:=af h1;have hl:=hsz rows[m/sz] (List.getElem_mem h1);have:=(h (m/sz) (m%sz) _ (rows[m/sz])[m%sz] hr (af qW)).1
  rwa[h3] at this
 ·have h1:=(ah.1 hi).1;have hl:=hsz r (az hi);have h2:=(ah.1 hj).1;exact⟨f (i*sz+j),by simp[Gi h1 (by omega:j<sz)],(h i j r v hi hj).2⟩
theorem sV(hs:gg C F h w){sz:Nat}{v:V}{u:Value}{rows:List (List V)}(hv:Rel F C.B w v u)(hr:rowsOf h sz v=some rows):
  (rows=[]/\u=.slice none 0 0)\/∃ad cap us,u=.slice (some ad) rows.length cap/\Flat F C.B w sz rows us/\∀(j:Nat)(x:Value),us[j]? =some x->w.cell? (ad.add j)=some x:=by
 cases hv with
 |slnil t sz'=>simp[rowsOf] at hr;exact .inl ⟨hr.2,rfl⟩
 |slemp t sz' ad cap=>simp[rowsOf] at hr;exact .inr ⟨ad,cap,[],by rw[hr.2];rfl,by rw[hr.2];exact⟨by simp,by simp,by simp,by simp⟩,by simp⟩
 |nilsl=>simp[rowsOf] at hr;exact .inl ⟨hr,rfl⟩
 |sl t sz' rows' b off cap us hF lq hsz hc ko=>
  simp only[rowsOf] at hr
  by_cases d:sz'=sz
  ·rw[ae d] at hr;cases hr;subst d;refine .inr ⟨⟨b,off,none⟩,cap,(List.range (rows.length*sz')).map λm=>(w.cell? ⟨b,off+m,none⟩).getD undef,rfl,Flat.Gj _ hsz λi j r v hi hj=>?_,λj x hj=>?_⟩
   ·have:=hc i j r v hi hj;rw[this.1];exact⟨this.2,ko i j r v hi hj⟩
   ·simp only[av,au] at hj;obtain⟨m,hm,rfl⟩:=hj;have f:=ah.1 hm;simp at f;obtain⟨hlt,rfl⟩:=f;obtain⟨h1,h2,h3⟩:=wS hlt;have hl:=hsz rows[j/sz'] (List.getElem_mem h1);have:=(hc (j/sz') (j%sz') _ (rows[j/sz'])[j%sz'] (af h1) (af qW)).1;rw[h3] at this;rw[jB,this];rfl
  ·rw[aa d] at hr;cases hr
 |ownnil k sz'=>
  simp only[rowsOf] at hr;cases hk:h k with
  |none=>simp only[hk] at hr;cases hr
  |some ob=>
   simp only[hk] at hr
   by_cases hc:ob.b=none/\ob.sz=sz/\sz'=sz/\0<=ob.rows.length
   ·rw[ae hc] at hr;cases hr;exact .inl ⟨by simp,rfl⟩
   ·rw[aa hc] at hr;cases hr
 |own k b sz' n cap c e fr hb l hm hn=>
  simp only[rowsOf] at hr;cases hk:h k with
  |none=>simp only[hk] at hr;cases hr
  |some ob=>
   simp only[hk] at hr
   by_cases hc:ob.b=some b/\ob.sz=sz/\sz'=sz/\n<=ob.rows.length
   ·rw[ae hc] at hr;obtain⟨e1,e2,e3,e4⟩:=hc;cases hr;subst e3;have ho:=hs.ob k ob hk;unfold fy at ho;rw[e1] at ho;obtain⟨c',y,g,h1,h2,h3,h4,h5⟩:=ho;rw[hb] at g;cases g;subst e2;have hlen:(ob.rows.take n).length=n:=by simp;omega
    refine .inr ⟨⟨b,0,none⟩,cap,(List.range ((ob.rows.take n).length*ob.sz)).map λm=>(c[m]?).getD undef,by rw[hlen],Flat.Gj _ (λr hr=>h4 r (cS hr)) λi j r v hi hj=>?_,λj x hj=>?_⟩
    ·rw[bn] at hi
     split at hi
     ·obtain⟨u,hu,p,q⟩:=h5 i j r v hi hj;rw[hu];exact⟨p,q⟩
     ·cases hi
    ·simp only[av,au] at hj;obtain⟨m,f,rfl⟩:=hj;have q7:=ah.1 f;simp at q7;obtain⟨hlt,rfl⟩:=q7;rw[jB,aS,cell_of_row w b j c ob.ty (0,0) hb];have:j<c.size:=by
      rw[l];refine bE hlt ?_;exact bh _ qW
     simp[this]
   ·rw[aa hc] at hr;cases hr
 |_=>simp[rowsOf] at hr
theorem Flat.append{F B:Nat->Prop}{sz:Nat}{r1 r2:List (List V)}{b c:List Value}(h1:Flat F B w sz r1 b)(h2:Flat F B w sz r2 c):Flat F B w sz (r1++r2) (b++c):=by
 refine⟨by simp[h1.len,h2.len,bN],λr hr=>?_,λu hu=>?_,λi j r v hi hj=>?_⟩
 ·rcases aU.1 hr with h|h
  ·exact h1.all r h
  ·exact h2.all r h
 ·rcases aU.1 hu with h|h
  ·exact h1.one u h
  ·exact h2.one u h
 ·by_cases hl:i<r1.length
  ·rw[aW hl] at hi;obtain⟨u,hu,hr⟩:=h1.rel i j r v hi hj;exact⟨u,by rw[aW (ah.1 hu).1];exact hu,hr⟩
  ·rw[aV qW] at hi;obtain⟨u,hu,hr⟩:=h2.rel (i-r1.length) j r v hi hj;refine⟨u,?_,hr⟩;have:r1.length*sz<=i*sz:=bh _ qW;rw[aV (by rw[h1.len];omega),h1.len,show i*sz+j-r1.length*sz=(i-r1.length)*sz+j by rw[Nat.sub_mul];omega];exact hu
theorem Flat.keep{sz:Nat}{rows:List (List V)}{us:List Value}(h:Flat F C.B w sz rows us)(hk:∀x y,Rel F C.B w x y->Rel F C.B w' x y):Flat F C.B w' sz rows us:=
 ⟨h.len,h.all,h.one,λi j r v hi hj=>let⟨u,hu,hr⟩:=h.rel i j r v hi hj;⟨u,hu,hk _ _ hr⟩⟩
theorem fy.of_flat{B:Nat->Prop}{b e sz cap:Nat}{rows:List (List V)}{us:List Value}{c:Array Value}(hc:w.heap[b]? =some (.cells c e (0,0)))(hs:c.size=cap*sz)(hm:cap<=maxLen)(hl:rows.length<=cap)(hf:Flat F B w sz rows us)
  (ht:∀(m:Nat)(u:Value),us[m]? =some u->c[m]? =some u):fy F B w ⟨some b,e,sz,rows⟩:=
 ⟨c,cap,hc,hs,hm,hl,hf.all,λi j r v hi hj=>let⟨u,hu,hr⟩:=hf.rel i j r v hi hj;⟨u,ht _ _ hu,hf.one u (az hu),hr⟩⟩
theorem Ct{ob:Ob}{b:Nat}(ho:fy F C.B w ob)(hb:ob.b=some b):∃c cap us,w.heap[b]? =some (.cells c ob.ty (0,0))/\c.size=cap*ob.sz/\cap<=maxLen/\ob.rows.length<=cap/\Flat F C.B w ob.sz ob.rows us/\us=c.toList.take (ob.rows.length*ob.sz):=by
 unfold fy at ho;rw[hb] at ho;obtain⟨c,cap,hc,h1,h2,h3,h4,h5⟩:=ho;have hle:ob.rows.length*ob.sz<=c.size:=by rw[h1];exact bh _ h3
 have d:=Flat.Gj (F:=F) (B:=C.B) (w:=w) (λm=>(c[m]?).getD undef) h4 λi j r v hi hj=>by
  obtain⟨u,hu,e,f⟩:=h5 i j r v hi hj;rw[hu];exact⟨e,f⟩
 refine⟨c,cap,_,hc,h1,h2,h3,d,?_⟩;apply List.ext_getElem?;intro m;rw[bn]
 by_cases hm:m<ob.rows.length*ob.sz
 ·rw[ae hm];have g:m<c.size:=by omega
  simp[hm,g]
 ·rw[aa hm];simp;omega
end
end Go.Proofs.YtobngncjflogcaaGreat.AM
