/-
  Part 1 of what the law TopDesk reaches: the plain machine, contracts of the functions and plain laws; each lemma says its own condition.
-/
import Derived.Test.YtajdadcdcpnedaaGreatDoorRows
import Derived.ProofKit
import Derived.SizedLaws
import Derived.WalkKit
import Derived.Laws.AppendOwn
import GoSem.ClaimData
import Derived.Lib.LaidTab
import Derived.Lib.ItoaNum
import Derived.Test.YtajdadcdcpnedaaGreatDoorProg
import Derived.BigFrame
import Derived.Laws.CopyRow
import Derived.Test.YtajdadcdcpnedaaGreatDoorRows
namespace Go.Proofs
theorem qW{p:Prop}(h:p:=by omega):p:=h
theorem qD{p:Prop}(h:p:=by decide):p:=h
abbrev BS:=List UInt8
abbrev aa:=@if_neg
abbrev ab:=@if_pos
abbrev ae:=@List.length_append
abbrev af:=@List.getElem?_eq_getElem
abbrev ag:=@List.mem_singleton
abbrev ah:=@List.mem_cons
abbrev aj:=@List.getElem?_eq_some_iff
abbrev ak:=@Nat.le_refl
abbrev an:=@Option.map_eq_some_iff
abbrev aq:=@List.not_mem_nil
abbrev ar:=@List.length_cons
abbrev au:=@List.getD_eq_getElem?_getD
abbrev aw:=@List.getElem?_map
abbrev ax:=@Nat.zero_lt_succ
abbrev ay:=@congrArg
abbrev az:=@List.mem_of_getElem?
abbrev aA:=@Array.getElem?_eq_some_iff
abbrev aB:=@List.eq_nil_of_length_eq_zero
abbrev aC:=@Option.some.injEq
abbrev aD:=@List.cons_append
abbrev aE:=@List.length_take
abbrev aF:=@List.all_eq_true
abbrev aG:=@Int.toNat_natCast
abbrev aH:=@List.length_map
abbrev aI:=@List.map_cons
abbrev aJ:=@Option.map_some
abbrev aK:=@Decidable.of_not_not
abbrev aL:=@List.length_nil
abbrev aM:=@List.mem_map
abbrev aN:=@List.take_length
abbrev aO:=@Bool.and_eq_true
abbrev aP:=@List.length_drop
abbrev aQ:=@or_false
abbrev aR:=@List.mem_cons_self
abbrev aS:=@Option.isSome_iff_exists
abbrev aT:=@Array.getElem?_eq_getElem
abbrev aU:=@List.append_assoc
abbrev aV:=@Nat.le_trans
abbrev aW:=@Nat.zero_add
abbrev aX:=@Prod.mk.injEq
abbrev aY:=@List.mem_cons_of_mem
abbrev aZ:=@List.getElem?_take
abbrev bc:=@Nat.zero_le
abbrev bf:=@List.replicate_succ
abbrev bg:=@List.append_nil
abbrev bh:=@List.getElem?_eq_none
abbrev bj:=@List.mem_append
abbrev bn:=@Int.le_refl
abbrev bp:=@Array.getElem?_setIfInBounds
abbrev bq:=@Bool.or_eq_true
abbrev bu:=@List.getElem?_append_left
abbrev bw:=@List.drop_eq_getElem_cons
abbrev bA:=@Array.getElem?_modify
abbrev bB:=@List.getElem?_append_right
abbrev bC:=@List.getElem?_drop
abbrev bD:=@Nat.mul_le_mul_right
abbrev bE:=@Nat.lt_of_lt_of_le
abbrev bF:=@List.take_append_drop
abbrev bG:=@Array.length_toList
abbrev bH:=@List.size_toArray
abbrev bI:=@List.mem_range
abbrev bJ:=@List.take_add_one
abbrev bK:=@Int.natCast_nonneg
abbrev bL:=@List.map_congr_left
abbrev bM:=@decide_eq_true_eq
abbrev bN:=@Option.some.inj
abbrev bO:=@Nat.lt_add_one
abbrev bP:=@Nat.eq_of_beq_eq_true
abbrev bQ:=@Nat.add_zero
abbrev bR:=@List.getElem?_cons_zero
abbrev bS:=@decide_eq_false
abbrev bT:=@List.take_of_length_le
abbrev bU:=@Nat.add_mul
abbrev bV:=@List.drop_append_of_le_length
abbrev bW:=@List.flatMap_cons
abbrev bX:=@List.mem_append_right
abbrev bY:=@Nat.beq_refl
abbrev bZ:=@List.any_cons
abbrev b6:=@Array.getElem?_append_left
abbrev cf:=@of_decide_eq_true
abbrev cg:=@List.take_succ_eq_append_getElem
abbrev cj:=@List.map_append
abbrev cl:=@Array.getElem?_toList
abbrev ct:=@Nat.lt_succ_self
abbrev cw:=@Bool.or_false
abbrev cx:=@Option.bind_eq_some_iff
abbrev cy:=@List.cons.injEq
abbrev cB:=@List.mem_filter
abbrev cC:=@List.getLast?_cons_of_ne_nil
abbrev cD:=@List.flatMap_append
abbrev cE:=@List.any_nil
abbrev cG:=@List.drop_length
abbrev cH:=@List.pairwise_cons
abbrev cI:=@List.drop_left
abbrev cJ:=@of_decide_eq_false
abbrev cK:=@UInt8.toNat_ofNat'
abbrev cL:=@List.nil_append
abbrev cM:=@List.mem_of_mem_take
abbrev cN:=@List.ext_getElem?
abbrev cO:=@Nat.pow_le_pow_right
abbrev cP:=@List.take_succ_cons
abbrev cQ:=@Array.eq_empty_of_size_eq_zero
abbrev cS:=@List.getElem?_cons_succ
abbrev cT:=@Nat.mod_eq_of_lt
abbrev cU:=@List.any_eq_true
abbrev cV:=@List.eq_nil_iff_forall_not_mem
abbrev cW:=@List.take_append_of_le_length
abbrev cX:=@List.map_nil
abbrev cY:=@Array.getElem?_eq_none
abbrev cZ:=@List.zipWith_cons_cons
abbrev c6:=@Bool.eq_iff_iff
abbrev c7:=@BitVec.xor_zero
abbrev c8:=@Nat.add_assoc
abbrev c9:=@List.flatten_cons
abbrev db:=@List.take_length_add_append
abbrev dh:=@beq_iff_eq
abbrev di:=@List.pairwise_append
abbrev dj:=@decide_eq_true
abbrev dm:=@congrFun
abbrev dn:=@Nat.lt_or_ge
abbrev dp:=@BitVec.xor_assoc
abbrev dq:=@Nat.shiftRight_eq_div_pow
abbrev du:=@List.length_pos_iff
abbrev dv:=@List.getElem?_range
abbrev dw:=@Int.natCast_add
abbrev dy:=@List.length_set
abbrev dz:=@Array.getElem?_map
abbrev dA:=@Bool.false_eq_true
abbrev dB:=@BitVec.toNat_ofNat
abbrev dC:=@Int.lt_of_lt_of_le
abbrev dD:=@Nat.le_mul_of_pos_right
abbrev dG:=@List.getElem?_replicate
abbrev dH:=@Array.getElem?_extract
abbrev dI:=@ByteArray.data_extract
abbrev dJ:=@List.getElem?_set
abbrev dK:=@Nat.mul_comm
abbrev dL:=@Bool.not_eq_true'
abbrev dM:=@List.drop_drop
abbrev dN:=@List.getElem?_set_self
abbrev dO:=@List.drop_eq_nil_of_le
abbrev dP:=@List.mem_iff_getElem?
abbrev dQ:=@List.singleton_append
abbrev dR:=@List.zipWith_nil_left
abbrev dT:=@List.length_singleton
abbrev dU:=@List.map_toArray
abbrev dV:=@List.getElem_mem
abbrev dW:=@Int.mul_le_mul_of_nonneg_right
abbrev dX:=@BitVec.ushiftRight_xor_distrib
abbrev dY:=@List.nil_sublist
abbrev dZ:=@List.mem_append_left
abbrev ef:=@List.mem_of_mem_drop
abbrev eg:=@Nat.div_lt_of_lt_mul
abbrev eh:=@List.dropLast_concat
abbrev ei:=@List.getElem?_set_ne
abbrev ej:=@Int.natCast_mul
abbrev en:=@List.foldl_cons
abbrev eo:=@Int.natCast_pow
abbrev et:=@List.nodup_cons
abbrev ew:=@beq_eq_false_iff_ne
abbrev ey:=@List.toList_toArray
abbrev ez:=@Nat.zero_mul
abbrev eC:=@List.map_map
abbrev eD:=@Nat.pow_succ
abbrev eE:=@Nat.eq_of_mul_eq_mul_right
abbrev eG:=@List.append_of_mem
abbrev eH:=@true_and
abbrev eI:=@Array.ext_getElem?
abbrev eJ:=@BitVec.getLsbD_ushiftRight
abbrev eK:=@BitVec.getLsbD_and
abbrev eL:=@BitVec.getLsbD_not
abbrev eN:=@Array.getElem_ofFn
abbrev eQ:=@List.take_left
abbrev eS:=@List.mem_or_eq_of_mem_set
abbrev eT:=@Go.ChangeMaps.open_string
abbrev eU:=@Int.mul_emod_left
abbrev eV:=@UInt8.ofNat_toNat
abbrev eW:=@List.take_nil
abbrev eX:=@List.all_cons
abbrev eZ:=@BitVec.toNat_ushiftRight
abbrev fa:=@Option.bind_some
abbrev fc:=@and_true
abbrev ff:=@List.range'_succ
abbrev fg:=@List.pairwise_lt_range'
abbrev fh:=@BitVec.eq_of_getLsbD_eq
abbrev fi:=@BitVec.toNat_and
abbrev fj:=@List.getLast?_singleton
abbrev fo:=@Int.add_zero
abbrev fp:=@Int.le_of_eq
abbrev fq:=@Int.le_trans
abbrev ft:=@Int.sub_zero
abbrev fu:=@Nat.min_eq_left
abbrev fw:=@UInt8.toNat_inj
abbrev fx:=@Nat.not_lt_zero
abbrev fy:=@List.getElem?_toArray
abbrev fA:=@List.eq_nil_or_concat
abbrev fB:=@List.concat_eq_append
abbrev fC:=@List.drop_take
abbrev fD:=@and_assoc
abbrev fE:=@List.map_take
abbrev fG:=@List.sum_cons
abbrev fH:=@cond_false
end Go.Proofs
set_option linter.unusedVariables false
set_option linter.unusedSimpArgs false
namespace Go.Proofs.YtajdadcdcpnedaaGreatDoor
open Go.ChangeShapes Go.WideShapes Go.ChangeAt Go.RowKit
theorem Tryz.own:ownKnob Tryz.prog.godebug=none:=by kernel_rfl
theorem Tryz.laidOut:laidOutB Tryz.prog=true:=by kernel_rfl
theorem pQ{H:Type}{enc:TypeId×Value->H}{P:Program}(hl:laidOutB P=true){W a:World}(hb:Below W.heap.size W a):
  ∀{ts:List TypeId}{vs:List Value}{c:List (DataW H)}{ps:List MemPlace},(∀t∈ts,P.readableRec t=true/\t<P.types.size)->
   DataW.TrodAll enc P W 0 (λ_=>true) true ts vs c ps->(∀x∈ps,x.block<W.heap.size)->
   DataW.TrodAll enc P a 0 (λb=>decide (b<W.heap.size)) true ts vs c ps
 |[],[],[],_,_,h,_=>h
 |t::_,_::_,_::_,_,hr,⟨p,q,h,hs,e⟩,hlt=>
  ⟨p,q,Below.trod hl (hr t aR).1 (hr t aR).2 h hb (λx hx=>hlt x (by rw[e];exact dZ _ hx)),
   pQ hl hb (λt ht=>hr t (aY _ ht)) hs (λx hx=>hlt x (by rw[e];exact bX _ hx)),e⟩
 |[],_::_,_,_,_,h,_=>h.elim
 |[],[],_::_,_,_,h,_=>h.elim
 |_::_,[],_,_,_,h,_=>h.elim
 |_::_,_::_,[],_,_,h,_=>h.elim
theorem FH{H:Type}{enc:TypeId×Value->H}{fn:Func}{s:ChangeSpec}{W e:World}{args:Array Value}{c:List (DataW H)}{before:List MemPlace}
  (hv:s.vars=[])(hr:fn.resultTypes= #[4])(a:∀t∈fn.params.toList,Tryz.prog.readableRec t=true/\t<Tryz.prog.types.size)
  (f:DataW.Whole enc Tryz.prog fn.params.toList s.vars false W args.toList c [] before)
  (hlt:∀x∈before,x.block<W.heap.size)
  (hs:s.fn H (c++[])= {results:=[.lit (.bool true)],args:=c})(hb:Below W.heap.size W e):
  s.post enc Tryz.prog fn false true false false W args (.bool true) e:=by
 have d:=f;obtain⟨p,q,hA,hV,rfl,_,_⟩:=f;rw[hv] at hV;obtain⟨_,rfl⟩:=trodVars_none hV;have b:(s.fn H (c++[])).vars=[]:=by rw[hs]
 refine⟨c,[],p++[],[],p,[],d,?_,?_,?_,hb.frame _,λh=>by cases h⟩
 ·rw[hs,hr];exact trodAll_mk1 (shut_bool Tryz.underlying4 true)
 ·rw[hs];exact pQ Tryz.laidOut hb a hA (λx hx=>hlt x (dZ _ hx))
 ·rw[b,hv];rfl
end Go.Proofs.YtajdadcdcpnedaaGreatDoor
namespace Go.Proofs.YtajdadcdcpnedaaGreatDoor.AM
open Go
inductive V where
 |int(k:IntKind)(n:Int)
 |bool(b:Bool)
 |str(l:BS)
 |agg(cs:List V)
 |tup(vs:List V)
 |sl(t:Bool)(sz:Nat)(rows:List (List V))
 |nilsl
 |own(k:Nat)(b:Option Nat)(sz len:Nat)
 |win(k:Nat)(b:Option Nat)(sz:Nat)(lo hi:Int)
 |ptr(k:Nat)(b:Option Nat)(sz i off:Nat)
 |rp(t:Bool)(cs:List V)
 |nil
 |fn(f:Nat)(caps:List V)
 |raw(v:Value)
 |mN
 |gC
 deriving Inhabited
structure Ob where
 b:Option Nat
 ty:Nat
 sz:Nat
 rows:List (List V)
 deriving Inhabited
abbrev Hp:=Nat->Option Ob
def Hp.emp(_:Nat):Option Ob:=none
def Hp.put(h:Hp)(k:Nat)(o:Ob)(i:Nat):Option Ob:=if i=k then some o else h i
def Hp.del(h:Hp)(k:Nat)(i:Nat):Option Ob:=if i=k then none else h i
structure S where
 t:Nat->V
 h:Hp
def jh(t:Nat->V)(d:Nat)(v:V)(i:Nat):V:=if i=d then v else t i
def S.set(s:S)(d:Nat)(v:V):S:=⟨jh s.t d v,s.h⟩
def S.put(s:S)(d:Option Nat)(v:V):S:=match d with|some d=>s.set d v|none=>s
def S.hU(s:S)(h:Hp):S:=⟨s.t,h⟩
inductive hS where
 |t(i:Nat)
 |c(v:Value)
 deriving Inhabited
def ya:Value->V
 |.int k n=>.int k n
 |.bool b=>.bool b
 |.string s=>.str s.data.toList
 |.slice none 0 0=>.nilsl
 |.pointer none=>.nil
 |v=>.raw v
def Pa:Value->V
 |.agg cs=>.agg (cs.toList.map ya)
 |.func (.func f) a b=>if a.size=0/\b.size=0 then .fn f [] else .gC
 |v=>ya v
def hS.ev(s:S):hS->V
 |.t i=>s.t i
 |.c v=>Pa v
def V.one:V->Bool
 |.agg _=>false
 |.tup _=>false
 |.gC=>false
 |.mN=>false
 |.raw v=>v.oneCell'
 |_=>true
def V.cells:V->List V
 |.agg cs=>cs
 |v=>[v]
def V.fits(n:Nat)(v:V):Prop:=v.cells.length=n/\v.cells.all V.one=true
inductive pG where
 |mov(x:hS)
 |pick(c a b:hS)
 |alloc(ty:Nat)(z:List Value)
 |box(ty n:Nat)(x:hS)
 |build(z:List Value)(parts:List (Nat×Nat×hS))
 |bslice(ty sz:Nat)(parts:List hS)
 |load1(x:hS)
 |loadn(n:Nat)(x:hS)
 |store(n:Nat)(x v:hS)
 |nilchk(x:hS)
 |bin(op:BinOp)(x y:hS)
 |eqb(neg:Bool)(x y:hS)
 |eqp(neg:Bool)(x y:hS)
 |eqn(neg:Bool)(x:hS)
 |eqs(neg:Bool)(ts:List Nat)(x y:hS)
 |not(x:hS)
 |conv(k:IntKind)(x:hS)
 |mkslice(ty sz bytes:Nat)(z:List Value)(l c:hS)
 |slstr(x:hS)(lo hi:Option hS)
 |slsl(sz:Nat)(x:hS)(lo hi:Option hS)
 |faddr(off:Nat)(x:hS)
 |fld1(off:Nat)(x:hS)
 |fldn(off n:Nat)(x:hS)
 |iaddr(sz:Nat)(x i:hS)
 |iarr(len sz:Nat)(x i:hS)
 |ixs(x i:hS)
 |ext(i:Nat)(x:hS)
 |len(str:Bool)(x:hS)
 |mm(mx:Bool)(x y:hS)
 |append(ty sz bytes:Nat)(x y:hS)
 |call(f:Nat)(args:List hS)
 |callv(x:hS)(args:List hS)
 |mkfn(f:Nat)(caps:List hS)
 |convbs(x:hS)
 |dead
 |ixa(g:Bool)(len sz:Nat)(x i:hS)
 deriving Inhabited
structure AO where
 d:Option Nat
 g:Option (Nat×Bool)
 op:pG
 deriving Inhabited
inductive AC where
 |skip
 |region(draw:Bool)(ops:List AO)
 |seq(a b:AC)
 |cond(c:hS)(a b:AC)
 |block(id:Nat)(a:AC)
 |loop(a:AC)
 |exit(id:Nat)
 |ret
 |mc(ops:List (AO×List Nat))
 deriving Inhabited
theorem qA{a b:Prop}(k:b)(h:a:=by first|assumption|decide):a/\b:=⟨h,k⟩
theorem qM{α:Type}{l:List α}{x:α}(n:Nat)(h:l[n]? =some x):x∈l:=az h
abbrev q0:Value:=.int .i64 0
abbrev qe:Value:=.string ⟨#[]⟩
abbrev qI(n:Int):V:=.int .i64 n
abbrev qo(d:Nat)(p:pG):AO:=⟨some d,none,p⟩
abbrev qk(n:Int):hS:=.c (.int .i64 n)
abbrev qm(d x:Nat):AO:=⟨some d,none,.mov (.t x)⟩
abbrev qz(d:Nat)(n:Int):AO:=⟨some d,none,.mov (.c (.int .i64 n))⟩
abbrev qf(d o x:Nat):AO:=⟨some d,none,.faddr o (.t x)⟩
abbrev ql(d x:Nat):AO:=⟨some d,none,.load1 (.t x)⟩
abbrev qn(d x:Nat):AO:=⟨some d,none,.nilchk (.t x)⟩
abbrev qx(d i x:Nat):AO:=⟨some d,none,.ext i (.t x)⟩
abbrev qd(d n x:Nat):AO:=⟨some d,none,.loadn n (.t x)⟩
abbrev qs(n x y:Nat):AO:=⟨none,none,.store n (.t x) (.t y)⟩
abbrev qb(d:Nat)(o:BinOp)(x y:Nat):AO:=⟨some d,none,.bin o (.t x) (.t y)⟩
abbrev qc(d:Nat)(o:BinOp)(x:Nat)(n:Int):AO:=⟨some d,none,.bin o (.t x) (.c (.int .i64 n))⟩
abbrev qa(d f:Nat)(l:List hS):AO:=⟨some d,none,.call f l⟩
abbrev qg(d c:Nat)(b:Bool)(p:pG):AO:=⟨some d,some (c,b),p⟩
abbrev qr(l:List AO)(x:AC):AC:=.seq (.region false l) x
abbrev qR(l:List AO):AC:=.region false l
abbrev qq(a b:AC):AC:=.seq a b
abbrev qu(c:Nat)(x y:AC):AC:=.cond (.t c) x y
abbrev yb:List Value:=[q0,q0,qe]
abbrev SU:List Value:=[(.slice none 0 0),qe,q0]
abbrev Fw:List Value:=[qe,q0,qe,q0]
abbrev Lb:List Value:=[q0,q0,(.slice none 0 0)]
abbrev FI:List Value:=[q0,qe]
abbrev Lc:List Value:=[q0,q0,qe,q0,q0,q0,q0,q0,q0,q0,q0,q0,q0,q0,q0,q0,q0,q0,q0,q0,q0,q0,q0,q0,q0,q0,q0,q0,q0,q0,q0,q0,q0,q0,q0,(.slice none 0 0),(.bool false),q0]
abbrev K1:List Value:=[q0,q0]
abbrev UO:List Value:=[qe,q0,qe,q0,q0,q0,q0,qe,q0,q0,q0,q0,q0,q0,q0,q0,q0,q0,q0,q0,q0,q0,q0,q0,q0,q0,q0,q0,q0,q0,q0,q0,q0,q0,q0,q0,q0,q0,q0,q0,(.slice none 0 0),(.bool false),q0,qe,q0,(.pointer none),(.bool false)]
abbrev Rc:List Value:=[(.slice none 0 0)]
abbrev SV:List Value:=[q0,q0,q0,(.slice none 0 0)]
def kA(n:Int):Prop:= -9223372036854775808<=n/\n<=9223372036854775807
def arith(k:IntKind)(n:Int)(K:V->Prop):Prop:=
 match k with
 |.i64=>kA n/\K (.int .i64 n)
 |k=>K (.int k (k.wrap n))
def s8(op:BinOp)(x y:V)(K:V->Prop):Prop:=
 match op,x,y with
 |.add,.int k a,.int k' b=>k=k'/\arith k (a+b) K
 |.sub,.int k a,.int k' b=>k=k'/\arith k (a-b) K
 |.mul,.int k a,.int k' b=>k=k'/\arith k (a*b) K
 |.quo,.int k a,.int k' b=>k=k'/\0<=a/\0<b/\arith k (a/b) K
 |.rem,.int k a,.int k' b=>k=k'/\0<=a/\0<b/\K (.int k (a%b))
 |.shl,.int k a,.int _ b=>0<=b/\b<64/\arith k (a*2^b.toNat) K
 |.shr,.int k a,.int _ b=>0<=b/\b<k.bits/\K (.int k (a/2^b.toNat))
 |.and,.int k a,.int k' b=>k=k'/\K (.int k (k.wrap (BitVec.ofInt k.bits a&&&BitVec.ofInt k.bits b).toNat))
 |.or,.int k a,.int k' b=>k=k'/\K (.int k (k.wrap (BitVec.ofInt k.bits a|||BitVec.ofInt k.bits b).toNat))
 |.xor,.int k a,.int k' b=>k=k'/\K (.int k (k.wrap (BitVec.ofInt k.bits a^^^BitVec.ofInt k.bits b).toNat))
 |.lss,.int k a,.int k' b=>k=k'/\K (.bool (decide (a<b)))
 |.leq,.int k a,.int k' b=>k=k'/\K (.bool (decide (a<=b)))
 |.gtr,.int k a,.int k' b=>k=k'/\K (.bool (decide (b<a)))
 |.geq,.int k a,.int k' b=>k=k'/\K (.bool (decide (b<=a)))
 |.eql,.int k a,.int k' b=>k=k'/\K (.bool (decide (a=b)))
 |.neq,.int k a,.int k' b=>k=k'/\K (.bool (decide (a≠b)))
 |.add,.str a,.str b=>kA ((a.length:Int)+b.length)/\K (.str (a++b))
 |.eql,.str a,.str b=>K (.bool (decide (a=b)))
 |.neq,.str a,.str b=>K (.bool (decide (a≠b)))
 |_,_,_=>False
def mu(t:Nat)(x y:V):Option Bool:=
 match t,x,y with
 |0,.bool a,.bool b=>some (a==b)
 |1,.int k a,.int k' b=>if k=k' then some (decide (a=b)) else none
 |2,.str a,.str b=>some (decide (a=b))
 |_,_,_=>none
def gJ:List Nat->List V->List V->Option Bool
 |[],[],[]=>some true
 |t::ts,a::l,b::m=>match mu t a b,gJ ts l m with
  |some x,some y=>some (x&&y)
  |_,_=>none
 |_,_,_=>none
def Rd(x y:V):Option Bool:=
 match x,y with
 |.nil,.nil=>some true
 |.ptr ..,.nil=>some false
 |.nil,.ptr .. =>some false
 |.rp ..,.nil=>some false
 |.nil,.rp .. =>some false
 |_,_=>none
def DX(neg:Bool)(x y:V)(K:V->Prop):Prop:=
 match x,y with
 |.bool a,.bool b=>K (.bool (if neg then !(a==b) else a==b))
 |_,_=>False
def yc(neg:Bool)(x y:V)(K:V->Prop):Prop:=match Rd x y with
 |some b=>K (.bool (if neg then !b else b))
 |none=>False
def AH(neg:Bool)(ts:List Nat)(x y:V)(K:V->Prop):Prop:=
 match x,y with
 |.agg cs,.agg a=>match gJ ts cs a with
  |some b=>K (.bool (if neg then !b else b))
  |none=>False
 |_,_=>False
def lE(r:List V)(off:Nat)(cs:List V):List V:=r.take off++cs++r.drop (off+cs.length)
def vJ(r:List V):List (Nat×List V)->List V
 |[]=>r
 |(o,cs)::ps=>vJ (lE r o cs) ps
def rowsOf(h:Hp)(sz:Nat):V->Option (List (List V))
 |.sl _ sz' rows=>if sz'=sz then some rows else none
 |.nilsl=>some []
 |.own k b sz' n=>match h k with
  |some o=>if o.b=b/\o.sz=sz/\sz'=sz/\n<=o.rows.length then some (o.rows.take n) else none
  |none=>none
 |_=>none
def DY(str:Bool)(x:V)(K:V->Prop):Prop:=
 match str,x with
 |true,.str l=>K (.int .i64 l.length)
 |false,.sl _ _ rows=>K (.int .i64 rows.length)
 |false,.nilsl=>K (.int .i64 0)
 |false,.own _ _ _ n=>K (.int .i64 n)
 |false,.win _ _ _ lo hi=>K (.int .i64 (hi-lo))
 |_,_=>False
def Pb(neg:Bool)(x:V)(K:V->Prop):Prop:=match x with
 |.nilsl=>K (.bool (if neg then false else true))
 |.sl _ _ rows=>K (.bool (if neg then true else false))/\((rows.length:Int)=0->K (.bool (if neg then false else true)))
 |_=>False
def AI(lo:Option V)(K:Int->Prop):Prop:=
 match lo with
 |some (.int _ n)=>K n
 |none=>K 0
 |_=>False
def K2(hi:Option V)(n:Nat)(K:Int->Prop):Prop:=
 match hi with
 |some (.int _ n)=>K n
 |none=>K n
 |_=>False
def yd(cs:List V)(i:Nat)(K:V->Prop):Prop:=i<cs.length/\K (cs.getD i .gC)
def s9(h:Hp)(k:Nat)(b:Option Nat)(sz i:Nat)(K:Ob->List V->Prop):Prop:=
 match h k with
 |some o=>o.b=b/\o.sz=sz/\i<o.rows.length/\K o (o.rows.getD i [])
 |none=>False
def nW(h:Hp)(x:V)(K:V->Prop):Prop:=
 match x with
 |.ptr j b sz i off=>s9 h j b sz i λ_ r=>yd r off K
 |.rp _ cs=>yd cs 0 K
 |_=>False
def nX(h:Hp)(n:Nat)(x:V)(K:V->Prop):Prop:=
 match x with
 |.ptr j b sz i off=>s9 h j b sz i λ_ r=>off+n<=r.length/\K (.agg ((r.drop off).take n))
 |.rp _ cs=>n<=cs.length/\K (.agg (cs.take n))
 |_=>False
def tI(h:Hp)(n:Nat)(x v:V)(K:Hp->Prop):Prop:=
 match x with
 |.ptr j b sz i off=>s9 h j b sz i λo r=>off+n<=r.length/\v.fits n/\K (h.put j {o with rows:=o.rows.set i (lE r off v.cells)})
 |_=>False
def qB(h:Hp)(k ty sz bytes:Nat)(x y:V)(K:V->Hp->Prop):Prop:=
 match rowsOf h sz y with
 |some news=>match x with
  |.nilsl=>h k=none/\(news.length:Int)*bytes<=140737488355328/\∀β:Option Nat,K (.own k β sz news.length) (h.put k ⟨β,ty,sz,news⟩)
  |.own j b sz' n=>match h j with
   |some o=>o.b=b/\o.sz=sz/\sz'=sz/\o.ty=ty/\o.rows.length=n/\((n:Int)+news.length)*bytes<=140737488355328/\∀β:Option Nat,K (.own j β sz (n+news.length)) (h.put j ⟨β,ty,sz,o.rows++news⟩)
   |none=>False
  |.win j b sz' lo hi=>match h j with
   |some o=>o.b=b/\o.sz=sz/\sz'=sz/\o.ty=ty/\lo=hi/\(o.rows.length:Int)=lo/\(news.length:Int)*bytes<=140737488355328/\∀(β:Option Nat)(pre:List (List V)),pre=o.rows\/pre=[]->K (.win j β sz pre.length (pre.length+news.length)) (h.put j ⟨β,ty,sz,pre++news⟩)
   |none=>False
  |_=>False
 |none=>False
abbrev cm:=Nat->List V->Hp->(V->Hp->Prop)->Prop
def pW(C:cm)(op:pG)(ev:hS->V)(h:Hp)(k:Nat)(K:V->Hp->Prop):Prop:=
 match op with
 |.mov x=>K (ev x) h
 |.pick c a b=>match ev c with
  |.bool t=>K (if t then ev a else ev b) h
  |_=>False
 |.alloc ty z=>h k=none/\z.all (λu=>u.oneCell')=true/\∀β:Nat,K (.ptr k (some β) z.length 0 0) (h.put k ⟨some β,ty,z.length,[z.map ya]⟩)
 |.box ty n x=>h k=none/\(ev x).fits n/\∀β:Nat,K (.ptr k (some β) n 0 0) (h.put k ⟨some β,ty,n,[(ev x).cells]⟩)
 |.build z parts=>(∀p∈parts,(ev p.2.2).fits p.2.1)/\K (.agg (vJ (z.map ya) (parts.map λp=>(p.1,(ev p.2.2).cells)))) h
 |.bslice ty sz parts=>h k=none/\(∀p∈parts,(ev p).fits sz)/\∀β:Nat,K (.own k (some β) sz parts.length) (h.put k ⟨some β,ty,sz,parts.map λp=>(ev p).cells⟩)
 |.load1 x=>nW h (ev x) λv=>K v h
 |.loadn n x=>nX h n (ev x) λv=>K v h
 |.store n x v=>tI h n (ev x) (ev v) λh=>K .gC h
 |.nilchk x=>match ev x with
  |.ptr .. |.rp .. =>K (ev x) h
  |_=>False
 |.bin op x y=>s8 op (ev x) (ev y) λv=>K v h
 |.eqb neg x y=>DX neg (ev x) (ev y) λv=>K v h
 |.eqp neg x y=>yc neg (ev x) (ev y) λv=>K v h
 |.eqn neg x=>Pb neg (ev x) λv=>K v h
 |.eqs neg ts x y=>AH neg ts (ev x) (ev y) λv=>K v h
 |.not x=>match ev x with
  |.bool b=>K (.bool !b) h
  |_=>False
 |.conv kd x=>match ev x with
  |.int _ n=>K (.int kd (kd.wrap n)) h
  |_=>False
 |.mkslice ty sz bytes z l c=>match ev l,ev c with
  |.int _ n,.int _ m=>h k=none/\0<=n/\m=n/\z.length=sz/\z.all (λu=>u.oneCell')=true/\n*bytes<=140737488355328/\n<=140737488355328/\∀β:Nat,K (.own k (some β) sz n.toNat) (h.put k ⟨some β,ty,sz,List.replicate n.toNat (z.map ya)⟩)
  |_,_=>False
 |.slstr x lo hi=>match ev x with
  |.str l=>AI (lo.map ev) λa=>K2 (hi.map ev) l.length λb=>0<=a/\a<=b/\b<=l.length/\K (.str ((l.take b.toNat).drop a.toNat)) h
  |_=>False
 |.slsl sz x lo hi=>match ev x with
  |.sl t sz' rows=>sz'=sz/\AI (lo.map ev) λa=>K2 (hi.map ev) rows.length λb=>0<=a/\a<=b/\b<=rows.length/\K (.sl t sz ((rows.take b.toNat).drop a.toNat)) h
  |.own j bk sz' n=>sz'=sz/\AI (lo.map ev) λa=>K2 (hi.map ev) n λb=>0<=a/\a<=b/\b<=n/\K (.win j bk sz a b) h
  |.win j bk sz' l0 h0=>sz'=sz/\AI (lo.map ev) λa=>K2 (hi.map ev) (h0-l0).toNat λb=>0<=a/\a<=b/\b<=((h0-l0).toNat:Int)/\K (.win j bk sz (l0+a) (l0+b)) h
  |_=>False
 |.faddr off x=>match ev x with
  |.ptr j b sz i o=>K (.ptr j b sz i (o+off)) h
  |.rp t cs=>K (.rp t (cs.drop off)) h
  |_=>False
 |.fld1 off x=>match ev x with
  |.agg cs=>yd cs off λv=>K v h
  |_=>False
 |.fldn off n x=>match ev x with
  |.agg cs=>off+n<=cs.length/\K (.agg ((cs.drop off).take n)) h
  |_=>False
 |.iaddr sz x i=>match ev x,ev i with
  |.sl t sz' rows,.int _ i=>sz'=sz/\0<=i/\i<rows.length/\K (.rp t (rows.getD i.toNat [])) h
  |.own j b sz' n,.int _ i=>sz'=sz/\0<=i/\i<n/\K (.ptr j b sz i.toNat 0) h
  |.win j b sz' lo hi,.int _ i=>sz'=sz/\0<=i/\i<hi-lo/\K (.ptr j b sz (lo+i).toNat 0) h
  |_,_=>False
 |.iarr len sz x i=>match ev x,ev i with
  |.ptr j b sz' r off,.int _ i=>0<=i/\i<len/\K (.ptr j b sz' r (off+i.toNat*sz)) h
  |.rp t cs,.int _ i=>0<=i/\i<len/\K (.rp t (cs.drop (i.toNat*sz))) h
  |_,_=>False
 |.ixs x i=>match ev x,ev i with
  |.str l,.int _ i=>0<=i/\i<l.length/\K (.int .u8 (l.getD i.toNat 0).toNat) h
  |_,_=>False
 |.ext i x=>match ev x with
  |.tup vs=>i<vs.length/\K (vs.getD i .gC) h
  |_=>False
 |.len str x=>DY str (ev x) λv=>K v h
 |.mm mx x y=>match ev x,ev y with
  |.int k a,.int k' b=>k=k'/\K (.int k (if mx then max a b else min a b)) h
  |_,_=>False
 |.append ty sz bytes x y=>qB h k ty sz bytes (ev x) (ev y) K
 |.call f args=>C f (args.map ev) h K
 |.callv x args=>match ev x with
  |.fn f caps=>C f (args.map ev++caps) h K
  |_=>False
 |.mkfn f caps=>K (.fn f (caps.map ev)) h
 |.convbs x=>∃l:BS,rowsOf h 1 (ev x)=some (l.map λb=>[V.int .u8 b.toNat])/\K (.str l) h
 |.dead=>False
 |.ixa g len sz x i=>match ev x,ev i with
  |.agg cs,.int _ i=>0<=i/\i<len/\len*sz<=cs.length/\0<sz/\K (if g then .agg ((cs.drop (i.toNat*sz)).take sz) else cs.getD (i.toNat*sz) .gC) h
  |_,_=>False
def br(t:Bool)(A B:Unit->Prop):Prop:=match t with
 |true=>A ()
 |false=>B ()
theorem a6{t:Bool}{A B:Prop}(h1:t=true->A)(h2:t=false->B):br.match_1 (λ_=>Prop) t (λ_=>A) (λ_=>B):=by
 cases t
 ·exact h2 rfl
 ·exact h1 rfl
def Ld:Nat:=3
def Le:Nat:=0
def Pc(b:Nat):Prop:=b=Ld\/b=Le
def tabName9:String:=match Rows.topDeskRow.laid with
 |_::_::x::_=>x.1
 |_=>Rows.topDeskRow.func
def Env(w:World):Prop:=Lib.TabIs Tryz.prog w tabName9 .u64 Lib.pow10Tab∧∃m,w.cell? ⟨Le,0,none⟩=some (.int .i64 m)
theorem pX:Tryz.prog.globalNamed tabName9 =some Ld:=by kernel_rfl
theorem Env.lt{w:World}{b:Nat}(h:Env w)(hb:Pc b):b<w.heap.size:=by
 rcases hb with rfl|rfl
 ·have h1:=h.1;unfold Lib.TabIs World.var? at h1;rw[pX,fa] at h1;cases hg:w.heap[Ld]? with
  |none=>rw[hg] at h1;cases h1
  |some o=>exact(aA.1 hg).1
 ·obtain⟨m,hm⟩:=h.2;exact World.block_lt_of_cell? w ⟨Le,0,none⟩ hm
theorem Env.keep{w w':World}(h:Env w)(hk:∀b,Pc b->w'.heap[b]? =w.heap[b]?):Env w':=by
 refine⟨?_,?_⟩
 ·have h1:=h.1;unfold Lib.TabIs World.var? at h1⊢;rw[pX,fa] at h1⊢;rw[hk Ld (.inl rfl)];exact h1
 ·obtain⟨m,hm⟩:=h.2;refine⟨m,?_⟩;rw[<-hm];simp[World.cell?,hk Le (.inr rfl)]
structure Ev(L:Nat->Prop)(w w':World):Prop where
 os:w'.os=w.os
 tape:w'.tape=w.tape
 output:w'.output=w.output
 size:w.heap.size<=w'.heap.size
 same:∀b:Nat,b<w.heap.size->¬L b->w'.heap[b]? =w.heap[b]?
 cells:∀(b:Nat)(c:Array Value)(e:TypeId)(fr:Nat×Nat),w.heap[b]? =some (Obj.cells c e fr)->∃(c':Array Value)(Re:Nat×Nat),w'.heap[b]? =some (Obj.cells c' e Re)/\c'.size=c.size
theorem Ev.refl(L:Nat->Prop)(w:World):Ev L w w:=⟨rfl,rfl,rfl,ak _,λ_ _ _=>rfl,λ_ c _ fr h=>⟨c,fr,h,rfl⟩⟩
theorem Ev.trans{L:Nat->Prop}{a b c:World}(h:Ev L a b)(h':Ev L b c):Ev L a c:=
 ⟨h'.os.trans h.os,h'.tape.trans h.tape,h'.output.trans h.output,aV h.size h'.size,
  λx hx hn=>(h'.same x (bE hx h.size) hn).trans (h.same x hx hn),
  λx cs e fr hc=>by
   obtain⟨c1,f1,h1,e1⟩:=h.cells x cs e fr hc;obtain⟨d,f2,h2,f⟩:=h'.cells x c1 e f1 h1;exact⟨d,f2,h2,f.trans e1⟩⟩
theorem Ev.mono{L M:Nat->Prop}{a b:World}(h:Ev L a b)(hm:∀x,x<a.heap.size->L x->M x):Ev M a b:=
 ⟨h.os,h.tape,h.output,h.size,λx hx hn=>h.same x hx λhl=>hn (hm x hx hl),h.cells⟩
theorem Ev.qE{L M:Nat->Prop}{a b c:World}(h:Ev M a b)(h':Ev L b c)(hm:∀x,x<a.heap.size->L x->M x):Ev M a c:=
 ⟨h'.os.trans h.os,h'.tape.trans h.tape,h'.output.trans h.output,aV h.size h'.size,
  λx hx hn=>(h'.same x (bE hx h.size) (λhl=>hn (hm x hx hl))).trans (h.same x hx hn),
  λx cs e fr hc=>by
   obtain⟨c1,f1,h1,e1⟩:=h.cells x cs e fr hc;obtain⟨d,f2,h2,f⟩:=h'.cells x c1 e f1 h1;exact⟨d,f2,h2,f.trans e1⟩⟩
theorem Ev.drew(L:Nat->Prop)(w:World):Ev L w w.drew:=⟨rfl,rfl,rfl,ak _,λ_ _ _=>rfl,λ_ c _ fr h=>⟨c,fr,h,rfl⟩⟩
theorem Ev.alloc(L:Nat->Prop)(w:World)(o:Obj):Ev L w (w.alloc o):=
 ⟨rfl,rfl,rfl,by simp,λb hb _=>heap_alloc_old w o hb,λb c e fr h=>⟨c,fr,(heap_alloc_old w o (aA.1 h).1).trans h,rfl⟩⟩
theorem Ev.setRow{L:Nat->Prop}{w:World}{b:Nat}{c c':Array Value}{e:TypeId}(d:L b)(h:w.heap[b]? =some (.cells c e (0,0)))(hs:c'.size=c.size):
  Ev L w (w.setRow b c'):=by
 refine⟨rfl,rfl,rfl,?_,λx hx hn=>?_,λx cs f fr hx=>?_⟩
 ·simp[World.setRow]
 ·exact setRow_other w b x c' (λhe=>hn (he▸d))
 ·by_cases a:x=b
  ·subst a;rw[h] at hx;cases hx;exact⟨c',_,setRow_heap w x c c' e _ h,hs⟩
  ·exact⟨cs,_,(setRow_other w b x c' a).trans hx,rfl⟩
inductive Rel(F B:Nat->Prop)(w:World):V->Value->Prop
 |int (k n):Rel F B w (.int k n) (.int k n)
 |bool (b):Rel F B w (.bool b) (.bool b)
 |str (l:BS):Rel F B w (.str l) (.string ⟨l.toArray⟩)
 |agg (cs:List V) (us:Array Value) (hl:us.size=cs.length) (h:∀(i:Nat)(v:V)(u:Value),cs[i]? =some v->us[i]? =some u->Rel F B w v u):Rel F B w (.agg cs) (.agg us)
 |tup (cs:List V) (us:Array Value) (hl:us.size=cs.length) (h:∀(i:Nat)(v:V)(u:Value),cs[i]? =some v->us[i]? =some u->Rel F B w v u):Rel F B w (.tup cs) (.tuple us)
 |slnil (t sz):Rel F B w (.sl t sz []) (.slice none 0 0)
 |sl (t sz rows b off cap) (us:Nat->Nat->Value) (hF:F b\/(t=true/\B b)) (jD:rows.length<=cap) (hsz:∀r∈rows,r.length=sz)
   (hc:∀(i j:Nat)(r:List V)(v:V),rows[i]? =some r->r[j]? =some v->w.cell? ⟨b,off+(i*sz+j),none⟩=some (us i j)/\(us i j).oneCell'=true)
   (hr:∀(i j:Nat)(r:List V)(v:V),rows[i]? =some r->r[j]? =some v->Rel F B w v (us i j)):
   Rel F B w (.sl t sz rows) (.slice (some ⟨b,off,none⟩) rows.length cap)
 |slemp (t sz a cap):Rel F B w (.sl t sz []) (.slice (some a) 0 cap)
 |nilsl:Rel F B w .nilsl (.slice none 0 0)
 |ownnil (k sz):Rel F B w (.own k none sz 0) (.slice none 0 0)
 |own (k b sz n cap) (c:Array Value) (e:TypeId) (fr:Nat×Nat) (h:w.heap[b]? =some (.cells c e fr)) (hs:c.size=cap*sz) (hm:cap<=maxLen) (hn:n<=cap):Rel F B w (.own k (some b) sz n) (.slice (some ⟨b,0,none⟩) n cap)
 |winemp (k b sz lo) (a:Option Addr):Rel F B w (.win k b sz lo lo) (.slice a 0 0)
 |win (k b sz cap) (lo hi:Int) (c:Array Value) (e:TypeId) (fr:Nat×Nat) (h:w.heap[b]? =some (.cells c e fr)) (hs:c.size=(cap+lo.toNat)*sz) (hm:cap+lo.toNat<=maxLen) (hn:(hi-lo).toNat<=cap) (h0:0<=lo) (h1:lo<=hi):Rel F B w (.win k (some b) sz lo hi) (.slice (some ⟨b,lo.toNat*sz,none⟩) (hi-lo).toNat cap)
 |ptr (k b sz i off):Rel F B w (.ptr k (some b) sz i off) (.pointer (some ⟨b,i*sz+off,none⟩))
 |rp (t b off) (cs:List V) (us:Nat->Value) (hF:F b\/(t=true/\B b)) (hc:∀(j:Nat)(v:V),cs[j]? =some v->w.cell? ⟨b,off+j,none⟩=some (us j)/\(us j).oneCell'=true) (hr:∀(j:Nat)(v:V),cs[j]? =some v->Rel F B w v (us j)):
   Rel F B w (.rp t cs) (.pointer (some ⟨b,off,none⟩))
 |nil:Rel F B w .nil (.pointer none)
 |fn (f) (caps:List V) (us:Array Value) (hl:us.size=caps.length) (h:∀(i:Nat)(v:V)(u:Value),caps[i]? =some v->us[i]? =some u->Rel F B w v u):Rel F B w (.fn f caps) (.func (.func f) #[] us)
 |raw (v):Rel F B w (.raw v) v
 |mN:Rel F B w .mN undef
 |gC (v):Rel F B w .gC v
theorem World.tJ{w w':World}{b o:Nat}(h:w'.heap[b]? =w.heap[b]?):w'.cell? ⟨b,o,none⟩=w.cell? ⟨b,o,none⟩:=by simp[World.cell?,h]
theorem Rel.keep{F B F' B':Nat->Prop}{L:Nat->Prop}{w w':World}(he:Ev L w w')(hF:∀b,b<w.heap.size->F b->F' b)(hB:∀b,b<w.heap.size->B b->F' b\/B' b)
  (m:∀b,b<w.heap.size->(F b\/B b)->¬L b){v:V}{u:Value}(h:Rel F B w v u)(hlt:∀b,F b\/B b->b<w.heap.size):Rel F' B' w' v u:=by
 induction h with
 |int k n=>exact .int k n
 |bool b=>exact .bool b
 |str l=>exact .str l
 |agg cs us hl h ih=>exact .agg cs us hl ih
 |tup cs us hl h ih=>exact .tup cs us hl ih
 |slnil t sz=>exact .slnil t sz
 |sl t sz rows b off cap us d jD hsz hc hr ih=>
  have hb:b<w.heap.size:=hlt b (by rcases d with h|⟨_,h⟩<;>simp[h])
  have hs:w'.heap[b]? =w.heap[b]? :=he.same b hb (m b hb (by rcases d with h|⟨_,h⟩<;>simp[h]))
  refine .sl t sz rows b off cap us ?_ jD hsz (λi j r v hi hj=>⟨(World.tJ hs).trans (hc i j r v hi hj).1,(hc i j r v hi hj).2⟩) ih
  rcases d with h|⟨ht,h⟩
  ·exact .inl (hF b hb h)
  ·rcases hB b hb h with h|h
   ·exact .inl h
   ·exact .inr ⟨ht,h⟩
 |slemp t sz a cap=>exact .slemp t sz a cap
 |nilsl=>exact .nilsl
 |ownnil k sz=>exact .ownnil k sz
 |own k b sz n cap c e fr h hs hm hn=>
  obtain⟨c',Re,h',g⟩:=he.cells b c e fr h;exact .own k b sz n cap c' e Re h' (g.trans hs) hm hn
 |winemp k b sz lo a=>exact .winemp k b sz lo a
 |win k b sz cap lo hi c e fr h hs hm hn h0 h1=>
  obtain⟨c',Re,h',g⟩:=he.cells b c e fr h;exact .win k b sz cap lo hi c' e Re h' (g.trans hs) hm hn h0 h1
 |ptr k b sz i off=>exact .ptr k b sz i off
 |rp t b off cs us d hc hr ih=>
  have hb:b<w.heap.size:=hlt b (by rcases d with h|⟨_,h⟩<;>simp[h])
  have hs:w'.heap[b]? =w.heap[b]? :=he.same b hb (m b hb (by rcases d with h|⟨_,h⟩<;>simp[h]))
  refine .rp t b off cs us ?_ (λj v hj=>⟨(World.tJ hs).trans (hc j v hj).1,(hc j v hj).2⟩) ih
  rcases d with h|⟨ht,h⟩
  ·exact .inl (hF b hb h)
  ·rcases hB b hb h with h|h
   ·exact .inl h
   ·exact .inr ⟨ht,h⟩
 |nil=>exact .nil
 |fn f caps us hl h ih=>exact .fn f caps us hl ih
 |raw v=>exact .raw v
 |mN=>exact .mN
 |gC v=>exact .gC v
def fe(F B:Nat->Prop)(w:World)(o:Ob):Prop:=
 match o.b with
 |none=>o.rows=[]
 |some b=>∃(c:Array Value)(cap:Nat),w.heap[b]? =some (Obj.cells c o.ty (0,0))/\c.size=cap*o.sz/\cap<=maxLen/\o.rows.length<=cap/\(∀r∈o.rows,r.length=o.sz)/\
   ∀(i j:Nat)(r:List V)(v:V),o.rows[i]? =some r->r[j]? =some v->∃u,c[i*o.sz+j]? =some u/\u.oneCell'=true/\Rel F B w v u
structure Ctx where
 w0:World
 F0:Nat->Prop
 B:Nat->Prop
 pass:Nat->Prop
 df:List Deferred
structure Ctx.Ok(C:Ctx):Prop where
 F0:∀b,C.F0 b->b<C.w0.heap.size/\¬C.pass b
 B:∀b,C.B b->b<C.w0.heap.size/\¬C.pass b
 pass:∀b,C.pass b->b<C.w0.heap.size
 env:Env C.w0
 pg:∀b,C.pass b->¬Pc b
structure fT(C:Ctx)(F:Nat->Prop)(h:Hp)(w:World):Prop where
 ob:∀k o,h k=some o->fe F C.B w o
 inj:∀k k' o o' b,h k=some o->h k'=some o'->o.b=some b->o'.b=some b->k=k'
 live:∀k o b,h k=some o->o.b=some b->¬F b/\(C.pass b\/C.w0.heap.size<=b)
 jE:∀b,F b->C.F0 b\/C.pass b\/C.w0.heap.size<=b
 new:∀b,C.F0 b->F b
 lt:∀b,F b->b<w.heap.size
 ev:Ev C.pass C.w0 w
structure Sat(C:Ctx)(n:Nat)(s:S)(a:Act)(w:World):Prop where
 ex:∃F,fT C F s.h w/\∀i:Nat,Rel F C.B w (s.t i) (a.tmps.getD i undef)
 df:a.defers=C.df
 sz:a.tmps.size=n
def mf:Operand->Option hS
 |.tmp t=>some (.t t)
 |.const v=>some (.c v)
 |.func f=>some (.c (.func (.func f) #[] #[]))
 |.global _=>none
def AJ:hS->Bool
 |.c (.slice none 0 0)=>true
 |_=>false
theorem vK{a:Act}{y:Operand}{b:hS}(h:mf y=some b)(hn:AJ b=true):a.eval y=.slice none 0 0:=by
 cases y with
 |tmp t=>simp[mf] at h;subst h;cases hn
 |global g=>cases h
 |func f=>simp[mf] at h;subst h;cases hn
 |const v=>
  simp only[mf,aC] at h;subst h;have hv:v=.slice none 0 0:=by
   unfold AJ at hn
   split at hn
   ·rename_i he;cases he;rfl
   ·cases hn
  subst hv;rfl
def ye:Option Operand->Option (Option hS)
 |none=>some none
 |some x=>(mf x).map some
def tK:List Operand->Option (List hS)
 |[]=>some []
 |x::l=>match mf x,tK l with
  |some y,some m=>some (y::m)
  |_,_=>none
def jR(P:Program)(T:TypeId):Option Bool:=
 match P.underlying T with
 |some (.struct _)=>some true
 |some (.array _ _)=>some true
 |some _=>some false
 |none=>none
def qF(P:Program)(T:TypeId):Option Nat:=(P.info? T).map (·.size)
def lF(P:Program)(T:TypeId):Option (List Value):=((P.info? T).bind (·.zero)).map (·.cells.toList)
def mg(off:Nat->Option (Nat×Nat))(n:Nat):List (Nat×Operand)->Option (List (Nat×Nat×hS))
 |[]=>some []
 |(j,x)::l=>match off j,mf x,mg off n l with
  |some (o,sz),some y,some m=>if o+sz<=n then some ((o,sz,y)::m) else none
  |_,_,_=>none
def tL(i:Nat):List (Nat×Operand)->Option (List hS)
 |[]=>some []
 |(j,x)::l=>match mf x,tL (i+1) l with
  |some y,some m=>if j=i then some (y::m) else none
  |_,_=>none
def vL(P:Program)(g:TypeId->Option (List Nat)):List Field->Nat->Option (List Nat)
 |[],_=>some []
 |f::fs,off=>match g f.type with
  |some c=>if f.name≠ "_" ∧f.offset=off∧P.cellsOf f.type=c.length then(vL P g fs (off+c.length)).map (c++ ·) else none
  |none=>none
def sG(P:Program):Nat->TypeId->Option (List Nat)
 |0,_=>none
 |m+1,t=>match P.underlying t with
  |some .bool=>some [0]
  |some (.int _)=>some [1]
  |some .string=>some [2]
  |some (.array n e)=>match sG P m e with
   |some c=>if P.cellsOf e=c.length then some (List.replicate n c).flatten else none
   |none=>none
  |some (.struct fs)=>if P.stoodInHeld t then none else vL P (sG P m) fs.toList 0
  |_=>none
def Lf(P:Program)(o:Op):Option pG:=
 match o with
 |.move x|.assign x=>(mf x).map .mov
 |.pick c a b=>match mf c,mf a,mf b with
  |some c,some a,some b=>some (.pick c a b)
  |_,_,_=>none
 |.alloc T=>(lF P T).map (.alloc T)
 |.box T x=>match qF P T,mf x with
  |some n,some x=>some (.box T n x)
  |_,_=>none
 |.build T parts=>match lF P T,P.underlying T with
  |some z,some (.struct fs)=>match fs.toList.mapM (λf=>(P.info? f.type).map λi=>(f.offset,i.size)) with
   |some places=>(mg (λj=>places.toArray[j]?) z.length parts.toList).map (.build z)
   |none=>none
  |some z,some (.array _ e)=>match qF P e with
   |some n=>(mg (λj=>some (j*n,n)) z.length parts.toList).map (.build z)
   |none=>none
  |_,_=>none
 |.buildSlice T len parts=>match P.underlying T with
  |some (.slice e)=>match qF P e,lF P e,tL 0 parts.toList with
   |some n,some z,some ps=>if z.length=n/\0<n/\len*n<=16777216/\ps.length=len then some (.bslice e n ps) else none
   |_,_,_=>none
  |_=>none
 |.load T x=>match jR P T,qF P T,mf x with
  |some true,some n,some x=>some (.loadn n x)
  |some false,_,some x=>some (.load1 x)
  |_,_,_=>none
 |.store T x v=>match qF P T,mf x,mf v with
  |some n,some x,some v=>some (.store n x v)
  |_,_,_=>none
 |.nilCheck x=>(mf x).map .nilchk
 |.binOp op T x y _=>match P.underlying T,mf x,mf y with
  |some (.int _),some x,some y=>some (.bin op x y)
  |some .string,some x,some y=>some (.bin op x y)
  |some .bool,some x,some y=>match op with
   |.eql=>some (.eqb false x y)
   |.neq=>some (.eqb true x y)
   |_=>none
  |some (.pointer _),some x,some y=>match op with
   |.eql=>some (.eqp false x y)
   |.neq=>some (.eqp true x y)
   |_=>none
  |some (.slice _),some x,some y=>if AJ y then(match op with
   |.eql=>some (.eqn false x)
   |.neq=>some (.eqn true x)
   |_=>none) else none
  |some (.struct _),some x,some y|some (.array _ _),some x,some y=>match sG P 8 T with
   |some ts=>if P.eqGuardType P.depth T then none else match op with
    |.eql=>some (.eqs false ts x y)
    |.neq=>some (.eqs true ts x y)
    |_=>none
   |none=>none
  |_,_,_=>none
 |.unOp .not _ x=>(mf x).map .not
 |.convert src dst x=>match P.underlying src,P.underlying dst,mf x with
  |some (.int _),some (.int k),some x=>some (.conv k x)
  |some (.slice e),some .string,some x=>(match P.underlying e with
   |some (.int .u8)=>some (.convbs x)
   |_=>none)
  |_,_,_=>none
 |.panic _=>some .dead
 |.makeInterface .. =>some .dead
 |.makeSlice T l c=>match P.underlying T with
  |some (.slice e)=>match P.info? e,lF P e,mf l,mf c with
   |some i,some z,some l,some c=>if i.size=z.length/\0<z.length/\0<i.bytes then some (.mkslice e i.size i.bytes z l c) else none
   |_,_,_,_=>none
  |_=>none
 |.slice T x lo hi none=>match P.underlying T,mf x,ye lo,ye hi with
  |some .string,some x,some lo,some hi=>some (.slstr x lo hi)
  |some (.slice e),some x,some lo,some hi=>(qF P e).map λn=>.slsl n x lo hi
  |_,_,_,_=>none
 |.fieldAddr T x f=>match P.underlying T,mf x with
  |some (.struct fs),some x=>match fs[f]? with
   |some f=>match qF P f.type with
    |some n=>if n=0 then none else some (.faddr f.offset x)
    |none=>none
   |none=>none
  |_,_=>none
 |.field T x f=>match P.underlying T,mf x with
  |some (.struct fs),some x=>match fs[f]? with
   |some f=>match jR P f.type,qF P f.type with
    |some true,some n=>some (.fldn f.offset n x)
    |some false,_=>some (.fld1 f.offset x)
    |_,_=>none
   |none=>none
  |_,_=>none
 |.indexAddr T x i=>match P.underlying T,mf x,mf i with
  |some (.slice e),some x,some i=>(qF P e).map λn=>.iaddr n x i
  |some (.array len e),some x,some i=>(qF P e).map λn=>.iarr len n x i
  |_,_,_=>none
 |.index T x i=>match P.underlying T,mf x,mf i with
  |some .string,some x,some i=>some (.ixs x i)
  |some (.array len e),some x,some i=>match jR P e,qF P e with
   |some g,some n=>some (.ixa g len n x i)
   |_,_=>none
  |_,_,_=>none
 |.extract x i=>(mf x).map (.ext i)
 |.makeFunc (.func f) first caps=>if first.size=0 then(tK caps.toList).map (.mkfn f) else none
 |.call c=>match c.callee with
  |.value (.func f)=>(tK c.args.toList).map (.call f)
  |.value (.tmp t)=>(tK c.args.toList).map (.callv (.t t))
  |.builtin .len=>match c.args.toList,c.argTypes.toList with
   |[x],[T]=>match P.underlying T with
    |some .string=>(mf x).map (.len true)
    |some (.slice _)=>(mf x).map (.len false)
    |_=>none
   |_,_=>none
  |.builtin .max=>match tK c.args.toList with
   |some [x,y]=>some (.mm true x y)
   |_=>none
  |.builtin .min=>match tK c.args.toList with
   |some [x,y]=>some (.mm false x y)
   |_=>none
  |.builtin .append=>match tK c.args.toList,c.argTypes.toList with
   |some [x,y],[T,T']=>match P.underlying T,P.underlying T' with
    |some (.slice e),some (.slice _)=>match P.info? e,lF P e with
     |some i,some z=>if i.size=z.length/\0<z.length/\0<i.bytes/\T'=T then some (.append e i.size i.bytes x y) else none
     |_,_=>none
    |_,_=>none
   |_,_=>none
  |_=>none
 |_=>none
theorem qG(F B:Nat->Prop)(w:World)(v:Value):Rel F B w (ya v) v:=by
 unfold ya
 split
 ·exact .int _ _
 ·exact .bool _
 ·exact .str _
 ·exact .nilsl
 ·exact .nil
 ·exact .raw _
theorem yf(F B:Nat->Prop)(w:World)(v:Value):Rel F B w (Pa v) v:=by
 unfold Pa
 split
 ·refine .agg _ _ (by simp) λi v u hv hu=>?_;simp only[aw,an] at hv;obtain⟨x,hx,rfl⟩:=hv;rw[cl,hu] at hx;cases hx;exact qG F B w _
 ·rename_i f p q
  split
  ·rename_i h;have e1:p= #[]:=cQ h.1;have a:q= #[]:=cQ h.2;subst e1 a;exact .fn _ _ _ (by simp) (by simp)
  ·exact .gC _
 ·exact qG F B w _
section
variable {P:Program} {C:Ctx} {F:Nat->Prop} {w:World} {a:Act} {s:S}
theorem ep(hr:∀i:Nat,Rel F C.B w (s.t i) (a.tmps.getD i undef)){x:Operand}{y:hS}(h:mf x=some y):Rel F C.B w (y.ev s) (a.eval x):=by
 cases x with
 |tmp t=>simp only[mf,aC] at h;subst h;exact hr t
 |const v=>simp only[mf,aC] at h;subst h;exact yf _ _ _ _
 |func f=>simp only[mf,aC] at h;subst h;exact yf F C.B w (.func (.func f) #[] #[])
 |global g=>simp[mf] at h
def fQ(C:Ctx)(F:Nat->Prop)(w:World)(a:Act)(dst:Option Tmp)(K:V->Hp->Prop):Act->World->Prop:=λb w'=>
 ∃u v h' F',b=a.put dst u/\Rel F' C.B w' v u/\fT C F' h' w'/\(∀x y,Rel F C.B w x y->Rel F' C.B w' x y)/\K v h'
theorem FJ{o:Oper}{u:Value}{w':World}{K:Act->World->Prop}{Q:Exit->Act->World->Prop}(im:(execOp a.eval o).run P w=.ok (.value u) w')(h:K (a.put o.dst u) w'):o.wp P a w K Q:=by
 unfold Oper.wp;rw[im];exact h
theorem wp_pure{o:Oper}{u:Value}{v:V}{h:Hp}{K:V->Hp->Prop}{Q:Exit->Act->World->Prop}(hs:fT C F h w)(im:(execOp a.eval o).run P w=.ok (.value u) w)(hv:Rel F C.B w v u)(hK:K v h):
  o.wp P a w (fQ C F w a o.dst K) Q:=
 FJ im ⟨u,v,h,F,rfl,hv,hs,λ_ _ h=>h,hK⟩
end
section
variable {P:Program} {C:Ctx} {F:Nat->Prop} {w:World} {a:Act} {s:S} {h:Hp} {K:V->Hp->Prop} {Q:Exit->Act->World->Prop} {o:Oper}
theorem B3{x:Operand}{v:V}(ho:o.op=.move x\/o.op=.assign x)(hs:fT C F h w)(hv:Rel F C.B w v (a.eval x))(hK:K v h):o.wp P a w (fQ C F w a o.dst K) Q:=by
 refine wp_pure hs ?_ hv hK
 rcases ho with ho|ho<;>generalize a.eval=ρ at* <;>simp[execOp,ho,go_sem]
theorem FK{c x y:Operand}{t:Bool}{vx vy:V}(ho:o.op=.pick c x y)(hs:fT C F h w)(hc:Rel F C.B w (.bool t) (a.eval c))(hx:Rel F C.B w vx (a.eval x))(hy:Rel F C.B w vy (a.eval y))
  (hK:K (if t then vx else vy) h):o.wp P a w (fQ C F w a o.dst K) Q:=by
 generalize Lg:a.eval c=uc at hc
 cases hc;refine wp_pure (u:=if t then a.eval x else a.eval y) hs ?_ ?_ hK
 ·generalize a.eval=ρ at*
  simp[execOp,ho,Lg,go_sem,asBool]
 ·cases t
  ·exact hy
  ·exact hx
theorem Lh{T:TypeId}{x:Operand}{b:Bool}(ho:o.op=.unOp .not T x)(hs:fT C F h w)(hx:Rel F C.B w (.bool b) (a.eval x))(hK:K (.bool !b) h):o.wp P a w (fQ C F w a o.dst K) Q:=by
 generalize Lg:a.eval x=uc at hx
 cases hx;refine wp_pure (u:=.bool !b) hs ?_ (.bool _) hK
 generalize a.eval=ρ at*
 simp[execOp,ho,Lg,go_sem,Op.unary]
theorem tM{x:Operand}{v:V}(ho:o.op=.nilCheck x)(hs:fT C F h w)(hx:Rel F C.B w v (a.eval x))(hv:(∃k b sz i off,v=.ptr k b sz i off)\/(∃t cs,v=.rp t cs))(hK:K v h):o.wp P a w (fQ C F w a o.dst K) Q:=by
 refine wp_pure (u:=a.eval x) hs ?_ hx hK
 generalize Lg:a.eval x=uc at hx
 rcases hv with⟨k,b,sz,i,off,rfl⟩|⟨t,cs,rfl⟩<;>cases hx<;>generalize a.eval=ρ at* <;>simp[execOp,ho,Lg,go_sem]
theorem Li{x:Operand}{i:Nat}{vs:List V}(ho:o.op=.extract x i)(hs:fT C F h w)(hx:Rel F C.B w (.tup vs) (a.eval x))(hi:i<vs.length)(hK:K (vs.getD i .gC) h):o.wp P a w (fQ C F w a o.dst K) Q:=by
 generalize Lg:a.eval x=uc at hx
 cases hx with
 |tup _ us hl hr=>
  have hi':i<us.size:=by omega
  refine wp_pure (u:=us[i]) hs ?_ (hr i _ _ (by simp[au,hi]) (by simp[hi'])) hK
  generalize a.eval=ρ at*
  simp[execOp,ho,Lg,go_sem,Instr.extract,hi']
theorem FL{src dst:TypeId}{x:Operand}{k:IntKind}{kx:IntKind}{n:Int}{ks:IntKind}(ho:o.op=.convert src dst x)(h1:P.underlying src=some (.int ks))(h2:P.underlying dst=some (.int k))(hs:fT C F h w)
  (hx:Rel F C.B w (.int kx n) (a.eval x))(hK:K (.int k (k.wrap n)) h):o.wp P a w (fQ C F w a o.dst K) Q:=by
 generalize Lg:a.eval x=uc at hx
 cases hx;refine wp_pure (u:=.int k (k.wrap n)) hs ?_ (.int _ _) hK
 generalize a.eval=ρ at*
 simp[execOp,ho,Lg,go_sem,convert,run_underlying h1,run_underlying h2,Conv.intToInt]
theorem wrap64{n:Int}(h:kA n):IntKind.i64.wrap n=n:=by
 unfold kA at h;simp only[IntKind.wrap,IntKind.bits,IntKind.signed];simp;omega
theorem mO{k:IntKind}{n:Int}{K:V->Prop}(h:arith k n K):K (.int k (k.wrap n)):=by
 unfold arith at h
 split at h
 ·rw[wrap64 h.1];exact h.2
 ·exact h
theorem wR{k:IntKind}{n:Int}(h1:k.min<=n)(h2:n<=k.max):k.wrap n=n:=by
 cases k<;>simp[IntKind.min,IntKind.max,IntKind.wrap,IntKind.bits,IntKind.signed] at* <;>omega
end
section
variable {P:Program} {C:Ctx} {F:Nat->Prop} {w:World} {a:Act} {s:S} {h:Hp} {K:V->Hp->Prop} {Q:Exit->Act->World->Prop} {o:Oper}
theorem wS{op:BinOp}{T:TypeId}{x y:Operand}{k k':IntKind}{m n:Int}:(eqGuard op T x y (.int k m) (.int k' n)).run P w=.ok () w:=by
 unfold eqGuard;cases op<;>simp[go_sem]
theorem wT{op:BinOp}{T:TypeId}{x y:Operand}{m n:ByteArray}:(eqGuard op T x y (.string m) (.string n)).run P w=.ok () w:=by
 unfold eqGuard;cases op<;>simp[go_sem]
theorem tN{op:BinOp}{T U:TypeId}{x y:Operand}{u:Value}{v:V}(ho:o.op=.binOp op T x y U)(hs:fT C F h w)(hg:(eqGuard op T x y (a.eval x) (a.eval y)).run P w=.ok () w)
  (hb:(binOp op T (a.eval x) (a.eval y)).run P w=.ok u w)(hv:Rel F C.B w v u)(hK:K v h):o.wp P a w (fQ C F w a o.dst K) Q:=by
 refine wp_pure hs ?_ hv hK
 generalize a.eval=ρ at*
 simp[execOp,ho,go_sem,hg,hb]
theorem toList_inj{l m:BS}:((⟨l.toArray⟩:ByteArray).toList==(⟨m.toArray⟩:ByteArray).toList)=decide (l=m):=by
 rw[c6];simp
theorem FM{m n:Int}(h1:0<=m):m.tdiv n=m/n:=by rw[Int.tdiv_eq_ediv_of_nonneg h1]
theorem FN{m n:Int}(h1:0<=m):m.tmod n=m%n:=by rw[Int.tmod_eq_emod_of_nonneg h1]
theorem FO{m:Int}{n:Nat}:m.fdiv (2^n)=m/2^n:=Int.fdiv_eq_ediv_of_nonneg _ (Int.le_of_lt (Int.pow_pos qD))
theorem FP{k:IntKind}{x:Int}{n:Nat}(h:k.bits<=n):k.wrap (x*2^k.bits)=k.wrap (x*2^n):=by
 obtain⟨d,rfl⟩:∃d,n=k.bits+d:=⟨n-k.bits,qW⟩;simp only[IntKind.wrap];rw[Int.pow_add,show x*((2:Int)^k.bits*2^d)=(x*2^d)*2^k.bits by rw[Int.mul_comm (2^k.bits),Int.mul_assoc],eU,eU]
theorem AK{op:BinOp}{T:TypeId}{k k':IntKind}{m n:Int}{v:V}{K:V->Prop}(h:s8 op (.int k m) (.int k' n) K):
  ∃u v,(binOp op T (.int k m) (.int k' n)).run P w=.ok u w/\Rel F C.B w v u/\K v:=by
 cases op<;>simp only[s8] at h
 case add=>obtain⟨rfl,h⟩:=h;exact⟨.int k (k.wrap (m+n)),_,by simp[binOp,Op.intArith,go_sem],.int _ _,mO h⟩
 case sub=>obtain⟨rfl,h⟩:=h;exact⟨.int k (k.wrap (m-n)),_,by simp[binOp,Op.intArith,go_sem],.int _ _,mO h⟩
 case mul=>obtain⟨rfl,h⟩:=h;exact⟨.int k (k.wrap (m*n)),_,by simp[binOp,Op.intArith,go_sem],.int _ _,mO h⟩
 case quo=>
  obtain⟨rfl,h1,h2,h⟩:=h;exact⟨.int k (k.wrap (m.tdiv n)),_,by simp[binOp,Op.intDiv,go_sem,show¬n=0 by omega],.int _ _,by rw[FM h1];exact mO h⟩
 case rem=>
  obtain⟨rfl,h1,h2,h⟩:=h;exact⟨.int k (m.tmod n),_,by simp[binOp,Op.intDiv,go_sem,show¬n=0 by omega],.int _ _,by rw[FN h1];exact h⟩
 case and=>obtain⟨rfl,h⟩:=h;exact⟨.int k (k.wrap (BitVec.ofInt k.bits m&&&BitVec.ofInt k.bits n).toNat),_,by simp only[binOp,ne_eq,not_true,↓reduceIte,Op.intBits];rfl,.int _ _,h⟩
 case or=>obtain⟨rfl,h⟩:=h;exact⟨.int k (k.wrap (BitVec.ofInt k.bits m|||BitVec.ofInt k.bits n).toNat),_,by simp only[binOp,ne_eq,not_true,↓reduceIte,Op.intBits];rfl,.int _ _,h⟩
 case xor=>obtain⟨rfl,h⟩:=h;exact⟨.int k (k.wrap (BitVec.ofInt k.bits m^^^BitVec.ofInt k.bits n).toNat),_,by simp only[binOp,ne_eq,not_true,↓reduceIte,Op.intBits];rfl,.int _ _,h⟩
 case shl=>
  obtain⟨h1,h2,h⟩:=h;refine⟨.int k (k.wrap (m*2^min n.toNat k.bits)),_,by simp only[binOp,Op.shift];rw[aa qW];rfl,.int _ _,?_⟩
  by_cases hb:n.toNat<=k.bits
  ·rw[fu hb];exact mO h
  ·rw[Nat.min_eq_right qW,FP (n:=n.toNat) qW];exact mO h
 case shr=>
  obtain⟨h1,h2,h⟩:=h;refine⟨.int k (m.fdiv (2^min n.toNat k.bits)),_,by simp only[binOp,Op.shift];rw[aa qW];rfl,.int _ _,?_⟩;rw[fu qW,FO];exact h
 case lss=>obtain⟨rfl,h⟩:=h;exact⟨.bool (decide (m<n)),_,by simp[binOp,Op.intCmp,go_sem],.bool _,h⟩
 case leq=>obtain⟨rfl,h⟩:=h;exact⟨.bool (decide (m<=n)),_,by simp[binOp,Op.intCmp,go_sem],.bool _,h⟩
 case gtr=>obtain⟨rfl,h⟩:=h;exact⟨.bool (decide (n<m)),_,by simp[binOp,Op.intCmp,go_sem],.bool _,h⟩
 case geq=>obtain⟨rfl,h⟩:=h;exact⟨.bool (decide (n<=m)),_,by simp[binOp,Op.intCmp,go_sem],.bool _,h⟩
 case eql=>
  obtain⟨rfl,h⟩:=h;refine⟨.bool (decide (m=n)),_,?_,.bool _,h⟩;have e:(m==n)=decide (m=n):=by rw[c6];simp
  simp[binOp,Op.intCmp,go_sem,e]
 case neq=>
  obtain⟨rfl,h⟩:=h;refine⟨.bool (decide (m≠n)),_,?_,.bool _,h⟩;have e:(m==n)=decide (m=n):=by rw[c6];simp
  simp[binOp,Op.intCmp,go_sem,e,bne]
theorem AL{op:BinOp}{T:TypeId}{m n:BS}{K:V->Prop}(h:s8 op (.str m) (.str n) K):
  ∃u v,(binOp op T (.string ⟨m.toArray⟩) (.string ⟨n.toArray⟩)).run P w=.ok u w/\Rel F C.B w v u/\K v:=by
 cases op<;>simp only[s8] at h
 case add=>
  refine⟨.string ⟨(m++n).toArray⟩,_,?_,.str _,h.2⟩;have h1:=h.1;unfold kA at h1;have e:(⟨m.toArray⟩:ByteArray)++⟨n.toArray⟩=⟨(m++n).toArray⟩:=by
   apply ByteArray.ext;simp
  have hs1:(⟨m.toArray⟩:ByteArray).size=m.length:=by simp[ByteArray.size]
  have hs2:(⟨n.toArray⟩:ByteArray).size=n.length:=by simp[ByteArray.size]
  simp only[binOp,Op.stringOp,hs1,hs2,e];rw[aa (by simp[IntKind.max,IntKind.signed,IntKind.bits];omega)];simp[go_sem]
 case eql=>
  refine⟨.bool (decide (m=n)),_,?_,.bool _,h⟩;simp only[binOp,Op.stringOp,toList_inj];simp[go_sem]
 case neq=>
  refine⟨.bool (decide (m≠n)),_,?_,.bool _,h⟩;simp only[binOp,Op.stringOp,toList_inj];simp[go_sem]
theorem B4{op:BinOp}{T U:TypeId}{x y:Operand}{c d:V}(ho:o.op=.binOp op T x y U)(hs:fT C F h w)(hx:Rel F C.B w c (a.eval x))(hy:Rel F C.B w d (a.eval y))
  (hK:s8 op c d λv=>K v h):o.wp P a w (fQ C F w a o.dst K) Q:=by
 generalize hex:a.eval x=e at hx
 generalize b:a.eval y=f at hy
 cases hx
 case int k m=>
  cases hy
  case int k' n=>
   obtain⟨u,v,hr,hv,hk⟩:=AK (P:=P) (C:=C) (F:=F) (w:=w) (T:=T) (v:=.gC) hK;exact tN ho hs (by rw[hex,b];exact wS) (by rw[hex,b];exact hr) hv hk
  all_goals(cases op<;>simp[s8] at hK)
 case str m=>
  cases hy
  case str n=>
   obtain⟨u,v,hr,hv,hk⟩:=AL (P:=P) (C:=C) (F:=F) (w:=w) (T:=T) hK;exact tN ho hs (by rw[hex,b];exact wT) (by rw[hex,b];exact hr) hv hk
  all_goals(cases op<;>simp[s8] at hK)
 all_goals(cases op<;>simp[s8] at hK)
end
open Go.BigFrame
section
variable {P:Program} {C:Ctx} {F:Nat->Prop} {w:World} {a:Act} {s:S} {h:Hp} {K:V->Hp->Prop} {Q:Exit->Act->World->Prop} {o:Oper}
theorem tO(l:BS):(⟨l.toArray⟩:ByteArray).size=l.length:=by simp[ByteArray.size]
theorem sH{c:Call}{u:Value}{v:V}{b:Builtin}(ho:o.op=.call c)(hb:c.callee=.builtin b)(hs:fT C F h w)
  (hr:(builtin b c.argTypes o.type (c.args.map λ|.const _=>true|_=>false) (c.args.map a.eval)).run P w=.ok (.value u) w)(hv:Rel F C.B w v u)(hK:K v h):o.wp P a w (fQ C F w a o.dst K) Q:=by
 refine wp_pure hs ?_ hv hK;obtain⟨callee,args,d⟩:=c;cases hb;unfold execOp;rw[ho];simp only[resolve,Sem.run_bind,Sem.run_pure,Result.andThen_ok,invoke];exact hr
theorem jw{c:Call}{x:Operand}{u d:Value}{v:V}{b:Builtin}{T:TypeId}(ho:o.op=.call c)(hb:c.callee=.builtin b)(hx:c.args= #[x])(e:c.argTypes= #[T])(hs:fT C F h w)(he:a.eval x=d)
  (hr:∀ty cs,(builtin b #[T] ty cs #[d]).run P w=.ok (.value u) w)(hv:Rel F C.B w v u)(hK:K v h):o.wp P a w (fQ C F w a o.dst K) Q:=by
 refine sH ho hb hs ?_ hv hK;simp only[hx,e,dU,aI,cX,he];exact hr _ _
theorem yg{T:TypeId}(hd:P.underlying T=some .string)(l:BS)(ty:TypeId)(cs:Array Bool):(builtin .len #[T] ty cs #[.string ⟨l.toArray⟩]).run P w=.ok (.value (.int .i64 l.length)) w:=by
 rw[builtin_len];simp[Builtin.len_,Sem.run_bind,Sem.run_pure,run_underlying hd,goInt,tO]
theorem ji{T e:TypeId}(hd:P.underlying T=some (.slice e))(b:Option Addr)(n m:Nat)(ty:TypeId)(cs:Array Bool):(builtin .len #[T] ty cs #[.slice b n m]).run P w=.ok (.value (.int .i64 n)) w:=by
 rw[builtin_len];simp[Builtin.len_,Sem.run_bind,Sem.run_pure,run_underlying hd,goInt]
theorem FQ{c:Call}{x:Operand}{T:TypeId}{b:V}(ho:o.op=.call c)(hb:c.callee=.builtin .len)(hx:c.args= #[x])(d:c.argTypes= #[T])(hd:P.underlying T=some .string)
  (hs:fT C F h w)(hv:Rel F C.B w b (a.eval x))(hK:DY true b λv=>K v h):o.wp P a w (fQ C F w a o.dst K) Q:=by
 generalize hex:a.eval x=e at hv
 cases hv
 case str l=>exact jw ho hb hx d hs hex (yg hd l) (.int _ _) hK
 all_goals(simp[DY] at hK)
theorem FR{c:Call}{x:Operand}{T e:TypeId}{f:V}(ho:o.op=.call c)(hb:c.callee=.builtin .len)(hx:c.args= #[x])(d:c.argTypes= #[T])(hd:P.underlying T=some (.slice e))
  (hs:fT C F h w)(hv:Rel F C.B w f (a.eval x))(hK:DY false f λv=>K v h):o.wp P a w (fQ C F w a o.dst K) Q:=by
 generalize hex:a.eval x=g at hv
 cases hv
 case slnil t sz=>exact jw ho hb hx d hs hex (ji hd _ _ _) (.int _ _) hK
 case sl=>exact jw ho hb hx d hs hex (ji hd _ _ _) (.int _ _) hK
 case slemp=>exact jw ho hb hx d hs hex (ji hd _ _ _) (.int _ _) hK
 case nilsl=>exact jw ho hb hx d hs hex (ji hd _ _ _) (.int _ _) hK
 case ownnil=>exact jw ho hb hx d hs hex (ji hd _ _ _) (.int _ _) hK
 case own=>exact jw ho hb hx d hs hex (ji hd _ _ _) (.int _ _) hK
 case winemp k b sz lo ad=>
  have e:((0:Nat):Int)=lo-lo:=by omega
  exact jw ho hb hx d hs hex (ji hd _ _ _) (.int _ _) (show K (.int .i64 ((0:Nat):Int)) h from by rw[e];exact hK)
 case win k b sz cap lo hi c e fr _ _ _ _ h0 h1=>exact jw ho hb hx d hs hex (ji hd _ _ _) (.int _ _) (by rw[Int.toNat_of_nonneg qW];exact hK)
 all_goals(simp[DY] at hK)
theorem Pd(mx:Bool)(k:IntKind)(m n:Int)(b:Array TypeId)(ty:TypeId)(cs:Array Bool):
  (builtin (if mx then .max else .min) b ty cs #[.int k m,.int k n]).run P w=.ok (.value (.int k (if mx then max m n else min m n))) w:=by
 cases mx
 ·have e:(if n<m then n else m)=min m n:=by simp only[Int.min_def];split<;>split<;>omega
  simp[builtin_min,Builtin.min_,Builtin.min2,Sem.run_bind,Sem.run_pure,e]
 ·have e:(if n>m then n else m)=max m n:=by simp only[Int.max_def];split<;>split<;>omega
  simp[builtin_max,Builtin.max_,Builtin.max2,Sem.run_bind,Sem.run_pure,<-e]
theorem FT{c:Call}{x y:Operand}{mx:Bool}{k:IntKind}{m n:Int}(ho:o.op=.call c)(hb:c.callee=.builtin (if mx then .max else .min))(hx:c.args= #[x,y])(hs:fT C F h w)
  (h1:Rel F C.B w (.int k m) (a.eval x))(h2:Rel F C.B w (.int k n) (a.eval y))(hK:K (.int k (if mx then max m n else min m n)) h):o.wp P a w (fQ C F w a o.dst K) Q:=by
 generalize hex:a.eval x=d at h1
 generalize b:a.eval y=e at h2
 cases h1;cases h2;refine sH ho hb hs ?_ (.int _ _) hK;simp only[hx,dU,aI,cX,hex,b];exact Pd mx k m n _ _ _
theorem Lj{T:TypeId}{x y:Operand}{l:BS}{k:IntKind}{i:Int}(ho:o.op=.index T x y)(hd:P.underlying T=some .string)(hs:fT C F h w)(h1:Rel F C.B w (.str l) (a.eval x))(h2:Rel F C.B w (.int k i) (a.eval y))
  (hi:0<=i)(hl:i<l.length)(hK:K (.int .u8 (l.getD i.toNat 0).toNat) h):o.wp P a w (fQ C F w a o.dst K) Q:=by
 generalize hex:a.eval x=c at h1
 generalize b:a.eval y=d at h2
 cases h1;cases h2;refine wp_pure (u:=.int .u8 (l.getD i.toNat 0).toNat) hs ?_ (.int _ _) hK
 generalize a.eval=f at*
 have hlt:i.toNat<l.length:=by omega
 have e:(⟨l.toArray⟩:ByteArray)[i.toNat]? =some (l.getD i.toNat 0):=by
  rw[getElem?_pos _ _ (by rw[tO];exact hlt)];simp[au,hlt,ByteArray.getElem_eq_getElem_data]
 simp[execOp,ho,hex,b,Sem.run_bind,Sem.run_pure,Instr.index,run_underlying hd,asIntOf,hi,e]
theorem lz{T:TypeId}{b:Bool}(hb:jR P T=some b):(isAgg T).run P w=.ok b w:=by
 unfold jR at hb;cases hu:P.underlying T with
 |none=>rw[hu] at hb;simp at hb
 |some d=>
  rw[hu] at hb;cases d<;>simp at hb<;>subst hb<;>simp[isAgg,Sem.run_bind,Sem.run_pure,run_underlying hu]
theorem gh{T:TypeId}{n:Nat}(hn:qF P T=some n):(sizeOf T).run P w=.ok n w:=by
 simp only[qF,an] at hn;obtain⟨i,hi,rfl⟩:=hn;simp[sizeOf,typeInfo,program,Sem.run_bind,Sem.run_pure,Sem.run,hi]
theorem FU{T:TypeId}{x:Operand}{j n:Nat}{fs:Array Field}{f:Field}{cs:List V}(ho:o.op=.field T x j)(hd:P.underlying T=some (.struct fs))(hf:fs[j]? =some f)(hg:jR P f.type=some true)(hn:qF P f.type=some n)
  (hs:fT C F h w)(hx:Rel F C.B w (.agg cs) (a.eval x))(hl:f.offset+n<=cs.length)(hK:K (.agg ((cs.drop f.offset).take n)) h):o.wp P a w (fQ C F w a o.dst K) Q:=by
 generalize hex:a.eval x=b at hx
 cases hx with
 |agg _ us hsz hr=>
  refine wp_pure (u:=.agg (us.extract f.offset (f.offset+n))) hs ?_ (.agg _ _ (by simp;omega) λi v u hv hu=>?_) hK
  ·generalize a.eval=c at*
   simp[execOp,ho,hex,Sem.run_bind,Sem.run_pure,Instr.field,run_underlying hd,hf,part,asAgg,lz hg,gh hn]
  ·simp only[aZ,bC] at hv
   split at hv
   ·refine hr _ v u hv ?_;simp only[dH] at hu
    split at hu
    ·exact hu
    ·simp at hu
   ·simp at hv
theorem FV{T:TypeId}{x:Operand}{j:Nat}{fs:Array Field}{f:Field}{cs:List V}(ho:o.op=.field T x j)(hd:P.underlying T=some (.struct fs))(hf:fs[j]? =some f)(hg:jR P f.type=some false)
  (hs:fT C F h w)(hx:Rel F C.B w (.agg cs) (a.eval x))(hl:f.offset<cs.length)(hK:K (cs.getD f.offset .gC) h):o.wp P a w (fQ C F w a o.dst K) Q:=by
 generalize hex:a.eval x=c at hx
 cases hx with
 |agg _ us hsz hr=>
  have b:f.offset<us.size:=by omega
  refine wp_pure (u:=us[f.offset]) hs ?_ (hr f.offset _ _ (by simp[au,hl]) (by simp[b])) hK
  generalize a.eval=d at*
  simp[execOp,ho,hex,Sem.run_bind,Sem.run_pure,Instr.field,run_underlying hd,hf,part,asAgg,lz hg,b]
theorem jN{b off n:Nat}:(⟨b,off,none⟩:Addr).add n=⟨b,off+n,none⟩:=by
 unfold Addr.add
 split
 ·subst_vars;rfl
 ·rfl
theorem vM{T:TypeId}{x:Operand}{j n:Nat}{fs:Array Field}{f:Field}{u:Value}{v:V}{b off:Nat}(ho:o.op=.fieldAddr T x j)(hd:P.underlying T=some (.struct fs))(hf:fs[j]? =some f)(hn:qF P f.type=some n)(c:n≠0)
  (hs:fT C F h w)(hx:a.eval x=.pointer (some ⟨b,off,none⟩))(hv:Rel F C.B w v (.pointer (some ⟨b,off+f.offset,none⟩)))(hK:K v h):o.wp P a w (fQ C F w a o.dst K) Q:=by
 refine wp_pure hs ?_ hv hK
 generalize a.eval=d at*
 simp[execOp,ho,hx,Sem.run_bind,Sem.run_pure,Instr.fieldAt,run_underlying hd,hf,Instr.sureAddr,fieldPlace,gh hn,c,jN]
theorem rR{T e:TypeId}{x y:Operand}{n:Nat}{v:V}{k:IntKind}{i:Int}{b off len cap:Nat}(ho:o.op=.indexAddr T x y)(hd:P.underlying T=some (.slice e))(hn:qF P e=some n)
  (hs:fT C F h w)(hx:a.eval x=.slice (some ⟨b,off,none⟩) len cap)(hy:a.eval y=.int k i)(h0:0<=i)(hl:i<len)(hv:Rel F C.B w v (.pointer (some ⟨b,off+i.toNat*n,none⟩)))(hK:K v h):o.wp P a w (fQ C F w a o.dst K) Q:=by
 refine wp_pure hs ?_ hv hK
 generalize a.eval=c at*
 simp[execOp,ho,hx,hy,Sem.run_bind,Sem.run_pure,Instr.indexAt,run_underlying hd,asIntOf,h0,hl,gh hn,jN]
theorem yh{T e:TypeId}{x y:Operand}{n:Nat}{v:V}{k:IntKind}{i:Int}{b off len:Nat}(ho:o.op=.indexAddr T x y)(hd:P.underlying T=some (.array len e))(hn:qF P e=some n)
  (hs:fT C F h w)(hx:a.eval x=.pointer (some ⟨b,off,none⟩))(hy:a.eval y=.int k i)(h0:0<=i)(hl:i<len)(hv:Rel F C.B w v (.pointer (some ⟨b,off+i.toNat*n,none⟩)))(hK:K v h):o.wp P a w (fQ C F w a o.dst K) Q:=by
 refine wp_pure hs ?_ hv hK
 generalize a.eval=c at*
 simp[execOp,ho,hx,hy,Sem.run_bind,Sem.run_pure,Instr.indexAt,run_underlying hd,Instr.sureAddr,asIntOf,h0,hl,gh hn,jN]
theorem o8{k:IntKind}{i:Int}{y:Nat}{c:BoundsCode}(h0:0<=i)(h1:i<=y):(Instr.sliceBound (.int k i) y c).run P w=.ok i.toNat w:=by
 simp[Instr.sliceBound,Sem.run_bind,Sem.run_pure,asIntOf,h0,h1]
theorem jj{isS:Bool}{len cap:Nat}{lo hi:Option Value}{l r:Int}(hl:(lo=none/\l=0)\/∃k,lo=some (.int k l))(hh:(hi=none/\r=len)\/∃k,hi=some (.int k r))(h0:0<=l)(h1:l<=r)(h2:r<=len)(hc:len<=cap):
  (Instr.sliceBounds isS len cap lo hi none).run P w=.ok (l.toNat,r.toNat,cap) w:=by
 have b:0<=r:=by omega
 have c:r<=cap:=by omega
 have d:l<=(r.toNat:Int):=by omega
 rcases hl with⟨rfl,rfl⟩|⟨k,rfl⟩<;>rcases hh with⟨rfl,rfl⟩|⟨k',rfl⟩
 ·simp[Instr.sliceBounds,Sem.run_bind,Sem.run_pure]
 ·simp[Instr.sliceBounds,Sem.run_bind,Sem.run_pure,o8 b c]
 ·simp[Instr.sliceBounds,Sem.run_bind,Sem.run_pure,o8 (y:=len) h0 h1]
 ·simp[Instr.sliceBounds,Sem.run_bind,Sem.run_pure,o8 b c,o8 h0 d]
theorem wU{lo:Option Operand}{b:Option hS}{l:Int}{c:Int->Prop}(ht:ye lo=some b)(hr:∀i:Nat,Rel F C.B w (s.t i) (a.tmps.getD i undef))(h:AI (b.map (hS.ev s)) c):
  ∃l,c l/\((lo.map a.eval=none/\l=0)\/∃k,lo.map a.eval=some (.int k l)):=by
 cases lo with
 |none=>simp[ye] at ht;subst ht;exact⟨0,h,.inl ⟨rfl,rfl⟩⟩
 |some x=>
  simp only[ye,an] at ht;obtain⟨y,hy,rfl⟩:=ht;have hrel:=ep hr hy;simp only[aJ] at h
  generalize hS.ev s y=d at h hrel
  generalize hex:a.eval x=e at hrel
  cases hrel<;>simp only[AI] at h
  case int k n=>exact⟨n,h,.inr ⟨k,by simp[hex]⟩⟩
  all_goals exact h.elim
theorem wV{hi:Option Operand}{hi':Option hS}{len:Nat}{b:Int->Prop}(ht:ye hi=some hi')(hr:∀i:Nat,Rel F C.B w (s.t i) (a.tmps.getD i undef))(h:K2 (hi'.map (hS.ev s)) len b):
  ∃l,b l/\((hi.map a.eval=none/\l=len)\/∃k,hi.map a.eval=some (.int k l)):=by
 cases hi with
 |none=>simp[ye] at ht;subst ht;exact⟨len,h,.inl ⟨rfl,rfl⟩⟩
 |some x=>
  simp only[ye,an] at ht;obtain⟨y,hy,rfl⟩:=ht;have hrel:=ep hr hy;simp only[aJ] at h
  generalize hS.ev s y=c at h hrel
  generalize hex:a.eval x=d at hrel
  cases hrel<;>simp only[K2] at h
  case int k n=>exact⟨n,h,.inr ⟨k,by simp[hex]⟩⟩
  all_goals exact h.elim
theorem DZ{T:TypeId}{x:Operand}{lo hi:Option Operand}{l:BS}{p q:Int}(ho:o.op=.slice T x lo hi none)(hd:P.underlying T=some .string)(hs:fT C F h w)(hx:Rel F C.B w (.str l) (a.eval x))
  (b:(lo.map a.eval=none/\p=0)\/∃k,lo.map a.eval=some (.int k p))(c:(hi.map a.eval=none/\q=l.length)\/∃k,hi.map a.eval=some (.int k q))(h0:0<=p)(h1:p<=q)(h2:q<=l.length)
  (hK:K (.str ((l.take q.toNat).drop p.toNat)) h):o.wp P a w (fQ C F w a o.dst K) Q:=by
 generalize hex:a.eval x=d at hx
 cases hx;refine wp_pure (u:=.string ⟨((l.take q.toNat).drop p.toNat).toArray⟩) hs ?_ (.str _) hK
 generalize a.eval=f at*
 have e:(⟨l.toArray⟩:ByteArray).extract p.toNat q.toNat=⟨((l.take q.toNat).drop p.toNat).toArray⟩:=by
  apply ByteArray.ext;apply Array.ext';simp[dI,fC]
 have hb:=jj (P:=P) (w:=w) (isS:=false) (len:=l.length) (cap:=l.length) b c h0 h1 h2 (ak _);simp[execOp,ho,hex,Sem.run_bind,Sem.run_pure,Instr.sliceAt,run_underlying hd,Instr.slice,tO,hb,e]
theorem D0{T e:TypeId}{x:Operand}{lo hi:Option Operand}{n m k:Nat}{bk:Option Nat}{p q:Int}(ho:o.op=.slice T x lo hi none)(hd:P.underlying T=some (.slice e))(hn:qF P e=some n)(hs:fT C F h w)(hx:Rel F C.B w (.own k bk n m) (a.eval x))
  (d:(lo.map a.eval=none/\p=0)\/∃k,lo.map a.eval=some (.int k p))(f:(hi.map a.eval=none/\q=m)\/∃k,hi.map a.eval=some (.int k q))(h0:0<=p)(h1:p<=q)(h2:q<=m)
  (hK:K (.win k bk n p q) h):o.wp P a w (fQ C F w a o.dst K) Q:=by
 generalize hex:a.eval x=t at hx
 cases hx with
 |ownnil=>
  have hp:p=0:=by omega
  have hq:q=0:=by omega
  subst hp hq;refine wp_pure (u:=.slice none 0 0) hs ?_ (.winemp _ _ _ _ _) hK
  generalize a.eval=i at*
  have hb:=jj (P:=P) (w:=w) (isS:=true) (len:=0) (cap:=0) d f h0 h1 qW (ak _);simp[execOp,ho,hex,Sem.run_bind,Sem.run_pure,Instr.sliceAt,run_underlying hd,Instr.slice,hb,gh hn]
 |own _ b _ _ cap c e fr g hcs j jD=>
  have hb:=jj (P:=P) (w:=w) (isS:=true) (len:=m) (cap:=cap) d f h0 h1 h2 jD
  by_cases hm:cap=p.toNat
  ·have e1:q=p:=by omega
   subst e1;refine wp_pure (u:=.slice (some ⟨b,0,none⟩) 0 0) hs ?_ (.winemp _ _ _ _ _) hK
   generalize a.eval=i at*
   simp[execOp,ho,hex,Sem.run_bind,Sem.run_pure,Instr.sliceAt,run_underlying hd,Instr.slice,hb,gh hn];simp[hm]
  ·refine wp_pure (u:=.slice (some ⟨b,p.toNat*n,none⟩) (q.toNat-p.toNat) (cap-p.toNat)) hs ?_ ?_ hK
   ·generalize a.eval=i at*
    simp[execOp,ho,hex,Sem.run_bind,Sem.run_pure,Instr.sliceAt,run_underlying hd,Instr.slice,hb,gh hn];simp[hm,jN]
   ·have l:q.toNat-p.toNat=(q-p).toNat:=by omega
    rw[l];have r:cap-p.toNat+p.toNat=cap:=by omega
    exact .win _ b _ (cap-p.toNat) p q c e fr g (by rw[r];exact hcs) qW qW h0 h1
theorem D1{T e:TypeId}{x:Operand}{lo hi:Option Operand}{n k:Nat}{bk:Option Nat}{l0 g0 p q:Int}(ho:o.op=.slice T x lo hi none)(hd:P.underlying T=some (.slice e))(hn:qF P e=some n)(hs:fT C F h w)(hx:Rel F C.B w (.win k bk n l0 g0) (a.eval x))
  (f:(lo.map a.eval=none/\p=0)\/∃k,lo.map a.eval=some (.int k p))(d:(hi.map a.eval=none/\q=((g0-l0).toNat:Int))\/∃k,hi.map a.eval=some (.int k q))(h0:0<=p)(h1:p<=q)(h2:q<=((g0-l0).toNat:Int))
  (hK:K (.win k bk n (l0+p) (l0+q)) h):o.wp P a w (fQ C F w a o.dst K) Q:=by
 generalize hex:a.eval x=v at hx
 cases hx with
 |winemp _ _ _ _ ad=>
  have hz:((l0-l0).toNat:Int)=0:=by omega
  rw[hz] at h2 d;have hp:p=0:=by omega
  have hq:q=0:=by omega
  subst hp hq;refine wp_pure (u:=.slice ad 0 0) hs ?_ (.winemp _ _ _ _ _) hK
  generalize a.eval=i at*
  have hb:=jj (P:=P) (w:=w) (isS:=true) (len:=0) (cap:=0) f d h0 h1 qW (ak _);cases ad<;>simp[execOp,ho,hex,Sem.run_bind,Sem.run_pure,Instr.sliceAt,run_underlying hd,Instr.slice,hb,gh hn]
 |win _ b _ cap _ _ c e fr g hcs j jD hl0 l=>
  have hb:=jj (P:=P) (w:=w) (isS:=true) (len:=(g0-l0).toNat) (cap:=cap) f d h0 h1 h2 jD
  by_cases hm:cap=p.toNat
  ·have e1:q=p:=by omega
   subst e1;refine wp_pure (u:=.slice (some ⟨b,l0.toNat*n,none⟩) 0 0) hs ?_ (.winemp _ _ _ _ _) hK
   generalize a.eval=i at*
   simp[execOp,ho,hex,Sem.run_bind,Sem.run_pure,Instr.sliceAt,run_underlying hd,Instr.slice,hb,gh hn];simp[hm]
  ·refine wp_pure (u:=.slice (some ⟨b,l0.toNat*n+p.toNat*n,none⟩) (q.toNat-p.toNat) (cap-p.toNat)) hs ?_ ?_ hK
   ·generalize a.eval=i at*
    simp[execOp,ho,hex,Sem.run_bind,Sem.run_pure,Instr.sliceAt,run_underlying hd,Instr.slice,hb,gh hn];simp[hm,jN]
   ·have m:q.toNat-p.toNat=(l0+q-(l0+p)).toNat:=by omega
    rw[m];have r:(l0+p).toNat=l0.toNat+p.toNat:=by omega
    have t:cap-p.toNat+(l0+p).toNat=cap+l0.toNat:=by omega
    rw[<-bU,<-r];exact .win _ b _ (cap-p.toNat) _ _ c e fr g (by rw[t];exact hcs) qW qW qW qW
theorem FW{T e:TypeId}{x:Operand}{lo hi:Option Operand}{n:Nat}{t:Bool}{rows:List (List V)}{p q:Int}(ho:o.op=.slice T x lo hi none)(hd:P.underlying T=some (.slice e))(hn:qF P e=some n)(hs:fT C F h w)(hx:Rel F C.B w (.sl t n rows) (a.eval x))
  (c:(lo.map a.eval=none/\p=0)\/∃k,lo.map a.eval=some (.int k p))(d:(hi.map a.eval=none/\q=rows.length)\/∃k,hi.map a.eval=some (.int k q))(h0:0<=p)(h1:p<=q)(h2:q<=rows.length)
  (hK:K (.sl t n ((rows.take q.toNat).drop p.toNat)) h):o.wp P a w (fQ C F w a o.dst K) Q:=by
 generalize hex:a.eval x=z at hx
 cases hx with
 |slnil t sz=>
  have hp:p=0:=by simp at h2;omega
  have hq:q=0:=by simp at h2;omega
  subst hp hq;simp only[eW,List.drop_nil] at hK;refine wp_pure (u:=.slice none 0 0) hs ?_ (.slnil _ _) hK
  generalize a.eval=f at*
  have hb:=jj (P:=P) (w:=w) (isS:=true) (len:=0) (cap:=0) c d h0 h1 qW (ak _);simp[execOp,ho,hex,Sem.run_bind,Sem.run_pure,Instr.sliceAt,run_underlying hd,Instr.slice,hb,gh hn]
 |slemp t sz ad cap=>
  have hp:p=0:=by simp at h2;omega
  have hq:q=0:=by simp at h2;omega
  subst hp hq;simp only[eW,List.drop_nil] at hK;refine wp_pure (u:=.slice (some ad) 0 cap) hs ?_ (.slemp _ _ _ _) hK
  generalize a.eval=f at*
  have hb:=jj (P:=P) (w:=w) (isS:=true) (len:=0) (cap:=cap) c d h0 h1 qW (bc _);have g:ad.add 0=ad:=by simp[Addr.add]
  by_cases m:cap=0<;>simp[execOp,ho,hex,Sem.run_bind,Sem.run_pure,Instr.sliceAt,run_underlying hd,Instr.slice,hb,gh hn,g]
 |sl _ _ _ b off cap us hF jD hsz hc hr=>
  have hb:=jj (P:=P) (w:=w) (isS:=true) (len:=rows.length) (cap:=cap) c d h0 h1 h2 jD;have hlen:((rows.take q.toNat).drop p.toNat).length=q.toNat-p.toNat:=by simp;omega
  by_cases hm:cap=p.toNat
  ·refine wp_pure (u:=.slice (some ⟨b,off,none⟩) (q.toNat-p.toNat) (cap-p.toNat)) hs ?_ ?_ hK
   ·generalize a.eval=f at*
    simp[execOp,ho,hex,Sem.run_bind,Sem.run_pure,Instr.sliceAt,run_underlying hd,Instr.slice,hb,gh hn];simp[hm]
   ·have y:(rows.take q.toNat).drop p.toNat=[]:=by apply aB;rw[hlen];omega
    have:=Rel.sl (F:=F) (B:=C.B) (w:=w) t n [] b off (cap-p.toNat) us hF (by simp) (by simp) (by simp) (by simp);rw[y];have e1:q.toNat-p.toNat=0:=by omega
    rw[e1];exact this
  ·refine wp_pure (u:=.slice (some ⟨b,off+p.toNat*n,none⟩) (q.toNat-p.toNat) (cap-p.toNat)) hs ?_ ?_ hK
   ·generalize a.eval=f at*
    simp[execOp,ho,hex,Sem.run_bind,Sem.run_pure,Instr.sliceAt,run_underlying hd,Instr.slice,hb,gh hn];simp[hm,jN]
   ·rw[<-hlen];refine Rel.sl t n _ b (off+p.toNat*n) (cap-p.toNat) (λi j=>us (p.toNat+i) j) hF (by rw[hlen];omega) (λr l=>hsz r (cM (ef l))) (λi j r v hi hj=>?_) (λi j r v hi hj=>?_)
    ·rw[bC,aZ] at hi
     split at hi
     ·have:=hc (p.toNat+i) j r v hi hj;rw[show off+p.toNat*n+(i*n+j)=off+((p.toNat+i)*n+j) by rw[bU];omega];exact this
     ·simp at hi
    ·rw[bC,aZ] at hi
     split at hi
     ·exact hr (p.toNat+i) j r v hi hj
     ·simp at hi
end
section
variable {P:Program} {C:Ctx} {F:Nat->Prop} {w w':World} {a:Act} {s:S} {h:Hp} {K:V->Hp->Prop} {Q:Exit->Act->World->Prop} {o:Oper}
theorem fe.lt{B:Nat->Prop}{ob:Ob}{b:Nat}(h:fe F B w ob)(hb:ob.b=some b):b<w.heap.size:=by
 unfold fe at h;rw[hb] at h;obtain⟨c,cap,hc,_⟩:=h;exact(aA.1 hc).1
theorem fT.Rf(hC:C.Ok)(hs:fT C F h w){k:Nat}{ob:Ob}{b:Nat}(hk:h k=some ob)(hb:ob.b=some b):¬C.B b:=by
 intro hB;have h1:=hC.B b hB
 rcases(hs.live k ob b hk hb).2 with h2|h2
 ·exact h1.2 h2
 ·omega
theorem fT.keep(hC:C.Ok)(hs:fT C F h w){L:Nat->Prop}(he:Ev L w w')(f:∀b,b<w.heap.size->L b->∃k ob,h k=some ob/\ob.b=some b){x:V}{y:Value}(hr:Rel F C.B w x y):Rel F C.B w' x y:=by
 refine Rel.keep he (λ_ _ h=>h) (λ_ _ h=>.inr h) (λb hb c e=>?_) hr (λb c=>?_)
 ·obtain⟨k,ob,hk,d⟩:=f b hb e
  rcases c with h1|h1
  ·exact(hs.live k ob b hk d).1 h1
  ·exact hs.Rf hC hk d h1
 ·rcases c with h1|h1
  ·exact hs.lt b h1
  ·exact bE (hC.B b h1).1 hs.ev.size
theorem fe.keep(hC:C.Ok)(hs:fT C F h w){L:Nat->Prop}(he:Ev L w w')(d:∀b,b<w.heap.size->L b->∃k ob,h k=some ob/\ob.b=some b){ob:Ob}(ho:fe F C.B w ob)(hn:∀b,ob.b=some b->¬L b):fe F C.B w' ob:=by
 unfold fe at ho⊢;cases hb:ob.b with
 |none=>rw[hb] at ho;exact ho
 |some b=>
  rw[hb] at ho;obtain⟨c,cap,hc,h1,h2,h3,h4,h5⟩:=ho;refine⟨c,cap,(he.same b (aA.1 hc).1 (hn b hb)).trans hc,h1,h2,h3,h4,λi j r v hi hj=>?_⟩;obtain⟨u,hu,ho,hr⟩:=h5 i j r v hi hj;exact⟨u,hu,ho,hs.keep hC he d hr⟩
theorem fT.step(hC:C.Ok)(hs:fT C F h w){L:Nat->Prop}(he:Ev L w w'){k:Nat}(f:∀b,b<w.heap.size->L b->∃ob,h k=some ob/\ob.b=some b){o':Ob}(ho:fe F C.B w' o')
  (c:∀b,o'.b=some b->w.heap.size<=b\/∃ob,h k=some ob/\ob.b=some b):fT C F (h.put k o') w':=by
 have g:∀b,b<w.heap.size->L b->∃k ob,h k=some ob/\ob.b=some b:=λb hb hl=>⟨k,f b hb hl⟩;refine⟨λk' ob hk=>?_,λk1 i j l b h1 h2 e1 e=>?_,λk' ob b hk hb=>?_,hs.jE,hs.new,λb hb=>bE (hs.lt b hb) he.size,?_⟩
 ·unfold Hp.put at hk
  split at hk
  ·cases hk;exact ho
  ·refine fe.keep hC hs he g (hs.ob k' ob hk) λb hb hl=>?_;obtain⟨m,h2,e⟩:=f b ((hs.ob k' ob hk).lt hb) hl;have:=hs.inj k' k ob m b hk h2 hb e
   contradiction
 ·unfold Hp.put at h1 h2
  split at h1<;>split at h2
  ·subst_vars;rfl
  ·cases h1
   rcases c b e1 with d|⟨ob,hk,hb⟩
   ·have:=(hs.ob i l h2).lt e;omega
   ·have:=hs.inj k i ob l b hk h2 hb e;omega
  ·cases h2
   rcases c b e with d|⟨ob,hk,hb⟩
   ·have:=(hs.ob k1 j h1).lt e1;omega
   ·have:=hs.inj k1 k j ob b h1 hk e1 hb;omega
  ·exact hs.inj k1 i j l b h1 h2 e1 e
 ·unfold Hp.put at hk
  split at hk
  ·cases hk
   rcases c b hb with d|⟨ob,hk2,hb2⟩
   ·refine⟨λhF=>?_,.inr (aV hs.ev.size d)⟩;have:=hs.lt b hF;omega
   ·exact hs.live k ob b hk2 hb2
  ·exact hs.live k' ob b hk hb
 ·refine Ev.qE hs.ev he λb hb hl=>?_;obtain⟨ob,hk,n⟩:=f b (bE hb hs.ev.size) hl
  rcases(hs.live k ob b hk n).2 with h1|h1
  ·exact h1
  ·omega
theorem jO(hC:C.Ok){u:Value}{v:V}{k:Nat}{o':Ob}{L:Nat->Prop}(hs:fT C F h w)(im:(execOp a.eval o).run P w=.ok (.value u) w')(he:Ev L w w')(d:∀b,b<w.heap.size->L b->∃ob,h k=some ob/\ob.b=some b)
  (hv:Rel F C.B w' v u)(ho:fe F C.B w' o')(c:∀b,o'.b=some b->w.heap.size<=b\/∃ob,h k=some ob/\ob.b=some b)(hK:K v (h.put k o')):
  o.wp P a w (fQ C F w a o.dst K) Q:=
 FJ im ⟨u,v,_,F,rfl,hv,hs.step hC he d ho c,λ_ _ hr=>hs.keep hC he (λb hb hl=>⟨k,d b hb hl⟩) hr,hK⟩
theorem fe.new{B:Nat->Prop}{c:Array Value}{e sz:Nat}{rows:List (List V)}(hc:∀(i j:Nat)(r:List V)(v:V),rows[i]? =some r->r[j]? =some v->∃u,c[i*sz+j]? =some u/\u.oneCell'=true/\Rel F B (w.alloc (.cells c e)) v u)
  (hsz:∀r∈rows,r.length=sz)(jD:c.size=rows.length*sz)(hm:rows.length<=maxLen):fe F B (w.alloc (.cells c e)) ⟨some w.heap.size,e,sz,rows⟩:=
 ⟨c,rows.length,heap_alloc_new w _,jD,hm,ak _,hsz,hc⟩
theorem tP{T:TypeId}{z:List Value}(hz:lF P T=some z):∃v:Value,v.cells.toList=z/\(zeroValue T).run P w=.ok v w:=by
 simp only[lF,an,cx] at hz;obtain⟨v,⟨i,hi,hv⟩,rfl⟩:=hz;exact⟨v,rfl,by simp[zeroValue,typeInfo,program,Sem.run_bind,Sem.run_pure,Sem.run,hi,hv]⟩
theorem tQ{T:TypeId}{v:Value}:(newVar T v).run P w=.ok ⟨w.heap.size,0,none⟩ (w.alloc (.cells v.cells T)):=by
 simp[newVar,newRow,newObj,Sem.run_bind,Sem.run_pure,Sem.run]
theorem D2(hC:C.Ok){T:TypeId}{z:List Value}{k:Nat}(ho:o.op=.alloc T)(hz:lF P T=some z)(hs:fT C F h w)(h1:z.all (λu=>u.oneCell')=true)
  (hK:∀β:Nat,K (.ptr k (some β) z.length 0 0) (h.put k ⟨some β,T,z.length,[z.map ya]⟩)):o.wp P a w (fQ C F w a o.dst K) Q:=by
 obtain⟨v,hv,hr⟩:=tP (w:=w) hz;subst hv;refine jO hC (u:=.pointer (some ⟨w.heap.size,0,none⟩)) (w':=w.alloc (.cells v.cells T)) (L:=λ_=>False) hs ?_ (Ev.alloc _ _ _) (λ_ _ h=>h.elim) ?_ (fe.new (λi j r v' hi hj=>?_) (by simp) (by simp) (by simp[maxLen])) (λb hb=>?_) (hK w.heap.size)
 ·generalize a.eval=c at*
  simp[execOp,ho,Sem.run_bind,Sem.run_pure,Instr.alloc,hr,tQ]
 ·simpa using Rel.ptr (F:=F) (B:=C.B) (w:=w.alloc (.cells v.cells T)) k w.heap.size v.cells.toList.length 0 0
 ·cases i with
  |zero=>
   simp at hi;subst hi;simp only[aw,an] at hj;obtain⟨u,hu,rfl⟩:=hj;refine⟨u,by simpa using hu,?_,qG _ _ _ _⟩;exact(aF.1 h1) u (az hu)
  |succ i=>simp at hi
 ·left;cases hb;exact ak _
theorem o9{B:Nat->Prop}{v:V}{u:Value}{n:Nat}(hr:Rel F B w v u)(hf:v.fits n):u.cells.size=n/\∀(j:Nat)(x:V),v.cells[j]? =some x->∃y,u.cells[j]? =some y/\y.oneCell'=true/\Rel F B w x y:=by
 have one:∀x y,x.one=true->Rel F B w x y->y.oneCell'=true:=by
  intro x y hx hr;cases hr<;>simp[V.one,Value.oneCell'] at hx⊢
  exact hx
 obtain⟨hl,ha⟩:=hf;have single:v.cells=[v]->u.cells= #[u]->u.cells.size=n/\∀(j:Nat)(x:V),v.cells[j]? =some x->∃y,u.cells[j]? =some y/\y.oneCell'=true/\Rel F B w x y:=by
  intro e1 d;rw[e1] at hl ha;refine⟨by rw[d];simpa using hl,λj x hj=>?_⟩;rw[e1] at hj;cases j with
  |zero=>
   simp at hj;subst hj;exact⟨u,by simp[d],one _ _ (by simpa using ha) hr,hr⟩
  |succ j=>simp at hj
 cases hr with
 |agg cs us hsz c=>
  simp only[V.cells] at hl ha⊢;refine⟨by simp only[Value.cells];omega,λj x hj=>?_⟩;have b:j<us.size:=by have:=(aj.1 hj).1;omega
  have:=c j x us[j] hj (by simp[b]);exact⟨us[j],by simp[Value.cells,b],one _ _ (aF.1 ha x (az hj)) this,this⟩
 |raw=>
  cases u<;>first|exact single rfl rfl|(simp[V.cells,V.one,Value.oneCell'] at ha)
 |gC=>simp[V.cells,V.one] at ha
 |mN=>simp[V.cells,V.one] at ha
 |tup=>simp[V.cells,V.one] at ha
 |_=>exact single rfl rfl
theorem Lk(hC:C.Ok){T:TypeId}{x:Operand}{v:V}{n k:Nat}(ho:o.op=.box T x)(hs:fT C F h w)(hx:Rel F C.B w v (a.eval x))(hf:v.fits n)
  (hK:∀β:Nat,K (.ptr k (some β) n 0 0) (h.put k ⟨some β,T,n,[v.cells]⟩)):o.wp P a w (fQ C F w a o.dst K) Q:=by
 obtain⟨h1,h2⟩:=o9 hx hf;refine jO hC (u:=.pointer (some ⟨w.heap.size,0,none⟩)) (w':=w.alloc (.cells (a.eval x).cells T)) (L:=λ_=>False) hs ?_ (Ev.alloc _ _ _) (λ_ _ h=>h.elim) ?_ (fe.new (λi j r v' hi hj=>?_) (by simp[hf.1]) (by simp[h1]) (by simp[maxLen])) (λb hb=>?_) (hK w.heap.size)
 ·generalize a.eval=d at*
  simp[execOp,ho,Sem.run_bind,Sem.run_pure,Instr.box,tQ]
 ·simpa using Rel.ptr (F:=F) (B:=C.B) (w:=w.alloc (.cells (a.eval x).cells T)) k w.heap.size n 0 0
 ·cases i with
  |zero=>
   simp at hi;subst hi;obtain⟨y,hy,c,hr⟩:=h2 j v' hj;exact⟨y,by simpa using hy,c,hs.keep hC (Ev.alloc (λ_=>False) _ _) (λ_ _ h=>h.elim) hr⟩
  |succ i=>simp at hi
 ·left;cases hb;exact ak _
end
theorem pY{α:Type}(l vs:List α)(o m:Nat)(h:o+vs.length<=l.length):(l.take o++vs++l.drop (o+vs.length))[m]? =if m<o then l[m]? else if m<o+vs.length then vs[m-o]? else l[m]? :=by
 have hl:(l.take o).length=o:=by simp;omega
 by_cases h1:m<o
 ·rw[ab h1,aU,bu qW,aZ,ab h1]
 ·rw[aa h1]
  by_cases h2:m<o+vs.length
  ·rw[ab h2,aU,bB qW,bu qW,hl]
  ·rw[aa h2,bB (by simp;omega),bC]
   congr 1
   simp only[ae,hl];omega
section
variable {P:Program} {C:Ctx} {F:Nat->Prop} {w w':World} {a:Act} {s:S} {h:Hp} {K:V->Hp->Prop} {Q:Exit->Act->World->Prop} {o:Oper}
theorem tR(hs:fT C F h w){k sz i:Nat}{b:Option Nat}{d:Ob->List V->Prop}(hr:s9 h k b sz i d):
  ∃ob g c cap,h k=some ob/\ob.b=b/\ob.sz=sz/\i<ob.rows.length/\d ob (ob.rows.getD i [])/\b=some g/\w.heap[g]? =some (.cells c ob.ty (0,0))/\c.size=cap*sz/\cap<=maxLen/\ob.rows.length<=cap/\(ob.rows.getD i []).length=sz/\(∀r∈ob.rows,r.length=sz)/\
   (∀(i j:Nat)(r:List V)(v:V),ob.rows[i]? =some r->r[j]? =some v->∃u,c[i*sz+j]? =some u/\u.oneCell'=true/\Rel F C.B w v u):=by
 unfold s9 at hr;cases hk:h k with
 |none=>rw[hk] at hr;exact hr.elim
 |some ob=>
  rw[hk] at hr;obtain⟨e1,e,hi,hK⟩:=hr;have ho:=hs.ob k ob hk;unfold fe at ho;cases hb:ob.b with
  |none=>rw[hb] at ho;rw[ho] at hi;simp at hi
  |some g=>
   rw[hb] at ho;obtain⟨c,cap,hc,h1,h2,h3,h4,h5⟩:=ho;subst e;refine⟨ob,g,c,cap,rfl,e1,rfl,hi,hK,by rw[<-e1,hb],hc,h1,h2,h3,?_,h4,h5⟩;have hm:ob.rows.getD i []∈ob.rows:=by simp[au,hi]
   exact h4 _ hm
theorem vN{T:TypeId}{ad:Addr}{u:Value}(hg:jR P T=some false)(hc:w.cell? ad=some u):(loadVar T ad).run P w=.ok u w:=by
 simp[loadVar,Sem.run_bind,Sem.run_pure,lz hg,load,Sem.run,hc]
theorem D3{T:TypeId}{ad:Addr}{n:Nat}(hg:jR P T=some true)(hn:qF P T=some n)(hc:∀j,j<n->∃u,w.cell? (ad.add j)=some u):(loadVar T ad).run P w=.ok (.agg ((List.range n).map λj=>(w.cell? (ad.add j)).getD undef).toArray) w:=by
 have:=run_loadCells (P:=P) w ad n (λj=>(w.cell? (ad.add j)).getD undef) (λj hj=>by obtain⟨u,hu⟩:=hc j hj;rw[hu];rfl);simp[loadVar,Sem.run_bind,Sem.run_pure,lz hg,gh hn,this]
theorem tS{T:TypeId}{f:V}{j:Value}{K:V->Prop}(hg:jR P T=some false)(hs:fT C F h w)(hx:Rel F C.B w f j)(hK:nW h f K):
  ∃ad v u,j=.pointer (some ad)/\(loadVar T ad).run P w=.ok u w/\Rel F C.B w v u/\K v:=by
 cases hx with
 |ptr k b sz i off=>
  simp only[nW] at hK;obtain⟨ob,g,c,cap,hk,e1,n,hi,hN,m,hc,_,_,_,hl,_,d⟩:=tR hs hK;cases m;obtain⟨hlt,e⟩:=hN;obtain⟨u,hu,h1,hr⟩:=d i off (ob.rows.getD i []) ((ob.rows.getD i []).getD off .gC) (by simp[au,hi]) (by simp only[au (l:=ob.rows.getD i [])];rw[af hlt];rfl);have hcell:w.cell? ⟨b,i*sz+off,none⟩=some u:=by rw[cell_of_row w b _ c ob.ty (0,0) hc];exact hu
  exact⟨_,_,u,rfl,vN hg hcell,hr,e⟩
 |rp t b off cs us hF hc hr=>
  obtain⟨hlt,e⟩:=hK;have h0:cs[0]? =some (cs.getD 0 .gC):=by rw[au,af hlt];rfl
  have hcell:=(hc 0 _ h0).1;rw[bQ] at hcell;exact⟨_,_,us 0,rfl,vN hg hcell,hr 0 _ h0,e⟩
 |_=>exact hK.elim
theorem tT{T:TypeId}{m:V}{f:Value}{n:Nat}{K:V->Prop}(hg:jR P T=some true)(hn:qF P T=some n)(hs:fT C F h w)(hx:Rel F C.B w m f)(hK:nX h n m K):
  ∃ad v u,f=.pointer (some ad)/\(loadVar T ad).run P w=.ok u w/\Rel F C.B w v u/\K v:=by
 have key:∀(b off:Nat)(cs:List V),f=.pointer (some ⟨b,off,none⟩)->cs.length=n->(∀(j:Nat)(v:V),cs[j]? =some v->∃u,w.cell? ⟨b,off+j,none⟩=some u/\Rel F C.B w v u)->K (.agg cs)->
   ∃ad v u,f=.pointer (some ad)/\(loadVar T ad).run P w=.ok u w/\Rel F C.B w v u/\K v:=by
  intro b off cs hex hl hc hk;have d:∀j,j<n->∃u,w.cell? ((⟨b,off,none⟩:Addr).add j)=some u:=λj hj=>by
   obtain⟨u,hu,_⟩:=hc j cs[j] (by simp[hl,hj]);exact⟨u,by rw[jN];exact hu⟩
  refine⟨_,.agg cs,_,hex,D3 hg hn d,.agg _ _ (by simp[hl]) λi v u hv hu=>?_,hk⟩;obtain⟨u',l,hr⟩:=hc i v hv;have hi:i<n:=by have:=(aj.1 hv).1;omega
  simp[hi,jN,l] at hu;subst hu;exact hr
 cases hx with
 |ptr k b sz i off=>
  simp only[nX] at hK;obtain⟨ob,g,c,cap,hk,e1,q,hi,hN,p,hc,_,_,_,hl,_,d⟩:=tR hs hK;cases p;obtain⟨hlt,e⟩:=hN;refine key b (i*sz+off) _ rfl (by simp only[aE,aP];omega) (λj v hj=>?_) e;rw[aZ] at hj
  split at hj
  ·rw[bC] at hj;obtain⟨u,hu,h1,hr⟩:=d i (off+j) (ob.rows.getD i []) v (by simp[au,hi]) hj;exact⟨u,by rw[cell_of_row w b _ c ob.ty (0,0) hc,show i*sz+off+j=i*sz+(off+j) by omega];exact hu,hr⟩
  ·cases hj
 |rp t b off cs us hF hc hr=>
  obtain⟨hlt,e⟩:=hK;refine key b off _ rfl (by simp;omega) (λj v hj=>?_) e;rw[aZ] at hj
  split at hj
  ·exact⟨_,(hc j v hj).1,hr j v hj⟩
  ·cases hj
 |_=>exact hK.elim
theorem D5{T:TypeId}{x:Operand}{b:V}(ho:o.op=.load T x)(hg:jR P T=some false)(hs:fT C F h w)(hx:Rel F C.B w b (a.eval x))
  (hK:nW h b λv=>K v h):o.wp P a w (fQ C F w a o.dst K) Q:=by
 obtain⟨ad,v,u,hu,hr,hv,hk⟩:=tS hg hs hx hK;refine wp_pure hs ?_ hv hk
 generalize a.eval=c at*
 simp[execOp,ho,Sem.run_bind,Sem.run_pure,hu,Instr.loadAt,Instr.sureAddr,hr]
theorem D6{T:TypeId}{x:Operand}{b:V}{n:Nat}(ho:o.op=.load T x)(hg:jR P T=some true)(hn:qF P T=some n)(hs:fT C F h w)(hx:Rel F C.B w b (a.eval x))
  (hK:nX h n b λv=>K v h):o.wp P a w (fQ C F w a o.dst K) Q:=by
 obtain⟨ad,v,u,hu,hr,hv,hk⟩:=tT hg hn hs hx hK;refine wp_pure hs ?_ hv hk
 generalize a.eval=c at*
 simp[execOp,ho,Sem.run_bind,Sem.run_pure,hu,Instr.loadAt,Instr.sureAddr,hr]
theorem D7(hC:C.Ok){T:TypeId}{x y:Operand}{Z t:V}{n:Nat}(ho:o.op=.store T x y)(hn:qF P T=some n)(hs:fT C F h w)(hx:Rel F C.B w Z (a.eval x))(hy:Rel F C.B w t (a.eval y))
  (hK:tI h n Z t λh=>K .gC h):o.wp P a w (fQ C F w a o.dst K) Q:=by
 generalize hex:a.eval x=ux at hx
 cases hx with
 |ptr k b sz i off=>
  simp only[tI] at hK;obtain⟨ob,g,c,cap,hk,e1,e2,hi,hN,e3,hc,hcs,hm,jD,hl,hrows,e⟩:=tR hs hK;cases e3;obtain⟨hlt,hf,N⟩:=hN;subst e2;obtain⟨hz,D⟩:=o9 hy hf;have p:t.cells.length=n:=hf.1;have hmul:(i+1)*ob.sz<=cap*ob.sz:=bD _ qW;have hbound:i*ob.sz+off+n<=c.size:=by rw[hcs];rw[bU] at hmul;omega
  have E:=run_storeCells_at P b (i*ob.sz+off) ob.ty (a.eval y).cells.toList 0 c w hc (by simp[hz];exact hbound) (λu hu=>by
   obtain⟨j,hj⟩:=List.getElem?_of_mem hu;rw[cl] at hj;have O:j<n:=by have:=(aA.1 hj).1;omega
   obtain⟨y',G,h1,_⟩:=D j t.cells[j] (by simp[p,O]);rw[hj] at G;cases G;exact h1)
  simp only[bQ] at E;have hlen:(a.eval y).cells.toList.length=n:=by simpa using hz
  have f:((c.toList.take (i*ob.sz+off)++(a.eval y).cells.toList++c.toList.drop (i*ob.sz+off+(a.eval y).cells.toList.length)).toArray).size=c.size:=by
   simp only[bH,ae,aE,aP,bG,hz];omega
  have z:Ev (λx=>x=b) w (w.setRow b (c.toList.take (i*ob.sz+off)++(a.eval y).cells.toList++c.toList.drop (i*ob.sz+off+(a.eval y).cells.toList.length)).toArray):=Ev.setRow rfl hc f;have hL:∀x,x<w.heap.size->x=b->∃ob,h k=some ob/\ob.b=some x:=λx _ hx=>⟨ob,hk,by rw[e1,hx]⟩;have H:(storeVar T ⟨b,i*ob.sz+off,none⟩ (a.eval y)).run P w=.ok () (w.setRow b (c.toList.take (i*ob.sz+off)++(a.eval y).cells.toList++c.toList.drop (i*ob.sz+off+(a.eval y).cells.toList.length)).toArray):=by
   simp only[storeVar,Sem.run_bind,gh hn,Result.andThen_ok,hz,ne_eq,not_true,↓reduceIte];exact E
  have im:(execOp a.eval o).run P w=.ok .skip (w.setRow b (c.toList.take (i*ob.sz+off)++(a.eval y).cells.toList++c.toList.drop (i*ob.sz+off+(a.eval y).cells.toList.length)).toArray):=by
   unfold execOp;rw[ho];simp only[Instr.storeAt,Instr.sureAddr,Sem.run_bind,Sem.run_pure,Result.andThen_ok,hex,H]
  generalize R:(c.toList.take (i*ob.sz+off)++(a.eval y).cells.toList++c.toList.drop (i*ob.sz+off+(a.eval y).cells.toList.length)).toArray=c' at im z f
  have q:∀m,c'[m]? =if m<i*ob.sz+off then c[m]? else if m<i*ob.sz+off+n then(a.eval y).cells[m-(i*ob.sz+off)]? else c[m]? :=by
   intro m;subst R;have:=pY c.toList (a.eval y).cells.toList (i*ob.sz+off) m (by rw[hlen,bG];exact hbound);rw[hlen] at this;simpa[hlen] using this
  have d:=λ{x:V}{y:Value}=>hs.keep hC (x:=x) (y:=y) z (λx hx he=>⟨k,hL x hx he⟩);have U:fe F C.B (w.setRow b c') {ob with rows:=ob.rows.set i (lE (ob.rows.getD i []) off t.cells)}:=by
   unfold fe;simp only[e1];have I:(lE (ob.rows.getD i []) off t.cells).length=ob.sz:=by
    simp only[lE,ae,aE,aP,p];omega
   refine⟨c',cap,setRow_heap w b c c' ob.ty (0,0) hc,by rw[f,hcs],hm,by simpa using jD,λr hr=>?_,λM j r v hi' hj=>?_⟩
   ·rcases eS hr with hr|rfl
    ·exact hrows r hr
    ·exact I
   ·rw[dJ] at hi'
    by_cases A:i=M
    ·subst A;simp only[↓reduceIte,hi,aC] at hi';subst hi';have W:j<ob.sz:=by have:=(aj.1 hj).1;omega
     have X:=pY (ob.rows.getD i []) t.cells off j (by rw[p];exact hlt);unfold lE at hj;rw[X,p] at hj;rw[q]
     by_cases h1:j<off
     ·rw[ab h1] at hj;rw[ab qW];obtain⟨u,hu,l,hr⟩:=e i j _ v (by simp[au,hi]) hj;exact⟨u,hu,l,d hr⟩
     ·rw[aa h1] at hj
      by_cases h2:j<off+n
      ·rw[ab h2] at hj;rw[aa qW,ab qW,show i*ob.sz+j-(i*ob.sz+off)=j-off by omega];obtain⟨u,hu,l,hr⟩:=D (j-off) v hj;exact⟨u,hu,l,d hr⟩
      ·rw[aa h2] at hj;rw[aa qW,aa qW];obtain⟨u,hu,l,hr⟩:=e i j _ v (by simp[au,hi]) hj;exact⟨u,hu,l,d hr⟩
    ·simp only[A,↓reduceIte] at hi';have W:j<ob.sz:=by
      have h1:=(aj.1 hj).1;have:=hrows r (az hi');omega
     obtain⟨u,hu,l,hr⟩:=e M j r v hi' hj;refine⟨u,?_,l,d hr⟩;rw[q]
     rcases Nat.lt_or_gt_of_ne A with J|L
     ·have pR:(i+1)*ob.sz<=M*ob.sz:=bD _ J;rw[bU] at pR;rw[aa qW,aa qW];exact hu
     ·have pR:(M+1)*ob.sz<=i*ob.sz:=bD _ L;rw[bU] at pR;rw[ab qW];exact hu
  unfold Oper.wp;rw[im];exact⟨undef,.gC,_,F,rfl,.gC _,hs.step hC z hL U (λb' Y=>.inr ⟨ob,hk,Y⟩),λ_ _ hr=>d hr,N⟩
 |_=>exact hK.elim
end
end Go.Proofs.YtajdadcdcpnedaaGreatDoor.AM
