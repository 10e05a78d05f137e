/-
  Part 8 of what the law TopDesk reaches: the plain machine, contracts of the functions and plain laws; each lemma says its own condition.
-/
import Derived.WalkKit
import Derived.Laws.BitsAllLaws
import Derived.Test.YtajdadcdcpnedaaGreatDoorRows
import Derived.Test.YtajdadcdcpnedaaGreatDoorTopDesk7
import Derived.WalkSpells
import Derived.WalkLawsBesides
import Derived.Lib.Hide
import Derived.Laws.ResultCell
import Derived.Deep.LoopGhost
import Derived.Deep.WholeRow
import Derived.Test.YtajdadcdcpnedaaGreatDoorTopDesk5
import Derived.Test.YtajdadcdcpnedaaGreatDoorTopDesk4
import Derived.Test.YtajdadcdcpnedaaGreatDoorTopDesk6
set_option linter.unusedVariables false
set_option linter.unusedSimpArgs false
namespace Go.Proofs.YtajdadcdcpnedaaGreatDoor
theorem PX(x y z:BitVec 32):x^^^(y^^^z)=y^^^(x^^^z):=by rw[<-dp,BitVec.xor_comm x y,dp]
def vB(x:BitVec 32):BitVec 32:=(x>>>1)^^^(bif x.getLsbD 0 then 0x82f63b78#32 else 0#32)
def pL:Nat->BitVec 32->BitVec 32
 |0,x=>x
 |n+1,x=>vB (pL n x)
theorem Hm(x y:BitVec 32):vB (x^^^y)=vB x^^^vB y:=by
 unfold vB;rw[dX,BitVec.getLsbD_xor];cases x.getLsbD 0<;>cases y.getLsbD 0
 ·simp
 ·simp only[Bool.false_bne,cond_true,fH,c7,dp]
 ·simp only[Bool.true_bne,Bool.not_false,cond_true,fH,c7,dp];rw[BitVec.xor_comm (y>>>1)]
 ·simp only[Bool.true_bne,Bool.not_true,cond_true,fH,c7,dp];rw[PX _ (y>>>1),BitVec.xor_self,c7]
theorem Hn(n:Nat)(x y:BitVec 32):pL n (x^^^y)=pL n x^^^pL n y:=by
 induction n with
 |zero=>rfl
 |succ n ih=>simp only[pL];rw[ih,Hm]
theorem EA(n:Nat)(z:BitVec 32)(h:∀i,i<n->z.getLsbD i=false):pL n z=z>>>n:=by
 induction n with
 |zero=>simp[pL]
 |succ n ih=>
  simp only[pL];rw[ih (λi hi=>h i qW)];unfold vB;have h0:(z>>>n).getLsbD 0=false:=by
   rw[eJ];exact h n qW
  rw[h0];simp only[fH,c7];rw[<-BitVec.shiftRight_add]
def kS(x:BitVec 32):BitVec 32:=x&&&255#32
theorem Bo(y:BitVec 32):pL 8 y=(y>>>8)^^^pL 8 (kS y):=by
 have e:y=(y&&& ~~~255#32)^^^kS y:=by
  unfold kS;apply fh;intro i hi;simp only[BitVec.getLsbD_xor,eK,eL,hi,decide_true,Bool.true_and];cases y.getLsbD i<;>cases(255#32).getLsbD i<;>rfl
 conv=>lhs;rw[e]
 rw[Hn,EA]
 ·congr 1
  apply fh;intro i hi;simp only[eJ,eK,eL];have:(255#32).getLsbD (8+i)=false:=by
   rw[BitVec.getLsbD_ofNat];simp only[Bool.and_eq_false_iff]
   right
   exact Nat.testBit_lt_two_pow (bE (show 255<2^8 by decide) (cO qD qW))
  rw[this]
  by_cases h8:8+i<32
  ·simp[h8]
  ·rw[BitVec.getLsbD_of_ge y _ qW];simp
 ·intro i hi;have:(255#32).getLsbD i=true:=by
   match i,hi with
   |0,_|1,_|2,_|3,_|4,_|5,_|6,_|7,_=>decide
  rw[eK,eL,this];simp
def lS(c:UInt8):BitVec 32:=BitVec.ofNat 32 c.toNat
theorem xy(c:UInt8):lS c>>>8=0#32:=by
 apply BitVec.eq_of_toNat_eq;have:=c.toNat_lt;simp[lS,dq];omega
def pr(x:BitVec 32)(c:UInt8):BitVec 32:=pL 8 (x^^^lS c)
theorem PY(x:BitVec 32)(c:UInt8):(x>>>8)^^^pL 8 (kS (x^^^lS c))=pr x c:=by
 unfold pr;rw[Bo (x^^^lS c),dX,xy,c7]
def Ho(l:BS):BitVec 32:=l.foldl pr 0xffffffff#32
theorem EB(l:BS)(c:UInt8):Ho (l++[c])=pr (Ho l) c:=by simp[Ho]
def ll(l:BS):Nat:=(~~~Ho l).toNat
theorem xz(x y:BitVec 32):bits .xor .u32 (x.toNat:Int) (y.toNat:Int)=((x^^^y).toNat:Int):=by
 rw[u32_xor_nat _ _ x.isLt y.isLt,BitVec.toNat_xor]
theorem Bp(x y:BitVec 32):bits .and .u32 (x.toNat:Int) (y.toNat:Int)=((x&&&y).toNat:Int):=by
 rw[u32_and_nat _ _ x.isLt y.isLt,fi]
theorem PZ(y:BitVec 32):(y.toNat:Int)/(2:Int)=((y>>>1).toNat:Int):=by
 rw[eZ,dq];omega
theorem RF(x:BitVec 32):bits .xor .u32 IntKind.u32.max (x.toNat:Int)=((~~~x).toNat:Int):=by
 have h:=xz (BitVec.allOnes 32) x;rw[BitVec.allOnes_xor] at h;exact h
def xq(j:Nat):Value:=.int .u32 ((pL 8 (BitVec.ofNat 32 j)).toNat:Int)
def fO(i:Nat):Array Value:=Array.ofFn (n:=256) (λj=>if j.val<i then xq j.val else .int .u32 0)
theorem iW(i:Nat):(fO i).size=256:=by simp[fO]
theorem rf:fO 0=Array.replicate 256 (.int .u32 0):=by
 apply Array.ext
 ·simp[fO]
 ·intro j h1 h2;simp[fO]
theorem xA(i:Nat)(v:Value)(hv:v=xq i):(fO i).setIfInBounds i v=fO (i+1):=by
 subst hv;apply Array.ext
 ·simp[fO]
 ·intro j h1 h2;rw[Array.getElem_setIfInBounds]
  ·simp only[fO,eN]
   by_cases e:i=j
   ·subst e;simp
   ·rw[aa e]
    by_cases hj:j<i
    ·rw[ab hj,ab qW]
    ·rw[aa hj,aa qW]
  ·simpa using h1
theorem vC(i:Nat)(h:i<256):(fO i)[i]? =some (.int .u32 0):=by
 rw[aT (by rw[iW];exact h)];simp[fO]
theorem rh(i:Nat):(fO i).all (·.oneCell')=true:=by
 rw[Array.all_eq_true];intro j hj;simp only[fO,eN]
 split<;>rfl
theorem sO(j:Nat)(h:j<256):(fO 256)[j]? =some (xq j):=by
 rw[aT (by rw[iW];exact h)];simp only[fO,eN];rw[ab h]
theorem EC(X:BitVec 32):bits .xor .u32 ((X.toNat:Int)/(2:Int)) (bits .and .u32 (-bits .and .u32 (X.toNat:Int) 1%4294967296) 2197175160)=((vB X).toNat:Int):=by
 have h1:=Bp X 1#32;rw[show(((1#32).toNat:Nat):Int)=1 by rfl] at h1;have e:(X&&&1#32).toNat=X.toNat%2:=by
  rw[fi];exact Nat.and_one_is_mod _
 rw[e] at h1;rw[h1,PZ];unfold vB;have c:X.getLsbD 0=decide (X.toNat%2=1):=by simp[BitVec.getLsbD,Nat.testBit_zero]
 rw[c]
 rcases Nat.mod_two_eq_zero_or_one X.toNat with h|h
 ·rw[h];have a:=Bp 0#32 0x82f63b78#32;have b:=xz (X>>>1) (0#32&&&0x82f63b78#32);rw[<-a] at b;exact b
 ·rw[h];have a:=Bp 0xffffffff#32 0x82f63b78#32;have b:=xz (X>>>1) (0xffffffff#32&&&0x82f63b78#32);rw[<-a] at b;exact b
theorem Hq(x:BitVec 32)(c:UInt8):bits .xor .u8 ((x.toNat:Int)%256) (c.toNat:Int)=(((kS (x^^^lS c)).toNat:Nat):Int)/\(kS (x^^^lS c)).toNat<256:=by
 have hc:=c.toNat_lt;have e:(kS (x^^^lS c)).toNat=(x.toNat%256)^^^c.toNat:=by
  unfold kS lS;rw[fi,BitVec.toNat_xor,dB,cT (show c.toNat<2^32 by omega)];have:(255#32).toNat=2^8-1:=by decide
  rw[this,Nat.and_two_pow_sub_one_eq_mod,Nat.xor_mod_two_pow];have h2:c.toNat%2^8=c.toNat:=cT qW;rw[h2]
 have hlt:(x.toNat%256)^^^c.toNat<256:=Nat.xor_lt_two_pow (n:=8) qW qW;refine⟨?_,by rw[e];exact hlt⟩;have h1:((x.toNat:Int)%256)=((x.toNat%256:Nat):Int):=by omega
 rw[h1,u8_xor_nat _ _ qW qW,e]
theorem Hr(x:BitVec 32)(c:UInt8):bits .xor .u32 ((x.toNat:Int)/(256:Int)) ((pL 8 (BitVec.ofNat 32 (kS (x^^^lS c)).toNat)).toNat:Int)=((pr x c).toNat:Int):=by
 rw[BitVec.ofNat_toNat,BitVec.setWidth_eq];have h:(x.toNat:Int)/(256:Int)=((x>>>8).toNat:Int):=by
  rw[eZ,dq];omega
 rw[h,xz,PY]
open Go.RowKit
theorem Tryz.uz:(Tryz.prog.info? 216).map (λi=>(i.zero,i.size))=some (some (.agg (Array.replicate 256 (.int .u32 0))),256):=by kernel_rfl
theorem mT{P:Program}{ops:Array Oper}{rest:List Oper}{op:Oper}{a:Act}{Q:Exit->Act->World->Prop}(b:op.guard=none)(ty:TypeId)(x y:Operand)(ho:op.op=.store ty x y)
  (w:World)(c c':Array Value)(hx:a.eval x=.pointer (some ⟨w.heap.size,0,none⟩))(hy:a.eval y=.agg c')(hi:(P.info? ty).map (·.size)=some c'.size)(hs:c.size=c'.size)(h1:c'.all (·.oneCell')=true)
  (h:wpList P ops Q rest (a.put op.dst undef) (w.alloc (.cells c' ty))):wpList P ops Q (op::rest) a (w.alloc (.cells c ty)):=
 wpList_plain b λK hK=>by
  unfold Oper.wp execOp;simp only[ho,hx,hy,run_storeAt_new w ty c c' hi hs h1,Sem.run_bind,Sem.run_pure,Result.andThen_ok];exact hK _ _ h
set_option maxRecDepth 1000000 in
set_option maxHeartbeats 2000000 in
theorem ED(w:World):
  Calls Tryz.prog 191 #[] w λe w'=>e=.returned (.agg (fO 256))/\Below w.heap.size w w':=by
 obtain⟨hz,hi⟩:=zero_of_info Tryz.uz
 go_enter Tryz.func191,Tryz.ntmps191
 go_wp2
 rw[<-rf]
 go_loopg [3] 256 (λg s3 wx=>∃i:Nat,i+g=256/\s3=.int .i64 i/\wx=w.alloc (.cells (fO i) 216))
 case atStart=>exact⟨0,qW,rfl,rfl⟩
 case round=>
  obtain⟨i,V7,rfl,rfl⟩:=hrel;cases gk with
  |zero=>
   have V8:¬((i:Int)<256):=by omega
   obtain rfl:256=i:=by omega
   have hsz:(Tryz.prog.info? 216).map (·.size)=some (fO 256).size:=by rw[iW];exact hi
   go_wp2_with (first
    |(refine wpList_load_row rfl 216 (.tmp 0) rfl w.heap.size rfl 216 (fO 256) (0,0) _ (heap_alloc_last w _) Tryz.underlying216 rfl hsz ?_)
    |(refine mT rfl 216 (.tmp 0) (.tmp 22) rfl w (fO 256) (fO 256) rfl rfl hsz rfl (rh _) ?_))
   refine bodyPost_ret (v:=.agg (fO 256)) (results_cell_row rfl _ _ w.heap.size 216 (fO 256) (0,0) _ rfl (heap_alloc_last w _) Tryz.underlying216 rfl hsz) rfl ⟨rfl,(Below.refl _ _).alloc (ak _) _⟩
  |succ g=>
   have hi:i<256:=by omega
   have hi2:(i:Int)<256:=by omega
   have HI:Hid (i+1+g=256):=by show _=_;omega
   clear V7
   go_wp2
   go_loopg [2,8] 8 (λg x k wx=>∃m:Nat,m+g=8/\k=.int .i64 m/\wx=w.alloc (.cells (fO i) 216)/\∃X:BitVec 32,x=.int .u32 (X.toNat:Int)/\Hid (X=pL m (BitVec.ofNat 32 i)))
   case atStart=>exact⟨0,qW,rfl,rfl,BitVec.ofNat 32 i,ay _ (by rw[dB,cT qW]),rfl⟩
   case round=>
    obtain⟨m,hm,rfl,rfl,X,rfl,HX⟩:=hrel;cases gk with
    |zero=>
     have H8:Hid (m=8):=by show _=_;omega
     have V9:¬((m:Int)<8):=by omega
     clear hm;have hcell:(fO i)[i]? =some (.int .u32 0):=vC i hi;have HV:=Lib.hid (xA i (.int .u32 (X.toNat:Int)) (by show _=Value.int _ _;rw[HX.out,H8.out]))
     go_wp2
     go_roundg g
     case measure=>omega
     case rel=>exact⟨i+1,by have:=HI.out;omega,by go_num,by rw[HV.out]⟩
    |succ g2=>
     have V9:m<8:=by omega
     have Wa:(m:Int)<8:=by omega
     have H8:Hid (m+1+g2=8):=by show _=_;omega
     clear hm;have HW:=Lib.hid (EC X)
     go_wp2
     go_roundg g2
     case measure=>omega
     case rel=>exact⟨m+1,by have:=H8.out;omega,by go_num,rfl,vB X,ay _ HW.out,by show _=vB _;rw[HX.out]⟩
set_option maxRecDepth 1000000 in
set_option maxHeartbeats 2000000 in
theorem EE(s:ByteArray)(w:World)(hs:s.size<=maxLen):
  Calls Tryz.prog 136 #[.string s] w λe w'=>e=.returned (.int .u32 (ll s.data.toList))/\Below w.heap.size w w':=by
 unfold maxLen at hs;obtain⟨hz,hi⟩:=zero_of_info Tryz.uz;have hsz:(Tryz.prog.info? 216).map (·.size)=some (fO 256).size:=by rw[iW];exact hi
 have hs0:(fO 0).size=(fO 256).size:=by rw[iW,iW]
 have HI:=Lib.hid hi;have Wb:=Lib.hid hsz;have Wc:=Lib.hid hs0;clear hi hsz hs0
 go_enter Tryz.func136,Tryz.ntmps136
 go_wp2_with fail
 refine(ED _).mono ?_;rintro e w1 ⟨rfl,hb1⟩;rw[<-rf] at hz
 go_wp2_with (refine mT rfl 216 (.tmp 3) (.tmp 6) rfl w1 (fO 0) (fO 256) rfl rfl Wb.out Wc.out (rh _) ?_)
 have hcell:∀n,n<256->(w1.alloc (.cells (fO 256) 216)).cell? ⟨w1.heap.size,n,none⟩=some (xq n):=λn hn=>by
  rw[World.cell?_alloc_new];exact sO n hn
 have HC:=Lib.hid hcell;clear hcell
 go_loop [4,9] (λh i=>∃k:Nat,k<=s.size/\i=.int .i64 k/\∃x:BitVec 32,h=.int .u32 (x.toNat:Int)/\Hid (x=Ho (s.data.toList.take k))) (λ_ i=>s.size-(intOf i).toNat)
 case atStart=>exact⟨0,bc _,rfl,0xffffffff#32,rfl,rfl⟩
 case round=>
  obtain⟨k,hk,rfl,x,rfl,HX⟩:=hrel
  by_cases hlt:k<s.size
  ·have RC:s[k].toNat<256:=s[k].toNat_lt;obtain⟨hw,hn⟩:=Hq x s[k];have HT:=Lib.hid (Hr x s[k]);have hc:=HC.out _ hn
   generalize(kS (x^^^lS s[k])).toNat=n at hw hn hc HT
   have ht:=sO n hn;unfold xq at hc ht;clear HC
   generalize pL 8 (BitVec.ofNat 32 n)=T at hc ht HT
   go_wp2
   go_round
   case rel=>exact⟨k+1,qW,by go_num,pr x s[k],ay _ HT.out,by show _=_;rw[kJ s k hlt,EB,HX.out]⟩
   case measure=>simp[intOf];omega
  ·go_wp2
   go_ret
   exact⟨L7 (by rw[RF,HX.out,bT (by simp;omega)];rfl),(hb1.alloc hb1.size _)⟩
end Go.Proofs.YtajdadcdcpnedaaGreatDoor
namespace Go.Proofs.YtajdadcdcpnedaaGreatDoor.AM
open Go Go.RowKit
set_option maxRecDepth 100000
set_option maxHeartbeats 2000000
def nP(n:Int):UInt8:=UInt8.ofNat (n%256).toNat
theorem y5(n:Int):IntKind.u8.wrap n=((nP n).toNat:Int):=by
 have h1:IntKind.u8.wrap n=n%256:=rfl;rw[h1,nP,cK];omega
theorem Me(n:Int):nP (n%256)=nP n:=by unfold nP;rw[Int.emod_emod_of_dvd n (Int.dvd_refl 256)]
def kZ(c:Int):BS:=[nP c,nP (c/256),nP (c/65536),nP (c/16777216)]
section
variable {P:Prim} (hP:P=cp)
include hP
theorem RG(a b c:Int):P.wZ [[.int .u8 (P.wrap .u8 a)],[.int .u8 (P.wrap .u8 b)],[.int .u8 (P.wrap .u8 c)]] [nP a,nP b,nP c]:=by
 subst hP;simp[cp,y5]
theorem RH(a b c d:Int):P.wZ [[.int .u8 (P.wrap .u8 a)],[.int .u8 (P.wrap .u8 b)],[.int .u8 (P.wrap .u8 c)],[.int .u8 (P.wrap .u8 d)]] [nP a,nP b,nP c,nP d]:=by
 subst hP;simp[cp,y5]
theorem oC(rows:List (List V))(n:Nat)(h:rows.length=n):P.rW rows n:=by subst hP;exact h
theorem RI(c:Int):P.shr c 8=c/256:=by subst hP;rfl
theorem RJ(c:Int):P.shr c 16=c/65536:=by subst hP;rfl
theorem RL(c:Int):P.shr c 24=c/16777216:=by subst hP;rfl
theorem Bq:P.bits .u32=32:=by subst hP;rfl
theorem P0:P.bits .i64=64:=by subst hP;rfl
theorem gv(a b:BS):P.iE a b=a++b:=by subst hP;rfl
theorem TN{n:Int}(h:0<=n/\n<=255):P.wrap .i64 n=n:=by
 subst hP;show IntKind.i64.wrap n=n;exact wR (by have:IntKind.i64.min= -9223372036854775808:=rfl;omega) (by have:IntKind.i64.max=9223372036854775807:=rfl;omega)
theorem RM(c:Int):P.shl c 8=c*256:=by subst hP;rfl
theorem TO(b c:UInt8):P.Lr .i64 (((b.toNat:Nat):Int)*256) ((c.toNat:Nat):Int)=256*((b.toNat:Nat):Int)+((c.toNat:Nat):Int):=by
 subst hP;have h1:=b.toNat_lt;have h2:=c.toNat_lt;show IntKind.i64.wrap (((BitVec.ofInt 64 (((b.toNat:Nat):Int)*256)|||BitVec.ofInt 64 ((c.toNat:Nat):Int)).toNat:Nat):Int)=_
 have e1:BitVec.ofInt 64 (((b.toNat:Nat):Int)*256)=BitVec.ofNat 64 (b.toNat*256):=by
  rw[show((b.toNat:Nat):Int)*256=((b.toNat*256:Nat):Int) by push_cast;rfl];exact BitVec.ofInt_natCast 64 _
 have a:BitVec.ofInt 64 ((c.toNat:Nat):Int)=BitVec.ofNat 64 c.toNat:=BitVec.ofInt_natCast 64 _;rw[e1,a,BitVec.toNat_or,dB,dB,cT qW,cT qW];have d:b.toNat*256|||c.toNat=b.toNat*256+c.toNat:=by
  have:=Nat.shiftLeft_add_eq_or_of_lt (i:=8) (b:=c.toNat) qW b.toNat;rw[Nat.shiftLeft_eq] at this;exact this.symm
 rw[d,wR (by have:IntKind.i64.min= -9223372036854775808:=rfl;omega) (by have:IntKind.i64.max=9223372036854775807:=rfl;omega)];omega
theorem P1(c:Int):P.wZ [[.int .u8 (P.wrap .u8 c)],[.int .u8 (P.wrap .u8 (P.shr c 8))],[.int .u8 (P.wrap .u8 (P.shr c 16))],[.int .u8 (P.wrap .u8 (P.shr c 24))]] (kZ c):=by
 have h:=RH hP c (P.shr c 8) (P.shr c 16) (P.shr c 24);have e:[nP c,nP (P.shr c 8),nP (P.shr c 16),nP (P.shr c 24)]=kZ c:=by rw[RI hP,RJ hP,RL hP];rfl
 rwa[e] at h
end
theorem Hs(s:BS)(hs:s.length<=maxLen):Spec Tryz.prog 136 [.str s] Hp.emp (Is (.int .u32 (ll s))):=
 jJ (us0:= #[.string ⟨s.toArray⟩]) ⟨Tryz.f136,Tryz.func136,by decide+kernel,aS.1 (by decide+kernel)⟩
  (λF B w us hl hr=>sa (f:=λ_=>True) hl hr λu h=>xw h) (u0:=.int .u32 (ll s)) (λF B w=>.int _ _)
  (λw=>by simpa using EE ⟨s.toArray⟩ w (by simpa[ByteArray.size] using hs))
def jb(k:Int)(b:BS):BS:=[nP k,nP ((b.length:Int)/256),nP (b.length:Int)]++b
def sc(k:Int)(b:BS):BS:=jb k b++kZ (ll (jb k b))
def jz(k:Int)(b:BS):BS×Int:=if k<1\/255<k then([],1) else if 4000<b.length then([],2) else(sc k b,0)
def oD(s:BS):Nat:=256*(s.getD 1 0).toNat+(s.getD 2 0).toNat
def gl(s:BS):Frame×Int×Int:=if s.length<7 then(⟨0,[]⟩,0,5)
 else if(s.getD 0 0).toNat=0\/4000<oD s then(⟨0,[]⟩,0,3)
 else if s.length<oD s+7 then(⟨0,[]⟩,0,5)
 else if(s.take (oD s+7)).drop (oD s+3)≠kZ (ll (s.take (oD s+3))) then(⟨0,[]⟩,0,6)
 else(⟨(s.getD 0 0).toNat,(s.take (oD s+3)).drop 3⟩,(oD s:Int)+7,0)
def Cz:AC:=qr [qo 2 (.mov (.c qe))] (qr [qm 3 0,qo 4 (.conv .u8 (.t 3)),qm 5 0,qo 6 (.bin .shr (.t 5) (.c (.int .u64 8))),qo 7 (.conv .u8 (.t 6)),qm 8 0,qo 9 (.bin .shr (.t 8) (.c (.int .u64 16))),qo 10 (.conv .u8 (.t 9)),qm 11 0,qo 12 (.bin .shr (.t 11) (.c (.int .u64 24))),qo 13 (.conv .u8 (.t 12)),qo 14 (.bslice 5 1 [.t 4,.t 7,.t 10,.t 13]),qo 15 (.convbs (.t 14)),qm 2 15] .ret)
theorem Mf:fF Tryz.prog 135 Tryz.f135 Cz [.t 2] 1 dS:=⟨Tryz.func135,by decide+kernel,by kernel_rfl,by kernel_rfl,by decide+kernel⟩
theorem Mg(P:Prim)(hP:P=cp)(T d:cm)(c:Int)
  (R:S->Prop)(a:∀b s' x,x=kZ c->cd b s'->ia [.t 2] [.str x] s'->R b):gE P T d Cz (S0 [.int .u32 c] Hp.emp) R (λ_ _=>False) R:=by
 have a1:P.fK 0 8:=iJ hP qD;have a2:P.fK 0 16:=iJ hP qD;have a3:P.fK 0 24:=iJ hP qD;have b1:P.iq 8 (P.bits .u32):=lk hP (by rw[Bq hP];decide);have b2:P.iq 16 (P.bits .u32):=lk hP (by rw[Bq hP];decide);have b3:P.iq 24 (P.bits .u32):=lk hP (by rw[Bq hP];decide);have f1:=P1 hP c
 generalize kZ c=L at f1 a
 cbv
 repeat' first|(refine And.intro (by assumption) ?_;cbv)|(intro β;cbv)
 refine⟨oC hP _ _ rfl,_,f1,?_⟩;cbv;exact a _ _ _ rfl (cd.refl _) rfl
theorem CA(c:Int):Spec Tryz.prog 135 [.int .u32 c] Hp.emp (Is (.str (kZ c))):=
 ed hW Mf [.str (kZ c)] (.str _) λR a=>Mg cp rfl _ _ c R λs s' x h he hr=>by subst h;exact a s s' he hr
def CB:AC:=qr [qo 1 (.box 115 2 (.t 0)),qo 2 (.mov (.c qe)),qz 3 0] (qq (qr [qf 6 0 1,ql 7 6,qc 8 .lss 7 1,qm 9 8,qg 10 9 false (.faddr 0 (.t 1)),qg 11 9 false (.load1 (.t 10)),qg 12 9 false (.bin .gtr (.t 11) (qk 255)),qo 13 (.pick (.t 9) (.c (.bool true)) (.t 12))] (qu 13 (qr [qo 2 (.mov (.c qe)),qz 3 1] .ret) .skip)) (qq (qr [qf 14 1 1,ql 15 14,qo 16 (.len true (.t 15)),qc 17 .gtr 16 4000] (qu 17 (qr [qo 2 (.mov (.c qe)),qz 3 2] .ret) .skip)) (qr [qf 18 1 1,ql 19 18,qo 20 (.len true (.t 19)),qm 4 20] (qr [qf 21 0 1,ql 22 21,qo 23 (.conv .u8 (.t 22)),qm 24 4,qo 25 (.bin .shr (.t 24) (.c (.int .u64 8))),qo 26 (.conv .u8 (.t 25)),qm 27 4,qo 28 (.conv .u8 (.t 27)),qo 29 (.bslice 5 1 [.t 23,.t 26,.t 28]),qo 30 (.convbs (.t 29)),qf 31 1 1,ql 32 31,qb 33 .add 30 32,qm 5 33] (qr [qm 34 5,qm 35 5,qa 36 136 [.t 35],qa 37 135 [.t 36],qb 38 .add 34 37,qm 2 38,qz 3 0] .ret)))))
theorem Mh:fF Tryz.prog 79 Tryz.f79 CB [.t 2,.t 3] 1 dS:=⟨Tryz.func79,by decide+kernel,by kernel_rfl,by kernel_rfl,by decide+kernel⟩
theorem Mi(P:Prim)(hP:P=cp)(T m:cm)(k:Int)(b:BS)(d:BS->Int)(h1:∀s,s.length<=5000->hJ T 136 [.str s] (.int .u32 (d s)))
  (f:Int->BS)(i:∀c,(f c).length=4)(h2:∀c,hJ T 135 [.int .u32 c] (.str (f c)))(r:BS)(e:Int)
  (hr:(if k<1\/255<k then([],1) else if 4000<b.length then([],2) else(jb k b++f (d (jb k b)),0))=(r,e))
  (R:S->Prop)(g:∀j s' x y,x=r/\y=e->cd j s'->ia [.t 2,.t 3] [.str x,qI y] s'->R j):gE P T m CB (S0 [.agg [qI k,.str b]] Hp.emp) R (λ_ _=>False) R:=by
 have a:P.b5 b=(b.length:Int):=cA hP b;have bad:k<1\/255<k->[]=r/\1=e:=λh=>by rw[ab h] at hr;simpa using hr
 cbv;intro β;cbv;refine a6 (λh=>?_) (λh=>?_)
 ·have h6:k<1:=gM hP h;cbv;exact g _ _ _ _ (bad (.inl h6)) (cd.refl _) rfl
 have h6:¬k<1:=gN hP h;cbv;refine a6 (λh=>?_) (λh=>?_)
 ·have h7:255<k:=gM hP h;cbv;exact g _ _ _ _ (bad (.inr h7)) (cd.refl _) rfl
 have h7:¬255<k:=gN hP h;rw[aa qO] at hr;cbv;refine a6 (λh=>?_) (λh=>?_)
 ·have h8:4000<P.b5 b:=gM hP h;rw[a] at h8;rw[ab qO] at hr;cbv;exact g _ _ _ _ (by simpa using hr) (cd.refl _) rfl
 have h8:¬4000<P.b5 b:=gN hP h;rw[a] at h8;rw[aa qO] at hr;simp only[aX] at hr;have a1:P.fK 0 8:=iJ hP qD;have b1:P.iq 8 (P.bits .i64):=lk hP (by rw[P0 hP];decide);have f1:=RG hP k (P.shr (P.b5 b) 8) (P.b5 b);have hd:P.iE [nP k,nP (P.shr (P.b5 b) 8),nP (P.b5 b)] b=jb k b:=by rw[RI hP,a,gv hP];rfl
 have i1:P.i64 (P.add (P.b5 [nP k,nP (P.shr (P.b5 b) 8),nP (P.b5 b)]) (P.b5 b)):=by
  rw[add_eq hP,a,cA hP];exact fm hP (by simp only[ar,aL];((try simp only[nc] at*);omega))
 generalize[nP k,nP (P.shr (P.b5 b) 8),nP (P.b5 b)]=L at f1 hd i1
 have hl:(jb k b).length=b.length+3:=by simp[jb]
 have c1:=h1 (jb k b) qO;have l:=h2 (d (jb k b));have i2:P.i64 (P.add (P.b5 (jb k b)) (P.b5 (f (d (jb k b))))):=by rw[add_eq hP,cA hP,cA hP,hl,i];exact fm hP qO
 have e1:=gv hP (jb k b) (f (d (jb k b)));rw[<-hd] at c1 l i2 e1 hr;clear h1 h2;cbv
 repeat' first|(refine And.intro (by assumption) ?_;cbv)|(intro β;cbv)
 refine⟨oC hP _ _ rfl,_,f1,?_⟩;cbv;refine⟨i1,?_⟩;cbv;refine c1 _ _ ?_;cbv;refine l _ _ ?_;cbv;refine⟨i2,?_⟩;cbv;exact g _ _ _ _ ⟨by rw[e1];exact hr.1,hr.2⟩ (cd.refl _) rfl
theorem xB(f:Frame):Spec Tryz.prog 79 [.agg (kW f)] Hp.emp (Is (.tup [.str (jz f.kind f.body).1,.int .i64 (jz f.kind f.body).2])):=
 ed hW Mh [.str (jz f.kind f.body).1,.int .i64 (jz f.kind f.body).2] (.tup _ (by simp;exact⟨.str _,.int _ _⟩)) λR a=>Mi cp rfl _ _ f.kind f.body (λs=>ll s)
  (λs hs=>jP (Hs s (by(have:maxLen=9223372036854775807:=by decide);((try simp only[nc] at*);omega))) rfl rfl) kZ (λ_=>rfl) (λc=>jP (CA c) rfl rfl) _ _ rfl R λb s' x y h he hr=>by obtain⟨rfl,rfl⟩:=h;exact a b s' he hr
theorem Ht{P:Prim}(hP:P=cp){s:BS}{nn:Int}(h:oD s+7<=s.length)(hn:nn=(oD s:Int)):
  P.fK 0 (P.add nn 3)/\P.fK (P.add nn 3) (P.add nn 7)/\P.fK (P.add nn 7) (P.b5 s)/\P.fK (P.add nn 3) (P.b5 s)/\P.fK 3 (P.add nn 3)/\P.fK 0 3/\P.fK 0 0
  /\P.gZ s (P.add nn 3) (P.add nn 7)=(s.take (oD s+7)).drop (oD s+3)/\P.gZ s 0 (P.add nn 3)=s.take (oD s+3)/\P.gZ s 3 (P.add nn 3)=(s.take (oD s+3)).drop 3:=by
 have n3:P.add nn 3=((oD s+3:Nat):Int):=by rw[add_eq hP,hn];rfl
 have b:P.add nn 7=((oD s+7:Nat):Int):=by rw[add_eq hP,hn];rfl
 rw[n3,b]
 generalize oD s=N at h
 have a:P.b5 s=(s.length:Int):=cA hP s;refine⟨iJ hP qW,qy hP qW,qy hP (by rw[a];omega),qy hP (by rw[a];omega),qy hP qW,iJ hP qD,iJ hP qD,?_,?_,?_⟩
 ·subst hP;rfl
 ·subst hP;rfl
 ·subst hP;rfl
def CC:AC:=qr [qo 2 (.alloc 115 FI),qz 3 0,qz 4 0] (qq (qr [qm 6 0,qo 7 (.len true (.t 6)),qc 8 .lss 7 7] (qu 8 (qr [qo 9 (.build FI []),qs 2 2 9,qz 3 0,qz 4 5] .ret) .skip)) (qq (.region true [qm 10 0,qo 11 (.ixs (.t 10) (qk 1)),qo 12 (.conv .i64 (.t 11)),qo 13 (.bin .shl (.t 12) (.c (.int .u64 8))),qm 14 0,qo 15 (.ixs (.t 14) (qk 2)),qo 16 (.conv .i64 (.t 15)),qb 17 .or 13 16,qm 5 17]) (qq (qr [qm 18 0,qo 19 (.ixs (.t 18) (qk 0)),qo 20 (.bin .eql (.t 19) (.c (.int .u8 0))),qm 21 20,qg 22 21 false (.mov (.t 5)),qg 23 21 false (.bin .gtr (.t 22) (qk 4000)),qo 24 (.pick (.t 21) (.c (.bool true)) (.t 23))] (qu 24 (qr [qo 25 (.build FI []),qs 2 2 25,qz 3 0,qz 4 3] .ret) .skip)) (qq (qr [qm 26 0,qo 27 (.len true (.t 26)),qm 28 5,qc 29 .add 28 7,qb 30 .lss 27 29] (qu 30 (qr [qo 31 (.build FI []),qs 2 2 31,qz 3 0,qz 4 5] .ret) .skip)) (qq (qq (.region true [qm 32 0,qm 33 5,qc 34 .add 33 3,qm 35 5,qc 36 .add 35 7,qo 37 (.slstr (.t 32) (some (.t 34)) (some (.t 36))),qm 38 0,qm 39 5,qc 40 .add 39 3,qo 41 (.slstr (.t 38) none (some (.t 40))),qa 42 136 [.t 41],qa 43 135 [.t 42],qb 44 .neq 37 43]) (qu 44 (qr [qo 45 (.build FI []),qs 2 2 45,qz 3 0,qz 4 6] .ret) .skip)) (qq (.region true [qm 46 0,qo 47 (.ixs (.t 46) (qk 0)),qo 48 (.conv .i64 (.t 47)),qm 49 0,qm 50 5,qc 51 .add 50 3,qo 52 (.slstr (.t 49) (some (qk 3)) (some (.t 51))),qo 53 (.build FI [(0,1,(.t 48)),(1,1,(.t 52))]),qm 54 5,qc 55 .add 54 7,qs 2 2 53,qm 3 55,qz 4 0]) .ret))))))
theorem Mj:fF Tryz.prog 252 Tryz.f252 CC [.cn 2 2,.t 3,.t 4] 1 dS:=⟨Tryz.func252,by decide+kernel,by kernel_rfl,by kernel_rfl,by decide+kernel⟩
theorem Ml(P:Prim)(hP:P=cp)(T o:cm)(s:BS)(hs:s.length<=maxLen)(p:BS->Int)(h1:∀s,s.length<=5000->hJ o 136 [.str s] (.int .u32 (p s)))
  (j:∀s,p s=ll s)(w:Int->BS)(l:∀c,w c=kZ c)(h2:∀c,hJ o 135 [.int .u32 c] (.str (w c)))(q:Int)(rb:BS)(r u:Int)(hr:gl s=(⟨q,rb⟩,r,u))
  (R:S->Prop)(i:∀y s' k b n e,(k=q/\b=rb/\n=r/\e=u)->cd y s'->ia [.cn 2 2,.t 3,.t 4] [.agg [qI k,.str b],qI n,qI e] s'->R y):gE P T o CC (S0 [.str s] Hp.emp) R (λ_ _=>False) R:=by
 have B:maxLen=9223372036854775807:=by decide
 have a:P.b5 s=(s.length:Int):=cA hP s;have q0:P.sat s 0=((s.getD 0 0).toNat:Int):=by subst hP;rfl
 have q1:P.sat s 1=((s.getD 1 0).toNat:Int):=by subst hP;rfl
 have q2:P.sat s 2=((s.getD 2 0).toNat:Int):=by subst hP;rfl
 have u0:=(s.getD 0 0).toNat_lt;have E:=(s.getD 1 0).toNat_lt;have F:=(s.getD 2 0).toNat_lt;have w1:P.wrap .i64 (P.sat s 1)=((s.getD 1 0).toNat:Int):=by rw[q1];exact TN hP qO
 have w2:P.wrap .i64 (P.sat s 2)=((s.getD 2 0).toNat:Int):=by rw[q2];exact TN hP qO
 have w0:P.wrap .i64 (P.sat s 0)=((s.getD 0 0).toNat:Int):=by rw[q0];exact TN hP qO
 unfold gl at hr;cbv;intro β;cbv;refine a6 (λh=>?_) (λh=>?_)
 ·have h7:P.b5 s<7:=gM hP h;rw[a] at h7;rw[ab qO] at hr;cbv;exact i _ _ _ _ _ _ (by simpa[fD] using hr) (cd.refl _) ⟨rfl,rfl,ax 0,ak 2,rfl⟩
 have h7:¬P.b5 s<7:=gN hP h;rw[a] at h7;rw[aa qO] at hr;have a0:P.fK 0 0:=iJ hP qD;have a1:P.fK 0 1:=iJ hP qD;have a2:P.fK 0 2:=iJ hP qD;have a3:P.iq 0 (P.b5 s):=lk hP (by rw[a];((try simp only[nc] at*);omega));have a4:P.iq 1 (P.b5 s):=lk hP (by rw[a];((try simp only[nc] at*);omega));have a5:P.iq 2 (P.b5 s):=lk hP (by rw[a];((try simp only[nc] at*);omega));have G:P.fK 0 8:=iJ hP qD;have H:P.iq 8 64:=lk hP qD;have I:P.i64 (P.shl (P.wrap .i64 (P.sat s 1)) 8):=by rw[w1,RM hP];exact fm hP qO
 obtain⟨nn,GB⟩:∃nn,nn=P.Lr .i64 (P.shl (P.wrap .i64 (P.sat s 1)) 8) (P.wrap .i64 (P.sat s 2)):=⟨_,rfl⟩;have hn:nn=(oD s:Int):=by rw[GB,w1,w2,RM hP,TO hP];unfold oD;((try simp only[nc] at*);omega)
 have n3:P.add nn 3=(oD s:Int)+3:=by rw[add_eq hP,hn]
 have m:P.add nn 7=(oD s:Int)+7:=by rw[add_eq hP,hn]
 have AE:oD s<=70000:=by unfold oD;omega
 have i3:P.i64 (P.add nn 3):=by rw[n3];exact fm hP qO
 have i7:P.i64 (P.add nn 7):=by rw[m];exact fm hP qO
 rw[GB] at hn n3 m i3 i7;clear GB;cbv
 repeat' first|(refine And.intro (by assumption) ?_;cbv)|(intro β;cbv)
 have d:(s.getD 0 0).toNat=0\/4000<oD s->(0:Int)=q/\([]:BS)=rb/\(0:Int)=r/\(3:Int)=u:=λh=>by rw[ab h] at hr;simpa[fD] using hr
 refine a6 (λh=>?_) (λh=>?_)
 ·have h8:P.sat s 0=0:=mz hP h;rw[q0] at h8;cbv;exact i _ _ _ _ _ _ (d (.inl qO)) (cd.refl _) ⟨rfl,rfl,ax 0,ak 2,rfl⟩
 have h8:¬P.sat s 0=0:=mA hP h;rw[q0] at h8;cbv;refine a6 (λh=>?_) (λh=>?_)
 ·have z:=dC (gM hP h) (fp hn);cbv;exact i _ _ _ _ _ _ (d (.inr qO)) (cd.refl _) ⟨rfl,rfl,ax 0,ak 2,rfl⟩
 have z:¬(4000:Int)<(oD s:Int):=λg=>gN hP h (dC g (fp hn.symm));clear d;rw[aa qO] at hr;cbv;refine⟨i7,?_⟩;refine a6 (λh=>?_) (λh=>?_)
 ·have f:P.b5 s<(oD s:Int)+7:=dC (gM hP h) (fp m);rw[a] at f;rw[ab qO] at hr;cbv;exact i _ _ _ _ _ _ (by simpa[fD] using hr) (cd.refl _) ⟨rfl,rfl,ax 0,ak 2,rfl⟩
 have f:¬P.b5 s<(oD s:Int)+7:=λg=>gN hP h (dC g (fp m.symm));rw[a] at f;rw[aa qO] at hr;clear h h7 h8;obtain⟨J,K,L,M,N,O,Q,C,A,v⟩:=Ht hP qO hn;rw[<-C,<-v,<-A] at hr;have c1:=h1 (P.gZ s 0 (P.add (P.Lr .i64 (P.shl (P.wrap .i64 (P.sat s 1)) 8) (P.wrap .i64 (P.sat s 2))) 3)) (by rw[A,aE];((try simp only[nc] at*);omega));have D:=h2 (p (P.gZ s 0 (P.add (P.Lr .i64 (P.shl (P.wrap .i64 (P.sat s 1)) 8) (P.wrap .i64 (P.sat s 2))) 3)));clear h1 h2 z;cbv
 repeat' first|(refine And.intro (by assumption) ?_;cbv)|(intro β;cbv)
 refine c1 _ _ ?_;cbv;refine D _ _ ?_;cbv;refine a6 (λh=>?_) (λh=>?_)
 ·have g:=Cj hP h;rw[l,j] at g;rw[ab g] at hr;cbv;exact i _ _ _ _ _ _ (by simpa[fD] using hr) (cd.refl _) ⟨rfl,rfl,ax 0,ak 2,rfl⟩
 ·have g:=Ck hP h;rw[l,j] at g;rw[aa (λx=>x g)] at hr;simp only[aX,Frame.mk.injEq] at hr;cbv
  repeat' first|(refine And.intro (by assumption) ?_;cbv)|(intro β;cbv)
  exact i _ _ _ _ _ _ ⟨w0.trans hr.1.1,hr.1.2,m.trans hr.2.1,hr.2.2⟩ (cd.refl _) ⟨rfl,rfl,ax 0,ak 2,rfl⟩
theorem Mm(s:BS)(hs:s.length<=maxLen):Spec Tryz.prog 252 [.str s] Hp.emp (Is (.tup [.agg (kW (gl s).1),.int .i64 (gl s).2.1,.int .i64 (gl s).2.2])):=
 ed hW Mj [.agg (kW (gl s).1),.int .i64 (gl s).2.1,.int .i64 (gl s).2.2] (.tup _ (by simp[kW];exact⟨.agg _ (by simp;exact⟨.int _ _,.str _⟩),.int _ _,.int _ _⟩)) λR a=>Ml cp rfl _ _ s hs (λs=>ll s)
  (λs hs=>yu (Hs s (by(have:maxLen=9223372036854775807:=by decide);omega)) (λ_=>fX rfl) rfl) (λ_=>rfl) kZ (λ_=>rfl) (λc=>yu (CA c) (λ_=>fX rfl) rfl) _ _ _ _ rfl R
  λd s' k b n e h he hr=>by obtain⟨rfl,rfl,rfl,rfl⟩:=h;exact a d s' he hr
def jF(l:List Frame):List (List V):=l.map kW
def oE:Nat->BS->List Frame×Int
 |0,_=>([],0)
 |m+1,s=>if(gl s).2.2≠0 then([],0) else((gl s).1::(oE m (s.drop (gl s).2.1.toNat)).1,(gl s).2.1+(oE m (s.drop (gl s).2.1.toNat)).2)
def fR(s:BS):List Frame×Int:=oE (s.length+1) s
theorem lT{s:BS}(h:(gl s).2.2=0):7<=(gl s).2.1/\(gl s).2.1<=(s.length:Int)/\1<=(gl s).1.kind/\(gl s).1.kind<=255/\(gl s).2.1=((gl s).1.body.length:Int)+7/\(gl s).1.body.length<=4000:=by
 unfold gl at h⊢
 by_cases h1:s.length<7
 ·rw[ab h1] at h;exact absurd h qD
 rw[aa h1] at h⊢
 by_cases h2:(s.getD 0 0).toNat=0\/4000<oD s
 ·rw[ab h2] at h;exact absurd h qD
 rw[aa h2] at h⊢
 by_cases h3:s.length<oD s+7
 ·rw[ab h3] at h;exact absurd h qD
 rw[aa h3] at h⊢
 by_cases h4:(s.take (oD s+7)).drop (oD s+3)≠kZ (ll (s.take (oD s+3)))
 ·rw[ab h4] at h;exact absurd h qD
 rw[aa h4];have:=(s.getD 0 0).toNat_lt;simp only[aP,aE];omega
theorem oF:∀(m:Nat)(s:BS),s.length<m->oE m s=fR s
 |0,s,h=>absurd h (fx _)
 |m+1,s,h=>by
  unfold fR;rw[oE,oE]
  by_cases he:(gl s).2.2≠0
  ·rw[ab he,ab he]
  ·have hg:=lT (aK he);have hl:(s.drop (gl s).2.1.toNat).length<s.length:=by rw[aP];omega
   rw[aa he,aa he,oF m _ qW]
   by_cases hm:m+1=s.length+1
   ·have:m=s.length:=by omega
    subst this;rw[oF s.length _ hl]
   ·rw[oF s.length _ hl]
 termination_by m s=>(s.length,m)
 decreasing_by all_goals(simp_wf;rw[Prod.lex_def];simp only[];omega)
theorem mU(s:BS):fR s=if(gl s).2.2≠0 then([],0) else((gl s).1::(fR (s.drop (gl s).2.1.toNat)).1,(gl s).2.1+(fR (s.drop (gl s).2.1.toNat)).2):=by
 show oE (s.length+1) s=_;rw[oE]
 by_cases he:(gl s).2.2≠0
 ·rw[ab he,ab he]
 ·have hg:=lT (aK he);rw[aa he,aa he,oF s.length _ (by rw[aP];omega)]
theorem y6:∀(n:Nat)(s:BS),s.length<=n->(fR s).1.length*7<=s.length/\0<=(fR s).2/\(fR s).2<=(s.length:Int)
 |0,s,h=>by
  rw[mU];have:(gl s).2.2≠0:=by
   intro hg;have:=lT hg;omega
  rw[ab this];simp
 |n+1,s,h=>by
  rw[mU]
  by_cases he:(gl s).2.2≠0
  ·rw[ab he];simp
  ·have hg:=lT (aK he);rw[aa he];have hd:(s.drop (gl s).2.1.toNat).length=s.length-(gl s).2.1.toNat:=aP ..;have ih:=y6 n (s.drop (gl s).2.1.toNat) qW;simp only[ar];omega
theorem EF(l:List Frame):∀r∈jF l,r.length=2:=by
 intro r hr;obtain⟨f,_,rfl⟩:=aM.1 hr;rfl
theorem EG(l:List Frame):∀r∈jF l,∀v∈r,Fz v:=by
 intro r hr v hv;obtain⟨f,_,rfl⟩:=aM.1 hr;simp[kW] at hv
 rcases hv with rfl|rfl
 ·exact .int _ _
 ·exact .str _
def CD:AC:=qr [qo 2 (.mov (.c (.slice none 0 0))),qz 3 0] (qr [qo 4 (.mov (.c (.slice none 0 0)))] (qr [qz 5 0] (.block 0 (.loop (.block 1 (qr [qm 10 0,qm 11 5,qo 12 (.slstr (.t 10) (some (.t 11)) none),qa 13 252 [.t 12],qm 9 13,qx 14 0 9,qx 15 1 9,qx 16 2 9,qo 6 (.alloc 115 FI),qs 2 6 14,qm 7 15,qm 8 16] (qq (qr [qm 17 8,qc 18 .neq 17 0] (qu 18 (qr [qm 19 4,qm 20 5,qm 2 19,qm 3 20] .ret) .skip)) (qr [qm 21 4,qd 22 2 6,qo 23 (.bslice 115 2 [.t 22]),qo 24 (.append 115 2 24 (.t 21) (.t 23)),qm 4 24] (qR [qm 25 5,qm 26 7,qb 27 .add 25 26,qm 5 27])))))))))
theorem Mn:fF Tryz.prog 236 Tryz.f236 CD [.t 2,.t 3] 1 dS:=⟨Tryz.func236,by decide+kernel,by kernel_rfl,by kernel_rfl,by decide+kernel⟩
structure Wd(s:BS) where
 fW:Int
 out:List Frame
 b:Option Nat
 c:Nat
 rows:List (List V)
 hg:0<=fW/\fW<=(s.length:Int)
 hs:fR s=(out++(fR (s.drop fW.toNat)).1,fW+(fR (s.drop fW.toNat)).2)
 ho:(out.length:Int)*7<=fW
 hrows:rows=jF out
 hc:c=out.length
theorem Mo(P:Prim)(hP:P=cp)(T q:cm)(s:BS)(hs:s.length<=1048576)(j:BS->Int)(l:BS->BS)(fn m:BS->Int)
  (hf:∀s,gl s=(⟨j s,l s⟩,fn s,m s))(h1:∀s,s.length<=1048576->hJ T 252 [.str s] (.tup [.agg [qI (j s),.str (l s)],qI (fn s),qI (m s)]))
  (rl:List Frame)(rg:Int)(hr:fR s=(rl,rg))(rr:List (List V))(e:rr=jF rl)
  (R:S->Prop)(u:∀x,x=rg->qQ [.t 2,.t 3] 2 rr [qI x] R):gE P T q CD (S0 [.str s] Hp.emp) R (λ_ _=>False) R:=by
 have f:P.b5 s=(s.length:Int):=cA hP s;cbv;refine⟨Wd s,λy=>[(0,.str s),(4,.own 1000024 y.b 2 y.c),(5,qI y.fW)],λy=>[(1000024,⟨y.b,115,2,y.rows⟩)],λy=>s.length-y.fW.toNat,
  ⟨_,cd.nil (i:=4) (k:=1000024) (ty:=115) (sz:=2) rfl rfl,⟨0,[],_,_,_,qW,by simp,by simp,rfl,rfl⟩,⟨rfl,rfl,rfl,trivial⟩,⟨rfl,trivial⟩⟩,?_⟩
 rintro⟨fW,out,b,c,rows,hg,d,ho,hrows,hc⟩
 replace hg:0<=fW/\fW<=(s.length:Int):=hg
 have l1:P.fK 0 fW:=iJ hP hg.1;have l2:P.fK fW (P.b5 s):=qy hP (by rw[f];exact hg.2);have v:P.fK (P.b5 s) (P.b5 s):=qy hP (bn _);have e1:P.gZ s fW (P.b5 s)=s.drop fW.toNat:=by
  rw[f];subst hP;show(s.take ((s.length:Int)).toNat).drop fW.toNat=_;rw[aG,aN]
 have n:((s.drop fW.toNat).length:Int)=(s.length:Int)-fW:=by rw[aP];((try simp only[nc] at*);omega)
 have c1:=h1 (s.drop fW.toNat) qO;have f1:=hf (s.drop fW.toNat);have a:=mU (s.drop fW.toNat);have hZ:= @lT (s.drop fW.toNat);rw[f1] at a hZ;simp only[] at a hZ;rw[<-e1] at c1;clear h1;cbv;refine⟨l1,l2,v,?_⟩;refine c1 _ _ ?_;rw[e1];clear c1 f1 hf
 generalize j (s.drop fW.toNat)=k1 at a hZ⊢
 generalize l (s.drop fW.toNat)=b1 at a hZ⊢
 generalize fn (s.drop fW.toNat)=n1 at a hZ⊢
 generalize m (s.drop fW.toNat)=e1 at a hZ⊢
 cbv
 repeat' first|(refine qA ?_;cbv)|(intro β;cbv)
 refine a6 (λh=>?_) (λh=>?_)
 ·have hx:=iG hP h;rw[ab hx] at a;rw[a] at d;simp only[bg,fo] at d;rw[hr] at d;simp only[aX] at d;cbv;exact(u _ d.2.symm).2.1 _ _ _ _ _ _ _ (cd.refl _) rfl rfl ⟨by rw[hc,e,d.1];simp[jF],by rw[hrows,e,d.1]⟩
 have hx:=iy hP h;rw[aa (λx=>x hx)] at a;have hg1:=hZ hx;rw[n] at hg1;have w:(out.length:Int)<=1048576:=by((try simp only[nc] at*);omega)
 have f4:P.rW rows c:=oC hP _ _ (by rw[hrows,hc];simp[jF]);have f5:∀r,P.bytes (P.add (P.int c) (P.cF [r])) 24:=by intro r;subst hP;show((c:Int)+1)*24<=_;rw[hc];((try simp only[nc] at*);omega)
 have f6:∀r,P.rW [r] 1:=by intro r;subst hP;rfl
 have f7:P.n4 rows [[qI k1,.str b1]]=jF (out++[⟨k1,b1⟩]):=by rw[hrows];subst hP;simp[cp,jF,kW]
 have f8:∀r:List V,P.jg c (P.gH [r])=(out++[(⟨k1,b1⟩:Frame)]).length:=by intro r;rw[hc];subst hP;simp[cp]
 have a1:P.add fW n1=fW+n1:=add_eq hP _ _;have a2:P.i64 (P.add fW n1):=by rw[a1];exact fm hP qO
 have a3:(s.drop fW.toNat).drop n1.toNat=s.drop (P.add fW n1).toNat:=by rw[dM,a1];congr 1;((try simp only[nc] at*);omega)
 have g:fR s=((out++[⟨k1,b1⟩])++(fR (s.drop (P.add fW n1).toNat)).1,P.add fW n1+(fR (s.drop (P.add fW n1).toNat)).2):=by
  rw[d,a,a3,a1];simp only[aU,dQ,aX,eH]
  ((try simp only[nc] at*);omega)
 have o:0<=P.add fW n1/\P.add fW n1<=(s.length:Int):=by rw[a1];((try simp only[nc] at*);omega)
 have p:((out++[(⟨k1,b1⟩:Frame)]).length:Int)*7<=P.add fW n1:=by rw[a1,ae];simp only[ar,aL];((try simp only[nc] at*);omega)
 have hm:s.length-(P.add fW n1).toNat<s.length-fW.toNat:=by rw[a1];((try simp only[nc] at*);omega)
 cbv
 repeat' first|(refine And.intro (by first|assumption|decide|exact f6 _|exact f5 _) ?_;cbv)|(intro z;cbv)
 exact⟨_,cd.refl _,⟨_,out++[⟨k1,b1⟩],_,_,_,o,g,p,f7,f8 _⟩,⟨rfl,rfl,rfl,trivial⟩,⟨rfl,trivial⟩,hm⟩
theorem Mp(s:BS)(hs:s.length<=1048576):Spec Tryz.prog 236 [.str s] Hp.emp (Is (.tup [.sl false 2 (jF (fR s).1),.int .i64 (fR s).2])):=
 kX hW Mn λR a=>Mo cp rfl _ _ s hs (λs=>(gl s).1.kind) (λs=>(gl s).1.body) (λs=>(gl s).2.1) (λs=>(gl s).2.2) (λ_=>rfl)
  (λs hs=>jP (Mm s (by(have:maxLen=9223372036854775807:=by decide);omega)) rfl rfl) (fR s).1 (fR s).2 rfl _ rfl R λx hx=>by subst hx;exact lN (EF _) (EG _) (ur _) a
def ds(p:Part):Int:=if p.kind=2 then p.text.length else p.n
def oG(l:List Part)(u:Int):Prop:=(∀p∈l,nR p)/\match l with
 |[]=>u=0
 |p::_=>0<=u/\u<ds p
def fI(l:List Part)(u:Int):List Tok:=(fP l).drop u.toNat
def eA(l:List Part)(u k:Int):List Part×Int:=match l with
 |[]=>([],u)
 |p::r=>if u+k=ds p then(r,0) else(p::r,u+k)
def chunk(p:Part)(u k:Int):List Tok:=if p.kind=2 then((p.text.drop u.toNat).take k.toNat).map .put else List.replicate k.toNat (if p.kind=1 then .keep else .cut)
theorem Br(p:Part)(h:nR p):((ib p).length:Int)=ds p:=by
 have h1:=gU h;unfold ib ds
 split
 ·simp
 ·split<;>simp<;>omega
theorem size_pos{p:Part}(h:nR p):0<ds p:=by
 have h1:=gU h;unfold ds
 split
 ·have:p.text≠[]:=by rcases h1.2.2.2 with h|h;exact h.2.2;omega
  have:=du.2 this;omega
 ·omega
theorem size_le{p:Part}(h:nR p):ds p<=500:=by
 have h1:=gU h;unfold ds
 split<;>omega
theorem jo{p:Part}{r:List Part}{u k:Int}(h:oG (p::r) u)(hk:0<=k/\u+k<=ds p):oG (eA (p::r) u k).1 (eA (p::r) u k).2:=by
 obtain⟨h1,h2⟩:=h;simp only[eA]
 split
 ·refine⟨λq hq=>h1 q (by simp[hq]),?_⟩;cases r with
  |nil=>rfl
  |cons q r=>exact⟨bn _,size_pos (h1 q (by simp))⟩
 ·exact⟨h1,by simp only at h2⊢;omega⟩
theorem kK{p:Part}{r:List Part}{u k:Int}(h:oG (p::r) u)(hk:0<=k/\u+k<=ds p):fI (p::r) u=chunk p u k++fI (eA (p::r) u k).1 (eA (p::r) u k).2:=by
 obtain⟨h1,h2⟩:=h;simp only at h2;have hp:=h1 p (by simp);have hs:=Br p hp;have e1:fI (p::r) u=(ib p).drop u.toNat++fP r:=by
  unfold fI;simp only[fP];rw[bV qW]
 have a:(ib p).drop u.toNat=chunk p u k++(ib p).drop (u+k).toNat:=by
  have b:(ib p).drop (u+k).toNat=((ib p).drop u.toNat).drop k.toNat:=by rw[dM];congr 1;omega
  have c:chunk p u k=((ib p).drop u.toNat).take k.toNat:=by
   unfold chunk ib
   split
   ·rw[<-List.map_drop,<-fE]
   ·rename_i hk2;have hsz:ds p=p.n:=by simp[ds,hk2]
    split
    ·rw[List.drop_replicate,List.take_replicate];congr 1;omega
    ·rw[List.drop_replicate,List.take_replicate];congr 1;omega
  rw[b,c,bF]
 have d:fI (eA (p::r) u k).1 (eA (p::r) u k).2=(ib p).drop (u+k).toNat++fP r:=by
  simp only[eA]
  split
  ·rename_i hh;rw[List.drop_of_length_le qW];simp[fI]
  ·unfold fI;simp only[fP];rw[bV qW]
 rw[e1,a,d,aU]
theorem pv{p:Part}{r:List Part}{u k:Int}(h:oG (p::r) u)(hk:0<=k/\u+k<=ds p):(chunk p u k).length=k.toNat:=by
 obtain⟨h1,h2⟩:=h;simp only at h2;unfold chunk
 split
 ·rename_i h3;have:ds p=p.text.length:=by simp[ds,h3]
  simp;omega
 ·simp
def tq(b:Nat)(rows:List (List V))(u:Int):Ob:=⟨some b,270,2,[[.sl false 3 rows,.int .i64 u]]⟩
theorem oH{b:Nat}{l:List Part}{u:Int}:(tq b (l.map a7) u).Fz:=by
 intro r hr v hv;simp only[tq,ag] at hr;subst hr;simp only[ah,aq,aQ] at hv
 rcases hv with rfl|rfl
 ·exact .sl _ _ (fL l)
 ·exact .int _ _
theorem ri(b:Nat)(rows:List (List V))(u:Int)(g:Nat->Nat):(tq b rows u).gy g=tq b rows u:=by simp[Ob.gy,tq,V.rl]
theorem P2{P:Program}{f k sz:Nat}{b:Option Nat}{rest:List V}{o:Ob}{v:V}(hs:Spec P f (.ptr 0 b sz 0 0::rest) (a8 [(0,o)]) λx h'=>x=v/\h'=a8 [(0,o)])
  (a:rest.all V.pl=true)(ho:∀g,o.gy g=o)(hz:o.Fz)(hv:∀g,v.gy g=v){h:Hp}{K:V->Hp->Prop}(hk:h k=some o)(hK:K v h):fk P f (.ptr k b sz 0 0::rest) h K:=by
 refine⟨[(0,k)],_,_,v,hs,.cons ?_ (fX a),λj q hj=>?_,λp hp=>?_,by rw[hv];exact hK⟩
 ·have:=Arg.same (h:=h) (m:=[(0,k)]) (.ptr k b sz 0 0);simpa[V.gy,V.rl,gP] using this
 ·simp only[a8] at hj
  split at hj
  ·rename_i h0;exact⟨(0,k),by simp,h0.symm⟩
  ·cases hj
 ·simp only[ag] at hp;subst hp;exact⟨by simp[gD],by simp[gP],o,by simp[a8],by rw[hk,aJ,ho],hz⟩
theorem P3{P:Program}{f k sz:Nat}{b:Option Nat}{rest:List V}{o:Ob}{v:V}(hs:Spec P f (.ptr 0 b sz 0 0::rest) (a8 [(0,o)]) λx h'=>x=v/\h'=a8 [(0,o)])
  (a:rest.all V.pl=true)(ho:∀g,o.gy g=o)(hz:o.Fz)(hv:∀g,v.gy g=v){h:Hp}{K:V->Hp->Prop}(hk:h k=some o)(hK:K v (Hp.put h k o)):dF P f (.ptr k b sz 0 0::rest) h K:=by
 refine Ce (post:=λx L'=>x=v/\L'=[(0,o)]) ⟨hs.fn,λC us a1 a2 a3 a4=>(hs.run C us a1 a2 a3 a4).mono ?_⟩ (λx L' h=>⟨o,h.2⟩) a ho hz hk ?_
 ·rintro e w' ⟨u,x,h',F',e1,d,i,rfl,rfl⟩;exact⟨u,_,_,F',e1,d,i,[(0,o)],⟨rfl,rfl⟩,rfl⟩
 ·rintro x o' ⟨rfl,c⟩;simp only[cy,aX,fc,eH] at c;subst c;rw[hv,ho];exact hK
theorem sd{P:Program}{f:Nat}{fn:Func}{ac:AC}{rv:List RV}{args:List V}{o:Ob}{D:Array Oper->List AO->Bool}(a:lh P D)(ok:fF P f fn ac rv args.length D)(v:V)(hv:Fz v)(ho:o.Fz)
  (h:∀R:S->Prop,(∀(s s':S),cd s s'->kH s' rv (λx=>kI x=v)->s'.h 0=some o->R s)->gE cp (dF P) (fk P) ac (S0 args (a8 [(0,o)])) R (λ_ _=>False) R):
  Spec P f args (a8 [(0,o)]) (λx h'=>x=v/\h'=a8 [(0,o)]):=by
 have:=dE a ok (L:=[(0,o)]) (λx L'=>x=v/\L'=[(0,o)]) λR b=>h R λs s' he hr h0=>b s s' v [(0,o)] he hr ⟨h0,trivial⟩ hv (by intro p hp;simp at hp;subst hp;exact ho) ⟨rfl,rfl⟩;refine⟨this.fn,λC us a1 a2 a3 a4=>(this.run C us a1 a2 a3 a4).mono ?_⟩;rintro e w' ⟨u,x,h',F',e1,c,d,L',⟨rfl,rfl⟩,rfl⟩;exact⟨u,_,_,F',e1,c,d,rfl,rfl⟩
def CE(l:List Part):Int:=match l with
 |[]=>0
 |p::_=>p.kind
def y7:AC:=qr [qz 2 0] (qq (qr [qm 3 0,qn 4 3,qf 5 0 4,ql 6 5,qo 7 (.len false (.t 6)),qc 8 .eql 7 0] (qu 8 (qr [qz 2 0] .ret) .skip)) (qr [qm 9 0,qn 10 9,qf 11 0 10,ql 12 11,qo 13 (.iaddr 3 (.t 12) (qk 0)),qf 14 0 13,ql 15 14,qm 2 15] .ret))
theorem Hu:fF Tryz.prog 231 Tryz.f231 y7 [.t 2] 1 dS:=⟨Tryz.func231,by decide+kernel,by kernel_rfl,by kernel_rfl,by decide+kernel⟩
theorem Hv(P:Prim)(hP:P=cp)(T d:cm)(b:Nat)(l:List Part)(u:Int)(rows:List (List V))(hrows:rows=l.map a7)(r:Int)(hr:CE l=r)
  (R:S->Prop)(c:∀(s s':S)(q:Int),q=r->cd s s'->ia [.t 2] [qI q] s'->s'.h 0=some (⟨some b,270,2,[[.sl false 3 rows,qI u]]⟩)->R s):gE P T d y7 (S0 [.ptr 0 (some b) 2 0 0] (a8 [(0,⟨some b,270,2,[[.sl false 3 rows,qI u]]⟩)])) R (λ_ _=>False) R:=by
 have hl:P.cF rows=(l.length:Int):=by rw[hX hP,hrows];simp
 cbv;refine a6 (λh=>?_) (λh=>?_)
 ·have h2:P.cF rows=0:=mz hP h;rw[hl] at h2;have:l=[]:=aB qO;subst this;cbv;exact c _ _ _ hr (cd.refl _) rfl rfl
 ·have h2:¬P.cF rows=0:=mA hP h;rw[hl] at h2
  rcases l with _|⟨⟨kd,n,t⟩,l⟩
  ·exact absurd rfl h2
  have a:P.row rows (P.nat 0) [qI kd,qI n,.str t]:=gz hP (i:=0) rfl (by rw[hrows];rfl);have ho:P.fK 0 0:=iJ hP qW;cbv;refine⟨ho,_,a,?_⟩;cbv;exact c _ _ _ hr (cd.refl _) rfl rfl
theorem Hw(b:Nat)(l:List Part)(u:Int):Spec Tryz.prog 231 [.ptr 0 (some b) 2 0 0] (a8 [(0,tq b (l.map a7) u)]) (λx h'=>x=qI (CE l)/\h'=a8 [(0,tq b (l.map a7) u)]):=
 sd hW Hu _ (.int _ _) oH λR a=>Hv cp rfl _ _ b l u _ rfl _ rfl R λs s' q hq he hr h0=>by subst hq;exact a s s' he (da _ _ _ (λx hx=>by subst hx;rfl) hr) h0
def y8:AC:=qr [qz 2 0] (qq (qr [qm 3 0,qn 4 3,qf 5 0 4,ql 6 5,qo 7 (.iaddr 3 (.t 6) (qk 0)),qf 8 0 7,ql 9 8,qc 10 .eql 9 2] (qu 10 (qr [qm 11 0,qn 12 11,qf 13 0 12,ql 14 13,qo 15 (.iaddr 3 (.t 14) (qk 0)),qf 16 2 15,ql 17 16,qo 18 (.len true (.t 17)),qm 2 18] .ret) .skip)) (qr [qm 19 0,qn 20 19,qf 21 0 20,ql 22 21,qo 23 (.iaddr 3 (.t 22) (qk 0)),qf 24 1 23,ql 25 24,qm 2 25] .ret))
theorem Hx:fF Tryz.prog 251 Tryz.f251 y8 [.t 2] 1 dS:=⟨Tryz.func251,by decide+kernel,by kernel_rfl,by kernel_rfl,by decide+kernel⟩
theorem Hy(P:Prim)(hP:P=cp)(T d:cm)(b:Nat)(kd n:Int)(t:BS)(l:List Part)(u:Int)(rows:List (List V))(hrows:rows=(⟨kd,n,t⟩::l).map a7)(r:Int)(hr:ds ⟨kd,n,t⟩=r)
  (R:S->Prop)(c:∀(s s':S)(q:Int),q=r->cd s s'->ia [.t 2] [qI q] s'->s'.h 0=some (⟨some b,270,2,[[.sl false 3 rows,qI u]]⟩)->R s):gE P T d y8 (S0 [.ptr 0 (some b) 2 0 0] (a8 [(0,⟨some b,270,2,[[.sl false 3 rows,qI u]]⟩)])) R (λ_ _=>False) R:=by
 have a:P.row rows (P.nat 0) [qI kd,qI n,.str t]:=gz hP (i:=0) rfl (by rw[hrows];rfl);have ho:P.fK 0 0:=iJ hP qW;cbv;refine⟨ho,_,a,?_⟩;cbv;refine a6 (λh=>?_) (λh=>?_)
 ·have hk:kd=2:=mz hP h;cbv;refine⟨ho,_,a,?_⟩;cbv;refine c _ _ _ ?_ (cd.refl _) rfl rfl;show P.b5 t=r;rw[cA hP,<-hr,ds,ab hk]
 ·have hk:¬kd=2:=mA hP h;cbv;refine⟨ho,_,a,?_⟩;cbv;refine c _ _ _ ?_ (cd.refl _) rfl rfl;rw[<-hr,ds,aa hk]
theorem Hz(b:Nat)(p:Part)(l:List Part)(u:Int):Spec Tryz.prog 251 [.ptr 0 (some b) 2 0 0] (a8 [(0,tq b ((p::l).map a7) u)]) (λx h'=>x=qI (ds p)/\h'=a8 [(0,tq b ((p::l).map a7) u)]):=
 sd hW Hx _ (.int _ _) oH λR a=>Hy cp rfl _ _ b p.kind p.n p.text l u _ rfl _ rfl R λs s' q hq he hr h0=>by subst hq;exact a s s' he (da _ _ _ (λx hx=>by subst hx;rfl) hr) h0
def Mq(T:cm)(f:Nat)(pre:List Part->Int->Prop)(r:List Part->Int->Int)(back:Bool):Prop:=∀(k b:Nat)(l:List Part)(u:Int)(rows:List (List V))(h:Hp)(K:V->Hp->Prop),rows=l.map a7->pre l u->h k=some ⟨some b,270,2,[[.sl false 3 rows,qI u]]⟩->
 (∀q:Int,q=r l u->K (qI q) (match back with
  |true=>Hp.put h k ⟨some b,270,2,[[.sl false 3 rows,.int .i64 u]]⟩
  |false=>h))->T f [.ptr k (some b) 2 0 0] h K
theorem U4{f:Nat}{pre:List Part->Int->Prop}{r:List Part->Int->Int}(hs:∀b l u,pre l u->Spec Tryz.prog f [.ptr 0 (some b) 2 0 0] (a8 [(0,tq b (l.map a7) u)]) (λx h'=>x=qI (r l u)/\h'=a8 [(0,tq b (l.map a7) u)])):Mq (dF Tryz.prog) f pre r true:=by
 rintro k b l u rows h K rfl hp hk hK;exact P3 (hs b l u hp) rfl (ri _ _ _) oH (λ_=>rfl) hk (hK _ rfl)
theorem We{f:Nat}{pre:List Part->Int->Prop}{r:List Part->Int->Int}(hs:∀b l u,pre l u->Spec Tryz.prog f [.ptr 0 (some b) 2 0 0] (a8 [(0,tq b (l.map a7) u)]) (λx h'=>x=qI (r l u)/\h'=a8 [(0,tq b (l.map a7) u)])):Mq (fk Tryz.prog) f pre r false:=by
 rintro k b l u rows h K rfl hp hk hK;exact P2 (hs b l u hp) rfl (ri _ _ _) oH (λ_=>rfl) hk (hK _ rfl)
def sP(l:List Part):Int:=match l with
 |[]=>0
 |p::_=>ds p
theorem uA:Mq (fk Tryz.prog) 251 (λl _=>l≠[]) (λl _=>sP l) false:=We λb l u h=>by
 cases l with
 |nil=>exact absurd rfl h
 |cons p l=>exact Hz b p l u
theorem Bs:Mq (dF Tryz.prog) 231 (λ_ _=>True) (λl _=>CE l) true:=U4 λb l u _=>Hw b l u
def y9:AC:=qr [qz 2 0] (qq (.region true [qm 3 0,qa 4 251 [.t 3],qm 5 0,qn 6 5,qf 7 1 6,ql 8 7,qb 9 .sub 4 8,qm 2 9]) .ret)
theorem HA:fF Tryz.prog 233 Tryz.f233 y9 [.t 2] 1 dS:=⟨Tryz.func233,by decide+kernel,by kernel_rfl,by kernel_rfl,by decide+kernel⟩
theorem HB(P:Prim)(hP:P=cp)(T a:cm)(hsz:Mq a 251 (λl _=>l≠[]) (λl _=>sP l) false)(b:Nat)(l:List Part)(u:Int)(hne:l≠[])(hi:kA (sP l-u))(rows:List (List V))(hrows:rows=l.map a7)(r:Int)(hr:sP l-u=r)
  (R:S->Prop)(c:∀(s s':S)(q:Int),q=r->cd s s'->ia [.t 2] [qI q] s'->s'.h 0=some (⟨some b,270,2,[[.sl false 3 rows,qI u]]⟩)->R s):gE P T a y9 (S0 [.ptr 0 (some b) 2 0 0] (a8 [(0,⟨some b,270,2,[[.sl false 3 rows,qI u]]⟩)])) R (λ_ _=>False) R:=by
 cbv;refine hsz _ _ _ _ _ _ _ hrows hne rfl λq hq=>?_;have ho:P.i64 (P.sub q u):=by rw[sub_eq hP,hq];exact fm hP hi
 cbv;refine⟨ho,?_⟩;refine c _ _ _ ?_ (cd.refl _) rfl rfl;show P.sub q u=r;rw[sub_eq hP,hq,hr]
theorem Bt:Mq (dF Tryz.prog) 233 (λl u=>l≠[]/\oG l u) (λl u=>sP l-u) true:=U4 λb l u h=>
 sd hW HA _ (.int _ _) oH λR a=>HB cp rfl _ _ uA b l u h.1 (by
  obtain⟨h1,h2,h3⟩:=h;cases l with
  |nil=>exact absurd rfl h1
  |cons p l=>
   simp only at h3;have:=size_le (h2 p (by simp));simp only[sP];unfold kA;omega) _ rfl _ rfl R λs s' q hq he hr h0=>by subst hq;exact a s s' he (da _ _ _ (λx hx=>by subst hx;rfl) hr) h0
def k7(l:List Part)(u k:Int):BS:=match l with
 |[]=>[]
 |p::_=>if p.kind=2 then(p.text.drop u.toNat).take k.toNat else[]
def zc:AC:=qr [qo 4 (.mov (.c qe))] (qr [qo 5 (.mov (.c qe))] (qq (qr [qm 6 0,qn 7 6,qf 8 0 7,ql 9 8,qo 10 (.iaddr 3 (.t 9) (qk 0)),qf 11 0 10,ql 12 11,qc 13 .eql 12 2] (qu 13 (.region true [qm 14 0,qn 15 14,qf 16 0 15,ql 17 16,qo 18 (.iaddr 3 (.t 17) (qk 0)),qf 19 2 18,ql 20 19,qm 21 0,qn 22 21,qf 23 1 22,ql 24 23,qm 25 0,qn 26 25,qf 27 1 26,ql 28 27,qm 29 1,qb 30 .add 28 29,qo 31 (.slstr (.t 20) (some (.t 24)) (some (.t 30))),qm 5 31]) .skip)) (qq (qr [qm 32 0,qn 33 32,qf 34 1 33,ql 35 34,qm 36 1,qb 37 .add 35 36,qn 38 32,qf 39 1 38,qs 1 39 37] (qq (.region true [qm 40 0,qn 41 40,qf 42 1 41,ql 43 42,qm 44 0,qa 45 251 [.t 44],qb 46 .eql 43 45]) (qu 46 (qR [qm 47 0,qm 48 0,qm 49 0,qn 50 49,qf 51 0 50,ql 52 51,qo 53 (.slsl 3 (.t 52) (some (qk 1)) none),qn 54 47,qf 55 0 54,qs 1 55 53,qn 56 48,qf 57 1 56,⟨none,none,.store 1 (.t 57) (qk 0)⟩]) .skip))) (qr [qm 58 5,qm 4 58] .ret))))
theorem HE:fF Tryz.prog 232 Tryz.f232 zc [.t 4] 2 dS:=⟨Tryz.func232,by decide+kernel,by kernel_rfl,by kernel_rfl,by decide+kernel⟩
theorem HJ(P:Prim)(hP:P=cp)(T z:cm)(hsz:Mq z 251 (λl _=>l≠[]) (λl _=>sP l) false)(b:Nat)(kd n:Int)(t:BS)(l:List Part)(u k:Int)(hZ:oG (⟨kd,n,t⟩::l) u)(hk:0<=k/\u+k<=ds ⟨kd,n,t⟩)(rows:List (List V))(hrows:rows=(⟨kd,n,t⟩::l).map a7)
  (s':BS)(hs':s'=k7 (⟨kd,n,t⟩::l) u k)(rows':List (List V))(u':Int)(a:rows'=(eA (⟨kd,n,t⟩::l) u k).1.map a7)(e:u'=(eA (⟨kd,n,t⟩::l) u k).2)
  (R:S->Prop)(p:∀(s s2:S)(q:BS)(rows2:List (List V))(A:Int),q=s'->rows2=rows'->A=u'->cd s s2->ia [.t 4] [.str q] s2->s2.h 0=some (⟨some b,270,2,[[.sl false 3 rows2,qI A]]⟩)->R s):
  gE P T z zc (S0 [.ptr 0 (some b) 2 0 0,qI k] (a8 [(0,⟨some b,270,2,[[.sl false 3 rows,qI u]]⟩)])) R (λ_ _=>False) R:=by
 have hp:=hZ.1 ⟨kd,n,t⟩ (by simp);have r:=hZ.2;simp only at r;have C:=size_le hp;have f:P.row rows (P.nat 0) [qI kd,qI n,.str t]:=gz hP (i:=0) rfl (by rw[hrows];rfl);have ho:P.fK 0 0:=iJ hP qW;have g:P.i64 (P.add u k):=by rw[add_eq hP];exact fm hP qW
 have v:P.fK 0 u:=iJ hP qW;have w:P.fK u (P.add u k):=qy hP (by rw[add_eq hP];omega);have x:kd=2->P.fK (P.add u k) (P.b5 t):=λh2=>qy hP (by rw[add_eq hP,cA hP];simp[ds,h2] at hk;omega);have j:P.fK 0 1:=iJ hP qW;have m:P.fK 1 (P.cF rows):=qy hP (by rw[hX hP,hrows];simp;omega);have o:P.fK (P.cF rows) (P.cF rows):=qy hP (bn _);have es:kd=2->P.gZ t u (P.add u k)=(t.drop u.toNat).take k.toNat:=λh2=>by
  rw[add_eq hP];subst hP;show(t.take (u+k).toNat).drop u.toNat=_;rw[fC,show(u+k).toNat-u.toNat=k.toNat by omega]
 have B:P.ta rows 1 (P.cF rows)=l.map a7:=by
  rw[hX hP,hrows];subst hP;show(List.take ((_:Nat):Int).toNat _).drop (1:Int).toNat=_;simp[bT]
 cbv;refine⟨ho,_,f,?_⟩;cbv;refine a6 (λh=>?_) (λh=>?_)
 ·have hk2:kd=2:=mz hP h;have c:s'=P.gZ t u (P.add u k):=by rw[hs',es hk2];simp[k7,hk2]
  have y:=x hk2;cbv;refine⟨ho,_,f,?_⟩;cbv;refine⟨g,v,w,y,g,?_⟩;refine hsz _ _ _ _ _ _ _ hrows (by simp) rfl λq hq=>?_;have d:q=ds ⟨kd,n,t⟩:=hq;cbv;refine a6 (λh=>?_) (λh=>?_)
  ·have h2:P.add u k=q:=mz hP h;rw[add_eq hP,d] at h2;cbv;refine⟨j,m,o,?_⟩;refine p _ _ _ _ _ c.symm ?_ ?_ (cd.refl _) rfl rfl
   ·show P.ta rows 1 (P.cF rows)=rows';rw[B,a];simp[eA,h2]
   ·rw[e];simp[eA,h2]
  ·have h2:¬P.add u k=q:=mA hP h;rw[add_eq hP,d] at h2;cbv;refine p _ _ _ _ _ c.symm ?_ ?_ (cd.refl _) rfl rfl
   ·rw[a,hrows];simp[eA,h2]
   ·show P.add u k=u';rw[add_eq hP,e];simp[eA,h2]
 ·have hk2:¬kd=2:=mA hP h;have c:s'=[]:=by rw[hs'];simp[k7,hk2]
  cbv;refine⟨g,?_⟩;refine hsz _ _ _ _ _ _ _ hrows (by simp) rfl λq hq=>?_;have d:q=ds ⟨kd,n,t⟩:=hq;cbv;refine a6 (λh=>?_) (λh=>?_)
  ·have h2:P.add u k=q:=mz hP h;rw[add_eq hP,d] at h2;cbv;refine⟨j,m,o,?_⟩;refine p _ _ _ _ _ c.symm ?_ ?_ (cd.refl _) rfl rfl
   ·show P.ta rows 1 (P.cF rows)=rows';rw[B,a];simp[eA,h2]
   ·rw[e];simp[eA,h2]
  ·have h2:¬P.add u k=q:=mA hP h;rw[add_eq hP,d] at h2;cbv;refine p _ _ _ _ _ c.symm ?_ ?_ (cd.refl _) rfl rfl
   ·rw[a,hrows];simp[eA,h2]
   ·show P.add u k=u';rw[add_eq hP,e];simp[eA,h2]
theorem HM(b:Nat)(p:Part)(l:List Part)(u k:Int)(hZ:oG (p::l) u)(hk:0<=k/\u+k<=ds p):Spec Tryz.prog 232 [.ptr 0 (some b) 2 0 0,qI k] (a8 [(0,tq b ((p::l).map a7) u)])
  (λv h'=>∃L',(v=.str (k7 (p::l) u k)/\L'=[(0,tq b ((eA (p::l) u k).1.map a7) (eA (p::l) u k).2)])/\h'=a8 L'):=
 dE hW HE (L:=[(0,tq b ((p::l).map a7) u)]) (λv L'=>v=.str (k7 (p::l) u k)/\L'=[(0,tq b ((eA (p::l) u k).1.map a7) (eA (p::l) u k).2)]) λR a=>
  HJ cp rfl _ _ uA b p.kind p.n p.text l u k hZ hk _ rfl _ rfl _ _ rfl rfl R λs s2 q rows2 c h1 h2 h3 he hr h0=>by
   subst h1 h2 h3;exact a s s2 (.str (k7 (p::l) u k)) [(0,tq b ((eA (p::l) u k).1.map a7) (eA (p::l) u k).2)] he (da _ _ _ (λx hx=>by subst hx;rfl) hr) ⟨h0,trivial⟩ (.str _) (by intro p hp;simp at hp;subst hp;exact oH) ⟨rfl,rfl⟩
def OS(T:cm):Prop:=∀(k b:Nat)(p:Part)(l:List Part)(u n:Int)(rows:List (List V))(h:Hp)(K:V->Hp->Prop),rows=(p::l).map a7->oG (p::l) u->0<=n/\u+n<=ds p->h k=some ⟨some b,270,2,[[.sl false 3 rows,qI u]]⟩->
 (∀(q:BS)(rows':List (List V))(u':Int),q=k7 (p::l) u n->rows'=(eA (p::l) u n).1.map a7->u'=(eA (p::l) u n).2->K (.str q) (Hp.put h k ⟨some b,270,2,[[.sl false 3 rows',qI u']]⟩))->T 232 [.ptr k (some b) 2 0 0,qI n] h K
theorem RN:OS (dF Tryz.prog):=by
 rintro k b p l u n rows h K rfl hZ hn hk hK;refine Ce (HM b p l u n hZ hn) (λv L' h=>⟨_,h.2⟩) rfl (ri _ _ _) oH hk ?_;rintro v o' ⟨rfl,a⟩;simp only[cy,aX,fc,eH] at a;subst a;rw[ri];exact hK _ _ _ rfl rfl rfl
def Mr:AC:=qr [qo 2 (.mov (.c (.pointer none)))] (qr [qm 3 0,qo 4 (.build [(.slice none 0 0),q0] [(0,1,(.t 3))]),qo 5 (.box 270 2 (.t 4)),qm 2 5] .ret)
theorem Ms:fF Tryz.prog 230 Tryz.f230 Mr [.t 2] 1 dS:=⟨Tryz.func230,by decide+kernel,by kernel_rfl,by kernel_rfl,by decide+kernel⟩
theorem Mt(d:List Part):Spec Tryz.prog 230 [.sl false 3 (d.map a7)] (a8 []) (λv h'=>∃L',(∃b,v=.ptr 5 (some b) 2 0 0/\L'=[(5,tq b (d.map a7) 0)])/\h'=a8 L'):=
 dE hW Ms (L:=[]) (λv L'=>∃b,v=.ptr 5 (some b) 2 0 0/\L'=[(5,tq b (d.map a7) 0)]) λR c=>by
  have a:∀b,(tq b (d.map a7) 0).Fz:=λb=>oH;unfold tq at c a
  generalize d.map a7=rows at c a⊢
  cbv;intro β;exact c _ _ (.ptr 5 (some β) 2 0 0) [(5,_)] (cd.refl _) rfl ⟨rfl,trivial⟩ (.ptr _ _ _ _ _) (by intro p hp;simp at hp;subst hp;exact a β) ⟨β,rfl,rfl⟩
def OT(T:cm):Prop:=∀(k:Nat)(d:List Part)(rows:List (List V))(h:Hp)(K:V->Hp->Prop),rows=d.map a7->Nat.beq k 5=false->h k=none->(∀b:Nat,K (.ptr k (some b) 2 0 0) (Hp.put h k ⟨some b,270,2,[[.sl false 3 rows,qI 0]]⟩))->T 230 [.sl false 3 rows] h K
theorem RO:OT (dF Tryz.prog):=by
 rintro k d rows h K rfl hne hk hK;refine oe (Mt d) (m:=[(5,k)]) (.cons (.same _) .nil) (λj o hj=>by cases hj) (λq hq=>?_) ?_
 ·simp only[ag] at hq;subst hq;exact⟨by simp[gD],by simp[gP],λo ho=>by cases ho⟩
 ·rintro v L' ⟨b,rfl,rfl⟩;have e:h.jh [(5,k)] (a8 [(5,tq b (d.map a7) 0)])=Hp.put h k (tq b (d.map a7) 0):=by
   funext i
   by_cases h1:i=k
   ·subst h1;simp[Hp.jh,Hp.put,gP,a8,ri]
   ·have h2:¬k=i:=λe=>h1 e.symm;simp[Hp.jh,Hp.put,h1,h2]
  rw[e];have:(V.ptr 5 (some b) 2 0 0).gy (gD [(5,k)])=.ptr k (some b) 2 0 0:=by simp[V.gy,V.rl,gD]
  rw[this];exact hK b
def tt(st:BS×Bool):(BS×Bool)×Int:=if(gX st.1).2.2≠0 then((st.1,false),0) else((st.1.drop (gX st.1).2.1.toNat,st.2),(gX st.1).1)
def nK(s:BS):Nat->BS×Bool
 |0=>(s,true)
 |n+1=>(tt (nK s n)).1
def iX(s:BS)(i:Nat):Int:=(tt (nK s i)).2
theorem zd(s:BS)(n:Nat):nK s (n+1)=(tt (nK s n)).1:=rfl
theorem px(s:BS):∀n,(nK s n).1.length<=s.length
 |0=>ak _
 |n+1=>by
  have ih:=px s n;rw[zd,tt]
  split
  ·exact ih
  ·simp only[aP];omega
theorem HO(s:BS)(i:Nat):0<=iX s i/\iX s i<=2147483647:=by
 unfold iX tt
 split
 ·exact⟨bn 0,by show(0:Int)<=_;decide⟩
 ·rename_i h;obtain⟨k,_,_,_,_,h5,h6,_⟩:=oy (aK h);exact⟨h5,h6⟩
def HP(b:Nat)(s:BS):Ob:=⟨some b,9,1,[[.str s]]⟩
def HQ(b:Nat)(ok:Bool):Ob:=⟨some b,4,1,[[.bool ok]]⟩
def CF:AC:=qr [qz 4 0] (qr [qm 9 0,qn 10 9,ql 11 10,qa 12 261 [.t 11],qm 8 12,qx 13 0 8,qx 14 1 8,qx 15 2 8,qm 5 13,qm 6 14,qm 7 15] (qq (qr [qm 16 7,qc 17 .neq 16 0] (qu 17 (qr [qm 18 1,qn 19 18,⟨none,none,.store 1 (.t 19) (.c (.bool false))⟩] (qr [qz 4 0] .ret)) .skip)) (qr [qm 20 0,qm 21 0,qn 22 21,ql 23 22,qm 24 6,qo 25 (.slstr (.t 23) (some (.t 24)) none),qn 26 20,qs 1 26 25] (qr [qm 27 5,qm 4 27] .ret))))
theorem Mu:fF Tryz.prog 253 Tryz.f253 CF [.t 4] 2 dS:=⟨Tryz.func253,by decide+kernel,by kernel_rfl,by kernel_rfl,by decide+kernel⟩
theorem Mw(P:Prim)(hP:P=cp)(T i:cm)(b b2:Nat)(s:BS)(ok:Bool)(n k e:Int)(h1:hJ T 261 [.str s] (.tup [qI n,qI k,qI e]))(hk:e=0->0<=k/\k<=s.length)
  (s2:BS)(a:Bool)(v:Int)(g1:e≠0->s=s2/\false=a/\0=v)(g2:e=0->s.drop k.toNat=s2/\ok=a/\n=v)
  (R:S->Prop)(f:∀g s' x y z,x=s2/\y=a/\z=v->cd g s'->kH s' [.t 4] (λq=>kI q=qI z)->eP [(0,⟨some b,9,1,[[.str x]]⟩),(1,⟨some b2,4,1,[[.bool y]]⟩)] s'->R g):
  gE P T i CF (S0 [.ptr 0 (some b) 1 0 0,.ptr 1 (some b2) 1 0 0] (a8 [(0,⟨some b,9,1,[[.str s]]⟩),(1,⟨some b2,4,1,[[.bool ok]]⟩)])) R (λ_ _=>False) R:=by
 have c:P.b5 s=(s.length:Int):=cA hP s;cbv;refine h1 _ _ ?_;cbv;refine a6 (λh=>?_) (λh=>?_)
 ·have hx:=g1 (iG hP h);cbv
  repeat' first|(refine qA ?_;cbv)|(intro d;cbv)
  exact f _ _ _ _ _ hx (cd.refl _) rfl ⟨rfl,rfl,trivial⟩
 ·have he:=iy hP h;obtain⟨x1,x2,x3⟩:=g2 he;obtain⟨y1,y2⟩:=hk he;have l1:P.fK 0 k:=iJ hP y1;have l2:P.fK k (P.b5 s):=qy hP (by rw[c];exact y2);have j:P.fK (P.b5 s) (P.b5 s):=qy hP (bn _);have e1:P.gZ s k (P.b5 s)=s2:=by
   rw[c,<-x1];subst hP;show(s.take ((s.length:Int)).toNat).drop k.toNat=_;rw[aG,aN]
  cbv
  repeat' first|(refine qA ?_;cbv)|(intro d;cbv)
  exact f _ _ _ _ _ ⟨e1,x2,x3⟩ (cd.refl _) rfl ⟨rfl,rfl,trivial⟩
theorem HU(b:Nat)(s:BS):(HP b s).Fz:=by
 intro r hr v hv;simp only[HP,ag] at hr;subst hr;simp only[ag] at hv;subst hv;exact .str _
theorem HY(b:Nat)(ok:Bool):(HQ b ok).Fz:=by
 intro r hr v hv;simp only[HQ,ag] at hr;subst hr;simp only[ag] at hv;subst hv;exact .bool _
theorem Mx(b b2:Nat)(s:BS)(ok:Bool)(hs:s.length<=maxLen):Spec Tryz.prog 253 [.ptr 0 (some b) 1 0 0,.ptr 1 (some b2) 1 0 0] (a8 [(0,HP b s),(1,HQ b2 ok)])
  (λv h'=>∃L',(v=qI (tt (s,ok)).2/\L'=[(0,HP b (tt (s,ok)).1.1),(1,HQ b2 (tt (s,ok)).1.2)])/\h'=a8 L'):=
 dE hW Mu (L:=[(0,HP b s),(1,HQ b2 ok)]) (λv L'=>v=qI (tt (s,ok)).2/\L'=[(0,HP b (tt (s,ok)).1.1),(1,HQ b2 (tt (s,ok)).1.2)]) λR a=>
  Mw cp rfl _ _ b b2 s ok (gX s).1 (gX s).2.1 (gX s).2.2 (gK (Cw s hs) (λ_=>fX rfl) rfl) Hi (tt (s,ok)).1.1 (tt (s,ok)).1.2 (tt (s,ok)).2
   (λh=>by unfold tt;rw[ab h];exact⟨rfl,rfl,rfl⟩) (λh=>by unfold tt;rw[aa (λg=>g h)];exact⟨rfl,rfl,rfl⟩) R
   λc s' x y z h he hr ha=>by
    obtain⟨rfl,rfl,rfl⟩:=h;exact a c s' _ [(0,_),(1,_)] he hr ha (.int _ _) (by intro p hp;simp at hp;rcases hp with rfl|rfl;exact HU _ _;exact HY _ _) ⟨rfl,rfl⟩
theorem CG(b:Nat)(s:BS)(f:Nat->Nat):(HP b s).gy f=HP b s:=by simp[Ob.gy,HP,V.rl]
theorem CH(b:Nat)(ok:Bool)(f:Nat->Nat):(HQ b ok).gy f=HQ b ok:=by simp[Ob.gy,HQ,V.rl]
def TP(T:cm):Prop:=∀(k c b b2:Nat)(s:BS)(ok:Bool)(h:Hp)(K:V->Hp->Prop),s.length<=maxLen->Nat.beq k c=false->h k=some ⟨some b,9,1,[[.str s]]⟩->h c=some ⟨some b2,4,1,[[.bool ok]]⟩->
 (∀(s2:BS)(a:Bool)(v:Int),(s2,a)=(tt (s,ok)).1/\v=(tt (s,ok)).2->K (qI v) (Hp.put (Hp.put h k ⟨some b,9,1,[[.str s2]]⟩) c ⟨some b2,4,1,[[.bool a]]⟩))->
 T 253 [.ptr k (some b) 1 0 0,.ptr c (some b2) 1 0 0] h K
theorem U5:TP (dF Tryz.prog):=by
 intro k d b b2 s ok h K hs hne hk hk2 hK;have a:k≠d:=by intro e;subst e;rw[bY] at hne;cases hne
 have c:¬d=k:=λe=>a e.symm;refine oe (m:=[(0,k),(1,d)]) (Mx b b2 s ok hs) (.cons ?_ (.cons ?_ .nil)) (λj q hj=>?_) (λp hp=>?_) ?_
 ·have:=Arg.same (h:=h) (m:=[(0,k),(1,d)]) (.ptr k (some b) 1 0 0);simpa[V.gy,V.rl,gP] using this
 ·have:=Arg.same (h:=h) (m:=[(0,k),(1,d)]) (.ptr d (some b2) 1 0 0);simpa[V.gy,V.rl,gP,c,a] using this
 ·simp only[a8] at hj
  split at hj
  ·rename_i h0;exact⟨(0,k),by simp,h0.symm⟩
  ·split at hj
   ·rename_i h0;exact⟨(1,d),by simp,h0.symm⟩
   ·cases hj
 ·simp only[ah,aq,aQ] at hp
  rcases hp with rfl|rfl
  ·refine⟨by simp[gD],by simp[gP],λx hx=>?_⟩;simp only[a8,↓reduceIte,aC] at hx;subst hx;exact⟨by rw[hk,aJ];exact ay some (CG b s _),HU _ _⟩
  ·refine⟨by simp[gD],by simp[gP,c],λx hx=>?_⟩;simp[a8] at hx;subst hx;exact⟨by rw[hk2,aJ];exact ay some (CH b2 ok _),HY _ _⟩
 ·rintro v L' ⟨rfl,rfl⟩;have e:h.jh [(0,k),(1,d)] (a8 [(0,HP b (tt (s,ok)).1.1),(1,HQ b2 (tt (s,ok)).1.2)])=Hp.put (Hp.put h k (HP b (tt (s,ok)).1.1)) d (HQ b2 (tt (s,ok)).1.2):=by
   funext i
   simp only[Hp.jh,Hp.put,bZ,cE,cw,bq,bM]
   by_cases h1:d=i
   ·subst h1;rw[ab (.inr rfl),ab rfl];simp[gP,a8,a,c,CH]
   ·by_cases h2:k=i
    ·subst h2;rw[ab (.inl rfl),aa (λe=>h1 e.symm),ab rfl];simp[gP,a8,CG]
    ·rw[aa (by rintro(h|h);exact h2 h;exact h1 h),aa (λe=>h1 e.symm),aa (λe=>h2 e.symm)]
  rw[e];exact hK _ _ _ ⟨rfl,rfl⟩
def CI:AC:=qr [qo 1 (.box 9 1 (.t 0)),qo 2 (.alloc 100 Lc),qo 3 (.mov (.c (.bool false)))] (qr [qo 4 (.alloc 4 [(.bool false)]),⟨none,none,.store 1 (.t 4) (.c (.bool true))⟩] (qr [qa 7 253 [.t 1,.t 4],qa 8 253 [.t 1,.t 4],qo 9 (.build Lc [(0,1,(.t 7)),(1,1,(.t 8))]),qo 5 (.alloc 100 Lc),qs 38 5 9] (qq (qr [qz 10 0] (.block 0 (.loop (qr [qc 11 .lss 10 8] (qq (qu 11 .skip (.exit 0)) (qq (.block 1 (qr [qm 12 10,qm 6 12] (qR [qm 13 6,qa 14 253 [.t 1,.t 4],qa 15 253 [.t 1,.t 4],qo 16 (.build K1 [(0,1,(.t 14)),(1,1,(.t 15))]),qf 17 3 5,qo 18 (.iarr 8 2 (.t 17) (.t 13)),qs 2 18 16]))) (qR [qc 19 .add 10 1,qm 10 19]))))))) (qr [qf 20 3 5,qd 21 16 20,qf 22 19 5,qs 16 22 21] (qr [ql 23 1,qf 24 2 5,qs 1 24 23] (qq (.mc [(qd 25 38 5,[]),(ql 26 4,[]),(qm 27 26,[1]),(qg 28 27 true (.load1 (.t 1)),[2]),(qg 29 27 true (.len true (.t 28)),[3,2]),(qg 30 27 true (.bin .leq (.t 29) (qk 500)),[4,2]),(qo 31 (.pick (.t 27) (.t 30) (.c (.bool false))),[2,5]),(qs 38 2 25,[0,2,0]),(qm 3 31,[6,7,0,1,2,3,4,5,6,7])]) .ret))))))
theorem My:fF Tryz.prog 237 Tryz.f237 CI [.cn 2 38,.t 3] 1 dS:=⟨Tryz.func237,by decide+kernel,by kernel_rfl,by kernel_rfl,by decide+kernel⟩
structure Wf(s:BS) where
 i:Nat
 k:Int
 cs:BS
 ok:Bool
 f:Nat->Int
 hi:i<=8
 hk:k=(i:Int)
 hs:(cs,ok)=nK s (2+2*i)
 hf:∀j,j<16->f j=if j<2*i then iX s (j+2) else 0
theorem Mz(P:Prim)(hP:P=cp)(T T1:cm)(s:BS)(hs:s.length<=maxLen)(m:TP T)
  (g0 g1:Int)(hg0:g0=iX s 0)(hg1:g1=iX s 1)(F:Nat->Int)(hF:∀j,j<16->F j=iX s (j+2))(rs:BS)(ro:Bool)(u:rs=(nK s 18).1)(n:ro=((nK s 18).2&&decide ((nK s 18).1.length<=500)))
  (R:S->Prop)(W:∀s0 s'(f:Nat->Int)(cs:BS)(x:Bool),(∀j,j<16->f j=F j)->cs=rs->x=ro->cd s0 s'->ia [.cn 2 38,.t 3] [.agg [qI g0,qI g1,.str cs,qI (f 0),qI (f 1),qI (f 2),qI (f 3),qI (f 4),qI (f 5),qI (f 6),qI (f 7),qI (f 8),qI (f 9),qI (f 10),qI (f 11),qI (f 12),qI (f 13),qI (f 14),qI (f 15),qI (f 0),qI (f 1),qI (f 2),qI (f 3),qI (f 4),qI (f 5),qI (f 6),qI (f 7),qI (f 8),qI (f 9),qI (f 10),qI (f 11),qI (f 12),qI (f 13),qI (f 14),qI (f 15),.nilsl,.bool false,qI 0],.bool x] s'->R s0):gE P T T1 CI (S0 [.str s] Hp.emp) R (λ_ _=>False) R:=by
 have v:∀i:Nat,i<8->P.fK 0 (i:Int)/\P.iq (i:Int) 8:=λi hi=>⟨iJ hP qW,lk hP qW⟩;have hN:∀i:Nat,P.nat (i:Int)=i:=λi=>by subst hP;rfl
 cbv;intro w;cbv;intro o;cbv;intro z;cbv
 repeat' first|(refine qA ?_;cbv)|(intro o;cbv)
 refine m _ _ _ _ s true _ _ hs rfl rfl rfl λs1 A v1 h1=>?_;obtain⟨B,C⟩:=h1;have e1:(s1,A)=nK s 1:=B;have l1:s1.length<=maxLen:=by have:=px s 1;rw[<-e1] at this;exact aV this hs
 cbv;refine m _ _ _ _ s1 A _ _ l1 rfl rfl rfl λs2 D v2 h2=>?_;obtain⟨E,G⟩:=h2;have e2:(s2,D)=nK s 2:=by rw[E,e1];rfl
 have X:g0=v1:=by rw[C,hg0];rfl
 have Y:g1=v2:=by rw[G,hg1,e1];rfl
 subst X Y;clear B C E G;cbv;intro H;cbv
 repeat' first|(refine qA ?_;cbv)|(intro o;cbv)
 refine⟨Wf s,λy=>[(1,.ptr 1 (some w) 1 0 0),(2,.ptr 2 (some o) 38 0 0),(4,.ptr 4 (some z) 1 0 0),(5,.ptr 5 (some H) 38 0 0),(10,qI y.k)],
  λy=>[(1,⟨some w,9,1,[[.str y.cs]]⟩),(2,⟨some o,100,38,[[qI 0,qI 0,.str [],qI 0,qI 0,qI 0,qI 0,qI 0,qI 0,qI 0,qI 0,qI 0,qI 0,qI 0,qI 0,qI 0,qI 0,qI 0,qI 0,qI 0,qI 0,qI 0,qI 0,qI 0,qI 0,qI 0,qI 0,qI 0,qI 0,qI 0,qI 0,qI 0,qI 0,qI 0,qI 0,.nilsl,.bool false,qI 0]]⟩),(4,⟨some z,4,1,[[.bool y.ok]]⟩),(5,⟨some H,100,38,[[qI g0,qI g1,.str [],qI (y.f 0),qI (y.f 1),qI (y.f 2),qI (y.f 3),qI (y.f 4),qI (y.f 5),qI (y.f 6),qI (y.f 7),qI (y.f 8),qI (y.f 9),qI (y.f 10),qI (y.f 11),qI (y.f 12),qI (y.f 13),qI (y.f 14),qI (y.f 15),qI 0,qI 0,qI 0,qI 0,qI 0,qI 0,qI 0,qI 0,qI 0,qI 0,qI 0,qI 0,qI 0,qI 0,qI 0,qI 0,.nilsl,.bool false,qI 0]]⟩)],λy=>8-y.i,
  ⟨_,cd.refl _,⟨0,0,s2,D,λ_=>0,qW,rfl,e2,λj _=>by simp⟩,⟨rfl,rfl,rfl,rfl,rfl,trivial⟩,⟨rfl,rfl,rfl,rfl,trivial⟩⟩,?_⟩
 rintro⟨i,k,cs,ok,f,hi,hk,hcs,hf⟩;have lc:cs.length<=maxLen:=by have:=px s (2+2*i);rw[<-hcs] at this;exact aV this hs
 cbv;refine a6 (λg=>?_) (λg=>?_)
 ·have h5:k<8:=gM hP g;have p:i<8:=by((try simp only[nc] at*);omega)
  have q1:P.fK 0 k:=(by have:=(v i p).1;rw[<-hk] at this;exact this);have q2:P.iq k 8:=(by have:=(v i p).2;rw[<-hk] at this;exact this);have m3:P.i64 (P.add k 1):=by rw[add_eq hP];exact fm hP qO
  have e1:P.add k 1=((i+1:Nat):Int):=by rw[add_eq hP,hk];((try simp only[nc] at*);omega)
  have e:P.nat k=i:=by rw[hk];exact hN i
  cbv;refine m _ _ _ _ cs ok _ _ lc rfl rfl rfl λs3 I v3 h3=>?_;obtain⟨J,K⟩:=h3;have V:(s3,I)=nK s (3+2*i):=by rw[J,hcs,show 3+2*i=(2+2*i)+1 by omega];rfl
  have l3:s3.length<=maxLen:=by have:=px s (3+2*i);rw[<-V] at this;exact aV this hs
  cbv;refine m _ _ _ _ s3 I _ _ l3 rfl rfl rfl λq d v4 h4=>?_;obtain⟨L,M⟩:=h4;have r:(q,d)=nK s (2+2*(i+1)):=by rw[L,V,show 2+2*(i+1)=(3+2*i)+1 by omega];rfl
  have N:v3=iX s (2+2*i):=by rw[K,hcs];rfl
  have O:v4=iX s (3+2*i):=by rw[M,V];rfl
  have fin:∀Q:Nat->Int,Q (2*i)=v3->Q (2*i+1)=v4->(∀j,j≠2*i->j≠2*i+1->Q j=f j)->∀j,j<16->Q j=if j<2*(i+1) then iX s (j+2) else 0:=by
   intro Q a b c j hj
   by_cases j1:j=2*i
   ·subst j1;rw[a,ab qW,N];congr 1;omega
   ·by_cases j2:j=2*i+1
    ·subst j2;rw[b,ab qW,O];congr 1;omega
    ·rw[c j j1 j2,hf j hj]
     by_cases j3:j<2*i
     ·rw[ab j3,ab qW]
     ·rw[aa j3,aa qW]
  have hc:i=0\/i=1\/i=2\/i=3\/i=4\/i=5\/i=6\/i=7:=by omega
  clear W hF hg0 hg1 u n J K L M V l3 N O h5 g;cbv
  rcases hc with rfl|rfl|rfl|rfl|rfl|rfl|rfl|rfl
  ·refine⟨q1,q2,0,e,?_⟩;cbv;refine⟨m3,?_⟩;exact⟨_,cd.refl _,⟨0+1,_,q,d,λj=>if j=0 then v3 else if j=1 then v4 else f j,qD,e1,r,fin _ rfl rfl (λj h1 h2=>(aa h1).trans (aa h2))⟩,⟨rfl,rfl,rfl,rfl,rfl,trivial⟩,⟨rfl,rfl,rfl,rfl,trivial⟩,by show 8-(0+1)<8-0;decide⟩
  ·refine⟨q1,q2,1,e,?_⟩;cbv;refine⟨m3,?_⟩;exact⟨_,cd.refl _,⟨1+1,_,q,d,λj=>if j=2 then v3 else if j=3 then v4 else f j,qD,e1,r,fin _ rfl rfl (λj h1 h2=>(aa h1).trans (aa h2))⟩,⟨rfl,rfl,rfl,rfl,rfl,trivial⟩,⟨rfl,rfl,rfl,rfl,trivial⟩,by show 8-(1+1)<8-1;decide⟩
  ·refine⟨q1,q2,2,e,?_⟩;cbv;refine⟨m3,?_⟩;exact⟨_,cd.refl _,⟨2+1,_,q,d,λj=>if j=4 then v3 else if j=5 then v4 else f j,qD,e1,r,fin _ rfl rfl (λj h1 h2=>(aa h1).trans (aa h2))⟩,⟨rfl,rfl,rfl,rfl,rfl,trivial⟩,⟨rfl,rfl,rfl,rfl,trivial⟩,by show 8-(2+1)<8-2;decide⟩
  ·refine⟨q1,q2,3,e,?_⟩;cbv;refine⟨m3,?_⟩;exact⟨_,cd.refl _,⟨3+1,_,q,d,λj=>if j=6 then v3 else if j=7 then v4 else f j,qD,e1,r,fin _ rfl rfl (λj h1 h2=>(aa h1).trans (aa h2))⟩,⟨rfl,rfl,rfl,rfl,rfl,trivial⟩,⟨rfl,rfl,rfl,rfl,trivial⟩,by show 8-(3+1)<8-3;decide⟩
  ·refine⟨q1,q2,4,e,?_⟩;cbv;refine⟨m3,?_⟩;exact⟨_,cd.refl _,⟨4+1,_,q,d,λj=>if j=8 then v3 else if j=9 then v4 else f j,qD,e1,r,fin _ rfl rfl (λj h1 h2=>(aa h1).trans (aa h2))⟩,⟨rfl,rfl,rfl,rfl,rfl,trivial⟩,⟨rfl,rfl,rfl,rfl,trivial⟩,by show 8-(4+1)<8-4;decide⟩
  ·refine⟨q1,q2,5,e,?_⟩;cbv;refine⟨m3,?_⟩;exact⟨_,cd.refl _,⟨5+1,_,q,d,λj=>if j=10 then v3 else if j=11 then v4 else f j,qD,e1,r,fin _ rfl rfl (λj h1 h2=>(aa h1).trans (aa h2))⟩,⟨rfl,rfl,rfl,rfl,rfl,trivial⟩,⟨rfl,rfl,rfl,rfl,trivial⟩,by show 8-(5+1)<8-5;decide⟩
  ·refine⟨q1,q2,6,e,?_⟩;cbv;refine⟨m3,?_⟩;exact⟨_,cd.refl _,⟨6+1,_,q,d,λj=>if j=12 then v3 else if j=13 then v4 else f j,qD,e1,r,fin _ rfl rfl (λj h1 h2=>(aa h1).trans (aa h2))⟩,⟨rfl,rfl,rfl,rfl,rfl,trivial⟩,⟨rfl,rfl,rfl,rfl,trivial⟩,by show 8-(6+1)<8-6;decide⟩
  ·refine⟨q1,q2,7,e,?_⟩;cbv;refine⟨m3,?_⟩;exact⟨_,cd.refl _,⟨7+1,_,q,d,λj=>if j=14 then v3 else if j=15 then v4 else f j,qD,e1,r,fin _ rfl rfl (λj h1 h2=>(aa h1).trans (aa h2))⟩,⟨rfl,rfl,rfl,rfl,rfl,trivial⟩,⟨rfl,rfl,rfl,rfl,trivial⟩,by show 8-(7+1)<8-7;decide⟩
 ·have h5:¬k<8:=gN hP g;have p:i=8:=by((try simp only[nc] at*);omega)
  subst p;have l:(cs,ok)=nK s 18:=hcs;have r1:cs=rs:=by rw[u,<-l]
  have U:∀j,j<16->f j=F j:=λj hj=>by rw[hf j hj,ab qW,hF j hj]
  have hle:P.le (P.b5 cs) 500=decide (cs.length<=500):=by rw[cA hP];subst hP;show decide ((cs.length:Int)<=500)=_;exact decide_eq_decide.2 qW
  have r2:ok=true->P.le (P.b5 cs) 500=ro:=λh=>by rw[hle,n,<-l,h];rfl
  have r3:ok=false->false=ro:=λh=>by rw[n,<-l,h];rfl
  clear l u n hF hg0 hg1
  rcases ok with _|_
  ·have Z:=r3 rfl;cbv
   repeat'(refine yr.mk ?_ ?_)
   all_goals exact W _ _ f cs _ U r1 Z (cd.refl _) ⟨rfl,rfl,ax 0,ak 38,rfl⟩
  ·have Z:=r2 rfl;cbv
   repeat'(refine yr.mk ?_ ?_)
   all_goals exact W _ _ f cs _ U r1 Z (cd.refl _) ⟨rfl,rfl,ax 0,ak 38,rfl⟩
def CJ(s:BS):V:=.agg [.int .i64 (iX s 0),.int .i64 (iX s 1),.str (nK s 18).1,.int .i64 (iX s (0+2)),.int .i64 (iX s (1+2)),.int .i64 (iX s (2+2)),.int .i64 (iX s (3+2)),.int .i64 (iX s (4+2)),.int .i64 (iX s (5+2)),.int .i64 (iX s (6+2)),.int .i64 (iX s (7+2)),.int .i64 (iX s (8+2)),.int .i64 (iX s (9+2)),.int .i64 (iX s (10+2)),.int .i64 (iX s (11+2)),.int .i64 (iX s (12+2)),.int .i64 (iX s (13+2)),.int .i64 (iX s (14+2)),.int .i64 (iX s (15+2)),.int .i64 (iX s (0+2)),.int .i64 (iX s (1+2)),.int .i64 (iX s (2+2)),.int .i64 (iX s (3+2)),.int .i64 (iX s (4+2)),.int .i64 (iX s (5+2)),.int .i64 (iX s (6+2)),.int .i64 (iX s (7+2)),.int .i64 (iX s (8+2)),.int .i64 (iX s (9+2)),.int .i64 (iX s (10+2)),.int .i64 (iX s (11+2)),.int .i64 (iX s (12+2)),.int .i64 (iX s (13+2)),.int .i64 (iX s (14+2)),.int .i64 (iX s (15+2)),.nilsl,.bool false,.int .i64 0]
def V.S7:V->Bool
 |.int _ _=>true
 |.str _=>true
 |.bool _=>true
 |.nilsl=>true
 |_=>false
theorem HZ:∀{l:List V},l.all V.S7=true->∀v∈l,Fz v
 |[],_,v,h=>by cases h
 |a::l,h,v,hv=>by
  simp only[eX,aO] at h
  rcases ah.1 hv with rfl|hv
  ·have:=h.1;cases v<;>first|exact .int _ _|exact .str _|exact .bool _|exact .nilsl|(simp[V.S7] at this)
  ·exact HZ h.2 v hv
theorem H0(s:BS):Fz (CJ s):=.agg _ (HZ rfl)
def mI(s:BS):Bool:=(nK s 18).2&&decide ((nK s 18).1.length<=500)
theorem MA(s:BS)(hs:s.length<=maxLen):Spec Tryz.prog 237 [.str s] Hp.emp (Is (.tup [CJ s,.bool (mI s)])):=
 ed hW My [CJ s,.bool (mI s)] (.tup _ (λv hv=>by
  rcases ah.1 hv with rfl|hv
  ·exact H0 s
  ·rw[ag.1 hv];exact .bool _)) λR a=>Mz cp rfl _ _ s hs U5 (iX s 0) (iX s 1) rfl rfl (λj=>iX s (j+2)) (λ_ _=>rfl) (nK s 18).1 (mI s) rfl rfl R
  λb s' f cs x hf hcs hx he hr=>by
   refine a b s' he ?_;unfold CJ;rw[hcs,hx,hf 0 qD,hf 1 qD,hf 2 qD,hf 3 qD,hf 4 qD,hf 5 qD,hf 6 qD,hf 7 qD,hf 8 qD,hf 9 qD,hf 10 qD,hf 11 qD,hf 12 qD,hf 13 qD,hf 14 qD,hf 15 qD] at hr;exact hr
end Go.Proofs.YtajdadcdcpnedaaGreatDoor.AM
