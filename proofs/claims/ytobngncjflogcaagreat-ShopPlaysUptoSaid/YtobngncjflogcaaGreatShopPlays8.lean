/-
  Part 8 of what the law ShopPlays reaches: the plain machine, contracts of the functions and plain laws; each lemma says its own condition.
-/
import Derived.WalkKit
import Derived.Lib.Strings
import Derived.Laws.Bits128
import Derived.Laws.BitsAllLaws
import Derived.Test.YtobngncjflogcaaGreatRows
import Derived.WalkSpells
import Derived.WalkLawsBesides
import Derived.Lib.Hide
import Derived.Laws.IdiomStrings
import Derived.Deep.RegionWith
import Derived.BigQuiet
import Derived.Test.YtobngncjflogcaaGreatShopPlays4
import Derived.Test.YtobngncjflogcaaGreatShopPlays7
namespace Go
def World.ob(w:World)(g:Nat)(T:TypeId)(cs:Array Value):World:= {w with heap:=w.heap.setIfInBounds g (.cells cs T (0,0))}
end Go
set_option linter.unusedSimpArgs false
set_option linter.unusedVariables false
namespace Go.Proofs.YtobngncjflogcaaGreat
open Go.RowKit
def bt(n:Nat):UInt8:=UInt8.ofNat n
theorem ni(n:Nat)(h:n<256):(bt n).toNat=n:=by
 unfold bt;rw[dz];omega
def nm:Nat->Nat->BS
 |0,_=>[]
 |f+1,n=>if n<128 then[bt n] else bt (128+n%128)::nm f (n/128)
def iE(n:Nat):BS:=nm 5 n
theorem ju(f n:Nat)(h:n<128):nm (f+1) n=[bt n]:=by simp[nm,h]
theorem lP(f n:Nat)(h:¬n<128):nm (f+1) n=bt (128+n%128)::nm f (n/128):=by simp[nm,h]
theorem pE(f n:Nat):(nm f n).length<=f:=by
 induction f generalizing n with
 |zero=>simp[nm]
 |succ f ih=>
  unfold nm
  split
  ·simp
  ·have:=ih (n/128);simp;omega
def val:BS->Nat
 |[]=>0
 |b::r=>b.toNat%128+128*val r
def hi(b:UInt8):Bool:=128<=b.toNat
def lead(l:BS):Nat:=(l.takeWhile hi).length
theorem DG(l:BS):lead l<=l.length:=(List.takeWhile_sublist _).length_le
theorem lu(b:UInt8)(r:BS)(h:128<=b.toNat):lead (b::r)=lead r+1:=by
 have:hi b=true:=by simp[hi,h]
 simp[lead,List.takeWhile_cons,this]
theorem mN(b:UInt8)(r:BS)(h:b.toNat<128):lead (b::r)=0:=by
 have:hi b=false:=by simp[hi];omega
 simp[lead,List.takeWhile_cons,this]
def gx(l:BS):Int×Int×Int:=
 if 5<=lead l then(0,0,3)
 else if lead l=l.length then(0,0,5)
 else if 2147483647<val (l.take (lead l+1))\/(0<lead l/\l[lead l]? =some 0) then(0,0,3)
 else(val (l.take (lead l+1)),lead l+1,0)
inductive vq:BS->Prop
 |one (b:UInt8):b.toNat<128->vq [b]
 |more (b:UInt8) (r:BS):128<=b.toNat->vq r->vq (b::r)
theorem sZ:∀(l:BS),lead l<l.length->vq (l.take (lead l+1))
 |[],h=>by simp at h
 |b::r,h=>by
  by_cases hb:128<=b.toNat
  ·rw[lu b r hb] at h⊢;exact .more b _ hb (sZ r (by simp at h;omega))
  ·rw[mN b r qW];simpa using vq.one b qW
theorem uj{l:BS}(h:vq l)(hl:l.getLast? ≠some 0):0<val l:=by
 induction h with
 |one b hb=>
  have:b≠0:=λe=>hl (by simp[e]);have:b.toNat≠0:=λe=>this (fc.1 (by simpa using e));simp[val];omega
 |more b r hb hr ih=>
  have a:r≠[]:=by cases hr<;>simp
  have:=ih (by rwa[cj a] at hl);simp[val];omega
theorem tN(f:Nat):∀{l:BS},vq l->l.length<=f->(nm f (val l)=l↔(l.length=1\/l.getLast? ≠some 0)):=by
 induction f with
 |zero=>intro l h hl;cases h<;>simp at hl
 |succ f ih=>
  intro l h hl;cases h with
  |one b hb=>
   have:val [b]=b.toNat:=by simp[val];omega
   rw[this,ju f _ hb];simp[bt,UInt8.ofNat_toNat]
  |more b r hb hr=>
   have a:r≠[]:=by cases hr<;>simp
   have hlen:1<=r.length:=by cases hr<;>simp
   have hb2:=b.toNat_lt;rw[cj a];simp at hl;have h1:val (b::r)/128=val r:=by simp[val];omega
   have h2:128+val (b::r)%128=b.toNat:=by simp[val];omega
   have d:bt (128+val (b::r)%128)=b:=by rw[h2];simp[bt,UInt8.ofNat_toNat]
   constructor
   ·intro e
    right
    intro hz
    by_cases hs:val (b::r)<128
    ·rw[ju f _ hs] at e
     injection e with e1 g
     exact a g.symm
    ·rw[lP f _ hs,h1] at e
     injection e with e1 g
     rcases(ih hr hl).1 g with h3|h3
     ·match r,h3,hz with
      |[c],_,hz=>
       simp at hz;subst hz;simp[val] at hs;omega
     ·exact h3 hz
   ·rintro(h3|h3)
    ·simp at h3;exact absurd h3 a
    ·have hp:=uj hr h3;have hs:¬val (b::r)<128:=by have e:val (b::r)=b.toNat%128+128*val r:=rfl;omega
     rw[lP f _ hs,h1,d,(ih hr hl).2 (.inr h3)]
theorem IM(l:BS)(b:UInt8):val (l++[b])=val l+b.toNat%128*128^l.length:=by
 induction l with
 |nil=>simp[val]
 |cons c r ih=>
  simp only[aK,val,ih,au,e7];rw[Nat.mul_add,dJ (128^r.length) 128,<-Nat.mul_assoc,<-Nat.mul_assoc,dJ 128 (b.toNat%128)];omega
theorem ya(l:BS):val l<128^l.length:=by
 induction l with
 |nil=>simp[val]
 |cons c r ih=>simp only[val,au,e7];omega
theorem M5(n x:Int)(i:Nat)(hi:i<=4)(b:0<=n)(c:n<128^i)(d:0<=x)(g:x<128):bits .or .i64 n (x*128^i)=n+x*128^i:=by
 have hc:bits .or .i64 n (x*128^i)=bits .or .i64 (x*128^i) n:=by simp only[bits,BitVec.or_comm]
 have e:(128:Int)^i=2^(7*i):=by rw[Int.pow_mul];rfl
 have a:∀n:Int,0<=n->n<2^62->IntKind.i64.wrap n=n:=λn h0 h1=>by rw[IntKind.wrap_i64];omega
 have hp:(128:Int)^i<=268435456:=by
  have h:128^i<=128^4:=b9 qD hi;have h2:((128^i:Nat):Int)<=268435456:=by omega
  rwa[du] at h2
 have j:(0:Int)<128^i:=Int.pow_pos qD;have hx:x*128^i<=127*128^i:=dQ qW qW;have f:0<=x*128^i:=Int.mul_nonneg d qW;rw[hc,bits_join .i64 62 qD a (7*i) (x*128^i) n f (by rw[e];exact eJ _ _) qW b (by rw[<-e];exact c) qW];omega
theorem FB:∀a:Nat,a<256->a|||128=128+a%128:=by decide+kernel
theorem TF(m:Nat):bits .or .u8 ((m:Int)%256) 128=128+(m:Int)%128:=by
 have h1:((m:Int)%256)=((m%256:Nat):Int):=by omega
 have h2:=u8_or_nat (m%256) 128 qW qW;rw[h1];refine h2.trans ?_;rw[FB _ qW];omega
def nq(l:BS):List Value:=l.map (λb=>.int .u8 b.toNat)
theorem q6(l:BS)(b:UInt8):nq (l++[b])=nq l++[.int .u8 b.toNat]:=by simp[nq]
theorem yb:∀(l:BS)(k:Nat),k<=l.length->(∀j(h:j<l.length),j<k->128<=l[j].toNat)->k<=lead l
 |_,0,_,_=>aP _
 |[],k+1,h,_=>by simp at h
 |b::r,k+1,h,H=>by
  have hb:128<=b.toNat:=H 0 (by simp) qW;rw[lu b r hb];have:=yb r k (by simpa using h) (λj hj a=>H (j+1) (by simp;omega) qW);omega
theorem r7:∀(l:BS)(k:Nat)(h:k<l.length),(∀j(h:j<l.length),j<k->128<=l[j].toNat)->l[k].toNat<128->lead l=k
 |[],k,h,_,_=>by simp at h
 |b::r,0,_,_,hb=>mN b r (by simpa using hb)
 |b::r,k+1,h,H,hb=>by
  have wv:128<=b.toNat:=H 0 (by simp) qW;rw[lu b r wv,r7 r k (by simpa using h) (λj hj a=>H (j+1) (by simp;omega) qW) (by simpa using hb)]
def qP(s:ByteArray)(k:Nat):Prop:=∀j(h:j<s.size),j<k->128<=s[j].toNat
theorem qP.list{s:ByteArray}{k:Nat}(H:qP s k):∀j(h:j<s.data.toList.length),j<k->128<=(s.data.toList)[j].toNat:=λj h hj=>by
 have:=H j (by simpa using h) hj;rw[dY];exact this
theorem qP.snoc{s:ByteArray}{k:Nat}(H:qP s k)(h:k<s.size)(hb:128<=s[k].toNat):qP s (k+1):=λj hj a=>by
 by_cases e:j=k
 ·subst e;exact hb
 ·exact H j hj qW
theorem uA(s:ByteArray)(k:Nat)(h:k<s.size)(H:qP s k)(hb:s[k].toNat<128):lead s.data.toList=k:=
 r7 _ k (by simpa using h) H.list (by rw[dY];exact hb)
theorem pF(s:ByteArray):s.data.toList.length=s.size:=by simp
theorem IN(s:ByteArray)(H:qP s s.size):lead s.data.toList=s.size:=
 Nat.le_antisymm (by rw[<-pF];exact DG _) (yb _ _ (by simp) H.list)
theorem FC(s:ByteArray)(h:4<s.size)(H:qP s 5):5<=lead s.data.toList:=yb _ _ (by simp;omega) H.list
theorem DH(s:ByteArray)(k:Nat)(h:k<s.size):s.data.toList[k]? =some s[k]:=by
 rw[af (by simpa using h)];simp;rfl
theorem DI(s:ByteArray)(k:Nat)(h:k<s.size)(hk:k<=4)(H:qP s k)(hb:s[k].toNat<128)(hz:s[k].toNat≠0\/k=0)(hv:val (s.data.toList.take (k+1))<=2147483647):
  gx s.data.toList=((val (s.data.toList.take (k+1)):Int),(k:Int)+1,0):=by
 unfold gx;rw[uA s k h H hb,pF,aa qW,aa qW,aa];rw[DH s k h];rintro(h1|⟨h1,h2⟩)
 ·omega
 ·have:s[k].toNat=0:=by injection h2 with h2;rw[h2];rfl
  omega
theorem xe(s:ByteArray)(k:Nat)(h:k<s.size)(hk:k<=4)(H:qP s k)(hb:s[k].toNat=0)(hz:k≠0):gx s.data.toList=(0,0,3):=by
 unfold gx;rw[uA s k h H qW,pF,aa qW,aa qW,ae];rw[DH s k h];exact .inr ⟨qW,aB some (fc.1 hb)⟩
theorem zT(s:ByteArray)(k:Nat)(h:k<s.size)(hk:k<=4)(H:qP s k)(hb:s[k].toNat<128)(hv:2147483647<val (s.data.toList.take (k+1))):gx s.data.toList=(0,0,3):=by
 unfold gx;rw[uA s k h H hb,pF,aa qW,aa qW,ae (.inl hv)]
theorem s4(s:ByteArray)(h:4<s.size)(H:qP s 5):gx s.data.toList=(0,0,3):=by
 unfold gx;rw[ae (FC s h H)]
theorem vr(s:ByteArray)(h:s.size<=4)(H:qP s s.size):gx s.data.toList=(0,0,5):=by
 unfold gx;rw[IN s H,pF,aa qW,ae rfl]
theorem IP(s:ByteArray)(k:Nat)(h:k<s.size)(hk:k<=4):
  bits .or .i64 (val (s.data.toList.take k):Int) (wrap64 ((s[k].toNat:Int)%128*2^(7*k)))=(val (s.data.toList.take (k+1)):Int):=by
 have hl:(s.data.toList.take k).length=k:=by simp;omega
 have e:s.data.toList.take (k+1)=s.data.toList.take k++[s[k]]:=by
  rw[cH (by simpa using h)];rfl
 have hv:=ya (s.data.toList.take k);rw[hl] at hv;rw[e,IM,hl];have b:(2:Int)^(7*k)=128^k:=by rw[Int.pow_mul];rfl
 have hp:(128:Int)^k<=268435456:=by
  have h:128^k<=128^4:=b9 qD hk;have h2:((128^k:Nat):Int)<=268435456:=by omega
  rwa[du] at h2
 have c:(0:Int)<128^k:=Int.pow_pos qD;have hx:(s[k].toNat:Int)%128*128^k<=127*128^k:=dQ qW qW;have d:0<=(s[k].toNat:Int)%128*128^k:=Int.mul_nonneg qW qW;have a:(val (s.data.toList.take k):Int)<128^k:=by
  have:((val (s.data.toList.take k):Nat):Int)<((128^k:Nat):Int):=by omega
  rwa[du] at this
 rw[b,IntWalk.wrap64_in _ ⟨qW,qW⟩,M5 _ _ k hk qW a qW qW];rw[dp,ec,du];rfl
theorem Cb(s:ByteArray)(k:Nat)(h:k<s.size):s.data.toList.take (k+1)=s.data.toList.take k++[s[k]]:=by
 rw[cH (by simpa using h)];rfl
theorem IQ(s:ByteArray)(k:Nat)(h:k<s.size)(hk:k<=4)(H:qP s k)(hb:s[k].toNat<128):
  nm 5 (val (s.data.toList.take (k+1)))=s.data.toList.take (k+1)↔(k=0\/s[k].toNat≠0):=by
 have hl:=uA s k h H hb;have hw:=sZ s.data.toList (by rw[hl];simpa using h);rw[hl] at hw;rw[tN 5 hw (by simp;omega)];have e1:(s.data.toList.take (k+1)).length=k+1:=by simp;omega
 rw[e1,Cb s k h];simp only[List.getLast?_append,dB,Option.some_or,ne_eq,aH]
 constructor
 ·rintro(h1|h1)
  ·left;omega
  ·right;intro e;exact h1 (fc.1 e)
 ·rintro(h1|h1)
  ·left;omega
  ·right;intro e;rw[e] at h1;exact h1 rfl
theorem IS(s:ByteArray)(k:Nat):(s.extract 0 k).toList=s.data.toList.take k:=by
 rw[Lib.toList_data,Lib.extract_data];simp
def lX(s:ByteArray)(k i:Nat):Nat:=val ((s.data.toList.take (k+1)).drop i)
theorem zU(s:ByteArray)(k:Nat)(h:k<s.size):lX s k (k+1)=0:=by
 unfold lX;rw[List.drop_eq_nil_of_le (by simp;omega)];rfl
theorem yc(s:ByteArray)(k i:Nat)(h:k<s.size)(hi:i<=k):lX s k i=lX s k (i+1)*128+(s[i]'qW).toNat%128:=by
 unfold lX;rw[bH (by simp;omega)];have e:(s.data.toList.take (k+1))[i]'(by simp;omega)=s[i]'qW:=by
  rw[List.getElem_take,dY];rfl
 simp only[val,e];omega
theorem Cc(s:ByteArray)(k i:Nat)(hk:k<=4):lX s k i<34359738368:=by
 have h1:=ya ((s.data.toList.take (k+1)).drop i);have h2:((s.data.toList.take (k+1)).drop i).length<=5:=by simp;omega
 have h3:=b9 (show 0<128 by decide) h2;unfold lX;omega
theorem lj(s:ByteArray)(k:Nat)(h:k<s.size):s.data.toList.take (k+1)=s.data.toList.take k++[s[k]]:=by
 rw[cH (by simpa using h)];rfl
theorem DJ{k:IntKind}{a b:Int}(h:a=b):Ending.returned (.int k a)=.returned (.int k b):=by rw[h]
theorem M6{a b:ByteArray}(h:a=b):Ending.returned (.string a)=.returned (.string b):=by rw[h]
theorem Tryz.FD:(Tryz.prog.info? 5).map (λi=>(i.zero,i.size,i.bytes))=some (some (.int .u8 0),1,1):=by kernel_rfl
theorem r8(n:Int)(h0:0<=n)(h1:n<256)(w:World):
  (convert 164 9 (.slice (some ⟨w.heap.size,0,none⟩) 1 1)).run Tryz.prog (w.alloc (.cells #[.int .u8 n] 5))=.ok (.string ⟨[bt n.toNat].toArray⟩) (w.alloc (.cells #[.int .u8 n] 5)):=by
 have h:=run_convert_bytes_back (P:=Tryz.prog) (w.alloc (.cells #[.int .u8 n] 5)) 164 9 5 ⟨w.heap.size,0,none⟩ 1 [bt n.toNat] Tryz.underlying164 Tryz.underlying5 Tryz.underlying9 (λj hj=>by
  obtain rfl:j=0:=by simp at hj;omega
  show(w.alloc _).cell? ⟨w.heap.size,0,none⟩=_;rw[World.cell?_alloc_new];simp only[fa,ni n.toNat qW];simp;omega)
 exact h
theorem wy(n:Int)(h0:0<=n)(h1:n<256)(w:World):
  (convert 164 9 (.slice (some ⟨w.heap.size,0,none⟩) 1 1)).run Tryz.prog (w.alloc (.cells #[.int .u8 n] 5)).drew=.ok (.string ⟨[bt n.toNat].toArray⟩) (w.alloc (.cells #[.int .u8 n] 5)).drew:=
 r8 n h0 h1 w.drew
theorem Cd(n:Int)(h0:0<=n)(h1:n<256)(w w1:World)(hb:Below (w.alloc (.cells #[.int .u8 n] 5)).drew.heap.size (w.alloc (.cells #[.int .u8 n] 5)).drew w1):
  (convert 164 9 (.slice (some ⟨w.heap.size,0,none⟩) 1 1)).run Tryz.prog w1=.ok (.string ⟨[bt n.toNat].toArray⟩) w1:=by
 have h:=run_convert_bytes_back (P:=Tryz.prog) w1 164 9 5 ⟨w.heap.size,0,none⟩ 1 [bt n.toNat] Tryz.underlying164 Tryz.underlying5 Tryz.underlying9 (λj hj=>by
  obtain rfl:j=0:=by simp at hj;omega
  show w1.cell? ⟨w.heap.size,0,none⟩=_;rw[hb.cell (by show w.heap.size<(w.alloc _).heap.size;simp)];show(w.alloc _).cell? _=_;rw[World.cell?_alloc_new];simp only[fa,ni n.toNat qW];simp;omega)
 exact h
set_option maxRecDepth 100000 in
set_option maxHeartbeats 400000 in
theorem DK(f:Nat):f<=4->∀(n:Int)(w:World),0<=n->n<128^(f+1)->n<=2147483647->
  Calls Tryz.prog 73 #[.int .i64 n] w λe w'=>e=.returned (.string ⟨(nm (f+1) n.toNat).toArray⟩)/\Below w.heap.size w w':=by
 induction f with
 |zero=>
  intro hf n w h0 h1 h2;have h3:n<128:=by simpa using h1
  have hcv:=r8 n h0 qW w;have HF:=Lib.hid (ju 0 n.toNat qW);clear h1
  go_enter Tryz.func73,Tryz.ntmps73
  go_wp2_with fail
  go_ret
  exact⟨by rw[HF.out];rfl,(Below.refl _ _).alloc (ah _) _⟩
 |succ f ih=>
  intro hf n w h0 h1 h2
  by_cases h3:n<128
  ·have hcv:=r8 n h0 qW w;have HF:=Lib.hid (ju (f+1) n.toNat qW);clear h1 ih
   go_enter Tryz.func73,Tryz.ntmps73
   go_wp2_with fail
   go_ret
   exact⟨by rw[HF.out];rfl,(Below.refl _ _).alloc (ah _) _⟩
  ·have HF:=Lib.hid (lP (f+1) n.toNat qW);have h4:n/128<128^(f+1):=by
    rw[Int.pow_succ] at h1;exact Int.ediv_lt_of_lt_mul qD h1
   have IH:=Lib.hid (λw=>ih qW (n/128) w qW h4 qW);clear h1 ih h4;obtain⟨r,hr,hr0,hr1,HR⟩:∃r:Int,n.tmod 128=r/\0<=r/\r<128/\Hid (r=n%128):=⟨n%128,by rw[eu h0],qW,qW,rfl⟩;obtain⟨q,hq,YT,Vf,HQ⟩:∃q:Int,n.tdiv 128=q/\0<=q/\q<=2147483647/\Hid (q=n/128):=⟨n/128,by rw[eo h0],qW,qW,rfl⟩;have Y2:IntKind.i64.wrap (128+r)=128+r:=IntWalk.i64_in _ qW;have hw2:IntKind.u8.wrap (128+r)=128+r:=by rw[IntKind.wrap_u8];omega
   have hw3:IntKind.i64.wrap q=q:=IntWalk.i64_in _ qW;have hcv:=r8 (128+r) qW qW;have hcw:=wy (128+r) qW qW;rw[<-HQ.out] at IH;have hl:(nm (f+1) q.toNat).length<=5:=aV (pE _ _) qW;have FE:=λw=>run_string_add_sum (P:=Tryz.prog) w ⟨[bt (128+r).toNat].toArray⟩ ⟨(nm (f+1) q.toNat).toArray⟩ (by simp[ByteArray.size];omega);have HE:Hid ((⟨#[bt (128+r).toNat]⟩:ByteArray)++⟨(nm (f+1) q.toNat).toArray⟩=⟨(nm (f+1+1) n.toNat).toArray⟩):=by
    show _=_;rw[HF.out,ByteArray.mk_append_mk,HQ.out,HR.out,show(128+n%128).toNat=128+n.toNat%128 by omega,show(n/128).toNat=n.toNat/128 by omega];simp
   go_enter Tryz.func73,Tryz.ntmps73
   go_wp2_with fail
   go_region_with (go_at_call 73;refine(IH.out _).mono ?_;rintro e w1 ⟨rfl,hb1⟩;(first|(have hc1:=Cd (128+r) qW qW w w1 hb1)|skip))
   all_goals go_wp2_with fail
   all_goals go_ret
   all_goals refine⟨M6 HE.out,?_⟩
   all_goals first
    |exact((Below.refl _ _).drew.trans hb1).alloc hb1.size _
    |exact((Below.refl _ _).alloc (ah _) _).drew.trans (hb1.mono (by show w.heap.size<=(w.alloc _).heap.size;simp))
structure yd(P:Program)(T e:TypeId)(z:Value)(size bytes:Nat):Prop where
 under:P.underlying T=some (.slice e)
 info:(P.info? e).map (λi=>(i.zero,i.size,i.bytes))=some (some z,size,bytes)
 cells:z.cells.size=size
 pos:0<size
 V1:0<bytes
section
variable {P:Program} {T e:TypeId} {z:Value} {size bytes:Nat}
theorem zV{w w':World}{base n:Nat}{v:Value}{xs:List Value}(hown:w.ownsRow base e size v n xs)(hg:w.grownBy w' v.ownBlock)(hb:base<=w.heap.size):Below base w w':=
 (Below.refl base w).grown hg hb (λk hk=>(hown.lt k hk).1)
theorem Ce(E:yd P T e z size bytes){w:World}{ops:Array Oper}{rest:List Oper}{o:Oper}{a:Act}{Q:Exit->Act->World->Prop}(g:o.guard=none)(s x:Operand)
  (ho:o.op=.call {callee:=.builtin .append,args:= #[s,x],argTypes:= #[T,T]})
  {base n:Nat}{v:Value}{xs:List Value}(hs:a.eval s=v)(hown:w.ownsRow base e size v n xs)
  {ad:Addr}{m c:Nat}{news:List Value}(hx:a.eval x=.slice (some ad) m c)(hl:news.length=m*size)(f:∀j u,news[j]? =some u->w.cell? (ad.add j)=some u)(h1:∀u∈news,u.oneCell'=true)
  (b:(n+m)*bytes<=140737488355328)(d:base<=w.heap.size)
  (h:∀v' w',w'.ownsRow base e size v' (n+m) (xs++news)->Below base w w'->w.grownBy w' v.ownBlock->wpList P ops Q rest (a.put o.dst v') w'):wpList P ops Q (o::rest) a w:=by
 obtain⟨i,hi,hz,hsz,k⟩:=info_parts E.info;have l:n+m<=maxLen:=by
  have:=aV (dA (n+m) E.V1) b;simp only[maxLen];omega
 exact wpList_append_own w g s x T ho base e i z size bytes E.under hi hz hsz k E.cells E.pos v n xs hs hown ad m c news hx hl f h1 l b d
  (λv' w' h2 h3 _=>h v' w' h2 (zV hown h3 d) h3)
theorem tO(E:yd P T e z size bytes){w:World}{cs:Array Value}{ops:Array Oper}{rest:List Oper}{o:Oper}{a:Act}{Q:Exit->Act->World->Prop}(d:o.guard=none)(s x:Operand)
  (ho:o.op=.call {callee:=.builtin .append,args:= #[s,x],argTypes:= #[T,T]})
  {base n:Nat}{v:Value}{xs:List Value}(hs:a.eval s=v)(hown:w.ownsRow base e size v n xs)
  (hx:a.eval x=.slice (some ⟨w.heap.size,0,none⟩) 1 1)(hl:cs.size=size)(h1:cs.toList.all (·.oneCell')=true)
  (b:(n+1)*bytes<=140737488355328)(c:base<=w.heap.size)
  (h:∀v' w',w'.ownsRow base e size v' (n+1) (xs++cs.toList)->Below base w w'->w.grownBy w' v.ownBlock->wpList P ops Q rest (a.put o.dst v') w'):wpList P ops Q (o::rest) a (w.alloc (.cells cs e)):=by
 refine Ce E d s x ho hs (hown.alloc _) hx (news:=cs.toList) (by simp[hl]) (λj u hj=>?_) (λu hu=>?_) b (by simp;omega) (λv' w' h2 h3 h4=>?_)
 ·rw[Addr.add_lit,bf,World.cell?_alloc_new];simpa using hj
 ·exact(aQ.1 h1) u hu
 ·exact h v' w' h2 (((Below.refl base w).alloc c _).trans h3) ⟨h4.os,h4.tape,h4.output,aV (by simp) h4.size,λk hk hne=>(h4.block k (by simp;omega) hne).trans (Below.heap_alloc w _ k hk)⟩
end
def BW(B:Nat)(w:World):Type:= {x:World//Below B w x}
def BW.val{B:Nat}{w:World}(x:BW B w):World:=Subtype.val x
theorem BW.below{B:Nat}{w:World}(x:BW B w):Below B w x.val:=Subtype.property x
theorem BW.ne(B:Nat)(w:World):Nonempty (BW B w):=⟨⟨w,Below.refl _ _⟩⟩
theorem qQ{P:Program}{id:Nat}{Q:Exit->Act->World->Prop}{a:Act}{w:World}{l:List Oper}(B:Nat)(hm:P.follows .mixedOrders=true)(hB:Region.lexB .any l.toArray=true)
  (h:wpQuiet P l.toArray (λw'=>∃x:BW B w,w'=x.val) (λb=>∀w',(∃x:BW B w,w'=x.val)->Q .normal b w') l a):(Code.region id l.toArray true).wp P Q a w:=
 wp_region_quiet (C:=λw'=>∃x:BW B w,w'=x.val) hm hB ⟨⟨w.drew,(Below.refl B w).drew⟩,rfl⟩ (by simpa using h)
theorem BW.call{P:Program}{f:FuncId}{args:Array Value}{B:Nat}{w:World}{x:BW B w}{v:Value}(hB:B<=w.heap.size)
  (h:Calls P f args x.val λe w'=>e=.returned v/\Below x.val.heap.size x.val w'):Calls P f args x.val λe a=>e=.returned v/\∃y:BW B w,a=y.val:=
 h.mono λ_ w'⟨he,hb⟩=>⟨he,⟨w',x.below.trans (hb.mono (aV hB x.below.size))⟩,rfl⟩
section
variable {w:World} {g b o:Nat} {T:TypeId} {cs:Array Value} {s:Option Nat} {v:Value}
@[go_sem,simp] theorem Vh:(w.ob g T cs).heap.size=w.heap.size:=by simp[World.ob]
theorem r9(h:g<w.heap.size):(w.ob g T cs).heap[g]? =some (.cells cs T (0,0)):=by simp[World.ob,h]
theorem n9(h:b≠g):(w.ob g T cs).heap[b]? =w.heap[b]? :=by
 simp only[World.ob,bI];rw[aa (λe=>h e.symm)]
@[go_sem] theorem L4 (h:g<w.heap.size):(w.ob g T cs).cell? ⟨g,o,none⟩=cs[o]? :=by
 simp[World.cell?,r9 h]
@[go_sem] theorem IT {sp} (h:b≠g):(w.ob g T cs).cell? ⟨b,o,sp⟩=w.cell? ⟨b,o,sp⟩:=by
 simp[World.cell?,n9 h]
@[go_sem] theorem GG {sp}:(w.ob g T cs).frozen? ⟨g,o,sp⟩=false:=by
 by_cases h:g<w.heap.size
 ·simp[World.frozen?,r9 h]
 ·have:(w.ob g T cs).heap[g]? =none:=by rw[cQ];simp;omega
  simp[World.frozen?,this]
@[go_sem] theorem FF {sp} (h:b≠g):(w.ob g T cs).frozen? ⟨b,o,sp⟩=w.frozen? ⟨b,o,sp⟩:=by
 simp[World.frozen?,n9 h]
@[go_sem] theorem GH:(w.ob g T cs).setCell ⟨g,o,none⟩ v=w.ob g T (cs.setIfInBounds o v):=by
 simp only[World.ob,World.setCell]
 congr 1
 apply ey;intro i;simp only[dN,bI,Array.size_setIfInBounds]
 by_cases h:g=i
 ·subst h
  by_cases hs:g<w.heap.size<;>simp[hs]
 ·simp[h]
@[go_sem] theorem FG {sp} (h:b≠g):(w.ob g T cs).setCell ⟨b,o,sp⟩ v=(w.setCell ⟨b,o,sp⟩ v).ob g T cs:=by
 simp only[World.ob,World.setCell]
 congr 1
 apply ey;intro i;simp only[dN,bI,Array.size_modify]
 by_cases h1:g=i
 ·subst h1;simp[h]
 ·simp[h1]
@[go_sem] theorem Vi:w.drew.ob g T cs=(w.ob g T cs).drew:=rfl
@[go_sem] theorem TG {n:Nat}:(w.drewN n).ob g T cs=(w.ob g T cs).drewN n:=rfl
@[go_sem] theorem L5 {n:Nat} {a:Addr}:(w.drewN n).setCell a v=(w.setCell a v).drewN n:=rfl
@[go_sem] theorem Ps {n:Nat} {x:Obj}:(w.drewN n).alloc x=(w.alloc x).drewN n:=rfl
theorem M7(h:w.heap[g]? =some (.cells cs T (0,0))):w.ob g T cs=w:=by
 obtain⟨hlt,he⟩:=aG.1 h;have:w.heap.setIfInBounds g (.cells cs T (0,0))=w.heap:=by
  apply ey;intro i;rw[bI]
  by_cases e:g=i
  ·subst e;simp[hlt,he]
  ·rw[aa e]
 simp[World.ob,this]
end
theorem IU{B:Nat}{a w:World}(h:Below B a w){g:Nat}(hg:B<=g)(T:TypeId)(cs:Array Value):Below B a (w.ob g T cs):=
 h.trans ⟨rfl,rfl,rfl,by simp,λk hk=>n9 qW⟩
@[go_sem] theorem L6 {w:World} {x:Obj} {n:Nat} (h:n=w.heap.size):(w.alloc x).heap[n]? =some x:=by subst h;exact heap_alloc_new w x
@[go_sem] theorem GI {w:World} {x:Obj} {n:Nat} (h:n<w.heap.size):(w.alloc x).heap[n]? =w.heap[n]? :=Below.heap_alloc w x n h
theorem Xw{B:Nat}{W w1:World}(hb:Below B W w1){g0:Nat}{a:TypeId}{b:Array Value}(h0:g0<B)(c:W.heap[g0]? =some (.cells b a (0,0))):
  ∃w2,w1=w2.ob g0 a b/\Below B W w2:=
 ⟨w1,(M7 ((hb.block _ h0).trans c)).symm,hb⟩
theorem M8(n:Int)(w:World)(h:n<0\/2147483647<n):
  Calls Tryz.prog 108 #[.int .i64 n] w λe w'=>e=.returned (.tuple #[.string ⟨#[]⟩,.int .i64 1])/\w=w':=by
 rcases(show n<0\/(0<=n/\2147483647<n) by omega) with h1|⟨h1,h2⟩
 all_goals
  clear h
  go_enter Tryz.func108,Tryz.ntmps108
  go_wp2_with fail
  go_ret2
  exact⟨rfl,rfl⟩
theorem IV(w:World)(base:Nat)(v:Value)(l:BS)(h:w.ownsRow base 5 1 v l.length (nq l))(hl:0<l.length):
  (convert 164 9 v).run Tryz.prog w=.ok (.string ⟨l.toArray⟩) w:=by
 obtain⟨h1,h2⟩:=h
 rcases h2 with⟨_,h0⟩|⟨g,cap,cur,rfl,hg,b,hn,n3,hsz,a⟩
 ·omega
 ·refine run_convert_bytes_back (P:=Tryz.prog) w 164 9 5 ⟨g,0,none⟩ cap l Tryz.underlying164 Tryz.underlying5 Tryz.underlying9 (λj hj=>?_);have hc:=World.ownsRow.cells (w:=w) (base:=base) (e:=5) (size:=1) (v:=.slice (some ⟨g,0,none⟩) l.length cap) (n:=l.length) (xs:=nq l) ⟨h1,.inr ⟨g,cap,cur,rfl,hg,b,hn,n3,hsz,a⟩⟩ (g:=g) rfl j (.int .u8 (l[j].toNat:Int)) (by simp[nq,hj]);exact hc
theorem Tryz.xf:yd Tryz.prog 164 5 (.int .u8 0) 1 1:=⟨Tryz.underlying164,Tryz.FD,rfl,qD,qD⟩
set_option maxRecDepth 100000 in
set_option maxHeartbeats 1000000 in
theorem Q5(n:Int)(w:World)(h0:0<=n)(h1:n<=2147483647):
  Calls Tryz.prog 108 #[.int .i64 n] w λe w'=>e=.returned (.tuple #[.string ⟨(iE n.toNat).toArray⟩,.int .i64 0])/\Below w.heap.size w w':=by
 go_enter Tryz.func108,Tryz.ntmps108
 go_wp2_with fail
 go_loopw [0,4] (λm v wr=>∃(k:Nat)(xs:BS)(g:Nat),(k:Int)<=2147483647/\m=.int .i64 k/\wr.ownsRow w.heap.size 5 1 v xs.length (nq xs)/\Below w.heap.size w wr/\xs.length+g=4/\k<128^(g+1)/\Hid (iE n.toNat=xs++nm (g+1) k)) (λm _ _=>(intOf m).toNat)
 case atStart=>exact⟨n.toNat,[],4,qW,by rw[Int.toNat_of_nonneg h0],World.ownsRow_nil _ _ _ _,Below.refl _ _,rfl,qW,rfl⟩
 case round=>
  obtain⟨k,xs,g,hk,rfl,hown,hb,hg,V2,HN⟩:=hrel;have hxl:xs.length<=4:=by omega
  by_cases hlt:k<128
  ·have hs1:(k:Int)<128:=by omega
   have HF:=Lib.hid (ju g k hlt);have hcl:=hb.size;clear V2
   go_wp2_with (at_builtin;go_must (refine tO Tryz.xf rfl (.tmp 21) (.tmp 24) rfl rfl hown rfl rfl rfl qW hb.size ?_);intro v1 w1 hown1 hb1 hg1;have hcv:=IV w1 w.heap.size v1 (xs++[bt k]) (by simpa[q6,ni k qW] using hown1) (by simp))
   go_ret2
   exact⟨by rw[HN.out,HF.out];rfl,hb.trans hb1⟩
  ·have hor:=TF k;have HF:=Lib.hid (lP g k hlt);have hs1:(128:Int)<=k:=by omega
   have hg0:g≠0:=by
    rintro rfl;omega
   obtain⟨g',rfl⟩:∃g',g=g'+1:=⟨g-1,qW⟩;have HK:Hid (k/128<128^(g'+1)):=by
    show _<_;rw[e7] at V2;exact dX qW
   have HG:Hid (xs.length+(g'+1)=4):=hg;clear V2 hg hg0
   go_wp2_with (at_builtin;refine tO Tryz.xf rfl (.tmp 13) (.tmp 17) rfl rfl hown rfl rfl rfl qW hb.size ?_;intro v1 w1 hown1 hb1 hg1)
   go_roundw
   case rel=>exact⟨k/128,xs++[bt (128+k%128)],g',qW,by go_num,by simpa[q6,ni (128+k%128) qW] using hown1,hb.trans hb1,by have:=HG.out;simp;omega,HK.out,by show _=_;rw[HN.out,HF.out];simp⟩
   case measure=>simp[intOf];omega
set_option maxRecDepth 100000 in
set_option maxHeartbeats 1000000 in
theorem M9(s:ByteArray)(w:World)(hs:s.size<=maxLen):
  Calls Tryz.prog 160 #[.string s] w λe w'=>e=.returned (.tuple #[.int .i64 (gx s.data.toList).1,.int .i64 (gx s.data.toList).2.1,.int .i64 (gx s.data.toList).2.2])/\w=w':=by
 unfold maxLen at hs
 go_enter Tryz.func160,Tryz.ntmps160
 go_wp2
 go_loop [5,10] (λn i=>∃k:Nat,k<=s.size/\k<=4/\i=.int .i64 k/\n=.int .i64 (val (s.data.toList.take k))/\qP s k) (λ_ i=>s.size-(intOf i).toNat)
 case atStart=>exact⟨0,aP _,qW,rfl,rfl,λj h hj=>by omega⟩
 case round=>
  obtain⟨k,hk,hk4,rfl,rfl,HH⟩:=hrel
  by_cases hlt:k<s.size
  ·have IW:s[k].toNat<256:=s[k].toNat_lt;have Y4:=i64_and127 (s[k].toNat:Int);have hN:=IP s k hlt hk4;have L7:val (s.data.toList.take (k+1))<34359738368:=by
    have h1:=ya (s.data.toList.take (k+1));have h2:(s.data.toList.take (k+1)).length<=5:=by simp;omega
    have h3:=b9 (show 0<128 by decide) h2;omega
   by_cases hb:s[k].toNat<128
   ·by_cases hz:s[k].toNat=0/\k≠0
    ·have HF:=Lib.hid (xe s k hlt hk4 HH hz.1 hz.2);have t1:((s[k].toNat:Int)==0)=true:=by rw[dy];omega
     have t2:(0:Int)<k:=by omega
     clear hz
     generalize val (s.data.toList.take (k+1))=N at hN L7
     go_wp2
     go_ret3
     exact⟨by rw[HF.out];rfl,rfl⟩
    ·by_cases hv:val (s.data.toList.take (k+1))<=2147483647
     ·have HF:=Lib.hid (DI s k hlt hk4 HH hb qW hv)
      generalize val (s.data.toList.take (k+1))=N at hN L7 HF hv
      by_cases h0:s[k].toNat=0
      ·have Xx:k=0:=by omega
       subst Xx;have Y5:Hid (gx s.data.toList=((N:Int),1,0)):=HF.out;have t1:((s[0].toNat:Int)==0)=true:=by rw[dy];omega
       have hN0:bits BinOp.or IntKind.i64 (val []:Int) ((s[0].toNat:Int)%128)=(N:Int):=by
        rw[<-hN];have e:((s[0].toNat:Int)%(128:Int)*(2:Int)^(7*0))=(s[0].toNat:Int)%(128:Int):=by simp
        rw[e,IntWalk.wrap64_in _ ⟨qW,qW⟩];rfl
       clear hz h0 HF hN
       go_wp2
       go_ret3
       exact⟨by rw[Y5.out];rfl,rfl⟩
      ·have t1:((s[k].toNat:Int)==0)=false:=by rw[cr];omega
       clear hz h0
       go_wp2
       go_ret3
       exact⟨by rw[HF.out];rfl,rfl⟩
     ·have HF:=Lib.hid (zT s k hlt hk4 HH hb qW)
      by_cases h0:s[k].toNat=0
      ·have Xx:k=0:=by omega
       have h1:=ya (s.data.toList.take (k+1));have h2:(s.data.toList.take (k+1)).length<=1:=by simp;omega
       have h3:=b9 (show 0<128 by decide) h2;omega
      ·have t1:((s[k].toNat:Int)==0)=false:=by rw[cr];omega
       generalize val (s.data.toList.take (k+1))=N at hN L7 HF hv
       clear hz h0
       go_wp2
       go_ret3
       exact⟨by rw[HF.out];rfl,rfl⟩
   ·have HS:=Lib.hid (HH.snoc hlt qW)
    by_cases h4:k=4
    ·have HF:=Lib.hid (s4 s qW (by have:=HS.out;rwa[h4] at this));have t1:((k:Int)==4)=true:=by rw[dy];omega
     clear h4
     generalize val (s.data.toList.take (k+1))=N at hN L7
     go_wp2
     go_ret3
     exact⟨by rw[HF.out];rfl,rfl⟩
    ·have t1:((k:Int)==4)=false:=by rw[cr];omega
     have hk3:k<=3:=by omega
     clear h4
     generalize hV:val (s.data.toList.take (k+1))=N at hN L7
     have HV:=Lib.hid hV;clear hV
     go_wp2
     go_round
     case rel=>exact⟨k+1,qW,qW,by go_num,aB _ (aB _ HV.out.symm),HS.out⟩
     case measure=>simp[intOf];omega
  ·have HF:=Lib.hid (vr s qW (λj hj _=>HH j hj qW))
   go_wp2
   go_ret3
   exact⟨by rw[HF.out];rfl,rfl⟩
set_option maxRecDepth 100000 in
set_option maxHeartbeats 1000000 in
theorem FH(s:ByteArray)(w:World)(hs:s.size<=maxLen):
  Calls Tryz.prog 154 #[.string s] w λe w'=>e=.returned (.tuple #[.int .i64 (gx s.data.toList).1,.int .i64 (gx s.data.toList).2.1,.int .i64 (gx s.data.toList).2.2])/\Below w.heap.size w w':=by
 unfold maxLen at hs
 go_enter Tryz.func154,Tryz.ntmps154
 go_wp2_with fail
 go_loop [5] (λi=>∃k:Nat,k<=s.size/\i=.int .i64 k/\Hid (qP s k)) (λi=>s.size-(intOf i).toNat)
 case atStart=>exact⟨0,aP _,rfl,λj h hj=>by omega⟩
 case round=>
  obtain⟨k,hk,rfl,HH⟩:=hrel
  by_cases hlt:k<s.size
  ·have IW:s[k].toNat<256:=s[k].toNat_lt
   by_cases hb:128<=s[k].toNat
   ·have HS:=Lib.hid (HH.out.snoc hlt hb);have hb2:(128:Int)<=(s[k].toNat:Int):=by omega
    go_wp2_with fail
    go_round
    case rel=>exact⟨k+1,qW,by go_num,HS.out⟩
    case measure=>simp[intOf];omega
   ·have hb2:(s[k].toNat:Int)<128:=by omega
    by_cases h5:5<=k
    ·have HF:=Lib.hid (s4 s qW (λj hj h=>HH.out j hj qW))
     go_wp2_with fail
     go_ret3
     exact⟨by rw[HF.out];rfl,Below.refl _ _⟩
    ·have hne:((k:Int)==(s.size:Int))=false:=by rw[cr];omega
     go_wp2_with fail
     go_loop [6,7] (λn i=>∃j:Nat,j<=k+1/\i=.int .i64 ((j:Int)-1)/\n=.int .i64 (lX s k j)) (λ_ i=>(intOf i+1).toNat)
     case atStart=>exact⟨k+1,qW,by go_num,by rw[zU s k hlt];rfl⟩
     case round=>
      obtain⟨j,hj,rfl,rfl⟩:=hrel;have L7:=Cc s k j qW
      by_cases hj0:1<=j
      ·obtain⟨i,rfl⟩:∃i,j=i+1:=⟨j-1,qW⟩;have hi:i<s.size:=by omega
       have hbi:s[i].toNat<256:=s[i].toNat_lt;have HV:=Lib.hid (yc s k i hlt qW);have ei:((i+1:Nat):Int)-1=(i:Int):=by omega
       rw[ei];clear ei
       generalize hN:lX s k (i+1)=N at L7 HV⊢
       clear hN
       go_wp2_with fail
       go_round
       case rel=>exact⟨i,qW,rfl,aB _ (by rw[HV.out];omega)⟩
       case measure=>simp[intOf]
      ·have Y6:j=0:=by omega
       subst Y6;have HE:=Lib.hid (IQ s k hlt qW HH.out qW);have ev:lX s k 0=val (s.data.toList.take (k+1)):=rfl;rw[ev] at L7⊢;clear ev
       by_cases Q6:2147483647<val (s.data.toList.take (k+1))
       ·have HF:=Lib.hid (zT s k hlt qW HH.out qW Q6)
        generalize val (s.data.toList.take (k+1))=N at L7 Q6⊢
        have hd:decide ((2147483647:Int)<(N:Int))=true:=by simp;omega
        go_wp2_with fail
        go_quiet (fail)
        go_wp2_with fail
        go_ret3
        exact⟨by rw[HF.out];rfl,below_drewN (Below.refl _ _) _⟩
       ·have hd:decide ((2147483647:Int)<(val (s.data.toList.take (k+1)):Int))=false:=by simp;omega
        have Q7:=Lib.hid (λw=>DK 4 qW (val (s.data.toList.take (k+1)):Int) w qW qW qW)
        generalize hV:val (s.data.toList.take (k+1))=N at L7 Q6 hd Q7 HE⊢
        have HV:=Lib.hid hV;have Y2:IntKind.i64.wrap ((k:Int)+1)=(k:Int)+1:=IntWalk.i64_in _ qW;have hw2:((k:Int)+1).toNat=k+1:=by omega
        have hw3:(0:Int)<=(k:Int)+1:=by omega
        have hw4:(k:Int)+1<=(s.size:Int):=by omega
        have Mm:(N:Int)<=2147483647:=by omega
        rw[aA] at Q7;clear hV;have hx:=IS s (k+1);have hq:(nm 5 N==(s.extract 0 (k+1)).toList)=decide (k=0\/s[k].toNat≠0):=by
         rw[hx,cf,dy,bc];exact HE.out
        clear hx;have hF:∃b:Bool,decide (k=0\/s[k].toNat≠0)=b/\Hid (gx s.data.toList=bif b then((N:Int),(k:Int)+1,0) else(0,0,3)):=by
         by_cases hz:k=0\/s[k].toNat≠0
         ·refine⟨true,by simp[hz],?_⟩;show _=_;rw[DI s k hlt qW HH.out qW hz.symm (by rw[HV.out];omega),HV.out];rfl
         ·refine⟨false,by simp[hz],?_⟩;show _=_;rw[xe s k hlt qW HH.out qW qW];rfl
        obtain⟨b,hb',HF⟩:=hF;rw[hb'] at hq;clear hb'
        go_wp2_with fail
        have hne:=BW.ne w.heap.size w;refine qQ w.heap.size (by kernel_rfl) (by kernel_rfl) ?_
        repeat(go_big_quiet_step ((go_at_call 73;exact BW.call (ah _) (Q7.out _))))
        refine wpQuiet_nil ?_;rintro _ ⟨x,rfl⟩;have Vj:=x.below
        generalize x.val=w1 at Vj⊢
        cases b
        all_goals
         go_wp2_with fail
         go_ret3
         exact⟨by rw[HF.out];rfl,Vj⟩
  ·have hsz:k=s.size:=by omega
   subst hsz
   by_cases h5:5<=s.size
   ·have HF:=Lib.hid (s4 s qW (λj hj h=>HH.out j hj qW))
    go_wp2_with fail
    go_ret3
    exact⟨by rw[HF.out];rfl,Below.refl _ _⟩
   ·have HF:=Lib.hid (vr s qW HH.out);have hne:((s.size:Int)==(s.size:Int))=true:=by rw[dy]
    go_wp2_with fail
    go_ret3
    exact⟨by rw[HF.out];rfl,Below.refl _ _⟩
end Go.Proofs.YtobngncjflogcaaGreat
namespace Go.Proofs.YtobngncjflogcaaGreat.AM
open Go Go.RowKit
theorem s5{f:Value->Prop}{F B:Nat->Prop}{w:World}{us:Array Value}{v:V}{u0:Value}(hl:us.size=[v].length)(hr:∀(i:Nat)(x:V)(u:Value),[v][i]? =some x->us[i]? =some u->Rel F B w x u)(h:∀u,Rel F B w v u->u=u0):us= #[u0]:=by
 match us,hl with
 |⟨[u]⟩,_=>
  have:=h u (hr 0 v u rfl rfl);rw[this]
theorem DL{F B:Nat->Prop}{w:World}{k:IntKind}{n:Int}{u:Value}(h:Rel F B w (.int k n) u):u=.int k n:=by cases h;rfl
theorem uB{F B:Nat->Prop}{w:World}{l:BS}{u:Value}(h:Rel F B w (.str l) u):u=.string ⟨l.toArray⟩:=by cases h;rfl
def qS(n:Int):BS×Int:=if n<0\/2147483647<n then([],1) else(iE n.toNat,0)
theorem s6(w:World):Below w.heap.size w w:=by(repeat(first|(with_reducible exact Below.refl _ _)|(with_reducible assumption)|(with_reducible refine Below.drew ?_)|(with_reducible refine below_drewN ?_ _)|((with_reducible refine Below.alloc ?_ ?_ _);rotate_left;(focus(first|omega|(simp;done)|(simp;omega))))|((with_reducible refine Below.setCell ?_ ?_ _);rotate_left;(focus(first|omega|(simp;done)|(simp;omega))))|((with_reducible refine IU ?_ ?_ _ _);rotate_left;(focus(first|omega|(simp;done)|(simp;omega))))))
theorem DM(n:Int):Spec Tryz.prog 108 [.int .i64 n] Hp.emp (Is (.tup [.str (qS n).1,.int .i64 (qS n).2])):=
 jY (us0:= #[.int .i64 n]) ⟨Tryz.f108,Tryz.func108,by decide+kernel,bB.1 (by decide+kernel)⟩
  (λF B w us hl hr=>s5 (f:=λ_=>True) hl hr λu h=>DL h)
  (u0:=.tuple #[.string ⟨(qS n).1.toArray⟩,.int .i64 (qS n).2])
  (λF B w=>.tup _ _ rfl λi v u hv hu=>by
   match i with
   |0=>simp at hv hu;subst hv hu;exact .str _
   |1=>simp at hv hu;subst hv hu;exact .int _ _
   |i+2=>simp at hv)
  (λw=>by
   unfold qS
   split
   ·rename_i h;refine(M8 n w h).mono ?_;rintro e w' ⟨rfl,rfl⟩;exact⟨rfl,s6 _⟩
   ·rename_i h;exact Q5 n w qW qW)
theorem DN{F B:Nat->Prop}{w:World}(a b c:Int):Rel F B w (.tup [.int .i64 a,.int .i64 b,.int .i64 c]) (.tuple #[.int .i64 a,.int .i64 b,.int .i64 c]):=.tup _ _ rfl λi v u hv hu=>by
 match i with
 |0=>simp at hv hu;subst hv hu;exact .int _ _
 |1=>simp at hv hu;subst hv hu;exact .int _ _
 |2=>simp at hv hu;subst hv hu;exact .int _ _
 |i+3=>simp at hv
theorem DO(s:BS)(hs:s.length<=maxLen):Spec Tryz.prog 160 [.str s] Hp.emp (Is (.tup [.int .i64 (gx s).1,.int .i64 (gx s).2.1,.int .i64 (gx s).2.2])):=
 jY (us0:= #[.string ⟨s.toArray⟩]) ⟨Tryz.f160,Tryz.func160,by decide+kernel,bB.1 (by decide+kernel)⟩
  (λF B w us hl hr=>s5 (f:=λ_=>True) hl hr λu h=>uB h) (λF B w=>DN _ _ _)
  (λw=>by
   refine(M9 ⟨s.toArray⟩ w (by simpa[ByteArray.size] using hs)).mono ?_;rintro e w' ⟨rfl,rfl⟩;exact⟨rfl,s6 _⟩)
theorem xg(s:BS)(hs:s.length<=maxLen):Spec Tryz.prog 154 [.str s] Hp.emp (Is (.tup [.int .i64 (gx s).1,.int .i64 (gx s).2.1,.int .i64 (gx s).2.2])):=
 jY (us0:= #[.string ⟨s.toArray⟩]) ⟨Tryz.f154,Tryz.func154,by decide+kernel,bB.1 (by decide+kernel)⟩
  (λF B w us hl hr=>s5 (f:=λ_=>True) hl hr λu h=>uB h) (λF B w=>DN _ _ _)
  (λw=>FH ⟨s.toArray⟩ w (by simpa[ByteArray.size] using hs))
theorem sa(n:Int)(h0:0<=n)(h1:n<=2147483647):Spec Tryz.prog 73 [.int .i64 n] Hp.emp (Is (.str (iE n.toNat))):=
 jY (us0:= #[.int .i64 n]) ⟨Tryz.f73,Tryz.func73,by decide+kernel,bB.1 (by decide+kernel)⟩
  (λF B w us hl hr=>s5 (f:=λ_=>True) hl hr λu h=>DL h) (u0:=.string ⟨(iE n.toNat).toArray⟩) (λF B w=>.str _)
  (λw=>DK 4 (ah _) n w h0 (by(have:(128:Int)^(4+1)=34359738368:=by decide);omega) h1)
theorem jr(n:Nat):(iE n).length<=5:=pE 5 n
theorem lv{s:BS}(h:(gx s).2.2=0):∃k:Nat,(gx s).2.1=k/\0<k/\k<=s.length/\k<=5/\0<=(gx s).1/\(gx s).1<=2147483647/\iE (gx s).1.toNat=s.take k:=by
 unfold gx at h⊢
 by_cases h1:5<=lead s
 ·rw[ae h1] at h;exact absurd h qD
 rw[aa h1] at h⊢
 by_cases h2:lead s=s.length
 ·rw[ae h2] at h;exact absurd h qD
 rw[aa h2] at h⊢
 by_cases h3:2147483647<val (s.take (lead s+1))\/(0<lead s/\s[lead s]? =some 0)
 ·rw[ae h3] at h;exact absurd h qD
 rw[aa h3];have hle:=DG s;have hlt:lead s<s.length:=by omega
 refine⟨lead s+1,by simp,qW,qW,qW,aO _,by simp only[];omega,?_⟩;have hw:=sZ s hlt;have hl:(s.take (lead s+1)).length=lead s+1:=by rw[aI];omega
 have hg:(s.take (lead s+1)).getLast? =s[lead s]? :=by
  rw[List.getLast?_eq_getElem?,hl,bq,ae qW];rfl
 have:=(tN 5 hw qW).2 (by
  rw[hl,hg]
  by_cases h0:lead s=0
  ·left;omega
  ·right;intro g;exact h3 (.inr ⟨qW,g⟩))
 simpa[iE] using this
end Go.Proofs.YtobngncjflogcaaGreat.AM
