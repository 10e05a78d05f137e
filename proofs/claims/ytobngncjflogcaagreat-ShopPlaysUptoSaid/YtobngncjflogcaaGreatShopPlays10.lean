/-
  Part 10 of what the law ShopPlays reaches: the plain machine, contracts of the functions and plain laws; each lemma says its own condition.
-/
import Derived.Test.YtobngncjflogcaaGreatShopPlays8
import Derived.Test.YtobngncjflogcaaGreatShopPlays6
import Derived.Test.YtobngncjflogcaaGreatShopPlays4
import Derived.Test.YtobngncjflogcaaGreatShopPlays9
import Derived.Test.YtobngncjflogcaaGreatShopPlays7
set_option linter.unusedVariables false
set_option linter.unusedSimpArgs false
namespace Go.Proofs.YtobngncjflogcaaGreat.AM
open Go Go.RowKit
set_option maxRecDepth 100000
set_option maxHeartbeats 2000000
def ml(n:Int):UInt8:=UInt8.ofNat (n%256).toNat
theorem zZ(n:Int):IntKind.u8.wrap n=((ml n).toNat:Int):=by
 have h1:IntKind.u8.wrap n=n%256:=rfl;rw[h1,ml,dz];omega
theorem yi(n:Int):ml (n%256)=ml n:=by unfold ml;rw[Int.emod_emod_of_dvd n (Int.dvd_refl 256)]
theorem yj(b:UInt8):ml ((b.toNat:Nat):Int)=b:=by
 have:=b.toNat_lt;apply UInt8.toNat.inj;rw[ml,dz];omega
theorem Rh(b c:UInt8):ml ((256*((b.toNat:Nat):Int)+((c.toNat:Nat):Int))/256)=b:=by
 have h:=b.toNat_lt;have:=c.toNat_lt;rw[show(256*((b.toNat:Nat):Int)+((c.toNat:Nat):Int))/256=((b.toNat:Nat):Int) by omega];exact yj b
theorem Ri(b c:UInt8):ml (256*((b.toNat:Nat):Int)+((c.toNat:Nat):Int))=c:=by
 have h:=b.toNat_lt;have:=c.toNat_lt;rw[<-yi,show(256*((b.toNat:Nat):Int)+((c.toNat:Nat):Int))%256=((c.toNat:Nat):Int) by omega];exact yj c
def ko(c:Int):BS:=[ml c,ml (c/256),ml (c/65536),ml (c/16777216)]
section
variable {P:Prim} (hP:P=dn)
include hP
theorem Pu(a b c:Int):P.yX [[.int .u8 (P.wrap .u8 a)],[.int .u8 (P.wrap .u8 b)],[.int .u8 (P.wrap .u8 c)]] [ml a,ml b,ml c]:=by
 subst hP;simp[dn,zZ]
theorem TI(a b c d:Int):P.yX [[.int .u8 (P.wrap .u8 a)],[.int .u8 (P.wrap .u8 b)],[.int .u8 (P.wrap .u8 c)],[.int .u8 (P.wrap .u8 d)]] [ml a,ml b,ml c,ml d]:=by
 subst hP;simp[dn,zZ]
theorem lx(rows:List (List V))(n:Nat)(h:rows.length=n):P.nL rows n:=by subst hP;exact h
theorem TJ(c:Int):P.shr c 8=c/256:=by subst hP;rfl
theorem TK(c:Int):P.shr c 16=c/65536:=by subst hP;rfl
theorem TL(c:Int):P.shr c 24=c/16777216:=by subst hP;rfl
theorem s8:P.bits .u32=32:=by subst hP;rfl
theorem Rj:P.bits .i64=64:=by subst hP;rfl
theorem k7(a b:BS):P.h9 a b=a++b:=by subst hP;rfl
theorem S8{n:Int}(h:0<=n/\n<=255):P.wrap .i64 n=n:=by
 subst hP;show IntKind.i64.wrap n=n;exact C7 (by have:IntKind.i64.min= -9223372036854775808:=rfl;omega) (by have:IntKind.i64.max=9223372036854775807:=rfl;omega)
theorem TM(c:Int):P.shl c 8=c*256:=by subst hP;rfl
theorem V3(b c:UInt8):P.S4 .i64 (((b.toNat:Nat):Int)*256) ((c.toNat:Nat):Int)=256*((b.toNat:Nat):Int)+((c.toNat:Nat):Int):=by
 subst hP;have h1:=b.toNat_lt;have h2:=c.toNat_lt;show IntKind.i64.wrap (((BitVec.ofInt 64 (((b.toNat:Nat):Int)*256)|||BitVec.ofInt 64 ((c.toNat:Nat):Int)).toNat:Nat):Int)=_
 have e1:BitVec.ofInt 64 (((b.toNat:Nat):Int)*256)=BitVec.ofNat 64 (b.toNat*256):=by
  rw[show((b.toNat:Nat):Int)*256=((b.toNat*256:Nat):Int) by push_cast;rfl];exact BitVec.ofInt_natCast 64 _
 have a:BitVec.ofInt 64 ((c.toNat:Nat):Int)=BitVec.ofNat 64 c.toNat:=BitVec.ofInt_natCast 64 _;rw[e1,a,BitVec.toNat_or,cR,cR,cv qW,cv qW];have d:b.toNat*256|||c.toNat=b.toNat*256+c.toNat:=by
  have:=Nat.shiftLeft_add_eq_or_of_lt (i:=8) (b:=c.toNat) qW b.toNat;rw[Nat.shiftLeft_eq] at this;exact this.symm
 rw[d,C7 (by have:IntKind.i64.min= -9223372036854775808:=rfl;omega) (by have:IntKind.i64.max=9223372036854775807:=rfl;omega)];omega
theorem I9(c:Int):P.yX [[.int .u8 (P.wrap .u8 c)],[.int .u8 (P.wrap .u8 (P.shr c 8))],[.int .u8 (P.wrap .u8 (P.shr c 16))],[.int .u8 (P.wrap .u8 (P.shr c 24))]] (ko c):=by
 have h:=TI hP c (P.shr c 8) (P.shr c 16) (P.shr c 24);have e:[ml c,ml (P.shr c 8),ml (P.shr c 16),ml (P.shr c 24)]=ko c:=by rw[TJ hP,TK hP,TL hP];rfl
 rwa[e] at h
end
theorem Ja(s:BS)(hs:s.length<=maxLen):Spec Tryz.prog 110 [.str s] Hp.emp (Is (.int .u32 (kF s))):=
 jY (us0:= #[.string ⟨s.toArray⟩]) ⟨Tryz.f110,Tryz.func110,by decide+kernel,bB.1 (by decide+kernel)⟩
  (λF B w us hl hr=>s5 (f:=λ_=>True) hl hr λu h=>uB h) (u0:=.int .u32 (kF s)) (λF B w=>.int _ _)
  (λw=>by simpa using FR ⟨s.toArray⟩ w (by simpa[ByteArray.size] using hs))
theorem Ni(s:BS)(hs:s.length<=maxLen):Spec Tryz.prog 112 [.str s] Hp.emp (Is (.int .u32 (kF s))):=
 jY (us0:= #[.string ⟨s.toArray⟩]) ⟨Tryz.f112,Tryz.func112,by decide+kernel,bB.1 (by decide+kernel)⟩
  (λF B w us hl hr=>s5 (f:=λ_=>True) hl hr λu h=>uB h) (u0:=.int .u32 (kF s)) (λF B w=>.int _ _)
  (λw=>by
   refine(Ck ⟨s.toArray⟩ w (by simpa[ByteArray.size] using hs)).mono ?_;rintro e w' ⟨rfl,rfl⟩;exact⟨by simp,s6 _⟩)
def iZ(k:Int)(b:BS):BS:=[ml k,ml ((b.length:Int)/256),ml (b.length:Int)]++b
def oc(k:Int)(b:BS):BS:=iZ k b++ko (kF (iZ k b))
def gq(k:Int)(b:BS):BS×Int:=if k<1\/255<k then([],1) else if 4000<b.length then([],2) else(oc k b,0)
def kV(s:BS):Nat:=256*(s.getD 1 0).toNat+(s.getD 2 0).toNat
def fR(s:BS):Frame×Int×Int:=if s.length<7 then(⟨0,[]⟩,0,5)
 else if(s.getD 0 0).toNat=0\/4000<kV s then(⟨0,[]⟩,0,3)
 else if s.length<kV s+7 then(⟨0,[]⟩,0,5)
 else if(s.take (kV s+7)).drop (kV s+3)≠ko (kF (s.take (kV s+3))) then(⟨0,[]⟩,0,6)
 else(⟨(s.getD 0 0).toNat,(s.take (kV s+3)).drop 3⟩,(kV s:Int)+7,0)
def DS:AC:=qr [qo 2 (.mov (.c qe))] (qr [qm 3 0,qo 4 (.conv .u8 (.t 3)),qm 5 0,qo 6 (.bin .shr (.t 5) (.c (.int .u64 8))),qo 7 (.conv .u8 (.t 6)),qm 8 0,qo 9 (.bin .shr (.t 8) (.c (.int .u64 16))),qo 10 (.conv .u8 (.t 9)),qm 11 0,qo 12 (.bin .shr (.t 11) (.c (.int .u64 24))),qo 13 (.conv .u8 (.t 12)),qo 14 (.bslice 5 1 [.t 4,.t 7,.t 10,.t 13]),qo 15 (.convbs (.t 14)),qm 2 15] .ret)
theorem Nj:fF Tryz.prog 109 Tryz.f109 DS [.t 2] 1 er:=⟨Tryz.func109,by decide+kernel,by kernel_rfl,by kernel_rfl,by decide+kernel⟩
theorem Nk(P:Prim)(hP:P=dn)(T d:c8)(c:Int)
  (R:S->Prop)(a:∀b s' x,x=ko c->c6 b s'->iH [.t 2] [.str x] s'->R b):gj P T d DS (S0 [.int .u32 c] Hp.emp) R (λ_ _=>False) R:=by
 have a1:P.fC 0 8:=iu hP qD;have a2:P.fC 0 16:=iu hP qD;have a3:P.fC 0 24:=iu hP qD;have b1:P.iO 8 (P.bits .u32):=kN hP (by rw[s8 hP];decide);have b2:P.iO 16 (P.bits .u32):=kN hP (by rw[s8 hP];decide);have b3:P.iO 24 (P.bits .u32):=kN hP (by rw[s8 hP];decide);have f1:=I9 hP c
 generalize ko c=L at f1 a
 cbv
 repeat' first|(refine And.intro (by assumption) ?_;cbv)|(intro β;cbv)
 refine⟨lx hP _ _ rfl,_,f1,?_⟩;cbv;exact a _ _ _ rfl (c6.refl _) rfl
theorem DT(c:Int):Spec Tryz.prog 109 [.int .u32 c] Hp.emp (Is (.str (ko c))):=
 ep iD Nj [.str (ko c)] (.str _) λR a=>Nk dn rfl _ _ c R λs s' x h he hr=>by subst h;exact a s s' he hr
def DU:AC:=qr [qo 1 (.box 126 2 (.t 0)),qo 2 (.mov (.c qe)),qz 3 0] (qq (qr [qf 6 0 1,ql 7 6,qc 8 .lss 7 1,qm 9 8,qg 10 9 false (.faddr 0 (.t 1)),qg 11 9 false (.load1 (.t 10)),qg 12 9 false (.bin .gtr (.t 11) (qk 255)),qo 13 (.pick (.t 9) (.c (.bool true)) (.t 12))] (qu 13 (qr [qo 2 (.mov (.c qe)),qz 3 1] .ret) .skip)) (qq (qr [qf 14 1 1,ql 15 14,qo 16 (.len true (.t 15)),qc 17 .gtr 16 4000] (qu 17 (qr [qo 2 (.mov (.c qe)),qz 3 2] .ret) .skip)) (qr [qf 18 1 1,ql 19 18,qo 20 (.len true (.t 19)),qm 4 20] (qr [qf 21 0 1,ql 22 21,qo 23 (.conv .u8 (.t 22)),qm 24 4,qo 25 (.bin .shr (.t 24) (.c (.int .u64 8))),qo 26 (.conv .u8 (.t 25)),qm 27 4,qo 28 (.conv .u8 (.t 27)),qo 29 (.bslice 5 1 [.t 23,.t 26,.t 28]),qo 30 (.convbs (.t 29)),qf 31 1 1,ql 32 31,qb 33 .add 30 32,qm 5 33] (qr [qm 34 5,qm 35 5,qa 36 110 [.t 35],qa 37 109 [.t 36],qb 38 .add 34 37,qm 2 38,qz 3 0] .ret)))))
theorem Nl:fF Tryz.prog 70 Tryz.f70 DU [.t 2,.t 3] 1 er:=⟨Tryz.func70,by decide+kernel,by kernel_rfl,by kernel_rfl,by decide+kernel⟩
theorem Nn(P:Prim)(hP:P=dn)(T m:c8)(k:Int)(b:BS)(d:BS->Int)(h1:∀s,s.length<=5000->gK T 110 [.str s] (.int .u32 (d s)))
  (f:Int->BS)(i:∀c,(f c).length=4)(h2:∀c,gK T 109 [.int .u32 c] (.str (f c)))(r:BS)(e:Int)
  (hr:(if k<1\/255<k then([],1) else if 4000<b.length then([],2) else(iZ k b++f (d (iZ k b)),0))=(r,e))
  (R:S->Prop)(g:∀j s' x y,x=r/\y=e->c6 j s'->iH [.t 2,.t 3] [.str x,qI y] s'->R j):gj P T m DU (S0 [.agg [qI k,.str b]] Hp.emp) R (λ_ _=>False) R:=by
 have a:P.c9 b=(b.length:Int):=da hP b;have bad:k<1\/255<k->[]=r/\1=e:=λh=>by rw[ae h] at hr;simpa using hr
 cbv;intro β;cbv;refine ab (λh=>?_) (λh=>?_)
 ·have h6:k<1:=fJ hP h;cbv;exact g _ _ _ _ (bad (.inl h6)) (c6.refl _) rfl
 have h6:¬k<1:=fM hP h;cbv;refine ab (λh=>?_) (λh=>?_)
 ·have h7:255<k:=fJ hP h;cbv;exact g _ _ _ _ (bad (.inr h7)) (c6.refl _) rfl
 have h7:¬255<k:=fM hP h;rw[aa qO] at hr;cbv;refine ab (λh=>?_) (λh=>?_)
 ·have h8:4000<P.c9 b:=fJ hP h;rw[a] at h8;rw[ae qO] at hr;cbv;exact g _ _ _ _ (by simpa using hr) (c6.refl _) rfl
 have h8:¬4000<P.c9 b:=fM hP h;rw[a] at h8;rw[aa qO] at hr;simp only[aL] at hr;have a1:P.fC 0 8:=iu hP qD;have b1:P.iO 8 (P.bits .i64):=kN hP (by rw[Rj hP];decide);have f1:=Pu hP k (P.shr (P.c9 b) 8) (P.c9 b);have hd:P.h9 [ml k,ml (P.shr (P.c9 b) 8),ml (P.c9 b)] b=iZ k b:=by rw[TJ hP,a,k7 hP];rfl
 have i1:P.i64 (P.add (P.c9 [ml k,ml (P.shr (P.c9 b) 8),ml (P.c9 b)]) (P.c9 b)):=by
  rw[add_eq hP,a,da hP];exact eR hP (by simp only[au,aT];((try simp only[nc] at*);omega))
 generalize[ml k,ml (P.shr (P.c9 b) 8),ml (P.c9 b)]=L at f1 hd i1
 have hl:(iZ k b).length=b.length+3:=by simp[iZ]
 have c1:=h1 (iZ k b) qO;have l:=h2 (d (iZ k b));have i2:P.i64 (P.add (P.c9 (iZ k b)) (P.c9 (f (d (iZ k b))))):=by rw[add_eq hP,da hP,da hP,hl,i];exact eR hP qO
 have e1:=k7 hP (iZ k b) (f (d (iZ k b)));rw[<-hd] at c1 l i2 e1 hr;clear h1 h2;cbv
 repeat' first|(refine And.intro (by assumption) ?_;cbv)|(intro β;cbv)
 refine⟨lx hP _ _ rfl,_,f1,?_⟩;cbv;refine⟨i1,?_⟩;cbv;refine c1 _ _ ?_;cbv;refine l _ _ ?_;cbv;refine⟨i2,?_⟩;cbv;exact g _ _ _ _ ⟨by rw[e1];exact hr.1,hr.2⟩ (c6.refl _) rfl
theorem yl(f:Frame):Spec Tryz.prog 70 [.agg (jD f)] Hp.emp (Is (.tup [.str (gq f.kind f.body).1,.int .i64 (gq f.kind f.body).2])):=
 ep iD Nl [.str (gq f.kind f.body).1,.int .i64 (gq f.kind f.body).2] (.tup _ (by simp;exact⟨.str _,.int _ _⟩)) λR a=>Nn dn rfl _ _ f.kind f.body (λs=>kF s)
  (λs hs=>im (Ja s (by(have:maxLen=9223372036854775807:=by decide);((try simp only[nc] at*);omega))) rfl rfl) ko (λ_=>rfl) (λc=>im (DT c) rfl rfl) _ _ rfl R λb s' x y h he hr=>by obtain⟨rfl,rfl⟩:=h;exact a b s' he hr
def xj:AC:=qr [qo 1 (.box 126 2 (.t 0)),qo 2 (.mov (.c qe)),qz 3 0] (qq (qr [qf 7 0 1,ql 8 7,qc 9 .lss 8 1,qm 10 9,qg 11 10 false (.faddr 0 (.t 1)),qg 12 10 false (.load1 (.t 11)),qg 13 10 false (.bin .gtr (.t 12) (qk 255)),qo 14 (.pick (.t 10) (.c (.bool true)) (.t 13))] (qu 14 (qr [qo 2 (.mov (.c qe)),qz 3 1] .ret) .skip)) (qq (qr [qf 15 1 1,ql 16 15,qo 17 (.len true (.t 16)),qc 18 .gtr 17 4000] (qu 18 (qr [qo 2 (.mov (.c qe)),qz 3 2] .ret) .skip)) (qr [qf 19 1 1,ql 20 19,qo 21 (.len true (.t 20)),qm 4 21] (qr [qf 22 0 1,ql 23 22,qo 24 (.conv .u8 (.t 23)),qm 25 4,qc 26 .quo 25 256,qo 27 (.conv .u8 (.t 26)),qm 28 4,qc 29 .rem 28 256,qo 30 (.conv .u8 (.t 29)),qo 31 (.bslice 5 1 [.t 24,.t 27,.t 30]),qo 32 (.convbs (.t 31)),qf 33 1 1,ql 34 33,qb 35 .add 32 34,qm 5 35] (qr [qm 36 5,qa 37 112 [.t 36],qm 6 37] (qr [qm 38 5,qm 39 6,qo 40 (.conv .u8 (.t 39)),qm 41 6,qo 42 (.bin .shr (.t 41) (.c (.int .u64 8))),qo 43 (.conv .u8 (.t 42)),qm 44 6,qo 45 (.bin .shr (.t 44) (.c (.int .u64 16))),qo 46 (.conv .u8 (.t 45)),qm 47 6,qo 48 (.bin .shr (.t 47) (.c (.int .u64 24))),qo 49 (.conv .u8 (.t 48)),qo 50 (.bslice 5 1 [.t 40,.t 43,.t 46,.t 49]),qo 51 (.convbs (.t 50)),qb 52 .add 38 51,qm 2 52,qz 3 0] .ret))))))
theorem FT:fF Tryz.prog 74 Tryz.f74 xj [.t 2,.t 3] 1 er:=⟨Tryz.func74,by decide+kernel,by kernel_rfl,by kernel_rfl,by decide+kernel⟩
theorem FU(P:Prim)(hP:P=dn)(T i:c8)(k:Int)(b:BS)(f:BS->Int)(h1:∀s,s.length<=5000->gK T 112 [.str s] (.int .u32 (f s)))
  (r:BS)(e:Int)
  (hr:(if k<1\/255<k then([],1) else if 4000<b.length then([],2) else(iZ k b++ko (f (iZ k b)),0))=(r,e))
  (R:S->Prop)(d:∀g s' x y,x=r/\y=e->c6 g s'->iH [.t 2,.t 3] [.str x,qI y] s'->R g):gj P T i xj (S0 [.agg [qI k,.str b]] Hp.emp) R (λ_ _=>False) R:=by
 have a:P.c9 b=(b.length:Int):=da hP b;have bad:k<1\/255<k->[]=r/\1=e:=λh=>by rw[ae h] at hr;simpa using hr
 cbv;intro β;cbv;refine ab (λh=>?_) (λh=>?_)
 ·have h6:k<1:=fJ hP h;cbv;exact d _ _ _ _ (bad (.inl h6)) (c6.refl _) rfl
 have h6:¬k<1:=fM hP h;cbv;refine ab (λh=>?_) (λh=>?_)
 ·have h7:255<k:=fJ hP h;cbv;exact d _ _ _ _ (bad (.inr h7)) (c6.refl _) rfl
 have h7:¬255<k:=fM hP h;rw[aa qO] at hr;cbv;refine ab (λh=>?_) (λh=>?_)
 ·have h8:4000<P.c9 b:=fJ hP h;rw[a] at h8;rw[ae qO] at hr;cbv;exact d _ _ _ _ (by simpa using hr) (c6.refl _) rfl
 have h8:¬4000<P.c9 b:=fM hP h;rw[a] at h8;rw[aa qO] at hr;simp only[aL] at hr;have z0:P.fC 0 (P.c9 b):=iu hP (by rw[a];((try simp only[nc] at*);omega));have j:P.iO 0 256:=kN hP qD;have z2:P.div (P.c9 b) 256=(b.length:Int)/256:=by rw[a];subst hP;rfl
 have z3:P.mod (P.c9 b) 256=(b.length:Int)%256:=by rw[a];subst hP;rfl
 have z4:P.i64 (P.div (P.c9 b) 256):=by rw[z2];exact eR hP qO
 have f1:=Pu hP k (P.div (P.c9 b) 256) (P.mod (P.c9 b) 256);have hd:P.h9 [ml k,ml (P.div (P.c9 b) 256),ml (P.mod (P.c9 b) 256)] b=iZ k b:=by rw[z2,z3,yi,k7 hP];rfl
 have i1:P.i64 (P.add (P.c9 [ml k,ml (P.div (P.c9 b) 256),ml (P.mod (P.c9 b) 256)]) (P.c9 b)):=by
  rw[add_eq hP,a,da hP];exact eR hP (by simp only[au,aT];((try simp only[nc] at*);omega))
 generalize[ml k,ml (P.div (P.c9 b) 256),ml (P.mod (P.c9 b) 256)]=L at f1 hd i1
 have hl:(iZ k b).length=b.length+3:=by simp[iZ]
 have c1:=h1 (iZ k b) qO;rw[<-hd] at c1 hr hl;clear h1
 generalize f (P.h9 L b)=c at c1 hr
 have a1:P.fC 0 8:=iu hP qD;have a2:P.fC 0 16:=iu hP qD;have a3:P.fC 0 24:=iu hP qD;have b1:P.iO 8 (P.bits .u32):=kN hP (by rw[s8 hP];decide);have b2:P.iO 16 (P.bits .u32):=kN hP (by rw[s8 hP];decide);have b3:P.iO 24 (P.bits .u32):=kN hP (by rw[s8 hP];decide);have f2:=I9 hP c;have i2:P.i64 (P.add (P.c9 (P.h9 L b)) (P.c9 (ko c))):=by
  rw[add_eq hP,da hP,da hP,hl];exact eR hP (by simp only[ko,au,aT];((try simp only[nc] at*);omega))
 have e1:P.h9 (P.h9 L b) (ko c)=P.h9 L b++ko c:=k7 hP _ _;rw[<-e1] at hr
 generalize ko c=M at f2 i2 hr
 clear e1;cbv
 repeat' first|(refine And.intro (by assumption) ?_;cbv)|(intro β;cbv)
 refine⟨lx hP _ _ rfl,_,f1,?_⟩;cbv;refine⟨i1,?_⟩;cbv;refine c1 _ _ ?_;cbv
 repeat' first|(refine And.intro (by assumption) ?_;cbv)|(intro β;cbv)
 refine⟨lx hP _ _ rfl,_,f2,?_⟩;cbv;refine⟨i2,?_⟩;cbv;exact d _ _ _ _ hr (c6.refl _) rfl
theorem qp(f:Frame):Spec Tryz.prog 74 [.agg (jD f)] Hp.emp (Is (.tup [.str (gq f.kind f.body).1,.int .i64 (gq f.kind f.body).2])):=
 ep iD FT [.str (gq f.kind f.body).1,.int .i64 (gq f.kind f.body).2] (.tup _ (by simp;exact⟨.str _,.int _ _⟩)) λR a=>FU dn rfl _ _ f.kind f.body (λs=>kF s)
  (λs hs=>im (Ni s (by(have:maxLen=9223372036854775807:=by decide);((try simp only[nc] at*);omega))) rfl rfl) _ _ rfl R λb s' x y h he hr=>by obtain⟨rfl,rfl⟩:=h;exact a b s' he hr
theorem head_take{s:BS}(h:kV s+7<=s.length):iZ ((s.getD 0 0).toNat:Int) ((s.take (kV s+3)).drop 3)=s.take (kV s+3):=by
 match s,h with
 |[],h=>simp at h
 |[_],h=>simp at h
 |[_,_],h=>simp at h
 |a::b::c::t,h=>
  have hb:((((a::b::c::t).take (kV (a::b::c::t)+3)).drop 3).length:Int)=256*((b.toNat:Nat):Int)+((c.toNat:Nat):Int):=by
   rw[aJ,aI];have:kV (a::b::c::t)=256*b.toNat+c.toNat:=rfl;omega
  unfold iZ;rw[hb,Rh,Ri];show[ml ((a.toNat:Nat):Int),b,c]++_=_;rw[yj]
  generalize kV (a::b::c::t)=m
  rfl
theorem Cl(s:BS)(n:Nat)(h:n+7<=s.length):s.take (n+7)=s.take (n+3)++(s.take (n+7)).drop (n+3):=by
 have:=aZ (n+3) (s.take (n+7));rw[List.take_take,dZ qW] at this;exact this.symm
theorem Cm{s:BS}(h:kV s+7<=s.length):oc ((s.getD 0 0).toNat:Int) ((s.take (kV s+3)).drop 3)=s.take (kV s+7)↔(s.take (kV s+7)).drop (kV s+3)=ko (kF (s.take (kV s+3))):=by
 unfold oc;rw[head_take h]
 constructor
 ·intro g;rw[<-g];exact(List.drop_left' (by rw[aI];omega))
 ·intro g;rw[<-g];exact(Cl s _ h).symm
theorem Jb{P:Prim}(hP:P=dn){s:BS}{nn:Int}(h:kV s+7<=s.length)(hn:nn=(kV s:Int)):
  P.fC 0 (P.add nn 3)/\P.fC (P.add nn 3) (P.add nn 7)/\P.fC (P.add nn 7) (P.c9 s)/\P.fC (P.add nn 3) (P.c9 s)/\P.fC 3 (P.add nn 3)/\P.fC 0 3/\P.fC 0 0
  /\P.jy s (P.add nn 3) (P.add nn 7)=(s.take (kV s+7)).drop (kV s+3)/\P.jy s 0 (P.add nn 3)=s.take (kV s+3)/\P.jy s 3 (P.add nn 3)=(s.take (kV s+3)).drop 3:=by
 have b:P.add nn 3=((kV s+3:Nat):Int):=by rw[add_eq hP,hn];rfl
 have c:P.add nn 7=((kV s+7:Nat):Int):=by rw[add_eq hP,hn];rfl
 rw[b,c]
 generalize kV s=N at h
 have a:P.c9 s=(s.length:Int):=da hP s;refine⟨iu hP qW,lE hP qW,lE hP (by rw[a];omega),lE hP (by rw[a];omega),lE hP qW,iu hP qD,iu hP qD,?_,?_,?_⟩
 ·subst hP;rfl
 ·subst hP;rfl
 ·subst hP;rfl
def DV:AC:=qr [qo 2 (.alloc 126 uN),qz 3 0,qz 4 0] (qq (qr [qm 6 0,qo 7 (.len true (.t 6)),qc 8 .lss 7 7] (qu 8 (qr [qo 9 (.build uN []),qs 2 2 9,qz 3 0,qz 4 5] .ret) .skip)) (qq (.region true [qm 10 0,qo 11 (.ixs (.t 10) (qk 1)),qo 12 (.conv .i64 (.t 11)),qo 13 (.bin .shl (.t 12) (.c (.int .u64 8))),qm 14 0,qo 15 (.ixs (.t 14) (qk 2)),qo 16 (.conv .i64 (.t 15)),qb 17 .or 13 16,qm 5 17]) (qq (qr [qm 18 0,qo 19 (.ixs (.t 18) (qk 0)),qo 20 (.bin .eql (.t 19) (.c (.int .u8 0))),qm 21 20,qg 22 21 false (.mov (.t 5)),qg 23 21 false (.bin .gtr (.t 22) (qk 4000)),qo 24 (.pick (.t 21) (.c (.bool true)) (.t 23))] (qu 24 (qr [qo 25 (.build uN []),qs 2 2 25,qz 3 0,qz 4 3] .ret) .skip)) (qq (qr [qm 26 0,qo 27 (.len true (.t 26)),qm 28 5,qc 29 .add 28 7,qb 30 .lss 27 29] (qu 30 (qr [qo 31 (.build uN []),qs 2 2 31,qz 3 0,qz 4 5] .ret) .skip)) (qq (qq (.region true [qm 32 0,qm 33 5,qc 34 .add 33 3,qm 35 5,qc 36 .add 35 7,qo 37 (.slstr (.t 32) (some (.t 34)) (some (.t 36))),qm 38 0,qm 39 5,qc 40 .add 39 3,qo 41 (.slstr (.t 38) none (some (.t 40))),qa 42 110 [.t 41],qa 43 109 [.t 42],qb 44 .neq 37 43]) (qu 44 (qr [qo 45 (.build uN []),qs 2 2 45,qz 3 0,qz 4 6] .ret) .skip)) (qq (.region true [qm 46 0,qo 47 (.ixs (.t 46) (qk 0)),qo 48 (.conv .i64 (.t 47)),qm 49 0,qm 50 5,qc 51 .add 50 3,qo 52 (.slstr (.t 49) (some (qk 3)) (some (.t 51))),qo 53 (.build uN [(0,1,(.t 48)),(1,1,(.t 52))]),qm 54 5,qc 55 .add 54 7,qs 2 2 53,qm 3 55,qz 4 0]) .ret))))))
theorem No:fF Tryz.prog 150 Tryz.f150 DV [.cn 2 2,.t 3,.t 4] 1 er:=⟨Tryz.func150,by decide+kernel,by kernel_rfl,by kernel_rfl,by decide+kernel⟩
theorem Np(P:Prim)(hP:P=dn)(T o:c8)(s:BS)(hs:s.length<=maxLen)(p:BS->Int)(h1:∀s,s.length<=5000->gK o 110 [.str s] (.int .u32 (p s)))
  (j:∀s,p s=kF s)(w:Int->BS)(l:∀c,w c=ko c)(h2:∀c,gK o 109 [.int .u32 c] (.str (w c)))(q:Int)(rb:BS)(r u:Int)(hr:fR s=(⟨q,rb⟩,r,u))
  (R:S->Prop)(i:∀y s' k b n e,(k=q/\b=rb/\n=r/\e=u)->c6 y s'->iH [.cn 2 2,.t 3,.t 4] [.agg [qI k,.str b],qI n,qI e] s'->R y):gj P T o DV (S0 [.str s] Hp.emp) R (λ_ _=>False) R:=by
 have C:maxLen=9223372036854775807:=by decide
 have a:P.c9 s=(s.length:Int):=da hP s;have q0:P.sat s 0=((s.getD 0 0).toNat:Int):=by subst hP;rfl
 have q1:P.sat s 1=((s.getD 1 0).toNat:Int):=by subst hP;rfl
 have q2:P.sat s 2=((s.getD 2 0).toNat:Int):=by subst hP;rfl
 have u0:=(s.getD 0 0).toNat_lt;have G:=(s.getD 1 0).toNat_lt;have H:=(s.getD 2 0).toNat_lt;have w1:P.wrap .i64 (P.sat s 1)=((s.getD 1 0).toNat:Int):=by rw[q1];exact S8 hP qO
 have w2:P.wrap .i64 (P.sat s 2)=((s.getD 2 0).toNat:Int):=by rw[q2];exact S8 hP qO
 have w0:P.wrap .i64 (P.sat s 0)=((s.getD 0 0).toNat:Int):=by rw[q0];exact S8 hP qO
 unfold fR at hr;cbv;intro β;cbv;refine ab (λh=>?_) (λh=>?_)
 ·have h7:P.c9 s<7:=fJ hP h;rw[a] at h7;rw[ae qO] at hr;cbv;exact i _ _ _ _ _ _ (by simpa[dC] using hr) (c6.refl _) ⟨rfl,rfl,an 0,ah 2,rfl⟩
 have h7:¬P.c9 s<7:=fM hP h;rw[a] at h7;rw[aa qO] at hr;have a0:P.fC 0 0:=iu hP qD;have a1:P.fC 0 1:=iu hP qD;have a2:P.fC 0 2:=iu hP qD;have a3:P.iO 0 (P.c9 s):=kN hP (by rw[a];((try simp only[nc] at*);omega));have a4:P.iO 1 (P.c9 s):=kN hP (by rw[a];((try simp only[nc] at*);omega));have a5:P.iO 2 (P.c9 s):=kN hP (by rw[a];((try simp only[nc] at*);omega));have I:P.fC 0 8:=iu hP qD;have J:P.iO 8 64:=kN hP qD;have K:P.i64 (P.shl (P.wrap .i64 (P.sat s 1)) 8):=by rw[w1,TM hP];exact eR hP qO
 obtain⟨nn,B0⟩:∃nn,nn=P.S4 .i64 (P.shl (P.wrap .i64 (P.sat s 1)) 8) (P.wrap .i64 (P.sat s 2)):=⟨_,rfl⟩;have hn:nn=(kV s:Int):=by rw[B0,w1,w2,TM hP,V3 hP];unfold kV;((try simp only[nc] at*);omega)
 have z:P.add nn 3=(kV s:Int)+3:=by rw[add_eq hP,hn]
 have m:P.add nn 7=(kV s:Int)+7:=by rw[add_eq hP,hn]
 have D:kV s<=70000:=by unfold kV;omega
 have i3:P.i64 (P.add nn 3):=by rw[z];exact eR hP qO
 have i7:P.i64 (P.add nn 7):=by rw[m];exact eR hP qO
 rw[B0] at hn z m i3 i7;clear B0;cbv
 repeat' first|(refine And.intro (by assumption) ?_;cbv)|(intro β;cbv)
 have d:(s.getD 0 0).toNat=0\/4000<kV s->(0:Int)=q/\([]:BS)=rb/\(0:Int)=r/\(3:Int)=u:=λh=>by rw[ae h] at hr;simpa[dC] using hr
 refine ab (λh=>?_) (λh=>?_)
 ·have h8:P.sat s 0=0:=nG hP h;rw[q0] at h8;cbv;exact i _ _ _ _ _ _ (d (.inl qO)) (c6.refl _) ⟨rfl,rfl,an 0,ah 2,rfl⟩
 have h8:¬P.sat s 0=0:=nH hP h;rw[q0] at h8;cbv;refine ab (λh=>?_) (λh=>?_)
 ·have A:=bR (fJ hP h) (cS hn);cbv;exact i _ _ _ _ _ _ (d (.inr qO)) (c6.refl _) ⟨rfl,rfl,an 0,ah 2,rfl⟩
 have A:¬(4000:Int)<(kV s:Int):=λg=>fM hP h (bR g (cS hn.symm));clear d;rw[aa qO] at hr;cbv;refine⟨i7,?_⟩;refine ab (λh=>?_) (λh=>?_)
 ·have f:P.c9 s<(kV s:Int)+7:=bR (fJ hP h) (cS m);rw[a] at f;rw[ae qO] at hr;cbv;exact i _ _ _ _ _ _ (by simpa[dC] using hr) (c6.refl _) ⟨rfl,rfl,an 0,ah 2,rfl⟩
 have f:¬P.c9 s<(kV s:Int)+7:=λg=>fM hP h (bR g (cS m.symm));rw[a] at f;rw[aa qO] at hr;clear h h7 h8;obtain⟨L,M,N,O,Q,U,V,E,B,v⟩:=Jb hP qO hn;rw[<-E,<-v,<-B] at hr;have c1:=h1 (P.jy s 0 (P.add (P.S4 .i64 (P.shl (P.wrap .i64 (P.sat s 1)) 8) (P.wrap .i64 (P.sat s 2))) 3)) (by rw[B,aI];((try simp only[nc] at*);omega));have F:=h2 (p (P.jy s 0 (P.add (P.S4 .i64 (P.shl (P.wrap .i64 (P.sat s 1)) 8) (P.wrap .i64 (P.sat s 2))) 3)));clear h1 h2 A;cbv
 repeat' first|(refine And.intro (by assumption) ?_;cbv)|(intro β;cbv)
 refine c1 _ _ ?_;cbv;refine F _ _ ?_;cbv;refine ab (λh=>?_) (λh=>?_)
 ·have g:=zC hP h;rw[l,j] at g;rw[ae g] at hr;cbv;exact i _ _ _ _ _ _ (by simpa[dC] using hr) (c6.refl _) ⟨rfl,rfl,an 0,ah 2,rfl⟩
 ·have g:=zD hP h;rw[l,j] at g;rw[aa (λx=>x g)] at hr;simp only[aL,Frame.mk.injEq] at hr;cbv
  repeat' first|(refine And.intro (by assumption) ?_;cbv)|(intro β;cbv)
  exact i _ _ _ _ _ _ ⟨w0.trans hr.1.1,hr.1.2,m.trans hr.2.1,hr.2.2⟩ (c6.refl _) ⟨rfl,rfl,an 0,ah 2,rfl⟩
theorem Nq(s:BS)(hs:s.length<=maxLen):Spec Tryz.prog 150 [.str s] Hp.emp (Is (.tup [.agg (jD (fR s).1),.int .i64 (fR s).2.1,.int .i64 (fR s).2.2])):=
 ep iD No [.agg (jD (fR s).1),.int .i64 (fR s).2.1,.int .i64 (fR s).2.2] (.tup _ (by simp[jD];exact⟨.agg _ (by simp;exact⟨.int _ _,.str _⟩),.int _ _,.int _ _⟩)) λR a=>Np dn rfl _ _ s hs (λs=>kF s)
  (λs hs=>oh (Ja s (by(have:maxLen=9223372036854775807:=by decide);omega)) (λ_=>fO rfl) rfl) (λ_=>rfl) ko (λ_=>rfl) (λc=>oh (DT c) (λ_=>fO rfl) rfl) _ _ _ _ rfl R
  λd s' k b n e h he hr=>by obtain⟨rfl,rfl,rfl,rfl⟩:=h;exact a d s' he hr
def DW:AC:=qr [qo 2 (.alloc 126 uN),qz 3 0,qz 4 0] (qq (qr [qm 9 0,qo 10 (.len true (.t 9)),qc 11 .lss 10 7] (qu 11 (qr [qo 12 (.build uN []),qs 2 2 12,qz 3 0,qz 4 5] .ret) .skip)) (qq (.region true [qm 13 0,qo 14 (.ixs (.t 13) (qk 1)),qo 15 (.conv .i64 (.t 14)),qo 16 (.bin .mul (qk 256) (.t 15)),qm 17 0,qo 18 (.ixs (.t 17) (qk 2)),qo 19 (.conv .i64 (.t 18)),qb 20 .add 16 19,qm 5 20]) (qq (qr [qm 21 0,qo 22 (.ixs (.t 21) (qk 0)),qo 23 (.bin .eql (.t 22) (.c (.int .u8 0))),qm 24 23,qg 25 24 false (.mov (.t 5)),qg 26 24 false (.bin .gtr (.t 25) (qk 4000)),qo 27 (.pick (.t 24) (.c (.bool true)) (.t 26))] (qu 27 (qr [qo 28 (.build uN []),qs 2 2 28,qz 3 0,qz 4 3] .ret) .skip)) (qq (qr [qm 29 0,qo 30 (.len true (.t 29)),qm 31 5,qo 32 (.bin .add (qk 7) (.t 31)),qb 33 .lss 30 32] (qu 33 (qr [qo 34 (.build uN []),qs 2 2 34,qz 3 0,qz 4 5] .ret) .skip)) (qq (.region true [qm 35 0,qo 36 (.ixs (.t 35) (qk 0)),qo 37 (.conv .i64 (.t 36)),qm 38 0,qm 39 5,qo 40 (.bin .add (qk 3) (.t 39)),qo 41 (.slstr (.t 38) (some (qk 3)) (some (.t 40))),qo 42 (.build uN [(0,1,(.t 37)),(1,1,(.t 41))]),qo 6 (.alloc 126 uN),qs 2 6 42]) (qq (qr [qd 44 2 6,qa 45 74 [.t 44],qm 43 45,qx 46 0 43,qx 47 1 43,qm 7 46,qm 8 47] (qr [qm 48 7,qm 49 0,qm 50 5,qo 51 (.bin .add (qk 7) (.t 50)),qo 52 (.slstr (.t 49) none (some (.t 51))),qb 53 .neq 48 52] (qu 53 (qr [qo 54 (.build uN []),qs 2 2 54,qz 3 0,qz 4 6] .ret) .skip))) (qr [qd 55 2 6,qm 56 5,qo 57 (.bin .add (qk 7) (.t 56)),qs 2 2 55,qm 3 57,qz 4 0] .ret)))))))
theorem Nr:fF Tryz.prog 153 Tryz.f153 DW [.cn 2 2,.t 3,.t 4] 1 er:=⟨Tryz.func153,by decide+kernel,by kernel_rfl,by kernel_rfl,by decide+kernel⟩
theorem FV{P:Prim}(hP:P=dn){s:BS}{nn:Int}(h:kV s+7<=s.length)(hn:nn=(kV s:Int)):
  P.fC 0 (P.add 7 nn)/\P.fC (P.add 7 nn) (P.c9 s)/\P.fC (P.add 3 nn) (P.c9 s)/\P.fC 3 (P.add 3 nn)/\P.fC 0 3/\P.fC 0 0
  /\P.jy s 0 (P.add 7 nn)=s.take (kV s+7)/\P.jy s 3 (P.add 3 nn)=(s.take (kV s+3)).drop 3:=by
 have b:P.add 3 nn=((kV s+3:Nat):Int):=by rw[add_eq hP,hn];((try simp only[nc] at*);omega)
 have c:P.add 7 nn=((kV s+7:Nat):Int):=by rw[add_eq hP,hn];((try simp only[nc] at*);omega)
 rw[b,c]
 generalize kV s=N at h
 have a:P.c9 s=(s.length:Int):=da hP s;refine⟨iu hP qW,lE hP (by rw[a];omega),lE hP (by rw[a];omega),lE hP qW,iu hP qD,iu hP qD,?_,?_⟩
 ·subst hP;rfl
 ·subst hP;rfl
theorem Ns(P:Prim)(hP:P=dn)(T y:c8)(s:BS)(hs:s.length<=maxLen)(q:Int->BS->BS)(z:Int->BS->Int)
  (h1:∀k b,gK T 74 [.agg [qI k,.str b]] (.tup [.str (q k b),qI (z k b)]))(i:∀k b,1<=k->k<=255->b.length<=4000->q k b=oc k b)
  (l:Int)(rb:BS)(m o:Int)(hr:fR s=(⟨l,rb⟩,m,o))
  (R:S->Prop)(f:∀r s' k b n e,(k=l/\b=rb/\n=m/\e=o)->c6 r s'->iH [.cn 2 2,.t 3,.t 4] [.agg [qI k,.str b],qI n,qI e] s'->R r):gj P T y DW (S0 [.str s] Hp.emp) R (λ_ _=>False) R:=by
 have A:maxLen=9223372036854775807:=by decide
 have a:P.c9 s=(s.length:Int):=da hP s;have q0:P.sat s 0=((s.getD 0 0).toNat:Int):=by subst hP;rfl
 have q1:P.sat s 1=((s.getD 1 0).toNat:Int):=by subst hP;rfl
 have q2:P.sat s 2=((s.getD 2 0).toNat:Int):=by subst hP;rfl
 have u0:=(s.getD 0 0).toNat_lt;have D:=(s.getD 1 0).toNat_lt;have E:=(s.getD 2 0).toNat_lt;have w1:P.wrap .i64 (P.sat s 1)=((s.getD 1 0).toNat:Int):=by rw[q1];exact S8 hP qO
 have w2:P.wrap .i64 (P.sat s 2)=((s.getD 2 0).toNat:Int):=by rw[q2];exact S8 hP qO
 have w0:P.wrap .i64 (P.sat s 0)=((s.getD 0 0).toNat:Int):=by rw[q0];exact S8 hP qO
 unfold fR at hr;cbv;intro β;cbv;refine ab (λh=>?_) (λh=>?_)
 ·have h7:P.c9 s<7:=fJ hP h;rw[a] at h7;rw[ae qO] at hr;cbv;exact f _ _ _ _ _ _ (by simpa[dC] using hr) (c6.refl _) ⟨rfl,rfl,an 0,ah 2,rfl⟩
 have h7:¬P.c9 s<7:=fM hP h;rw[a] at h7;rw[aa qO] at hr;have a0:P.fC 0 0:=iu hP qD;have a1:P.fC 0 1:=iu hP qD;have a2:P.fC 0 2:=iu hP qD;have a3:P.iO 0 (P.c9 s):=kN hP (by rw[a];((try simp only[nc] at*);omega));have a4:P.iO 1 (P.c9 s):=kN hP (by rw[a];((try simp only[nc] at*);omega));have a5:P.iO 2 (P.c9 s):=kN hP (by rw[a];((try simp only[nc] at*);omega));have m1:P.mul 256 (P.wrap .i64 (P.sat s 1))=256*((s.getD 1 0).toNat:Int):=by rw[w1];subst hP;rfl
 have F:P.i64 (P.mul 256 (P.wrap .i64 (P.sat s 1))):=by rw[m1];exact eR hP qO
 have hn:P.add (P.mul 256 (P.wrap .i64 (P.sat s 1))) (P.wrap .i64 (P.sat s 2))=(kV s:Int):=by rw[add_eq hP,m1,w2];unfold kV;((try simp only[nc] at*);omega)
 have B:kV s<=70000:=by unfold kV;omega
 have a9:P.i64 (P.add (P.mul 256 (P.wrap .i64 (P.sat s 1))) (P.wrap .i64 (P.sat s 2))):=by rw[hn];exact eR hP qO
 have C:P.add 3 (P.add (P.mul 256 (P.wrap .i64 (P.sat s 1))) (P.wrap .i64 (P.sat s 2)))=(kV s:Int)+3:=by rw[add_eq hP 3,hn];((try simp only[nc] at*);omega)
 have j:P.add 7 (P.add (P.mul 256 (P.wrap .i64 (P.sat s 1))) (P.wrap .i64 (P.sat s 2)))=(kV s:Int)+7:=by rw[add_eq hP 7,hn];((try simp only[nc] at*);omega)
 have i3:P.i64 (P.add 3 (P.add (P.mul 256 (P.wrap .i64 (P.sat s 1))) (P.wrap .i64 (P.sat s 2)))):=by rw[C];exact eR hP qO
 have i7:P.i64 (P.add 7 (P.add (P.mul 256 (P.wrap .i64 (P.sat s 1))) (P.wrap .i64 (P.sat s 2)))):=by rw[j];exact eR hP qO
 cbv
 repeat' first|(refine And.intro (by assumption) ?_;cbv)|(intro β;cbv)
 have c:(s.getD 0 0).toNat=0\/4000<kV s->(0:Int)=l/\([]:BS)=rb/\(0:Int)=m/\(3:Int)=o:=λh=>by rw[ae h] at hr;simpa[dC] using hr
 refine ab (λh=>?_) (λh=>?_)
 ·have h8:P.sat s 0=0:=nG hP h;rw[q0] at h8;cbv;exact f _ _ _ _ _ _ (c (.inl qO)) (c6.refl _) ⟨rfl,rfl,an 0,ah 2,rfl⟩
 have h8:¬P.sat s 0=0:=nH hP h;rw[q0] at h8;cbv;refine ab (λh=>?_) (λh=>?_)
 ·have u:=bR (fJ hP h) (cS hn);cbv;exact f _ _ _ _ _ _ (c (.inr qO)) (c6.refl _) ⟨rfl,rfl,an 0,ah 2,rfl⟩
 have u:¬(4000:Int)<(kV s:Int):=λg=>fM hP h (bR g (cS hn.symm));clear c;rw[aa qO] at hr;cbv;refine⟨i7,?_⟩;refine ab (λh=>?_) (λh=>?_)
 ·have d:P.c9 s<(kV s:Int)+7:=bR (fJ hP h) (cS j);rw[a] at d;rw[ae qO] at hr;cbv;exact f _ _ _ _ _ _ (by simpa[dC] using hr) (c6.refl _) ⟨rfl,rfl,an 0,ah 2,rfl⟩
 have d:¬P.c9 s<(kV s:Int)+7:=λg=>fM hP h (bR g (cS j.symm));rw[a] at d;rw[aa qO] at hr;clear h;have hlen:kV s+7<=s.length:=by((try simp only[nc] at*);omega)
 obtain⟨G,H,I,J,K,L,v,p⟩:=FV hP hlen hn;have c1:=h1 (P.wrap .i64 (P.sat s 0)) (P.jy s 3 (P.add 3 (P.add (P.mul 256 (P.wrap .i64 (P.sat s 1))) (P.wrap .i64 (P.sat s 2)))));have e1:=i (P.wrap .i64 (P.sat s 0)) (P.jy s 3 (P.add 3 (P.add (P.mul 256 (P.wrap .i64 (P.sat s 1))) (P.wrap .i64 (P.sat s 2))))) (by rw[w0];((try simp only[nc] at*);omega)) (by rw[w0];((try simp only[nc] at*);omega)) (by rw[p,aJ,aI];((try simp only[nc] at*);omega));have w:=Cm hlen
 replace e1:=e1.trans (show _=oc ((s.getD 0 0).toNat:Int) ((s.take (kV s+3)).drop 3) by rw[w0,p])
 clear h1 i h8 u;cbv
 repeat' first|(refine And.intro (by assumption) ?_;cbv)|(intro β;cbv)
 refine c1 _ _ ?_;cbv
 repeat' first|(refine And.intro (by assumption) ?_;cbv)|(intro β;cbv)
 refine ab (λh=>?_) (λh=>?_)
 ·rw[ae (λx=>zC hP h ((e1.trans (w.2 x)).trans v.symm))] at hr;cbv;exact f _ _ _ _ _ _ (by simpa[dC] using hr) (c6.refl _) ⟨rfl,rfl,an 0,ah 2,rfl⟩
 ·rw[aa (λx=>x (w.1 ((e1.symm.trans (zD hP h)).trans v))),<-p] at hr;simp only[aL,Frame.mk.injEq] at hr;cbv
  repeat' first|(refine And.intro (by assumption) ?_;cbv)|(intro β;cbv)
  exact f _ _ _ _ _ _ ⟨w0.trans hr.1.1,hr.1.2,j.trans hr.2.1,hr.2.2⟩ (c6.refl _) ⟨rfl,rfl,an 0,ah 2,rfl⟩
theorem Nt(s:BS)(hs:s.length<=maxLen):Spec Tryz.prog 153 [.str s] Hp.emp (Is (.tup [.agg (jD (fR s).1),.int .i64 (fR s).2.1,.int .i64 (fR s).2.2])):=
 ep iD Nr [.agg (jD (fR s).1),.int .i64 (fR s).2.1,.int .i64 (fR s).2.2] (.tup _ (by simp[jD];exact⟨.agg _ (by simp;exact⟨.int _ _,.str _⟩),.int _ _,.int _ _⟩)) λR a=>Ns dn rfl _ _ s hs (λk b=>(gq k b).1) (λk b=>(gq k b).2)
  (λk b=>ia (qp ⟨k,b⟩) (λh=>.cons (.same _) .nil) rfl) (λk b h1 h2 h3=>by unfold gq;rw[aa qW,aa qW]) _ _ _ _ rfl R
  λc s' k b n e h he hr=>by obtain⟨rfl,rfl,rfl,rfl⟩:=h;exact a c s' he hr
def iN(l:List Frame):List (List V):=l.map jD
def nu:Nat->BS->List Frame×Int
 |0,_=>([],0)
 |m+1,s=>if(fR s).2.2≠0 then([],0) else((fR s).1::(nu m (s.drop (fR s).2.1.toNat)).1,(fR s).2.1+(nu m (s.drop (fR s).2.1.toNat)).2)
def fk(s:BS):List Frame×Int:=nu (s.length+1) s
theorem kX{s:BS}(h:(fR s).2.2=0):7<=(fR s).2.1/\(fR s).2.1<=(s.length:Int)/\1<=(fR s).1.kind/\(fR s).1.kind<=255/\(fR s).2.1=((fR s).1.body.length:Int)+7/\(fR s).1.body.length<=4000:=by
 unfold fR at h⊢
 by_cases h1:s.length<7
 ·rw[ae h1] at h;exact absurd h qD
 rw[aa h1] at h⊢
 by_cases h2:(s.getD 0 0).toNat=0\/4000<kV s
 ·rw[ae h2] at h;exact absurd h qD
 rw[aa h2] at h⊢
 by_cases h3:s.length<kV s+7
 ·rw[ae h3] at h;exact absurd h qD
 rw[aa h3] at h⊢
 by_cases h4:(s.take (kV s+7)).drop (kV s+3)≠ko (kF (s.take (kV s+3)))
 ·rw[ae h4] at h;exact absurd h qD
 rw[aa h4];have:=(s.getD 0 0).toNat_lt;simp only[aJ,aI];omega
theorem pG:∀(m:Nat)(s:BS),s.length<m->nu m s=fk s
 |0,s,h=>absurd h (Nat.not_lt_zero _)
 |m+1,s,h=>by
  unfold fk;rw[nu,nu]
  by_cases he:(fR s).2.2≠0
  ·rw[ae he,ae he]
  ·have hg:=kX (az he);have hl:(s.drop (fR s).2.1.toNat).length<s.length:=by rw[aJ];omega
   rw[aa he,aa he,pG m _ qW]
   by_cases hm:m+1=s.length+1
   ·have:m=s.length:=by omega
    subst this;rw[pG s.length _ hl]
   ·rw[pG s.length _ hl]
 termination_by m s=>(s.length,m)
 decreasing_by all_goals(simp_wf;rw[Prod.lex_def];simp only[];omega)
theorem lQ(s:BS):fk s=if(fR s).2.2≠0 then([],0) else((fR s).1::(fk (s.drop (fR s).2.1.toNat)).1,(fR s).2.1+(fk (s.drop (fR s).2.1.toNat)).2):=by
 show nu (s.length+1) s=_;rw[nu]
 by_cases he:(fR s).2.2≠0
 ·rw[ae he,ae he]
 ·have hg:=kX (az he);rw[aa he,aa he,pG s.length _ (by rw[aJ];omega)]
theorem sg:∀(n:Nat)(s:BS),s.length<=n->(fk s).1.length*7<=s.length/\0<=(fk s).2/\(fk s).2<=(s.length:Int)
 |0,s,h=>by
  rw[lQ];have:(fR s).2.2≠0:=by
   intro hg;have:=kX hg;omega
  rw[ae this];simp
 |n+1,s,h=>by
  rw[lQ]
  by_cases he:(fR s).2.2≠0
  ·rw[ae he];simp
  ·have hg:=kX (az he);rw[aa he];have hd:(s.drop (fR s).2.1.toNat).length=s.length-(fR s).2.1.toNat:=aJ ..;have ih:=sg n (s.drop (fR s).2.1.toNat) qW;simp only[au];omega
theorem xl(l:List Frame):∀r∈iN l,r.length=2:=by
 intro r hr;obtain⟨f,_,rfl⟩:=aC.1 hr;rfl
theorem xm(l:List Frame):∀r∈iN l,∀v∈r,Fz v:=by
 intro r hr v hv;obtain⟨f,_,rfl⟩:=aC.1 hr;simp[jD] at hv
 rcases hv with rfl|rfl
 ·exact .int _ _
 ·exact .str _
def DX:AC:=qr [qo 2 (.mov (.c (.slice none 0 0))),qz 3 0] (qr [qo 4 (.mov (.c (.slice none 0 0)))] (qr [qz 5 0] (.block 0 (.loop (.block 1 (qr [qm 10 0,qm 11 5,qo 12 (.slstr (.t 10) (some (.t 11)) none),qa 13 150 [.t 12],qm 9 13,qx 14 0 9,qx 15 1 9,qx 16 2 9,qo 6 (.alloc 126 uN),qs 2 6 14,qm 7 15,qm 8 16] (qq (qr [qm 17 8,qc 18 .neq 17 0] (qu 18 (qr [qm 19 4,qm 20 5,qm 2 19,qm 3 20] .ret) .skip)) (qr [qm 21 4,qd 22 2 6,qo 23 (.bslice 126 2 [.t 22]),qo 24 (.append 126 2 24 (.t 21) (.t 23)),qm 4 24] (qR [qm 25 5,qm 26 7,qb 27 .add 25 26,qm 5 27])))))))))
theorem Nu:fF Tryz.prog 134 Tryz.f134 DX [.t 2,.t 3] 1 er:=⟨Tryz.func134,by decide+kernel,by kernel_rfl,by kernel_rfl,by decide+kernel⟩
structure Zj(s:BS) where
 eF:Int
 out:List Frame
 b:Option Nat
 c:Nat
 rows:List (List V)
 hg:0<=eF/\eF<=(s.length:Int)
 hs:fk s=(out++(fk (s.drop eF.toNat)).1,eF+(fk (s.drop eF.toNat)).2)
 ho:(out.length:Int)*7<=eF
 ds:rows=iN out
 hc:c=out.length
theorem Nv(P:Prim)(hP:P=dn)(T q:c8)(s:BS)(hs:s.length<=1048576)(j:BS->Int)(l:BS->BS)(fn m:BS->Int)
  (hf:∀s,fR s=(⟨j s,l s⟩,fn s,m s))(h1:∀s,s.length<=1048576->gK T 150 [.str s] (.tup [.agg [qI (j s),.str (l s)],qI (fn s),qI (m s)]))
  (rl:List Frame)(rg:Int)(hr:fk s=(rl,rg))(rr:List (List V))(ku:rr=iN rl)
  (R:S->Prop)(u:∀x,x=rg->qZ [.t 2,.t 3] 2 rr [qI x] R):gj P T q DX (S0 [.str s] Hp.emp) R (λ_ _=>False) R:=by
 have f:P.c9 s=(s.length:Int):=da hP s;cbv;refine⟨Zj s,λy=>[(0,.str s),(4,.own 1000024 y.b 2 y.c),(5,qI y.eF)],λy=>[(1000024,⟨y.b,126,2,y.rows⟩)],λy=>s.length-y.eF.toNat,
  ⟨_,c6.nil (i:=4) (k:=1000024) (ty:=126) (sz:=2) rfl rfl,⟨0,[],_,_,_,qW,by simp,by simp,rfl,rfl⟩,⟨rfl,rfl,rfl,trivial⟩,⟨rfl,trivial⟩⟩,?_⟩
 rintro⟨eF,out,b,c,rows,hg,d,ho,ds,hc⟩
 replace hg:0<=eF/\eF<=(s.length:Int):=hg
 have v:P.fC 0 eF:=iu hP hg.1;have w:P.fC eF (P.c9 s):=lE hP (by rw[f];exact hg.2);have z:P.fC (P.c9 s) (P.c9 s):=lE hP (aN _);have e1:P.jy s eF (P.c9 s)=s.drop eF.toNat:=by
  rw[f];subst hP;show(s.take ((s.length:Int)).toNat).drop eF.toNat=_;rw[aA,aM]
 have n:((s.drop eF.toNat).length:Int)=(s.length:Int)-eF:=by rw[aJ];((try simp only[nc] at*);omega)
 have c1:=h1 (s.drop eF.toNat) qO;have f1:=hf (s.drop eF.toNat);have a:=lQ (s.drop eF.toNat);have e:= @kX (s.drop eF.toNat);rw[f1] at a e;simp only[] at a e;rw[<-e1] at c1;clear h1;cbv;refine⟨v,w,z,?_⟩;refine c1 _ _ ?_;rw[e1];clear c1 f1 hf
 generalize j (s.drop eF.toNat)=k1 at a e⊢
 generalize l (s.drop eF.toNat)=b1 at a e⊢
 generalize fn (s.drop eF.toNat)=n1 at a e⊢
 generalize m (s.drop eF.toNat)=e1 at a e⊢
 cbv
 repeat' first|(refine qA ?_;cbv)|(intro β;cbv)
 refine ab (λh=>?_) (λh=>?_)
 ·have hx:=hH hP h;rw[ae hx] at a;rw[a] at d;simp only[aS,Int.add_zero] at d;rw[hr] at d;simp only[aL] at d;cbv;exact(u _ d.2.symm).2.1 _ _ _ _ _ _ _ (c6.refl _) rfl rfl ⟨by rw[hc,ku,d.1];simp[iN],by rw[ds,ku,d.1]⟩
 have hx:=gZ hP h;rw[aa (λx=>x hx)] at a;have hg1:=e hx;rw[n] at hg1;have A:(out.length:Int)<=1048576:=by((try simp only[nc] at*);omega)
 have f4:P.nL rows c:=lx hP _ _ (by rw[ds,hc];simp[iN]);have f5:∀r,P.bytes (P.add (P.int c) (P.dv [r])) 24:=by intro r;subst hP;show((c:Int)+1)*24<=_;rw[hc];((try simp only[nc] at*);omega)
 have f6:∀r,P.nL [r] 1:=by intro r;subst hP;rfl
 have f7:P.kB rows [[qI k1,.str b1]]=iN (out++[⟨k1,b1⟩]):=by rw[ds];subst hP;simp[dn,iN,jD]
 have f8:∀r:List V,P.hU c (P.fQ [r])=(out++[(⟨k1,b1⟩:Frame)]).length:=by intro r;rw[hc];subst hP;simp[dn]
 have a1:P.add eF n1=eF+n1:=add_eq hP _ _;have a2:P.i64 (P.add eF n1):=by rw[a1];exact eR hP qO
 have a3:(s.drop eF.toNat).drop n1.toNat=s.drop (P.add eF n1).toNat:=by rw[b7,a1];congr 1;((try simp only[nc] at*);omega)
 have g:fk s=((out++[⟨k1,b1⟩])++(fk (s.drop (P.add eF n1).toNat)).1,P.add eF n1+(fk (s.drop (P.add eF n1).toNat)).2):=by
  rw[d,a,a3,a1];simp only[bh,dP,aL,eU]
  ((try simp only[nc] at*);omega)
 have o:0<=P.add eF n1/\P.add eF n1<=(s.length:Int):=by rw[a1];((try simp only[nc] at*);omega)
 have p:((out++[(⟨k1,b1⟩:Frame)]).length:Int)*7<=P.add eF n1:=by rw[a1,ag];simp only[au,aT];((try simp only[nc] at*);omega)
 have hm:s.length-(P.add eF n1).toNat<s.length-eF.toNat:=by rw[a1];((try simp only[nc] at*);omega)
 cbv
 repeat' first|(refine And.intro (by first|assumption|decide|exact f6 _|exact f5 _) ?_;cbv)|(intro B;cbv)
 exact⟨_,c6.refl _,⟨_,out++[⟨k1,b1⟩],_,_,_,o,g,p,f7,f8 _⟩,⟨rfl,rfl,rfl,trivial⟩,⟨rfl,trivial⟩,hm⟩
theorem Nw(s:BS)(hs:s.length<=1048576):Spec Tryz.prog 134 [.str s] Hp.emp (Is (.tup [.sl false 2 (iN (fk s).1),.int .i64 (fk s).2])):=
 jq iD Nu λR a=>Nv dn rfl _ _ s hs (λs=>(fR s).1.kind) (λs=>(fR s).1.body) (λs=>(fR s).2.1) (λs=>(fR s).2.2) (λ_=>rfl)
  (λs hs=>im (Nq s (by(have:maxLen=9223372036854775807:=by decide);omega)) rfl rfl) (fk s).1 (fk s).2 rfl _ rfl R λx hx=>by subst hx;exact ng (xl _) (xm _) (vo _) a
def eY(p:Part):Int:=if p.kind=2 then p.text.length else p.n
def pH(l:List Part)(u:Int):Prop:=(∀p∈l,rT p)/\match l with
 |[]=>u=0
 |p::_=>0<=u/\u<eY p
def fY(l:List Part)(u:Int):List iY:=(fb l).drop u.toNat
def fA(l:List Part)(u k:Int):List Part×Int:=match l with
 |[]=>([],u)
 |p::r=>if u+k=eY p then(r,0) else(p::r,u+k)
def chunk(p:Part)(u k:Int):List iY:=if p.kind=2 then((p.text.drop u.toNat).take k.toNat).map .put else List.replicate k.toNat (if p.kind=1 then .keep else .cut)
theorem Cn(p:Part)(h:rT p):((ji p).length:Int)=eY p:=by
 have h1:=iU h;unfold ji eY
 split
 ·simp
 ·split<;>simp<;>omega
theorem size_pos{p:Part}(h:rT p):0<eY p:=by
 have h1:=iU h;unfold eY
 split
 ·have:p.text≠[]:=by rcases h1.2.2.2 with h|h;exact h.2.2;omega
  have:=eh.2 this;omega
 ·omega
theorem size_le{p:Part}(h:rT p):eY p<=500:=by
 have h1:=iU h;unfold eY
 split<;>omega
theorem kG{p:Part}{r:List Part}{u k:Int}(h:pH (p::r) u)(hk:0<=k/\u+k<=eY p):pH (fA (p::r) u k).1 (fA (p::r) u k).2:=by
 obtain⟨h1,h2⟩:=h;simp only[fA]
 split
 ·refine⟨λq hq=>h1 q (by simp[hq]),?_⟩;cases r with
  |nil=>rfl
  |cons q r=>exact⟨aN _,size_pos (h1 q (by simp))⟩
 ·exact⟨h1,by simp only at h2⊢;omega⟩
theorem lR{p:Part}{r:List Part}{u k:Int}(h:pH (p::r) u)(hk:0<=k/\u+k<=eY p):fY (p::r) u=chunk p u k++fY (fA (p::r) u k).1 (fA (p::r) u k).2:=by
 obtain⟨h1,h2⟩:=h;simp only at h2;have hp:=h1 p (by simp);have hs:=Cn p hp;have e1:fY (p::r) u=(ji p).drop u.toNat++fb r:=by
  unfold fY;simp only[fb];rw[cO qW]
 have a:(ji p).drop u.toNat=chunk p u k++(ji p).drop (u+k).toNat:=by
  have b:(ji p).drop (u+k).toNat=((ji p).drop u.toNat).drop k.toNat:=by rw[b7];congr 1;omega
  have c:chunk p u k=((ji p).drop u.toNat).take k.toNat:=by
   unfold chunk ji
   split
   ·rw[<-dm,<-fj]
   ·rename_i hk2;have hsz:eY p=p.n:=by simp[eY,hk2]
    split
    ·rw[List.drop_replicate,List.take_replicate];congr 1;omega
    ·rw[List.drop_replicate,List.take_replicate];congr 1;omega
  rw[b,c,aZ]
 have d:fY (fA (p::r) u k).1 (fA (p::r) u k).2=(ji p).drop (u+k).toNat++fb r:=by
  simp only[fA]
  split
  ·rename_i e;rw[List.drop_of_length_le qW];simp[fY]
  ·unfold fY;simp only[fb];rw[cO qW]
 rw[e1,a,d,bh]
theorem qv{p:Part}{r:List Part}{u k:Int}(h:pH (p::r) u)(hk:0<=k/\u+k<=eY p):(chunk p u k).length=k.toNat:=by
 obtain⟨h1,h2⟩:=h;simp only at h2;unfold chunk
 split
 ·rename_i h3;have:eY p=p.text.length:=by simp[eY,h3]
  simp;omega
 ·simp
def uD(b:Nat)(rows:List (List V))(u:Int):Ob:=⟨some b,210,2,[[.sl false 3 rows,.int .i64 u]]⟩
theorem pI{b:Nat}{l:List Part}{u:Int}:(uD b (l.map bd) u).Fz:=by
 intro r hr v hv;simp only[uD,aq] at hr;subst hr;simp only[aw,aD,bw] at hv
 rcases hv with rfl|rfl
 ·exact .sl _ _ (gI l)
 ·exact .int _ _
theorem sh(b:Nat)(rows:List (List V))(u:Int)(g:Nat->Nat):(uD b rows u).gM g=uD b rows u:=by simp[Ob.gM,uD,V.rl]
theorem Rl{P:Program}{f k sz:Nat}{b:Option Nat}{rest:List V}{o:Ob}{v:V}(hs:Spec P f (.ptr 0 b sz 0 0::rest) (cp [(0,o)]) λx h'=>x=v/\h'=cp [(0,o)])
  (a:rest.all V.pl=true)(ho:∀g,o.gM g=o)(hz:o.Fz)(hv:∀g,v.gM g=v){h:Hp}{K:V->Hp->Prop}(hk:h k=some o)(hK:K v h):fX P f (.ptr k b sz 0 0::rest) h K:=by
 refine⟨[(0,k)],_,_,v,hs,.cons ?_ (fO a),λj q hj=>?_,λp hp=>?_,by rw[hv];exact hK⟩
 ·have:=Arg.same (h:=h) (m:=[(0,k)]) (.ptr k b sz 0 0);simpa[V.gM,V.rl,gW] using this
 ·simp only[cp] at hj
  split at hj
  ·rename_i h0;exact⟨(0,k),by simp,h0.symm⟩
  ·cases hj
 ·simp only[aq] at hp;subst hp;exact⟨by simp[gD],by simp[gW],o,by simp[cp],by rw[hk,aE,ho],hz⟩
theorem Rm{P:Program}{f k sz:Nat}{b:Option Nat}{rest:List V}{o:Ob}{v:V}(hs:Spec P f (.ptr 0 b sz 0 0::rest) (cp [(0,o)]) λx h'=>x=v/\h'=cp [(0,o)])
  (a:rest.all V.pl=true)(ho:∀g,o.gM g=o)(hz:o.Fz)(hv:∀g,v.gM g=v){h:Hp}{K:V->Hp->Prop}(hk:h k=some o)(hK:K v (Hp.put h k o)):fm P f (.ptr k b sz 0 0::rest) h K:=by
 refine Dq (post:=λx d=>x=v/\d=[(0,o)]) ⟨hs.fn,λC us a1 a2 a3 a4=>(hs.run C us a1 a2 a3 a4).mono ?_⟩ (λx d h=>⟨o,h.2⟩) a ho hz hk ?_
 ·rintro e w' ⟨u,x,h',F',e1,i,j,rfl,rfl⟩;exact⟨u,_,_,F',e1,i,j,[(0,o)],⟨rfl,rfl⟩,rfl⟩
 ·rintro x o' ⟨rfl,c⟩;simp only[cD,aL,eQ,eU] at c;subst c;rw[hv,ho];exact hK
theorem s9{P:Program}{f:Nat}{fn:Func}{ac:AC}{rv:List RV}{args:List V}{o:Ob}{D:Array Oper->List AO->Bool}(b:mi P D)(ok:fF P f fn ac rv args.length D)(v:V)(hv:Fz v)(ho:o.Fz)
  (h:∀R:S->Prop,(∀(s s':S),c6 s s'->lM s' rv (λx=>l4 x=v)->s'.h 0=some o->R s)->gj dn (fm P) (fX P) ac (S0 args (cp [(0,o)])) R (λ_ _=>False) R):
  Spec P f args (cp [(0,o)]) (λx h'=>x=v/\h'=cp [(0,o)]):=by
 have:=fu b ok (L:=[(0,o)]) (λx a=>x=v/\a=[(0,o)]) λR c=>h R λs s' he hr h0=>c s s' v [(0,o)] he hr ⟨h0,trivial⟩ hv (by intro p hp;simp at hp;subst hp;exact ho) ⟨rfl,rfl⟩;refine⟨this.fn,λC us a1 a2 a3 a4=>(this.run C us a1 a2 a3 a4).mono ?_⟩;rintro e w' ⟨u,x,h',F',e1,d,g,a,⟨rfl,rfl⟩,rfl⟩;exact⟨u,_,_,F',e1,d,g,rfl,rfl⟩
def DY(l:List Part):Int:=match l with
 |[]=>0
 |p::_=>p.kind
def z6:AC:=qr [qz 2 0] (qq (qr [qm 3 0,qn 4 3,qf 5 0 4,ql 6 5,qo 7 (.len false (.t 6)),qc 8 .eql 7 0] (qu 8 (qr [qz 2 0] .ret) .skip)) (qr [qm 9 0,qn 10 9,qf 11 0 10,ql 12 11,qo 13 (.iaddr 3 (.t 12) (qk 0)),qf 14 0 13,ql 15 14,qm 2 15] .ret))
theorem Jc:fF Tryz.prog 122 Tryz.f122 z6 [.t 2] 1 er:=⟨Tryz.func122,by decide+kernel,by kernel_rfl,by kernel_rfl,by decide+kernel⟩
theorem Jd(P:Prim)(hP:P=dn)(T d:c8)(b:Nat)(l:List Part)(u:Int)(rows:List (List V))(ds:rows=l.map bd)(r:Int)(hr:DY l=r)
  (R:S->Prop)(c:∀(s s':S)(q:Int),q=r->c6 s s'->iH [.t 2] [qI q] s'->s'.h 0=some (⟨some b,210,2,[[.sl false 3 rows,qI u]]⟩)->R s):gj P T d z6 (S0 [.ptr 0 (some b) 2 0 0] (cp [(0,⟨some b,210,2,[[.sl false 3 rows,qI u]]⟩)])) R (λ_ _=>False) R:=by
 have hl:P.dv rows=(l.length:Int):=by rw[gE hP,ds];simp
 cbv;refine ab (λh=>?_) (λh=>?_)
 ·have h2:P.dv rows=0:=nG hP h;rw[hl] at h2;have:l=[]:=ay qO;subst this;cbv;exact c _ _ _ hr (c6.refl _) rfl rfl
 ·have h2:¬P.dv rows=0:=nH hP h;rw[hl] at h2
  rcases l with _|⟨⟨kd,n,t⟩,l⟩
  ·exact absurd rfl h2
  have a:P.row rows (P.nat 0) [qI kd,qI n,.str t]:=ga hP (i:=0) rfl (by rw[ds];rfl);have ho:P.fC 0 0:=iu hP qW;cbv;refine⟨ho,_,a,?_⟩;cbv;exact c _ _ _ hr (c6.refl _) rfl rfl
theorem Je(b:Nat)(l:List Part)(u:Int):Spec Tryz.prog 122 [.ptr 0 (some b) 2 0 0] (cp [(0,uD b (l.map bd) u)]) (λx h'=>x=qI (DY l)/\h'=cp [(0,uD b (l.map bd) u)]):=
 s9 iD Jc _ (.int _ _) pI λR a=>Jd dn rfl _ _ b l u _ rfl _ rfl R λs s' q hq he hr h0=>by subst hq;exact a s s' he (eM _ _ _ (λx hx=>by subst hx;rfl) hr) h0
def z7:AC:=qr [qz 2 0] (qq (qr [qm 3 0,qn 4 3,qf 5 0 4,ql 6 5,qo 7 (.iaddr 3 (.t 6) (qk 0)),qf 8 0 7,ql 9 8,qc 10 .eql 9 2] (qu 10 (qr [qm 11 0,qn 12 11,qf 13 0 12,ql 14 13,qo 15 (.iaddr 3 (.t 14) (qk 0)),qf 16 2 15,ql 17 16,qo 18 (.len true (.t 17)),qm 2 18] .ret) .skip)) (qr [qm 19 0,qn 20 19,qf 21 0 20,ql 22 21,qo 23 (.iaddr 3 (.t 22) (qk 0)),qf 24 1 23,ql 25 24,qm 2 25] .ret))
theorem Jf:fF Tryz.prog 147 Tryz.f147 z7 [.t 2] 1 er:=⟨Tryz.func147,by decide+kernel,by kernel_rfl,by kernel_rfl,by decide+kernel⟩
theorem Jg(P:Prim)(hP:P=dn)(T d:c8)(b:Nat)(kd n:Int)(t:BS)(l:List Part)(u:Int)(rows:List (List V))(ds:rows=(⟨kd,n,t⟩::l).map bd)(r:Int)(hr:eY ⟨kd,n,t⟩=r)
  (R:S->Prop)(c:∀(s s':S)(q:Int),q=r->c6 s s'->iH [.t 2] [qI q] s'->s'.h 0=some (⟨some b,210,2,[[.sl false 3 rows,qI u]]⟩)->R s):gj P T d z7 (S0 [.ptr 0 (some b) 2 0 0] (cp [(0,⟨some b,210,2,[[.sl false 3 rows,qI u]]⟩)])) R (λ_ _=>False) R:=by
 have a:P.row rows (P.nat 0) [qI kd,qI n,.str t]:=ga hP (i:=0) rfl (by rw[ds];rfl);have ho:P.fC 0 0:=iu hP qW;cbv;refine⟨ho,_,a,?_⟩;cbv;refine ab (λh=>?_) (λh=>?_)
 ·have hk:kd=2:=nG hP h;cbv;refine⟨ho,_,a,?_⟩;cbv;refine c _ _ _ ?_ (c6.refl _) rfl rfl;show P.c9 t=r;rw[da hP,<-hr,eY,ae hk]
 ·have hk:¬kd=2:=nH hP h;cbv;refine⟨ho,_,a,?_⟩;cbv;refine c _ _ _ ?_ (c6.refl _) rfl rfl;rw[<-hr,eY,aa hk]
theorem Jh(b:Nat)(p:Part)(l:List Part)(u:Int):Spec Tryz.prog 147 [.ptr 0 (some b) 2 0 0] (cp [(0,uD b ((p::l).map bd) u)]) (λx h'=>x=qI (eY p)/\h'=cp [(0,uD b ((p::l).map bd) u)]):=
 s9 iD Jf _ (.int _ _) pI λR a=>Jg dn rfl _ _ b p.kind p.n p.text l u _ rfl _ rfl R λs s' q hq he hr h0=>by subst hq;exact a s s' he (eM _ _ _ (λx hx=>by subst hx;rfl) hr) h0
def Nx(T:c8)(f:Nat)(pre:List Part->Int->Prop)(r:List Part->Int->Int)(back:Bool):Prop:=∀(k b:Nat)(l:List Part)(u:Int)(rows:List (List V))(h:Hp)(K:V->Hp->Prop),rows=l.map bd->pre l u->h k=some ⟨some b,210,2,[[.sl false 3 rows,qI u]]⟩->
 (∀q:Int,q=r l u->K (qI q) (match back with
  |true=>Hp.put h k ⟨some b,210,2,[[.sl false 3 rows,.int .i64 u]]⟩
  |false=>h))->T f [.ptr k (some b) 2 0 0] h K
theorem XC{f:Nat}{pre:List Part->Int->Prop}{r:List Part->Int->Int}(hs:∀b l u,pre l u->Spec Tryz.prog f [.ptr 0 (some b) 2 0 0] (cp [(0,uD b (l.map bd) u)]) (λx h'=>x=qI (r l u)/\h'=cp [(0,uD b (l.map bd) u)])):Nx (fm Tryz.prog) f pre r true:=by
 rintro k b l u rows h K rfl hp hk hK;exact Rm (hs b l u hp) rfl (sh _ _ _) pI (λ_=>rfl) hk (hK _ rfl)
theorem Zk{f:Nat}{pre:List Part->Int->Prop}{r:List Part->Int->Int}(hs:∀b l u,pre l u->Spec Tryz.prog f [.ptr 0 (some b) 2 0 0] (cp [(0,uD b (l.map bd) u)]) (λx h'=>x=qI (r l u)/\h'=cp [(0,uD b (l.map bd) u)])):Nx (fX Tryz.prog) f pre r false:=by
 rintro k b l u rows h K rfl hp hk hK;exact Rl (hs b l u hp) rfl (sh _ _ _) pI (λ_=>rfl) hk (hK _ rfl)
def tQ(l:List Part):Int:=match l with
 |[]=>0
 |p::_=>eY p
theorem vz:Nx (fX Tryz.prog) 147 (λl _=>l≠[]) (λl _=>tQ l) false:=Zk λb l u h=>by
 cases l with
 |nil=>exact absurd rfl h
 |cons p l=>exact Jh b p l u
theorem Co:Nx (fm Tryz.prog) 122 (λ_ _=>True) (λl _=>DY l) true:=XC λb l u _=>Je b l u
def z8:AC:=qr [qz 2 0] (qq (.region true [qm 3 0,qa 4 147 [.t 3],qm 5 0,qn 6 5,qf 7 1 6,ql 8 7,qb 9 .sub 4 8,qm 2 9]) .ret)
theorem Ji:fF Tryz.prog 124 Tryz.f124 z8 [.t 2] 1 er:=⟨Tryz.func124,by decide+kernel,by kernel_rfl,by kernel_rfl,by decide+kernel⟩
theorem Jj(P:Prim)(hP:P=dn)(T a:c8)(hsz:Nx a 147 (λl _=>l≠[]) (λl _=>tQ l) false)(b:Nat)(l:List Part)(u:Int)(hne:l≠[])(hi:jx (tQ l-u))(rows:List (List V))(ds:rows=l.map bd)(r:Int)(hr:tQ l-u=r)
  (R:S->Prop)(c:∀(s s':S)(q:Int),q=r->c6 s s'->iH [.t 2] [qI q] s'->s'.h 0=some (⟨some b,210,2,[[.sl false 3 rows,qI u]]⟩)->R s):gj P T a z8 (S0 [.ptr 0 (some b) 2 0 0] (cp [(0,⟨some b,210,2,[[.sl false 3 rows,qI u]]⟩)])) R (λ_ _=>False) R:=by
 cbv;refine hsz _ _ _ _ _ _ _ ds hne rfl λq hq=>?_;have ho:P.i64 (P.sub q u):=by rw[sub_eq hP,hq];exact eR hP hi
 cbv;refine⟨ho,?_⟩;refine c _ _ _ ?_ (c6.refl _) rfl rfl;show P.sub q u=r;rw[sub_eq hP,hq,hr]
theorem Cp:Nx (fm Tryz.prog) 124 (λl u=>l≠[]/\pH l u) (λl u=>tQ l-u) true:=XC λb l u h=>
 s9 iD Ji _ (.int _ _) pI λR a=>Jj dn rfl _ _ vz b l u h.1 (by
  obtain⟨h1,h2,h3⟩:=h;cases l with
  |nil=>exact absurd rfl h1
  |cons p l=>
   simp only at h3;have:=size_le (h2 p (by simp));simp only[tQ];unfold jx;omega) _ rfl _ rfl R λs s' q hq he hr h0=>by subst hq;exact a s s' he (eM _ _ _ (λx hx=>by subst hx;rfl) hr) h0
def ma(l:List Part)(u k:Int):BS:=match l with
 |[]=>[]
 |p::_=>if p.kind=2 then(p.text.drop u.toNat).take k.toNat else[]
def Aa:AC:=qr [qo 4 (.mov (.c qe))] (qr [qo 5 (.mov (.c qe))] (qq (qr [qm 6 0,qn 7 6,qf 8 0 7,ql 9 8,qo 10 (.iaddr 3 (.t 9) (qk 0)),qf 11 0 10,ql 12 11,qc 13 .eql 12 2] (qu 13 (.region true [qm 14 0,qn 15 14,qf 16 0 15,ql 17 16,qo 18 (.iaddr 3 (.t 17) (qk 0)),qf 19 2 18,ql 20 19,qm 21 0,qn 22 21,qf 23 1 22,ql 24 23,qm 25 0,qn 26 25,qf 27 1 26,ql 28 27,qm 29 1,qb 30 .add 28 29,qo 31 (.slstr (.t 20) (some (.t 24)) (some (.t 30))),qm 5 31]) .skip)) (qq (qr [qm 32 0,qn 33 32,qf 34 1 33,ql 35 34,qm 36 1,qb 37 .add 35 36,qn 38 32,qf 39 1 38,qs 1 39 37] (qq (.region true [qm 40 0,qn 41 40,qf 42 1 41,ql 43 42,qm 44 0,qa 45 147 [.t 44],qb 46 .eql 43 45]) (qu 46 (qR [qm 47 0,qm 48 0,qm 49 0,qn 50 49,qf 51 0 50,ql 52 51,qo 53 (.slsl 3 (.t 52) (some (qk 1)) none),qn 54 47,qf 55 0 54,qs 1 55 53,qn 56 48,qf 57 1 56,⟨none,none,.store 1 (.t 57) (qk 0)⟩]) .skip))) (qr [qm 58 5,qm 4 58] .ret))))
theorem Jk:fF Tryz.prog 123 Tryz.f123 Aa [.t 4] 2 er:=⟨Tryz.func123,by decide+kernel,by kernel_rfl,by kernel_rfl,by decide+kernel⟩
theorem Jl(P:Prim)(hP:P=dn)(T C:c8)(hsz:Nx C 147 (λl _=>l≠[]) (λl _=>tQ l) false)(b:Nat)(kd n:Int)(t:BS)(l:List Part)(u k:Int)(m:pH (⟨kd,n,t⟩::l) u)(hk:0<=k/\u+k<=eY ⟨kd,n,t⟩)(rows:List (List V))(ds:rows=(⟨kd,n,t⟩::l).map bd)
  (s':BS)(hs':s'=ma (⟨kd,n,t⟩::l) u k)(c:List (List V))(v:Int)(a:c=(fA (⟨kd,n,t⟩::l) u k).1.map bd)(f:v=(fA (⟨kd,n,t⟩::l) u k).2)
  (R:S->Prop)(w:∀(s s2:S)(q:BS)(ij:List (List V))(D:Int),q=s'->ij=c->D=v->c6 s s2->iH [.t 4] [.str q] s2->s2.h 0=some (⟨some b,210,2,[[.sl false 3 ij,qI D]]⟩)->R s):
  gj P T C Aa (S0 [.ptr 0 (some b) 2 0 0,qI k] (cp [(0,⟨some b,210,2,[[.sl false 3 rows,qI u]]⟩)])) R (λ_ _=>False) R:=by
 have hp:=m.1 ⟨kd,n,t⟩ (by simp);have x:=m.2;simp only at x;have F:=size_le hp;have g:P.row rows (P.nat 0) [qI kd,qI n,.str t]:=ga hP (i:=0) rfl (by rw[ds];rfl);have ho:P.fC 0 0:=iu hP qW;have j:P.i64 (P.add u k):=by rw[add_eq hP];exact eR hP qW
 have y:P.fC 0 u:=iu hP qW;have z:P.fC u (P.add u k):=lE hP (by rw[add_eq hP];omega);have A:kd=2->P.fC (P.add u k) (P.c9 t):=λh2=>lE hP (by rw[add_eq hP,da hP];simp[eY,h2] at hk;omega);have o:P.fC 0 1:=iu hP qW;have p:P.fC 1 (P.dv rows):=lE hP (by rw[gE hP,ds];simp;omega);have r:P.fC (P.dv rows) (P.dv rows):=lE hP (aN _);have es:kd=2->P.jy t u (P.add u k)=(t.drop u.toNat).take k.toNat:=λh2=>by
  rw[add_eq hP];subst hP;show(t.take (u+k).toNat).drop u.toNat=_;rw[dH,show(u+k).toNat-u.toNat=k.toNat by omega]
 have E:P.jn rows 1 (P.dv rows)=l.map bd:=by
  rw[gE hP,ds];subst hP;show(List.take ((_:Nat):Int).toNat _).drop (1:Int).toNat=_;simp[aY]
 cbv;refine⟨ho,_,g,?_⟩;cbv;refine ab (λh=>?_) (λh=>?_)
 ·have hk2:kd=2:=nG hP h;have d:s'=P.jy t u (P.add u k):=by rw[hs',es hk2];simp[ma,hk2]
  have B:=A hk2;cbv;refine⟨ho,_,g,?_⟩;cbv;refine⟨j,y,z,B,j,?_⟩;refine hsz _ _ _ _ _ _ _ ds (by simp) rfl λq hq=>?_;have e:q=eY ⟨kd,n,t⟩:=hq;cbv;refine ab (λh=>?_) (λh=>?_)
  ·have h2:P.add u k=q:=nG hP h;rw[add_eq hP,e] at h2;cbv;refine⟨o,p,r,?_⟩;refine w _ _ _ _ _ d.symm ?_ ?_ (c6.refl _) rfl rfl
   ·show P.jn rows 1 (P.dv rows)=c;rw[E,a];simp[fA,h2]
   ·rw[f];simp[fA,h2]
  ·have h2:¬P.add u k=q:=nH hP h;rw[add_eq hP,e] at h2;cbv;refine w _ _ _ _ _ d.symm ?_ ?_ (c6.refl _) rfl rfl
   ·rw[a,ds];simp[fA,h2]
   ·show P.add u k=v;rw[add_eq hP,f];simp[fA,h2]
 ·have hk2:¬kd=2:=nH hP h;have d:s'=[]:=by rw[hs'];simp[ma,hk2]
  cbv;refine⟨j,?_⟩;refine hsz _ _ _ _ _ _ _ ds (by simp) rfl λq hq=>?_;have e:q=eY ⟨kd,n,t⟩:=hq;cbv;refine ab (λh=>?_) (λh=>?_)
  ·have h2:P.add u k=q:=nG hP h;rw[add_eq hP,e] at h2;cbv;refine⟨o,p,r,?_⟩;refine w _ _ _ _ _ d.symm ?_ ?_ (c6.refl _) rfl rfl
   ·show P.jn rows 1 (P.dv rows)=c;rw[E,a];simp[fA,h2]
   ·rw[f];simp[fA,h2]
  ·have h2:¬P.add u k=q:=nH hP h;rw[add_eq hP,e] at h2;cbv;refine w _ _ _ _ _ d.symm ?_ ?_ (c6.refl _) rfl rfl
   ·rw[a,ds];simp[fA,h2]
   ·show P.add u k=v;rw[add_eq hP,f];simp[fA,h2]
theorem Jm(b:Nat)(p:Part)(l:List Part)(u k:Int)(c:pH (p::l) u)(hk:0<=k/\u+k<=eY p):Spec Tryz.prog 123 [.ptr 0 (some b) 2 0 0,qI k] (cp [(0,uD b ((p::l).map bd) u)])
  (λv h'=>∃a,(v=.str (ma (p::l) u k)/\a=[(0,uD b ((fA (p::l) u k).1.map bd) (fA (p::l) u k).2)])/\h'=cp a):=
 fu iD Jk (L:=[(0,uD b ((p::l).map bd) u)]) (λv a=>v=.str (ma (p::l) u k)/\a=[(0,uD b ((fA (p::l) u k).1.map bd) (fA (p::l) u k).2)]) λR d=>
  Jl dn rfl _ _ vz b p.kind p.n p.text l u k c hk _ rfl _ rfl _ _ rfl rfl R λs s2 q ij e h1 h2 h3 he hr h0=>by
   subst h1 h2 h3;exact d s s2 (.str (ma (p::l) u k)) [(0,uD b ((fA (p::l) u k).1.map bd) (fA (p::l) u k).2)] he (eM _ _ _ (λx hx=>by subst hx;rfl) hr) ⟨h0,trivial⟩ (.str _) (by intro p hp;simp at hp;subst hp;exact pI) ⟨rfl,rfl⟩
def Pv(T:c8):Prop:=∀(k b:Nat)(p:Part)(l:List Part)(u n:Int)(rows:List (List V))(h:Hp)(K:V->Hp->Prop),rows=(p::l).map bd->pH (p::l) u->0<=n/\u+n<=eY p->h k=some ⟨some b,210,2,[[.sl false 3 rows,qI u]]⟩->
 (∀(q:BS)(a:List (List V))(c:Int),q=ma (p::l) u n->a=(fA (p::l) u n).1.map bd->c=(fA (p::l) u n).2->K (.str q) (Hp.put h k ⟨some b,210,2,[[.sl false 3 a,qI c]]⟩))->T 123 [.ptr k (some b) 2 0 0,qI n] h K
theorem TN:Pv (fm Tryz.prog):=by
 rintro k b p l u n rows h K rfl c hn hk hK;refine Dq (Jm b p l u n c hn) (λv d h=>⟨_,h.2⟩) rfl (sh _ _ _) pI hk ?_;rintro v o' ⟨rfl,a⟩;simp only[cD,aL,eQ,eU] at a;subst a;rw[sh];exact hK _ _ _ rfl rfl rfl
def Ny:AC:=qr [qo 2 (.mov (.c (.pointer none)))] (qr [qm 3 0,qo 4 (.build [(.slice none 0 0),q0] [(0,1,(.t 3))]),qo 5 (.box 210 2 (.t 4)),qm 2 5] .ret)
theorem Nz:fF Tryz.prog 121 Tryz.f121 Ny [.t 2] 1 er:=⟨Tryz.func121,by decide+kernel,by kernel_rfl,by kernel_rfl,by decide+kernel⟩
theorem NA(d:List Part):Spec Tryz.prog 121 [.sl false 3 (d.map bd)] (cp []) (λv h'=>∃c,(∃b,v=.ptr 5 (some b) 2 0 0/\c=[(5,uD b (d.map bd) 0)])/\h'=cp c):=
 fu iD Nz (L:=[]) (λv c=>∃b,v=.ptr 5 (some b) 2 0 0/\c=[(5,uD b (d.map bd) 0)]) λR e=>by
  have a:∀b,(uD b (d.map bd) 0).Fz:=λb=>pI;unfold uD at e a
  generalize d.map bd=rows at e a⊢
  cbv;intro β;exact e _ _ (.ptr 5 (some β) 2 0 0) [(5,_)] (c6.refl _) rfl ⟨rfl,trivial⟩ (.ptr _ _ _ _ _) (by intro p hp;simp at hp;subst hp;exact a β) ⟨β,rfl,rfl⟩
def Pw(T:c8):Prop:=∀(k:Nat)(d:List Part)(rows:List (List V))(h:Hp)(K:V->Hp->Prop),rows=d.map bd->Nat.beq k 5=false->h k=none->(∀b:Nat,K (.ptr k (some b) 2 0 0) (Hp.put h k ⟨some b,210,2,[[.sl false 3 rows,qI 0]]⟩))->T 121 [.sl false 3 rows] h K
theorem TO:Pw (fm Tryz.prog):=by
 rintro k d rows h K rfl hne hk hK;refine mA (NA d) (m:=[(5,k)]) (.cons (.same _) .nil) (λj o hj=>by cases hj) (λq hq=>?_) ?_
 ·simp only[aq] at hq;subst hq;exact⟨by simp[gD],by simp[gW],λo ho=>by cases ho⟩
 ·rintro v a ⟨b,rfl,rfl⟩;have e:h.gy [(5,k)] (cp [(5,uD b (d.map bd) 0)])=Hp.put h k (uD b (d.map bd) 0):=by
   funext i
   by_cases h1:i=k
   ·subst h1;simp[Hp.gy,Hp.put,gW,cp,sh]
   ·have h2:¬k=i:=λe=>h1 e.symm;simp[Hp.gy,Hp.put,h1,h2]
  rw[e];have:(V.ptr 5 (some b) 2 0 0).gM (gD [(5,k)])=.ptr k (some b) 2 0 0:=by simp[V.gM,V.rl,gD]
  rw[this];exact hK b
def Jn:AC:=qr [qo 2 (.mov (.c (.slice none 0 0))),qz 3 0] (qr [qm 10 0,qa 11 153 [.t 10],qm 9 11,qx 12 0 9,qx 13 1 9,qx 14 2 9,qo 4 (.alloc 126 uN),qs 2 4 12,qm 5 13,qm 6 14] (qq (qr [qm 15 6,qc 16 .neq 15 0] (qu 16 (qr [qo 2 (.mov (.c (.slice none 0 0))),qz 3 0] .ret) .skip)) (qr [qm 18 0,qm 19 5,qo 20 (.slstr (.t 18) (some (.t 19)) none),qa 21 137 [.t 20],qm 17 21,qx 22 0 17,qx 23 1 17,qm 7 22,qm 8 23] (qr [qd 24 2 4,qo 25 (.bslice 126 2 [.t 24]),qm 26 7,qo 27 (.append 126 2 24 (.t 25) (.t 26)),qm 28 5,qm 29 8,qb 30 .add 28 29,qm 2 27,qm 3 30] .ret))))
theorem Rn:fF Tryz.prog 137 Tryz.f137 Jn [.t 2,.t 3] 1 er:=⟨Tryz.func137,by decide+kernel,by kernel_rfl,by kernel_rfl,by decide+kernel⟩
theorem Ro(P:Prim)(hP:P=dn)(T f:c8)(s:BS)(hs:s.length<=1048576)(k1:Int)(b1:BS)(n1 e1:Int)
  (h1:gK T 153 [.str s] (.tup [.agg [qI k1,.str b1],qI n1,qI e1]))(hn:e1=0->0<=n1/\n1<=(s.length:Int))
  (lr:List (List V))(k2:Int)(jW:lr.length<=1048576)(hk2:0<=k2/\k2<=1048576)
  (h2:e1=0->gK T 137 [.str (s.drop n1.toNat)] (.tup [.sl false 2 lr,qI k2]))
  (rr:List (List V))(rg:Int)(a:e1≠0->rr=[]/\0=rg)(hr1:e1=0->rr=[qI k1,.str b1]::lr/\n1+k2=rg)
  (R:S->Prop)(d:∀x,x=rg->qZ [.t 2,.t 3] 2 rr [qI x] R):gj P T f Jn (S0 [.str s] Hp.emp) R (λ_ _=>False) R:=by
 have b:P.c9 s=(s.length:Int):=da hP s;cbv;refine h1 _ _ ?_;clear h1;cbv
 repeat' first|(refine qA ?_;cbv)|(intro β;cbv)
 refine ab (λh=>?_) (λh=>?_)
 ·have hx:=a (hH hP h);cbv;exact(d _ hx.2).1 _ _ (c6.refl _) rfl hx.1
 have h0:e1=0:=gZ hP h;have hx:=hr1 h0;have c:=hn h0;have g:P.fC 0 n1:=iu hP c.1;have i:P.fC n1 (P.c9 s):=lE hP (by rw[b];exact c.2);have j:P.fC (P.c9 s) (P.c9 s):=lE hP (aN _);have k:P.jy s n1 (P.c9 s)=s.drop n1.toNat:=by
  rw[b];subst hP;show(s.take ((s.length:Int)).toNat).drop n1.toNat=_;rw[aA,aM]
 have e:=h2 h0;rw[<-k] at e;have f4:∀r,P.nL [r] 1:=by intro r;subst hP;rfl
 have f5:P.bytes (P.add (P.int 1) (P.dv lr)) 24:=by subst hP;show((1:Int)+(lr.length:Int))*24<=_;((try simp only[nc] at*);omega)
 have a1:P.add n1 k2=n1+k2:=add_eq hP _ _;have a2:P.i64 (P.add n1 k2):=by rw[a1];exact eR hP qO
 have f7:P.kB [[qI k1,.str b1]] lr=rr:=by rw[hx.1];subst hP;rfl
 have f8:P.hU 1 (P.fQ lr)=rr.length:=by rw[hx.1];subst hP;show 1+lr.length=lr.length+1;omega
 clear h2 a hr1 hn;cbv;refine⟨g,i,j,?_⟩;refine e _ _ ?_;cbv
 repeat' first|(refine And.intro (by first|assumption|decide|exact f4 _) ?_;cbv)|(intro l;cbv)
 exact(d _ (a1.trans hx.2)).2.1 _ _ _ _ _ _ _ (c6.refl _) rfl rfl ⟨f8,f7⟩
theorem FW{n:Nat}(h:n<=1048576):n<=maxLen:=by
 have:maxLen=9223372036854775807:=by decide
 omega
theorem Jo:∀(m:Nat)(s:BS),s.length<m->s.length<=1048576->Spec Tryz.prog 137 [.str s] Hp.emp (Is (.tup [.sl false 2 (iN (fk s).1),.int .i64 (fk s).2]))
 |0,s,h,_=>absurd h (Nat.not_lt_zero _)
 |m+1,s,h,hs=>by
  have hl:=sg _ (s.drop (fR s).2.1.toNat) (ah _);have a:(s.drop (fR s).2.1.toNat).length=s.length-(fR s).2.1.toNat:=aJ ..;refine jq iD Rn λR b=>Ro dn rfl _ _ s hs (fR s).1.kind (fR s).1.body (fR s).2.1 (fR s).2.2 (im (Nt s (FW hs)) rfl rfl)
   (λhe=>by have:=kX he;omega) (iN (fk (s.drop (fR s).2.1.toNat)).1) (fk (s.drop (fR s).2.1.toNat)).2 (by rw[iN,aF];omega) qW
   (λhe=>im (Jo m _ (by have:=kX he;omega) qW) rfl rfl) (iN (fk s).1) (fk s).2
   (λhe=>by rw[lQ s,ae he];exact⟨rfl,rfl⟩) (λhe=>by rw[lQ s,aa (λx=>x he)];exact⟨rfl,rfl⟩) R
   λx hx=>by subst hx;exact ng (xl _) (xm _) (vo _) b
end Go.Proofs.YtobngncjflogcaaGreat.AM
