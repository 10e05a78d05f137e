/-
  Part 19 of what the law TopDesk reaches: the plain machine, contracts of the functions and plain laws; each lemma says its own condition.
-/
import Derived.Test.YtajdadcdcpnedaaGreatDoorTopDesk18
import Derived.Test.YtajdadcdcpnedaaGreatDoorTopDesk10
import Derived.Test.YtajdadcdcpnedaaGreatDoorTopDesk15
set_option linter.unusedVariables false
set_option linter.unusedSimpArgs false
namespace Go.Proofs.YtajdadcdcpnedaaGreatDoor.AM
open Go Go.RowKit
set_option maxRecDepth 100000
set_option maxHeartbeats 2000000
def DU:AC:=qr [qo 2 (.mov (.c qe))] (qr [qm 12 0,qa 13 16 [.t 12,(.c (.string ⟨#[10]⟩))],qm 3 13] (qq (qr [qm 14 3,qo 15 (.len false (.t 14)),qm 4 15] (qr [qm 16 3,qm 17 4,qc 18 .sub 17 1,qo 19 (.iaddr 1 (.t 16) (.t 18)),ql 20 19,qo 21 (.bin .eql (.t 20) (.c qe))] (qu 21 (qR [qm 22 3,qm 23 4,qc 24 .sub 23 1,qo 25 (.slsl 1 (.t 22) none (some (.t 24))),qm 3 25]) .skip))) (qq (qr [qm 26 0,qo 27 (.len true (.t 26)),qc 28 .gtr 27 65536,qm 29 28,qg 30 29 false (.mov (.t 3)),qg 31 29 false (.len false (.t 30)),qg 32 29 false (.bin .gtr (.t 31) (qk 200)),qo 33 (.pick (.t 29) (.c (.bool true)) (.t 32))] (qu 33 (qr [⟨some 2,none,.mov (.c (.string ⟨#[101,114,114,111,114,32,50,10]⟩))⟩] .ret) .skip)) (qr [qa 34 17 [],qo 35 (.build [(.pointer none)] [(0,1,(.t 34))]),qo 36 (.box 51 1 (.t 35)),qm 5 36] (qr [qo 6 (.alloc 55 [(.pointer none),(.slice none 0 0)])] (qq (qr [qm 37 3,qo 38 (.len false (.t 37)),qz 39 0] (.block 0 (.loop (qr [qb 40 .lss 39 38] (qq (qu 40 .skip (.exit 0)) (qq (.block 1 (qr [qo 41 (.iaddr 1 (.t 37) (.t 39)),ql 42 41,qm 8 42] (qr [qo 9 (.mov (.c (.slice none 0 0)))] (qq (qr [qm 43 8,qa 44 16 [.t 43,(.c (.string ⟨#[32]⟩))],qo 45 (.len false (.t 44)),qz 46 0] (.block 2 (.loop (qr [qb 47 .lss 46 45] (qq (qu 47 .skip (.exit 2)) (qq (.block 3 (qr [qo 48 (.iaddr 1 (.t 44) (.t 46)),ql 49 48,qm 11 49] (qr [qm 50 11,qo 51 (.bin .neq (.t 50) (.c qe))] (qu 51 (qR [qm 52 9,qm 53 11,qo 54 (.bslice 9 1 [.t 53]),qo 55 (.append 9 1 16 (.t 52) (.t 54)),qm 9 55]) .skip)))) (qR [qc 56 .add 46 1,qm 46 56]))))))) (qq (qr [qm 57 9,qo 58 (.len false (.t 57)),qc 59 .eql 58 0,qm 60 59,qg 61 60 false (.mov (.t 9)),qg 62 60 false (.iaddr 1 (.t 61) (qk 0)),qg 63 60 false (.load1 (.t 62)),⟨some 64,some (60,false),.bin .eql (.t 63) (.c (.string ⟨#[35]⟩))⟩,qo 65 (.pick (.t 60) (.c (.bool true)) (.t 64))] (qu 65 (.exit 1) .skip)) (qr [qm 66 5,qm 67 9,qa 68 19 [.t 66,.t 67],qa 69 18 [.t 6,.t 68]] (qR [qa 70 20 [.t 6,(.c (.int .u8 10))]]))))))) (qR [qc 71 .add 39 1,qm 39 71]))))))) (qr [qa 72 21 [.t 6],qm 2 72] .ret)))))))
theorem OB:fF Tryz.prog 5 Tryz.f5 DU [.t 2] 1 dS:=⟨Tryz.func5,by decide+kernel,by kernel_rfl,by kernel_rfl,by decide+kernel⟩
theorem OC(P:Prim)(hP:P=cp)(T T1:cm)(UH:IF T)(UI:SQ T)(hw:Uz T)(Xj:UA T)(Sn:UB T)(s:BS)(hs:s.length<=65536)(r:List (BS×BS))(Xk:r≠[])(r8:r.length<=200)(O:gb 10 s=r.map (·.1)++[[]])(im:∀bk,vi bk ik [] r)(hout:(kD r).length<=1000000)
  (c:List (List V))(Q:c=ca (gb 10 s))(h:hJ T 16 [.str s,.str [10]] (.sl false 1 c))(E:∀(ln:BS)(wr:List (List V)),ln.length<=1000000->wr=ca (gb 32 ln)->hJ T 16 [.str ln,.str [32]] (.sl false 1 wr))
  (R:S->Prop)(hR:∀s1 s2 t,t=kD r->cd s1 s2->ia [.t 2] [.str t] s2->R s1):gE P T T1 DU (S0 [.str s] Hp.emp) R (λ_ _=>False) R:=by
 have hpl:P.cF c=(r.length:Int)+1:=by rw[hX hP,Q,O,ca,aH,ae,aH];simp
 have Vk:P.b5 s=(s.length:Int):=cA hP s;have q0:P.fK 0 0:=iJ hP qD;have q1:P.i64 (P.sub (P.cF c) 1):=by rw[sub_eq hP,hpl];exact fm hP qO
 have e1:P.sub (P.cF c) 1=(r.length:Int):=by rw[sub_eq hP,hpl];omega
 have q2:P.fK 0 (P.sub (P.cF c) 1):=by rw[e1];exact iJ hP qO
 have q3:P.iq (P.sub (P.cF c) 1) (P.cF c):=by rw[e1,hpl];exact lk hP qO
 have q4:P.fK (P.sub (P.cF c) 1) (P.cF c):=by rw[e1,hpl];subst hP;show(_:Int)<=_;omega
 have J:P.row c (P.nat (P.sub (P.cF c) 1)) [.str []]:=gz hP (i:=r.length) e1 (by
  rw[Q,O,ca,aw,bB (by simp)];simp)
 have z1:P.seq [] []=true:=oq hP rfl;obtain⟨D,U⟩:∃D,D=P.ta c 0 (P.sub (P.cF c) 1):=⟨_,rfl⟩;have K:D=ca (r.map (·.1)):=by
  rw[U,e1,Q,O];subst hP;show((ca (r.map (·.1)++[[]])).take ((r.length:Int)).toNat).drop (0:Int).toNat=_;rw[aG,ca,cj,List.take_left' (by simp)];rfl
 have F:P.cF D=(r.length:Int):=by rw[hX hP,K,ca,aH,aH]
 have z2:P.lt 65536 (P.b5 s)=false:=by subst hP;exact bS (by rw[Vk];omega)
 have z3:P.lt 200 (P.cF (P.ta c 0 (P.sub (P.cF c) 1)))=false:=by rw[<-U,F];subst hP;exact bS qW
 cbv;refine h _ _ ?_;cbv
 repeat'(first
  |(refine qA ?_;cbv)
  |(refine⟨_,J,?_⟩;cbv)
  |(refine gj z1 ?_;cbv)
  |(refine eB z2 ?_;cbv)
  |(refine eB z3 ?_;cbv)
  |fail)
 refine UH 900 1000900 _ _ rfl rfl rfl rfl λYE d0 Xl=>?_;have A:=λbk=>im bk;rw[<-Xl] at A;cbv
 repeat'(first
  |(refine qA ?_;cbv)
  |fail)
 intro bk;cbv
 repeat'(first
  |(refine qA ?_;cbv)
  |fail)
 intro b;cbv;refine⟨Vu r bk b,λy=>[(5,.ptr 955 (some bk) 1 0 0),(6,.ptr 960 (some b) 2 0 0),(37,.sl false 1 (P.ta c 0 (P.sub (P.cF c) 1))),(38,qI (P.cF (P.ta c 0 (P.sub (P.cF c) 1)))),(39,qI y.k)],λy=>nV bk y.bl y.d y.ba y.n y.rows y.mv y.mo++FG b y.p y.β y.nb y.rb,λy=>r.length-y.i,Fu (A bk) rfl rfl rfl rfl rfl rfl rfl rfl rfl rfl,?_⟩;rw[<-U];clear J z1 z2 z3 q1 q2 q3 q4 h;rintro⟨i,k,d,l,bl,ba,bm,n,rows,mv,mo,p,β,nb,rb,hi,hk,im,hn,hrows,l5,oS,hp,AE,vq⟩;have hi:i<=r.length:=hi;have hk:k=(i:Int):=hk;have im:vi bk d l (r.drop i):=im;have hn:n=l.length:=hn;have hrows:rows=l.map bd:=hrows;have l5:mv=jd 901 bm none:=l5;have oS:mo=gu bm none:=oS;have hp:x9 b p:=hp;have AE:nb=(kD (r.take i)).length:=AE;have vq:rb=rJ (kD (r.take i)):=vq;have K5:=DT r i;cbv;refine a6 (λg=>?_) (λg=>?_)
 ·have g1:k<P.cF D:=gM hP g;rw[F] at g1;have G:i<r.length:=by((try simp only[nc] at*);omega)
  obtain⟨⟨ln,t⟩,H⟩:∃x,r[i]? =some x:=⟨_,af G⟩;have Sk:r.drop i=(ln,t)::r.drop (i+1):=by
   rw[bw G]
   congr 1
   rw[af G] at H;exact bN H
  rw[Sk] at im;obtain⟨d',l',Ez,W⟩:=im;have X:=Ft H;have TF:=DT r (i+1);have Xm:(kD (r.take i)).length+t.length+1<=1000000:=by
   rw[X,ae,ae,dT] at TF;omega
  obtain⟨oi,Tc⟩:∃oi,oi=kD (r.take i):=⟨_,rfl⟩;rw[<-Tc] at AE vq Xm X;have p1:P.fK 0 k:=iJ hP qO;have p2:P.iq k (P.cF D):=lk hP (by rw[F];exact g1);have p3:P.i64 (P.add k 1):=by rw[add_eq hP];exact fm hP qO
  have p4:P.add k 1=((i+1:Nat):Int):=by rw[add_eq hP,hk];simp
  have So:P.row D (P.nat k) [.str ln]:=gz hP (i:=i) hk (by rw[K,ca,aw,aw,H];rfl);obtain⟨ws,I⟩:∃ws,ws=gb 32 ln:=⟨_,rfl⟩;obtain⟨wr,hwr⟩:∃wr,wr=ca ws:=⟨_,rfl⟩;have UJ:=E ln wr Ez.len (by rw[hwr,I]);have Vv:=Ez.ne;have Vw:=Ez.hd;have B:=Ez.line;have Xn:=Ez.t0;rw[<-I] at Vv Vw B;have Y:P.cF wr=(ws.length:Int):=by rw[hX hP,hwr,ca,aH]
  have u:0<ws.length:=by rw[I,qi];omega
  have Xo:ws.length<=1000001:=by
   rw[I,qi];have:=List.count_le_length (a:=(32:UInt8)) (l:=ln);have:=Ez.len;omega
  have Xp:ws≠[]:=λe=>by rw[e] at u;simp at u
  clear g Sk;cbv
  repeat'(first
   |(refine qA ?_;cbv)
   |(refine⟨_,So,?_⟩;cbv)
   |fail)
  refine UJ _ _ ?_;cbv;refine⟨Xi ws,λy=>[(5,.ptr 955 (some bk) 1 0 0),(6,.ptr 960 (some b) 2 0 0),(37,.sl false 1 D),(38,qI (P.cF D)),(39,qI k),(44,.sl false 1 wr),(45,qI (P.cF wr)),(46,qI y.k),(9,y.v)],λy=>nV bk bl d ba n rows mv mo++FG b p β nb rb++y.o,λy=>ws.length-y.j,⟨_,cd.nil (i:=9) (k:=1000055) (ty:=9) (sz:=1) rfl rfl,⟨0,0,_,_,bc _,rfl,.inl ⟨u,none,0,[],rfl,rfl,rfl,rfl⟩⟩,⟨rfl,rfl,rfl,rfl,rfl,rfl,rfl,rfl,rfl,trivial⟩,⟨rfl,rfl,rfl,rfl,rfl,rfl,rfl,trivial⟩⟩,?_⟩;rintro⟨j,kj,v,o,hj,AG,hc⟩;have hj:j<=ws.length:=hj;have AG:kj=(j:Int):=AG
  rcases hc with⟨C,Sm,m,rr,rfl,rfl,hm,z⟩|⟨f,rr,rfl,rfl,z⟩
  ·have C:j<ws.length:=C;have z4:P.lt kj (P.cF wr)=true:=xl hP (by rw[Y];((try simp only[nc] at*);omega));obtain⟨w,Z⟩:∃w,ws[j]? =some w:=⟨_,af C⟩;have z5:P.QW w []=true:=Rt hP (Vv w (az Z));have f1:P.fK 0 kj:=iJ hP qO;have f2:P.iq kj (P.cF wr):=lk hP (by rw[Y];((try simp only[nc] at*);omega));have f3:P.row wr (P.nat kj) [.str w]:=gz hP (i:=j) AG (by rw[hwr,ca,aw,Z];rfl);have f4:P.i64 (P.add kj 1):=by rw[add_eq hP];exact fm hP qO
   have f5:P.add kj 1=((j+1:Nat):Int):=by rw[add_eq hP,AG];simp
   have UK:rr.length=m:=by rw[z,hm,ca,aH,aE];omega
   have f6:P.rW rr m:=by subst hP;exact UK
   have f7:P.rW [[.str w]] 1:=by subst hP;rfl
   have f8:P.bytes (P.add (P.int m) (P.cF [[.str w]])) 16:=by subst hP;show((m:Int)+1)*16<=_;omega
   have f9:P.jg m (P.gH [[.str w]])=j+1:=by subst hP;show m+1=j+1;rw[hm]
   have Sl:P.n4 rr [[.str w]]=ca (ws.take (j+1)):=by
    subst hP;show rr++[_]=_;rw[z,ca,ca,bJ,Z,cj];rfl
   cbv;refine gj z4 ?_;cbv
   repeat'(first
    |(refine qA ?_;cbv)
    |(intro YF;cbv)
    |(refine⟨_,f3,?_⟩;cbv)
    |(refine gj z5 ?_;cbv)
    |fail)
   by_cases hl:j+1<ws.length
   ·exact⟨_,cd.refl _,⟨j+1,_,_,_,C,f5,.inl ⟨hl,_,_,_,rfl,rfl,f9,Sl⟩⟩,⟨rfl,rfl,rfl,rfl,rfl,rfl,rfl,rfl,rfl,trivial⟩,⟨rfl,rfl,rfl,rfl,rfl,rfl,rfl,trivial⟩,by show ws.length-(j+1)<ws.length-j;omega⟩
   ·have f:j+1=ws.length:=by omega
    have QE:P.n4 rr [[.str w]]=ca ws:=by rw[Sl,f,aN]
    refine⟨_,cd.yY (i:=9) (k:=1000055) (sz:=1) rfl rfl rfl rfl (by show(P.n4 rr [[.str w]]).length=P.jg m (P.gH [[.str w]]);rw[QE,f9,f,ca,aH]) (by show∀q∈P.n4 rr [[.str w]],∀v∈q,Fz v;rw[QE];exact p7 _),⟨j+1,_,_,_,C,f5,.inr ⟨f,_,rfl,rfl,QE⟩⟩,⟨rfl,rfl,rfl,rfl,rfl,rfl,rfl,rfl,rfl,trivial⟩,⟨rfl,rfl,rfl,rfl,rfl,rfl,trivial⟩,by show ws.length-(j+1)<ws.length-j;omega⟩
  ·have f:j=ws.length:=f;have z4:P.lt kj (P.cF wr)=false:=by rw[Y,AG,f];subst hP;exact bS (Int.lt_irrefl _)
   have L:P.cF rr=(ws.length:Int):=by rw[hX hP,z,ca,aH]
   have z5:P.eq (P.cF rr) 0=false:=p9 hP (by rw[L];omega);obtain⟨w0,hw0⟩:∃w0,ws[0]? =some w0:=⟨_,af u⟩;have z6:P.seq w0 [35]=false:=ic hP (Vw w0 hw0);have f3:P.row rr (P.nat 0) [.str w0]:=gz hP (i:=0) rfl (by rw[z,ca,aw,hw0];rfl);have f4:P.iq 0 (P.cF rr):=lk hP (by rw[L];omega);cbv;refine eB z4 ?_;cbv
   repeat'(first
    |(refine qA ?_;cbv)
    |(refine eB z5 ?_;cbv)
    |(refine⟨_,f3,?_⟩;cbv)
    |(refine eB z6 ?_;cbv)
    |fail)
   refine UI bk bl ba bm n rows mv mo ws rr t d l d' l' _ _ Xp z B ⟨hn,hrows,l5,oS,⟨rfl,rfl,rfl,rfl⟩⟩ λh3 UD AF Tr n' rows' Xq Xr M k1 k2=>?_;have k1:h3 960=some (Kw b p β nb):=k1;have k2:h3 1000960=some ⟨β,5,1,rb⟩:=k2;cbv;refine hw b p β nb rb oi t h3 _ k1 k2 vq AE hp Xn qW λv2 Ve Xs n2 Xt Xu K3 UL=>?_;cbv;refine Xj b Ve Xs n2 Xt (oi++t) 10 10 _ _ rfl rfl UL K3 Xu (by rw[ae];omega) rfl λv3 Xv Xw n3 Xx Xy Q4 N=>?_;rw[<-X] at Q4 N;cbv
   repeat'(first
    |(refine qA ?_;cbv)
    |fail)
   exact⟨_,cd.refl _,⟨i+1,_,d',l',UD,AF,Tr,n',rows',Xq,Xr,Xv,Xw,n3,Xx,G,p4,W,M.hn,M.hrows,M.l5,M.oS,Xy,Q4,N⟩,⟨rfl,rfl,rfl,rfl,rfl,trivial⟩,⟨M.hd.h1,M.hd.h2,M.hd.h3,M.hd.h4,rfl,rfl,trivial⟩,by show r.length-(i+1)<r.length-i;omega⟩
 ·have g1:¬k<P.cF D:=gN hP g;rw[F] at g1;have hin:i=r.length:=by((try simp only[nc] at*);omega)
  rw[hin,aN] at AE vq;have hne:kD r≠[]:=by
   cases r with
   |nil=>exact absurd rfl Xk
   |cons x _=>unfold kD;rw[bW];simp
  obtain⟨oo,Vx⟩:∃oo,oo=kD r:=⟨_,rfl⟩;rw[<-Vx] at AE vq hne;clear g;cbv;refine Sn b p β nb rb oo _ _ rfl rfl vq AE hp hne λh'=>?_;cbv;exact hR _ _ _ Vx (cd.refl _) rfl
theorem OD(s:BS)(hs:s.length<=65536)(r:List (BS×BS))(a:r≠[])(r8:r.length<=200)(b:gb 10 s=r.map (·.1)++[[]])(im:∀bk,vi bk ik [] r)(hout:(kD r).length<=1000000):Spec Tryz.prog 5 [.str s] Hp.emp (Is (.str (kD r))):=
 ed hW OB [.str (kD r)] (.str _) λR c=>OC cp rfl _ _ OY UG Vq Vr Vs s hs r a r8 b im hout _ rfl (gK (z7 s 10 qW) (λ_=>.cons (.same _) (.cons (.same _) .nil)) rfl) (λln wr hl hwr=>by subst hwr;exact gK (z7 ln 32 qW) (λ_=>.cons (.same _) (.cons (.same _) .nil)) rfl) R λs1 s2 t h he hr=>by subst h;exact c s1 s2 he hr
def jv(c:UInt8):List BS->BS
 |[]=>[]
 |[w]=>w
 |w::w2::r=>w++c::jv c (w2::r)
theorem vj{c:UInt8}:∀{ws:List BS},ws≠[]->(∀w∈ws,c∉w)->gb c (jv c ws)=ws
 |[],h,_=>absurd rfl h
 |[w],_,h=>oV (h w aR)
 |w::w2::r,_,h=>by
  rw[jv,nD (h w aR),vj (by simp) λv hv=>h v (aY _ hv)]
theorem sZ{c:UInt8}:∀{ls:List BS},(∀l∈ls,c∉l)->gb c (ls.flatMap λl=>l++[c])=ls++[[]]
 |[],_=>rfl
 |l::ls,h=>by
  rw[bW,aU];show gb c (l++c::(ls.flatMap λl=>l++[c]))=_;rw[nD (h l aR),sZ λv hv=>h v (aY _ hv)];rfl
theorem Ax{p:UInt8->Prop}{c:UInt8}(hc:p c):∀{ws:List BS},(∀w∈ws,∀x∈w,p x)->∀x∈jv c ws,p x
 |[],_,x,hx=>by cases hx
 |[w],h,x,hx=>h w aR x hx
 |w::w2::r,h,x,hx=>by
  rw[jv] at hx
  rcases bj.1 hx with hx|hx
  ·exact h w aR x hx
  ·rcases ah.1 hx with rfl|hx
   ·exact hc
   ·exact Ax hc (λv hv=>h v (aY _ hv)) x hx
def mb:List BS->Nat
 |[]=>0
 |w::r=>w.length+1+mb r
theorem vk{c:UInt8}:∀ws:List BS,(jv c ws).length<=mb ws
 |[]=>ak _
 |[w]=>by rw[jv,mb];omega
 |w::w2::r=>by
  have:=vk (c:=c) (w2::r);rw[jv,mb,ae,ar];omega
theorem OE(u:Nat):∀x∈Lib.decDigits u,33<=x.toNat:=by
 induction u using Nat.strongRecOn with
 |_ u ih=>
  intro x hx;rw[Lib.decDigits] at hx
  split at hx
  ·rename_i h;rw[ag.1 hx,cK];omega
  ·rename_i h
   rcases bj.1 hx with hx|hx
   ·exact ih (u/10) qW x hx
   ·rw[ag.1 hx,cK];omega
theorem Ay(u:Nat):∀x∈Lib.itoa (u:Int),33<=x.toNat:=by rw[Lib.itoa_nonneg];exact OE u
theorem o7{u:Nat}(h:u<10):Lib.itoa (u:Int)=[UInt8.ofNat (48+u)]:=by rw[Lib.itoa_nonneg,Lib.decDigits_one h]
theorem OF(u:Nat):Lib.itoa (u:Int)≠[]:=by
 intro h;rw[Lib.itoa_nonneg] at h;have h1:=Lib.decDigits_length u;rw[h] at h1;have h1:Lib.nDigits u=0:=h1.symm;rw[Lib.nDigits] at h1
 split at h1<;>omega
theorem KT{p:Part}(h:nR p):pw p≠[]/\(∀x∈pw p,33<=x.toNat)/\(pw p).length<=4+4*p.text.length:=by
 obtain⟨h1,h2,h3,h4⟩:=gU h;obtain⟨u,hu⟩:∃u:Nat,p.n=(u:Int):=⟨p.n.toNat,qW⟩;have hl:(Lib.itoa (u:Int)).length<=3:=by rw[Lib.itoa_nonneg,Lib.decDigits_length];exact kN 3 u qW qD
 have hw:=j5 p.text;have tail:∀(c:UInt8)(r:BS),33<=c.toNat->(∀x∈r,33<=x.toNat)->r.length<=3+4*p.text.length->c::r≠[]/\(∀x∈c::r,33<=x.toNat)/\(c::r).length<=4+4*p.text.length:=by
  intro c r hc hr hlen;refine⟨by simp,λx hx=>?_,by rw[ar];omega⟩
  rcases ah.1 hx with rfl|hx
  ·exact hc
  ·exact hr x hx
 unfold pw
 split
 ·rw[hu];exact tail 107 _ qD (Ay u) qW
 ·split
  ·rw[hu];exact tail 99 _ qD (Ay u) qW
  ·exact tail 112 _ qD (λx hx=>(wH _ x hx).1) qW
theorem BY:∀(d:List Part),(∀p∈d,nR p)->(mb (d.map pw):Int)<=5*(d.length:Int)+4*ig d
 |[],_=>by simp[mb,ig]
 |p::d,h=>by
  have h1:=(KT (h p aR)).2.2;have h2:=BY d λq hq=>h q (aY _ hq);obtain⟨k1,b,c,a⟩:=gU (h p aR);rw[aI,mb,ig,ar]
  split
  ·rcases a with a|a
   ·omega
   ·rw[a.2.2] at h1;simp only[aL] at h1;omega
  ·split
   ·rcases a with a|a
    ·omega
    ·rw[a.2.2] at h1;simp only[aL] at h1;omega
   ·omega
theorem UM{bk:Nat}{ws:List BS}{t:BS}{d:SC}{l:List er}{d':SC}{l':List er}(hne:ws≠[])(hw:∀w∈ws,w≠[]/\∀x∈w,33<=x.toNat)(hl:mb ws<=1000000)(b:∀w,ws[0]? =some w->w≠[35])(t0:t≠[])(h:nN (dF Tryz.prog) ws t bk d l d' l'):QT bk (jv 32 ws) t d l d' l':=by
 have hs:gb 32 (jv 32 ws)=ws:=vj hne λw a hm=>by
  have:=(hw w a).2 32 hm;exact absurd this qD
 exact⟨aV (vk ws) hl,by rw[hs];exact λw a=>(hw w a).1,by rw[hs];exact b,t0,by rw[hs];exact h⟩
def ix(s t:BS)(d:List Part):List (List BS):=[[jQ,[49],[49],[48],112::ga s],[jQ,[50],[49],[49]]++d.map pw,[nk],[nF,[48],[48]],[mr,[49]],[mr,[50]],[rO,ga s,ga t],[rP,ga t]]
def BZ(s t:BS)(d:List Part):List BS:=[nh 1,nh 2,nh 2,nh 2,ga s,ga t,nh (gr d),Lib.itoa (ja t)]
def pV(s t:BS)(d:List Part):List (BS×BS):=((ix s t d).map (jv 32)).zip (BZ s t d)
def pF(s t:BS)(d:List Part):BS:=((ix s t d).map (jv 32)).flatMap λl=>l++[10]
theorem ma{w:BS}(h:(!w.isEmpty&&w.all λx=>decide (33<=x.toNat))=true):w≠[]/\∀x∈w,33<=x.toNat:=by
 rw[aO] at h;refine⟨λe=>(by rw[e] at h;exact absurd h.1 qD),λx hx=>?_⟩;have:=aF.1 h.2 x hx;simpa using this
theorem tH(s:BS):ga s≠[]/\∀x∈ga s,33<=x.toNat:=⟨oW s,λx hx=>(wH s x hx).1⟩
theorem wP(s t:BS){d:List Part}(hd:∀p∈d,nR p):∀ws∈ix s t d,ws≠[]/\(∀w∈ws,w≠[]/\∀x∈w,33<=x.toNat)/\∀w,ws[0]? =some w->w≠[35]:=by
 intro ws h;simp only[ix,ah,aq,aQ] at h
 rcases h with rfl|rfl|rfl|rfl|rfl|rfl|rfl|rfl
 ·refine⟨by simp,λw hw=>?_,λw hw=>by cases hw;decide⟩;simp only[ah,aq,aQ] at hw
  rcases hw with rfl|rfl|rfl|rfl|rfl
  ·exact ma qD
  ·exact ma qD
  ·exact ma qD
  ·exact ma qD
  ·refine⟨by simp,λx hx=>?_⟩
   rcases ah.1 hx with rfl|hx
   ·decide
   ·exact(tH s).2 x hx
 ·refine⟨by simp,λw hw=>?_,λw hw=>by cases hw;decide⟩
  rcases bj.1 hw with hw|hw
  ·simp only[ah,aq,aQ] at hw
   rcases hw with rfl|rfl|rfl|rfl<;>exact ma qD
  ·obtain⟨p,hp,rfl⟩:=aM.1 hw;exact⟨(KT (hd p hp)).1,(KT (hd p hp)).2.1⟩
 ·refine⟨by simp,λw hw=>?_,λw hw=>by cases hw;decide⟩;rw[ag.1 hw];exact ma qD
 ·refine⟨by simp,λw hw=>?_,λw hw=>by cases hw;decide⟩;simp only[ah,aq,aQ] at hw
  rcases hw with rfl|rfl|rfl<;>exact ma qD
 ·refine⟨by simp,λw hw=>?_,λw hw=>by cases hw;decide⟩;simp only[ah,aq,aQ] at hw
  rcases hw with rfl|rfl<;>exact ma qD
 ·refine⟨by simp,λw hw=>?_,λw hw=>by cases hw;decide⟩;simp only[ah,aq,aQ] at hw
  rcases hw with rfl|rfl<;>exact ma qD
 ·refine⟨by simp,λw hw=>?_,λw hw=>by cases hw;decide⟩;simp only[ah,aq,aQ] at hw
  rcases hw with rfl|rfl|rfl
  ·exact ma qD
  ·exact tH s
  ·exact tH t
 ·refine⟨by simp,λw hw=>?_,λw hw=>by cases hw;decide⟩;simp only[ah,aq,aQ] at hw
  rcases hw with rfl|rfl
  ·exact ma qD
  ·exact tH t
theorem Az:∀a c:List BS,mb (a++c)=mb a+mb c
 |[],c=>by simp[mb]
 |w::a,c=>by rw[aD,mb,mb,Az a c];omega
theorem DV{ws:List BS}:∀{L:List (List BS)},ws∈L->mb ws<=(L.map mb).sum
 |v::L,h=>by
  rw[aI,fG]
  rcases ah.1 h with rfl|h
  ·omega
  ·have:=DV h;omega
theorem vl{s t:BS}{d:List Part}(hs:s.length<=500)(ht:t.length<=500)(hd:∀p∈d,nR p)(hl:d.length<=1600)(ho:ig d<=500):(∀ws∈ix s t d,mb ws<=1000000)/\(pF s t d).length<=65536:=by
 have h1:=j5 s;have h2:=j5 t;have h3:=BY d hd;have key:((ix s t d).map mb).sum<=60000:=by
  simp only[ix,aI,cX,fG,List.sum_nil,Az,mb,ar,aL,jQ,nk,nF,mr,rO,rP];omega
 refine⟨λws hw=>?_,?_⟩
 ·have:=DV hw;omega
 ·have gen:∀L:List (List BS),((L.map (jv 32)).flatMap λl=>l++[10]).length<=(L.map mb).sum+L.length:=by
   intro L
   induction L with
   |nil=>simp
   |cons w L ih=>
    have:=vk (c:=32) w;rw[aI,bW,aI,fG,ae,ae,dT,ar];omega
  have:=gen (ix s t d);have hn:(ix s t d).length=8:=rfl;unfold pF;omega
theorem x8(s t:BS){d:List Part}(hd:∀p∈d,nR p):gb 10 (pF s t d)=(pV s t d).map (·.1)++[[]]:=by
 have e:(pV s t d).map (·.1)=(ix s t d).map (jv 32):=rfl;rw[e];refine sZ λl hl hm=>?_;obtain⟨ws,hw,rfl⟩:=aM.1 hl;have:=Ax (p:=λx=>32<=x.toNat) (c:=32) qD (λw a x hx=>by have:=((wP s t hd ws hw).2.1 w a).2 x hx;omega) 10 hm;exact absurd this qD
theorem KU{s t:BS}{d:List Part}(h0:s≠[])(hs:s.length<=500)(ht:t.length<=500)(hd:wO s t d)(bk:Nat):vi bk ik [] (pV s t d):=by
 obtain⟨d1,l1,d2,l2,d3,d4,l4,H⟩:=Ow h0 hs ht hd;obtain⟨c1,f,_,c4,_⟩:=gw hd.ck;obtain⟨m,o,k⟩:=o6 f c1;have hm:(1600:Nat)<=maxLen:=by decide
 obtain⟨q,w,x,g⟩:=DP h0 hs;have i:nR ⟨2,0,s⟩:=r6 0 _ (mR q).2.1 _ aR;obtain⟨x1,x2,x3⟩:=o6 (d:=[⟨2,0,s⟩]) (λp hp=>by rw[ag.1 hp];exact i) (by simp);have hZ:=wP s t f;have e:=(vl hs ht f c1 c4).1;have ln:∀ws(_:ws∈ix s t d)(a:BS){d l d' l'},a≠[]->nN (dF Tryz.prog) ws a bk d l d' l'->QT bk (jv 32 ws) a d l d' l':=λws hw a d l d' l' ha h=>UM (hZ ws hw).1 (hZ ws hw).2.1 (e ws hw) (hZ ws hw).2.2 ha h;have c:∀n,nh n≠[]:=λn=>by unfold nh;simp
 have i0:Lib.itoa ((0:Nat):Int)=[48]:=o7 qD;have i1:Lib.itoa ((1:Nat):Int)=[49]:=o7 qD;have i2:Lib.itoa ((2:Nat):Int)=[50]:=o7 qD;have r:=ni d k;obtain⟨v,hv⟩:∃v:Nat,gr d=(v:Int):=⟨(gr d).toNat,qW⟩;have u:=ox t;obtain⟨hh,j⟩:∃v:Nat,ja t=(v:Int):=⟨(ja t).toNat,qW⟩;have s1:(iD ik [] none ((0:Nat):Int) ((1:Nat):Int) ((1:Nat):Int) (fZ [⟨2,0,s⟩]).1)=⟨d1,l1,1,0⟩:=by rw[g];exact H.s1
 have s2:(iD d1 l1 none ((1:Nat):Int) ((2:Nat):Int) ((1:Nat):Int) (fZ d).1)=⟨d2,l2,2,0⟩:=by rw[hd.norm];exact H.s2
 refine⟨d1,l1,ln _ (by simp[ix]) _ (c _) ?_,d2,l2,ln _ (by simp[ix]) _ (c _) ?_,d3,l2,ln _ (by simp[ix]) _ (c _) ?_,d4,l4,ln _ (by simp[ix]) _ (c _) ?_,d4,l4,ln _ (by simp[ix]) _ (oW _) ?_,d4,l4,ln _ (by simp[ix]) _ (oW _) ?_,d4,l4,ln _ (by simp[ix]) _ (c _) ?_,d4,l4,ln _ (by simp[ix]) _ (by rw[j];exact OF _) ?_,trivial⟩
 ·have:=DR (ws:=[jQ,[49],[49],[48],112::ga s]) (bk:=bk) (d:=ik) (l:=[]) rfl (by simp) 1 1 0 qD qD qD (by rw[i1];rfl) (by rw[i1];rfl) (by rw[i0];rfl) [⟨2,0,s⟩] x2 rfl (by simp) H.a0 (aV (show 1<=1600 by decide) hm) (by rw[g]) (by rw[g];exact x1) 1 qD (by rw[s1];rfl) (by rw[s1]);rw[s1] at this;exact this
 ·have:=DR (ws:=[jQ,[50],[49],[49]]++d.map pw) (bk:=bk) (d:=d1) (l:=l1) rfl (by simp;omega) 2 1 1 qD qD qD (by rw[i2];rfl) (by rw[i1];rfl) (by rw[i1];rfl) d o rfl (by simp) H.a1 (aV c1 hm) (by rw[hd.norm]) (by rw[hd.norm];exact m) 2 qD (by rw[s2];rfl) (by rw[s2]);rw[s2] at this;exact this
 ·have:=Ox (ws:=[nk]) (bk:=bk) (d:=d2) (l:=l2) rfl ⟨H.a2.b.1,fq H.a2.b.2 qD⟩ (aV H.a2.len qD) H.a2.at' 2 (by rw[H.s3,H.sf];rfl) qD;rw[H.s3] at this;exact this
 ·exact Oy (ws:=[nF,[48],[48]]) 0 0 qD qD (by rw[i0]) d4 l4 H.cr 2 (by rw[H.hd];rfl) qD
 ·exact DS (ws:=[mr,[49]]) 1 qD (by rw[i1]) H.a4 s qW H.t1
 ·exact DS (ws:=[mr,[50]]) 2 qD (by rw[i2]) H.a4 t qW H.t2
 ·have:=Oz (ws:=[rO,ga s,ga t]) (bk:=bk) (d:=d4) (l:=l4) s t qW qW rfl (by rw[hd.eq]) (by rw[hd.eq];exact k) (by rw[hd.eq];exact aV c1 qD) v (by rw[hd.eq];exact hv) qW;rw[<-hv] at this;exact this
 ·exact OA (ws:=[rP,ga t]) t qW rfl
theorem KV{s t:BS}{d:List Part}(hs:s.length<=500)(ht:t.length<=500)(hd:∀p∈d,nR p)(hl:d.length<=1600):(kD (pV s t d)).length<=1000000:=by
 have c:=ni d (o6 hd hl).2.2;obtain⟨v,hv⟩:∃v:Nat,gr d=(v:Int):=⟨(gr d).toNat,qW⟩;have f:=ox t;obtain⟨hh,b⟩:∃v:Nat,ja t=(v:Int):=⟨(ja t).toNat,qW⟩;have h1:=j5 s;have h2:=j5 t;have h3:=lf v qW;have h4:=lf hh qW;have h5:=lf 1 qD;have h6:=lf 2 qD;have e:kD (pV s t d)=(BZ s t d).flatMap λa=>a++[10]:=rfl;rw[e];simp only[BZ,bW,List.flatMap_nil,ae,ar,aL,nh,hv,b];have h5:(Lib.itoa 1).length<=19:=h5;have h6:(Lib.itoa 2).length<=19:=h6;omega
theorem Fv{s t:BS}{d:List Part}(h0:s≠[])(hs:s.length<=500)(ht:t.length<=500)(hd:wO s t d):Spec Tryz.prog 5 [.str (pF s t d)] Hp.emp (Is (.str (kD (pV s t d)))):=by
 obtain⟨c1,a,_,c4,_⟩:=gw hd.ck;exact OD _ (vl hs ht a c1 c4).2 _ (by simp[pV,ix,BZ]) (by simp[pV,ix,BZ]) (x8 s t a) (KU h0 hs ht hd) (KV hs ht a c1)
def DW:AC:=qr [qo 2 (.mov (.c (.slice none 0 0)))] (qr [qm 3 0,qo 4 (.build yb [(0,1,qk 2),(2,1,(.t 3))]),qo 5 (.bslice 41 3 [.t 4]),qm 2 5] .ret)
theorem OG:fF Tryz.prog 37 Tryz.f37 DW [.t 2] 1 dS:=⟨Tryz.func37,by decide+kernel,by kernel_rfl,by kernel_rfl,by decide+kernel⟩
theorem OH(P:Prim)(hP:P=cp)(T b:cm)(s:BS)(R:S->Prop)(c:qQ [.t 2] 3 [[qI 2,qI 0,.str s]] [] R):gE P T b DW (S0 [.str s] Hp.emp) R (λ_ _=>False) R:=by
 obtain⟨_,a,_⟩:=c;cbv
 repeat' first|(refine qA ?_;cbv)|(intro d;cbv)
 exact a _ _ 1000005 _ _ _ _ (cd.refl _) rfl rfl ⟨rfl,rfl⟩
theorem OI(s:BS):Spec Tryz.prog 37 [.str s] Hp.emp (Is (gI [⟨2,0,s⟩])):=
 kX hW OG λR a=>OH cp rfl _ _ s R (lN (mS [⟨2,0,s⟩]) (fL [⟨2,0,s⟩]) (λv hv=>by cases hv) a)
def AA:AC:=qr [qo 0 (.mov (.c (.bool false)))] (qr [qa 6 17 [],qm 1 6] (qq (qr [qm 7 1,qo 8 (.eqp false (.t 7) (.c (.pointer none)))] (qu 8 (qr [qo 0 (.mov (.c (.bool false)))] .ret) .skip)) (qr [qm 10 1,qa 11 37 [(.c (.string ⟨#[97]⟩))],qo 12 (.build Lb [(0,1,qk 1),(1,1,qk 1),(2,1,(.t 11))]),qa 13 36 [.t 10,.t 12],qm 9 13,qx 14 0 9,qx 15 1 9,qm 2 14,qm 3 15] (qr [qm 17 1,qa 18 38 [.t 17,qk 1],qm 16 18,qx 19 0 16,qx 20 1 16,qm 4 19,qm 5 20] (qr [qm 21 2,qc 22 .eql 21 1,qm 23 22,qg 24 23 true (.mov (.t 3)),qg 25 23 true (.bin .eql (.t 24) (qk 0)),qo 26 (.pick (.t 23) (.t 25) (.c (.bool false))),qm 27 26,qg 28 27 true (.mov (.t 4)),⟨some 29,some (27,true),.bin .eql (.t 28) (.c (.string ⟨#[97]⟩))⟩,qo 30 (.pick (.t 27) (.t 29) (.c (.bool false))),qm 31 30,qg 32 31 true (.mov (.t 5)),qg 33 31 true (.bin .eql (.t 32) (qk 0)),qo 34 (.pick (.t 31) (.t 33) (.c (.bool false))),qm 0 34] .ret)))))
theorem KW:fF Tryz.prog 11 Tryz.f11 AA [.t 0] 0 dS:=⟨Tryz.func11,by decide+kernel,by kernel_rfl,by kernel_rfl,by decide+kernel⟩
def r1:er:=⟨1,1,[⟨2,0,[97]⟩]⟩
theorem KX(P:Prim)(hP:P=cp)(T z:cm)(i:IF T)(j:IH T)(c:uE T)(m:List (List V))(n:m=r1.delta.map a7)(k:hJ T 37 [.str [97]] (.sl false 3 m))(hr:fV r1.delta)
  (D:SC)(L:List er)(o:ik.b=0)(p:(jB ik [] r1).v=1)(q:(jB ik [] r1).e=0)(A:(jB ik [] r1).d=D)(B:(jB ik [] r1).l=L)(r:mw L)(u:D.b=0)(w:L.length<=1000)(x1:(iu D L 1).1=[97])(x2:(iu D L 1).2=0)
  (R:S->Prop)(C:∀s s' b,b=true->cd s s'->ia [.t 0] [.bool b] s'->R s):gE P T z AA (S0 [] Hp.emp) R (λ_ _=>False) R:=by
 cbv
 repeat' first|(refine qA ?_;cbv)|(intro f;cbv)|(refine i 20 21 _ _ rfl rfl rfl rfl λβ d hd=>?_;cbv)|(refine k _ _ ?_;cbv)|fail
 refine j 20 21 β d none 0 [] [] r1 1 1 m _ _ rfl rfl ⟨rfl,rfl,n⟩ hr qD (by rw[hd,o];decide) rfl rfl rfl λv e ba d2 n2 rows2 hv he a g h=>?_;rw[hd] at hv he a g h;rw[p] at hv;rw[q] at he;rw[A] at a;rw[B] at g h;cbv
 repeat' first|(refine qA ?_;cbv)|(intro f;cbv)
 refine c 20 21 β d2 ba n2 rows2 L .nil 1 _ _ h g r (by rw[a,u];decide) w ⟨⟨.nil,rfl⟩,rfl⟩ rfl rfl rfl rfl λx y hx hy=>?_;rw[a,x1] at hx;rw[a,x2] at hy;cbv
 repeat' first|(refine qA ?_;cbv)|(intro f;cbv)|(refine gj (p8 hP hv) ?_;cbv)|fail
 refine gj (p8 hP he) ?_;cbv
 repeat' first|(refine qA ?_;cbv)|(intro f;cbv)|(refine gj (oq hP hx) ?_;cbv)|fail
 exact C _ _ _ (p8 hP hy) (cd.refl _) rfl
theorem O9:fV r1.delta:=⟨qD,λp hp=>by
 have:p=⟨2,0,[97]⟩:=by simpa[r1] using hp
 subst this;exact⟨by unfold kA;decide,by unfold kA;decide,qD⟩⟩
theorem OJ:jB ik [] r1=⟨rk {kL ik ik.at' (jV r1).1 with now:=(kB r1.delta ik.now).1} [] r1,[r1],1,0⟩:=by
 have h1:gQ ik.b ik.tb ([]:List er).length ik.now.length r1=0:=by
  show gQ 0 (λ_=>0) 0 ([]:BS).length r1=0;decide+kernel
 have h2:(jV r1).2=0:=by decide+kernel
 unfold jB;rw[aa (by rw[h1];simp),aa (by rw[h2];simp)];rfl
theorem KY:Spec Tryz.prog 11 [] Hp.emp (Is (.bool true)):=
 ed hW KW [.bool true] (.bool _) λR a=>KX cp rfl _ _ OY Qa Iu _ rfl (jP (OI [97]) rfl rfl) O9
  (rk {kL ik ik.at' (jV r1).1 with now:=(kB r1.delta ik.now).1} [] r1) [r1] rfl (by rw[OJ]) (by rw[OJ]) (by rw[OJ]) (by rw[OJ]) ⟨qD,λr hr=>by
   have:r=r1:=by simpa using hr
   subst this;exact⟨by unfold kA;decide,by unfold kA;decide,O9⟩⟩ rfl qD
  (by show(if iZ 0 1 1≠0 then(([],iZ 0 1 1):BS×Int) else jy [] [r1] (1-0)).1=_;decide+kernel)
  (by show(if iZ 0 1 1≠0 then(([],iZ 0 1 1):BS×Int) else jy [] [r1] (1-0)).2=_;decide+kernel)
  R λs s' b hb he hr=>by subst hb;exact a s s' he hr
theorem B0{P:Prim}(hP:P=cp){a b:BS}{n m:Nat}(ha:a.length<=n)(hb:b.length<=m):(P.iE a b).length<=n+m:=by
 rw[gv hP,ae];omega
theorem AB{P:Prim}(hP:P=cp){a b:BS}{n m:Nat}(ha:a.length<=n)(hb:b.length<=m)(h:n+m<=1000000):P.i64 (P.add (P.b5 a) (P.b5 b)):=by
 rw[add_eq hP,cA hP,cA hP];exact fm hP qO
def lr(d:List Part):BS:=d.flatMap λp=>32::pw p
theorem B1{d:List Part}{i:Nat}{p:Part}(h:d[i]? =some p):lr (d.take (i+1))=lr (d.take i)++32::pw p:=by
 unfold lr;rw[bJ,h,cD];simp
theorem wQ:∀d:List Part,(lr d).length=mb (d.map pw)
 |[]=>rfl
 |p::d=>by
  have:=wQ d;unfold lr at this⊢;rw[bW,ae,this,aI,mb,ar]
theorem vm{c:UInt8}:∀{ws vs:List BS},ws≠[]->jv c (ws++vs)=jv c ws++vs.flatMap λv=>c::v
 |[],_,h=>absurd rfl h
 |[w],[],_=>by simp[jv]
 |[w],v::vs,_=>by
  show w++c::jv c (v::vs)=w++(c::v++vs.flatMap λv=>c::v);have:=vm (c:=c) (ws:=[v]) (vs:=vs) (by simp);rw[show v::vs=[v]++vs from rfl,this];rfl
 |w::w2::r,vs,_=>by
  show w++c::jv c (w2::r++vs)=(w++c::jv c (w2::r))++_;rw[vm (by simp),aU];rfl
structure Xz(d:List Part) where
 i:Nat
 k:Int
 o:BS
 hi:i<=d.length
 hk:k=(i:Int)
 ho:o=lr (d.take i)
def KZ:AC:=qr [qo 4 (.mov (.c (.bool false)))] (qr [qm 12 0,qm 13 1,qa 14 10 [.t 12,.t 13],qm 11 14,qx 15 0 11,qx 16 1 11,qm 5 15,qm 6 16] (qq (qr [qa 17 11 [],qo 18 (.not (.t 17)),qm 19 18,qg 20 19 false (.mov (.t 6)),qg 21 19 false (.bin .neq (.t 20) (qk 0)),qo 22 (.pick (.t 19) (.c (.bool true)) (.t 21)),qm 23 22,qg 24 23 false (.mov (.t 0)),qg 25 23 false (.bin .eql (.t 24) (.c qe)),qo 26 (.pick (.t 23) (.c (.bool true)) (.t 25)),qm 27 26,qg 28 27 false (.mov (.t 0)),qg 29 27 false (.mov (.t 1)),qg 30 27 false (.bin .eql (.t 28) (.t 29)),qo 31 (.pick (.t 27) (.c (.bool true)) (.t 30)),qm 32 31,qg 33 32 false (.mov (.t 0)),qg 34 32 false (.len true (.t 33)),qg 35 32 false (.mov (.t 1)),qg 36 32 false (.len true (.t 35)),qg 37 32 false (.bin .add (.t 34) (.t 36)),qg 38 32 false (.bin .gtr (.t 37) (qk 500)),qo 39 (.pick (.t 32) (.c (.bool true)) (.t 38))] (qu 39 (qr [qa 40 11 [],qm 4 40] .ret) .skip)) (qr [qo 7 (.mov (.c qe))] (qq (qr [qm 41 5,qo 42 (.len false (.t 41)),qz 43 0] (.block 0 (.loop (qr [qb 44 .lss 43 42] (qq (qu 44 .skip (.exit 0)) (qq (.block 1 (qr [qo 45 (.iaddr 3 (.t 41) (.t 43)),qd 46 3 45,qo 9 (.alloc 41 yb),qs 3 9 46] (qr [qf 47 0 9,ql 48 47] (.block 2 (qr [qc 56 .eql 48 1,qm 55 56] (qu 55 (qR [qm 57 7,qf 58 1 9,ql 59 58,qa 60 12 [.t 59],⟨some 61,none,.bin .add (.c (.string ⟨#[32,107]⟩)) (.t 60)⟩,qb 62 .add 57 61,qm 7 62]) (qr [qc 64 .eql 48 3,qm 63 64] (qu 63 (qR [qm 65 7,qf 66 1 9,ql 67 66,qa 68 12 [.t 67],⟨some 69,none,.bin .add (.c (.string ⟨#[32,99]⟩)) (.t 68)⟩,qb 70 .add 65 69,qm 7 70]) (qR [qm 49 7,qf 50 2 9,ql 51 50,qa 52 13 [.t 51],⟨some 53,none,.bin .add (.c (.string ⟨#[32,112]⟩)) (.t 52)⟩,qb 54 .add 49 53,qm 7 54]))))))))) (qR [qc 71 .add 43 1,qm 43 71]))))))) (qr [qm 72 0,qa 73 13 [.t 72],⟨some 74,none,.bin .add (.c (.string ⟨#[115,117,98,109,105,116,32,49,32,49,32,48,32,112]⟩)) (.t 73)⟩,⟨some 75,none,.bin .add (.t 74) (.c (.string ⟨#[10,115,117,98,109,105,116,32,50,32,49,32,49]⟩))⟩,qm 76 7,qb 77 .add 75 76,⟨some 78,none,.bin .add (.t 77) (.c (.string ⟨#[10,115,121,110,99,10,99,114,97,115,104,32,48,32,48,10,116,101,120,116,32,49,10,116,101,120,116,32,50,10,100,105,102,102,32]⟩))⟩,qm 79 0,qa 80 13 [.t 79],qb 81 .add 78 80,⟨some 82,none,.bin .add (.t 81) (.c (.string ⟨#[32]⟩))⟩,qm 83 1,qa 84 13 [.t 83],qb 85 .add 82 84,⟨some 86,none,.bin .add (.t 85) (.c (.string ⟨#[10,104,97,115,104,32]⟩))⟩,qm 87 1,qa 88 13 [.t 87],qb 89 .add 86 88,⟨some 90,none,.bin .add (.t 89) (.c (.string ⟨#[10]⟩))⟩,qa 91 5 [.t 90],qm 10 91] (qr [qm 92 10,qm 93 0,qa 94 13 [.t 93],⟨some 95,none,.bin .add (.c (.string ⟨#[111,107,32,49,10,111,107,32,50,10,111,107,32,50,10,111,107,32,50,10]⟩)) (.t 94)⟩,⟨some 96,none,.bin .add (.t 95) (.c (.string ⟨#[10]⟩))⟩,qm 97 1,qa 98 13 [.t 97],qb 99 .add 96 98,⟨some 100,none,.bin .add (.t 99) (.c (.string ⟨#[10,111,107,32]⟩))⟩,qm 101 5,qa 102 14 [.t 101],qa 103 12 [.t 102],qb 104 .add 100 103,⟨some 105,none,.bin .add (.t 104) (.c (.string ⟨#[10]⟩))⟩,qm 106 1,qa 107 15 [.t 106],qa 108 12 [.t 107],qb 109 .add 105 108,⟨some 110,none,.bin .add (.t 109) (.c (.string ⟨#[10]⟩))⟩,qb 111 .eql 92 110,qm 4 111] .ret))))))
theorem QU:fF Tryz.prog 4 Tryz.f4 KZ [.t 4] 2 dS:=⟨Tryz.func4,by decide+kernel,by kernel_rfl,by kernel_rfl,by decide+kernel⟩
theorem QV(P:Prim)(hP:P=cp)(T T1:cm)(s t:BS)(YG:s.length<=140737488355328)(YH:t.length<=140737488355328)(m:List (List V))(e:Int)(D:hJ T 10 [.str s,.str t] (.tup [.sl false 3 m,qI e]))(j:hJ T 11 [] (.bool true))
  (q:∀(u:Nat)(x:Int)(y:BS),u<9223372036854775808->x=(u:Int)->y=Lib.itoa (u:Int)->hJ T 12 [qI x] (.str y))(l:∀a y:BS,a.length<=1000000->y=ga a->hJ T 13 [.str a] (.str y))
  (d:List Part)(r:e=0->m=d.map a7)(hd:e=0->wO s t d)(E:BS)(K:E=kD (pV s t d))(im:s≠[]->e=0->s.length<=500->t.length<=500->∀x,x=pF s t d->hJ T 5 [.str x] (.str E))
  (c:e=0->hJ T 14 [.sl false 3 m] (qI (gr d)))(f:t.length<=500->hJ T 15 [.str t] (qI (ja t)))
  (R:S->Prop)(L:∀s1 s2 b,b=true->cd s1 s2->ia [.t 4] [.bool b] s2->R s1):gE P T T1 KZ (S0 [.str s,.str t] Hp.emp) R (λ_ _=>False) R:=by
 have M:P.b5 s=(s.length:Int):=cA hP s;have hlt:P.b5 t=(t.length:Int):=cA hP t;have q1:P.i64 (P.add (P.b5 s) (P.b5 t)):=by rw[add_eq hP,M,hlt];exact fm hP qO
 cbv;refine D _ _ ?_;cbv
 repeat'(first
  |(refine qA ?_;cbv)
  |(refine j _ _ ?_;cbv)
  |fail)
 refine a6 (λg=>?_) (λg=>?_)
 ·cbv;refine j _ _ ?_;cbv;exact L _ _ _ rfl (cd.refl _) rfl
 have g1:e=0:=by have:=iy hP g;omega
 clear g;cbv;refine a6 (λg=>?_) (λg=>?_)
 ·cbv;refine j _ _ ?_;cbv;exact L _ _ _ rfl (cd.refl _) rfl
 have g2:s≠[]:=GP hP g;clear g;cbv;refine a6 (λg=>?_) (λg=>?_)
 ·cbv;refine j _ _ ?_;cbv;exact L _ _ _ rfl (cd.refl _) rfl
 clear g;cbv
 repeat'(first
  |(refine qA ?_;cbv)
  |fail)
 refine a6 (λg=>?_) (λg=>?_)
 ·cbv;refine j _ _ ?_;cbv;exact L _ _ _ rfl (cd.refl _) rfl
 have g4:¬500<P.add (P.b5 s) (P.b5 t):=gN hP g;rw[add_eq hP,M,hlt] at g4;clear g;have XA:s.length<=500:=by((try simp only[nc] at*);omega)
 have N:t.length<=500:=by((try simp only[nc] at*);omega)
 subst g1;have r:=r rfl;have hd:=hd rfl;obtain⟨XB,F,_,YJ,_⟩:=gw hd.ck;have im:=im g2 rfl XA N;have c:=c rfl;have f:=f N;obtain⟨w1,z⟩:∃w,w=ga s:=⟨_,rfl⟩;obtain⟨w2,A⟩:∃w,w=ga t:=⟨_,rfl⟩;have k1:w1.length<=2001:=by have:=j5 s;rw[z];omega
 have k2:w2.length<=2001:=by have:=j5 t;rw[A];omega
 have m1:=l s w1 qW z;have m2:=l t w2 qW A;have W2:=ni d (o6 F XB).2.2;obtain⟨cu,O⟩:∃v:Nat,gr d=(v:Int):=⟨(gr d).toNat,qW⟩;have YK:=ox t;obtain⟨hu,Q⟩:∃v:Nat,ja t=(v:Int):=⟨(ja t).toNat,qW⟩;obtain⟨y1,G⟩:∃y,y=Lib.itoa (cu:Int):=⟨_,rfl⟩;obtain⟨y2,H⟩:∃y,y=Lib.itoa (hu:Int):=⟨_,rfl⟩;have k3:y1.length<=19:=by rw[G];exact lf cu qW
 have k4:y2.length<=19:=by rw[H];exact lf hu qW
 obtain⟨x1,U⟩:∃x,x=gr d:=⟨_,rfl⟩;obtain⟨x2,W⟩:∃x,x=ja t:=⟨_,rfl⟩;have m3:=q cu x1 y1 qW (by rw[U,O]) G;have m4:=q hu x2 y2 qW (by rw[W,Q]) H;rw[<-U] at c;rw[<-W] at f;have X:(lr d).length<=10000:=by
  have:=BY d F;rw[wQ];omega
 have r8:P.cF m=(d.length:Int):=by rw[hX hP,r,aH]
 cbv;refine⟨Xz d,λy=>[(0,.str s),(1,.str t),(5,.sl false 3 m),(7,.str y.o),(41,.sl false 3 m),(42,qI (P.cF m)),(43,qI y.k)],λ_=>[],λy=>d.length-y.i,⟨_,cd.refl _,⟨0,0,[],bc _,rfl,rfl⟩,⟨rfl,rfl,rfl,rfl,rfl,rfl,rfl,trivial⟩,trivial⟩,?_⟩;rintro⟨i,k,o,hi,hk,ho⟩;have hi:i<=d.length:=hi;have hk:k=(i:Int):=hk;have ho:o=lr (d.take i):=ho;cbv;refine a6 (λg=>?_) (λg=>?_)
 ·have g1:k<P.cF m:=gM hP g;rw[r8] at g1;have B:i<d.length:=by((try simp only[nc] at*);omega)
  obtain⟨p,hp⟩:∃p,d[i]? =some p:=⟨_,af B⟩;have TV:=F p (az hp);have p1:P.fK 0 k:=iJ hP qO;have p2:P.iq k (P.cF m):=lk hP (by rw[r8];exact g1);have p3:P.i64 (P.add k 1):=by rw[add_eq hP];exact fm hP qO
  have p4:P.add k 1=((i+1:Nat):Int):=by rw[add_eq hP,hk];simp
  have Y:P.row m (P.nat k) [qI p.kind,qI p.n,.str p.text]:=gz hP (i:=i) hk (by rw[r,aw,hp];rfl);have C:=B1 hp;rw[<-ho] at C;have kk:o.length<=10000:=by
   have h1:=bF i d;have h2:lr d=lr (d.take i)++lr (d.drop i):=by
    unfold lr;rw[<-cD,h1]
   rw[h2,ae,<-ho] at X;omega
  obtain⟨h1,h2,h3,h4⟩:=gU TV;obtain⟨u,I⟩:∃u:Nat,p.n=(u:Int):=⟨p.n.toNat,qW⟩;obtain⟨y,hy⟩:∃y,y=Lib.itoa (u:Int):=⟨_,rfl⟩;have k5:y.length<=19:=by rw[hy];exact lf u qW
  have m5:=q u p.n y qW I hy;obtain⟨w,hw⟩:∃w,w=ga p.text:=⟨_,rfl⟩;have k6:w.length<=2001:=by have:=j5 p.text;rw[hw];omega
  have m6:=l p.text w qW hw;have o1:p.kind=1->P.iE o (P.iE [32,107] y)=lr (d.take (i+1)):=λh=>by
   rw[C,gv hP,gv hP,pw,ab h,I,hy];rfl
  have o2:¬p.kind=1->p.kind=3->P.iE o (P.iE [32,99] y)=lr (d.take (i+1)):=λh h'=>by
   rw[C,gv hP,gv hP,pw,aa h,ab h',I,hy];rfl
  have o3:¬p.kind=1->¬p.kind=3->P.iE o (P.iE [32,112] w)=lr (d.take (i+1)):=λh h'=>by
   rw[C,gv hP,gv hP,pw,aa h,aa h',hw];rfl
  have i1:P.i64 (P.add (P.b5 [32,107]) (P.b5 y)):=AB hP (ak _) k5 qD;have i2:P.i64 (P.add (P.b5 o) (P.b5 (P.iE [32,107] y))):=AB hP kk (B0 hP (ak _) k5) qD;have i3:P.i64 (P.add (P.b5 [32,99]) (P.b5 y)):=AB hP (ak _) k5 qD;have i4:P.i64 (P.add (P.b5 o) (P.b5 (P.iE [32,99] y))):=AB hP kk (B0 hP (ak _) k5) qD;have i5:P.i64 (P.add (P.b5 [32,112]) (P.b5 w)):=AB hP (ak _) k6 qD;have i6:P.i64 (P.add (P.b5 o) (P.b5 (P.iE [32,112] w))):=AB hP kk (B0 hP (ak _) k6) qD;obtain⟨J,Z⟩:∃J,J=p.kind:=⟨_,rfl⟩;obtain⟨pn,Vy⟩:∃pn,pn=p.n:=⟨_,rfl⟩;obtain⟨pt,Vz⟩:∃pt,pt=p.text:=⟨_,rfl⟩;rw[<-Z] at o1 o2 o3;rw[<-Vy] at m5;rw[<-Vz] at m6;rw[<-Z,<-Vy,<-Vz] at Y;clear g;cbv
  repeat'(first
   |(refine qA ?_;cbv)
   |(refine⟨_,Y,?_⟩;cbv)
   |fail)
  intro b9;cbv
  repeat'(first
   |(refine qA ?_;cbv)
   |fail)
  refine a6 (λg=>?_) (λg=>?_)
  ·have g5:J=1:=mz hP g;have o1:=o1 g5;clear g;cbv
   repeat'(first
    |(refine qA ?_;cbv)
    |(refine m5 _ _ ?_;cbv)
    |fail)
   exact⟨_,cd.refl _,⟨i+1,_,_,B,p4,o1⟩,⟨rfl,rfl,rfl,rfl,rfl,rfl,rfl,trivial⟩,trivial,by show d.length-(i+1)<d.length-i;omega⟩
  have g5:¬J=1:=mA hP g;clear g;cbv;refine a6 (λg=>?_) (λg=>?_)
  ·have g6:J=3:=mz hP g;have o2:=o2 g5 g6;clear g;cbv
   repeat'(first
    |(refine qA ?_;cbv)
    |(refine m5 _ _ ?_;cbv)
    |fail)
   exact⟨_,cd.refl _,⟨i+1,_,_,B,p4,o2⟩,⟨rfl,rfl,rfl,rfl,rfl,rfl,rfl,trivial⟩,trivial,by show d.length-(i+1)<d.length-i;omega⟩
  ·have g6:¬J=3:=mA hP g;have o3:=o3 g5 g6;clear g;cbv
   repeat'(first
    |(refine qA ?_;cbv)
    |(refine m6 _ _ ?_;cbv)
    |fail)
   exact⟨_,cd.refl _,⟨i+1,_,_,B,p4,o3⟩,⟨rfl,rfl,rfl,rfl,rfl,rfl,rfl,trivial⟩,trivial,by show d.length-(i+1)<d.length-i;omega⟩
 ·have g1:¬k<P.cF m:=gN hP g;rw[r8] at g1;have hin:i=d.length:=by((try simp only[nc] at*);omega)
  have kk:o.length<=10000:=by rw[ho,hin,aN];exact X
  rw[hin,aN] at ho;clear g;cbv
  repeat'(first
   |(refine m1 _ _ ?_;cbv)
   |(refine m2 _ _ ?_;cbv)
   |(refine m3 _ _ ?_;cbv)
   |(refine m4 _ _ ?_;cbv)
   |(refine c _ _ ?_;cbv)
   |(refine f _ _ ?_;cbv)
   |(refine And.intro rfl ?_;cbv)
   |(refine And.intro (AB hP (by repeat'(first|assumption|apply B0 hP|exact ak _)) (by repeat'(first|assumption|apply B0 hP|exact ak _)) qD) ?_;cbv)
   |fail)
  refine im _ ?_ _ _ ?_
  ·subst hP;show((((((((((([115,117,98,109,105,116,32,49,32,49,32,48,32,112]++w1)++[10,115,117,98,109,105,116,32,50,32,49,32,49])++o)++[10,115,121,110,99,10,99,114,97,115,104,32,48,32,48,10,116,101,120,116,32,49,10,116,101,120,116,32,50,10,100,105,102,102,32])++w1)++[32])++w2)++[10,104,97,115,104,32])++w2)++[10]):BS)=_;rw[z,A,ho];have e2:jv 32 ([jQ,[50],[49],[49]]++d.map pw)=jQ++[32,50,32,49,32,49]++d.flatMap λp=>32::pw p:=by
    rw[vm (by simp),List.flatMap_map];rfl
   simp only[pF,ix,aI,cX,bW,List.flatMap_nil];rw[e2];simp[jv,lr,jQ,nk,nF,mr,rO,rP]
  cbv
  repeat'(first
   |(refine m1 _ _ ?_;cbv)
   |(refine m2 _ _ ?_;cbv)
   |(refine m3 _ _ ?_;cbv)
   |(refine m4 _ _ ?_;cbv)
   |(refine c _ _ ?_;cbv)
   |(refine f _ _ ?_;cbv)
   |(refine And.intro rfl ?_;cbv)
   |(refine And.intro (AB hP (by repeat'(first|assumption|apply B0 hP|exact ak _)) (by repeat'(first|assumption|apply B0 hP|exact ak _)) qD) ?_;cbv)
   |fail)
  refine L _ _ _ (oq hP ?_) (cd.refl _) rfl;subst hP;show E=((((((((([111,107,32,49,10,111,107,32,50,10,111,107,32,50,10,111,107,32,50,10]++w1)++[10])++w2)++[10,111,107,32])++y1)++[10])++y2)++[10]):BS);have i1:Lib.itoa 1=[49]:=o7 (u:=1) qD;have i2:Lib.itoa 2=[50]:=o7 (u:=2) qD;have e:kD (pV s t d)=(BZ s t d).flatMap λa=>a++[10]:=rfl;rw[K,e,z,A,G,H,<-O,<-Q];simp[BZ,nh,i1,i2]
theorem vn(s t:BS)(hs:s.length<=140737488355328)(ht:t.length<=140737488355328):Spec Tryz.prog 4 [.str s,.str t] Hp.emp (Is (.bool true)):=by
 have h5:(jf s t).2=0->s.length<=500/\t.length<=500:=λh=>by
  by_cases hc:500<s.length\/500<t.length
  ·unfold jf at h;rw[ab hc] at h;exact absurd h qD
  ·omega
 have hd:(jf s t).2=0->wO s t (nI (hH s t)):=λh=>QR s t (h5 h).1 (h5 h).2;have c:(jf s t).2=0->(nI (hH s t)).length<=1600/\∀p∈nI (hH s t),NN p:=λh=>⟨(hd h).len,(o6 (hd h).ok (hd h).len).2.2⟩;exact ed hW QU [.bool true] (.bool _) λR d=>QV cp rfl _ _ s t hs ht ((jf s t).1.map a7) (jf s t).2 (gK (Di s t) (λ_=>.cons (.same _) (.cons (.same _) .nil)) rfl) (gK KY (λ_=>.nil) rfl)
  (λu x y hu hx hy=>by subst hx hy;exact gK (QG u hu) (λ_=>.cons (.same _) .nil) rfl) (λa y ha hy=>by subst hy;exact gK (JM a ha) (λ_=>.cons (.same _) .nil) rfl)
  (nI (hH s t)) (λh=>by rw[(hd h).eq]) hd _ rfl (λh0 h h1 h2 x hx=>by subst hx;exact gK (Fv h0 h1 h2 (hd h)) (λ_=>.cons (.same _) .nil) rfl)
  (λh=>by rw[(hd h).eq];exact yQ (Kc _ (c h).2 (aV (c h).1 qD)) rfl rfl) (λh=>gK (JJ t qW) (λ_=>.cons (.same _) .nil) rfl) R λs1 s2 b hb he hr=>by subst hb;exact d s1 s2 he hr
end Go.Proofs.YtajdadcdcpnedaaGreatDoor.AM
