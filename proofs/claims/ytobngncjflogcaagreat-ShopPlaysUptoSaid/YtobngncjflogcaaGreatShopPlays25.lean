/-
  Part 25 of what the law ShopPlays reaches: the plain machine, contracts of the functions and plain laws; each lemma says its own condition.
-/
import Derived.Test.YtobngncjflogcaaGreatShopPlays24
set_option linter.unusedVariables false
set_option linter.unusedSimpArgs false
namespace Go.Proofs.YtobngncjflogcaaGreat.AM
open Go Go.RowKit
set_option maxRecDepth 100000
set_option maxHeartbeats 2000000
theorem P8{c1 f a ty2 bl br:Nat}{d:SC}{ba:Option Nat}{n:Nat}{l:List eP}{bm:Nat}{m:Option Mv}{dr:iq}{tx:List BS}:∀p∈PL c1 f a ty2 bl br d ba n (l.map ca) (kS 901 bm m) (jk bm m) dr (c7 tx) (l.map ca),p.2.Fz:=by
 have e:∀c ty k b sz,(LY c ty (.ptr k (some b) sz 0 0)).Fz:=by
  intro c ty k b sz r hr v hv;rw[aq.1 hr] at hv;rw[aq.1 hv];exact .ptr _ _ _ _ _
 intro p hp;simp only[PL,aw,aD,bw] at hp
 rcases hp with rfl|rfl|rfl|rfl|rfl|rfl
 ·exact e _ _ _ _ _
 ·exact e _ _ _ _ _
 ·exact jB (.own _ _ _ _) (th _ _ _) bl
 ·exact fL _
 ·exact uJ _ _
 ·exact lD (gY _) (fL _)
theorem Pl(c1 o g ty2 bl br bm:Nat)(d:SC)(ba:Option Nat)(l:List eP)(m:Option Mv)(dr:iq)(tx:List BS)(h:MP d l m dr tx)(hg:d.gn<2147483647)(c:List Int)(x:List Part)(hx:fH x):Spec Tryz.prog 8 [.ptr 5 (some c1) 1 0 0,.ptr 6 (some o) 1 0 0,.sl false 1 (gL c),.sl false 3 (x.map bd)] (cp (PL c1 o g ty2 bl br d ba l.length (l.map ca) (kS 901 bm m) (jk bm m) dr (c7 tx) (l.map ca)))
  λv h'=>∃q,(∃i j d' l' m' k a b e,v=.bool true/\MP d' l' m' b e/\d'.gn<=d.gn+1/\q=PL c1 o g ty2 i j d' k l'.length (l'.map ca) (kS 901 a m') (jk a m') b (c7 e) (l'.map ca))/\h'=cp q:=by
 refine fu (Xa Yo) Pj (L:=PL c1 o g ty2 bl br d ba l.length (l.map ca) (kS 901 bm m) (jk bm m) dr (c7 tx) (l.map ca)) (λv q=>∃i j d' l' m' k a b e,v=.bool true/\MP d' l' m' b e/\d'.gn<=d.gn+1/\q=PL c1 o g ty2 i j d' k l'.length (l'.map ca) (kS 901 a m') (jk a m') b (c7 e) (l'.map ca)) λR y=>?_;have f:P7 c1 o g ty2 d.gn R:=by
  rintro s s' i j d' l' m' k n' r z A a b e B C rfl rfl rfl rfl rfl rfl hm t he hr ha;exact y s s' (.bool true) _ he (eM _ _ _ (λx hx=>by rw[hx];rfl) hr) ha (.bool _) P8 ⟨i,j,d',l',m',k,a,b,e,rfl,hm,t,rfl⟩
 have u:gK (fm Tryz.prog) 11 [.sl false 1 (gL c),qI 0] (qI (PG c 0)):=zO (yy c 0) rfl rfl;have n:gK (fm Tryz.prog) 11 [.sl false 1 (gL c),qI 1] (qI (PG c 1)):=zO (yy c 1) rfl rfl;have p:gK (fm Tryz.prog) 11 [.sl false 1 (gL c),qI 2] (qI (PG c 2)):=zO (yy c 2) rfl rfl;have w:gK (fm Tryz.prog) 11 [.sl false 1 (gL c),qI 3] (qI (PG c 3)):=zO (yy c 3) rfl rfl;rw[C4];have hle:d.gn<=d.gn:=aN _;exact LZ rfl f h hle rfl rfl rfl rfl rfl rfl u _ _ _ _ _ _
  (λs N X hB _=>U4 rfl f h hle rfl rfl rfl rfl rfl rfl hB rfl hx PF PU n p)
  (λs N X hB _=>U5 rfl f h hle rfl rfl rfl rfl rfl rfl hB rfl hx UK UZ n p w)
  (λs N X hB hN=>U6 rfl f h hle rfl rfl rfl rfl rfl rfl hB Ou Sc hN)
  (λs N X hB _=>U7 rfl f h hle rfl rfl rfl rfl rfl rfl hB Ov R8 hg n)
  (λs N X hB _=>U8 rfl f h hle rfl rfl rfl rfl rfl rfl hB Ow Sg)
  (λs N X hB hN=>U9 rfl f h hle rfl rfl rfl rfl rfl rfl hB RM RZ R4
   (λa1 a2 b1 b2 D k1 c1 s1 o s2 hd h1 h2 h3 h4=>by subst h1 h2 h3 h4;exact ia (RX a1 a2 b1 b2 D k1 hd) (λ_=>.cons (.same _) (.cons (.same _) .nil)) rfl) n p hN)
def P9(T:c8):Prop:=∀(c1 p b ty2 bl br bm:Nat)(d:SC)(ba:Option Nat)(n:Nat)(rows:List (List V))(l:List eP)(mv:V)(mo:Ob)(m:Option Mv)(dr:iq)(tx:List BS)(tr lr:List (List V))(c:List Int)(cs:List (List V))(x:List Part)(q:V)(h:Hp)(K:V->Hp->Prop),n=l.length->rows=l.map ca->mv=kS 901 bm m->mo=jk bm m->tr=c7 tx->lr=l.map ca->MP d l m dr tx->d.gn<2147483647->cs=gL c->fH x->(q=.sl false 3 (x.map bd)\/(q=.nilsl/\x=[]))->
 h 5=some (LY c1 b (.ptr 900 (some bl) 47 0 0))->h 6=some (LY p ty2 (.ptr 930 (some br) 31 0 0))->h 900=some (fx bl (fw d (.own 1000900 ba 3 n) mv))->h 1000900=some (iw ba rows)->h 901=some mo->h 930=some (fI br dr (.sl false 1 tr) (.sl false 3 lr))->
 (∀r s d' l' m' t n' a e f g i j k o,n'=l'.length->a=l'.map ca->e=kS 901 g m'->f=jk g m'->k=c7 j->o=l'.map ca->MP d' l' m' i j->d'.gn<=d.gn+1->K (.bool true) (h.fK (PL c1 p b ty2 r s d' t n' a e f i k o)))->T 8 [.ptr 5 (some c1) 1 0 0,.ptr 6 (some p) 1 0 0,.sl false 1 cs,q] h K
theorem Va:P9 (fm Tryz.prog):=by
 rintro c1 o k ty2 bl br bm d ba n rows l mv mo m dr tx tr lr c cs x A h K rfl rfl rfl rfl rfl rfl hm hg rfl hx q t u w k1 k2 y hK;refine xv [(5,5),(6,6),(900,900),(1000900,1000900),(901,901),(930,930)] (Pl c1 o k ty2 bl br bm d ba l m dr tx hm hg c x hx) (.cons ?_ (.cons ?_ (.cons (.same _) (.cons ?_ .nil)))) (by show([5,6,900,1000900,901,930]:List Nat).Nodup;decide) (by show([5,6,900,1000900,901,930]:List Nat).Nodup;decide) (by simp) (λp hp=>?_) (λp hp=>?_) ?_ ?_
 ·exact Arg.same (h:=h) (m:=[(5,5),(6,6),(900,900),(1000900,1000900),(901,901),(930,930)]) (.ptr 5 (some c1) 1 0 0)
 ·exact Arg.same (h:=h) (m:=[(5,5),(6,6),(900,900),(1000900,1000900),(901,901),(930,930)]) (.ptr 6 (some o) 1 0 0)
 ·rcases q with rfl|⟨rfl,rfl⟩
  ·exact .same _
  ·exact .nil _ _
 ·simp only[PL,aw,aD,bw] at hp
  rcases hp with rfl|rfl|rfl|rfl|rfl|rfl<;>simp
 ·refine⟨?_,P8 p hp⟩;simp only[PL,aw,aD,bw] at hp
  rcases hp with rfl|rfl|rfl|rfl|rfl|rfl
  ·show(h 5).map _=_;rw[t];rfl
  ·show(h 6).map _=_;rw[u];rfl
  ·show(h 900).map _=_;rw[w,aE,iM,pP];rfl
  ·show(h 1000900).map _=_;rw[k1,aE,jA]
  ·show(h 901).map _=_;rw[k2,aE,pQ]
  ·show(h 930).map _=_;rw[y];rfl
 ·rintro v z ⟨b,f,d',l',m',g,a,i,j,rfl,_,_,rfl⟩;rfl
 ·rintro v z ⟨b,f,d',l',m',g,a,i,j,rfl,r,s,rfl⟩;have e:mb [(5,5),(6,6),(900,900),(1000900,1000900),(901,901),(930,930)] (Ob.gM (gD [(5,5),(6,6),(900,900),(1000900,1000900),(901,901),(930,930)])) (PL c1 o k ty2 b f d' g l'.length (l'.map ca) (kS 901 a m') (jk a m') i (c7 j) (l'.map ca))=PL c1 o k ty2 b f d' g l'.length (l'.map ca) (kS 901 a m') (jk a m') i (c7 j) (l'.map ca):=by
   simp only[PL,mb,cu,cB,iM,jA,pQ,pP];rfl
  rw[e];exact hK b f d' l' m' g _ _ _ _ a i j _ _ rfl rfl rfl rfl rfl rfl r s
structure YP(L:List (List Int)) where
 bl:Nat
 br:Nat
 bm:Nat
 d:SC
 ba:Option Nat
 n:Nat
 rows:List (List V)
 l:List eP
 mv:V
 mo:Ob
 m:Option Mv
 dr:iq
 tx:List BS
 tr:List (List V)
 lr:List (List V)
 i:Nat
 k:Int
 hn:n=l.length
 ds:rows=l.map ca
 od:mv=kS 901 bm m
 rf:mo=jk bm m
 ld:tr=c7 tx
 jW:lr=l.map ca
 h:MP d l m dr tx
 hg:d.gn<=(i:Int)+1
 hi:i<=L.length
 hk:k=(i:Int)
theorem C5:N5 900 1000900 901 930:=⟨qD,qD,qD,qD,qD,qD,⟨rfl,rfl,rfl,rfl,rfl,rfl,rfl,rfl,rfl⟩,qD⟩
def xH:AC:=qr [qo 4 (.mov (.c (.bool false)))] (qr [qa 10 5 [],qa 11 6 [],qo 5 (.alloc 24 [(.pointer none)]),qo 6 (.alloc 26 [(.pointer none)]),qs 1 5 10,qs 1 6 11] (qq (qr [ql 12 5,qo 13 (.eqp false (.t 12) (.c (.pointer none))),qm 14 13,qg 15 14 false (.load1 (.t 5)),qg 16 14 false (.load1 (.t 6)),qg 17 14 false (.call 7 [.t 15,.t 16]),qg 18 14 false (.not (.t 17)),qo 19 (.pick (.t 14) (.c (.bool true)) (.t 18))] (qu 19 (qr [qo 4 (.mov (.c (.bool false)))] .ret) .skip)) (qq (qr [qm 20 0,qo 21 (.len false (.t 20)),qz 22 0] (.block 0 (.loop (qr [qb 23 .lss 22 21] (qq (qu 23 .skip (.exit 0)) (qq (.block 1 (qr [qm 24 22,qo 25 (.iaddr 1 (.t 20) (.t 22)),ql 26 25,qm 7 24,qm 8 26] (qr [qo 9 (.mov (.c (.slice none 0 0)))] (qq (qr [qm 27 7,qm 28 1,qo 29 (.len false (.t 28)),qb 30 .lss 27 29] (qu 30 (qR [qm 31 1,qm 32 7,qo 33 (.iaddr 1 (.t 31) (.t 32)),ql 34 33,qm 9 34]) .skip)) (qr [qm 35 8,qm 36 9,qa 37 8 [.t 5,.t 6,.t 35,.t 36],qo 38 (.not (.t 37)),qm 39 38,qg 40 39 false (.load1 (.t 5)),qg 41 39 false (.load1 (.t 6)),qg 42 39 false (.call 7 [.t 40,.t 41]),qg 43 39 false (.not (.t 42)),qo 44 (.pick (.t 39) (.c (.bool true)) (.t 43))] (qu 44 (qr [qo 4 (.mov (.c (.bool false)))] .ret) .skip)))))) (qR [qc 45 .add 22 1,qm 22 45]))))))) (qr [qo 4 (.mov (.c (.bool true)))] .ret))))
theorem Gy:fF Tryz.prog 3 Tryz.f3 xH [.t 4] 2 er:=⟨Tryz.func3,by decide+kernel,by kernel_rfl,by kernel_rfl,by decide+kernel⟩
theorem Gz(P:Prim)(hP:P=dn)(T T1:c8)(Xe:PB T)(W:PN T)(w:PX T)(A:P9 T)
  (L:List (List Int))(hLm:L.length<=1048576)(a:List (List V))(q:a=L.map λc=>[.sl false 1 (gL c)])(D:List (List Part))(hD:D.length<=maxLen/\∀x∈D,fH x)(e:List (List V))(z:e=D.map λx=>[.sl false 3 (x.map bd)])
  (R:S->Prop)(hR:∀s s' b,b=true->c6 s s'->iH [.t 4] [.bool b] s'->R s):gj P T T1 xH (S0 [.sl false 1 a,.sl false 1 e] Hp.emp) R (λ_ _=>False) R:=by
 have Vy:P.dv a=(L.length:Int):=by rw[gE hP,q];simp
 have Uw:P.dv e=(D.length:Int):=by rw[gE hP,z];simp
 have hmx:maxLen=9223372036854775807:=by decide
 have X:=SV;cbv
 repeat' first|(refine qA ?_;cbv)|(intro f;cbv)|(refine Xe 900 1000900 _ _ rfl rfl rfl rfl λbl d0 Yp=>?_;cbv)|fail
 refine W 930 _ _ rfl λbr tr lr dr SF ld jW=>?_;rw[<-Yp,<-SF] at X;have hg0:d0.gn<=1:=by rw[Yp,EC.2.2.1];exact aN _
 have Z6:=X.W8;cbv
 repeat'(refine qA ?_;cbv)
 intro Q
 try cbv
 repeat'(refine qA ?_;cbv)
 intro f
 try cbv
 repeat'(refine qA ?_;cbv)
 refine w 900 1000900 901 930 bl br d0 none 0 [] [] .nil 0 none dr [[]] tr lr _ _ C5 rfl rfl rfl ld jW Z6 rfl rfl rfl ?_;cbv
 repeat' first|(refine qA ?_;cbv)|(intro f;cbv)
 refine⟨YP L,λy=>[(1,.sl false 1 e),(5,.ptr 5 (some Q) 1 0 0),(6,.ptr 6 (some f) 1 0 0),(20,.sl false 1 a),(21,qI (P.dv a)),(22,qI y.k)],
  λy=>PL Q f 24 26 y.bl y.br y.d y.ba y.n y.rows y.mv y.mo y.dr y.tr y.lr,λy=>L.length-y.i,
  ⟨_,c6.pR _ 901 133 3,⟨bl,br,0,d0,none,0,[],[],.nil,⟨none,133,3,[]⟩,none,dr,[[]],tr,lr,0,0,rfl,rfl,rfl,rfl,ld,jW,X,hg0,aP _,rfl⟩,⟨rfl,rfl,rfl,rfl,rfl,rfl,trivial⟩,⟨rfl,rfl,rfl,rfl,rfl,rfl,trivial⟩⟩,?_⟩
 rintro⟨bl,br,bm,d,ba,n,rows,l,mv,mo,m,dr,tx,tr,lr,i,k,hn,ds,od,rf,ld,jW,h,hg,hi,hk⟩;cbv;refine ab (λg=>?_) (λg=>?_)
 ·have g1:k<P.dv a:=fJ hP g;rw[Vy] at g1;have hk:k=(i:Int):=hk;have Y:i<L.length:=by((try simp only[nc] at*);omega)
  obtain⟨c,hc⟩:∃c,L[i]? =some c:=⟨_,af Y⟩;have U:P.row a (P.nat k) [.sl false 1 (gL c)]:=ga hP hk (by rw[q,av,hc];rfl);obtain⟨cs,Z⟩:∃cs,cs=gL c:=⟨_,rfl⟩;rw[<-Z] at U;have q1:P.fC 0 k:=iu hP (by rw[hk];exact aO _);have q2:P.iO k (P.dv a):=kN hP (by rw[Vy];exact g1);have q3:P.i64 (P.add k 1):=by rw[add_eq hP];exact eR hP qO
  have q4:P.add k 1=((i+1:Nat):Int):=by rw[add_eq hP,hk];simp
  have Yq:d.gn<2147483647:=by have:d.gn<=(i:Int)+1:=hg;((try simp only[nc] at*);omega)
  clear q g;cbv
  repeat' first|(refine qA ?_;cbv)|(intro f;cbv)
  refine⟨_,U,?_⟩;cbv
  repeat' first|(refine qA ?_;cbv)|(intro f;cbv)
  refine ab (λg=>?_) (λg=>?_)
  ·have g2:k<P.dv e:=fJ hP g;rw[Uw] at g2;have hid:i<D.length:=by((try simp only[nc] at*);omega)
   obtain⟨x,hx⟩:∃c,D[i]? =some c:=⟨_,af hid⟩;have VC:=hD.2 x (ax hx);have B:P.row e (P.nat k) [.sl false 3 (x.map bd)]:=ga hP hk (by rw[z,av,hx];rfl);obtain⟨dx,wc⟩:∃dr,dr=x.map bd:=⟨_,rfl⟩;rw[<-wc] at B;have q5:P.iO k (P.dv e):=kN hP (by rw[Uw];exact g2);cbv
   repeat' first|(refine qA ?_;cbv)|(intro f;cbv)
   refine⟨_,B,?_⟩;cbv
   repeat' first|(refine qA ?_;cbv)|(intro f;cbv)
   refine A Q f _ _ bl br bm d ba n rows l mv mo m dr tx tr lr c cs x (.sl false 3 dx) _ _ hn ds od rf ld jW h Yq Z VC (.inl (by rw[wc])) rfl rfl rfl rfl rfl rfl λC E d' l' m' F n' o G Xf H I J K M N j r O u v h' Z7=>?_;cbv
   repeat' first|(refine qA ?_;cbv)|(intro f;cbv)|(refine w 900 1000900 901 930 C E d' F n' o l' G H m' I J K M _ _ C5 N j r u v h'.W8 rfl rfl rfl ?_;cbv)|fail
   refine⟨_,c6.refl _,⟨C,E,H,d',F,n',o,l',G,Xf,m',I,J,K,M,i+1,_,N,j,r,O,u,v,h',by have:d.gn<=(i:Int)+1:=hg;((try simp only[nc] at*);omega),Y,q4⟩,⟨rfl,rfl,rfl,rfl,rfl,rfl,trivial⟩,⟨rfl,rfl,rfl,rfl,rfl,rfl,trivial⟩,?_⟩;show L.length-(i+1)<L.length-i;((try simp only[nc] at*);omega)
  ·clear g;cbv
   repeat' first|(refine qA ?_;cbv)|(intro f;cbv)
   refine A Q f _ _ bl br bm d ba n rows l mv mo m dr tx tr lr c cs [] .nilsl _ _ hn ds od rf ld jW h Yq Z ⟨aP _,λp hp=>by cases hp⟩ (.inr ⟨rfl,rfl⟩) rfl rfl rfl rfl rfl rfl λC E d' l' m' F n' o G Xf H I J K M N j r O u v h' Z7=>?_;cbv
   repeat' first|(refine qA ?_;cbv)|(intro f;cbv)|(refine w 900 1000900 901 930 C E d' F n' o l' G H m' I J K M _ _ C5 N j r u v h'.W8 rfl rfl rfl ?_;cbv)|fail
   refine⟨_,c6.refl _,⟨C,E,H,d',F,n',o,l',G,Xf,m',I,J,K,M,i+1,_,N,j,r,O,u,v,h',by have:d.gn<=(i:Int)+1:=hg;((try simp only[nc] at*);omega),Y,q4⟩,⟨rfl,rfl,rfl,rfl,rfl,rfl,trivial⟩,⟨rfl,rfl,rfl,rfl,rfl,rfl,trivial⟩,?_⟩;show L.length-(i+1)<L.length-i;((try simp only[nc] at*);omega)
 ·
  cbv
  repeat' first|(refine qA ?_;cbv)|(intro f;cbv)
  exact hR _ _ _ rfl (c6.refl _) rfl
theorem tz(L:List (List Int))(D:List (List Part))(g:L.length<=maxLen/\∀c∈L,c.length<=maxLen/\∀a∈c,jx a)(e:D.length<=maxLen/\∀x∈D,fH x)(hl:L.length<=1048576)(hd:D.length<=1048576):Spec Tryz.prog 3 [.sl false 1 (L.map λc=>[.sl false 1 (c.map λn=>[.int .i64 n])]),.sl false 1 (D.map λd=>[gh d])] Hp.emp (Is (.bool true)):=
 ep iD Gy [.bool true] (.bool _) λR f=>Gz dn rfl _ _ TY Ue UO Va L hl _ rfl D e _ rfl R λs s' b hb he hr=>by subst hb;exact f s s' he hr
end Go.Proofs.YtobngncjflogcaaGreat.AM
