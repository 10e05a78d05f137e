/-
  Part 20 of what the law WorldPlays reaches: the plain machine, contracts of the functions and plain laws; each lemma says its own condition.
-/
import Derived.Test.YtobngncjflogcaaGreatWorldPlays19
import Derived.Test.YtobngncjflogcaaGreatWorldPlays16
set_option linter.unusedVariables false
set_option linter.unusedSimpArgs false
namespace Go.Proofs.YtobngncjflogcaaGreat.AM
open Go Go.RowKit
set_option maxRecDepth 100000
set_option maxHeartbeats 2000000
theorem KU{n:Nat}{d:SC}{l:List eX}{dr:im}{tx:List BS}{w:WS}(h:jZ n d l dr tx w)(kv:Int)(x:List Part):jZ n d l dr tx (gE n w kv x).2:=by
 unfold gE
 split
 ·exact h
 ·split
  ·exact h
  ·split
   ·exact h
   ·split
    ·exact h
    ·rename_i h1 h2 h3 h4;exact(tt h (k:=kv.toNat) qW (aG h2) h3 qW).1
theorem Pz{d:List Part}(h:cF d=0):hV d<=500:=by
 rw[v8 (dv h).2.1];have h1:=qC h;have h2:=dv h;have:∀ts:List fP,jH ts<=fi ts:=by
  intro ts
  induction ts with
  |nil=>exact ag _
  |cons t ts ih=>cases t<;>simp only[jH,fi]<;>omega
 have:=this (cm d);unfold pc;omega
theorem KV{n:Nat}{dd:SC}{l:List eX}{nt:im}{iE:List BS}{w:WS}(H:jZ n dd l nt iE w)(hn:n<=4)(o1 o2 o3:Ob)(ho:KI o1 o2 o3)(bw bl:Nat)(bs:Option Nat)(qb:Nat->Option Nat)(qp:Nat->List (List V))(hq:kI qp)(kv:Int)(d:List Part)(hd:fw d):
  Spec Tryz.prog 12 [.ptr 960 (some bw) 4 0 0,qI kv,.sl false 3 (d.map a6)] (b7 (kb o1 o2 o3 bw bl bs n w.pu w.ed (jQ n w.c qb qp w.u) (wQ qb qp w.u))) λv h'=>∃m,(∃g f,v=qI (gE n w kv d).1/\kI f/\m=kb o1 o2 o3 bw bl bs n (gE n w kv d).2.pu (gE n w kv d).2.ed (jQ n (gE n w kv d).2.c g f (gE n w kv d).2.u) (wQ g f (gE n w kv d).2.u))/\h'=b7 m:=by
 have q:maxLen=9223372036854775807:=by decide
 have hA:∀k,k<n->gO d (w.c k).text.length=0->w.ed≠64->w.pu+hV d<=500->(gD (w.c k) d).2=0/\jA (gD (w.c k) d).1=0/\(gD (w.c k) d).1.eT=true/\((w.c k).eT=false->w.u k=[]):=λk hk h1 h2 h3=>(tt H hk h1 h2 h3).2;refine fe gY KO (L:=kb o1 o2 o3 bw bl bs n w.pu w.ed (jQ n w.c qb qp w.u) (wQ qb qp w.u)) (λv m=>∃g f,v=qI (gE n w kv d).1/\kI f/\m=kb o1 o2 o3 bw bl bs n (gE n w kv d).2.pu (gE n w kv d).2.ed (jQ n (gE n w kv d).2.c g f (gE n w kv d).2.u) (wQ g f (gE n w kv d).2.u)) λR r=>?_;refine KP ca rfl _ _ Un o1 o2 o3 ho bw bl bs n hn w _ _ rfl rfl H.pu H.ed _ _ qb qp hq rfl rfl kv d _ rfl _ rfl (λt e he=>by subst he;exact CR (xU d hd.1 t.length) rfl rfl) (λt ht=>?_) (λk hk a b c t fl sr wt hr E b' c' F y z A B h1 h2=>?_) hA R ?_
 ·have hc:=(lz ht).1;have i:=dv hc;exact⟨⟨sH d,Pz hc⟩,qi (KM d i.1 i.2.1) (λ_=>.cons (.j8 _ _) .nil) rfl⟩
 ·rw[h1,h2];have hf:=H.fact hk;have h3:=hf.sn;have h4:=hf.hl;exact fU (args:=[.agg (ef (w.c k)),.sl false 3 (d.map a6)]) (Ko (w.c k) d qW qW hd.1) (λh=>.cons (.same (.agg (ef (w.c k)))) (.cons (.same (.sl false 3 (d.map a6))) .nil)) rfl
 ·rintro s s' v w' C D g f o G p rfl rfl j rfl rfl he hr ha;have e1:v=(gE n w kv d).1:=aR Prod.fst p;have e2:w'=(gE n w kv d).2:=aR Prod.snd p;subst e1 e2;exact r s s' (qI (gE n w kv d).1) _ he (eS _ _ _ (λx hx=>by rw[hx];rfl) hr) ha (.int _ _) (jo ho j) ⟨_,_,rfl,j,rfl⟩
def KW(T:cp):Prop:=∀(o1 o2 o3:Ob)(bw bl:Nat)(bs:Option Nat)(n:Nat)(pu ed:Int)(gW:List (List V))(Q:Nat->Ob)(w:WS)(dd:SC)(l:List eX)(nt:im)(iE:List BS)(qb:Nat->Option Nat)(qp:Nat->List (List V))(kv:Int)(d:List Part)(dr:List (List V))(i:V)(h:Hp)(K:V->Hp->Prop),HW h o1 o2 o3 bw bl bs n pu ed gW Q->KI o1 o2 o3->jZ n dd l nt iE w->n<=4->
 pu=w.pu->ed=w.ed->gW=jQ n w.c qb qp w.u->Q=wQ qb qp w.u->kI qp->fw d->dr=d.map a6->(i=.sl false 3 dr\/(i=.nilsl/\d=[]))->
 (∀v w' e b a j f g,(v,w')=gE n w kv d->kI b->f=w'.pu->g=w'.ed->a=jQ n w'.c e b w'.u->j=wQ e b w'.u->K (qI v) (h.e9 (kb o1 o2 o3 bw bl bs n f g a j)))->T 12 [.ptr 960 (some bw) 4 0 0,qI kv,i] h K
theorem R0:KW (fa Tryz.prog):=by
 rintro o1 o2 o3 bw bl bs n pu ed gW Q w dd l nt iE qb qp kv d dr g h K hw ho H hn rfl rfl rfl rfl hq hd rfl c hK;refine sL KJ (KV H hn o1 o2 o3 ho bw bl bs qb qp hq kv d hd) (.cons (qS _) (.cons (qS _) (.cons ?_ .nil))) rfl nq qD (λp hp=>⟨hw.all p hp,jo ho hq p hp⟩) ?_ ?_
 ·rcases c with rfl|⟨rfl,rfl⟩
  ·exact qS _
  ·exact .nil _ _
 ·rintro v f ⟨a,b,rfl,_,rfl⟩;rfl
 ·rintro v f ⟨a,b,rfl,e,rfl⟩;exact hK _ _ a b _ _ _ _ rfl e rfl rfl rfl rfl
def yF:AC:=qr [qo 4 (.mov (.c (.bool false)))] (qq (qr [qm 5 1,qc 6 .lss 5 0,qm 7 6,qg 8 7 false (.mov (.t 1)),qg 9 7 false (.mov (.t 0)),qg 10 7 false (.nilchk (.t 9)),qg 11 7 false (.faddr 1 (.t 10)),qg 12 7 false (.load1 (.t 11)),qg 13 7 false (.len false (.t 12)),qg 14 7 false (.bin .geq (.t 8) (.t 13)),qo 15 (.pick (.t 7) (.c (.bool true)) (.t 14)),qm 16 15,qg 17 16 false (.mov (.t 0)),qg 18 16 false (.nilchk (.t 17)),qg 19 16 false (.faddr 1 (.t 18)),qg 20 16 false (.load1 (.t 19)),qg 21 16 false (.mov (.t 1)),qg 22 16 false (.iaddr 10 (.t 20) (.t 21)),qg 23 16 false (.faddr 8 (.t 22)),qg 24 16 false (.load1 (.t 23)),qg 25 16 false (.len false (.t 24)),qg 26 16 false (.bin .eql (.t 25) (qk 0)),qo 27 (.pick (.t 16) (.c (.bool true)) (.t 26))] (qu 27 (qr [qo 4 (.mov (.c (.bool false)))] .ret) .skip)) (qq (qq (.region true [qm 28 0,qn 29 28,qf 30 0 29,ql 31 30,qm 32 0,qn 33 32,qf 34 1 33,ql 35 34,qm 36 1,qo 37 (.iaddr 10 (.t 35) (.t 36)),qf 38 8 37,ql 39 38,qo 40 (.iaddr 4 (.t 39) (qk 0)),qd 41 4 40]) (qR [qa 42 45 [.t 31,.t 41]])) (qq (.region true [qm 43 0,qn 44 43,qf 45 1 44,ql 46 45,qm 47 1,qm 48 0,qn 49 48,qf 50 1 49,ql 51 50,qm 52 1,qo 53 (.iaddr 10 (.t 51) (.t 52)),qf 54 8 53,ql 55 54,qo 56 (.slsl 4 (.t 55) (some (qk 1)) none),qo 57 (.iaddr 10 (.t 46) (.t 47)),qf 58 8 57,qs 1 58 56]) (qr [qo 4 (.mov (.c (.bool true)))] .ret))))
theorem R1:fo Tryz.prog 14 Tryz.f14 yF [.t 4] 2 eV:=⟨Tryz.func14,by decide+kernel,by kernel_rfl,by kernel_rfl,by decide+kernel⟩
theorem R3(P:Prim)(hP:P=ca)(T F:cp)(m:Pn T)(bl:Nat)(d:SC)(ba:Option Nat)(nl:Nat)(rows:List (List V))(l:List eX)(mv:V)(mo:Ob)(bm:Nat)(u:nl=l.length)(dS:rows=l.map a8)(y:mv=sT 901 bm none)(z:mo=iL bm none)(iB:Jz d l)
  (bw:Nat)(bs:Option Nat)(n:Nat)(pu ed:Int)(gW:List (List V))(Q:Nat->Ob)(kv:Int)(i:Nat)(hi:i<4)(b:Option Nat)(A:List (List V))(lo hi':Int)
  (w r q:Int)(tx:BS)(fl:Bool)(sr:List (List V))(wt:Bool)(hr:List (List V))(E:Int)(a:P.row gW (P.nat kv) (DW w r q tx fl sr wt hr (.win (1000970+i) b 4 lo hi') E))
  (q0:¬kv<0)(B:¬P.int n<=kv)(q1:P.fQ 0 kv)(q2:P.iw kv (P.int n))(C mw mq:Int)(x:List Part)(md:List (List V))(D:md=x.map a6)(hx:fw x)
  (hne:P.sub hi' lo=1)(k:P.row A (P.nat (P.add lo 0)) [qI C,qI mw,qI mq,.sl false 3 md])
  (R:S->Prop)(G:∀(s s':S)(v e:Int)(d':SC)(l':List eX)(c:Option Nat)(o:Nat)(rows':List (List V))(f:V)(g:Ob)(h:Nat)(j:List (List V)),⟨d',l',v,e⟩=lC d l none C mw mq x->o=l'.length->rows'=l'.map a8->f=sT 901 h none->g=iL h none->
   j=P.mf gW (P.nat kv) (DW w r q tx fl sr wt hr (.win (1000970+i) b 4 (P.add lo 1) (P.add lo (P.int (P.nat (P.sub hi' lo))))) E)->a7 s s'->hX [.t 4] [.bool true] s'->fh (kb (fK bl (fJ d' (.own 1000900 c 3 o) f)) (jv c rows') g bw bl bs n pu ed j (fu Q i (pT b A))) s'->R s):
  fX P T F yF (S0 [.ptr 960 (some bw) 4 0 0,qI kv] (b7 (kb (fK bl (fJ d (.own 1000900 ba 3 nl) mv)) (jv ba rows) mo bw bl bs n pu ed gW (fu Q i (pT b A))))) R (λ_ _=>False) R:=by
 have H:P.lt kv 0=false:=nU hP q0;have z2:P.le (P.int n) kv=false:=by subst hP;exact dg B
 have z3:P.eq (P.sub hi' lo) 0=false:=by rw[hne];subst hP;rfl
 have z4:P.fQ 0 0:=iQ hP qD;have z5:P.iw 0 (P.sub hi' lo):=by rw[hne];exact kZ hP qD
 have J:P.fQ 0 1:=iQ hP qD;have K:P.fQ 1 (P.int (P.nat (P.sub hi' lo))):=by rw[hne];subst hP;show(1:Int)<=1;decide
 have L:P.fQ (P.int (P.nat (P.sub hi' lo))) (P.int (P.nat (P.sub hi' lo))):=by subst hP;exact bf _
 obtain rfl|rfl|rfl|rfl:i=0\/i=1\/i=2\/i=3:=by omega
 all_goals
  cbv;refine fv H ?_;cbv;refine fv z2 ?_;cbv
  repeat'(first
  |(refine qA ?_;cbv)
  |(intro p;cbv)
  |(refine⟨_,a,?_⟩;cbv)
  |(refine⟨_,k,?_⟩;cbv)
  |fail)
  refine fv z3 ?_;cbv
  repeat'(first
  |(refine qA ?_;cbv)
  |(intro p;cbv)
  |(refine⟨_,a,?_⟩;cbv)
  |(refine⟨_,k,?_⟩;cbv)
  |fail)
  refine m 900 1000900 901 bl d ba nl rows l mv mo bm none C mw mq x md _ _ ⟨u,dS,y,z,rfl,rfl,rfl,⟨rfl,rfl,rfl⟩⟩ D hx iB λv e c d' l' n' rows' h f g I h1 h2 h3 h4=>?_;cbv
  repeat'(first
  |(refine qA ?_;cbv)
  |(intro p;cbv)
  |(refine⟨_,a,?_⟩;cbv)
  |(refine⟨_,k,?_⟩;cbv)
  |fail)
  exact G _ _ v e d' l' c n' rows' f g h _ I h1 h2 h3 h4 rfl (a7.refl _) rfl ⟨rfl,rfl,rfl,rfl,rfl,rfl,rfl,rfl,rfl,trivial⟩
theorem Oy(P:Prim)(hP:P=ca)(T i:cp)(o1 o2 o3:Ob)(bw bl:Nat)(bs:Option Nat)(n:Nat)(pu ed:Int)(gW:List (List V))(Q:Nat->Ob)(kv:Int)
  (a:kv<0\/(n:Int)<=kv\/(¬kv<0/\¬(n:Int)<=kv/\∃(w r q:Int)(tx:BS)(fl:Bool)(sr:List (List V))(wt:Bool)(hr:List (List V))(e:Nat)(b:Option Nat)(lo hi':Int)(f:Int),P.row gW (P.nat kv) (DW w r q tx fl sr wt hr (.win e b 4 lo hi') f)/\P.sub hi' lo=0))
  (R:S->Prop)(d:∀s s',a7 s s'->hX [.t 4] [.bool false] s'->fh (kb o1 o2 o3 bw bl bs n pu ed gW Q) s'->R s):
  fX P T i yF (S0 [.ptr 960 (some bw) 4 0 0,qI kv] (b7 (kb o1 o2 o3 bw bl bs n pu ed gW Q))) R (λ_ _=>False) R:=by
 have jF:P.int n=(n:Int):=by subst hP;rfl
 cbv;refine ab (λg=>?_) (λg=>?_)
 ·cbv;exact d _ _ (a7.refl _) rfl ⟨rfl,rfl,rfl,rfl,rfl,rfl,rfl,rfl,rfl,trivial⟩
 have g1:¬kv<0:=fg hP g;cbv;refine ab (λg=>?_) (λg=>?_)
 ·cbv;exact d _ _ (a7.refl _) rfl ⟨rfl,rfl,rfl,rfl,rfl,rfl,rfl,rfl,rfl,trivial⟩
 have g2:¬P.int n<=kv:=iA hP g;rw[jF] at g2;obtain h|h|⟨_,_,w,r,q,tx,fl,sr,wt,hr,e,b,lo,hi',f,c,hz⟩:=a
 ·exact absurd h g1
 ·exact absurd h g2
 have q1:P.fQ 0 kv:=iQ hP qO;have q2:P.iw kv (P.int n):=kZ hP (by rw[jF];((try simp only[nc] at*);omega));have z3:P.eq (P.sub hi' lo) 0=true:=by rw[hz];subst hP;rfl
 cbv
 repeat'(first
  |(refine qA ?_;cbv)
  |(intro j;cbv)
  |(refine⟨_,c,?_⟩;cbv)
  |fail)
 refine eY z3 ?_;cbv;exact d _ _ (a7.refl _) rfl ⟨rfl,rfl,rfl,rfl,rfl,rfl,rfl,rfl,rfl,trivial⟩
def sN(bl:Nat)(d:SC)(ba:Option Nat)(l:List eX)(bm:Nat):Ob:=fK bl (fJ d (.own 1000900 ba 3 l.length) (sT 901 bm none))
def sO(ba:Option Nat)(l:List eX):Ob:=jv ba (l.map a8)
theorem lD(bl:Nat)(d:SC)(ba:Option Nat)(l:List eX)(bm:Nat):KI (sN bl d ba l bm) (sO ba l) (iL bm none):=⟨jW (.own _ _ _ _) (vM _ _ _) bl,fW _,yn _ _⟩
def F1(n:Nat)(w:WS)(kv:Int):Option od:=if kv<0\/(n:Int)<=kv then none else(w.u kv.toNat).head?
structure YK where
 b:Bool
 d:SC
 l:List eX
 w:WS
def qX(n:Nat)(d:SC)(l:List eX)(w:WS)(kv:Int):YK:=match F1 n w kv with
 |none=>⟨false,d,l,w⟩
 |some m=>⟨true,(lC d l none m.base m.who m.seq m.delta).d,(lC d l none m.base m.who m.seq m.delta).l,mI w kv.toNat⟩
theorem R4{n:Nat}{d:SC}{l:List eX}{nt:im}{iE:List BS}{w:WS}(H:jZ n d l nt iE w)(hn:n<=4)(bl:Nat)(ba:Option Nat)(bm:Nat)(bw:Nat)(bs:Option Nat)(qb:Nat->Option Nat)(qp:Nat->List (List V))(hq:kI qp)(kv:Int):
  Spec Tryz.prog 14 [.ptr 960 (some bw) 4 0 0,qI kv] (b7 (kb (sN bl d ba l bm) (sO ba l) (iL bm none) bw bl bs n w.pu w.ed (jQ n w.c qb qp w.u) (wQ qb qp w.u))) λv h'=>∃E,(∃a f h,v=.bool (qX n d l w kv).b/\kI h/\E=kb (sN bl (qX n d l w kv).d a (qX n d l w kv).l f) (sO a (qX n d l w kv).l) (iL f none) bw bl bs n (qX n d l w kv).w.pu (qX n d l w kv).w.ed (jQ n (qX n d l w kv).w.c qb h (qX n d l w kv).w.u) (wQ qb h (qX n d l w kv).w.u))/\h'=b7 E:=by
 refine fe gY R1 (L:=kb (sN bl d ba l bm) (sO ba l) (iL bm none) bw bl bs n w.pu w.ed (jQ n w.c qb qp w.u) (wQ qb qp w.u)) (λv E=>∃a f h,v=.bool (qX n d l w kv).b/\kI h/\E=kb (sN bl (qX n d l w kv).d a (qX n d l w kv).l f) (sO a (qX n d l w kv).l) (iL f none) bw bl bs n (qX n d l w kv).w.pu (qX n d l w kv).w.ed (jQ n (qX n d l w kv).w.c qb h (qX n d l w kv).w.u) (wQ qb h (qX n d l w kv).w.u)) λR I=>?_;have no:F1 n w kv=none->(kv<0\/(n:Int)<=kv\/(¬kv<0/\¬(n:Int)<=kv/\∃(w0 r q:Int)(tx:BS)(fl:Bool)(sr:List (List V))(wt:Bool)(hr:List (List V))(K:Nat)(b:Option Nat)(lo hi':Int)(M:Int),ca.row (jQ n w.c qb qp w.u) (ca.nat kv) (DW w0 r q tx fl sr wt hr (.win K b 4 lo hi') M)/\ca.sub hi' lo=0))->
   fX ca (fa Tryz.prog) (fj Tryz.prog) yF (S0 [.ptr 960 (some bw) 4 0 0,qI kv] (b7 (kb (sN bl d ba l bm) (sO ba l) (iL bm none) bw bl bs n w.pu w.ed (jQ n w.c qb qp w.u) (wQ qb qp w.u)))) R (λ_ _=>False) R:=by
  intro he hc;have y:qX n d l w kv=⟨false,d,l,w⟩:=by unfold qX;rw[he]
  refine Oy ca rfl _ _ _ _ _ bw bl bs n _ _ _ _ kv hc R λs s' he hr ha=>?_;refine I s s' (.bool false) _ he (eS _ _ _ (λx hx=>by rw[hx];rfl) hr) ha (.bool _) (jo (lD _ _ _ _ _) hq) ⟨ba,bm,qp,by rw[y],hq,by rw[y]⟩
 by_cases hk:kv<0\/(n:Int)<=kv
 ·exact no (by unfold F1;rw[ae hk]) qW
 obtain⟨k,z⟩:∃k:Nat,kv=(k:Int):=⟨kv.toNat,qW⟩;have o:k<n:=by omega
 have A:kv.toNat=k:=by omega
 have i:=hO (P:=ca) rfl z (λj=>cR (w.c j) (uM qb qp w.u j) (w.c j).rev) o;have hf:=H.fact o;have N:=hf.ul;cases hu:w.u k with
 |nil=>
  refine no (by unfold F1;rw[aa hk,A,hu];rfl) (.inr (.inr ⟨qW,qW,_,_,_,_,_,_,_,_,_,_,_,_,_,i,?_⟩));show _+((w.u k).length:Int)-_=0;rw[hu];simp
 |cons m t=>
  obtain⟨h1,h2,h3⟩:=yB H o hu;subst h1;have y:qX n d l w kv=⟨true,(lC d l none m.base m.who m.seq m.delta).d,(lC d l none m.base m.who m.seq m.delta).l,mI w k⟩:=by
   unfold qX F1;rw[aa hk,A,hu];rfl
  have O:fu (wQ qb qp w.u) k (pT (qb k) (qp k++[fY m]))=wQ qb qp w.u:=by
   have:pT (qb k) (qp k++[fY m])=wQ qb qp w.u k:=by unfold wQ;rw[hu];rfl
   rw[this,kJ]
  have F:fu (wQ qb qp w.u) k (pT (qb k) (qp k++[fY m]))=wQ qb (fu qp k (qp k++[fY m])) (mI w k).u:=by
   funext j
   unfold wQ fu mI
   by_cases hj:j=k
   ·rw[hj];simp only[fu,if_true,cJ,aJ]
   ·simp only[fu,aa hj]
  have B:kI (fu qp k (qp k++[fY m])):=by
   intro j r hr v hv;unfold fu at hr
   split at hr
   ·rcases aU.1 hr with hr|hr
    ·exact hq k r hr v hv
    ·rw[aw.1 hr] at hv;exact tz m v hv
   ·exact hq j r hr v hv
  rw[<-O];refine R3 ca rfl _ _ T2 bl d ba _ _ l _ _ bm rfl rfl rfl rfl (H.mp.qL.Nq) bw bs n _ _ _ (wQ qb qp w.u) kv k qW (qb k) (qp k++[fY m]) ((qp k).length:Int) (((qp k).length:Int)+1) (w.c k).who (w.c k).rev (w.c k).seq (w.c k).text (w.c k).eT ((w.c k).eZ.map a6) (w.c k).waiting ((w.c k).held.map a6) (w.c k).rev ?_ qW (by show¬(n:Int)<=kv;omega) (by show 0<=kv;omega) (by show kv<(n:Int);omega) m.base m.who m.seq m.delta _ rfl (nJ h2) (by show((qp k).length:Int)+1-(qp k).length=1;omega) ?_ R ?_
  ·simp only[cR,uM,hu,cu,Int.natCast_one] at i;exact i
  ·show(qp k++[fY m])[(((qp k).length:Int)+0).toNat]? =some (fY m);rw[dy,aM];simp
  ·rintro s s' v e d' l' a Q rows' S T f p J rfl rfl rfl rfl C he hr ha;have e1:d'=(lC d l none m.base m.who m.seq m.delta).d:=aR qy.d J;have e2:l'=(lC d l none m.base m.who m.seq m.delta).l:=aR qy.l J;have G:p=jQ n (mI w k).c qb (fu qp k (qp k++[fY m])) (mI w k).u:=by
    rw[C];refine jP (P:=ca) rfl z (g:=λj=>cR ((mI w k).c j) (uM qb (fu qp k (qp k++[fY m])) (mI w k).u j) ((mI w k).c j).rev) o ?_ λj hj=>?_
    ·have a1:uM qb (fu qp k (qp k++[fY m])) (mI w k).u k=.win (1000970+k) (qb k) 4 (ca.add ((qp k).length:Int) 1) (ca.add ((qp k).length:Int) (ca.int (ca.nat (ca.sub (((qp k).length:Int)+1) ((qp k).length:Int))))):=by
      unfold uM mI;simp only[gw,an,cu,aK]
      congr 1
      show(((qp k).length+1:Nat):Int)+((0:Nat):Int)=(qp k).length+((((qp k).length:Int)+1-(qp k).length).toNat:Int);omega
     rw[a1];rfl
    ·simp only[uM,mI,iF _ _ hj]
   have D:fh (kb (fK bl (fJ d' (.own 1000900 a 3 l'.length) (sT 901 f none))) (jv a (l'.map a8)) (iL f none) bw bl bs n w.pu w.ed p (fu (wQ qb qp w.u) k (pT (qb k) (qp k++[fY m])))) s':=ha;rw[F,G] at D;refine I s s' (.bool true) _ he (eS _ _ _ (λx hx=>by rw[hx];rfl) hr) D (.bool _) (jo (lD _ _ _ _ _) B) ⟨a,f,fu qp k (qp k++[fY m]),by rw[y],B,?_⟩;rw[y,e1,e2];rfl
def Uq(T:cp):Prop:=∀(o1 o2 o3:Ob)(bw bl:Nat)(bs:Option Nat)(n:Nat)(pu ed:Int)(gW:List (List V))(Q:Nat->Ob)(w:WS)(d:SC)(l:List eX)(nt:im)(iE:List BS)(ba:Option Nat)(bm:Nat)(qb:Nat->Option Nat)(qp:Nat->List (List V))(kv:Int)(h:Hp)(K:V->Hp->Prop),HW h o1 o2 o3 bw bl bs n pu ed gW Q->jZ n d l nt iE w->n<=4->
 o1=sN bl d ba l bm->o2=sO ba l->o3=iL bm none->pu=w.pu->ed=w.ed->gW=jQ n w.c qb qp w.u->Q=wQ qb qp w.u->kI qp->
 (∀b d' l' w' f g i j k e a p m o,⟨b,d',l',w'⟩=qX n d l w kv->f=sN bl d' j l' k->g=sO j l'->i=iL k none->kI e->m=w'.pu->o=w'.ed->a=jQ n w'.c qb e w'.u->p=wQ qb e w'.u->K (.bool b) (h.e9 (kb f g i bw bl bs n m o a p)))->T 14 [.ptr 960 (some bw) 4 0 0,qI kv] h K
theorem Wd:Uq (fa Tryz.prog):=by
 rintro o1 o2 o3 bw bl bs n pu ed gW Q w d l nt iE ba bm qb qp kv h K hw H hn rfl rfl rfl rfl rfl rfl rfl hq hK;refine sL KJ (R4 H hn bl ba bm bw bs qb qp hq kv) (jE _) rfl nq qD (λp hp=>⟨hw.all p hp,jo (lD _ _ _ _ _) hq p hp⟩) ?_ ?_
 ·rintro v f ⟨a,b,c,rfl,_,rfl⟩;rfl
 ·rintro v f ⟨a,b,c,rfl,e,rfl⟩;exact hK _ _ _ _ _ _ _ a b c _ _ _ _ rfl rfl rfl rfl e rfl rfl rfl rfl
def kK(n:Nat)(l:List eX)(w:WS)(kv:Int):Option eX:=if kv<0\/(n:Int)<=kv then none else l[(w.c kv.toNat).rev.toNat]?
def A1(fs:List Nat):Array Oper->List AO->Bool:=λops al=>eV ops al&& !(al.any λo=>match o.op with|.call g _=>fs.any (Nat.beq g)|_=>false)
theorem Ur(fs:List Nat):lH Tryz.prog (A1 fs):=by
 have hd:∀ops al,A1 fs ops al=true->eV ops al=true:=λops al h=>by
  unfold A1 at h;rw[aO] at h;exact h.1
 exact⟨gY.1,λC n id ops al s a w K Q h1 h2 h3=>gY.2.1 C n id ops al s a w K Q h1 h2 (hd _ _ h3),λC n id ops al s a w K Q h1 h2 h3=>gY.2.2 C n id ops al s a w K Q h1 h2 (hd _ _ h3)⟩
def Xb:List Nat:=[40]
def wg:AC:=qr [qo 4 (.mov (.c (.bool false)))] (qq (qq (.region true [qm 10 1,qc 11 .lss 10 0,qm 12 11,qg 13 12 false (.mov (.t 1)),qg 14 12 false (.mov (.t 0)),qg 15 12 false (.nilchk (.t 14)),qg 16 12 false (.faddr 1 (.t 15)),qg 17 12 false (.load1 (.t 16)),qg 18 12 false (.len false (.t 17)),qg 19 12 false (.bin .geq (.t 13) (.t 18)),qo 20 (.pick (.t 12) (.c (.bool true)) (.t 19)),qm 21 20,qg 22 21 false (.mov (.t 0)),qg 23 21 false (.nilchk (.t 22)),qg 24 21 false (.faddr 1 (.t 23)),qg 25 21 false (.load1 (.t 24)),qg 26 21 false (.mov (.t 1)),qg 27 21 false (.iaddr 10 (.t 25) (.t 26)),qg 28 21 false (.faddr 9 (.t 27)),qg 29 21 false (.load1 (.t 28)),qg 30 21 false (.mov (.t 0)),qg 31 21 false (.nilchk (.t 30)),qg 32 21 false (.faddr 0 (.t 31)),qg 33 21 false (.load1 (.t 32)),qg 34 21 false (.call 34 [.t 33]),qg 35 21 false (.bin .eql (.t 29) (.t 34)),qo 36 (.pick (.t 21) (.c (.bool true)) (.t 35))]) (qu 36 (qr [qo 4 (.mov (.c (.bool false)))] .ret) .skip)) (qr [qm 37 0,qn 38 37,qf 39 1 38,ql 40 39,qm 41 1,qo 42 (.iaddr 10 (.t 40) (.t 41)),qm 5 42] (qq (.kO [(qm 44 0,[]),(qn 45 44,[0]),(qf 46 0 45,[1]),(ql 47 46,[2]),(qm 48 5,[]),(qn 49 48,[4]),(qf 50 9 49,[5]),(ql 51 50,[6]),(qa 52 40 [.t 47,.t 51],[3,7]),(qm 43 52,[8]),(qx 53 0 43,[9]),(qx 54 1 43,[9]),(qm 6 53,[10,8,0,1,2,3,4,5,6,7,8,9,10]),(qm 7 54,[11,12,0,1,2,3,4,5,6,7,8,9,10,11,12])]) (qr [qm 55 6,qo 56 (.iaddr 3 (.t 55) (qk 0)),qd 57 3 56,qo 8 (.alloc 91 F4),qs 3 8 57] (qr [qm 58 5,qn 59 58,qf 60 0 59,qd 61 8 60,qo 9 (.alloc 64 iY),qs 8 9 61] (qq (.region true [qm 63 5,qd 64 8 9,qm 65 5,qn 66 65,qf 67 9 66,ql 68 67,qf 69 0 8,ql 70 69,qf 71 1 8,ql 72 71,qf 73 2 8,ql 74 73,qo 75 (.build OL [(0,1,(.t 68)),(1,1,(.t 70)),(2,1,(.t 72)),(3,1,(.t 74))]),qa 76 63 [.t 64,.t 75],qm 62 76,qx 77 0 62,qx 78 1 62,qn 79 63,qf 80 0 79,qs 8 80 77]) (qr [qm 81 5,qn 82 81,qf 83 9 82,ql 84 83,qc 85 .add 84 1,qn 86 81,qf 87 9 86,qs 1 87 85] (qq (qr [qf 88 4 9,ql 89 88,qm 90 89,qg 91 90 true (.faddr 0 (.t 8)),qg 92 90 true (.load1 (.t 91)),qg 93 90 true (.mov (.t 1)),qg 94 90 true (.bin .eql (.t 92) (.t 93)),qo 95 (.pick (.t 90) (.t 94) (.c (.bool false))),qm 96 95,qg 97 96 true (.faddr 1 (.t 8)),qg 98 96 true (.load1 (.t 97)),qg 99 96 true (.faddr 2 (.t 9)),qg 100 96 true (.load1 (.t 99)),qg 101 96 true (.bin .eql (.t 98) (.t 100)),qo 102 (.pick (.t 96) (.t 101) (.c (.bool false))),qm 103 102,qg 104 103 true (.mov (.t 5)),qg 105 103 true (.nilchk (.t 104)),qg 106 103 true (.faddr 0 (.t 105)),qg 107 103 true (.faddr 4 (.t 106)),qg 108 103 true (.load1 (.t 107)),qo 109 (.pick (.t 103) (.t 108) (.c (.bool false)))] (qu 109 (qR [qm 110 0,qm 111 1,qa 112 59 [.t 110,.t 111]]) .skip)) (qr [qo 4 (.mov (.c (.bool true)))] .ret)))))))))
theorem KX:fo Tryz.prog 16 Tryz.f16 wg [.t 4] 2 (A1 Xb):=⟨Tryz.func16,by decide+kernel,by kernel_rfl,by kernel_rfl,by decide+kernel⟩
def A2:List (Nat×yD):=[(44,FF [0,1,2,3,4,5,6,7,8,9,10,11,12,13] .nil)]
theorem FI:oz A2 wg=true:=by decide+kernel
theorem KY(P:Prim)(hP:P=ca)(T T1:cp)(hT:jt T)(YL:jt T1)(We:RY T)(B:oU T1)(U:yz T)(bl:Nat)(d:SC)(ba:Option Nat)(nl:Nat)(rows:List (List V))(l:List eX)(mo:Ob)(bm:Nat)(G:nl=l.length)(dS:rows=l.map a8)(Zz:mo=iL bm none)(H:d.b=0)(Q0:l.length<=64)(YN:∀r∈l,r.delta.length<=1000000000)
  (ho:KI (fK bl (fJ d (.own 1000900 ba 3 nl) .nil)) (jv ba rows) mo)(bw:Nat)(bs:Option Nat)(n:Nat)(hn:n<=4)(w:WS)(pu ed:Int)(gW:List (List V))(Q:Nat->Ob)(qb:Nat->Option Nat)(qp:Nat->List (List V))(hq:kI qp)(p:gW=jQ n w.c qb qp w.u)(hQ:Q=wQ qb qp w.u)(kv:Int)
  (Wf:∀k,k<n->0<=(w.c k).rev/\(w.c k).rev<=(l.length:Int))
  (hG:∀k,k<n->∀q,l[(w.c k).rev.toNat]? =some q->jA (k7 w k q)=0/\(k7 w k q).rev=(w.c k).rev+1/\(q.who=(k:Int)->(w.c k).eT=true/\q.seq=(w.c k).seq/\w.u k=[]))
  (Wg:∀k,k<n->∀q,q∈l->∀(a b c:Int)(t:BS)(fl:Bool)(sr:List (List V))(wt:Bool)(hr:List (List V))(a' b' c':Int)(t':BS)(Us:Bool)(Ut:List (List V))(Uu:Bool)(Uv:List (List V))(qd:List (List V)),qT a b c t fl sr wt hr=ef (w.c k)->qT a' b' c' t' Us Ut Uu Uv=ef (k7 w k q)->qd=q.delta.map a6->∃e:Int,fZ T1 63 [.agg (qT a b c t fl sr wt hr),.agg [qI b,qI q.who,qI q.seq,.sl false 3 qd]] (.tup [.agg (qT a' b' c' t' Us Ut Uu Uv),qI e]))
  (R:S->Prop)(hF:∀s s',kK n l w kv=none->a7 s s'->hX [.t 4] [.bool false] s'->fh (kb (fK bl (fJ d (.own 1000900 ba 3 nl) .nil)) (jv ba rows) mo bw bl bs n pu ed gW Q) s'->R s)
  (hR:∀(s s':S)(q:eX)(I:Nat->Option Nat)(C:Nat->List (List V))(D:List (List V))(Q':Nat->Ob),kK n l w kv=some q->kI C->D=jQ n (iM w kv.toNat q).c I C (iM w kv.toNat q).u->Q'=wQ I C (iM w kv.toNat q).u->a7 s s'->hX [.t 4] [.bool true] s'->fh (kb (fK bl (fJ d (.own 1000900 ba 3 nl) .nil)) (jv ba rows) mo bw bl bs n pu ed D Q') s'->R s):
  fX P T T1 wg (S0 [.ptr 960 (some bw) 4 0 0,qI kv] (b7 (kb (fK bl (fJ d (.own 1000900 ba 3 nl) .nil)) (jv ba rows) mo bw bl bs n pu ed gW Q))) R (λ_ _=>False) R:=by
 refine sM hP hT YL A2 FI ?_;have jF:P.int n=(n:Int):=by subst hP;rfl
 cbv;refine ab (λg=>?_) (λg=>?_)
 ·have g1:kv<0:=fA hP g;cbv;exact hF _ _ (by unfold kK;rw[ae (.inl g1)]) (a7.refl _) rfl ⟨rfl,rfl,rfl,rfl,rfl,rfl,rfl,rfl,rfl,trivial⟩
 have g1:¬kv<0:=fg hP g;cbv;refine ab (λg=>?_) (λg=>?_)
 ·have g2:P.int n<=kv:=iG hP g;rw[jF] at g2;cbv;exact hF _ _ (by unfold kK;rw[ae (.inr g2)]) (a7.refl _) rfl ⟨rfl,rfl,rfl,rfl,rfl,rfl,rfl,rfl,rfl,trivial⟩
 have g2:¬P.int n<=kv:=iA hP g;rw[jF] at g2;obtain⟨k,hk⟩:∃k:Nat,kv=(k:Int):=⟨kv.toNat,qO⟩;have i:k<n:=by((try simp only[nc] at*);omega)
 have W:kv.toNat=k:=by((try simp only[nc] at*);omega)
 have q1:P.fQ 0 kv:=iQ hP qO;have q2:P.iw kv (P.int n):=kZ hP (by rw[jF];((try simp only[nc] at*);omega));have f:P.row gW (P.nat kv) (cR (w.c k) (uM qb qp w.u k) (w.c k).rev):=by rw[p];exact hO hP hk _ i
 obtain⟨L,X⟩:∃L,L=uM qb qp w.u k:=⟨_,rfl⟩;rw[<-X] at f;have YJ:V.one L=true:=by rw[X];rfl
 obtain⟨c,hc⟩:∃c,c=w.c k:=⟨_,rfl⟩;have Y:=hG k i;have Xc:=Wg k i;have Xd:=Wf k i;have Z:kK n l w kv=l[c.rev.toNat]? :=by
  unfold kK;rw[aa qO,W,hc]
 rw[<-hc] at f Y Xc Xd;obtain⟨c1,o,c3,c4,c5,c6,c7,c8⟩:=c;obtain⟨sr,Px⟩:∃sr,sr=c6.map a6:=⟨_,rfl⟩;obtain⟨hr,KQ⟩:∃hr,hr=c8.map a6:=⟨_,rfl⟩;simp only[cR] at f;rw[<-Px,<-KQ] at f;simp only at Y Xd Z;cbv
 repeat'(first
  |(refine qA ?_;cbv)
  |(intro v;cbv)
  |(refine⟨_,f,?_⟩;cbv)
  |fail)
 refine B 900 bl d 1000900 ba nl .nil _ _ (by rw[H];decide) (by rw[G];omega) ⟨.nil,rfl⟩ rfl rfl rfl λhd B=>?_;rw[H,Int.zero_add] at B;cbv
 repeat'(first
  |(refine qA ?_;cbv)
  |(intro v;cbv)
  |fail)
 refine ab (λg=>?_) (λg=>?_)
 ·have g3:o=hd:=na hP g;cbv;refine hF _ _ (by rw[Z];exact ct (by rw[g3,B,G];simp)) (a7.refl _) rfl ⟨rfl,rfl,rfl,rfl,rfl,rfl,rfl,rfl,rfl,trivial⟩
 have g3:¬o=hd:=nd hP g;rw[B,G] at g3;have hlt:o.toNat<l.length:=by((try simp only[nc] at*);omega)
 obtain⟨q,J⟩:∃q,l[o.toNat]? =some q:=⟨_,af hlt⟩;have G6:=az J;obtain⟨u1,u2,u3⟩:=Y q J;rw[J] at Z;obtain⟨x,hx⟩:∃x,x=k7 w k q:=⟨_,rfl⟩;have E:=Xc q G6;rw[<-hx] at u1 u2 E;have hW:iM w k q=⟨fu w.c k x,fu w.u k (if q.who=(k:Int)/\x.eT=true then[il x] else w.u k),w.pu,w.ed⟩:=by
  unfold iM;rw[<-hx]
 have F:∀rows':List (List V),rows'=(l.drop o.toNat).map a8->P.row rows' (P.nat 0) (a8 q):=by
  intro rows' h;subst hP h;show((l.drop o.toNat).map a8)[((0:Int)).toNat]? =some (a8 q);rw[av,bg];simp[J]
 obtain⟨x1,x2,x3,x4,m,M,z,N⟩:=x;obtain⟨v1,v2,v3⟩:=q;obtain⟨sx,KR⟩:∃sr,sr=M.map a6:=⟨_,rfl⟩;obtain⟨A,KS⟩:∃hr,hr=N.map a6:=⟨_,rfl⟩;obtain⟨qd,Uw⟩:∃qd,qd=v3.map a6:=⟨_,rfl⟩;obtain⟨e,E⟩:=E c1 o c3 c4 c5 sr c7 hr x1 x2 x3 x4 m sx z A qd (by rw[Px,KQ];rfl) (by rw[KR,KS];rfl) Uw;simp only at u2 u3 hW E;simp only[a8,fc] at F;rw[<-Uw] at F;have w1:P.i64 (P.add o 1):=by rw[add_eq hP];exact ft hP qO
 have w2:P.fQ 0 0:=iQ hP qD;have Ph:∀r,P.row (P.mf gW (P.nat kv) r) (P.nat kv) r:=by
  intro r;rw[p];subst hP hk;show(List.set (jQ n w.c qb qp w.u) ((k:Int)).toNat r)[((k:Int)).toNat]? =some r;rw[aM,dC (by simp[jQ,i])]
 have Xe:∀r r',P.row (P.mf (P.mf gW (P.nat kv) r') (P.nat kv) r) (P.nat kv) r:=by
  intro r r';rw[p];subst hP hk;show(List.set (List.set (jQ n w.c qb qp w.u) ((k:Int)).toNat r') ((k:Int)).toNat r)[((k:Int)).toNat]? =some r;rw[aM,dC (by simp[jQ,i])]
 cbv
 repeat'(first
  |(refine qA ?_;cbv)
  |(intro v;cbv)
  |(refine⟨_,f,?_⟩;cbv)
  |fail)
 refine U 900 1000900 901 1000043 bl d ba nl rows l .nil bm none o _ _ ⟨rfl,rfl,rfl,rfl,rfl,rfl,rfl,rfl,rfl⟩ dS G rfl YN (by rw[H];decide) qW rfl rfl rfl λy ye hY bo n' rows' VG K=>?_;have hy:y=l.drop o.toNat:=by
  have hy:=aR Prod.fst hY;unfold gH gl at hy;rw[H,Int.sub_zero,aa (by rw[aa qO,aa qO];decide)] at hy;exact hy
 have F:=F rows' (by rw[K,hy]);have FU:P.iw 0 (P.int n'):=by
  refine kZ hP ?_;have:P.int n'=(n':Int):=by subst hP;rfl
  rw[this,VG,hy,bA]
  ((try simp only[nc] at*);omega)
 cbv
 repeat'(first
  |(refine qA ?_;cbv)
  |(intro v;cbv)
  |(refine⟨_,f,?_⟩;cbv)
  |(refine⟨_,F,?_⟩;cbv)
  |(refine⟨_,Ph _,?_⟩;cbv)
  |(refine⟨_,Xe _ _,?_⟩;cbv)
  |(refine E _ _ ?_;cbv)
  |fail)
 have hS:P.mf (P.mf gW (P.nat kv) (DW x1 x2 x3 x4 m sx z A L o)) (P.nat kv) (DW x1 x2 x3 x4 m sx z A L (P.add o 1))=jQ n (fu w.c k ⟨x1,x2,x3,x4,m,M,z,N⟩) qb qp w.u:=by
  have e1:P.mf (P.mf gW (P.nat kv) (DW x1 x2 x3 x4 m sx z A L o)) (P.nat kv) (DW x1 x2 x3 x4 m sx z A L (P.add o 1))=P.mf gW (P.nat kv) (DW x1 x2 x3 x4 m sx z A L (P.add o 1)):=by subst hP;exact List.set_set _
  rw[e1,p];refine jP hP hk (g:=λj=>cR (fu w.c k ⟨x1,x2,x3,x4,m,M,z,N⟩ j) (uM qb qp w.u j) (fu w.c k ⟨x1,x2,x3,x4,m,M,z,N⟩ j).rev) i ?_ λj hj=>?_
  ·simp only[cR,gw];rw[<-KR,<-KS,X,u2,add_eq hP]
  ·simp only[iF _ _ hj]
 have Sv:¬(v1=(k:Int)/\m=true)->iM w kv.toNat ⟨v1,v2,v3⟩=⟨fu w.c k ⟨x1,x2,x3,x4,m,M,z,N⟩,w.u,w.pu,w.ed⟩:=by
  intro h;rw[W,hW,aa h,kJ]
 have Sn:v1=(k:Int)->m=true->iM w kv.toNat ⟨v1,v2,v3⟩=⟨fu w.c k ⟨x1,x2,x3,x4,m,M,z,N⟩,fu w.u k [il ⟨x1,x2,x3,x4,m,M,z,N⟩],w.pu,w.ed⟩:=by
  intro h1 h2;rw[W,hW,ae ⟨h1,h2⟩]
 refine ab (λg=>?_) (λg=>?_)
 ·have g4:c5=true:=g;cbv
  repeat'(first
   |(refine qA ?_;cbv)
   |(intro v;cbv)
   |fail)
  refine ab (λg=>?_) (λg=>?_)
  ·have g5:v1=kv:=na hP g;rw[hk] at g5;have g6:v2=c3:=(u3 g5).2.1;cbv
   repeat'(first
    |(refine qA ?_;cbv)
    |(intro v;cbv)
    |fail)
   refine eY (my hP g6) ?_;cbv
   repeat'(first
    |(refine qA ?_;cbv)
    |(intro v;cbv)
    |(refine⟨_,Xe _ _,?_⟩;cbv)
    |fail)
   refine ab (λg=>?_) (λg=>?_)
   ·have g7:m=true:=g;cbv;refine We _ _ _ bw bl bs n _ _ _ Q (fu w.c k ⟨x1,x2,x3,x4,m,M,z,N⟩) qb qp w.u k kv _ _ ⟨rfl,rfl,rfl,rfl,rfl,rfl,rfl,rfl,rfl⟩ ho hS hQ hq hk i hn (by rw[gw];exact u1) (by rw[gw];exact g7) (u3 g5).2.2 λI C D Q' RZ hs' KT=>?_;rw[gw] at hs' KT;cbv;exact hR _ _ ⟨v1,v2,v3⟩ I C _ Q' Z RZ (by rw[Sn g5 g7];exact hs') (by rw[Sn g5 g7];exact KT) (a7.refl _) rfl ⟨rfl,rfl,rfl,rfl,rfl,rfl,rfl,rfl,rfl,trivial⟩
   ·have g7:m=false:=g;have O:=Sv (λh=>by rw[g7] at h;cases h.2);cbv;exact hR _ _ ⟨v1,v2,v3⟩ qb qp _ Q Z hq (by rw[O];exact hS) (by rw[O];exact hQ) (a7.refl _) rfl ⟨rfl,rfl,rfl,rfl,rfl,rfl,rfl,rfl,rfl,trivial⟩
  ·have g5:¬v1=kv:=nd hP g;have O:=Sv (λh=>g5 (h.1.trans hk.symm));cbv;exact hR _ _ ⟨v1,v2,v3⟩ qb qp _ Q Z hq (by rw[O];exact hS) (by rw[O];exact hQ) (a7.refl _) rfl ⟨rfl,rfl,rfl,rfl,rfl,rfl,rfl,rfl,rfl,trivial⟩
 ·have g4:c5=false:=g;have O:=Sv (λh=>by have:=(u3 h.1).1;rw[g4] at this;cases this);cbv;exact hR _ _ ⟨v1,v2,v3⟩ qb qp _ Q Z hq (by rw[O];exact hS) (by rw[O];exact hQ) (a7.refl _) rfl ⟨rfl,rfl,rfl,rfl,rfl,rfl,rfl,rfl,rfl,trivial⟩
def jd(n:Nat)(l:List eX)(w:WS)(kv:Int):WS:=match kK n l w kv with
 |none=>w
 |some q=>iM w kv.toNat q
theorem DY{a b c:Int}{t:BS}{fl:Bool}{sr:List (List V)}{wt:Bool}{hr:List (List V)}{x:Client}(h:qT a b c t fl sr wt hr=ef x):b=x.rev:=by
 have:=aR (λl=>l.getD 1 .gS) h;simp only[qT,ef,List.getD_cons_succ,List.getD_cons_zero] at this;cases this;rfl
theorem KZ{n:Nat}{d:SC}{l:List eX}{nt:im}{iE:List BS}{w:WS}(H:jZ n d l nt iE w)(hn:n<=4)(bl:Nat)(ba:Option Nat)(bm:Nat)(bw:Nat)(bs:Option Nat)(qb:Nat->Option Nat)(qp:Nat->List (List V))(hq:kI qp)(kv:Int):
  Spec Tryz.prog 16 [.ptr 960 (some bw) 4 0 0,qI kv] (b7 (kb (sN bl d ba l bm) (sO ba l) (iL bm none) bw bl bs n w.pu w.ed (jQ n w.c qb qp w.u) (wQ qb qp w.u))) λv h'=>∃m,(∃f e,v=.bool (kK n l w kv).isSome/\kI e/\m=kb (sN bl d ba l bm) (sO ba l) (iL bm none) bw bl bs n w.pu w.ed (jQ n (jd n l w kv).c f e (jd n l w kv).u) (wQ f e (jd n l w kv).u))/\h'=b7 m:=by
 have A:maxLen=9223372036854775807:=by decide
 obtain⟨B,g⟩:=H.ch;have iB:=H.mp.qL.Nq;refine fe (Ur Xb) KX (L:=kb (sN bl d ba l bm) (sO ba l) (iL bm none) bw bl bs n w.pu w.ed (jQ n w.c qb qp w.u) (wQ qb qp w.u)) (λv m=>∃f e,v=.bool (kK n l w kv).isSome/\kI e/\m=kb (sN bl d ba l bm) (sO ba l) (iL bm none) bw bl bs n w.pu w.ed (jQ n (jd n l w kv).c f e (jd n l w kv).u) (wQ f e (jd n l w kv).u)) λR y=>?_;refine KY ca rfl _ _ n7 mZ Un IL Cd bl d ba _ _ l _ bm rfl rfl rfl H.b0 g iB.dl (lD bl d ba l bm) bw bs n hn w _ _ _ _ qb qp hq rfl rfl kv (λk hk=>(H.fact hk).rev) (λk hk q o=>?_) (λk hk q p a b c t fl sr wt hr G b' c' I C D E F qd h1 h2 h3=>?_) R ?_ ?_
 ·obtain⟨_,_,g3,g4,g5⟩:=tu H hk o;exact⟨g3,g4,g5⟩
 ·have hb:=DY h1;rw[h1,h2,h3,hb];have hf:=H.fact hk;have h4:=hf.sn;have h5:=hf.hl;have h6:=iB.dl q p;refine⟨_,qi (args:=[.agg (ef (w.c k)),.agg (fY ⟨(w.c k).rev,q.who,q.seq,q.delta⟩)]) (RU (w.c k) ⟨(w.c k).rev,q.who,q.seq,q.delta⟩ qW qW (by show q.delta.length<=maxLen;omega)) (λh=>.cons (.same (.agg (ef (w.c k)))) (.cons (.same (.agg (fY ⟨(w.c k).rev,q.who,q.seq,q.delta⟩))) .nil)) rfl⟩
 ·intro s s' i he hr ha;have r:jd n l w kv=w:=by unfold jd;rw[i]
  exact y s s' (.bool false) _ he (eS _ _ _ (λx hx=>by rw[hx];rfl) hr) ha (.bool _) (jo (lD _ _ _ _ _) hq) ⟨qb,qp,by rw[i];rfl,hq,by rw[r];rfl⟩
 ·rintro s s' q f e z J i j rfl rfl he hr ha;have r:jd n l w kv=iM w kv.toNat q:=by unfold jd;rw[i]
  exact y s s' (.bool true) _ he (eS _ _ _ (λx hx=>by rw[hx];rfl) hr) ha (.bool _) (jo (lD _ _ _ _ _) j) ⟨f,e,by rw[i];rfl,j,by rw[r];rfl⟩
def K0(T:cp):Prop:=∀(o1 o2 o3:Ob)(bw bl:Nat)(bs:Option Nat)(n:Nat)(pu ed:Int)(gW:List (List V))(Q:Nat->Ob)(w:WS)(d:SC)(l:List eX)(nt:im)(iE:List BS)(ba:Option Nat)(bm:Nat)(qb:Nat->Option Nat)(qp:Nat->List (List V))(kv:Int)(h:Hp)(K:V->Hp->Prop),HW h o1 o2 o3 bw bl bs n pu ed gW Q->jZ n d l nt iE w->n<=4->
 o1=sN bl d ba l bm->o2=sO ba l->o3=iL bm none->pu=w.pu->ed=w.ed->gW=jQ n w.c qb qp w.u->Q=wQ qb qp w.u->kI qp->
 (∀b w' f e a g,b=(kK n l w kv).isSome->w'=jd n l w kv->kI e->a=jQ n w'.c f e w'.u->g=wQ f e w'.u->K (.bool b) (h.e9 (kb o1 o2 o3 bw bl bs n pu ed a g)))->T 16 [.ptr 960 (some bw) 4 0 0,qI kv] h K
theorem R5:K0 (fa Tryz.prog):=by
 rintro o1 o2 o3 bw bl bs n pu ed gW Q w d l nt iE ba bm qb qp kv h K hw H hn rfl rfl rfl rfl rfl rfl rfl hq hK;refine sL KJ (KZ H hn bl ba bm bw bs qb qp hq kv) (jE _) rfl nq qD (λp hp=>⟨hw.all p hp,jo (lD _ _ _ _ _) hq p hp⟩) ?_ ?_
 ·rintro v e ⟨a,b,rfl,_,rfl⟩;rfl
 ·rintro v e ⟨a,b,rfl,c,rfl⟩;exact hK _ _ a b _ _ rfl rfl c rfl rfl
theorem Cm{n:Nat}{d:SC}{l:List eX}{dr:im}{tx:List BS}{w:WS}(h:jZ n d l dr tx w)(kv:Int):jZ n d l dr tx (jd n l w kv):=by
 unfold jd kK
 by_cases hk:kv<0\/(n:Int)<=kv
 ·rw[ae hk];exact h
 ·rw[aa hk];cases hq:l[(w.c kv.toNat).rev.toNat]? with
  |none=>exact h
  |some q=>exact(tu h (k:=kv.toNat) qW hq).1
def lE(n:Nat)(l:List eX)(w:WS):Bool:=(List.range n).all λi=>decide ((w.u i).length=0/\¬(w.c i).rev<(l.length:Int))
theorem K1{n:Nat}{l:List eX}{w:WS}(h:∀i,i<n->(w.u i).length=0/\¬(w.c i).rev<(l.length:Int)):lE n l w=true:=by
 unfold lE;exact aE.2 λi hi=>bV (h i (bJ.1 hi))
theorem K2{n:Nat}{l:List eX}{w:WS}{i:Nat}(hi:i<n)(h:¬((w.u i).length=0/\¬(w.c i).rev<(l.length:Int))):lE n l w=false:=by
 cases hb:lE n l w with
 |false=>rfl
 |true=>
  unfold lE at hb;exact absurd (cB (aE.1 hb i (bJ.2 hi))) h
structure Xf(n:Nat)(l:List eX)(w:WS) where
 i:Nat
 k:Int
 hi:i<=n
 hk:k=(i:Int)
 h:∀j,j<i->(w.u j).length=0/\¬(w.c j).rev<(l.length:Int)
def A3:AC:=qr [qo 2 (.mov (.c (.bool false)))] (qq (qr [qm 5 0,qn 6 5,qf 7 1 6,ql 8 7,qo 9 (.len false (.t 8)),qz 10 0] (.block 0 (.loop (qr [qb 11 .lss 10 9] (qq (qu 11 .skip (.exit 0)) (qq (.block 1 (qr [qo 12 (.iaddr 10 (.t 8) (.t 10)),qd 13 10 12,qo 4 (.alloc 110 Sx),qs 10 4 13] (qq (.region true [qf 14 8 4,ql 15 14,qo 16 (.len false (.t 15)),qc 17 .gtr 16 0,qm 18 17,qg 19 18 false (.faddr 9 (.t 4)),qg 20 18 false (.load1 (.t 19)),qg 21 18 false (.mov (.t 0)),qg 22 18 false (.nilchk (.t 21)),qg 23 18 false (.faddr 0 (.t 22)),qg 24 18 false (.load1 (.t 23)),qg 25 18 false (.call 34 [.t 24]),qg 26 18 false (.bin .lss (.t 20) (.t 25)),qo 27 (.pick (.t 18) (.c (.bool true)) (.t 26))]) (qu 27 (qr [qo 2 (.mov (.c (.bool false)))] .ret) .skip)))) (qR [qc 28 .add 10 1,qm 10 28]))))))) (qr [qo 2 (.mov (.c (.bool true)))] .ret))
theorem K3:fo Tryz.prog 18 Tryz.f18 A3 [.t 2] 1 eV:=⟨Tryz.func18,by decide+kernel,by kernel_rfl,by kernel_rfl,by decide+kernel⟩
theorem K4(P:Prim)(hP:P=ca)(T H:cp)(m:oU H)(bl:Nat)(d:SC)(ba:Option Nat)(nl:Nat)(rows:List (List V))(l:List eX)(mo:Ob)(p:nl=l.length)(q:d.b=0)(I:l.length<=64)(bw:Nat)(bs:Option Nat)(n:Nat)(hn:n<=4)(w:WS)(pu ed:Int)(gW:List (List V))(Q:Nat->Ob)(qb:Nat->Option Nat)(qp:Nat->List (List V))(r:gW=jQ n w.c qb qp w.u)
  (R:S->Prop)(B:∀s s' b,b=lE n l w->a7 s s'->hX [.t 2] [.bool b] s'->fh (kb (fK bl (fJ d (.own 1000900 ba 3 nl) .nil)) (jv ba rows) mo bw bl bs n pu ed gW Q) s'->R s):
  fX P T H A3 (S0 [.ptr 960 (some bw) 4 0 0] (b7 (kb (fK bl (fJ d (.own 1000900 ba 3 nl) .nil)) (jv ba rows) mo bw bl bs n pu ed gW Q))) R (λ_ _=>False) R:=by
 have jF:P.int n=(n:Int):=by subst hP;rfl
 cbv;refine⟨Xf n l w,λy=>[(0,.ptr 960 (some bw) 4 0 0),(8,.own 1000960 bs 10 n),(9,qI (P.int n)),(10,qI y.k)],λ_=>kb (fK bl (fJ d (.own 1000900 ba 3 nl) .nil)) (jv ba rows) mo bw bl bs n pu ed gW Q,λy=>n-y.i,
  ⟨_,a7.refl _,⟨0,0,bd _,rfl,λj hj=>absurd hj (Nat.not_lt_zero _)⟩,⟨rfl,rfl,rfl,rfl,trivial⟩,⟨rfl,rfl,rfl,rfl,rfl,rfl,rfl,rfl,rfl,trivial⟩⟩,?_⟩
 rintro⟨i,k,hi,hk,f⟩;cbv;refine ab (λg=>?_) (λg=>?_)
 ·have g1:k<P.int n:=fA hP g;rw[jF] at g1;have hk:k=(i:Int):=hk;have e:i<n:=by((try simp only[nc] at*);omega)
  have q1:P.fQ 0 k:=iQ hP qO;have q2:P.iw k (P.int n):=kZ hP (by rw[jF];exact g1);have N:P.i64 (P.add k 1):=by rw[add_eq hP];exact ft hP qO
  have K:P.add k 1=((i+1:Nat):Int):=by rw[add_eq hP,hk];simp
  have a:P.row gW (P.nat k) (cR (w.c i) (uM qb qp w.u i) (w.c i).rev):=by rw[r];exact hO hP hk _ e
  obtain⟨lo,v⟩:∃lo,lo=((qp i).length:Int):=⟨_,rfl⟩;obtain⟨up,x⟩:∃up,up=((qp i).length:Int)+((w.u i).length:Int):=⟨_,rfl⟩;obtain⟨c,hc⟩:∃c,c=w.c i:=⟨_,rfl⟩;have C:¬((w.u i).length=0/\¬(w.c i).rev<(l.length:Int))->lE n l w=false:=K2 e;have z:P.sub up lo=((w.u i).length:Int):=by rw[sub_eq hP,x,v];omega
  unfold uM at a;rw[<-x,<-v] at a;rw[<-hc] at a C;obtain⟨c1,A,c3,c4,c5,L,O,M⟩:=c;obtain⟨sr,D⟩:∃sr,sr=L.map a6:=⟨_,rfl⟩;obtain⟨hr,E⟩:∃hr,hr=M.map a6:=⟨_,rfl⟩;simp only[cR] at a;rw[<-D,<-E] at a;obtain⟨J,F⟩:∃J,J=1000970+i:=⟨_,rfl⟩;rw[<-F] at a;clear g;cbv
  repeat'(first
   |(refine qA ?_;cbv)
   |(intro o;cbv)
   |(refine⟨_,a,?_⟩;cbv)
   |fail)
  refine ab (λg=>?_) (λg=>?_)
  ·have g2:0<P.sub up lo:=fA hP g;rw[z] at g2;cbv;refine B _ _ false (C (λh=>by((try simp only[nc] at*);omega))).symm (a7.refl _) rfl ⟨rfl,rfl,rfl,rfl,rfl,rfl,rfl,rfl,rfl,trivial⟩
  have g2:¬0<P.sub up lo:=fg hP g;rw[z] at g2;cbv
  repeat'(first
   |(refine qA ?_;cbv)
   |(intro o;cbv)
   |fail)
  refine m 900 bl d 1000900 ba nl .nil _ _ (by rw[q];decide) (by rw[p];omega) ⟨.nil,rfl⟩ rfl rfl rfl λhd m=>?_;rw[q,Int.zero_add,p] at m;cbv
  repeat'(first
   |(refine qA ?_;cbv)
   |(intro o;cbv)
   |fail)
  refine ab (λg=>?_) (λg=>?_)
  ·have g3:A<hd:=fA hP g;cbv;refine B _ _ false (C (λh=>h.2 (by show A<_;((try simp only[nc] at*);omega)))).symm (a7.refl _) rfl ⟨rfl,rfl,rfl,rfl,rfl,rfl,rfl,rfl,rfl,trivial⟩
  have g3:¬A<hd:=fg hP g;cbv
  repeat'(first
   |(refine qA ?_;cbv)
   |(intro o;cbv)
   |fail)
  refine⟨_,a7.refl _,⟨i+1,_,e,K,λj hj=>?_⟩,⟨rfl,rfl,rfl,rfl,trivial⟩,⟨rfl,rfl,rfl,rfl,rfl,rfl,rfl,rfl,rfl,trivial⟩,by show n-(i+1)<n-i;omega⟩
  by_cases G:j=i
  ·subst G;refine⟨by((try simp only[nc] at*);omega),?_⟩;rw[<-hc];show¬A<_;((try simp only[nc] at*);omega)
  ·exact f j qW
 ·have g1:¬k<P.int n:=fg hP g;rw[jF] at g1;have hk:k=(i:Int):=hk;have hi:i<=n:=hi;cbv;exact B _ _ true (K1 λj hj=>f j qO).symm (a7.refl _) rfl ⟨rfl,rfl,rfl,rfl,rfl,rfl,rfl,rfl,rfl,trivial⟩
theorem a7.PA{s:S}{k q sz n c:Nat}{b:Option Nat}{o O:Ob}{row:List V}(hk:s.h k=some o)(hq:s.h q=some O)(a:O.rows=[row])(hc:row[c]? =some (.own k b sz n))(hb:o.b=b)(hsz:o.sz=sz)(hn:o.rows.length=n)(hz:∀r∈o.rows,∀v∈r,Fz v):
  a7 s ⟨s.t,Hp.del (Hp.put s.h q ⟨O.b,O.ty,O.sz,[row.set c (.sl false sz o.rows)]⟩) k⟩:=by
 refine a7.freeze hk hb hsz hn hz (λ_=>.inl rfl) (λj d hj=>?_);simp only[Hp.del] at hj
 by_cases h1:j=k
 ·rw[ae h1] at hj;cases hj
 ·rw[aa h1] at hj;refine⟨h1,?_⟩;simp only[Hp.put] at hj
  by_cases h2:j=q
  ·rw[ae h2] at hj;cases hj;refine⟨O,by rw[h2];exact hq,rfl,rfl,rfl,by rw[a];simp,λi r r' e1 e3=>?_⟩;rw[a] at e1;cases i with
   |zero=>
    simp only[bq,aH] at e1 e3;subst e1 e3;refine⟨by simp,λl v v' e4 e5=>?_⟩;rw[cz] at e5
    by_cases hl:c=l
    ·subst hl;rw[ae rfl] at e5;rw[hc] at e4;cases e4
     split at e5
     ·cases e5;exact .inr ⟨rfl,rfl⟩
     ·cases e5
    ·rw[aa hl,e4] at e5;cases e5;exact .inl rfl
   |succ i=>simp at e1
  ·rw[aa h2] at hj;exact⟨d,hj,rfl,rfl,rfl,rfl,λi r r' h1 h2=>by rw[h1] at h2;cases h2;exact⟨rfl,λl v v' h3 h4=>by rw[h3] at h4;cases h4;exact .inl rfl⟩⟩
def A4:AC:=qr [qo 2 (.mov (.c (.slice none 0 0)))] (qr [qm 6 0,qn 7 6,qf 8 0 7,ql 9 8,qa 10 40 [.t 9,qk 0],qm 5 10,qx 11 0 5,qx 12 1 5,qm 3 11,qm 4 12] (qr [qm 13 3,qm 2 13] .ret))
theorem K5:fo Tryz.prog 21 Tryz.f21 A4 [.t 2] 1 eV:=⟨Tryz.func21,by decide+kernel,by kernel_rfl,by kernel_rfl,by decide+kernel⟩
theorem K6(P:Prim)(hP:P=ca)(T o:cp)(c:yz T)(bl:Nat)(d:SC)(ba:Option Nat)(nl:Nat)(rows:List (List V))(l:List eX)(mo:Ob)(f:nl=l.length)(dS:rows=l.map a8)(e:d.b=0)(m:l.length<=64)(g:∀r∈l,r.delta.length<=1000000000)(bw:Nat)(bs:Option Nat)(n:Nat)(pu ed:Int)(gW:List (List V))(Q:Nat->Ob)
  (R:S->Prop)(p:∀s s',a7 s s'->hX [.t 2] [.sl false 3 rows] s'->fh (kb (fK bl (fJ d (.own 1000900 ba 3 nl) .nil)) (jv ba rows) mo bw bl bs n pu ed gW Q) s'->R s):
  fX P T o A4 (S0 [.ptr 960 (some bw) 4 0 0] (b7 (kb (fK bl (fJ d (.own 1000900 ba 3 nl) .nil)) (jv ba rows) mo bw bl bs n pu ed gW Q))) R (λ_ _=>False) R:=by
 cbv
 repeat'(first
  |(refine qA ?_;cbv)
  |(intro q;cbv)
  |fail)
 refine c 900 1000900 901 1000043 bl d ba nl rows l .nil 0 none 0 _ _ ⟨rfl,rfl,rfl,rfl,rfl,rfl,rfl,rfl,rfl⟩ dS f rfl g (by rw[e];decide) qW rfl rfl rfl λy w u x n' rows' h a=>?_;have hy:y=l:=by
  have hy:=aR Prod.fst u;unfold gH gl at hy;rw[e,aa (by rw[aa qD,aa qW];decide)] at hy;exact hy
 have j:rows'=rows:=by rw[a,hy,dS]
 have hz:∀r∈rows',∀v∈r,Fz v:=by rw[a];exact fW _
 have hlen:rows'.length=n':=by rw[a,aI,h]
 cbv;refine p _ _ (a7.H3 (i:=2) (k:=1000043) (sz:=3) rfl rfl rfl rfl hlen hz) (by rw[<-j];rfl) ⟨rfl,rfl,rfl,rfl,rfl,rfl,rfl,rfl,rfl,trivial⟩
def A5:AC:=qr [qo 4 (.mov (.c qe)),qz 5 0] (qq (qr [qm 6 1,qc 7 .lss 6 0,qm 8 7,qg 9 8 false (.mov (.t 1)),qg 10 8 false (.mov (.t 0)),qg 11 8 false (.nilchk (.t 10)),qg 12 8 false (.faddr 1 (.t 11)),qg 13 8 false (.load1 (.t 12)),qg 14 8 false (.len false (.t 13)),qg 15 8 false (.bin .geq (.t 9) (.t 14)),qo 16 (.pick (.t 8) (.c (.bool true)) (.t 15))] (qu 16 (qr [qo 4 (.mov (.c qe)),qz 5 1] .ret) .skip)) (qr [qm 17 0,qn 18 17,qf 19 1 18,ql 20 19,qm 21 1,qo 22 (.iaddr 10 (.t 20) (.t 21)),qf 23 0 22,qf 24 3 23,ql 25 24,qm 4 25,qz 5 0] .ret))
theorem K7:fo Tryz.prog 23 Tryz.f23 A5 [.t 4,.t 5] 2 eV:=⟨Tryz.func23,by decide+kernel,by kernel_rfl,by kernel_rfl,by decide+kernel⟩
theorem K8(P:Prim)(hP:P=ca)(T m:cp)(o1 o2 o3:Ob)(bw bl:Nat)(bs:Option Nat)(n:Nat)(w:WS)(pu ed:Int)(gW:List (List V))(Q:Nat->Ob)(qb:Nat->Option Nat)(qp:Nat->List (List V))(b:gW=jQ n w.c qb qp w.u)(kv:Int)
  (R:S->Prop)(d:∀s s' t e,((kv<0\/(n:Int)<=kv)->t=[]/\e=1)->(¬(kv<0\/(n:Int)<=kv)->t=(w.c kv.toNat).text/\e=0)->a7 s s'->hX [.t 4,.t 5] [.str t,qI e] s'->fh (kb o1 o2 o3 bw bl bs n pu ed gW Q) s'->R s):
  fX P T m A5 (S0 [.ptr 960 (some bw) 4 0 0,qI kv] (b7 (kb o1 o2 o3 bw bl bs n pu ed gW Q))) R (λ_ _=>False) R:=by
 have jF:P.int n=(n:Int):=by subst hP;rfl
 cbv;refine ab (λg=>?_) (λg=>?_)
 ·have g1:kv<0:=fA hP g;cbv;exact d _ _ [] 1 (λ_=>⟨rfl,rfl⟩) (λh=>absurd (.inl g1) h) (a7.refl _) rfl ⟨rfl,rfl,rfl,rfl,rfl,rfl,rfl,rfl,rfl,trivial⟩
 have g1:¬kv<0:=fg hP g;cbv;refine ab (λg=>?_) (λg=>?_)
 ·have g2:P.int n<=kv:=iG hP g;rw[jF] at g2;cbv;exact d _ _ [] 1 (λ_=>⟨rfl,rfl⟩) (λh=>absurd (.inr g2) h) (a7.refl _) rfl ⟨rfl,rfl,rfl,rfl,rfl,rfl,rfl,rfl,rfl,trivial⟩
 have g2:¬P.int n<=kv:=iA hP g;rw[jF] at g2;obtain⟨k,hk⟩:∃k:Nat,kv=(k:Int):=⟨kv.toNat,qO⟩;have f:k<n:=by((try simp only[nc] at*);omega)
 have i:kv.toNat=k:=by((try simp only[nc] at*);omega)
 have q1:P.fQ 0 kv:=iQ hP qO;have q2:P.iw kv (P.int n):=kZ hP (by rw[jF];((try simp only[nc] at*);omega));have a:P.row gW (P.nat kv) (cR (w.c k) (uM qb qp w.u k) (w.c k).rev):=by rw[b];exact hO hP hk _ f
 obtain⟨l,j⟩:∃l,l=uM qb qp w.u k:=⟨_,rfl⟩;obtain⟨c,hc⟩:∃c,c=w.c k:=⟨_,rfl⟩;rw[<-j,<-hc] at a;obtain⟨c1,p,c3,c4,c5,q,r,v⟩:=c;cbv
 repeat'(first
  |(refine qA ?_;cbv)
  |(intro o;cbv)
  |(refine⟨_,a,?_⟩;cbv)
  |fail)
 exact d _ _ c4 0 (λh=>absurd h qO) (λ_=>⟨by rw[i,<-hc],rfl⟩) (a7.refl _) rfl ⟨rfl,rfl,rfl,rfl,rfl,rfl,rfl,rfl,rfl,trivial⟩
def wL:List V:=[.int .i64 0,.int .i64 0,.int .i64 0,.str [],.bool false,.nilsl,.bool false,.nilsl]
def DZ:AC:=qr [qo 4 (.alloc 64 iY),qz 5 0] (qq (qr [qm 7 1,qc 8 .lss 7 0,qm 9 8,qg 10 9 false (.mov (.t 1)),qg 11 9 false (.mov (.t 0)),qg 12 9 false (.nilchk (.t 11)),qg 13 9 false (.faddr 1 (.t 12)),qg 14 9 false (.load1 (.t 13)),qg 15 9 false (.len false (.t 14)),qg 16 9 false (.bin .geq (.t 10) (.t 15)),qo 17 (.pick (.t 9) (.c (.bool true)) (.t 16))] (qu 17 (qr [qo 18 (.build iY []),qs 8 4 18,qz 5 1] .ret) .skip)) (qr [qm 19 0,qn 20 19,qf 21 1 20,ql 22 21,qm 23 1,qo 24 (.iaddr 10 (.t 22) (.t 23)),qf 25 0 24,qd 26 8 25,qo 6 (.alloc 64 iY),qs 8 6 26] (qr [qf 27 5 6,ql 28 27,qo 29 (.append 115 3 32 (.c (.slice none 0 0)) (.t 28)),qf 30 5 6,qs 1 30 29] (qr [qf 31 7 6,ql 32 31,qo 33 (.append 115 3 32 (.c (.slice none 0 0)) (.t 32)),qf 34 7 6,qs 1 34 33] (qr [qd 35 8 6,qs 8 4 35,qz 5 0] .ret)))))
theorem Oz:fo Tryz.prog 22 Tryz.f22 DZ [.cn 4 8,.t 5] 2 eV:=⟨Tryz.func22,by decide+kernel,by kernel_rfl,by kernel_rfl,by decide+kernel⟩
theorem OA(P:Prim)(hP:P=ca)(T C:cp)(o1 o2 o3:Ob)(bw bl:Nat)(bs:Option Nat)(n:Nat)(w:WS)(pu ed:Int)(gW:List (List V))(Q:Nat->Ob)(qb:Nat->Option Nat)(qp:Nat->List (List V))(i:gW=jQ n w.c qb qp w.u)(kv:Int)(hb:∀k,k<n->(w.c k).eZ.length<=1600/\(w.c k).held.length<=1600)
  (R:S->Prop)(m:∀s s' cv e,((kv<0\/(n:Int)<=kv)->cv=wL/\e=1)->(¬(kv<0\/(n:Int)<=kv)->cv=ef (w.c kv.toNat)/\e=0)->a7 s s'->hX [.cn 4 8,.t 5] [.agg cv,qI e] s'->fh (kb o1 o2 o3 bw bl bs n pu ed gW Q) s'->R s):
  fX P T C DZ (S0 [.ptr 960 (some bw) 4 0 0,qI kv] (b7 (kb o1 o2 o3 bw bl bs n pu ed gW Q))) R (λ_ _=>False) R:=by
 have jF:P.int n=(n:Int):=by subst hP;rfl
 cbv
 repeat'(first
  |(refine qA ?_;cbv)
  |(intro f;cbv)
  |fail)
 refine ab (λg=>?_) (λg=>?_)
 ·have g1:kv<0:=fA hP g;cbv
  repeat'(first
   |(refine qA ?_;cbv)
   |(intro f;cbv)
   |fail)
  exact m _ _ wL 1 (λ_=>⟨rfl,rfl⟩) (λh=>absurd (.inl g1) h) (a7.refl _) ⟨rfl,rfl,aj 0,ag 8,rfl⟩ ⟨rfl,rfl,rfl,rfl,rfl,rfl,rfl,rfl,rfl,trivial⟩
 have g1:¬kv<0:=fg hP g;cbv;refine ab (λg=>?_) (λg=>?_)
 ·have g2:P.int n<=kv:=iG hP g;rw[jF] at g2;cbv
  repeat'(first
   |(refine qA ?_;cbv)
   |(intro f;cbv)
   |fail)
  exact m _ _ wL 1 (λ_=>⟨rfl,rfl⟩) (λh=>absurd (.inr g2) h) (a7.refl _) ⟨rfl,rfl,aj 0,ag 8,rfl⟩ ⟨rfl,rfl,rfl,rfl,rfl,rfl,rfl,rfl,rfl,trivial⟩
 have g2:¬P.int n<=kv:=iA hP g;rw[jF] at g2;obtain⟨k,hk⟩:∃k:Nat,kv=(k:Int):=⟨kv.toNat,qO⟩;have j:k<n:=by((try simp only[nc] at*);omega)
 have o:kv.toNat=k:=by((try simp only[nc] at*);omega)
 have q1:P.fQ 0 kv:=iQ hP qO;have q2:P.iw kv (P.int n):=kZ hP (by rw[jF];((try simp only[nc] at*);omega));have a:P.row gW (P.nat kv) (cR (w.c k) (uM qb qp w.u k) (w.c k).rev):=by rw[i];exact hO hP hk _ j
 obtain⟨B,p⟩:∃B,B=uM qb qp w.u k:=⟨_,rfl⟩;obtain⟨c,hc⟩:∃c,c=w.c k:=⟨_,rfl⟩;have l:=hb k j;rw[<-hc] at l;rw[<-p,<-hc] at a;obtain⟨c1,x,c3,c4,c5,y,z,A⟩:=c;obtain⟨sr,b⟩:∃sr,sr=y.map a6:=⟨_,rfl⟩;obtain⟨hr,d⟩:∃hr,hr=A.map a6:=⟨_,rfl⟩;simp only[cR] at a;simp only at l;rw[<-b,<-d] at a;have b1:P.bytes (P.da sr) 32:=by subst hP;show(sr.length:Int)*32<=_;rw[b,aI];omega
 have b2:P.bytes (P.da hr) 32:=by subst hP;show(hr.length:Int)*32<=_;rw[d,aI];omega
 have f1:∀r∈sr,∀v∈r,Fz v:=by rw[b];exact ff _
 have f2:∀r∈hr,∀v∈r,Fz v:=by rw[d];exact ff _
 have n1:sr.length=P.gp sr:=by subst hP;rfl
 have n2:hr.length=P.gp hr:=by subst hP;rfl
 cbv
 repeat'(first
  |(refine qA ?_;cbv)
  |(intro f;cbv)
  |(refine⟨_,a,?_⟩;cbv)
  |fail)
 refine m _ _ (ef ⟨c1,x,c3,c4,c5,y,z,A⟩) 0 (λh=>absurd h qO) (λ_=>⟨by rw[o,<-hc],rfl⟩) ((a7.PA (k:=1000029) (q:=4) (c:=5) rfl rfl rfl rfl rfl rfl n1 f1).trans (a7.PA (k:=1000033) (q:=4) (c:=7) rfl rfl rfl rfl rfl rfl n2 f2)) ?_ ⟨rfl,rfl,rfl,rfl,rfl,rfl,rfl,rfl,rfl,trivial⟩;have e:ef ⟨c1,x,c3,c4,c5,y,z,A⟩=qT c1 x c3 c4 c5 sr z hr:=by rw[b,d];rfl
 rw[e];exact⟨rfl,rfl,aj 0,ag 8,rfl⟩
theorem K9{n:Nat}{d:SC}{l:List eX}{nt:im}{iE:List BS}{w:WS}(H:jZ n d l nt iE w)(hn:n<=4)(bl:Nat)(ba:Option Nat)(bm:Nat)(bw:Nat)(bs:Option Nat)(qb:Nat->Option Nat)(qp:Nat->List (List V))(hq:kI qp):
  Spec Tryz.prog 18 [.ptr 960 (some bw) 4 0 0] (b7 (kb (sN bl d ba l bm) (sO ba l) (iL bm none) bw bl bs n w.pu w.ed (jQ n w.c qb qp w.u) (wQ qb qp w.u))) λv h'=>∃a,(v=.bool (lE n l w)/\a=kb (sN bl d ba l bm) (sO ba l) (iL bm none) bw bl bs n w.pu w.ed (jQ n w.c qb qp w.u) (wQ qb qp w.u))/\h'=b7 a:=by
 refine fe gY K3 (L:=kb (sN bl d ba l bm) (sO ba l) (iL bm none) bw bl bs n w.pu w.ed (jQ n w.c qb qp w.u) (wQ qb qp w.u)) (λv a=>v=.bool (lE n l w)/\a=kb (sN bl d ba l bm) (sO ba l) (iL bm none) bw bl bs n w.pu w.ed (jQ n w.c qb qp w.u) (wQ qb qp w.u)) λR e=>?_;refine K4 ca rfl _ _ IL bl d ba _ _ l _ rfl H.b0 H.ch.2 bw bs n hn w _ _ _ _ qb qp rfl R ?_;rintro s s' b rfl he hr ha;exact e s s' (.bool (lE n l w)) _ he (eS _ _ _ (λx hx=>by rw[hx];rfl) hr) ha (.bool _) (jo (lD _ _ _ _ _) hq) ⟨rfl,rfl⟩
theorem La{n:Nat}{d:SC}{l:List eX}{nt:im}{iE:List BS}{w:WS}(H:jZ n d l nt iE w)(bl:Nat)(ba:Option Nat)(bm:Nat)(bw:Nat)(bs:Option Nat)(qb:Nat->Option Nat)(qp:Nat->List (List V))(hq:kI qp):
  Spec Tryz.prog 21 [.ptr 960 (some bw) 4 0 0] (b7 (kb (sN bl d ba l bm) (sO ba l) (iL bm none) bw bl bs n w.pu w.ed (jQ n w.c qb qp w.u) (wQ qb qp w.u))) λv h'=>∃a,(v=.sl false 3 (l.map a8)/\a=kb (sN bl d ba l bm) (sO ba l) (iL bm none) bw bl bs n w.pu w.ed (jQ n w.c qb qp w.u) (wQ qb qp w.u))/\h'=b7 a:=by
 refine fe gY K5 (L:=kb (sN bl d ba l bm) (sO ba l) (iL bm none) bw bl bs n w.pu w.ed (jQ n w.c qb qp w.u) (wQ qb qp w.u)) (λv a=>v=.sl false 3 (l.map a8)/\a=kb (sN bl d ba l bm) (sO ba l) (iL bm none) bw bl bs n w.pu w.ed (jQ n w.c qb qp w.u) (wQ qb qp w.u)) λR b=>?_;refine K6 ca rfl _ _ Cd bl d ba _ _ l _ rfl rfl H.b0 H.ch.2 H.mp.qL.Nq.dl bw bs n _ _ _ _ R ?_;intro s s' he hr ha;exact b s s' (.sl false 3 (l.map a8)) _ he (eS _ _ _ (λx hx=>by rw[hx];rfl) hr) ha (.sl _ _ (fW _)) (jo (lD _ _ _ _ _) hq) ⟨rfl,rfl⟩
def m4(n:Nat)(w:WS)(kv:Int):BS×Int:=if kv<0\/(n:Int)<=kv then([],1) else((w.c kv.toNat).text,0)
def o7(n:Nat)(w:WS)(kv:Int):List V×Int:=if kv<0\/(n:Int)<=kv then(wL,1) else(ef (w.c kv.toNat),0)
theorem OB:Fz (.agg wL):=.agg _ λv hv=>by
 simp only[wL,ax,aF,bj] at hv
 rcases hv with rfl|rfl|rfl|rfl|rfl|rfl|rfl|rfl<;>first|exact .int _ _|exact .str _|exact .bool _|exact .nilsl
theorem sP(c:Client):Fz (.agg (ef c)):=.agg _ λv hv=>by
 simp only[ef,ax,aF,bj] at hv
 rcases hv with rfl|rfl|rfl|rfl|rfl|rfl|rfl|rfl
 ·exact .int _ _
 ·exact .int _ _
 ·exact .int _ _
 ·exact .str _
 ·exact .bool _
 ·exact .sl _ _ (ff _)
 ·exact .bool _
 ·exact .sl _ _ (ff _)
theorem Lb(o1 o2 o3:Ob)(ho:KI o1 o2 o3)(bw bl:Nat)(bs:Option Nat)(n:Nat)(w:WS)(qb:Nat->Option Nat)(qp:Nat->List (List V))(hq:kI qp)(kv:Int):
  Spec Tryz.prog 23 [.ptr 960 (some bw) 4 0 0,qI kv] (b7 (kb o1 o2 o3 bw bl bs n w.pu w.ed (jQ n w.c qb qp w.u) (wQ qb qp w.u))) λv h'=>∃a,(v=.tup [.str (m4 n w kv).1,qI (m4 n w kv).2]/\a=kb o1 o2 o3 bw bl bs n w.pu w.ed (jQ n w.c qb qp w.u) (wQ qb qp w.u))/\h'=b7 a:=by
 refine fe gY K7 (L:=kb o1 o2 o3 bw bl bs n w.pu w.ed (jQ n w.c qb qp w.u) (wQ qb qp w.u)) (λv a=>v=.tup [.str (m4 n w kv).1,qI (m4 n w kv).2]/\a=kb o1 o2 o3 bw bl bs n w.pu w.ed (jQ n w.c qb qp w.u) (wQ qb qp w.u)) λR b=>?_;refine K8 ca rfl _ _ o1 o2 o3 bw bl bs n w _ _ _ _ qb qp rfl kv R ?_;intro s s' t e h1 h2 he hr ha;have ht:t=(m4 n w kv).1/\e=(m4 n w kv).2:=by
  unfold m4
  split
  ·rename_i h;exact h1 h
  ·rename_i h;exact h2 h
 obtain⟨rfl,rfl⟩:=ht;exact b s s' (.tup [.str (m4 n w kv).1,qI (m4 n w kv).2]) _ he (eS _ _ _ (λx hx=>by rw[hx];rfl) hr) ha (.tup _ (by simp;exact⟨.str _,.int _ _⟩)) (jo ho hq) ⟨rfl,rfl⟩
theorem OC(n:Nat)(w:WS)(kv:Int):Fz (.agg (o7 n w kv).1):=by
 unfold o7
 split
 ·exact OB
 ·exact sP _
theorem OD(o1 o2 o3:Ob)(ho:KI o1 o2 o3)(bw bl:Nat)(bs:Option Nat)(n:Nat)(w:WS)(hb:∀k,k<n->(w.c k).eZ.length<=1600/\(w.c k).held.length<=1600)(qb:Nat->Option Nat)(qp:Nat->List (List V))(hq:kI qp)(kv:Int):
  Spec Tryz.prog 22 [.ptr 960 (some bw) 4 0 0,qI kv] (b7 (kb o1 o2 o3 bw bl bs n w.pu w.ed (jQ n w.c qb qp w.u) (wQ qb qp w.u))) λv h'=>∃a,(v=.tup [.agg (o7 n w kv).1,qI (o7 n w kv).2]/\a=kb o1 o2 o3 bw bl bs n w.pu w.ed (jQ n w.c qb qp w.u) (wQ qb qp w.u))/\h'=b7 a:=by
 refine fe gY Oz (L:=kb o1 o2 o3 bw bl bs n w.pu w.ed (jQ n w.c qb qp w.u) (wQ qb qp w.u)) (λv a=>v=.tup [.agg (o7 n w kv).1,qI (o7 n w kv).2]/\a=kb o1 o2 o3 bw bl bs n w.pu w.ed (jQ n w.c qb qp w.u) (wQ qb qp w.u)) λR b=>?_;refine OA ca rfl _ _ o1 o2 o3 bw bl bs n w _ _ _ _ qb qp rfl kv hb R ?_;intro s s' cv e h1 h2 he hr ha;have ht:cv=(o7 n w kv).1/\e=(o7 n w kv).2:=by
  unfold o7
  split
  ·rename_i h;exact h1 h
  ·rename_i h;exact h2 h
 obtain⟨rfl,rfl⟩:=ht;exact b s s' (.tup [.agg (o7 n w kv).1,qI (o7 n w kv).2]) _ he (eS _ _ _ (λx hx=>by rw[hx];rfl) hr) ha (.tup _ (by simp;exact⟨OC n w kv,.int _ _⟩)) (jo ho hq) ⟨rfl,rfl⟩
structure Ux(h:Hp)(o1 o2 o3:Ob)(bw bl:Nat)(bs:Option Nat)(n:Nat)(pu ed:Int)(gW:List (List V))(Q:Nat->Ob)(w:WS)(d:SC)(l:List eX)(nt:im)(iE:List BS)(ba:Option Nat)(bm:Nat)(qb:Nat->Option Nat)(qp:Nat->List (List V)):Prop where
 H:jZ n d l nt iE w
 hn:n<=4
 e1:o1=sN bl d ba l bm
 e2:o2=sO ba l
 e3:o3=iL bm none
 e4:pu=w.pu
 e5:ed=w.ed
 e6:gW=jQ n w.c qb qp w.u
 e7:Q=wQ qb qp w.u
 hq:kI qp
 hw:HW h o1 o2 o3 bw bl bs n pu ed gW Q
def Lc(T:cp):Prop:=∀(o1 o2 o3:Ob)(bw bl:Nat)(bs:Option Nat)(n:Nat)(pu ed:Int)(gW:List (List V))(Q:Nat->Ob)(w:WS)(d:SC)(l:List eX)(nt:im)(iE:List BS)(ba:Option Nat)(bm:Nat)(qb:Nat->Option Nat)(qp:Nat->List (List V))(h:Hp)(K:V->Hp->Prop),Ux h o1 o2 o3 bw bl bs n pu ed gW Q w d l nt iE ba bm qb qp->(∀b,b=lE n l w->K (.bool b) h)->T 18 [.ptr 960 (some bw) 4 0 0] h K
theorem R6:Lc (fj Tryz.prog):=by
 rintro o1 o2 o3 bw bl bs n pu ed gW Q w d l nt iE ba bm qb qp h K ⟨H,hn,rfl,rfl,rfl,rfl,rfl,rfl,rfl,hq,hw⟩ hK;exact Ck KJ (K9 H hn bl ba bm bw bs qb qp hq) (jE _) rfl nq (λp hp=>⟨hw.all p hp,jo (lD _ _ _ _ _) hq p hp⟩) (hK _ rfl)
def Ld(T:cp):Prop:=∀(o1 o2 o3:Ob)(bw bl:Nat)(bs:Option Nat)(n:Nat)(pu ed:Int)(gW:List (List V))(Q:Nat->Ob)(w:WS)(d:SC)(l:List eX)(nt:im)(iE:List BS)(ba:Option Nat)(bm:Nat)(qb:Nat->Option Nat)(qp:Nat->List (List V))(lr:List (List V))(h:Hp)(K:V->Hp->Prop),Ux h o1 o2 o3 bw bl bs n pu ed gW Q w d l nt iE ba bm qb qp->lr=l.map a8->K (.sl false 3 lr) h->T 21 [.ptr 960 (some bw) 4 0 0] h K
theorem R7:Ld (fj Tryz.prog):=by
 rintro o1 o2 o3 bw bl bs n pu ed gW Q w d l nt iE ba bm qb qp lr h K ⟨H,hn,rfl,rfl,rfl,rfl,rfl,rfl,rfl,hq,hw⟩ rfl hK;exact Ck KJ (La H bl ba bm bw bs qb qp hq) (jE _) rfl nq (λp hp=>⟨hw.all p hp,jo (lD _ _ _ _ _) hq p hp⟩) hK
def Le(T:cp):Prop:=∀(o1 o2 o3:Ob)(bw bl:Nat)(bs:Option Nat)(n:Nat)(pu ed:Int)(gW:List (List V))(Q:Nat->Ob)(w:WS)(d:SC)(l:List eX)(nt:im)(iE:List BS)(ba:Option Nat)(bm:Nat)(qb:Nat->Option Nat)(qp:Nat->List (List V))(kv:Int)(h:Hp)(K:V->Hp->Prop),Ux h o1 o2 o3 bw bl bs n pu ed gW Q w d l nt iE ba bm qb qp->(∀t e,(t,e)=m4 n w kv->K (.tup [.str t,qI e]) h)->T 23 [.ptr 960 (some bw) 4 0 0,qI kv] h K
theorem R8:Le (fa Tryz.prog):=by
 rintro o1 o2 o3 bw bl bs n pu ed gW Q w d l nt iE ba bm qb qp kv h K ⟨H,hn,rfl,rfl,rfl,rfl,rfl,rfl,rfl,hq,hw⟩ hK;exact KG KJ (Lb _ _ _ (lD _ _ _ _ _) bw bl bs n w qb qp hq kv) (jE _) rfl nq qD (λp hp=>⟨hw.all p hp,jo (lD _ _ _ _ _) hq p hp⟩) (hK _ _ rfl)
def PB(T:cp):Prop:=∀(o1 o2 o3:Ob)(bw bl:Nat)(bs:Option Nat)(n:Nat)(pu ed:Int)(gW:List (List V))(Q:Nat->Ob)(w:WS)(d:SC)(l:List eX)(nt:im)(iE:List BS)(ba:Option Nat)(bm:Nat)(qb:Nat->Option Nat)(qp:Nat->List (List V))(kv:Int)(h:Hp)(K:V->Hp->Prop),Ux h o1 o2 o3 bw bl bs n pu ed gW Q w d l nt iE ba bm qb qp->(∀t e,(t,e)=o7 n w kv->K (.tup [.agg t,qI e]) h)->T 22 [.ptr 960 (some bw) 4 0 0,qI kv] h K
theorem Uy:PB (fa Tryz.prog):=by
 rintro o1 o2 o3 bw bl bs n pu ed gW Q w d l nt iE ba bm qb qp kv h K ⟨H,hn,rfl,rfl,rfl,rfl,rfl,rfl,rfl,hq,hw⟩ hK;exact KG KJ (OD _ _ _ (lD _ _ _ _ _) bw bl bs n w (λk hk=>⟨(H.fact hk).sn,(H.fact hk).hl⟩) qb qp hq kv) (jE _) rfl nq qD (λp hp=>⟨hw.all p hp,jo (lD _ _ _ _ _) hq p hp⟩) (hK _ _ rfl)
def Wk(v v':V):Prop:=∀(F B:Nat->Prop)(w:World)(u:Value),Rel F B w v u->Rel F B w v' u
theorem Wk.refl(v:V):Wk v v:=λ_ _ _ _ h=>h
theorem Wk.D0(k sz:Nat):Wk .nilsl (.own k none sz 0):=λ_ _ _ _ h=>by cases h;exact .ownnil _ _
theorem Wk.D1(k sz:Nat):Wk .nilsl (.win k none sz 0 0):=λ_ _ _ _ h=>by cases h;exact .winemp _ _ _ _ _
theorem Wk.yG(sz:Nat):Wk .nilsl (.sl false sz []):=λ_ _ _ _ h=>by cases h;exact .slnil _ _
inductive F2:List V->List V->Prop
 |nil:F2 [] []
 |cons {v v' l l'} (a:Wk v v') (b:F2 l l'):F2 (v::l) (v'::l')
theorem F2.len:∀{l l':List V},F2 l l'->l'.length=l.length
 |_,_,.nil=>rfl
 |_,_,.cons _ b=>by simp[b.len]
theorem F2.at:∀{l l':List V},F2 l l'->∀(j:Nat)(v v':V),l[j]? =some v->l'[j]? =some v'->Wk v v'
 |_,_,.nil,j,v,v',h,_=>by simp at h
 |_,_,.cons a b,0,v,v',h,h'=>by simp at h h';subst h h';exact a
 |_,_,.cons a b,j+1,v,v',h,h'=>b.at j v v' (by simpa using h) (by simpa using h')
theorem a7.Uz{s:S}{k ty sz:Nat}{b:Option Nat}{rows rows':List (List V)}(hk:s.h k=some ⟨b,ty,sz,rows⟩)(hl:rows'.length=rows.length)(hr:∀(i:Nat)(r r':List V),rows[i]? =some r->rows'[i]? =some r'->F2 r r'):a7 s ⟨s.t,Hp.put s.h k ⟨b,ty,sz,rows'⟩⟩:=by
 intro C n a w E hs;obtain⟨F,h1,h2⟩:=hs.ex;have look:∀j q,Hp.put s.h k ⟨b,ty,sz,rows'⟩ j=some q->∃p,s.h j=some p/\p.b=q.b/\(fy F C.B w p->fy F C.B w q):=by
  intro j q hj;simp only[Hp.put] at hj
  by_cases h:j=k
  ·rw[ae h] at hj;cases hj;subst h;refine⟨_,hk,rfl,λho=>?_⟩;unfold fy at ho⊢;cases b with
   |none=>
    have ho:rows=[]:=ho;subst ho;exact aq hl
   |some b=>
    obtain⟨c,cap,g1,g2,g3,g4,g5,g6⟩:=ho;have rowAt:∀(i:Nat)(r':List V),rows'[i]? =some r'->∃r,rows[i]? =some r/\F2 r r':=by
     intro i r' hi;have hlt:=(ah.1 hi).1;have hi2:rows[i]? =some (rows[i]'qW):=af qW;exact⟨_,hi2,hr i _ r' hi2 hi⟩
    refine⟨c,cap,g1,g2,g3,by show rows'.length<=cap;rw[hl];exact g4,λr' e=>?_,λi j r' v' hi hj=>?_⟩
    ·obtain⟨i,hi⟩:=cP.1 (show r'∈rows' from e);obtain⟨r,h3,h4⟩:=rowAt i r' hi;rw[h4.len];exact g5 r (az h3)
    ·obtain⟨r,h3,h4⟩:=rowAt i r' hi;have f:=(ah.1 hj).1;have d:r[j]? =some (r[j]'(by rw[<-h4.len];exact f)):=af _;obtain⟨u,k1,k2,y⟩:=g6 i j r _ h3 d;exact⟨u,k1,k2,h4.at j _ v' d hj _ _ _ _ y⟩
  ·rw[aa h] at hj;exact⟨q,hj,rfl,id⟩
 refine⟨⟨F,⟨λj q hj=>?_,λj x q z b' hj g hb l=>?_,λj q b' hj hb=>?_,h1.jq,h1.new,h1.lt,h1.ev⟩,λj=>h2 j⟩,hs.df,hs.sz⟩
 ·obtain⟨p,p1,p2,m⟩:=look j q hj;exact m (h1.ob j p p1)
 ·obtain⟨p,p1,p2,m⟩:=look j q hj;obtain⟨A,o,v,D⟩:=look x z g;exact h1.inj j x p A b' p1 o (p2.trans hb) (v.trans l)
 ·obtain⟨p,p1,p2,m⟩:=look j q hj;exact h1.live j p b' p1 (p2.trans hb)
def Vg(j:Nat):List V:=[.int .i64 (j:Int),.int .i64 0,.int .i64 0,.str [],.bool false,.nilsl,.bool false,.nilsl,.nilsl,.int .i64 0]
structure YO(n:Nat) where
 i:Nat
 k:Int
 b:Option Nat
 m:Nat
 rows:List (List V)
 hi:i<=n
 hk:k=(i:Int)
 hm:m=i
 hr:rows=(List.range i).map Vg
def D2:AC:=qr [qo 2 (.mov (.c (.pointer none))),qz 3 0] (qq (qr [qm 6 0,qc 7 .lss 6 1,qm 8 7,qg 9 8 false (.mov (.t 0)),qg 10 8 false (.bin .gtr (.t 9) (qk 4)),qo 11 (.pick (.t 8) (.c (.bool true)) (.t 10))] (qu 11 (qr [qo 2 (.mov (.c (.pointer none))),qz 3 1] .ret) .skip)) (qr [qa 12 5 [],qo 13 (.build [(.pointer none),(.slice none 0 0),q0,q0] [(0,1,(.t 12))]),qo 14 (.box 107 4 (.t 13)),qm 4 14] (qq (qr [qm 15 0,qz 16 0] (.block 0 (.loop (qr [qb 17 .lss 16 15] (qq (qu 17 .skip (.exit 0)) (qq (.block 1 (qr [qm 18 16,qm 5 18] (qR [qm 19 4,qm 20 4,qn 21 20,qf 22 1 21,ql 23 22,qm 24 5,qo 25 (.build iY [(0,1,(.t 24))]),qo 26 (.build Sx [(0,8,(.t 25))]),qo 27 (.bslice 110 10 [.t 26]),qo 28 (.append 110 10 136 (.t 23) (.t 27)),qn 29 19,qf 30 1 29,qs 1 30 28]))) (qR [qc 31 .add 16 1,qm 16 31]))))))) (qr [qm 32 4,qm 2 32,qz 3 0] .ret))))
theorem OE:fo Tryz.prog 9 Tryz.f9 D2 [.t 2,.t 3] 1 eV:=⟨Tryz.func9,by decide+kernel,by kernel_rfl,by kernel_rfl,by decide+kernel⟩
theorem OF(P:Prim)(hP:P=ca)(T l:cp)(e:O8 T)(a:Int)
  (R:S->Prop)(hF:∀s s',(a<1\/4<a)->a7 s s'->hX [.t 2,.t 3] [.nil,qI 1] s'->R s)
  (o:∀(s s':S)(bl bw:Nat)(bs:Option Nat)(d:SC)(n:Nat),a=(n:Int)->1<=n/\n<=4->d=kL->a7 s s'->hX [.t 2,.t 3] [.ptr 960 (some bw) 4 0 0,qI 0] s'->fh (kb (sN bl d none [] 0) (sO none []) (iL 0 none) bw bl bs n 0 0 (jQ n sG (λ_=>none) (λ_=>[]) (λ_=>[])) (wQ (λ_=>none) (λ_=>[]) (λ_=>[]))) s'->R s):
  fX P T l D2 (S0 [qI a] Hp.emp) R (λ_ _=>False) R:=by
 cbv;refine ab (λg=>?_) (λg=>?_)
 ·have g1:a<1:=fA hP g;cbv;exact hF _ _ (.inl g1) (a7.refl _) rfl
 have g1:¬a<1:=fg hP g;cbv;refine ab (λg=>?_) (λg=>?_)
 ·have g2:4<a:=fA hP g;cbv;exact hF _ _ (.inr g2) (a7.refl _) rfl
 have g2:¬4<a:=fg hP g;obtain⟨n,f⟩:∃n:Nat,a=(n:Int):=⟨a.toNat,qO⟩;have hn:1<=n/\n<=4:=by constructor<;>((try simp only[nc] at*);omega)
 cbv;refine e 900 1000900 _ _ rfl rfl rfl rfl λbl d hd=>?_;cbv
 repeat'(first
  |(refine qA ?_;cbv)
  |(intro c;cbv)
  |fail)
 refine⟨YO n,λy=>[(4,.ptr 14 (some c) 4 0 0),(15,qI a),(16,qI y.k)],λy=>[(900,sN bl d none [] 0),(1000900,sO none []),(14,⟨some c,107,4,[[.ptr 900 (some bl) 47 0 0,.own 1000028 y.b 10 y.m,qI 0,qI 0]]⟩),(1000028,Cl y.b y.rows)],λy=>n-y.i,
  ⟨_,(a7.Uz (k:=14) (b:=some c) (ty:=107) (sz:=4) (rows:=[[.ptr 900 (some bl) 47 0 0,.nilsl,qI 0,qI 0]]) (rows':=[[.ptr 900 (some bl) 47 0 0,.own 1000028 none 10 0,qI 0,qI 0]]) rfl rfl (λi r r' h1 h2=>?_)).trans (a7.mG _ 1000028 110 10),⟨0,0,none,0,[],bd _,rfl,rfl,rfl⟩,⟨rfl,rfl,rfl,trivial⟩,⟨rfl,rfl,rfl,rfl,trivial⟩⟩,?_⟩
 ·cases i with
  |zero=>
   simp only[bq,aH] at h1 h2;subst h1 h2;exact .cons (.refl _) (.cons (.D0 _ _) (.cons (.refl _) (.cons (.refl _) .nil)))
  |succ i=>simp at h1
 rintro⟨i,k,b,m,rows,hi,hk,hm,hr⟩;cbv;refine ab (λg=>?_) (λg=>?_)
 ·have g3:k<a:=fA hP g;have hk:k=(i:Int):=hk;have hm:m=i:=hm;have hr:rows=(List.range i).map Vg:=hr;have w:P.i64 (P.add k 1):=by rw[add_eq hP];exact ft hP qO
  have p:P.add k 1=((i+1:Nat):Int):=by rw[add_eq hP,hk];simp
  have hne:P.oc rows m:=by subst hP;show rows.length=m;rw[hr,hm];simp
  have q:P.oc [[qI k,qI 0,qI 0,.str [],.bool false,.nilsl,.bool false,.nilsl,.nilsl,qI 0]] 1:=by subst hP;rfl
  have u:P.bytes (P.add (P.int m) (P.da [[qI k,qI 0,qI 0,.str [],.bool false,.nilsl,.bool false,.nilsl,.nilsl,qI 0]])) 136:=by subst hP;show((m:Int)+1)*136<=_;((try simp only[nc] at*);omega)
  have q7:P.jf m (P.gp [[qI k,qI 0,qI 0,.str [],.bool false,.nilsl,.bool false,.nilsl,.nilsl,qI 0]])=i+1:=by subst hP;show m+1=i+1;rw[hm]
  have h:P.je rows [[qI k,qI 0,qI 0,.str [],.bool false,.nilsl,.bool false,.nilsl,.nilsl,qI 0]]=(List.range (i+1)).map Vg:=by
   subst hP;show rows++[_]=_;rw[hr,List.range_succ,bW,hk];rfl
  cbv
  repeat'(first
   |(refine qA ?_;cbv)
   |(intro v;cbv)
   |fail)
  exact⟨_,a7.refl _,⟨i+1,_,_,_,_,qO,p,q7,h⟩,⟨rfl,rfl,rfl,trivial⟩,⟨rfl,rfl,rfl,rfl,trivial⟩,by show n-(i+1)<n-i;((try simp only[nc] at*);omega)⟩
 ·have g3:¬k<a:=fg hP g;have hk:k=(i:Int):=hk;have hi:i<=n:=hi;have hm:m=i:=hm;have hr:rows=(List.range i).map Vg:=hr;have jF:i=n:=by((try simp only[nc] at*);omega)
  subst jF;cbv;have hw:∀(j:Nat)(r r':List V),rows[j]? =some r->(jQ i sG (λ_=>none) (λ_=>[]) (λ_=>[]))[j]? =some r'->F2 r r':=by
   intro j r r' h1 h2;rw[hr] at h1;unfold jQ at h2;rw[av] at h1 h2;cases hj:(List.range i)[j]? with
   |none=>rw[hj] at h1;cases h1
   |some z=>
    rw[hj] at h1 h2;cases h1;cases h2;exact .cons (.refl _) (.cons (.refl _) (.cons (.refl _) (.cons (.refl _) (.cons (.refl _) (.cons (.yG _) (.cons (.refl _) (.cons (.yG _) (.cons (.D1 _ _) (.cons (.refl _) .nil)))))))))
  have hl:(jQ i sG (λ_=>none) (λ_=>[]) (λ_=>[])).length=rows.length:=by rw[hr];unfold jQ;simp
  refine o _ _ bl c b d i f hn hd ((a7.Uz (k:=1000028) (b:=b) (ty:=110) (sz:=10) (rows:=rows) rfl hl hw).trans (((((a7.mG _ 901 133 3).trans (a7.mG _ 1000970 95 4)).trans (a7.mG _ 1000971 95 4)).trans (a7.mG _ 1000972 95 4)).trans ((a7.mG _ 1000973 95 4).trans (a7.Uk [(900,900,sN bl d none [] 0),(1000900,1000900,sO none []),(901,901,iL 0 none),(960,14,FG c bl b i 0 0),(1000960,1000028,Cl b (jQ i sG (λ_=>none) (λ_=>[]) (λ_=>[]))),(1000970,1000970,pT none []),(1000971,1000971,pT none []),(1000972,1000972,pT none []),(1000973,1000973,pT none [])] (λz=>if z=2 then .ptr 960 (some c) 4 0 0 else if z=3 then qI 0 else .gS) (λz=>?_) (by show([900,1000900,901,14,1000028,1000970,1000971,1000972,1000973]:List Nat).Nodup;decide) ⟨⟨_,rfl,rfl,rfl⟩,⟨_,rfl,rfl,rfl⟩,⟨_,rfl,rfl,rfl⟩,⟨_,rfl,rfl,by rw[hm];rfl⟩,⟨_,rfl,rfl,rfl⟩,⟨_,rfl,rfl,rfl⟩,⟨_,rfl,rfl,rfl⟩,⟨_,rfl,rfl,rfl⟩,⟨_,rfl,rfl,rfl⟩,trivial⟩)))) rfl ⟨rfl,rfl,rfl,rfl,rfl,rfl,rfl,rfl,rfl,trivial⟩
  by_cases h2:z=2
  ·subst h2;exact .inl rfl
  ·by_cases h3:z=3
   ·subst h3;exact .inl rfl
   ·right;simp only[aa h2,aa h3]
def Lf(a:Int)(v:V)(b:List (Nat×Ob)):Prop:=((a<1\/4<a)/\v=.tup [.nil,.int .i64 1]/\b=[])\/∃(bl bw:Nat)(bs:Option Nat)(n:Nat),a=(n:Int)/\(1<=n/\n<=4)/\v=.tup [.ptr 960 (some bw) 4 0 0,.int .i64 0]/\b=kb (sN bl kL none [] 0) (sO none []) (iL 0 none) bw bl bs n 0 0 (jQ n sG (λ_=>none) (λ_=>[]) (λ_=>[])) (wQ (λ_=>none) (λ_=>[]) (λ_=>[]))
theorem uN:kI (λ_=>[]):=λj r hr=>by cases hr
theorem D3(a:Int):Spec Tryz.prog 9 [qI a] (b7 []) λv h'=>∃c,Lf a v c/\h'=b7 c:=by
 refine fe gY OE (L:=[]) (Lf a) λR e=>?_;refine OF ca rfl _ _ Tb a R ?_ ?_
 ·intro s s' hb he hr;exact e s s' (.tup [.nil,qI 1]) [] he (eS _ _ _ (λx hx=>by rw[hx];rfl) hr) trivial (.tup _ (by simp;exact⟨.nil,.int _ _⟩)) (λp hp=>by cases hp) (.inl ⟨hb,rfl,rfl⟩)
 ·rintro s s' bl bw bs d n hn b rfl he hr ha;exact e s s' (.tup [.ptr 960 (some bw) 4 0 0,qI 0]) _ he (eS _ _ _ (λx hx=>by rw[hx];rfl) hr) ha (.tup _ (by simp;exact⟨.ptr _ _ _ _ _,.int _ _⟩)) (jo (lD _ _ _ _ _) uN) (.inr ⟨bl,bw,bs,n,hn,b,rfl,rfl⟩)
def PC(T:cp):Prop:=∀(a:Int)(h:Hp)(K:V->Hp->Prop),((a<1\/4<a)->K (.tup [.nil,qI 1]) h)->(∀(bl bw:Nat)(bs:Option Nat)(n:Nat)(o1 o2 o3:Ob)(pu ed:Int)(gW:List (List V))(Q:Nat->Ob),a=(n:Int)->(1<=n/\n<=4)->o1=sN bl kL none [] 0->o2=sO none []->o3=iL 0 none->pu=0->ed=0->gW=jQ n sG (λ_=>none) (λ_=>[]) (λ_=>[])->Q=wQ (λ_=>none) (λ_=>[]) (λ_=>[])->K (.tup [.ptr 960 (some bw) 4 0 0,qI 0]) (h.e9 (kb o1 o2 o3 bw bl bs n pu ed gW Q)))->T 9 [qI a] h K
theorem UA:PC (fa Tryz.prog):=by
 intro g h K hb hg
 by_cases hn:g<1\/4<g
 ·refine oe (m:=[]) (D3 g) (.cons (.same _) .nil) (λk o hk=>by cases hk) (λq hq=>by cases hq) ?_;rintro v f (⟨_,rfl,rfl⟩|⟨bl,bw,bs,n,h1,h2,_⟩)
  ·exact hb hn
  ·omega
 ·refine vJ (wK KJ) (post:=λv f=>∃(bl bw:Nat)(bs:Option Nat)(n:Nat),g=(n:Int)/\(1<=n/\n<=4)/\v=.tup [.ptr 960 (some bw) 4 0 0,.int .i64 0]/\f=kb (sN bl kL none [] 0) (sO none []) (iL 0 none) bw bl bs n 0 0 (jQ n sG (λ_=>none) (λ_=>[]) (λ_=>[])) (wQ (λ_=>none) (λ_=>[]) (λ_=>[]))) (L:=[]) ?_ (jE _) (by rw[m0];exact nq) (by rw[uL];exact nq) qD (λp hp=>by cases hp) (λp hp=>by cases hp) ?_ ?_
  ·have hs:=D3 g;refine⟨hs.fn,λC us a b c d=>(hs.run C us a b c d).mono ?_⟩;rintro e w' ⟨u,v,h',F',e1,e2,e3,f,hp,rfl⟩;refine⟨u,v,_,F',e1,e2,e3,f,?_,rfl⟩
   rcases hp with⟨hh,_⟩|hh
   ·exact absurd hh hn
   ·exact hh
  ·rintro v f ⟨bl,bw,bs,n,h1,h2,rfl,rfl⟩;rw[m0];rfl
  ·rintro v f ⟨bl,bw,bs,n,h1,h2,rfl,rfl⟩;rw[n9,V.mK];have:(Ob.gA λk=>k)=λo=>o:=funext Ob.mK;rw[this,uK (ks:=KJ) rfl];exact hg bl bw bs n _ _ _ _ _ _ _ h1 h2 rfl rfl rfl rfl rfl rfl rfl
def Lg(bw br:Nat)(bc gv:Option Nat)(n:Nat)(pu ed:Int):Ob:=⟨some bw,62,5,[[.ptr 930 (some br) 31 0 0,.own 1000961 bc 8 n,.own 1000962 gv 1 n,.int .i64 pu,.int .i64 ed]]⟩
def FJ(bc:Option Nat)(cs:List (List V)):Ob:=⟨bc,64,8,cs⟩
def FK(gv:Option Nat)(ws:List (List V)):Ob:=⟨gv,108,1,ws⟩
def l5(o1:Ob)(bw br:Nat)(bc gv:Option Nat)(n:Nat)(pu ed:Int)(cs ws:List (List V))(Q:Nat->Ob):List (Nat×Ob):=
 [(930,o1),(961,Lg bw br bc gv n pu ed),(1000961,FJ bc cs),(1000962,FK gv ws),(1000980,Q 0),(1000981,Q 1),(1000982,Q 2),(1000983,Q 3)]
def wi:AC:=qr [qm 5 0,qn 6 5,qf 7 1 6,ql 8 7,qm 9 1,qo 10 (.iaddr 8 (.t 8) (.t 9)),qd 11 8 10,qo 4 (.alloc 64 iY),qs 8 4 11] (.kO [(qm 12 0,[]),(qn 13 12,[0]),(qf 14 2 13,[1]),(ql 15 14,[2]),(qm 16 1,[]),(qm 17 0,[]),(qn 18 17,[5]),(qf 19 2 18,[6]),(ql 20 19,[7]),(qm 21 1,[]),(qo 22 (.iaddr 1 (.t 20) (.t 21)),[8,9]),(ql 23 22,[10]),(qf 24 1 4,[]),(ql 25 24,[12]),(qf 26 0 4,[]),(ql 27 26,[14]),(qf 28 2 4,[]),(ql 29 28,[16]),(qf 30 5 4,[]),(ql 31 30,[18]),(qo 32 (.build OL [(0,1,(.t 25)),(1,1,(.t 27)),(2,1,(.t 29)),(3,1,(.t 31))]),[13,15,17,19]),(qo 33 (.bslice 95 4 [.t 32]),[20]),(qo 34 (.append 95 4 48 (.t 23) (.t 33)),[11,21]),(qo 35 (.iaddr 1 (.t 15) (.t 16)),[3,4,0,1,2,3,4,5,6,7,8,9,10,11,12,13,14,15,16,17,18,19,20,21,22]),(qs 1 35 34,[23,22,22,0,1,2,3,4,5,6,7,8,9,10,11,12,13,14,15,16,17,18,19,20,21,22])])
theorem Lh:fo Tryz.prog 62 Tryz.f62 wi [] 2 eV:=⟨Tryz.func62,by decide+kernel,by kernel_rfl,by kernel_rfl,by decide+kernel⟩
def A6:List (Nat×yD):=[(12,FF [0,1,2,4,5,6,7,8,9,10,11,12,13,14,15,16,17,18,19,20] (.alt 3 (FF [21,22,23,24] .nil) (.alt 21 (.alt 3 (FF [22,23,24] .nil) (.alt 22 (FF [3,23,24] .nil) .nil)) .nil)))]
theorem FL:oz A6 wi=true:=by decide+kernel
theorem Li(P:Prim)(hP:P=ca)(T f:cp)(g:jt T)(c:jt f)(o1:Ob)(bw br:Nat)(bc gv:Option Nat)(n:Nat)(pu ed:Int)(cs ws:List (List V))(Q:Nat->Ob)(i:Nat)(hi:i<4)(k:Int)(b:Option Nat)(d:List (List V))(lo:Int)
  (w r q:Int)(tx:BS)(fl:Bool)(sr:List (List V))(wt:Bool)(hr:List (List V))(a:P.row cs (P.nat k) (qT w r q tx fl sr wt hr))(e:P.row ws (P.nat k) [.win (1000980+i) b 4 lo lo])
  (q1:P.fQ 0 k)(q2:P.iw k (P.int n))(h:P.da d=lo)
  (R:S->Prop)(j:∀(s s':S)(β:Option Nat)(pre o8:List (List V)),pre=d\/pre=[]->o8=P.mf ws (P.nat k) [.win (1000980+i) β 4 (P.da pre) (P.add (P.da pre) (P.da [[qI r,qI w,qI q,.sl false 3 sr]]))]->
   a7 s s'->hX [] [] s'->fh (l5 o1 bw br bc gv n pu ed cs o8 (fu Q i (pT β (P.je pre [[qI r,qI w,qI q,.sl false 3 sr]])))) s'->R s):
  fX P T f wi (S0 [.ptr 961 (some bw) 5 0 0,qI k] (b7 (l5 o1 bw br bc gv n pu ed cs ws (fu Q i (pT b d))))) R (λ_ _=>False) R:=by
 have hb:P.bytes (P.da [[qI r,qI w,qI q,.sl false 3 sr]]) 48:=by subst hP;show((1:Nat):Int)*48<=_;decide
 have hne:P.oc [[qI r,qI w,qI q,.sl false 3 sr]] 1:=by subst hP;rfl
 refine sM hP g c A6 FL ?_;obtain rfl|rfl|rfl|rfl:i=0\/i=1\/i=2\/i=3:=by omega
 all_goals
  cbv
  repeat'(first
  |(refine qA ?_;cbv)
  |(intro l;cbv)
  |(refine⟨_,a,?_⟩;cbv)
  |(refine⟨_,e,?_⟩;cbv)
  |(refine y3.mk ?_ ?_;cbv)
  |exact trivial)
  all_goals exact j _ _ _ _ _ (by assumption) rfl (a7.refl _) rfl ⟨rfl,rfl,rfl,rfl,rfl,rfl,rfl,rfl,trivial⟩
end Go.Proofs.YtobngncjflogcaaGreat.AM
