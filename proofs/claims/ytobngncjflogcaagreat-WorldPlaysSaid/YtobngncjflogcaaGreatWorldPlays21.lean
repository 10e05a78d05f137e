/-
  Part 21 of what the law WorldPlays reaches: the plain machine, contracts of the functions and plain laws; each lemma says its own condition.
-/
import Derived.Test.YtobngncjflogcaaGreatWorldPlays20
import Derived.Test.YtobngncjflogcaaGreatWorldPlays16
import Derived.Test.YtobngncjflogcaaGreatWorldPlays19
set_option linter.unusedVariables false
set_option linter.unusedSimpArgs false
namespace Go.Proofs.YtobngncjflogcaaGreat.AM
open Go Go.RowKit
set_option maxRecDepth 100000
set_option maxHeartbeats 2000000
def mL(n:Nat)(c:Nat->Client):List (List V):=(List.range n).map λj=>ef (c j)
def FM(qb:Nat->Option Nat)(qp:Nat->List (List V))(u:Nat->List od)(j:Nat):V:=.win (1000980+j) (qb j) 4 ((qp j).length:Int) (((qp j).length:Int)+((u j).length:Int))
def mM(n:Nat)(qb:Nat->Option Nat)(qp:Nat->List (List V))(u:Nat->List od):List (List V):=(List.range n).map λj=>[FM qb qp u j]
def yH(br:Nat)(dr:im)(tx:List BS)(l:List eX):Ob:=fV br dr (.sl false 1 (ds tx)) (.sl false 3 (l.map a8))
theorem lN{br:Nat}{dr:im}{tx:List BS}{l:List eX}:(yH br dr tx l).Fz:=l1 (jl _) (fW _)
theorem lg{o1:Ob}(ho:o1.Fz){bw br:Nat}{bc gv:Option Nat}{n:Nat}{pu ed:Int}{c:Nat->Client}{qb:Nat->Option Nat}{qp:Nat->List (List V)}{u:Nat->List od}(hq:kI qp):∀p∈l5 o1 bw br bc gv n pu ed (mL n c) (mM n qb qp u) (wQ qb qp u),p.2.Fz:=by
 intro p hp;simp only[l5,ax,aF,bj] at hp
 rcases hp with rfl|rfl|rfl|rfl|rfl|rfl|rfl|rfl
 ·exact ho
 ·intro r hr v hv;rw[aw.1 hr] at hv;simp only[ax,aF,bj] at hv
  rcases hv with rfl|rfl|rfl|rfl|rfl
  ·exact .ptr _ _ _ _ _
  ·exact .own _ _ _ _
  ·exact .own _ _ _ _
  ·exact .int _ _
  ·exact .int _ _
 ·intro r hr v hv;obtain⟨j,_,rfl⟩:=aC.1 hr;have:=sP (c j);cases this with|agg _ h=>exact h v hv
 ·intro r hr v hv;obtain⟨j,_,rfl⟩:=aC.1 hr;rw[aw.1 hv];exact .win _ _ _ _ _
 all_goals exact Pw hq _
def PD:List Nat:=[930,961,1000961,1000962,1000980,1000981,1000982,1000983]
theorem qU:PD.Nodup:=by decide
structure HR(h:Hp)(o1:Ob)(bw br:Nat)(bc gv:Option Nat)(n:Nat)(pu ed:Int)(cs ws:List (List V))(Q:Nat->Ob):Prop where
 h1:h 930=some o1
 h2:h 961=some (Lg bw br bc gv n pu ed)
 h3:h 1000961=some (FJ bc cs)
 h4:h 1000962=some (FK gv ws)
 h6:h 1000980=some (Q 0)
 h7:h 1000981=some (Q 1)
 h8:h 1000982=some (Q 2)
 h9:h 1000983=some (Q 3)
theorem HR.all{h:Hp}{o1:Ob}{bw br:Nat}{bc gv:Option Nat}{n:Nat}{pu ed:Int}{cs ws:List (List V)}{Q:Nat->Ob}(H:HR h o1 bw br bc gv n pu ed cs ws Q):∀p∈l5 o1 bw br bc gv n pu ed cs ws Q,h p.1=some p.2:=by
 intro p hp;simp only[l5,ax,aF,bj] at hp
 rcases hp with rfl|rfl|rfl|rfl|rfl|rfl|rfl|rfl
 ·exact H.h1
 ·exact H.h2
 ·exact H.h3
 ·exact H.h4
 ·exact H.h6
 ·exact H.h7
 ·exact H.h8
 ·exact H.h9
theorem Lj(o1:Ob)(ho:o1.Fz)(bw br:Nat)(bc gv:Option Nat)(n:Nat)(pu ed:Int)(c:Nat->Client)(qb:Nat->Option Nat)(qp:Nat->List (List V))(u:Nat->List od)(hq:kI qp)(k:Nat)(hk:k<n)(hn:n<=4)(hu:u k=[]):
  Spec Tryz.prog 62 [.ptr 961 (some bw) 5 0 0,qI (k:Int)] (b7 (l5 o1 bw br bc gv n pu ed (mL n c) (mM n qb qp u) (wQ qb qp u))) λv h'=>∃h,(∃b a,v=.tup []/\kI a/\h=l5 o1 bw br bc gv n pu ed (mL n c) (mM n b a (fu u k [il (c k)])) (wQ b a (fu u k [il (c k)])))/\h'=b7 h:=by
 refine fe gY Lh (L:=l5 o1 bw br bc gv n pu ed (mL n c) (mM n qb qp u) (wQ qb qp u)) (λv h=>∃b a,v=.tup []/\kI a/\h=l5 o1 bw br bc gv n pu ed (mL n c) (mM n b a (fu u k [il (c k)])) (wQ b a (fu u k [il (c k)]))) λR o=>?_;have p:fu (wQ qb qp u) k (pT (qb k) (qp k))=wQ qb qp u:=by
  have:pT (qb k) (qp k)=wQ qb qp u k:=by unfold wQ;rw[hu,cJ,aJ]
  rw[this,kJ]
 rw[<-p];refine Li ca rfl _ _ n7 mZ o1 bw br bc gv n pu ed _ _ (wQ qb qp u) k qW k (qb k) (qp k) ((qp k).length:Int) (c k).who (c k).rev (c k).seq (c k).text (c k).eT ((c k).eZ.map a6) (c k).waiting ((c k).held.map a6) (hO (P:=ca) rfl (kv:=(k:Int)) rfl (λj=>ef (c j)) hk) ?_ (aT _) (by show(k:Int)<n;omega) rfl R ?_
 ·have:=hO (P:=ca) rfl (kv:=(k:Int)) rfl (λj=>[FM qb qp u j]) hk;simp only[FM,hu,aK,Int.natCast_zero,dy] at this;exact this
 ·rintro s s' β pre o8 d i he hr ha;have l:fu (wQ qb qp u) k (pT β (ca.je pre [fY (il (c k))]))=wQ (fu qb k β) (fu qp k pre) (fu u k [il (c k)]):=by
   funext j
   unfold wQ fu
   by_cases hj:j=k
   ·simp only[ae hj];rfl
   ·simp only[aa hj]
  have m:o8=mM n (fu qb k β) (fu qp k pre) (fu u k [il (c k)]):=by
   rw[i];refine jP (P:=ca) rfl (kv:=(k:Int)) rfl (g:=λj=>[FM (fu qb k β) (fu qp k pre) (fu u k [il (c k)]) j]) hk ?_ λj hj=>?_
   ·simp only[FM,gw];rfl
   ·simp only[FM,iF _ _ hj]
  have e:kI (fu qp k pre):=by
   intro j r hr v hv;unfold fu at hr
   split at hr
   ·rcases d with rfl|rfl
    ·exact hq k r hr v hv
    ·cases hr
   ·exact hq j r hr v hv
  have f:fh (l5 o1 bw br bc gv n pu ed (mL n c) o8 (fu (wQ qb qp u) k (pT β (ca.je pre [fY (il (c k))])))) s':=ha;rw[l,m] at f;exact o s s' (.tup []) _ he (eS _ _ _ (λx hx=>by rw[hx];rfl) hr) f (.tup _ (λv hv=>by cases hv)) (lg ho e) ⟨_,_,rfl,e,rfl⟩
def Cn(T:cp):Prop:=∀(o1:Ob)(bw br:Nat)(bc gv:Option Nat)(n:Nat)(pu ed:Int)(cs ws:List (List V))(Q:Nat->Ob)(c:Nat->Client)(qb:Nat->Option Nat)(qp:Nat->List (List V))(u:Nat->List od)(k:Nat)(kv:Int)(h:Hp)(K:V->Hp->Prop),HR h o1 bw br bc gv n pu ed cs ws Q->o1.Fz->
 cs=mL n c->ws=mM n qb qp u->Q=wQ qb qp u->kI qp->kv=(k:Int)->k<n->n<=4->u k=[]->
 (∀b a o8 d,kI a->o8=mM n b a (fu u k [il (c k)])->d=wQ b a (fu u k [il (c k)])->K (.tup []) (h.e9 (l5 o1 bw br bc gv n pu ed cs o8 d)))->T 62 [.ptr 961 (some bw) 5 0 0,qI kv] h K
theorem Lk:Cn (fa Tryz.prog):=by
 rintro o1 bw br bc gv n pu ed cs ws Q c qb qp u k kv h K hw ho rfl rfl rfl hq rfl hk hn hu hK;refine sL PD (Lj o1 ho bw br bc gv n pu ed c qb qp u hq k hk hn hu) (jE _) rfl qU qD (λp hp=>⟨hw.all p hp,lg ho hq p hp⟩) ?_ ?_
 ·rintro v e ⟨a,b,rfl,_,rfl⟩;rfl
 ·rintro v e ⟨a,b,rfl,d,rfl⟩;exact hK a b _ _ d rfl rfl
def D5:AC:=qr [qz 6 0] (qq (qr [qm 12 1,qc 13 .lss 12 0,qm 14 13,qg 15 14 false (.mov (.t 1)),qg 16 14 false (.mov (.t 0)),qg 17 14 false (.nilchk (.t 16)),qg 18 14 false (.faddr 1 (.t 17)),qg 19 14 false (.load1 (.t 18)),qg 20 14 false (.len false (.t 19)),qg 21 14 false (.bin .geq (.t 15) (.t 20)),qo 22 (.pick (.t 14) (.c (.bool true)) (.t 21))] (qu 22 (qr [qz 6 1] .ret) .skip)) (qq (qr [qm 23 2,qm 24 0,qn 25 24,qf 26 1 25,ql 27 26,qm 28 1,qo 29 (.iaddr 8 (.t 27) (.t 28)),qf 30 3 29,ql 31 30,qo 32 (.len true (.t 31)),qa 33 60 [.t 23,.t 32],qm 7 33] (qr [qm 34 7,qc 35 .neq 34 0] (qu 35 (qr [qm 36 7,qm 6 36] .ret) .skip))) (qr [qz 8 0] (qq (qr [qm 37 2,qo 38 (.len false (.t 37)),qz 39 0] (.block 0 (.loop (qr [qb 40 .lss 39 38] (qq (qu 40 .skip (.exit 0)) (qq (.block 1 (qr [qo 41 (.iaddr 3 (.t 37) (.t 39)),qd 42 3 41,qo 10 (.alloc 115 wj),qs 3 10 42] (qR [qm 43 8,qf 44 2 10,ql 45 44,qo 46 (.len true (.t 45)),qb 47 .add 43 46,qm 8 47]))) (qR [qc 48 .add 39 1,qm 39 48]))))))) (qq (qr [qm 49 0,qn 50 49,qf 51 4 50,ql 52 51,qc 53 .gtr 52 63] (qu 53 (qr [qz 6 11] .ret) .skip)) (qq (qr [qm 54 0,qn 55 54,qf 56 3 55,ql 57 56,qm 58 8,qb 59 .add 57 58,qc 60 .gtr 59 500] (qu 60 (qr [qz 6 2] .ret) .skip)) (qq (.region true [qm 61 0,qm 62 0,qm 63 0,qn 64 63,qf 65 4 64,ql 66 65,qc 67 .add 66 1,qm 68 0,qn 69 68,qf 70 3 69,ql 71 70,qm 72 8,qb 73 .add 71 72,qn 74 61,qf 75 4 74,qs 1 75 67,qn 76 62,qf 77 3 76,qs 1 77 73]) (qr [qm 78 0,qn 79 78,qf 80 1 79,ql 81 80,qm 82 1,qo 83 (.iaddr 8 (.t 81) (.t 82)),qf 84 4 83,ql 85 84,qm 11 85] (qq (.region true [qm 87 0,qn 88 87,qf 89 1 88,ql 90 89,qm 91 1,qm 92 0,qn 93 92,qf 94 1 93,ql 95 94,qm 96 1,qo 97 (.iaddr 8 (.t 95) (.t 96)),qd 98 8 97,qm 99 2,qa 100 61 [.t 98,.t 99],qm 86 100,qx 101 0 86,qx 102 1 86,qo 103 (.iaddr 8 (.t 90) (.t 91)),qs 8 103 101]) (qq (qr [qm 104 11,qo 105 (.not (.t 104))] (qu 105 (qR [qm 106 0,qm 107 1,qa 108 62 [.t 106,.t 107]]) .skip)) (qr [qz 6 0] .ret)))))))))))
theorem OG:fo Tryz.prog 13 Tryz.f13 D5 [.t 6] 3 eV:=⟨Tryz.func13,by decide+kernel,by kernel_rfl,by kernel_rfl,by decide+kernel⟩
structure Wh(d:List Part) where
 a:Int
 k:Int
 pre:List Part
 rest:List Part
 hd:d=pre++rest
 hk:k=pre.length
 ha:a=hV pre
theorem OH(P:Prim)(hP:P=ca)(T T1:cp)(hsend:Cn T)(o1:Ob)(ho:o1.Fz)(bw br:Nat)(bc gv:Option Nat)(n:Nat)(hn:n<=4)(w:WS)(pu ed:Int)(f:pu=w.pu)(i:ed=w.ed)(PN:0<=pu/\pu<=500)(YI:0<=ed/\ed<=64)(cs ws:List (List V))(Q:Nat->Ob)(qb:Nat->Option Nat)(qp:Nat->List (List V))(hq:kI qp)(o:cs=mL n w.c)(q:ws=mM n qb qp w.u)(E:Q=wQ qb qp w.u)
  (kv:Int)(d:List Part)(dr:List (List V))(W:dr=d.map a6)(X:Int)(r:X=hV d)
  (Y:∀(t:BS)(e:Int),e=gO d t.length->fZ T 60 [.sl false 3 dr,qI (P.eP t)] (qI e))(F:∀t:BS,gO d t.length=0->(0<=X/\X<=500)/\d.length<=1600/\∀p∈d,oq p)
  (Z:∀k,k<n->∀(a b c:Int)(t:BS)(fl:Bool)(sr:List (List V))(wt:Bool)(hr:List (List V))(a' b' c':Int)(t':BS)(Us:Bool)(Ut:List (List V))(Uu:Bool)(Uv:List (List V)),qT a b c t fl sr wt hr=ef (w.c k)->qT a' b' c' t' Us Ut Uu Uv=ef (gD (w.c k) d).1->fZ T1 61 [.agg (qT a b c t fl sr wt hr),.sl false 3 dr] (.tup [.agg (qT a' b' c' t' Us Ut Uu Uv),qI (gD (w.c k) d).2]))
  (V9:∀k,k<n->gO d (w.c k).text.length=0->ed≠64->pu+X<=500->(w.c k).eT=false->w.u k=[])
  (R:S->Prop)(G:∀(s s':S)(v:Int)(w':WS)(Uo Up:Int)(B:Nat->Option Nat)(z:Nat->List (List V))(kp o8:List (List V))(Q':Nat->Ob),(v,w')=gE n w kv d->Uo=w'.pu->Up=w'.ed->kI z->kp=mL n w'.c->o8=mM n B z w'.u->Q'=wQ B z w'.u->a7 s s'->hX [.t 6] [qI v] s'->fh (l5 o1 bw br bc gv n Uo Up kp o8 Q') s'->R s):
  fX P T T1 D5 (S0 [.ptr 961 (some bw) 5 0 0,qI kv,.sl false 3 dr] (b7 (l5 o1 bw br bc gv n pu ed cs ws Q))) R (λ_ _=>False) R:=by
 have jF:P.int n=(n:Int):=by subst hP;rfl
 cbv;refine ab (λg=>?_) (λg=>?_)
 ·have g1:kv<0:=fA hP g;cbv;exact G _ _ 1 w pu ed qb qp cs ws Q (by unfold gE;rw[ae (.inl g1)]) f i hq o q E (a7.refl _) rfl ⟨rfl,rfl,rfl,rfl,rfl,rfl,rfl,rfl,trivial⟩
 have g1:¬kv<0:=fg hP g;cbv;refine ab (λg=>?_) (λg=>?_)
 ·have g2:P.int n<=kv:=iG hP g;rw[jF] at g2;cbv;exact G _ _ 1 w pu ed qb qp cs ws Q (by unfold gE;rw[ae (.inr g2)]) f i hq o q E (a7.refl _) rfl ⟨rfl,rfl,rfl,rfl,rfl,rfl,rfl,rfl,trivial⟩
 have g2:¬P.int n<=kv:=iA hP g;rw[jF] at g2;obtain⟨k,hk⟩:∃k:Nat,kv=(k:Int):=⟨kv.toNat,qO⟩;have A:k<n:=by((try simp only[nc] at*);omega)
 have Wa:kv.toNat=k:=by((try simp only[nc] at*);omega)
 have q1:P.fQ 0 kv:=iQ hP qO;have q2:P.iw kv (P.int n):=kZ hP (by rw[jF];((try simp only[nc] at*);omega));have l:P.row cs (P.nat kv) (ef (w.c k)):=by rw[o];exact hO hP hk (λj=>ef (w.c j)) A
 obtain⟨c,hc⟩:∃c,c=w.c k:=⟨_,rfl⟩;obtain⟨x,hx⟩:∃x,x=(gD c d).1:=⟨_,rfl⟩;have L:=Z k A;have hF:=V9 k A;rw[<-hc] at l L hF;rw[<-hx] at L;obtain⟨e2,Vf⟩:∃e2,e2=(gD c d).2:=⟨_,rfl⟩;rw[<-Vf] at L;have m:gE n w kv d=if gO d c.text.length≠0 then(gO d c.text.length,w) else if w.ed=64 then(11,w) else if 500<w.pu+hV d then(2,w) else(0,nn w k d):=by
  unfold gE;rw[aa qO,Wa,hc]
 obtain⟨c1,c2,c3,c4,c5,c6,c7,c8⟩:=c;obtain⟨x1,x2,x3,x4,H,M,I,N⟩:=x;obtain⟨sr,Px⟩:∃sr,sr=c6.map a6:=⟨_,rfl⟩;obtain⟨hr,KQ⟩:∃hr,hr=c8.map a6:=⟨_,rfl⟩;obtain⟨sx,KR⟩:∃sr,sr=M.map a6:=⟨_,rfl⟩;obtain⟨Py,KS⟩:∃hr,hr=N.map a6:=⟨_,rfl⟩;have l:P.row cs (P.nat kv) (qT c1 c2 c3 c4 c5 sr c7 hr):=by rw[Px,KQ];exact l
 have L:=L c1 c2 c3 c4 c5 sr c7 hr x1 x2 x3 x4 H sx I Py (by rw[Px,KQ];rfl) (by rw[KR,KS];rfl);obtain⟨O,PQ⟩:∃O,O=gO d c4.length:=⟨_,rfl⟩;have Wb:=Y c4 O PQ;have Xg:=F c4;simp only at m hF;rw[<-PQ] at m hF Xg;cbv
 repeat'(first
  |(refine qA ?_;cbv)
  |(intro J;cbv)
  |(refine⟨_,l,?_⟩;cbv)
  |(refine Wb _ _ ?_;cbv)
  |fail)
 refine ab (λg=>?_) (λg=>?_)
 ·have g3:O≠0:=fE hP g;rw[ae g3] at m;cbv;exact G _ _ O w pu ed qb qp cs ws Q m.symm f i hq o q E (a7.refl _) rfl ⟨rfl,rfl,rfl,rfl,rfl,rfl,rfl,rfl,trivial⟩
 have g3:O=0:=fD hP g;rw[aa (λh=>h g3)] at m;obtain⟨⟨p1,p2⟩,p3,p4⟩:=Xg g3;cbv;refine⟨Wh d,λy=>[(0,.ptr 961 (some bw) 5 0 0),(1,qI kv),(2,.sl false 3 dr),(8,qI y.a),(37,.sl false 3 dr),(38,qI (P.da dr)),(39,qI y.k)],λ_=>l5 o1 bw br bc gv n pu ed cs ws Q,λy=>y.rest.length,
  ⟨_,a7.refl _,⟨0,0,[],d,rfl,rfl,rfl⟩,⟨rfl,rfl,rfl,rfl,rfl,rfl,rfl,trivial⟩,⟨rfl,rfl,rfl,rfl,rfl,rfl,rfl,rfl,trivial⟩⟩,?_⟩
 rintro⟨a,U,pre,rest,hd,C,ha⟩;cbv;have hl:P.da dr=(pre.length:Int)+rest.length:=by rw[gi hP,W,hd];simp
 have Re:d.length=pre.length+rest.length:=by rw[hd];simp
 have C:U=(pre.length:Int):=C;have ha:a=hV pre:=ha;refine ab (λg=>?_) (λg=>?_)
 ·have g4:U<P.da dr:=fA hP g;rw[hl] at g4
  rcases rest with _|⟨⟨kd,np,t⟩,rest⟩
  ·exact absurd g4 (by simp only[aK];((try simp only[nc] at*);omega))
  have Pr:=m7 W hd C P hP;have hp:=gu (p4 ⟨kd,np,t⟩ (by simp[hd]));have hb1:=we pre (λp hp=>p4 p (by simp[hd,hp]));have w0:P.fQ 0 U:=iQ hP qO;have w1:P.i64 (P.add a (P.eP t)):=by rw[add_eq hP,eF hP];exact ft hP (by simp only at hp;((try simp only[nc] at*);omega))
  have w2:P.i64 (P.add U 1):=by rw[add_eq hP];exact ft hP qO
  simp only[a6] at Pr;cbv
  repeat'(first
   |(refine qA ?_;cbv)
   |(intro J;cbv)
   |(refine⟨_,Pr,?_⟩;cbv)
   |fail)
  refine⟨_,a7.refl _,⟨_,_,pre++[⟨kd,np,t⟩],rest,by rw[hd];simp,(add_eq hP U 1).trans (by rw[C];simp),(add_eq hP a (P.eP t)).trans (by rw[eF hP,ha,tA];simp[hV])⟩,⟨rfl,rfl,rfl,rfl,rfl,rfl,rfl,trivial⟩,⟨rfl,rfl,rfl,rfl,rfl,rfl,rfl,rfl,trivial⟩,Nat.lt_succ_self _⟩
 have g4:¬U<P.da dr:=fg hP g;rw[hl] at g4;have K:rest=[]:=aq qO;subst K;rw[aJ] at hd;have D:a=X:=by rw[ha,r,hd]
 have i1:P.i64 (P.add pu a):=by rw[add_eq hP];exact ft hP qO
 have i2:P.i64 (P.add ed 1):=by rw[add_eq hP];exact ft hP qO
 clear hd ha;cbv;refine ab (λg=>?_) (λg=>?_)
 ·have g5:63<ed:=fA hP g;rw[ae (by rw[<-i];((try simp only[nc] at*);omega))] at m;cbv;exact G _ _ 11 w pu ed qb qp cs ws Q m.symm f i hq o q E (a7.refl _) rfl ⟨rfl,rfl,rfl,rfl,rfl,rfl,rfl,rfl,trivial⟩
 have g5:¬63<ed:=fg hP g;rw[aa (by rw[<-i];((try simp only[nc] at*);omega))] at m;cbv
 repeat'(first
  |(refine qA ?_;cbv)
  |(intro J;cbv)
  |fail)
 refine ab (λg=>?_) (λg=>?_)
 ·have g6:500<P.add pu a:=fA hP g;rw[add_eq hP] at g6;rw[ae (by rw[<-f,<-r,<-D];exact g6)] at m;cbv;exact G _ _ 2 w pu ed qb qp cs ws Q m.symm f i hq o q E (a7.refl _) rfl ⟨rfl,rfl,rfl,rfl,rfl,rfl,rfl,rfl,trivial⟩
 have g6:¬500<P.add pu a:=fg hP g;rw[add_eq hP] at g6;rw[aa (by rw[<-f,<-r,<-D];exact g6)] at m;have hF:=hF g3 qO qO;cbv
 repeat'(first
  |(refine qA ?_;cbv)
  |(intro J;cbv)
  |(refine⟨_,l,?_⟩;cbv)
  |(refine L _ _ ?_;cbv)
  |fail)
 have hS:P.mf cs (P.nat kv) (qT x1 x2 x3 x4 H sx I Py)=mL n (fu w.c k ⟨x1,x2,x3,x4,H,M,I,N⟩):=by
  rw[o];refine jP hP hk (g:=λj=>ef (fu w.c k ⟨x1,x2,x3,x4,H,M,I,N⟩ j)) A ?_ λj hj=>?_
  ·simp only[gw];rw[KR,KS];rfl
  ·simp only[iF _ _ hj]
 have hW:nn w k d=⟨fu w.c k ⟨x1,x2,x3,x4,H,M,I,N⟩,fu w.u k (if c5 then w.u k else[il ⟨x1,x2,x3,x4,H,M,I,N⟩]),w.pu+hV d,w.ed+1⟩:=by
  unfold nn;rw[<-hc,<-hx]
 rw[hW] at m;refine ab (λg=>?_) (λg=>?_)
 ·have g7:c5=true:=g;rw[g7,ae rfl,kJ] at m;cbv;exact G _ _ 0 _ _ _ qb qp _ ws Q m.symm ((add_eq hP pu a).trans (by rw[f,D,r])) ((add_eq hP ed 1).trans (by rw[i])) hq hS q E (a7.refl _) rfl ⟨rfl,rfl,rfl,rfl,rfl,rfl,rfl,rfl,trivial⟩
 ·have g7:c5=false:=g;rw[g7,aa qD] at m;cbv;refine hsend o1 bw br bc gv n _ _ _ ws Q (fu w.c k ⟨x1,x2,x3,x4,H,M,I,N⟩) qb qp w.u k kv _ _ ⟨rfl,rfl,rfl,rfl,rfl,rfl,rfl,rfl⟩ ho hS q E hq hk A hn (hF g7) λB z o8 Q' RZ hs' KT=>?_;rw[gw] at hs' KT;cbv;exact G _ _ 0 _ _ _ B z _ o8 Q' m.symm ((add_eq hP pu a).trans (by rw[f,D,r])) ((add_eq hP ed 1).trans (by rw[i])) RZ hS hs' KT (a7.refl _) rfl ⟨rfl,rfl,rfl,rfl,rfl,rfl,rfl,rfl,trivial⟩
theorem Ll{n:Nat}{dd:SC}{l:List eX}{nt:im}{iE:List BS}{w:WS}(H:jZ n dd l nt iE w)(hn:n<=4)(o1:Ob)(ho:o1.Fz)(bw br:Nat)(bc gv:Option Nat)(qb:Nat->Option Nat)(qp:Nat->List (List V))(hq:kI qp)(kv:Int)(d:List Part)(hd:fw d):
  Spec Tryz.prog 13 [.ptr 961 (some bw) 5 0 0,qI kv,.sl false 3 (d.map a6)] (b7 (l5 o1 bw br bc gv n w.pu w.ed (mL n w.c) (mM n qb qp w.u) (wQ qb qp w.u))) λv h'=>∃m,(∃g f,v=qI (gE n w kv d).1/\kI f/\m=l5 o1 bw br bc gv n (gE n w kv d).2.pu (gE n w kv d).2.ed (mL n (gE n w kv d).2.c) (mM n g f (gE n w kv d).2.u) (wQ g f (gE n w kv d).2.u))/\h'=b7 m:=by
 have p:maxLen=9223372036854775807:=by decide
 refine fe gY OG (L:=l5 o1 bw br bc gv n w.pu w.ed (mL n w.c) (mM n qb qp w.u) (wQ qb qp w.u)) (λv m=>∃g f,v=qI (gE n w kv d).1/\kI f/\m=l5 o1 bw br bc gv n (gE n w kv d).2.pu (gE n w kv d).2.ed (mL n (gE n w kv d).2.c) (mM n g f (gE n w kv d).2.u) (wQ g f (gE n w kv d).2.u)) λR q=>?_;refine OH ca rfl _ _ Lk o1 ho bw br bc gv n hn w _ _ rfl rfl H.pu H.ed _ _ _ qb qp hq rfl rfl rfl kv d _ rfl _ rfl (λt e he=>by subst he;exact CR (vw d hd.1 t.length) rfl rfl) (λt ht=>?_) (λk hk a b c t fl sr wt hr D b' c' E r y z A h1 h2=>?_) (λk hk h1 h2 h3=>(tt H hk h1 h2 h3).2.2.2.2) R ?_
 ·have hc:=(lz ht).1;have i:=dv hc;exact⟨⟨sH d,Pz hc⟩,i.1,i.2.1⟩
 ·rw[h1,h2];have hf:=H.fact hk;have h3:=hf.sn;have h4:=hf.hl;exact qi (args:=[.agg (ef (w.c k)),.sl false 3 (d.map a6)]) (Kr (w.c k) d qW qW hd.1) (λh=>.cons (.same (.agg (ef (w.c k)))) (.cons (.same (.sl false 3 (d.map a6))) .nil)) rfl
 ·rintro s s' v w' B C g f kp o8 F o rfl rfl j rfl rfl rfl he hr ha;have e1:v=(gE n w kv d).1:=aR Prod.fst o;have e2:w'=(gE n w kv d).2:=aR Prod.snd o;subst e1 e2;exact q s s' (qI (gE n w kv d).1) _ he (eS _ _ _ (λx hx=>by rw[hx];rfl) hr) ha (.int _ _) (lg ho j) ⟨_,_,rfl,j,rfl⟩
structure Vh(h:Hp)(o1:Ob)(bw br:Nat)(bc gv:Option Nat)(n:Nat)(pu ed:Int)(cs ws:List (List V))(Q:Nat->Ob)(w:WS)(d:SC)(l:List eX)(dr:im)(tx:List BS)(qb:Nat->Option Nat)(qp:Nat->List (List V)):Prop where
 H:jZ n d l dr tx w
 hn:n<=4
 e1:o1=yH br dr tx l
 e4:pu=w.pu
 e5:ed=w.ed
 e6:cs=mL n w.c
 e8:ws=mM n qb qp w.u
 e7:Q=wQ qb qp w.u
 hq:kI qp
 hw:HR h o1 bw br bc gv n pu ed cs ws Q
def Lm(T:cp):Prop:=∀(o1:Ob)(bw br:Nat)(bc gv:Option Nat)(n:Nat)(pu ed:Int)(cs ws:List (List V))(Q:Nat->Ob)(w:WS)(d:SC)(l:List eX)(dr:im)(tx:List BS)(qb:Nat->Option Nat)(qp:Nat->List (List V))(kv:Int)(x:List Part)(dx:List (List V))(g:V)(h:Hp)(K:V->Hp->Prop),Vh h o1 bw br bc gv n pu ed cs ws Q w d l dr tx qb qp->fw x->dx=x.map a6->(g=.sl false 3 dx\/(g=.nilsl/\x=[]))->
 (∀v w' b a kp o8 i e f,(v,w')=gE n w kv x->kI a->e=w'.pu->f=w'.ed->kp=mL n w'.c->o8=mM n b a w'.u->i=wQ b a w'.u->K (qI v) (h.e9 (l5 o1 bw br bc gv n e f kp o8 i)))->T 13 [.ptr 961 (some bw) 5 0 0,qI kv,g] h K
theorem R9:Lm (fa Tryz.prog):=by
 rintro o1 bw br bc gv n pu ed cs ws Q w d l dr tx qb qp kv x dx g h K ⟨H,hn,rfl,rfl,rfl,rfl,rfl,rfl,hq,hw⟩ hx rfl c hK;refine sL PD (Ll H hn _ lN bw br bc gv qb qp hq kv x hx) (.cons (qS _) (.cons (qS _) (.cons ?_ .nil))) rfl qU qD (λp hp=>⟨hw.all p hp,lg lN hq p hp⟩) ?_ ?_
 ·rcases c with rfl|⟨rfl,rfl⟩
  ·exact qS _
  ·exact .nil _ _
 ·rintro v f ⟨a,b,rfl,_,rfl⟩;rfl
 ·rintro v f ⟨a,b,rfl,e,rfl⟩;exact hK _ _ a b _ _ _ _ _ rfl e rfl rfl rfl rfl rfl
def yI:AC:=qr [qo 4 (.mov (.c (.bool false)))] (qq (qr [qm 5 1,qc 6 .lss 5 0,qm 7 6,qg 8 7 false (.mov (.t 1)),qg 9 7 false (.mov (.t 0)),qg 10 7 false (.nilchk (.t 9)),qg 11 7 false (.faddr 1 (.t 10)),qg 12 7 false (.load1 (.t 11)),qg 13 7 false (.len false (.t 12)),qg 14 7 false (.bin .geq (.t 8) (.t 13)),qo 15 (.pick (.t 7) (.c (.bool true)) (.t 14)),qm 16 15,qg 17 16 false (.mov (.t 0)),qg 18 16 false (.nilchk (.t 17)),qg 19 16 false (.faddr 2 (.t 18)),qg 20 16 false (.load1 (.t 19)),qg 21 16 false (.mov (.t 1)),qg 22 16 false (.iaddr 1 (.t 20) (.t 21)),qg 23 16 false (.load1 (.t 22)),qg 24 16 false (.len false (.t 23)),qg 25 16 false (.bin .eql (.t 24) (qk 0)),qo 26 (.pick (.t 16) (.c (.bool true)) (.t 25))] (qu 26 (qr [qo 4 (.mov (.c (.bool false)))] .ret) .skip)) (qq (qq (.region true [qm 27 0,qn 28 27,qf 29 0 28,ql 30 29,qm 31 0,qn 32 31,qf 33 2 32,ql 34 33,qm 35 1,qo 36 (.iaddr 1 (.t 34) (.t 35)),ql 37 36,qo 38 (.iaddr 4 (.t 37) (qk 0)),qd 39 4 38]) (qR [qa 40 46 [.t 30,.t 39]])) (qq (.region true [qm 41 0,qn 42 41,qf 43 2 42,ql 44 43,qm 45 1,qm 46 0,qn 47 46,qf 48 2 47,ql 49 48,qm 50 1,qo 51 (.iaddr 1 (.t 49) (.t 50)),ql 52 51,qo 53 (.slsl 4 (.t 52) (some (qk 1)) none),qo 54 (.iaddr 1 (.t 44) (.t 45)),qs 1 54 53]) (qr [qo 4 (.mov (.c (.bool true)))] .ret))))
theorem Sa:fo Tryz.prog 15 Tryz.f15 yI [.t 4] 2 eV:=⟨Tryz.func15,by decide+kernel,by kernel_rfl,by kernel_rfl,by decide+kernel⟩
theorem Sb(P:Prim)(hP:P=ca)(T u:cp)(g:Ps T)(br:Nat)(dr:im)(tx:List BS)(l:List eX)(j lr:List (List V))(k:j=ds tx)(m:lr=l.map a8)(iB:vS dr tx l)
  (bw:Nat)(bc gv:Option Nat)(n:Nat)(pu ed:Int)(cs ws:List (List V))(Q:Nat->Ob)(kv:Int)(i:Nat)(hi:i<4)(b:Option Nat)(o:List (List V))(lo hi':Int)
  (d:P.row ws (P.nat kv) [.win (1000980+i) b 4 lo hi'])(q0:¬kv<0)(p:¬P.int n<=kv)(q1:P.fQ 0 kv)(q2:P.iw kv (P.int n))(q mw mq:Int)(x:List Part)(md:List (List V))(r:md=x.map a6)(hx:fw x)
  (hne:P.sub hi' lo=1)(f:P.row o (P.nat (P.add lo 0)) [qI q,qI mw,qI mq,.sl false 3 md])
  (R:S->Prop)(w:∀(s s':S)(v e:Int)(nt:im)(iE:List BS)(l':List eX)(a c:List (List V))(o8:List (List V)),⟨nt,iE,l',v,e⟩=lM dr tx l q mw mq x->a=ds iE->c=l'.map a8->
   o8=P.mf ws (P.nat kv) [.win (1000980+i) b 4 (P.add lo 1) (P.add lo (P.int (P.nat (P.sub hi' lo))))]->a7 s s'->hX [.t 4] [.bool true] s'->fh (l5 (fV br nt (.sl false 1 a) (.sl false 3 c)) bw br bc gv n pu ed cs o8 (fu Q i (pT b o))) s'->R s):
  fX P T u yI (S0 [.ptr 961 (some bw) 5 0 0,qI kv] (b7 (l5 (fV br dr (.sl false 1 j) (.sl false 3 lr)) bw br bc gv n pu ed cs ws (fu Q i (pT b o))))) R (λ_ _=>False) R:=by
 have y:P.lt kv 0=false:=nU hP q0;have z2:P.le (P.int n) kv=false:=by subst hP;exact dg p
 have z3:P.eq (P.sub hi' lo) 0=false:=by rw[hne];subst hP;rfl
 have z4:P.fQ 0 0:=iQ hP qD;have z5:P.iw 0 (P.sub hi' lo):=by rw[hne];exact kZ hP qD
 have A:P.fQ 0 1:=iQ hP qD;have B:P.fQ 1 (P.int (P.nat (P.sub hi' lo))):=by rw[hne];subst hP;show(1:Int)<=1;decide
 have C:P.fQ (P.int (P.nat (P.sub hi' lo))) (P.int (P.nat (P.sub hi' lo))):=by subst hP;exact bf _
 obtain rfl|rfl|rfl|rfl:i=0\/i=1\/i=2\/i=3:=by omega
 all_goals
  cbv;refine fv y ?_;cbv;refine fv z2 ?_;cbv
  repeat'(first
  |(refine qA ?_;cbv)
  |(intro h;cbv)
  |(refine⟨_,d,?_⟩;cbv)
  |(refine⟨_,f,?_⟩;cbv)
  |fail)
  refine fv z3 ?_;cbv
  repeat'(first
  |(refine qA ?_;cbv)
  |(intro h;cbv)
  |(refine⟨_,d,?_⟩;cbv)
  |(refine⟨_,f,?_⟩;cbv)
  |fail)
  refine g 930 br dr tx l j lr q mw mq x md _ _ k m iB r hx rfl λd' iE l' v e a c z h1 h2=>?_;cbv
  repeat'(first
  |(refine qA ?_;cbv)
  |(intro h;cbv)
  |(refine⟨_,d,?_⟩;cbv)
  |(refine⟨_,f,?_⟩;cbv)
  |fail)
  exact w _ _ v e d' iE l' a c _ z h1 h2 rfl (a7.refl _) rfl ⟨rfl,rfl,rfl,rfl,rfl,rfl,rfl,rfl,trivial⟩
theorem OI(P:Prim)(hP:P=ca)(T f:cp)(o1:Ob)(bw br:Nat)(bc gv:Option Nat)(n:Nat)(pu ed:Int)(cs ws:List (List V))(Q:Nat->Ob)(kv:Int)
  (a:kv<0\/(n:Int)<=kv\/(¬kv<0/\¬(n:Int)<=kv/\∃(e:Nat)(b:Option Nat)(lo hi':Int),P.row ws (P.nat kv) [.win e b 4 lo hi']/\P.sub hi' lo=0))
  (R:S->Prop)(c:∀s s',a7 s s'->hX [.t 4] [.bool false] s'->fh (l5 o1 bw br bc gv n pu ed cs ws Q) s'->R s):
  fX P T f yI (S0 [.ptr 961 (some bw) 5 0 0,qI kv] (b7 (l5 o1 bw br bc gv n pu ed cs ws Q))) R (λ_ _=>False) R:=by
 have jF:P.int n=(n:Int):=by subst hP;rfl
 cbv;refine ab (λg=>?_) (λg=>?_)
 ·cbv;exact c _ _ (a7.refl _) rfl ⟨rfl,rfl,rfl,rfl,rfl,rfl,rfl,rfl,trivial⟩
 have g1:¬kv<0:=fg hP g;cbv;refine ab (λg=>?_) (λg=>?_)
 ·cbv;exact c _ _ (a7.refl _) rfl ⟨rfl,rfl,rfl,rfl,rfl,rfl,rfl,rfl,trivial⟩
 have g2:¬P.int n<=kv:=iA hP g;rw[jF] at g2;obtain h|h|⟨_,_,e,b,lo,hi',d,hz⟩:=a
 ·exact absurd h g1
 ·exact absurd h g2
 have q1:P.fQ 0 kv:=iQ hP qO;have q2:P.iw kv (P.int n):=kZ hP (by rw[jF];((try simp only[nc] at*);omega));have z3:P.eq (P.sub hi' lo) 0=true:=by rw[hz];subst hP;rfl
 cbv
 repeat'(first
  |(refine qA ?_;cbv)
  |(intro i;cbv)
  |(refine⟨_,d,?_⟩;cbv)
  |fail)
 refine eY z3 ?_;cbv;exact c _ _ (a7.refl _) rfl ⟨rfl,rfl,rfl,rfl,rfl,rfl,rfl,rfl,trivial⟩
structure Wi where
 b:Bool
 d:im
 tx:List BS
 l:List eX
 w:WS
def kY(n:Nat)(dr:im)(tx:List BS)(l:List eX)(w:WS)(kv:Int):Wi:=match F1 n w kv with
 |none=>⟨false,dr,tx,l,w⟩
 |some m=>⟨true,(lM dr tx l m.base m.who m.seq m.delta).d,(lM dr tx l m.base m.who m.seq m.delta).tx,(lM dr tx l m.base m.who m.seq m.delta).l,mI w kv.toNat⟩
theorem Ln{n:Nat}{d:SC}{l:List eX}{dr:im}{tx:List BS}{w:WS}(h:jZ n d l dr tx w)(kv:Int):jZ n (qX n d l w kv).d (qX n d l w kv).l (kY n dr tx l w kv).d (kY n dr tx l w kv).tx (qX n d l w kv).w/\(kY n dr tx l w kv).b=(qX n d l w kv).b/\(kY n dr tx l w kv).l=(qX n d l w kv).l/\(kY n dr tx l w kv).w=(qX n d l w kv).w:=by
 unfold qX kY;cases hu:F1 n w kv with
 |none=>exact⟨h,rfl,rfl,rfl⟩
 |some m=>
  unfold F1 at hu
  by_cases hk:kv<0\/(n:Int)<=kv
  ·rw[ae hk] at hu;cases hu
  ·rw[aa hk] at hu;obtain⟨t,ht⟩:∃t,w.u kv.toNat=m::t:=by
    cases hc:w.u kv.toNat with
    |nil=>rw[hc] at hu;cases hu
    |cons a t=>rw[hc] at hu;cases hu;exact⟨t,rfl⟩
   obtain⟨_,_,h3⟩:=yB h (k:=kv.toNat) qW ht;obtain⟨_,_,h4,_⟩:=Ki h.mp m.base m.who m.seq m.delta;exact⟨h3,rfl,h4,rfl⟩
theorem OJ{n:Nat}{d:SC}{l:List eX}{dr:im}{tx:List BS}{w:WS}(H:jZ n d l dr tx w)(hn:n<=4)(bw br:Nat)(bc gv:Option Nat)(qb:Nat->Option Nat)(qp:Nat->List (List V))(hq:kI qp)(kv:Int):
  Spec Tryz.prog 15 [.ptr 961 (some bw) 5 0 0,qI kv] (b7 (l5 (yH br dr tx l) bw br bc gv n w.pu w.ed (mL n w.c) (mM n qb qp w.u) (wQ qb qp w.u))) λv h'=>∃z,(∃a,v=.bool (kY n dr tx l w kv).b/\kI a/\z=l5 (yH br (kY n dr tx l w kv).d (kY n dr tx l w kv).tx (kY n dr tx l w kv).l) bw br bc gv n (kY n dr tx l w kv).w.pu (kY n dr tx l w kv).w.ed (mL n (kY n dr tx l w kv).w.c) (mM n qb a (kY n dr tx l w kv).w.u) (wQ qb a (kY n dr tx l w kv).w.u))/\h'=b7 z:=by
 refine fe gY Sa (L:=l5 (yH br dr tx l) bw br bc gv n w.pu w.ed (mL n w.c) (mM n qb qp w.u) (wQ qb qp w.u)) (λv z=>∃a,v=.bool (kY n dr tx l w kv).b/\kI a/\z=l5 (yH br (kY n dr tx l w kv).d (kY n dr tx l w kv).tx (kY n dr tx l w kv).l) bw br bc gv n (kY n dr tx l w kv).w.pu (kY n dr tx l w kv).w.ed (mL n (kY n dr tx l w kv).w.c) (mM n qb a (kY n dr tx l w kv).w.u) (wQ qb a (kY n dr tx l w kv).w.u)) λR E=>?_;have no:F1 n w kv=none->(kv<0\/(n:Int)<=kv\/(¬kv<0/\¬(n:Int)<=kv/\∃(F:Nat)(b:Option Nat)(lo hi':Int),ca.row (mM n qb qp w.u) (ca.nat kv) [.win F b 4 lo hi']/\ca.sub hi' lo=0))->
   fX ca (fa Tryz.prog) (fj Tryz.prog) yI (S0 [.ptr 961 (some bw) 5 0 0,qI kv] (b7 (l5 (yH br dr tx l) bw br bc gv n w.pu w.ed (mL n w.c) (mM n qb qp w.u) (wQ qb qp w.u)))) R (λ_ _=>False) R:=by
  intro he hc;have i:kY n dr tx l w kv=⟨false,dr,tx,l,w⟩:=by unfold kY;rw[he]
  refine OI ca rfl _ _ _ bw br bc gv n _ _ _ _ _ kv hc R λs s' he hr ha=>?_;refine E s s' (.bool false) _ he (eS _ _ _ (λx hx=>by rw[hx];rfl) hr) ha (.bool _) (lg lN hq) ⟨qp,by rw[i],hq,by rw[i]⟩
 by_cases hk:kv<0\/(n:Int)<=kv
 ·exact no (by unfold F1;rw[ae hk]) qW
 obtain⟨k,o⟩:∃k:Nat,kv=(k:Int):=⟨kv.toNat,qW⟩;have f:k<n:=by omega
 have p:kv.toNat=k:=by omega
 have h:=hO (P:=ca) rfl o (λj=>[FM qb qp w.u j]) f;have hf:=H.fact f;have G:=hf.ul;cases hu:w.u k with
 |nil=>
  refine no (by unfold F1;rw[aa hk,p,hu];rfl) (.inr (.inr ⟨qW,qW,_,_,_,_,h,?_⟩));show _+((w.u k).length:Int)-_=0;rw[hu];simp
 |cons m t=>
  obtain⟨h1,h2,h3⟩:=yB H f hu;subst h1;have i:kY n dr tx l w kv=⟨true,(lM dr tx l m.base m.who m.seq m.delta).d,(lM dr tx l m.base m.who m.seq m.delta).tx,(lM dr tx l m.base m.who m.seq m.delta).l,mI w k⟩:=by
   unfold kY F1;rw[aa hk,p,hu];rfl
  have I:fu (wQ qb qp w.u) k (pT (qb k) (qp k++[fY m]))=wQ qb qp w.u:=by
   have:pT (qb k) (qp k++[fY m])=wQ qb qp w.u k:=by unfold wQ;rw[hu];rfl
   rw[this,kJ]
  have A:fu (wQ qb qp w.u) k (pT (qb k) (qp k++[fY m]))=wQ qb (fu qp k (qp k++[fY m])) (mI w k).u:=by
   funext j
   unfold wQ fu mI
   by_cases hj:j=k
   ·rw[hj];simp only[fu,if_true,cJ,aJ]
   ·simp only[fu,aa hj]
  have q:kI (fu qp k (qp k++[fY m])):=by
   intro j r hr v hv;unfold fu at hr
   split at hr
   ·rcases aU.1 hr with hr|hr
    ·exact hq k r hr v hv
    ·rw[aw.1 hr] at hv;exact tz m v hv
   ·exact hq j r hr v hv
  rw[<-I];refine Sb ca rfl _ _ Ub br dr tx l _ _ rfl rfl H.mp.ok bw bc gv n _ _ _ _ (wQ qb qp w.u) kv k qW (qb k) (qp k++[fY m]) ((qp k).length:Int) (((qp k).length:Int)+1) ?_ qW (by show¬(n:Int)<=kv;omega) (by show 0<=kv;omega) (by show kv<(n:Int);omega) m.base m.who m.seq m.delta _ rfl (nJ h2) (by show((qp k).length:Int)+1-(qp k).length=1;omega) ?_ R ?_
  ·simp only[FM,hu,cu,Int.natCast_one] at h;exact h
  ·show(qp k++[fY m])[(((qp k).length:Int)+0).toNat]? =some (fY m);rw[dy,aM];simp
  ·rintro s s' v e nt iE l' J K o8 B rfl rfl C he hr ha;have e1:nt=(lM dr tx l m.base m.who m.seq m.delta).d:=aR Fl.d B;have e2:iE=(lM dr tx l m.base m.who m.seq m.delta).tx:=aR Fl.tx B;have e3:l'=(lM dr tx l m.base m.who m.seq m.delta).l:=aR Fl.l B;have D:o8=mM n qb (fu qp k (qp k++[fY m])) (mI w k).u:=by
    rw[C];refine jP (P:=ca) rfl o (g:=λj=>[FM qb (fu qp k (qp k++[fY m])) (mI w k).u j]) f ?_ λj hj=>?_
    ·have a1:FM qb (fu qp k (qp k++[fY m])) (mI w k).u k=.win (1000980+k) (qb k) 4 (ca.add ((qp k).length:Int) 1) (ca.add ((qp k).length:Int) (ca.int (ca.nat (ca.sub (((qp k).length:Int)+1) ((qp k).length:Int))))):=by
      unfold FM mI;simp only[gw,an,cu,aK]
      congr 1
      show(((qp k).length+1:Nat):Int)+((0:Nat):Int)=(qp k).length+((((qp k).length:Int)+1-(qp k).length).toNat:Int);omega
     rw[a1]
    ·simp only[FM,mI,iF _ _ hj]
   have y:fh (l5 (fV br nt (.sl false 1 (ds iE)) (.sl false 3 (l'.map a8))) bw br bc gv n w.pu w.ed (mL n w.c) o8 (fu (wQ qb qp w.u) k (pT (qb k) (qp k++[fY m])))) s':=ha;rw[A,D] at y;refine E s s' (.bool true) _ he (eS _ _ _ (λx hx=>by rw[hx];rfl) hr) y (.bool _) (lg lN q) ⟨fu qp k (qp k++[fY m]),by rw[i],q,?_⟩;rw[i,e1,e2,e3];rfl
def UB(T:cp):Prop:=∀(o1:Ob)(bw br:Nat)(bc gv:Option Nat)(n:Nat)(pu ed:Int)(cs ws:List (List V))(Q:Nat->Ob)(w:WS)(d:SC)(l:List eX)(dr:im)(tx:List BS)(qb:Nat->Option Nat)(qp:Nat->List (List V))(kv:Int)(h:Hp)(K:V->Hp->Prop),Vh h o1 bw br bc gv n pu ed cs ws Q w d l dr tx qb qp->
 (∀b nt iE l' w' e a kp o8 i f g,⟨b,nt,iE,l',w'⟩=kY n dr tx l w kv->e=yH br nt iE l'->kI a->f=w'.pu->g=w'.ed->kp=mL n w'.c->o8=mM n qb a w'.u->i=wQ qb a w'.u->K (.bool b) (h.e9 (l5 e bw br bc gv n f g kp o8 i)))->T 15 [.ptr 961 (some bw) 5 0 0,qI kv] h K
theorem Wj:UB (fa Tryz.prog):=by
 rintro o1 bw br bc gv n pu ed cs ws Q w d l dr tx qb qp kv h K ⟨H,hn,rfl,rfl,rfl,rfl,rfl,rfl,hq,hw⟩ hK;refine sL PD (OJ H hn bw br bc gv qb qp hq kv) (jE _) rfl qU qD (λp hp=>⟨hw.all p hp,lg lN hq p hp⟩) ?_ ?_
 ·rintro v c ⟨a,rfl,_,rfl⟩;rfl
 ·rintro v c ⟨a,rfl,b,rfl⟩;exact hK _ _ _ _ _ _ a _ _ _ _ _ rfl rfl b rfl rfl rfl rfl rfl
def A7:AC:=qr [qo 4 (.mov (.c (.bool false)))] (qq (qq (.region true [qm 7 1,qc 8 .lss 7 0,qm 9 8,qg 10 9 false (.mov (.t 1)),qg 11 9 false (.mov (.t 0)),qg 12 9 false (.nilchk (.t 11)),qg 13 9 false (.faddr 1 (.t 12)),qg 14 9 false (.load1 (.t 13)),qg 15 9 false (.len false (.t 14)),qg 16 9 false (.bin .geq (.t 10) (.t 15)),qo 17 (.pick (.t 9) (.c (.bool true)) (.t 16)),qm 18 17,qg 19 18 false (.mov (.t 0)),qg 20 18 false (.nilchk (.t 19)),qg 21 18 false (.faddr 1 (.t 20)),qg 22 18 false (.load1 (.t 21)),qg 23 18 false (.mov (.t 1)),qg 24 18 false (.iaddr 8 (.t 22) (.t 23)),qg 25 18 false (.faddr 1 (.t 24)),qg 26 18 false (.load1 (.t 25)),qg 27 18 false (.mov (.t 0)),qg 28 18 false (.nilchk (.t 27)),qg 29 18 false (.faddr 0 (.t 28)),qg 30 18 false (.load1 (.t 29)),qg 31 18 false (.nilchk (.t 30)),qg 32 18 false (.faddr 24 (.t 31)),qg 33 18 false (.load1 (.t 32)),qg 34 18 false (.len false (.t 33)),qg 35 18 false (.bin .geq (.t 26) (.t 34)),qo 36 (.pick (.t 18) (.c (.bool true)) (.t 35))]) (qu 36 (qr [qo 4 (.mov (.c (.bool false)))] .ret) .skip)) (qr [qm 37 0,qn 38 37,qf 39 1 38,ql 40 39,qm 41 1,qo 42 (.iaddr 8 (.t 40) (.t 41)),qd 43 8 42,qo 5 (.alloc 64 iY),qs 8 5 43] (qq (.region true [qm 44 0,qn 45 44,qf 46 0 45,ql 47 46,qn 48 47,qf 49 24 48,ql 50 49,qf 51 1 5,ql 52 51,qo 53 (.iaddr 3 (.t 50) (.t 52)),qd 54 3 53,qo 6 (.alloc 91 F4),qs 3 6 54]) (qq (.region true [qm 56 0,qn 57 56,qf 58 1 57,ql 59 58,qm 60 1,qd 61 8 5,qf 62 1 5,ql 63 62,qf 64 0 6,ql 65 64,qf 66 1 6,ql 67 66,qf 68 2 6,ql 69 68,qo 70 (.build OL [(0,1,(.t 63)),(1,1,(.t 65)),(2,1,(.t 67)),(3,1,(.t 69))]),qa 71 64 [.t 61,.t 70],qm 55 71,qx 72 0 55,qx 73 1 55,qo 74 (.iaddr 8 (.t 59) (.t 60)),qs 8 74 72]) (qq (qr [qf 75 0 6,ql 76 75,qm 77 1,qb 78 .eql 76 77,qm 79 78,qg 80 79 true (.mov (.t 0)),qg 81 79 true (.nilchk (.t 80)),qg 82 79 true (.faddr 1 (.t 81)),qg 83 79 true (.load1 (.t 82)),qg 84 79 true (.mov (.t 1)),qg 85 79 true (.iaddr 8 (.t 83) (.t 84)),qg 86 79 true (.faddr 4 (.t 85)),qg 87 79 true (.load1 (.t 86)),qo 88 (.pick (.t 79) (.t 87) (.c (.bool false)))] (qu 88 (qR [qm 89 0,qm 90 1,qa 91 62 [.t 89,.t 90]]) .skip)) (qr [qo 4 (.mov (.c (.bool true)))] .ret))))))
theorem Lo:fo Tryz.prog 17 Tryz.f17 A7 [.t 4] 2 eV:=⟨Tryz.func17,by decide+kernel,by kernel_rfl,by kernel_rfl,by decide+kernel⟩
theorem Lp(P:Prim)(hP:P=ca)(T T1:cp)(hsend:Cn T)(br:Nat)(dr:im)(tr lr:List (List V))(l:List eX)(L:lr=l.map a8)(Q0:l.length<=64)(ho:(fV br dr (.sl false 1 tr) (.sl false 3 lr)).Fz)
  (bw:Nat)(bc gv:Option Nat)(n:Nat)(hn:n<=4)(w:WS)(pu ed:Int)(cs ws:List (List V))(Q:Nat->Ob)(qb:Nat->Option Nat)(qp:Nat->List (List V))(hq:kI qp)(A:cs=mL n w.c)(B:ws=mM n qb qp w.u)(hQ:Q=wQ qb qp w.u)(kv:Int)
  (Wf:∀k,k<n->0<=(w.c k).rev/\(w.c k).rev<=(l.length:Int))
  (hG:∀k,k<n->∀q,l[(w.c k).rev.toNat]? =some q->(q.who=(k:Int)->w.u k=[]))
  (M:∀k,k<n->∀q,q∈l->∀(a b c:Int)(t:BS)(fl:Bool)(sr:List (List V))(wt:Bool)(hr:List (List V))(a' b' c':Int)(t':BS)(N:Bool)(O:List (List V))(U:Bool)(W:List (List V))(qd:List (List V)),qT a b c t fl sr wt hr=ef (w.c k)->qT a' b' c' t' N O U W=ef (k7 w k q)->qd=q.delta.map a6->∃e:Int,fZ T1 64 [.agg (qT a b c t fl sr wt hr),.agg [qI b,qI q.who,qI q.seq,.sl false 3 qd]] (.tup [.agg (qT a' b' c' t' N O U W),qI e]))
  (R:S->Prop)(hF:∀s s',kK n l w kv=none->a7 s s'->hX [.t 4] [.bool false] s'->fh (l5 (fV br dr (.sl false 1 tr) (.sl false 3 lr)) bw br bc gv n pu ed cs ws Q) s'->R s)
  (hR:∀(s s':S)(q:eX)(p:Nat->Option Nat)(m:Nat->List (List V))(kp o8:List (List V))(Q':Nat->Ob),kK n l w kv=some q->kI m->kp=mL n (iM w kv.toNat q).c->o8=mM n p m (iM w kv.toNat q).u->Q'=wQ p m (iM w kv.toNat q).u->a7 s s'->hX [.t 4] [.bool true] s'->fh (l5 (fV br dr (.sl false 1 tr) (.sl false 3 lr)) bw br bc gv n pu ed kp o8 Q') s'->R s):
  fX P T T1 A7 (S0 [.ptr 961 (some bw) 5 0 0,qI kv] (b7 (l5 (fV br dr (.sl false 1 tr) (.sl false 3 lr)) bw br bc gv n pu ed cs ws Q))) R (λ_ _=>False) R:=by
 have jF:P.int n=(n:Int):=by subst hP;rfl
 have X:P.da lr=(l.length:Int):=by rw[gi hP,L,aI]
 cbv;refine ab (λg=>?_) (λg=>?_)
 ·have g1:kv<0:=fA hP g;cbv;exact hF _ _ (by unfold kK;rw[ae (.inl g1)]) (a7.refl _) rfl ⟨rfl,rfl,rfl,rfl,rfl,rfl,rfl,rfl,trivial⟩
 have g1:¬kv<0:=fg hP g;cbv;refine ab (λg=>?_) (λg=>?_)
 ·have g2:P.int n<=kv:=iG hP g;rw[jF] at g2;cbv;exact hF _ _ (by unfold kK;rw[ae (.inr g2)]) (a7.refl _) rfl ⟨rfl,rfl,rfl,rfl,rfl,rfl,rfl,rfl,trivial⟩
 have g2:¬P.int n<=kv:=iA hP g;rw[jF] at g2;obtain⟨k,hk⟩:∃k:Nat,kv=(k:Int):=⟨kv.toNat,qO⟩;have f:k<n:=by((try simp only[nc] at*);omega)
 have C:kv.toNat=k:=by((try simp only[nc] at*);omega)
 have q1:P.fQ 0 kv:=iQ hP qO;have q2:P.iw kv (P.int n):=kZ hP (by rw[jF];((try simp only[nc] at*);omega));have d:P.row cs (P.nat kv) (ef (w.c k)):=by rw[A];exact hO hP hk (λj=>ef (w.c j)) f
 obtain⟨c,hc⟩:∃c,c=w.c k:=⟨_,rfl⟩;have D:=hG k f;have Y:=M k f;have E:=Wf k f;have K:kK n l w kv=l[c.rev.toNat]? :=by
  unfold kK;rw[aa qO,C,hc]
 rw[<-hc] at d D Y E;obtain⟨c1,v,c3,c4,c5,c6,c7,c8⟩:=c;obtain⟨sr,Z⟩:∃sr,sr=c6.map a6:=⟨_,rfl⟩;obtain⟨hr,KQ⟩:∃hr,hr=c8.map a6:=⟨_,rfl⟩;have d:P.row cs (P.nat kv) (qT c1 v c3 c4 c5 sr c7 hr):=by rw[Z,KQ];exact d
 simp only at D E K;cbv
 repeat'(first
  |(refine qA ?_;cbv)
  |(intro LI;cbv)
  |(refine⟨_,d,?_⟩;cbv)
  |fail)
 refine ab (λg=>?_) (λg=>?_)
 ·have g3:P.da lr<=v:=iG hP g;rw[X] at g3;cbv;refine hF _ _ (by rw[K];exact ct qO) (a7.refl _) rfl ⟨rfl,rfl,rfl,rfl,rfl,rfl,rfl,rfl,trivial⟩
 have g3:¬P.da lr<=v:=iA hP g;rw[X] at g3;have hlt:v.toNat<l.length:=by((try simp only[nc] at*);omega)
 obtain⟨q,y⟩:∃q,l[v.toNat]? =some q:=⟨_,af hlt⟩;have G6:=az y;have u3:=D q y;rw[y] at K;obtain⟨x,hx⟩:∃x,x=k7 w k q:=⟨_,rfl⟩;have o:=Y q G6;rw[<-hx] at o;have hW:iM w k q=⟨fu w.c k x,fu w.u k (if q.who=(k:Int)/\x.eT=true then[il x] else w.u k),w.pu,w.ed⟩:=by
  unfold iM;rw[<-hx]
 have F:P.row lr (P.nat v) (a8 q):=by
  subst hP L;show(l.map a8)[v.toNat]? =some (a8 q);rw[av,y];rfl
 have w0:P.fQ 0 v:=iQ hP E.1;obtain⟨x1,x2,x3,x4,i,G,z,H⟩:=x;obtain⟨v1,v2,v3⟩:=q;obtain⟨sx,KR⟩:∃sr,sr=G.map a6:=⟨_,rfl⟩;obtain⟨Py,KS⟩:∃hr,hr=H.map a6:=⟨_,rfl⟩;obtain⟨qd,Uw⟩:∃qd,qd=v3.map a6:=⟨_,rfl⟩;obtain⟨e,o⟩:=o c1 v c3 c4 c5 sr c7 hr x1 x2 x3 x4 i sx z Py qd (by rw[Z,KQ];rfl) (by rw[KR,KS];rfl) Uw;simp only at u3 hW o;simp only[a8,fc] at F;rw[<-Uw] at F;have Ph:∀r,P.row (P.mf cs (P.nat kv) r) (P.nat kv) r:=by
  intro r;rw[A];subst hP hk;show(List.set (mL n w.c) ((k:Int)).toNat r)[((k:Int)).toNat]? =some r;rw[aM,dC (by simp[mL,f])]
 cbv
 repeat'(first
  |(refine qA ?_;cbv)
  |(intro LI;cbv)
  |(refine⟨_,d,?_⟩;cbv)
  |(refine⟨_,F,?_⟩;cbv)
  |(refine o _ _ ?_;cbv)
  |fail)
 have hS:P.mf cs (P.nat kv) (qT x1 x2 x3 x4 i sx z Py)=mL n (fu w.c k ⟨x1,x2,x3,x4,i,G,z,H⟩):=by
  rw[A];refine jP hP hk (g:=λj=>ef (fu w.c k ⟨x1,x2,x3,x4,i,G,z,H⟩ j)) f ?_ λj hj=>?_
  ·simp only[gw];rw[KR,KS];rfl
  ·simp only[iF _ _ hj]
 have Sv:¬(v1=(k:Int)/\i=true)->iM w kv.toNat ⟨v1,v2,v3⟩=⟨fu w.c k ⟨x1,x2,x3,x4,i,G,z,H⟩,w.u,w.pu,w.ed⟩:=by
  intro h;rw[C,hW,aa h,kJ]
 have I:v1=(k:Int)->i=true->iM w kv.toNat ⟨v1,v2,v3⟩=⟨fu w.c k ⟨x1,x2,x3,x4,i,G,z,H⟩,fu w.u k [il ⟨x1,x2,x3,x4,i,G,z,H⟩],w.pu,w.ed⟩:=by
  intro h1 h2;rw[C,hW,ae ⟨h1,h2⟩]
 refine ab (λg=>?_) (λg=>?_)
 ·have g5:v1=kv:=na hP g;rw[hk] at g5;cbv
  repeat'(first
   |(refine qA ?_;cbv)
   |(intro LI;cbv)
   |(refine⟨_,Ph _,?_⟩;cbv)
   |fail)
  refine ab (λg=>?_) (λg=>?_)
  ·have g7:i=true:=g;cbv;refine hsend _ bw br bc gv n _ _ _ _ Q (fu w.c k ⟨x1,x2,x3,x4,i,G,z,H⟩) qb qp w.u k kv _ _ ⟨rfl,rfl,rfl,rfl,rfl,rfl,rfl,rfl⟩ ho hS B hQ hq hk f hn (u3 g5) λp m o8 Q' RZ hs' KT=>?_;rw[gw] at hs' KT;cbv;exact hR _ _ ⟨v1,v2,v3⟩ p m _ _ Q' K RZ (by rw[I g5 g7];exact hS) (by rw[I g5 g7];exact hs') (by rw[I g5 g7];exact KT) (a7.refl _) rfl ⟨rfl,rfl,rfl,rfl,rfl,rfl,rfl,rfl,trivial⟩
  ·have g7:i=false:=g;have J:=Sv (λh=>by rw[g7] at h;cases h.2);cbv;exact hR _ _ ⟨v1,v2,v3⟩ qb qp _ _ Q K hq (by rw[J];exact hS) (by rw[J];exact B) (by rw[J];exact hQ) (a7.refl _) rfl ⟨rfl,rfl,rfl,rfl,rfl,rfl,rfl,rfl,trivial⟩
 ·have g5:¬v1=kv:=nd hP g;have J:=Sv (λh=>g5 (h.1.trans hk.symm));cbv;exact hR _ _ ⟨v1,v2,v3⟩ qb qp _ _ Q K hq (by rw[J];exact hS) (by rw[J];exact B) (by rw[J];exact hQ) (a7.refl _) rfl ⟨rfl,rfl,rfl,rfl,rfl,rfl,rfl,rfl,trivial⟩
theorem FN{n:Nat}{d:SC}{l:List eX}{dr:im}{tx:List BS}{w:WS}(H:jZ n d l dr tx w)(hn:n<=4)(bw br:Nat)(bc gv:Option Nat)(qb:Nat->Option Nat)(qp:Nat->List (List V))(hq:kI qp)(kv:Int):
  Spec Tryz.prog 17 [.ptr 961 (some bw) 5 0 0,qI kv] (b7 (l5 (yH br dr tx l) bw br bc gv n w.pu w.ed (mL n w.c) (mM n qb qp w.u) (wQ qb qp w.u))) λv h'=>∃j,(∃f e,v=.bool (kK n l w kv).isSome/\kI e/\j=l5 (yH br dr tx l) bw br bc gv n w.pu w.ed (mL n (jd n l w kv).c) (mM n f e (jd n l w kv).u) (wQ f e (jd n l w kv).u))/\h'=b7 j:=by
 have y:maxLen=9223372036854775807:=by decide
 have iB:=H.mp.qL.Nq;refine fe gY Lo (L:=l5 (yH br dr tx l) bw br bc gv n w.pu w.ed (mL n w.c) (mM n qb qp w.u) (wQ qb qp w.u)) (λv j=>∃f e,v=.bool (kK n l w kv).isSome/\kI e/\j=l5 (yH br dr tx l) bw br bc gv n w.pu w.ed (mL n (jd n l w kv).c) (mM n f e (jd n l w kv).u) (wQ f e (jd n l w kv).u)) λR r=>?_;refine Lp ca rfl _ _ Lk br dr _ _ l rfl H.ch.2 lN bw bc gv n hn w _ _ _ _ _ qb qp hq rfl rfl rfl kv (λk hk=>(H.fact hk).rev) (λk hk q m hw=>((tu H hk m).2.2.2.2 hw).2.2) (λk hk q o a b c t fl sr wt hr D b' c' E z A B C qd h1 h2 h3=>?_) R ?_ ?_
 ·have hb:=DY h1;rw[h1,h2,h3,hb];have hf:=H.fact hk;have h4:=hf.sn;have h5:=hf.hl;have h6:=iB.dl q o;refine⟨_,qi (args:=[.agg (ef (w.c k)),.agg (fY ⟨(w.c k).rev,q.who,q.seq,q.delta⟩)]) (Kw (w.c k) ⟨(w.c k).rev,q.who,q.seq,q.delta⟩ qW qW (by show q.delta.length<=maxLen;omega)) (λh=>.cons (.same (.agg (ef (w.c k)))) (.cons (.same (.agg (fY ⟨(w.c k).rev,q.who,q.seq,q.delta⟩))) .nil)) rfl⟩
 ·intro s s' g he hr ha;have p:jd n l w kv=w:=by unfold jd;rw[g]
  exact r s s' (.bool false) _ he (eS _ _ _ (λx hx=>by rw[hx];rfl) hr) ha (.bool _) (lg lN hq) ⟨qb,qp,by rw[g];rfl,hq,by rw[p];rfl⟩
 ·rintro s s' q f e kp o8 F g i rfl rfl rfl he hr ha;have p:jd n l w kv=iM w kv.toNat q:=by unfold jd;rw[g]
  exact r s s' (.bool true) _ he (eS _ _ _ (λx hx=>by rw[hx];rfl) hr) ha (.bool _) (lg lN i) ⟨f,e,by rw[g];rfl,i,by rw[p];rfl⟩
def Lq(T:cp):Prop:=∀(o1:Ob)(bw br:Nat)(bc gv:Option Nat)(n:Nat)(pu ed:Int)(cs ws:List (List V))(Q:Nat->Ob)(w:WS)(d:SC)(l:List eX)(dr:im)(tx:List BS)(qb:Nat->Option Nat)(qp:Nat->List (List V))(kv:Int)(h:Hp)(K:V->Hp->Prop),Vh h o1 bw br bc gv n pu ed cs ws Q w d l dr tx qb qp->
 (∀b w' e a kp o8 f,b=(kK n l w kv).isSome->w'=jd n l w kv->kI a->kp=mL n w'.c->o8=mM n e a w'.u->f=wQ e a w'.u->K (.bool b) (h.e9 (l5 o1 bw br bc gv n pu ed kp o8 f)))->T 17 [.ptr 961 (some bw) 5 0 0,qI kv] h K
theorem Sc:Lq (fa Tryz.prog):=by
 rintro o1 bw br bc gv n pu ed cs ws Q w d l dr tx qb qp kv h K ⟨H,hn,rfl,rfl,rfl,rfl,rfl,rfl,hq,hw⟩ hK;refine sL PD (FN H hn bw br bc gv qb qp hq kv) (jE _) rfl qU qD (λp hp=>⟨hw.all p hp,lg lN hq p hp⟩) ?_ ?_
 ·rintro v e ⟨a,b,rfl,_,rfl⟩;rfl
 ·rintro v e ⟨a,b,rfl,c,rfl⟩;exact hK _ _ a b _ _ _ rfl rfl c rfl rfl rfl
def A8:AC:=qr [qo 2 (.mov (.c (.bool false)))] (qq (qr [qm 5 0,qn 6 5,qf 7 1 6,ql 8 7,qo 9 (.len false (.t 8)),qz 10 0] (.block 0 (.loop (qr [qb 11 .lss 10 9] (qq (qu 11 .skip (.exit 0)) (qq (.block 1 (qr [qm 12 10,qo 13 (.iaddr 8 (.t 8) (.t 10)),qd 14 8 13,qo 4 (.alloc 64 iY),qm 3 12,qs 8 4 14] (qq (.region true [qm 15 0,qn 16 15,qf 17 2 16,ql 18 17,qm 19 3,qo 20 (.iaddr 1 (.t 18) (.t 19)),ql 21 20,qo 22 (.len false (.t 21)),qc 23 .gtr 22 0,qm 24 23,qg 25 24 false (.faddr 1 (.t 4)),qg 26 24 false (.load1 (.t 25)),qg 27 24 false (.mov (.t 0)),qg 28 24 false (.nilchk (.t 27)),qg 29 24 false (.faddr 0 (.t 28)),qg 30 24 false (.load1 (.t 29)),qg 31 24 false (.nilchk (.t 30)),qg 32 24 false (.faddr 24 (.t 31)),qg 33 24 false (.load1 (.t 32)),qg 34 24 false (.len false (.t 33)),qg 35 24 false (.bin .lss (.t 26) (.t 34)),qo 36 (.pick (.t 24) (.c (.bool true)) (.t 35))]) (qu 36 (qr [qo 2 (.mov (.c (.bool false)))] .ret) .skip)))) (qR [qc 37 .add 10 1,qm 10 37]))))))) (qr [qo 2 (.mov (.c (.bool true)))] .ret))
theorem Lr:fo Tryz.prog 19 Tryz.f19 A8 [.t 2] 1 eV:=⟨Tryz.func19,by decide+kernel,by kernel_rfl,by kernel_rfl,by decide+kernel⟩
theorem Ls(P:Prim)(hP:P=ca)(T K:cp)(br:Nat)(dr:im)(x lr:List (List V))(l:List eX)(z:lr=l.map a8)(I:l.length<=64)(bw:Nat)(bc gv:Option Nat)(n:Nat)(hn:n<=4)(w:WS)(pu ed:Int)(cs ws:List (List V))(Q:Nat->Ob)(qb:Nat->Option Nat)(qp:Nat->List (List V))(A:cs=mL n w.c)(B:ws=mM n qb qp w.u)
  (R:S->Prop)(C:∀s s' b,b=lE n l w->a7 s s'->hX [.t 2] [.bool b] s'->fh (l5 (fV br dr (.sl false 1 x) (.sl false 3 lr)) bw br bc gv n pu ed cs ws Q) s'->R s):
  fX P T K A8 (S0 [.ptr 961 (some bw) 5 0 0] (b7 (l5 (fV br dr (.sl false 1 x) (.sl false 3 lr)) bw br bc gv n pu ed cs ws Q))) R (λ_ _=>False) R:=by
 have jF:P.int n=(n:Int):=by subst hP;rfl
 have f:P.da lr=(l.length:Int):=by rw[gi hP,z,aI]
 cbv;refine⟨Xf n l w,λy=>[(0,.ptr 961 (some bw) 5 0 0),(8,.own 1000961 bc 8 n),(9,qI (P.int n)),(10,qI y.k)],λ_=>l5 (fV br dr (.sl false 1 x) (.sl false 3 lr)) bw br bc gv n pu ed cs ws Q,λy=>n-y.i,
  ⟨_,a7.refl _,⟨0,0,bd _,rfl,λj hj=>absurd hj (Nat.not_lt_zero _)⟩,⟨rfl,rfl,rfl,rfl,trivial⟩,⟨rfl,rfl,rfl,rfl,rfl,rfl,rfl,rfl,trivial⟩⟩,?_⟩
 rintro⟨i,k,hi,hk,e⟩;cbv;refine ab (λg=>?_) (λg=>?_)
 ·have g1:k<P.int n:=fA hP g;rw[jF] at g1;have hk:k=(i:Int):=hk;have a:i<n:=by((try simp only[nc] at*);omega)
  have q1:P.fQ 0 k:=iQ hP qO;have q2:P.iw k (P.int n):=kZ hP (by rw[jF];exact g1);have U:P.i64 (P.add k 1):=by rw[add_eq hP];exact ft hP qO
  have L:P.add k 1=((i+1:Nat):Int):=by rw[add_eq hP,hk];simp
  have d:P.row cs (P.nat k) (ef (w.c i)):=by rw[A];exact hO hP hk (λj=>ef (w.c j)) a
  obtain⟨lo,m⟩:∃lo,lo=((qp i).length:Int):=⟨_,rfl⟩;obtain⟨up,o⟩:∃up,up=((qp i).length:Int)+((w.u i).length:Int):=⟨_,rfl⟩;have p:P.row ws (P.nat k) [.win (1000980+i) (qb i) 4 lo up]:=by rw[B,m,o];exact hO hP hk (λj=>[FM qb qp w.u j]) a
  obtain⟨c,hc⟩:∃c,c=w.c i:=⟨_,rfl⟩;have D:¬((w.u i).length=0/\¬(w.c i).rev<(l.length:Int))->lE n l w=false:=K2 a;have q:P.sub up lo=((w.u i).length:Int):=by rw[sub_eq hP,o,m];omega
  rw[<-hc] at d D;obtain⟨c1,r,c3,c4,c5,M,N,O⟩:=c;obtain⟨sr,E⟩:∃sr,sr=M.map a6:=⟨_,rfl⟩;obtain⟨hr,F⟩:∃hr,hr=O.map a6:=⟨_,rfl⟩;have d:P.row cs (P.nat k) (qT c1 r c3 c4 c5 sr N hr):=by rw[E,F];exact d
  obtain⟨J,G⟩:∃J,J=1000980+i:=⟨_,rfl⟩;rw[<-G] at p;clear g;cbv
  repeat'(first
   |(refine qA ?_;cbv)
   |(intro v;cbv)
   |(refine⟨_,d,?_⟩;cbv)
   |(refine⟨_,p,?_⟩;cbv)
   |fail)
  refine ab (λg=>?_) (λg=>?_)
  ·have g2:0<P.sub up lo:=fA hP g;rw[q] at g2;cbv;refine C _ _ false (D (λh=>by((try simp only[nc] at*);omega))).symm (a7.refl _) rfl ⟨rfl,rfl,rfl,rfl,rfl,rfl,rfl,rfl,trivial⟩
  have g2:¬0<P.sub up lo:=fg hP g;rw[q] at g2;cbv
  repeat'(first
   |(refine qA ?_;cbv)
   |(intro v;cbv)
   |fail)
  refine ab (λg=>?_) (λg=>?_)
  ·have g3:r<P.da lr:=fA hP g;rw[f] at g3;cbv;refine C _ _ false (D (λh=>h.2 (by show r<_;((try simp only[nc] at*);omega)))).symm (a7.refl _) rfl ⟨rfl,rfl,rfl,rfl,rfl,rfl,rfl,rfl,trivial⟩
  have g3:¬r<P.da lr:=fg hP g;rw[f] at g3;cbv
  repeat'(first
   |(refine qA ?_;cbv)
   |(intro v;cbv)
   |fail)
  refine⟨_,a7.refl _,⟨i+1,_,a,L,λj hj=>?_⟩,⟨rfl,rfl,rfl,rfl,trivial⟩,⟨rfl,rfl,rfl,rfl,rfl,rfl,rfl,rfl,trivial⟩,by show n-(i+1)<n-i;omega⟩
  by_cases H:j=i
  ·subst H;refine⟨by((try simp only[nc] at*);omega),?_⟩;rw[<-hc];show¬r<_;((try simp only[nc] at*);omega)
  ·exact e j qW
 ·have g1:¬k<P.int n:=fg hP g;rw[jF] at g1;have hk:k=(i:Int):=hk;have hi:i<=n:=hi;cbv;exact C _ _ true (K1 λj hj=>e j qO).symm (a7.refl _) rfl ⟨rfl,rfl,rfl,rfl,rfl,rfl,rfl,rfl,trivial⟩
theorem FO{n:Nat}{d:SC}{l:List eX}{dr:im}{tx:List BS}{w:WS}(H:jZ n d l dr tx w)(hn:n<=4)(bw br:Nat)(bc gv:Option Nat)(qb:Nat->Option Nat)(qp:Nat->List (List V))(hq:kI qp):
  Spec Tryz.prog 19 [.ptr 961 (some bw) 5 0 0] (b7 (l5 (yH br dr tx l) bw br bc gv n w.pu w.ed (mL n w.c) (mM n qb qp w.u) (wQ qb qp w.u))) λv h'=>∃a,(v=.bool (lE n l w)/\a=l5 (yH br dr tx l) bw br bc gv n w.pu w.ed (mL n w.c) (mM n qb qp w.u) (wQ qb qp w.u))/\h'=b7 a:=by
 refine fe gY Lr (L:=l5 (yH br dr tx l) bw br bc gv n w.pu w.ed (mL n w.c) (mM n qb qp w.u) (wQ qb qp w.u)) (λv a=>v=.bool (lE n l w)/\a=l5 (yH br dr tx l) bw br bc gv n w.pu w.ed (mL n w.c) (mM n qb qp w.u) (wQ qb qp w.u)) λR e=>?_;refine Ls ca rfl _ _ br dr _ _ l rfl H.ch.2 bw bc gv n hn w _ _ _ _ _ qb qp rfl rfl R ?_;rintro s s' b rfl he hr ha;exact e s s' (.bool (lE n l w)) _ he (eS _ _ _ (λx hx=>by rw[hx];rfl) hr) ha (.bool _) (lg lN hq) ⟨rfl,rfl⟩
def Lt(T:cp):Prop:=∀(o1:Ob)(bw br:Nat)(bc gv:Option Nat)(n:Nat)(pu ed:Int)(cs ws:List (List V))(Q:Nat->Ob)(w:WS)(d:SC)(l:List eX)(dr:im)(tx:List BS)(qb:Nat->Option Nat)(qp:Nat->List (List V))(h:Hp)(K:V->Hp->Prop),Vh h o1 bw br bc gv n pu ed cs ws Q w d l dr tx qb qp->(∀b,b=lE n l w->K (.bool b) h)->T 19 [.ptr 961 (some bw) 5 0 0] h K
theorem Sd:Lt (fj Tryz.prog):=by
 rintro o1 bw br bc gv n pu ed cs ws Q w d l dr tx qb qp h K ⟨H,hn,rfl,rfl,rfl,rfl,rfl,rfl,hq,hw⟩ hK;exact Ck PD (FO H hn bw br bc gv qb qp hq) (jE _) rfl qU (λp hp=>⟨hw.all p hp,lg lN hq p hp⟩) (hK _ rfl)
def Vi(j:Nat):List V:=[.int .i64 (j:Int),.int .i64 0,.int .i64 0,.str [],.bool false,.nilsl,.bool false,.nilsl]
structure YP(n:Nat) where
 i:Nat
 k:Int
 b:Option Nat
 m:Nat
 rows:List (List V)
 hi:i<=n
 hk:k=(i:Int)
 hm:m=i
 hr:rows=(List.range i).map Vi
def Co:AC:=qr [qo 2 (.mov (.c (.pointer none)))] (qq (.kO [(qa 5 6 [],[]),(qm 6 0,[]),(qo 7 (.mkslice 108 1 24 [(.slice none 0 0)] (.t 6) (.t 6)),[1,1]),(qo 8 (.build [(.pointer none),(.slice none 0 0),(.slice none 0 0),q0,q0] [(0,1,(.t 5)),(2,1,(.t 7))]),[0,2]),(qo 9 (.box 62 5 (.t 8)),[3]),(qm 3 9,[4,0,0,1,2,3,4])]) (qq (qr [qm 10 0,qz 11 0] (.block 0 (.loop (qr [qb 12 .lss 11 10] (qq (qu 12 .skip (.exit 0)) (qq (.block 1 (qr [qm 13 11,qm 4 13] (qR [qm 14 3,qm 15 3,qn 16 15,qf 17 1 16,ql 18 17,qm 19 4,qo 20 (.build iY [(0,1,(.t 19))]),qo 21 (.bslice 64 8 [.t 20]),qo 22 (.append 64 8 104 (.t 18) (.t 21)),qn 23 14,qf 24 1 23,qs 1 24 22]))) (qR [qc 25 .add 11 1,qm 11 25]))))))) (qr [qm 26 3,qm 2 26] .ret)))
theorem Se:fo Tryz.prog 10 Tryz.f10 Co [.t 2] 1 (A1 [6]):=⟨Tryz.func10,by decide+kernel,by kernel_rfl,by kernel_rfl,by decide+kernel⟩
def Lu:List (Nat×yD):=[(5,FF [1] (.alt 0 (FF [2,3,4,5] .nil) (.alt 2 (FF [0,3,4,5] .nil) .nil)))]
theorem OK:oz Lu Co=true:=by decide+kernel
theorem Sf(P:Prim)(hP:P=ca)(T A:cp)(B:jt T)(q:jt A)(f:Pd T)(a:Int)(n:Nat)(p:a=(n:Int))(hn:1<=n/\n<=4)
  (R:S->Prop)(C:∀(s s':S)(br bw:Nat)(bc gv:Option Nat)(d:im)(h lr:List (List V)),d=vR->h=ds [[]]->lr=([]:List eX).map a8->a7 s s'->hX [.t 2] [.ptr 961 (some bw) 5 0 0] s'->fh (l5 (fV br d (.sl false 1 h) (.sl false 3 lr)) bw br bc gv n 0 0 (mL n sG) (mM n (λ_=>none) (λ_=>[]) (λ_=>[])) (wQ (λ_=>none) (λ_=>[]) (λ_=>[]))) s'->R s):
  fX P T A Co (S0 [qI a] Hp.emp) R (λ_ _=>False) R:=by
 have r1:P.fQ 0 a:=iQ hP qO;have r2:P.bytes a 24:=by subst hP;show a*24<=_;((try simp only[nc] at*);omega)
 have r3:P.fQ a 140737488355328:=by subst hP;show a<=_;((try simp only[nc] at*);omega)
 have u:P.nat a=n:=by subst hP p;exact aM n
 have ko:P.wu a [.nilsl]=(List.range n).map λ_=>[.nilsl]:=by
  subst hP p;show List.replicate ((n:Int)).toNat _=_;rw[aM,List.map_const',List.length_range]
 refine sM hP B q Lu OK ?_;cbv;refine y3.mk ?_ (y3.mk ?_ trivial)
 all_goals
  cbv
  repeat'(first
  |(refine qA ?_;cbv)
  |(refine f 930 _ _ rfl λbr h lr d hd l o=>?_;cbv)
  |fail)
  intro c
  try cbv
  repeat'(first
  |(refine qA ?_;cbv)
  |(refine f 930 _ _ rfl λbr h lr d hd l o=>?_;cbv)
  |fail)
  intro e
  try cbv
  repeat'(first
  |(refine qA ?_;cbv)
  |(refine f 930 _ _ rfl λbr h lr d hd l o=>?_;cbv)
  |fail)
  refine⟨YP n,λy=>[(3,.ptr 9 (some e) 5 0 0),(10,qI a),(11,qI y.k)],λy=>[(930,fV br d (.sl false 1 h) (.sl false 3 lr)),(9,⟨some e,62,5,[[.ptr 930 (some br) 31 0 0,.own 1000022 y.b 8 y.m,.own 1000007 (some c) 1 (P.nat a),qI 0,qI 0]]⟩),(1000022,FJ y.b y.rows),(1000007,FK (some c) (P.wu a [.nilsl]))],λy=>n-y.i,
   ⟨_,(a7.Uz (k:=9) (b:=some e) (ty:=62) (sz:=5) (rows:=[[.ptr 930 (some br) 31 0 0,.nilsl,.own 1000007 (some c) 1 (P.nat a),qI 0,qI 0]]) (rows':=[[.ptr 930 (some br) 31 0 0,.own 1000022 none 8 0,.own 1000007 (some c) 1 (P.nat a),qI 0,qI 0]]) rfl rfl (λi r r' h1 h2=>?_)).trans (a7.mG _ 1000022 64 8),⟨0,0,none,0,[],bd _,rfl,rfl,rfl⟩,⟨rfl,rfl,rfl,trivial⟩,⟨rfl,rfl,rfl,rfl,trivial⟩⟩,?_⟩
  ·cases i with
   |zero=>
    simp only[bq,aH] at h1 h2;subst h1 h2;exact .cons (.refl _) (.cons (.D0 _ _) (.cons (.refl _) (.cons (.refl _) (.cons (.refl _) .nil))))
   |succ i=>simp at h1
  rintro⟨i,k,b,m,rows,hi,hk,hm,hr⟩;cbv;refine ab (λg=>?_) (λg=>?_)
  ·have g3:k<a:=fA hP g;have hk:k=(i:Int):=hk;have hm:m=i:=hm;have hr:rows=(List.range i).map Vi:=hr;have H:P.i64 (P.add k 1):=by rw[add_eq hP];exact ft hP qO
   have D:P.add k 1=((i+1:Nat):Int):=by rw[add_eq hP,hk];simp
   have hne:P.oc rows m:=by subst hP;show rows.length=m;rw[hr,hm];simp
   have E:P.oc [[qI k,qI 0,qI 0,.str [],.bool false,.nilsl,.bool false,.nilsl]] 1:=by subst hP;rfl
   have F:P.bytes (P.add (P.int m) (P.da [[qI k,qI 0,qI 0,.str [],.bool false,.nilsl,.bool false,.nilsl]])) 104:=by subst hP;show((m:Int)+1)*104<=_;((try simp only[nc] at*);omega)
   have q7:P.jf m (P.gp [[qI k,qI 0,qI 0,.str [],.bool false,.nilsl,.bool false,.nilsl]])=i+1:=by subst hP;show m+1=i+1;rw[hm]
   have v:P.je rows [[qI k,qI 0,qI 0,.str [],.bool false,.nilsl,.bool false,.nilsl]]=(List.range (i+1)).map Vi:=by
    subst hP;show rows++[_]=_;rw[hr,List.range_succ,bW,hk];rfl
   cbv
   repeat'(first
    |(refine qA ?_;cbv)
    |(intro G;cbv)
    |fail)
   exact⟨_,a7.refl _,⟨i+1,_,_,_,_,qO,D,q7,v⟩,⟨rfl,rfl,rfl,trivial⟩,⟨rfl,rfl,rfl,rfl,trivial⟩,by show n-(i+1)<n-i;((try simp only[nc] at*);omega)⟩
  ·have g3:¬k<a:=fg hP g;have hk:k=(i:Int):=hk;have hi:i<=n:=hi;have hm:m=i:=hm;have hr:rows=(List.range i).map Vi:=hr;have jF:i=n:=by((try simp only[nc] at*);omega)
   subst jF;cbv;have hw:∀(j:Nat)(r r':List V),rows[j]? =some r->(mL i sG)[j]? =some r'->F2 r r':=by
    intro j r r' h1 h2;rw[hr] at h1;unfold mL at h2;rw[av] at h1 h2;cases hj:(List.range i)[j]? with
    |none=>rw[hj] at h1;cases h1
    |some z=>
     rw[hj] at h1 h2;cases h1;cases h2;exact .cons (.refl _) (.cons (.refl _) (.cons (.refl _) (.cons (.refl _) (.cons (.refl _) (.cons (.yG _) (.cons (.refl _) (.cons (.yG _) .nil)))))))
   have hl:(mL i sG).length=rows.length:=by rw[hr];unfold mL;simp
   have hw2:∀(j:Nat)(r r':List V),(P.wu a [.nilsl])[j]? =some r->(mM i (λ_=>none) (λ_=>[]) (λ_=>[]))[j]? =some r'->F2 r r':=by
    intro j r r' h1 h2;rw[ko] at h1;unfold mM at h2;rw[av] at h1 h2;cases hj:(List.range i)[j]? with
    |none=>rw[hj] at h1;cases h1
    |some z=>
     rw[hj] at h1 h2;cases h1;cases h2;exact .cons (.D1 _ _) .nil
   have w:(mM i (λ_=>none) (λ_=>[]) (λ_=>[])).length=(P.wu a [.nilsl]).length:=by rw[ko];unfold mM;simp
   refine C _ _ br e b (some c) d h lr hd l o ((a7.Uz (k:=1000022) (b:=b) (ty:=64) (sz:=8) (rows:=rows) rfl hl hw).trans ((a7.Uz (k:=1000007) (ty:=108) (sz:=1) (rows:=P.wu a [.nilsl]) rfl w hw2).trans ((((a7.mG _ 1000980 95 4).trans (a7.mG _ 1000981 95 4)).trans (a7.mG _ 1000982 95 4)).trans ((a7.mG _ 1000983 95 4).trans (a7.Uk [(930,930,fV br d (.sl false 1 h) (.sl false 3 lr)),(961,9,Lg e br b (some c) i 0 0),(1000961,1000022,FJ b (mL i sG)),(1000962,1000007,FK (some c) (mM i (λ_=>none) (λ_=>[]) (λ_=>[]))),(1000980,1000980,pT none []),(1000981,1000981,pT none []),(1000982,1000982,pT none []),(1000983,1000983,pT none [])] (λz=>if z=2 then .ptr 961 (some e) 5 0 0 else .gS) (λz=>?_) (by show([930,9,1000022,1000007,1000980,1000981,1000982,1000983]:List Nat).Nodup;decide) ⟨⟨_,rfl,rfl,rfl⟩,⟨_,rfl,rfl,by rw[hm];exact aR (λx=>Ob.gA z0 ⟨some e,62,5,[[.ptr 930 (some br) 31 0 0,.own 1000022 b 8 i,.own 1000007 (some c) 1 x,qI 0,qI 0]]⟩) u.symm⟩,⟨_,rfl,rfl,rfl⟩,⟨_,rfl,rfl,rfl⟩,⟨_,rfl,rfl,rfl⟩,⟨_,rfl,rfl,rfl⟩,⟨_,rfl,rfl,rfl⟩,⟨_,rfl,rfl,rfl⟩,trivial⟩))))) rfl ⟨rfl,rfl,rfl,rfl,rfl,rfl,rfl,rfl,trivial⟩
   by_cases h2:z=2
   ·subst h2;exact .inl rfl
   ·right;simp only[aa h2]
def Lv(n:Nat)(v:V)(a:List (Nat×Ob)):Prop:=∃(br bw:Nat)(bc gv:Option Nat),v=.ptr 961 (some bw) 5 0 0/\a=l5 (yH br vR [[]] []) bw br bc gv n 0 0 (mL n sG) (mM n (λ_=>none) (λ_=>[]) (λ_=>[])) (wQ (λ_=>none) (λ_=>[]) (λ_=>[]))
theorem Sg(n:Nat)(hn:1<=n/\n<=4):Spec Tryz.prog 10 [qI (n:Int)] (b7 []) λv h'=>∃a,Lv n v a/\h'=b7 a:=by
 refine fe (Ur [6]) Se (L:=[]) (Lv n) λR b=>?_;refine Sf ca rfl _ _ n7 mZ Tp (n:Int) n rfl hn R ?_;rintro s s' br bw bc gv d c lr rfl rfl rfl he hr ha;exact b s s' (.ptr 961 (some bw) 5 0 0) _ he (eS _ _ _ (λx hx=>by rw[hx];rfl) hr) ha (.ptr _ _ _ _ _) (lg (lN (l:=[])) uN) ⟨br,bw,bc,gv,rfl,rfl⟩
def Lw(T:cp):Prop:=∀(a:Int)(n:Nat)(h:Hp)(K:V->Hp->Prop),a=(n:Int)->(1<=n/\n<=4)->(∀(br bw:Nat)(bc gv:Option Nat)(o1:Ob)(pu ed:Int)(cs ws:List (List V))(Q:Nat->Ob),o1=yH br vR [[]] []->pu=0->ed=0->cs=mL n sG->ws=mM n (λ_=>none) (λ_=>[]) (λ_=>[])->Q=wQ (λ_=>none) (λ_=>[]) (λ_=>[])->K (.ptr 961 (some bw) 5 0 0) (h.e9 (l5 o1 bw br bc gv n pu ed cs ws Q)))->T 10 [qI a] h K
theorem Sh:Lw (fa Tryz.prog):=by
 rintro b n h K rfl hn hK;refine vJ (wK PD) (L:=[]) (Sg n hn) (jE _) (by rw[m0];exact qU) (by rw[uL];exact qU) qD (λp hp=>by cases hp) (λp hp=>by cases hp) ?_ ?_
 ·rintro v a ⟨br,bw,bc,gv,rfl,rfl⟩;rw[m0];rfl
 ·rintro v a ⟨br,bw,bc,gv,rfl,rfl⟩;rw[n9,V.mK];have:(Ob.gA λk=>k)=λo=>o:=funext Ob.mK;rw[this,uK (ks:=PD) rfl];exact hK br bw bc gv _ _ _ _ _ _ rfl rfl rfl rfl rfl rfl
def UC:AC->AC
 |.seq x _=>x
 |x=>x
def Si:AC->AC
 |.seq _ y=>y
 |x=>x
def UD:AC->AC
 |.block _ x=>x
 |x=>x
structure WG where
 w:WS
 d:SC
 l:List eX
 dr:im
 tx:List BS
 o1:Ob
 o2:Ob
 o3:Ob
 pu:Int
 ed:Int
 gW:List (List V)
 Q:Nat->Ob
 ba:Option Nat
 bm:Nat
 qb:Nat->Option Nat
 qp:Nat->List (List V)
 p1:Ob
 ru:Int
 rd:Int
 cs:List (List V)
 ws:List (List V)
 Q2:Nat->Ob
 Cp:Nat->Option Nat
 Cq:Nat->List (List V)
structure ue(n bl br:Nat)(g:WG):Prop where
 H:jZ n g.d g.l g.dr g.tx g.w
 hn:n<=4
 e1:g.o1=sN bl g.d g.ba g.l g.bm
 e2:g.o2=sO g.ba g.l
 e3:g.o3=iL g.bm none
 e4:g.pu=g.w.pu
 e5:g.ed=g.w.ed
 e6:g.gW=jQ n g.w.c g.qb g.qp g.w.u
 e7:g.Q=wQ g.qb g.qp g.w.u
 hq:kI g.qp
 f1:g.p1=yH br g.dr g.tx g.l
 f4:g.ru=g.w.pu
 f5:g.rd=g.w.ed
 f6:g.cs=mL n g.w.c
 f8:g.ws=mM n g.Cp g.Cq g.w.u
 f7:g.Q2=wQ g.Cp g.Cq g.w.u
 fq:kI g.Cq
theorem ue.YQ{n bl br:Nat}{g:WG}(h:ue n bl br g):KI g.o1 g.o2 g.o3:=by
 rw[h.e1,h.e2,h.e3];exact lD _ _ _ _ _
theorem ue.o8{n bl br:Nat}{g:WG}(h:ue n bl br g){hp:Hp}{bw:Nat}{bs:Option Nat}(hw:HW hp g.o1 g.o2 g.o3 bw bl bs n g.pu g.ed g.gW g.Q):Ux hp g.o1 g.o2 g.o3 bw bl bs n g.pu g.ed g.gW g.Q g.w g.d g.l g.dr g.tx g.ba g.bm g.qb g.qp:=
 ⟨h.H,h.hn,h.e1,h.e2,h.e3,h.e4,h.e5,h.e6,h.e7,h.hq,hw⟩
def Xh(bw bl:Nat)(bs:Option Nat)(rw br:Nat)(bc gv:Option Nat)(n:Nat)(g:WG):List (Nat×Ob):=
 [(900,g.o1),(1000900,g.o2),(901,g.o3),(960,FG bw bl bs n g.pu g.ed),(1000960,Cl bs g.gW),(1000970,g.Q 0),(1000971,g.Q 1),(1000972,g.Q 2),(1000973,g.Q 3),(930,g.p1),(961,Lg rw br bc gv n g.ru g.rd),(1000961,FJ bc g.cs),(1000962,FK gv g.ws),(1000980,g.Q2 0),(1000981,g.Q2 1),(1000982,g.Q2 2),(1000983,g.Q2 3)]
def PE(bw bl:Nat)(bs:Option Nat)(rw br:Nat)(bc gv:Option Nat)(n:Nat)(g:WG):List (Nat×Option Ob):=
 [(900,some g.o1),(1000900,some g.o2),(901,some g.o3),(960,some (FG bw bl bs n g.pu g.ed)),(1000960,some (Cl bs g.gW)),(1000970,some (g.Q 0)),(1000971,some (g.Q 1)),(1000972,some (g.Q 2)),(1000973,some (g.Q 3)),(930,some g.p1),(961,some (Lg rw br bc gv n g.ru g.rd)),(1000961,some (FJ bc g.cs)),(1000962,some (FK gv g.ws)),(1000980,some (g.Q2 0)),(1000981,some (g.Q2 1)),(1000982,some (g.Q2 2)),(1000983,some (g.Q2 3))]
def PF(c:Int)(a:List (List V))(bw rw:Nat)(b:List (List V))(d e:Int)(more:List (Nat×V)):List (Nat×V):=[(0,.int .i64 c),(2,.sl false 1 a),(7,.ptr 960 (some bw) 4 0 0),(9,.ptr 961 (some rw) 5 0 0),(45,.sl false 1 b),(46,.int .i64 d),(47,.int .i64 e)]++more
def Lx:AC:=qr [qo 6 (.mov (.c (.bool false)))] (qr [qm 21 0,qa 22 9 [.t 21],qm 20 22,qx 23 0 20,qx 24 1 20,qm 7 23,qm 8 24] (qq (qr [qm 25 0,qc 26 .lss 25 1,qm 27 26,qg 28 27 false (.mov (.t 0)),qg 29 27 false (.bin .gtr (.t 28) (qk 4)),qo 30 (.pick (.t 27) (.c (.bool true)) (.t 29))] (qu 30 (qr [qm 31 8,qc 32 .eql 31 1,qm 33 32,qg 34 33 true (.mov (.t 7)),qg 35 33 true (.eqp false (.t 34) (.c (.pointer none))),qo 36 (.pick (.t 33) (.t 35) (.c (.bool false))),qm 6 36] .ret) .skip)) (qq (qr [qm 37 8,qc 38 .neq 37 0,qm 39 38,qg 40 39 false (.mov (.t 7)),qg 41 39 false (.eqp false (.t 40) (.c (.pointer none))),qo 42 (.pick (.t 39) (.c (.bool true)) (.t 41))] (qu 42 (qr [qo 6 (.mov (.c (.bool false)))] .ret) .skip)) (qr [qm 43 0,qa 44 10 [.t 43],qm 9 44] (qq (qr [qm 45 1,qo 46 (.len false (.t 45)),qz 47 0] (.block 0 (.loop (qr [qb 48 .lss 47 46] (qq (qu 48 .skip (.exit 0)) (qq (.block 1 (qr [qm 49 47,qo 50 (.iaddr 1 (.t 45) (.t 47)),ql 51 50,qm 10 49,qm 11 51] (qr [qm 52 11,qa 53 11 [.t 52,qk 1],qm 12 53] (qr [qo 13 (.mov (.c (.slice none 0 0)))] (qq (qr [qm 54 10,qm 55 2,qo 56 (.len false (.t 55)),qb 57 .lss 54 56] (qu 57 (qR [qm 58 2,qm 59 10,qo 60 (.iaddr 1 (.t 58) (.t 59)),ql 61 60,qm 13 61]) .skip)) (qr [qo 14 (.mov (.c (.bool true)))] (qq (qr [qm 62 11,qa 63 11 [.t 62,qk 0]] (.block 2 (qr [qc 65 .eql 63 1,qm 64 65] (qu 64 (qR [qm 66 7,qm 67 12,qm 68 13,qa 69 12 [.t 66,.t 67,.t 68],qm 70 9,qm 71 12,qm 72 13,qa 73 13 [.t 70,.t 71,.t 72],qb 74 .eql 69 73,qm 14 74]) (qr [qc 76 .eql 63 2,qm 75 76] (qu 75 (qR [qm 77 7,qm 78 12,qa 79 14 [.t 77,.t 78],qm 80 9,qm 81 12,qa 82 15 [.t 80,.t 81],qo 83 (.eqb false (.t 79) (.t 82)),qm 14 83]) (qr [qc 85 .eql 63 3,qm 84 85] (qu 84 (qR [qm 86 7,qm 87 12,qa 88 16 [.t 86,.t 87],qm 89 9,qm 90 12,qa 91 17 [.t 89,.t 90],qo 92 (.eqb false (.t 88) (.t 91)),qm 14 92]) .skip)))))))) (qq (qq (.region true [qm 93 14,qo 94 (.not (.t 93)),qm 95 94,qg 96 95 false (.mov (.t 7)),qg 97 95 false (.call 18 [.t 96]),qg 98 95 false (.mov (.t 9)),qg 99 95 false (.call 19 [.t 98]),qg 100 95 false (.eqb true (.t 97) (.t 99)),qo 101 (.pick (.t 95) (.c (.bool true)) (.t 100)),qm 102 101,qg 103 102 false (.mov (.t 7)),qg 104 102 false (.call 21 [.t 103]),qg 105 102 false (.mov (.t 9)),qg 106 102 false (.nilchk (.t 105)),qg 107 102 false (.faddr 0 (.t 106)),qg 108 102 false (.load1 (.t 107)),qg 109 102 false (.nilchk (.t 108)),qg 110 102 false (.faddr 24 (.t 109)),qg 111 102 false (.load1 (.t 110)),qg 112 102 false (.call 20 [.t 104,.t 111]),qg 113 102 false (.not (.t 112)),qo 114 (.pick (.t 102) (.c (.bool true)) (.t 113))]) (qu 114 (qr [qo 6 (.mov (.c (.bool false)))] .ret) .skip)) (qr [qz 15 (-1)] (.block 3 (.loop (qq (qr [qm 115 15,qm 116 0,qb 117 .leq 115 116] (qu 117 .skip (.exit 3))) (qq (.block 4 (qr [qm 121 7,qm 122 15,qa 123 22 [.t 121,.t 122],qm 120 123,qx 124 0 120,qx 125 1 120,qo 16 (.alloc 64 iY),qs 8 16 124,qm 17 125] (qr [qm 127 7,qm 128 15,qa 129 23 [.t 127,.t 128],qm 126 129,qx 130 0 126,qx 131 1 126,qm 18 130,qm 19 131] (qq (qr [qm 132 15,qc 133 .lss 132 0,qm 134 133,qg 135 134 false (.mov (.t 15)),qg 136 134 false (.mov (.t 0)),qg 137 134 false (.bin .eql (.t 135) (.t 136)),qo 138 (.pick (.t 134) (.c (.bool true)) (.t 137))] (qu 138 (qR [qm 139 17,qc 140 .eql 139 1,qm 141 140,qg 142 141 true (.mov (.t 19)),qg 143 141 true (.bin .eql (.t 142) (qk 1)),qo 144 (.pick (.t 141) (.t 143) (.c (.bool false))),qm 145 144,qg 146 145 true (.mov (.t 18)),qg 147 145 true (.bin .eql (.t 146) (.c qe)),qo 148 (.pick (.t 145) (.t 147) (.c (.bool false))),qm 149 148,qg 150 149 true (.loadn 8 (.t 16)),qg 151 149 true (.build iY []),qg 152 149 true (.call 24 [.t 150,.t 151]),qo 153 (.pick (.t 149) (.t 152) (.c (.bool false))),qm 14 153]) (.region true [qm 154 17,qc 155 .eql 154 0,qm 156 155,qg 157 156 true (.mov (.t 19)),qg 158 156 true (.bin .eql (.t 157) (qk 0)),qo 159 (.pick (.t 156) (.t 158) (.c (.bool false))),qm 160 159,qg 161 160 true (.mov (.t 18)),qg 162 160 true (.mov (.t 9)),qg 163 160 true (.nilchk (.t 162)),qg 164 160 true (.faddr 1 (.t 163)),qg 165 160 true (.load1 (.t 164)),qg 166 160 true (.mov (.t 15)),qg 167 160 true (.iaddr 8 (.t 165) (.t 166)),qg 168 160 true (.faddr 3 (.t 167)),qg 169 160 true (.load1 (.t 168)),qg 170 160 true (.bin .eql (.t 161) (.t 169)),qo 171 (.pick (.t 160) (.t 170) (.c (.bool false))),qm 172 171,qg 173 172 true (.loadn 8 (.t 16)),qg 174 172 true (.mov (.t 9)),qg 175 172 true (.nilchk (.t 174)),qg 176 172 true (.faddr 1 (.t 175)),qg 177 172 true (.load1 (.t 176)),qg 178 172 true (.mov (.t 15)),qg 179 172 true (.iaddr 8 (.t 177) (.t 178)),qg 180 172 true (.loadn 8 (.t 179)),qg 181 172 true (.call 24 [.t 173,.t 180]),qo 182 (.pick (.t 172) (.t 181) (.c (.bool false))),qm 14 182]))) (qr [qm 183 14,qo 184 (.not (.t 183))] (qu 184 (qr [qo 6 (.mov (.c (.bool false)))] .ret) .skip)))))) (qR [qm 118 15,qc 119 .add 118 1,qm 15 119])))))))))))))) (qR [qc 185 .add 47 1,qm 47 185]))))))) (qr [qo 6 (.mov (.c (.bool true)))] .ret))))))
theorem UE:fo Tryz.prog 4 Tryz.f4 Lx [.t 6] 3 eV:=⟨Tryz.func4,by decide+kernel,by kernel_rfl,by kernel_rfl,by decide+kernel⟩
def YR:AC->AC
 |.loop x=>x
 |x=>x
def nL:AC:=kW 4 (UD (UC (Si (Si (YR (UD (Si (UC (kW 5 Lx)))))))))
def PG(x:AC):AC:=.seq (.region false [⟨some 6,none,.mov (.c (.bool false))⟩]) (.seq (.region false [⟨some 21,none,.mov (.t 0)⟩,⟨some 22,none,.call 9 [(.t 21)]⟩,⟨some 20,none,.mov (.t 22)⟩,⟨some 23,none,.ext 0 (.t 20)⟩,⟨some 24,none,.ext 1 (.t 20)⟩,⟨some 7,none,.mov (.t 23)⟩,⟨some 8,none,.mov (.t 24)⟩]) (.seq (.seq (.region false [⟨some 25,none,.mov (.t 0)⟩,⟨some 26,none,.bin .lss (.t 25) (.c (.int .i64 1))⟩,⟨some 27,none,.mov (.t 26)⟩,⟨some 28,some (27,false),.mov (.t 0)⟩,⟨some 29,some (27,false),.bin .gtr (.t 28) (.c (.int .i64 4))⟩,⟨some 30,none,.pick (.t 27) (.c (.bool true)) (.t 29)⟩]) (.cond (.t 30) (.seq (.region false [⟨some 31,none,.mov (.t 8)⟩,⟨some 32,none,.bin .eql (.t 31) (.c (.int .i64 1))⟩,⟨some 33,none,.mov (.t 32)⟩,⟨some 34,some (33,true),.mov (.t 7)⟩,⟨some 35,some (33,true),.eqp false (.t 34) (.c (.pointer none))⟩,⟨some 36,none,.pick (.t 33) (.t 35) (.c (.bool false))⟩,⟨some 6,none,.mov (.t 36)⟩]) (.ret)) (.skip))) (.seq (.seq (.region false [⟨some 37,none,.mov (.t 8)⟩,⟨some 38,none,.bin .neq (.t 37) (.c (.int .i64 0))⟩,⟨some 39,none,.mov (.t 38)⟩,⟨some 40,some (39,false),.mov (.t 7)⟩,⟨some 41,some (39,false),.eqp false (.t 40) (.c (.pointer none))⟩,⟨some 42,none,.pick (.t 39) (.c (.bool true)) (.t 41)⟩]) (.cond (.t 42) (.seq (.region false [⟨some 6,none,.mov (.c (.bool false))⟩]) (.ret)) (.skip))) (.seq (.region false [⟨some 43,none,.mov (.t 0)⟩,⟨some 44,none,.call 10 [(.t 43)]⟩,⟨some 9,none,.mov (.t 44)⟩]) (.seq (.seq (.region false [⟨some 45,none,.mov (.t 1)⟩,⟨some 46,none,.len false (.t 45)⟩,⟨some 47,none,.mov (.c (.int .i64 0))⟩]) (.block 0 (.loop (.seq (.region false [⟨some 48,none,.bin .lss (.t 47) (.t 46)⟩]) (.seq (.cond (.t 48) (.skip) (.exit 0)) (.seq (.block 1 (.seq (.region false [⟨some 49,none,.mov (.t 47)⟩,⟨some 50,none,.iaddr 1 (.t 45) (.t 47)⟩,⟨some 51,none,.load1 (.t 50)⟩,⟨some 10,none,.mov (.t 49)⟩,⟨some 11,none,.mov (.t 51)⟩]) (.seq (.region false [⟨some 52,none,.mov (.t 11)⟩,⟨some 53,none,.call 11 [(.t 52),(.c (.int .i64 1))]⟩,⟨some 12,none,.mov (.t 53)⟩]) (.seq (.region false [⟨some 13,none,.mov (.c (.slice none 0 0))⟩]) (.seq (.seq (.region false [⟨some 54,none,.mov (.t 10)⟩,⟨some 55,none,.mov (.t 2)⟩,⟨some 56,none,.len false (.t 55)⟩,⟨some 57,none,.bin .lss (.t 54) (.t 56)⟩]) (.cond (.t 57) (.region false [⟨some 58,none,.mov (.t 2)⟩,⟨some 59,none,.mov (.t 10)⟩,⟨some 60,none,.iaddr 1 (.t 58) (.t 59)⟩,⟨some 61,none,.load1 (.t 60)⟩,⟨some 13,none,.mov (.t 61)⟩]) (.skip))) x))))) (.region false [⟨some 185,none,.bin .add (.t 47) (.c (.int .i64 1))⟩,⟨some 47,none,.mov (.t 185)⟩]))))))) (.seq (.region false [⟨some 6,none,.mov (.c (.bool true))⟩]) (.ret)))))))
theorem Ly:Lx=PG nL:=rfl
end Go.Proofs.YtobngncjflogcaaGreat.AM
